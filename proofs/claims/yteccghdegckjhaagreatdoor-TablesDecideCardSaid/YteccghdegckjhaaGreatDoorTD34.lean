/-
  DifferOf of the reference: the first address at which two tables differ.
-/
import Derived.Test.YteccghdegckjhaaGreatDoorTD33
import Derived.Test.YteccghdegckjhaaGreatDoorTD32
import Derived.Test.YteccghdegckjhaaGreatDoorTD17
set_option linter.unusedVariables false
namespace Go.Proofs.YteccghdegckjhaaGreatDoor
open Go.RowKit Go
set_option linter.unusedVariables false

/-- a row of two elements out of whole values, their cells whatever -/
theorem wpList_build2 {P : Program} {ops : Array Oper} {rest : List Oper} {o : Oper} {a : Act} {w : World} {Q : Exit → Act → World → Prop} (hg : o.guard = none) (t e : TypeId) (x y : Operand) (ho : o.op = .buildSlice t 2 #[(0, x), (1, y)])
    (X Y : Array Value) (hx : a.eval x = .agg X) (hy : a.eval y = .agg Y) (m : Nat) (hu : P.underlying t = some (.slice e)) (hi : (P.info? e).map (fun i => (i.size, i.zero.map (fun z => z.cells.size))) = some (m, some m)) (hX : X.size = m) (hY : Y.size = m) (hpos : 0 < m) (hsmall : m ≤ 2 ^ 20)
    (h : wpList P ops Q rest (a.put o.dst (.slice (some ⟨w.heap.size, 0, none⟩) 2 2)) (w.alloc (.cells (X ++ Y) e (0, 0)))) : wpList P ops Q (o :: rest) a w := by
  cases hie : P.info? e with
  | none => rw [hie] at hi; cases hi
  | some ie =>
    rw [hie] at hi
    simp only [Option.map_some, Option.some.injEq, Prod.mk.injEq] at hi
    obtain ⟨h1, h2⟩ := hi
    cases hz : ie.zero with
    | none => rw [hz] at h2; cases h2
    | some z =>
      rw [hz] at h2
      simp only [Option.map_some, Option.some.injEq] at h2
      have hf := Go.Great.fill_whole (s := m) hpos [Value.agg X, Value.agg Y] ((Array.range (2 * m)).map (z.cells[· % z.cells.size]!)) (fun v hv => by
        simp only [List.mem_cons, List.not_mem_nil, or_false] at hv
        rcases hv with rfl | rfl
        · exact hX
        · exact hY) (by simp)
      have e2 : (([Value.agg X, Value.agg Y] : List Value).flatMap fun v => v.cells.toList).toArray = X ++ Y := by simp [Value.cells]
      rw [e2] at hf
      refine wpList_buildSlice hg t e 2 #[(0, x), (1, y)] ho (X ++ Y) ie z hu hie hz (by rw [h1]; omega) (by rw [h1]; omega) ?_ h
      rw [h1]
      simpa [hx, hy] using hf
/-- a comparison of whole values in a quiet region -/
theorem wpQuiet_bin {P : Program} {ops : Array Oper} {C : World → Prop} {Q : Act → Prop} {o : Oper} {rest : List Oper} {a : Act} (hw : Region.wanted o (yielded ops a.tmps) = true) (op : BinOp) (ty : TypeId) (x y : Operand) (ty2 : TypeId) (ho : o.op = .binOp op ty x y ty2) (dst : Option Tmp) (hdst : o.dst = dst)
    (vx vy v : Value) (hx : a.eval x = vx) (hy : a.eval y = vy) (hg : ∀ w, (eqGuard op ty x y vx vy).run P w = .ok () w) (hr : ∀ w, (binOp op ty vx vy).run P w = .ok v w)
    (h : wpQuiet P ops C Q rest (a.put dst v)) : wpQuiet P ops C Q (o :: rest) a := by
  subst hdst
  refine BigFrame.wpQuiet_want hw fun K hK => ⟨v, fun w hwC => ?_, hK _ h⟩
  unfold Oper.quietAt execOp
  simp only [ho, hx, hy, Sem.run_bind, hg w, hr w, Result.andThen_ok, Sem.run_pure]
  exact ⟨rfl, rfl⟩
theorem zero_wide : (Tryz.prog.info? 71).map (fun i => (i.size, i.zero.map (fun z => z.cells.size))) = some (9, some 9) := by kernel_rfl
theorem wide_guardT (op : BinOp) (x y : Operand) (xs ys : Array Value) (w : World) : (eqGuard op 71 x y (.agg xs) (.agg ys)).run Tryz.prog w = .ok () w := run_eqGuard_agg w _ _ _ _ _ _ (by kernel_rfl)
theorem wN_oneA (x : Nat) : (wN x).all (·.oneCell') = true := all_oneCell_toArray (layWd.one x)
theorem own_twoW (w : World) (B : Nat) (hB : B ≤ w.heap.size) : OwnK layWd (w.alloc (.cells (wN 0 ++ wN (2 ^ 128)) 71 (0, 0))) B (.slice (some ⟨w.heap.size, 0, none⟩) 2 2) [0, 2 ^ 128] := by
  refine ⟨layWd.all_len _, .inr ⟨w.heap.size, 2, wN 0 ++ wN (2 ^ 128), rfl, hB, heap_alloc_new w _, Nat.le_refl _, by unfold maxLen; omega, rfl, ?_⟩⟩
  show List.take (2 * 9) (wN 0 ++ wN (2 ^ 128)).toList = (wN 0).toList ++ ((wN (2 ^ 128)).toList ++ [])
  rw [List.append_nil, Array.toList_append]
  exact List.take_of_length_le (by simp [wN_size])
theorem aN_zero : aN 0 = #[.bool false, .int .u64 0, .int .u64 0] := congrArg List.toArray adC_zero
theorem aN_six : aN (2 ^ 128) = #[.bool true, .int .u64 0, .int .u64 0] := congrArg List.toArray adC_six
theorem vn_zero : VN 0 := .inl (by decide)
theorem vn_six : VN (2 ^ 128) := .inr ⟨Nat.le_refl _, by decide⟩
/-- the last address of the length of a prefix -/
theorem lastTop {p : Pf} (h : OkPf p) (w : World) : Calls Tryz.prog 67 #[.agg #[.bool p.1, .int .u64 0, .int .u64 0, .int .i64 0]] w (Ret (.agg (wN (topN (nuP p)))) w) := by
  obtain ⟨hv, hs, -, -⟩ := h.num
  have key : ∀ x : Nat, VN x → sixN x = p.1 → aN x = #[.bool p.1, .int .u64 0, .int .u64 0] → Calls Tryz.prog 67 #[.agg #[.bool p.1, .int .u64 0, .int .u64 0, .int .i64 0]] w (Ret (.agg (wN (topN (nuP p)))) w) := by
    intro x hx hsx ha
    have h1 := lastOfN (x := x) (n := 0) w hx (Nat.zero_le _)
    have e1 : pN x ((0 : Nat) : Int) = #[.bool p.1, .int .u64 0, .int .u64 0, .int .i64 0] := by
      have e2 : (pN x ((0 : Nat) : Int)).toList = (aN x).toList ++ [.int .i64 0] := rfl
      rw [ha] at e2
      exact Array.toList_inj.1 e2
    rw [e1] at h1
    have e4 : topN x = fil x (LN x) := by unfold topN; rfl
    have e3 : fil x (LN x - 0) = topN (nuP p) := by
      rw [Nat.sub_zero, ← e4, top_val hx, top_val hv, hsx, hs]
    rw [e3] at h1
    exact h1
  cases hp : p.1 with
  | false =>
    have := key 0 vn_zero (by rw [hp]; rfl) (by rw [hp]; exact aN_zero)
    rwa [hp] at this
  | true =>
    have := key (2 ^ 128) vn_six (by rw [hp]; decide +kernel) (by rw [hp]; exact aN_six)
    rwa [hp] at this
theorem topN_vn {x : Nat} (h : VN x) : VN (topN x) := by
  unfold topN
  have := VN_fil (n := 0) h (Nat.zero_le _)
  rwa [Nat.sub_zero] at this
theorem edK_zero (L : List En) : edK L 0 = [0, 2 ^ 128] := by
  unfold edK
  rw [List.take_zero, List.flatMap_nil]
def dqV : Option Nat → Value
  | some a => .tuple #[.agg (aN a), .bool true]
  | none => .tuple #[.agg #[.bool false, .int .u64 0, .int .u64 0], .bool false]
theorem edK_last (T : List En) : edK T T.length = edT T := by unfold edK edT; rw [List.take_length]
theorem edK_len2 (T : List En) (k : Nat) (h : k ≤ 1000) : (edK T k).length ≤ 2002 := by
  unfold edK
  rw [List.length_cons, List.length_cons]
  have := edT_len (T := T.take k)
  have := List.length_take_le k T
  omega
set_option maxRecDepth 100000 in
set_option maxHeartbeats 16000000 in
theorem differOf_any (ad1 : Option Addr) (n1 c1 : Nat) (T : List En) (ad2 : Option Addr) (n2 c2 : Nat) (U : List En) (w : World) (h1 : RdK layEn w ad1 T) (hn1 : T.length = n1) (hs1 : n1 ≤ 500) (hk1 : OkT T) (h2 : RdK layEn w ad2 U) (hn2 : U.length = n2) (hs2 : n2 ≤ 500) (hk2 : OkT U) :
    Calls Tryz.prog 28 #[.slice ad1 n1 c1, .slice ad2 n2 c2] w (Ret (dqV (difO T U)) w) := by
  have H1 := Lib.hid h1
  have H2 := Lib.hid h2
  have HOkW : Hid (OkT (T ++ U)) := Lib.hid fun e he => by
    rcases List.mem_append.1 he with h | h
    · exact hk1 e h
    · exact hk2 e h
  have HWl : Hid ((T ++ U).length ≤ 1000) := Lib.hid (by rw [List.length_append]; omega)
  have HL1 := Lib.hid fun x wx (hr : RdK layEn wx ad1 T) (hx : VN x) => lookupOf_any ad1 n1 c1 T x wx hr hn1 (by omega) hk1 hx
  have HL2 := Lib.hid fun x wx (hr : RdK layEn wx ad2 U) (hx : VN x) => lookupOf_any ad2 n2 c2 U x wx hr hn2 (by omega) hk2 hx
  have HDp := Lib.hid fun (S : List Nat) hp hs => dif_ref hk1 hk2 (S := S) hp hs
  have HV1 : Hid (∀ x, dqV (some x) = .tuple #[.agg #[.bool (sixN x), .int .u64 ((hiN x : Nat) : Int), .int .u64 ((loN x : Nat) : Int)], .bool true]) := Lib.hid fun x => rfl
  have HV2 : Hid (dqV none = .tuple #[.agg #[.bool false, .int .u64 0, .int .u64 0], .bool false]) := Lib.hid rfl
  have HLk1 := Lib.hid fun x => lk_same hk1 x
  have HLk2 := Lib.hid fun x => lk_same hk2 x
  have HDb : Hid (∀ x, difB T U x = decide (lkP T x ≠ lkP U x)) := Lib.hid fun x => rfl
  have HCc := Lib.hid fun g wx hg (hr1 : RdK layEn wx ad1 T) (hr2 : RdK layEn wx ad2 U) => concatEn_any g 2 ad1 ad2 n1 c1 n2 c2 T U wx hg hr1 hr2 hn1 hn2 (by omega) (by omega)
  have HEl : Hid (edK (T ++ U) (T ++ U).length = edT (T ++ U)) := Lib.hid (edK_last _)
  have HEs := Lib.hid fun k e (h : (T ++ U)[k]? = some e) => edK_step h
  have HEn := Lib.hid fun k (hk : k ≤ 1000) => edK_len2 (T ++ U) k hk
  have HE0 : Hid (edK (T ++ U) 0 = [0, 2 ^ 128]) := Lib.hid (edK_zero _)
  have HOf0 : Hid (∀ wx, Calls Tryz.prog 39 #[.agg #[.bool false, .int .u64 0, .int .u64 0]] wx (Ret (.agg (wN 0)) wx)) := Lib.hid fun wx => by
    have := ofN (x := 0) wx vn_zero
    rwa [aN_zero] at this
  have HOf6 : Hid (∀ wx, Calls Tryz.prog 39 #[.agg #[.bool true, .int .u64 0, .int .u64 0]] wx (Ret (.agg (wN (2 ^ 128))) wx)) := Lib.hid fun wx => by
    have := ofN (x := 2 ^ 128) wx vn_six
    rwa [aN_six] at this
  clear h1 h2 hk1 hk2
  generalize difO T U = DO at *
  generalize difB T U = DB at *
  generalize edT (T ++ U) = ET at *
  generalize hek : edK (T ++ U) = ek at *
  clear hek
  have HP : Hid (Blk (w.alloc (.cells #[.bool false, .int .u64 0, .int .u64 0] 28 (0, 0))) w.heap.size 28 #[.bool false, .int .u64 0, .int .u64 0]) := Lib.hid (Blk.new w _ _)
  have HB : Hid (Below w.heap.size w (w.alloc (.cells #[.bool false, .int .u64 0, .int .u64 0] 28 (0, 0)))) := Lib.hid (below_alloc (Below.refl _ _) _)
  go_enter Tryz.func28, Tryz.ntmps28
  go_upto_region 1 with fail
  generalize w.alloc (.cells #[.bool false, .int .u64 0, .int .u64 0] 28 (0, 0)) = w1 at *
  obtain ⟨bx, hbx⟩ : ∃ q, w.heap.size = q := ⟨_, rfl⟩
  have Hbx := Lib.hid hbx
  rw [hbx] at HP HB ⊢
  clear hbx
  have HRd1 : Hid (∀ wx, Below bx w wx → RdK layEn wx ad1 T) := Lib.hid fun wx hb => H1.out.below (by rw [Hbx.out]; exact hb)
  have HRd2 : Hid (∀ wx, Below bx w wx → RdK layEn wx ad2 U) := Lib.hid fun wx hb => H2.out.below (by rw [Hbx.out]; exact hb)
  have HRet : Hid (∀ wx (sx : Bool) (h l : Int), Blk wx bx 28 #[.bool false, .int .u64 0, .int .u64 0] → Below bx w wx → Below bx w (((wx.setCell ⟨bx, 0, none⟩ (.bool sx)).setCell ⟨bx, 1, none⟩ (.int .u64 h)).setCell ⟨bx, 2, none⟩ (.int .u64 l))) := Lib.hid fun wx sx h l hp hb => hb.grown (grown_setCells bx [.bool sx, .int .u64 h, .int .u64 l] 0 wx) (Nat.le_of_lt hp.lt) (fun k hk => by injection hk with hk; omega)
  clear H1 H2
  go_wp2_with fail
  refine (HOf0.out _).mono ?_
  rintro e w2 ⟨rfl, hb⟩
  have HP2 := Lib.hid (HP.out.below hb HP.out.lt)
  have HB2 := Lib.hid (HB.out.trans (hb.mono (Nat.le_of_lt HP.out.lt)))
  clear hb HP HB HOf0
  go_wp2_with fail
  refine (HOf6.out _).mono ?_
  rintro e w3 ⟨rfl, hb⟩
  have HP3 := Lib.hid (HP2.out.below hb HP2.out.lt)
  have HB3 := Lib.hid (HB2.out.trans (hb.mono (Nat.le_of_lt HP2.out.lt)))
  clear hb HP2 HB2 HOf6
  have HO4 : Hid (OwnK layWd (w3.alloc (.cells (wN 0 ++ wN (2 ^ 128)) 71 (0, 0))) (bx + 1) (.slice (some ⟨w3.heap.size, 0, none⟩) 2 2) (ek 0)) := Lib.hid (by rw [HE0.out]; exact own_twoW w3 (bx + 1) HP3.out.lt)
  have HP4 := Lib.hid (HP3.out.alloc (.cells (wN 0 ++ wN (2 ^ 128)) 71 (0, 0)))
  have HB4 : Hid (Below bx w (w3.alloc (.cells (wN 0 ++ wN (2 ^ 128)) 71 (0, 0)))) := Lib.hid (HB3.out.alloc (Nat.le_of_lt HP3.out.lt) _)
  have HS0 := Lib.hid (wN_size 0)
  have HS6 := Lib.hid (wN_size (2 ^ 128))
  clear HP3 HB3
  generalize wN 0 = W0 at *
  generalize wN (2 ^ 128) = W6 at *
  go_upto_region 2 with (refine wpList_build2 rfl 103 71 _ _ rfl W0 W6 rfl rfl 9 Tryz.underlying103 zero_wide HS0.out HS6.out (by decide) (by decide) ?_; go_simp)
  generalize w3.alloc (.cells (W0 ++ W6) 71 (0, 0)) = w4 at *
  generalize w3.heap.size = g0 at *
  have HCx := Lib.hid (HCc.out w4.heap.size (w4.alloc (.cells #[.slice ad1 n1 c1, .slice ad2 n2 c2] 42 (0, 0))) (heap_alloc_new w4 _) (HRd1.out _ (HB4.out.alloc (Nat.le_of_lt HP4.out.lt) _)) (HRd2.out _ (HB4.out.alloc (Nat.le_of_lt HP4.out.lt) _)))
  have HO5 := Lib.hid (HO4.out.alloc (.cells #[.slice ad1 n1 c1, .slice ad2 n2 c2] 42 (0, 0)))
  have HP5 := Lib.hid (HP4.out.alloc (.cells #[.slice ad1 n1 c1, .slice ad2 n2 c2] 42 (0, 0)))
  have HB5 : Hid (Below bx w (w4.alloc (.cells #[.slice ad1 n1 c1, .slice ad2 n2 c2] 42 (0, 0)))) := Lib.hid (HB4.out.alloc (Nat.le_of_lt HP4.out.lt) _)
  clear HO4 HP4 HB4 HCc HS0 HS6
  go_wp2_with fail
  refine HCx.out.mono ?_
  rintro e w6 ⟨v, rfl, ho, hb⟩
  have HO6 := Lib.hid (HO5.out.later hb)
  have HP6 := Lib.hid (HP5.out.below hb HP5.out.lt)
  have HB6 := Lib.hid (HB5.out.trans (hb.mono (Nat.le_of_lt HP5.out.lt)))
  obtain ⟨adw, cw, rfl, -, -, -⟩ := ho.form
  have HR6 := Lib.hid ho.rdT
  clear ho hb HO5 HP5 HB5 HCx
  generalize T ++ U = L at *
  obtain ⟨n, hn⟩ : ∃ n, L.length = n := ⟨_, rfl⟩
  have Hn := Lib.hid hn
  rw [hn] at HWl HEl
  rw [hn]
  clear hn
  have hnl := HWl.out
  go_wp2_with fail
  go_loopw [6, 8, 9, 27] (fun v s8 s9 i wr => ∃ (k : Nat) (V : Value), k ≤ n ∧ i = .int .i64 (k : Int) ∧ V = v ∧ Hid (OwnK layWd wr (bx + 1) V (ek k)) ∧ Hid (RdT layEn wr adw L) ∧ Hid (Blk wr bx 28 #[.bool false, .int .u64 0, .int .u64 0]) ∧ Hid (Below bx w wr)) (fun _ _ _ i _ => n - (intOf i).toNat)
  case atStart => exact ⟨0, _, Nat.zero_le _, rfl, rfl, HO6, HR6, HP6, HB6⟩
  case round =>
    clear HO6 HR6 HP6 HB6
    obtain ⟨k, v, hk, rfl, rfl, HO, HR, HPr, HB⟩ := hrel
    by_cases hlt : k < n
    · have hS : k < L.length := by rw [Hn.out]; exact hlt
      obtain ⟨x, hx⟩ : ∃ x, L[k]? = some x := ⟨_, List.getElem?_eq_getElem hS⟩
      have hok := (HOkW.out x (List.mem_of_getElem? hx)).1
      have HE : Hid (ek (k + 1) = ek k ++ edE x) := Lib.hid (HEs.out k x hx)
      have HL := Lib.hid (HEn.out k (by omega))
      obtain ⟨hyv, hyt⟩ := spP_vn hok
      have HLs := Lib.hid fun wx => lastOfN wx hok.num.1 hok.bits
      have HLt := Lib.hid fun wx => lastTop hok wx
      have HOf := Lib.hid fun wx => ofN wx hok.num.1
      have HPl := Lib.hid fun wx => plusN (spP x.1).2 wx
      have htv : VN (topN (nuP x.1)) := topN_vn hok.num.1
      have HNq := Lib.hid fun wx => wN_neq hyv.lt10.1 htv.lt10.1 wx
      have hed : edE x = nuP x.1 :: (if (spP x.1).2 = topN (nuP x.1) then [] else [(spP x.1).2 + 1]) := rfl
      rw [hed] at HE
      obtain ⟨a1, a2, a3, a4, hpc, hpN, haN⟩ := pf_cells hok
      have ha1 : x.1.1 = a1 := by
        have h := congrArg (fun l : List Value => l[0]?) hpc
        simp [pfC] at h
        exact h
      have hec : layEn.enc x = [.bool a1, .int .u64 (a2 : Int), .int .u64 (a3 : Int), .int .i64 (a4 : Int), .string (strL x.2)] := by
        show enC x = _
        have : enC x = pfC x.1 ++ [.string (strL x.2)] := rfl
        rw [this, hpc]
        rfl
      rw [hpN] at HLs
      rw [haN] at HOf
      rw [ha1] at HLt
      rw [show fil (nuP x.1) (LN (nuP x.1) - x.1.2.2.2.toNat) = (spP x.1).2 from rfl] at HLs
      obtain ⟨g, o, had, hg, hcell⟩ := HR.out.rd k x hx
      rw [hec] at hcell
      have c0 := hcell 0 _ rfl
      have c1 := hcell 1 _ rfl
      have c2 := hcell 2 _ rfl
      have c3 := hcell 3 _ rfl
      have c4 := hcell 4 _ rfl
      rw [show layEn.K = 5 from rfl] at c0 c1 c2 c3 c4
      simp only [Nat.add_zero] at c0
      simp only [← Nat.add_assoc] at c1 c2 c3 c4
      subst had
      clear hcell hec hpc hpN haN ha1 hok hyv hyt htv hed hx hS hg
      have HSn := Lib.hid (wN_size (nuP x.1))
      have HSy := Lib.hid (wN_size (spP x.1).2)
      have HSt := Lib.hid (wN_size (topN (nuP x.1)))
      have HS1 := Lib.hid (wN_size ((spP x.1).2 + 1))
      have HAy := Lib.hid (wN_oneA (spP x.1).2)
      have HWn : Hid ((layWd.enc (nuP x.1)).toArray = wN (nuP x.1)) := Lib.hid rfl
      have HW1 : Hid ((layWd.enc ((spP x.1).2 + 1)).toArray = wN ((spP x.1).2 + 1)) := Lib.hid rfl
      generalize (spP x.1).2 = y at *
      generalize topN (nuP x.1) = tp at *
      generalize nuP x.1 = nx at *
      generalize strL x.2 = KX at *
      generalize wN nx = WN at *
      generalize wN (y + 1) = WY1 at *
      generalize wN y = WY at *
      generalize wN tp = WT at *
      have HX : Hid (Blk (wr.alloc (.cells #[.bool a1, .int .u64 (a2 : Int), .int .u64 (a3 : Int), .int .i64 (a4 : Int), .string KX] 48 (0, 0))) wr.heap.size 48 #[.bool a1, .int .u64 (a2 : Int), .int .u64 (a3 : Int), .int .i64 (a4 : Int), .string KX]) := Lib.hid (Blk.new wr _ _)
      have HO1 := Lib.hid (HO.out.alloc (.cells #[.bool a1, .int .u64 (a2 : Int), .int .u64 (a3 : Int), .int .i64 (a4 : Int), .string KX] 48 (0, 0)))
      have HR1 := Lib.hid (HR.out.below (below_alloc (Below.refl _ _) (.cells #[.bool a1, .int .u64 (a2 : Int), .int .u64 (a3 : Int), .int .i64 (a4 : Int), .string KX] 48 (0, 0))))
      have HP1 := Lib.hid (HPr.out.alloc (.cells #[.bool a1, .int .u64 (a2 : Int), .int .u64 (a3 : Int), .int .i64 (a4 : Int), .string KX] 48 (0, 0)))
      have HB1 : Hid (Below bx w (wr.alloc (.cells #[.bool a1, .int .u64 (a2 : Int), .int .u64 (a3 : Int), .int .i64 (a4 : Int), .string KX] 48 (0, 0)))) := Lib.hid (HB.out.alloc (Nat.le_of_lt HPr.out.lt) _)
      go_upto_region 5 with fail
      generalize wr.alloc (.cells #[.bool a1, .int .u64 (a2 : Int), .int .u64 (a3 : Int), .int .i64 (a4 : Int), .string KX] 48 (0, 0)) = w7 at *
      generalize wr.heap.size = eb at *
      clear HB HO HR HPr c0 c1 c2 c3 c4
      have d0 := HX.out.cell 0
      have d1 := HX.out.cell 1
      have d2 := HX.out.cell 2
      simp at d0 d1 d2
      generalize hEk : ek k = EK at *
      clear hEk
      go_wp2_with fail
      refine (HOf.out _).mono ?_
      rintro e w8 ⟨rfl, hb⟩
      have HX8 := Lib.hid (HX.out.below hb HX.out.lt)
      have HO8 := Lib.hid (HO1.out.later hb)
      have HR8 := Lib.hid (HR1.out.below hb)
      have HP8 := Lib.hid (HP1.out.below hb HP1.out.lt)
      have HB8 := Lib.hid (HB1.out.trans (hb.mono (Nat.le_of_lt HP1.out.lt)))
      clear hb HX HO1 HR1 HP1 HB1 HOf d0 d1 d2
      go_wp2_with (first | (refine wpList_build1 rfl 103 71 _ rfl WN rfl 9 Tryz.underlying103 zero_wide HSn.out (by decide) (by decide) ?_; go_simp) | (at_builtin; refine wpList_app wdE rfl (.tmp 31) (.tmp 36) rfl rfl (World.ownsRow.alloc HO8.out _) rfl (src_new layWd _ nx _ _ ?c0) ?c1 ?c2 ?c3 ?c4 ?_))
      case c0 => exact HWn.out.symm
      case c1 => exact layWd.one _
      case c2 => unfold maxLen; have := HL.out; omega
      case c3 => have := HL.out; omega
      case c4 => have := HP8.out.lt; simp; omega
      intro v' w9 hO hG
      have HO9 : Hid (OwnK layWd w9 (bx + 1) v' (EK ++ [nx])) := Lib.hid (OwnK.snoc hO)
      have HX9 := Lib.hid ((HX8.out.alloc (.cells WN 71 (0, 0))).grew (World.ownsRow.alloc HO8.out _) (by decide) hG)
      have HR9 := Lib.hid ((HR8.out.below (below_alloc (Below.refl _ _) (.cells WN 71 (0, 0)))).keep (S := [71]) (KeepT.of_grew (E := layWd) (HO8.out.alloc _) hG (by simp [layWd])) (by simp [layEn]))
      have HP9 := Lib.hid ((HP8.out.alloc (.cells WN 71 (0, 0))).grewNe (fun e => by have := own_base HO8.out bx e; omega) hG)
      have HB9 : Hid (Below bx w w9) := Lib.hid (Grew.belowB (HB8.out.alloc (Nat.le_of_lt HP8.out.lt) (.cells WN 71 (0, 0))) hG (by have := HP8.out.lt; simp; omega) fun k hk => by have := own_base HO8.out k hk; omega)
      clear hO hG HO8 HX8 HR8 HP8 HB8
      have d0 := HX9.out.cell 0
      have d1 := HX9.out.cell 1
      have d2 := HX9.out.cell 2
      have d3 := HX9.out.cell 3
      simp at d0 d1 d2 d3
      go_wp2_with fail
      refine (HLs.out _).mono ?_
      rintro e w10 ⟨rfl, hb⟩
      have HX10 := Lib.hid ((HX9.out.below hb HX9.out.lt).alloc (.cells WY 71 (0, 0)))
      have HO10 := Lib.hid ((HO9.out.later hb).alloc (.cells WY 71 (0, 0)))
      have HR10 := Lib.hid ((HR9.out.below hb).below (below_alloc (Below.refl _ _) (.cells WY 71 (0, 0))))
      have HP10 := Lib.hid ((HP9.out.below hb HP9.out.lt).alloc (.cells WY 71 (0, 0)))
      have HB10 : Hid (Below bx w (w10.alloc (.cells WY 71 (0, 0)))) := Lib.hid (Below.alloc (HB9.out.trans (hb.mono (Nat.le_of_lt HP9.out.lt))) (Nat.le_trans (Nat.le_of_lt HP9.out.lt) hb.size) _)
      have HY10 : Hid (Blk (w10.alloc (.cells WY 71 (0, 0))) w10.heap.size 71 WY) := Lib.hid (Blk.new w10 _ _)
      clear hb HX9 HO9 HR9 HP9 HB9 HLs d0 d1 d2 d3
      go_upto_region 7 with (refine wpList_var WY 71 Tryz.zeroValue71 rfl rfl rfl _ _ rfl _ rfl ?_ ?_ 9 size_wide HSy.out ?_ HAy.out ?_; all_goals (try rfl); try go_simp)
      generalize w10.alloc (.cells WY 71 (0, 0)) = w11 at *
      generalize w10.heap.size = yb at *
      have d0 := HX10.out.cell 0
      simp at d0
      have l0 := Later.cell_of d0
      have HYr : Hid (∀ wx, (∃ m : Later w11, wx = m.1) → wx.rangeAt yb 0 WY.toList) := Lib.hid fun wx ⟨m, hm⟩ => by
        subst hm
        exact Blk.range (by simpa using HY10.out.below m.2 HY10.out.lt)
      have hQt := fun m : Later w11 => Calls.later m (HLt.out m.1)
      have hnq := HNq.out
      have hGd := wide_guardT .neq
      refine wp_region_later (by kernel_rfl) (by kernel_rfl) ?_
      refine wpQuiet_loadn rfl 71 _ rfl _ rfl yb 0 rfl WY HYr.out _ Tryz.underlying71 rfl 9 size_wide HSy.out ?_
      go_simp
      iterate 6 (go_big_quiet_step (fail))
      go_big_quiet_step ((go_at_call 67; exact hQt _))
      repeat (first | (refine wpQuiet_bin rfl .neq 71 (.tmp 41) (.tmp 48) 71 rfl _ rfl (.agg WY) (.agg WT) _ rfl rfl (fun wx => hGd _ _ _ _ wx) hnq ?_; go_simp))
      refine wpQuiet_nil ?_
      rintro ⟨w12, hb⟩
      dsimp only
      clear l0 d0 hQt hnq hGd HYr HLt
      have HO12 := Lib.hid (HO10.out.later hb)
      have HR12 := Lib.hid (HR10.out.below hb)
      have HP12 := Lib.hid (HP10.out.below hb HP10.out.lt)
      have HB12 := Lib.hid (HB10.out.trans (hb.mono (Nat.le_of_lt HP10.out.lt)))
      have HY12 := Lib.hid (HY10.out.below hb HY10.out.lt)
      clear hb HX10 HO10 HR10 HP10 HB10 HY10
      have hlen : (EK ++ [nx]).length ≤ 2003 := by rw [List.length_append]; have := HL.out; simp; omega
      have HLe := Lib.hid hlen
      clear hlen HL
      by_cases hT : y = tp
      · have HE2 : Hid (ek (k + 1) = EK ++ [nx]) := Lib.hid (by rw [HE.out, if_pos hT])
        have hTd : decide (y = tp) = true := decide_eq_true hT
        rw [hTd]
        clear HE hT HPl HY12 HNq hTd
        go_wp2_with fail
        exact ⟨⟨k + 1, _, by omega, by go_num, rfl, by rw [HE2.out]; exact HO12, HR12, HP12, HB12⟩, by simp [intOf]; omega⟩
      · have HE2 : Hid (ek (k + 1) = (EK ++ [nx]) ++ [y + 1]) := Lib.hid (by rw [HE.out, if_neg hT]; simp)
        have hTd : decide (y = tp) = false := decide_eq_false hT
        rw [hTd]
        clear HE hT HNq hTd
        generalize EK ++ [nx] = EL at *
        have HYr : Hid (w12.rangeAt yb 0 WY.toList) := Lib.hid (Blk.range (by simpa using HY12.out))
        go_wp2_with (refine wpList_loadn rfl 71 _ rfl yb 0 rfl _ _ HYr.out Tryz.underlying71 rfl 9 size_wide (by simpa using HSy.out) ?_; go_simp)
        refine (HPl.out _).mono ?_
        rintro e w13 ⟨rfl, hb⟩
        have HO13 := Lib.hid (HO12.out.later hb)
        have HR13 := Lib.hid (HR12.out.below hb)
        have HP13 := Lib.hid (HP12.out.below hb HP12.out.lt)
        have HB13 := Lib.hid (HB12.out.trans (hb.mono (Nat.le_of_lt HP12.out.lt)))
        clear hb HO12 HR12 HP12 HB12 HY12 HYr HPl
        go_wp2_with (first | (refine wpList_build1 rfl 103 71 _ rfl WY1 rfl 9 Tryz.underlying103 zero_wide HS1.out (by decide) (by decide) ?_; go_simp) | (at_builtin; refine wpList_app wdE rfl (.tmp 50) (.tmp 53) rfl rfl (World.ownsRow.alloc HO13.out _) rfl (src_new layWd _ (y + 1) _ _ ?e0) ?e1 ?e2 ?e3 ?e4 ?_))
        case e0 => exact HW1.out.symm
        case e1 => exact layWd.one _
        case e2 => unfold maxLen; have := HLe.out; omega
        case e3 => have := HLe.out; omega
        case e4 => have := HP13.out.lt; simp; omega
        intro v2' w14 hO hG
        have HO14 : Hid (OwnK layWd w14 (bx + 1) v2' (EL ++ [y + 1])) := Lib.hid (OwnK.snoc hO)
        have HR14 := Lib.hid ((HR13.out.below (below_alloc (Below.refl _ _) (.cells WY1 71 (0, 0)))).keep (S := [71]) (KeepT.of_grew (E := layWd) (HO13.out.alloc _) hG (by simp [layWd])) (by simp [layEn]))
        have HP14 := Lib.hid ((HP13.out.alloc (.cells WY1 71 (0, 0))).grewNe (fun e => by have := own_base HO13.out bx e; omega) hG)
        have HB14 : Hid (Below bx w w14) := Lib.hid (Grew.belowB (HB13.out.alloc (Nat.le_of_lt HP13.out.lt) (.cells WY1 71 (0, 0))) hG (by have := HP13.out.lt; simp; omega) fun k hk => by have := own_base HO13.out k hk; omega)
        clear hO hG HO13 HR13 HP13 HB13
        go_wp2_with fail
        exact ⟨⟨k + 1, _, by omega, by go_num, rfl, by rw [HE2.out]; exact HO14, HR14, HP14, HB14⟩, by simp [intOf]; omega⟩
    · obtain rfl : k = n := by omega
      obtain ⟨ad3, c3, rfl, -, -, -⟩ := HO.out.form
      have HO2 : Hid (OwnK layWd wr (bx + 1) (.slice ad3 (ek k).length c3) ET) := Lib.hid (by rw [← HEl.out]; exact HO.out)
      have HLn3 : Hid ((ek k).length ≤ 2002) := Lib.hid (HEn.out k (by omega))
      have HLt : Hid (ET.length = (ek k).length) := Lib.hid (by rw [HEl.out])
      clear HO HE0 HEs HEn HEl HR HOkW
      generalize (ek k).length = mm at *
      have HSt := Lib.hid (sortWd_any (bx + 1) mm c3 ad3 ET wr HO2.out HLt.out (by have := HLn3.out; omega) HPr.out.lt)
      clear HO2
      go_wp2_with fail
      refine HSt.out.mono ?_
      rintro e w6 ⟨rfl, S, hSp, hSs, ho, hb⟩
      obtain ⟨hFd, hCv⟩ := HDp.out S hSp hSs
      have HP7 := Lib.hid (HPr.out.lowB hb (Nat.lt_succ_self _))
      have HB7 := Lib.hid (HB.out.trans (hb.mono (Nat.le_succ _)))
      have HFd := Lib.hid hFd
      have HCv := Lib.hid hCv
      have HRc := Lib.hid ho.rd
      have Hm : Hid (S.length = mm) := Lib.hid (hSp.length_eq.trans HLt.out)
      clear hSp hSs ho hb hFd hCv HPr HB HSt HDp HLt
      go_wp2_with fail
      go_loopw [11, 12, 13, 14, 15, 16, 60] (fun s11 s12 s13 s14 s15 s16 i wr => ∃ (k : Nat), k ≤ mm ∧ i = .int .i64 (k : Int) ∧ Hid (∀ (j y : Nat), j < k → S[j]? = some y → DB y = false) ∧ Hid (Below w6.heap.size w6 wr)) (fun _ _ _ _ _ _ i _ => mm - (intOf i).toNat)
      case atStart => exact ⟨0, Nat.zero_le _, rfl, Lib.hid fun j y hj => absurd hj (Nat.not_lt_zero _), Lib.hid (Below.refl _ _)⟩
      case round =>
        obtain ⟨k, hk, rfl, HN, HBr⟩ := hrel
        have HPr := Lib.hid (HP7.out.below HBr.out HP7.out.lt)
        have HBw := Lib.hid (HB7.out.trans (HBr.out.mono (Nat.le_of_lt HP7.out.lt)))
        by_cases hlt : k < mm
        · have hS : k < S.length := by rw [Hm.out]; exact hlt
          obtain ⟨x, hx⟩ : ∃ x, S[k]? = some x := ⟨_, List.getElem?_eq_getElem hS⟩
          have hxv := HCv.out x (List.mem_of_getElem? hx)
          obtain ⟨g, o, had, hg, hcell⟩ := (HRc.out.below HBr.out) k x hx
          have HRg : Hid (wr.rangeAt g (o + k * 9) (wN x).toList) := Lib.hid fun j v hv => by
            have := hcell j v hv
            rwa [← Nat.add_assoc] at this
          subst had
          have HNk : Hid (DB x = false → ∀ (j y : Nat), j < k + 1 → S[j]? = some y → DB y = false) := Lib.hid fun h j y hj hy => by
            rcases Nat.lt_or_ge j k with h1 | h1
            · exact HN.out j y h1 hy
            · obtain rfl : j = k := by omega
              rw [hx] at hy
              exact (Option.some.inj hy) ▸ h
          have HHit : Hid (DB x = true → DO = some x) := Lib.hid fun h => by
            rw [← HFd.out]
            exact find_at hx h HN.out
          have HDx := Lib.hid (HDb.out x)
          have HVx := Lib.hid (HV1.out x)
          have HAx := Lib.hid fun wx => wideAddrN wx hxv
          have HQ1 := Lib.hid fun wx (hr : RdK layEn wx ad1 T) => HL1.out x wx hr hxv
          have HQ2 := Lib.hid fun wx (hr : RdK layEn wx ad2 U) => HL2.out x wx hr hxv
          have HK1 := Lib.hid (HLk1.out x)
          have HK2 := Lib.hid (HLk2.out x)
          have HSx := Lib.hid (wN_size x)
          have HAw := Lib.hid (wN_oneA x)
          unfold aN at HQ1 HQ2 HAx
          clear hx hS hg hxv HN hcell
          generalize wN x = WX at *
          generalize sixN x = x1 at *
          generalize hiN x = x2 at *
          generalize loN x = x3 at *
          generalize lkQ T x 128 = QA at *
          generalize lkQ U x 128 = QB at *
          generalize lkP T x = k1 at *
          generalize lkP U x = k2 at *
          have HX1 : Hid (Blk (wr.alloc (.cells WX 71 (0, 0))) wr.heap.size 71 WX) := Lib.hid (Blk.new wr _ _)
          have HP1 := Lib.hid (HPr.out.alloc (.cells WX 71 (0, 0)))
          have HB1 : Hid (Below w6.heap.size w6 (wr.alloc (.cells WX 71 (0, 0)))) := Lib.hid (Below.alloc HBr.out HBr.out.size _)
          have HW1 : Hid (Below bx w (wr.alloc (.cells WX 71 (0, 0)))) := Lib.hid (Below.alloc HBw.out (Nat.le_of_lt HPr.out.lt) _)
          clear HPr HBw
          go_upto_region 14 with (first | (refine wpList_loadn rfl 71 _ rfl g (o + k * 9) rfl _ _ HRg.out Tryz.underlying71 rfl 9 size_wide (by simpa using HSx.out) ?_; go_simp) | (refine wpList_var WX 71 Tryz.zeroValue71 rfl rfl rfl _ _ rfl _ rfl ?_ ?_ 9 size_wide HSx.out ?_ HAw.out ?_; all_goals (try rfl); try go_simp))
          generalize wr.alloc (.cells WX 71 (0, 0)) = w8 at *
          generalize wr.heap.size = xb at *
          clear HBr HRg
          have HXr : Hid (w8.rangeAt xb 0 WX.toList) := Lib.hid (Blk.range (by simpa using HX1.out))
          go_wp2_with (refine wpList_loadn rfl 71 _ rfl xb 0 rfl _ _ HXr.out Tryz.underlying71 rfl 9 size_wide (by simpa using HSx.out) ?_; go_simp)
          refine (HAx.out _).mono ?_
          rintro e w9 ⟨rfl, hb⟩
          have HA9 : Hid (Blk (w9.alloc (.cells #[.bool x1, .int .u64 (x2 : Int), .int .u64 (x3 : Int)] 28 (0, 0))) w9.heap.size 28 #[.bool x1, .int .u64 (x2 : Int), .int .u64 (x3 : Int)]) := Lib.hid (Blk.new w9 _ _)
          have HP9 := Lib.hid ((HP1.out.below hb HP1.out.lt).alloc (.cells #[.bool x1, .int .u64 (x2 : Int), .int .u64 (x3 : Int)] 28 (0, 0)))
          have HB9 : Hid (Below w6.heap.size w6 (w9.alloc (.cells #[.bool x1, .int .u64 (x2 : Int), .int .u64 (x3 : Int)] 28 (0, 0)))) := Lib.hid (Below.alloc (HB1.out.trans (hb.mono HB1.out.size)) (Nat.le_trans HB1.out.size hb.size) _)
          have HW9 : Hid (Below bx w (w9.alloc (.cells #[.bool x1, .int .u64 (x2 : Int), .int .u64 (x3 : Int)] 28 (0, 0)))) := Lib.hid (Below.alloc (HW1.out.trans (hb.mono (Nat.le_of_lt HP1.out.lt))) (Nat.le_trans (Nat.le_of_lt HP1.out.lt) hb.size) _)
          clear hb HX1 HP1 HB1 HW1 HXr HAx
          go_upto_region 15 with fail
          generalize w9.alloc (.cells #[.bool x1, .int .u64 (x2 : Int), .int .u64 (x3 : Int)] 28 (0, 0)) = w10 at *
          generalize w9.heap.size = ab at *
          have f0 := HA9.out.cell 0
          have f1 := HA9.out.cell 1
          have f2 := HA9.out.cell 2
          simp at f0 f1 f2
          obtain ⟨lsA, lbA, hqA⟩ : ∃ (s : ByteArray) (b : Bool), lqV QA = .tuple #[.string s, .bool b] := by
            cases QA with
            | none => exact ⟨_, _, rfl⟩
            | some e => exact ⟨_, _, rfl⟩
          obtain ⟨lsB, lbB, hqB⟩ : ∃ (s : ByteArray) (b : Bool), lqV QB = .tuple #[.string s, .bool b] := by
            cases QB with
            | none => exact ⟨_, _, rfl⟩
            | some e => exact ⟨_, _, rfl⟩
          have HEq : Hid ((k1 = k2 ↔ (lbA = lbB ∧ lsA = lsB))) := Lib.hid (by
            have h1 := HK1.out
            have h2 := HK2.out
            have inj : ∀ a b : List UInt8, strL a = strL b → a = b := fun a b h => by
              have := congrArg ByteArray.toList h
              rwa [ByteArray.toList_eq, ByteArray.toList_eq] at this
            cases QA with
            | none =>
              have e1 := h1.2.2 rfl
              obtain ⟨rfl, rfl⟩ : (⟨#[]⟩ : ByteArray) = lsA ∧ false = lbA := by
                have h3 := hqA
                unfold lqV at h3
                injection h3 with h3
                simpa using h3
              cases QB with
              | none =>
                have e2 := h2.2.2 rfl
                obtain ⟨rfl, rfl⟩ : (⟨#[]⟩ : ByteArray) = lsB ∧ false = lbB := by
                  have h3 := hqB
                  unfold lqV at h3
                  injection h3 with h3
                  simpa using h3
                simp [e1, e2]
              | some f =>
                obtain ⟨e2, e3⟩ := h2.2.1 f rfl
                obtain ⟨rfl, rfl⟩ : strL f.2 = lsB ∧ true = lbB := by
                  have h3 := hqB
                  unfold lqV at h3
                  injection h3 with h3
                  simpa using h3
                rw [e1, e2]
                constructor
                · intro h; exact absurd h.symm e3
                · intro h; cases h.1
            | some e =>
              obtain ⟨e1, e0⟩ := h1.2.1 e rfl
              obtain ⟨rfl, rfl⟩ : strL e.2 = lsA ∧ true = lbA := by
                have h3 := hqA
                unfold lqV at h3
                injection h3 with h3
                simpa using h3
              cases QB with
              | none =>
                have e2 := h2.2.2 rfl
                obtain ⟨rfl, rfl⟩ : (⟨#[]⟩ : ByteArray) = lsB ∧ false = lbB := by
                  have h3 := hqB
                  unfold lqV at h3
                  injection h3 with h3
                  simpa using h3
                rw [e1, e2]
                constructor
                · intro h; exact absurd h e0
                · intro h; cases h.1
              | some f =>
                obtain ⟨e2, e3⟩ := h2.2.1 f rfl
                obtain ⟨rfl, rfl⟩ : strL f.2 = lsB ∧ true = lbB := by
                  have h3 := hqB
                  unfold lqV at h3
                  injection h3 with h3
                  simpa using h3
                rw [e1, e2]
                exact ⟨fun h => ⟨rfl, by rw [h]⟩, fun h => inj _ _ h.2⟩)
          have HDq : Hid (DB x = !decide (lbA = lbB ∧ lsA = lsB)) := Lib.hid (by
            rw [HDx.out, decide_not]
            congr 1
            rw [decide_eq_decide]
            exact HEq.out)
          rw [hqA] at HQ1
          rw [hqB] at HQ2
          clear hqA hqB HEq HDx HK1 HK2
          have HQ1x := Lib.hid (HQ1.out w10 (HRd1.out _ HW9.out))
          go_wp2_with fail
          refine HQ1x.out.mono ?_
          rintro e w11 ⟨rfl, hb⟩
          have HA11 := Lib.hid (HA9.out.below hb HA9.out.lt)
          have HP11 := Lib.hid (HP9.out.below hb HP9.out.lt)
          have HB11 := Lib.hid (HB9.out.trans (hb.mono HB9.out.size))
          have HW11 := Lib.hid (HW9.out.trans (hb.mono (Nat.le_of_lt HP9.out.lt)))
          clear hb HA9 HP9 HB9 HW9 HQ1 HQ1x f0 f1 f2
          have f0 := HA11.out.cell 0
          have f1 := HA11.out.cell 1
          have f2 := HA11.out.cell 2
          simp at f0 f1 f2
          have HQ2x := Lib.hid (HQ2.out w11 (HRd2.out _ HW11.out))
          go_wp2_with fail
          refine HQ2x.out.mono ?_
          rintro e w12 ⟨rfl, hb⟩
          have HA12 := Lib.hid (HA11.out.below hb HA11.out.lt)
          have HP12 := Lib.hid (HP11.out.below hb HP11.out.lt)
          have HB12 := Lib.hid (HB11.out.trans (hb.mono HB11.out.size))
          have HW12 := Lib.hid (HW11.out.trans (hb.mono (Nat.le_of_lt HP11.out.lt)))
          clear hb HA11 HP11 HB11 HW11 HQ2 HQ2x f0 f1 f2
          have hcmp : (lsA.toList == lsB.toList) = decide (lsA = lsB) := by
            by_cases e : lsA = lsB
            · rw [decide_eq_true e, e]; exact beq_self_eq_true _
            · rw [decide_eq_false e]
              exact beq_eq_false_iff_ne.2 fun h => e (by
                rw [ByteArray.toList_eq, ByteArray.toList_eq] at h
                exact ByteArray.ext (Array.toList_inj.1 h))
          have hit : DB x = true → DO = some x := HHit.out
          have HHit2 := Lib.hid hit
          clear hit HHit
          have done_ : Hid (¬ (lbA = lbB ∧ lsA = lsB) → DO = some x) := Lib.hid fun h => HHit2.out (by rw [HDq.out, decide_eq_false h]; rfl)
          have HN2 : Hid (lbA = lbB ∧ lsA = lsB → ∀ (j y : Nat), j < k + 1 → S[j]? = some y → DB y = false) := Lib.hid fun h => HNk.out (by rw [HDq.out, decide_eq_true h]; rfl)
          clear HHit2 HNk HDq
          by_cases hbe : lbA = lbB
          · subst hbe
            by_cases hse : lsA = lsB
            · have HN3 := Lib.hid (HN2.out ⟨rfl, hse⟩)
              subst hse
              clear HN2 done_ HA12 hcmp
              have hmb := HLn3.out
              go_wp2_with fail
              exact ⟨⟨k + 1, by omega, by go_num, HN3, HB12⟩, by simp [intOf]; omega⟩
            · have hDO : DO = some x := done_.out fun h => hse h.2
              have hse2 : ¬ lsA.toList = lsB.toList := fun h => hse (by
                rw [ByteArray.toList_eq, ByteArray.toList_eq] at h
                exact ByteArray.ext (Array.toList_inj.1 h))
              rw [decide_eq_false hse] at hcmp
              subst hDO
              clear HN2 done_
              have f0 := HA12.out.cell 0
              have f1 := HA12.out.cell 1
              have f2 := HA12.out.cell 2
              simp at f0 f1 f2
              have q0 := HP12.out.cell 0
              have q1 := HP12.out.cell 1
              have q2 := HP12.out.cell 2
              have qf := HP12.out.free
              simp at q0 q1 q2
              have c3 := (HP12.out.set3 (x' := .bool x1) (y' := .int .u64 (x2 : Int)) (z' := .int .u64 (x3 : Int)))
              have HBf := Lib.hid (HRet.out w12 x1 (x2 : Int) (x3 : Int) HP12.out HW12.out)
              have d0 := c3.cell 0
              have d1 := c3.cell 1
              have d2 := c3.cell 2
              simp at d0 d1 d2
              clear c3
              go_wp2_with fail
              refine bodyPost_ret (v := .tuple #[.agg #[.bool x1, .int .u64 (x2 : Int), .int .u64 (x3 : Int)], .bool true]) (by simp [results, Tryz.results28, go_sem, *]) rfl ⟨by rw [HVx.out], by rw [Hbx.out]; exact HBf.out⟩
          · have hDO : DO = some x := done_.out fun h => hbe h.1
            have hbe2 : (lbA != lbB) = true := by simpa using hbe
            subst hDO
            clear HN2 done_ hcmp
            have f0 := HA12.out.cell 0
            have f1 := HA12.out.cell 1
            have f2 := HA12.out.cell 2
            simp at f0 f1 f2
            have q0 := HP12.out.cell 0
            have q1 := HP12.out.cell 1
            have q2 := HP12.out.cell 2
            have qf := HP12.out.free
            simp at q0 q1 q2
            have c3 := (HP12.out.set3 (x' := .bool x1) (y' := .int .u64 (x2 : Int)) (z' := .int .u64 (x3 : Int)))
            have HBf := Lib.hid (HRet.out w12 x1 (x2 : Int) (x3 : Int) HP12.out HW12.out)
            have d0 := c3.cell 0
            have d1 := c3.cell 1
            have d2 := c3.cell 2
            simp at d0 d1 d2
            clear c3
            go_wp2_with fail
            refine bodyPost_ret (v := .tuple #[.agg #[.bool x1, .int .u64 (x2 : Int), .int .u64 (x3 : Int)], .bool true]) (by simp [results, Tryz.results28, go_sem, *]) rfl ⟨by rw [HVx.out], by rw [Hbx.out]; exact HBf.out⟩
        · obtain rfl : k = mm := by omega
          have hDO : DO = none := by
            rw [← HFd.out]
            exact find_no (by rw [Hm.out]; exact HN.out)
          subst hDO
          have q0 := HPr.out.cell 0
          have q1 := HPr.out.cell 1
          have q2 := HPr.out.cell 2
          have qf := HPr.out.free
          simp at q0 q1 q2
          have c3 := (HPr.out.set3 (x' := .bool false) (y' := .int .u64 0) (z' := .int .u64 0))
          have HBf := Lib.hid (HRet.out wr false 0 0 HPr.out HBw.out)
          have d0 := c3.cell 0
          have d1 := c3.cell 1
          have d2 := c3.cell 2
          simp at d0 d1 d2
          clear c3
          go_wp2_with fail
          refine bodyPost_ret (v := .tuple #[.agg #[.bool false, .int .u64 0, .int .u64 0], .bool false]) (by simp [results, Tryz.results28, go_sem, *]) rfl ⟨by rw [HV2.out], by rw [Hbx.out]; exact HBf.out⟩
end Go.Proofs.YteccghdegckjhaaGreatDoor
