/-
  SetRead of the reference: a set read line by line, its prefixes gathered in a captured row.
-/
import Derived.Test.YtcpafmndjcejjaaGreatDoorSE44
import Derived.Test.YtcpafmndjcejjaaGreatDoorSE48
import Derived.Test.YtcpafmndjcejjaaGreatDoorSE7
set_option linter.unusedVariables false
namespace Go.Proofs.YtcpafmndjcejjaaGreatDoor
open Go.RowKit Go Go.Sort
set_option linter.unusedVariables false

theorem psV_cells (o : Option (Bool × Nat × Nat × Nat)) : ∃ (a1 : Bool) (a2 a3 a4 : Nat) (f : Int), psV o = .tuple #[.agg #[.bool a1, .int .u64 (a2 : Int), .int .u64 (a3 : Int), .int .i64 (a4 : Int)], .int .i64 f] ∧ (f = 0 ∨ f = 9) ∧ decide (f = 0) = o.isSome ∧ (∀ q, o = some q → q = (a1, a2, a3, a4)) := by
  cases o with
  | none => exact ⟨false, 0, 0, 0, 9, rfl, .inr rfl, rfl, fun q h => (by cases h)⟩
  | some q =>
    obtain ⟨a1, a2, a3, a4⟩ := q
    exact ⟨a1, a2, a3, a4, 0, rfl, .inl rfl, rfl, fun q h => (by injection h with h; exact h.symm)⟩
set_option maxRecDepth 100000 in
set_option maxHeartbeats 4000000 in
theorem sr1_any (bx : Nat) (acc : List Pf) (x : List UInt8) (v : Value) (w : World) (hb : Blk w bx 35 #[v]) (hO : OwnK layPf w (bx + 1) v acc) (hv : Vr w) (hx : x.length ≤ 1000000) (hacc : acc.length ≤ 1000000) :
    Calls Tryz.prog 46 #[.string (strL x), .pointer (some ⟨bx, 0, none⟩)] w fun e w' => ∃ v' q, e = .returned (.bool (pP x).isSome) ∧ Blk w' bx 35 #[v'] ∧ OwnK layPf w' (bx + 1) v' (acc ++ [q]) ∧ (∀ p, pP x = some p → q = p) ∧ Below bx w w' := by
  have HP := Lib.hid (prefixParse_any x w hv hx)
  have hp : ∀ a1 a2 a3 a4, (∀ q, parsePF x = some q → q = (a1, a2, a3, a4)) → ∀ p, pP x = some p → (a1, a2, a3, ((a4 : Nat) : Int)) = p := fun a1 a2 a3 a4 h p hp => by
    unfold pP at hp
    cases hq : parsePF x with
    | none => rw [hq] at hp; cases hp
    | some q =>
      have := h q hq
      subst this
      rw [hq] at hp
      injection hp
  have hi : (pP x).isSome = (parsePF x).isSome := by
    unfold pP
    cases parsePF x <;> rfl
  have Hp := Lib.hid hp
  rw [hi]
  clear hp hi
  generalize pP x = PP at *
  generalize parsePF x = PX at *
  obtain ⟨a1, a2, a3, a4, f, hps, hf, hfi, hq⟩ := psV_cells PX
  have Hpq := Lib.hid (Hp.out a1 a2 a3 a4 hq)
  rw [hps] at HP
  rw [← hfi]
  clear hps hq hfi Hp
  have HB := Lib.hid hb
  have HO := Lib.hid hO
  clear hb hO hv hx
  generalize strL x = SX at *
  go_enter Tryz.func46, Tryz.ntmps46
  go_wp2_with fail
  refine HP.out.mono ?_
  rintro e w3 ⟨rfl, hb3⟩
  have hbw : bx < w.heap.size := HB.out.lt
  have HB3 := Lib.hid (HB.out.below hb3 hbw)
  have HO3 := Lib.hid (HO.out.later hb3)
  have HW3 : Hid (Below bx w w3) := Lib.hid (hb3.mono (Nat.le_of_lt hbw))
  have hw3 : bx < w3.heap.size := HB3.out.lt
  have HB4 : Hid (Blk (w3.alloc (.cells #[.bool a1, .int .u64 (a2 : Int), .int .u64 (a3 : Int), .int .i64 (a4 : Int)] 45 (0, 0))) bx 35 #[v]) := Lib.hid (HB3.out.alloc _)
  have HO4 : Hid (OwnK layPf (w3.alloc (.cells #[.bool a1, .int .u64 (a2 : Int), .int .u64 (a3 : Int), .int .i64 (a4 : Int)] 45 (0, 0))) (bx + 1) v acc) := Lib.hid (HO3.out.alloc _)
  have HW4 : Hid (Below bx w (w3.alloc (.cells #[.bool a1, .int .u64 (a2 : Int), .int .u64 (a3 : Int), .int .i64 (a4 : Int)] 45 (0, 0)))) := Lib.hid (Below.alloc HW3.out (Nat.le_of_lt hw3) _)
  have HP4 : Hid (Blk (w3.alloc (.cells #[.bool a1, .int .u64 (a2 : Int), .int .u64 (a3 : Int), .int .i64 (a4 : Int)] 45 (0, 0))) w3.heap.size 45 #[.bool a1, .int .u64 (a2 : Int), .int .u64 (a3 : Int), .int .i64 (a4 : Int)]) := Lib.hid (Blk.new w3 _ _)
  have hw4 : bx < (w3.alloc (.cells #[.bool a1, .int .u64 (a2 : Int), .int .u64 (a3 : Int), .int .i64 (a4 : Int)] 45 (0, 0))).heap.size := by simp; omega
  clear hb3 HB HO HP HB3 HO3 HW3
  go_upto_region 2 with fail
  generalize w3.alloc (.cells #[.bool a1, .int .u64 (a2 : Int), .int .u64 (a3 : Int), .int .i64 (a4 : Int)] 45 (0, 0)) = w4 at *
  generalize w3.heap.size = by_ at *
  have c0 := HB4.out.cell 0
  simp at c0
  have d0 := HP4.out.cell 0
  have d1 := HP4.out.cell 1
  have d2 := HP4.out.cell 2
  have d3 := HP4.out.cell 3
  simp at d0 d1 d2 d3
  go_wp2_with (at_builtin; refine wpList_app pfE rfl (.tmp 11) (.tmp 13) rfl rfl (World.ownsRow.alloc HO4.out _) rfl (src_new layPf _ (a1, a2, a3, (a4 : Int)) _ _ ?c0) ?c1 ?c2 ?c3 ?c4 ?_)
  case c0 => rfl
  case c1 => exact layPf.one _
  case c2 => unfold maxLen; omega
  case c3 => omega
  case c4 => simp; omega
  intro v' w' hO hG
  have HO' : Hid (OwnK layPf w' (bx + 1) v' (acc ++ [(a1, a2, a3, (a4 : Int))])) := Lib.hid (OwnK.snoc hO)
  have hb5 := hG.below (by simp; omega) (own_base HO4.out)
  have HW5 : Hid (Below bx w w') := Lib.hid ((Below.alloc HW4.out (Nat.le_of_lt hw4) _).trans (hb5.mono (Nat.le_succ bx)))
  have HB5 : Hid (Blk w' bx 35 #[v]) := Lib.hid ((HB4.out.alloc _).below hb5 (Nat.lt_succ_self bx))
  clear hO hG HO4 HB4 HW4 HP4 hb5 d0 d1 d2 d3 c0
  have c0 := HB5.out.cell 0
  simp at c0
  have hfr := HB5.out.free 0
  obtain ⟨ao, co, hvo, -⟩ := HO'.out.form
  generalize (acc ++ [(a1, a2, a3, (a4 : Int))]).length = nn at hvo
  subst hvo
  go_wp2_with fail
  go_ret
  exact ⟨_, (a1, a2, a3, (a4 : Int)), by rcases hf with rfl | rfl <;> rfl, HB5.out.set 0 _, ownsRow_setCell_below HO'.out (Nat.lt_succ_self bx) _, Hpq.out, Below.setCell (p := ⟨bx, 0, none⟩) HW5.out (Nat.le_refl _) _⟩
set_option maxRecDepth 100000 in
set_option maxHeartbeats 4000000 in
theorem qLines_any (s : List UInt8) (w0 w : World) (bx : Nat) (hbx : w0.heap.size = bx) (hv : Vr w0) (hb : Below bx w0 w) (hB : Blk w bx 35 #[.slice none 0 0]) (hs : s.length ≤ 200000) :
    Calls Tryz.prog 45 #[.string (strL s), .func (.func 46) #[] #[.pointer (some ⟨bx, 0, none⟩)]] w fun e w' => ∃ (i : Nat) (ok : Bool) (v : Value) (L : List Pf), e = .returned (.tuple #[.int .i64 (i : Int), .bool ok]) ∧ Blk w' bx 35 #[v] ∧ OwnK layPf w' (bx + 1) v L ∧ Below bx w0 w' ∧ (ok = false → rdS 0 (spl 10 s) [] = .inl i) ∧ (ok = true → rdS 0 (spl 10 s) [] = .inr L ∧ U4 L ∧ L.length ≤ 100000) := by
  have HV0 := Lib.hid hv
  have HW0 := Lib.hid hb
  have HB0 := Lib.hid hB
  have Hbx := Lib.hid hbx
  have HSt : Hid (∃ r : List UInt8, s = r ∧ rdS 0 (spl 10 r) [] = rdS 0 (spl 10 s) [] ∧ r.length ≤ s.length) := Lib.hid ⟨s, rfl, rfl, Nat.le_refl _⟩
  obtain ⟨R, hR⟩ : ∃ q, rdS 0 (spl 10 s) [] = q := ⟨_, rfl⟩
  have HR := Lib.hid hR
  rw [hR]
  obtain ⟨SS, hSS⟩ : ∃ q, strL s = q := ⟨_, rfl⟩
  have HSS := Lib.hid hSS
  rw [hSS]
  clear hv hb hB hbx HSt hR hSS
  go_enter Tryz.func45, Tryz.ntmps45
  go_wp2_with fail
  go_loopw [0, 6, 7, 8, 9] (fun sr i s7 s8 s9 wr => ∃ (k : Nat) (r : List UInt8) (acc : List Pf) (v : Value), i = .int .i64 (k : Int) ∧ sr = .string (strL r) ∧ r.length + 2 * k ≤ s.length ∧ Hid (rdS k (spl 10 r) acc = R) ∧ Hid (acc.length = k) ∧ Hid (U4 acc) ∧ Hid (Blk wr bx 35 #[v]) ∧ Hid (OwnK layPf wr (bx + 1) v acc) ∧ Hid (Below bx w0 wr)) (fun _ i _ _ _ _ => s.length - (intOf i).toNat)
  case atStart => exact ⟨0, s, [], _, rfl, by rw [HSS.out], Nat.le_refl _, HR, Lib.hid rfl, Lib.hid (fun p hp => by cases hp), HB0, Lib.hid (OwnK.nil _ _ _), HW0⟩
  case round =>
    clear HW0 HB0 HR
    obtain ⟨k, r, acc, v, rfl, rfl, hlen, HA, HAl, HU, HB, HO, HW⟩ := hrel
    have HV : Hid (Vr wr) := Lib.hid (HV0.out.below (by rw [Hbx.out]; exact HW.out))
    have hse := strL_list r
    have hrl : r.length ≤ 1000000 := by omega
    have HC : Hid (∀ wx, Vr wx → Calls Tryz.prog 28 #[.string (strL r), .string ⟨#[10]⟩] wx (Ret (.tuple #[.string (strL (Lib.cut r [10]).1), .string (strL (Lib.cut r [10]).2.1), .bool (Lib.cut r [10]).2.2]) wx)) := Lib.hid fun wx hv => cut_any r [10] wx hv hrl
    have hcs := cut_spl r 10
    by_cases h0 : r = []
    · have hem : r.isEmpty = true := by rw [h0]; rfl
      have HE : Hid (R = .inr acc) := Lib.hid (by rw [← HA.out, h0]; exact rdS_last _ _)
      clear hcs HC
      obtain ⟨SR, hSR⟩ : ∃ q, strL r = q := ⟨_, rfl⟩
      rw [hSR] at hse ⊢
      clear hSR
      go_wp2_with fail
      go_ret2
      exact ⟨0, true, v, acc, rfl, HB.out, HO.out, HW.out, fun h => (by cases h), fun _ => ⟨HE.out, HU.out, by rw [HAl.out]; omega⟩⟩
    · have hem : r.isEmpty = false := by cases r with
        | nil => exact absurd rfl h0
        | cons _ _ => rfl
      rcases hcs with ⟨-, hcut, hspl⟩ | ⟨l, r2, hr, hcut, hspl⟩
      · rw [hcut] at HC
        have HE : Hid (R = .inl k) := Lib.hid (by rw [← HA.out, hspl]; exact rdS_open h0)
        have HCx := Lib.hid (HC.out _ HV.out)
        simp only at HCx
        clear hcut hspl HC
        obtain ⟨SR, hSR⟩ : ∃ q, strL r = q := ⟨_, rfl⟩
        rw [hSR] at hse HCx ⊢
        clear hSR
        obtain ⟨SE, hSE⟩ : ∃ q, strL [] = q := ⟨_, rfl⟩
        rw [hSE] at HCx
        clear hSE
        go_wp2_with fail
        refine HCx.out.mono ?_
        rintro e w3 ⟨rfl, hb⟩
        have hlt := HB.out.lt
        have HB3 := Lib.hid (HB.out.below hb hlt)
        have HO3 := Lib.hid (HO.out.later hb)
        have HW3 := Lib.hid (HW.out.trans (hb.mono (Nat.le_of_lt hlt)))
        clear hb HCx
        go_wp2_with fail
        go_ret2
        exact ⟨k, false, v, acc, rfl, HB3.out, HO3.out, HW3.out, fun _ => HE.out, fun h => (by cases h)⟩
      · rw [hcut] at HC
        have HCx := Lib.hid (HC.out _ HV.out)
        simp only at HCx
        have hll : l.length + r2.length + 1 = r.length := by rw [hr, List.length_append, List.length_cons]; omega
        have hkl : acc.length ≤ 1000000 := by rw [HAl.out]; omega
        have HSr := Lib.hid fun wx v (h1 : Blk wx bx 35 #[v]) (h2 : OwnK layPf wx (bx + 1) v acc) (h3 : Vr wx) => sr1_any bx acc l v wx h1 h2 h3 (by omega) hkl
        have HN : Hid (pP l = none → R = .inl k) := Lib.hid fun h => by rw [← HA.out, hspl]; exact rdS_bad (spl_ne _ _) h
        have HY : Hid (∀ p, pP l = some p → rdS (k + 1) (spl 10 r2) (acc ++ [p]) = R) := Lib.hid fun p h => by rw [← HA.out, hspl]; exact (rdS_good (spl_ne _ _) h).symm
        have HPs : Hid (∀ p, pP l = some p → 1 ≤ l.length) := Lib.hid fun p h => pP_pos h
        have HUx : Hid (∀ p, pP l = some p → U64N p.2.1 ∧ U64N p.2.2.1) := Lib.hid fun p h => pP_u (by omega) h
        clear hcut hspl HC HA hr hkl
        obtain ⟨SR, hSR⟩ : ∃ q, strL r = q := ⟨_, rfl⟩
        rw [hSR] at hse HCx ⊢
        clear hSR
        obtain ⟨SLl, hSL⟩ : ∃ q, strL l = q := ⟨_, rfl⟩
        rw [hSL] at HCx HSr
        clear hSL
        go_wp2_with fail
        refine HCx.out.mono ?_
        rintro e w3 ⟨rfl, hb⟩
        have hlt := HB.out.lt
        have HB3 := Lib.hid (HB.out.below hb hlt)
        have HO3 := Lib.hid (HO.out.later hb)
        have HW3 := Lib.hid (HW.out.trans (hb.mono (Nat.le_of_lt hlt)))
        have HV3 : Hid (Vr w3) := Lib.hid (HV0.out.below (by rw [Hbx.out]; exact HW3.out))
        have HSx := Lib.hid (HSr.out w3 v HB3.out HO3.out HV3.out)
        clear hb HCx HB HO HW HV HSr HV3
        go_wp2_with fail
        refine HSx.out.mono ?_
        rintro e w4 ⟨v4, q, rfl, hB4, hO4, hq, hb4⟩
        have HB4 := Lib.hid hB4
        have HO4 := Lib.hid hO4
        have HW4 := Lib.hid (HW3.out.trans hb4)
        have Hq := Lib.hid hq
        clear hB4 hO4 hb4 hq HSx HB3 HO3 HW3
        cases hp : pP l with
        | none =>
          have HE := Lib.hid (HN.out hp)
          clear HN HY HPs HUx Hq hp
          simp only [Option.isSome_none]
          go_wp2_with fail
          go_ret2
          exact ⟨k, false, v4, _, rfl, HB4.out, HO4.out, HW4.out, fun _ => HE.out, fun h => (by cases h)⟩
        | some p =>
          have hqp := Hq.out p hp
          subst hqp
          have HE := Lib.hid (HY.out _ hp)
          have hl1 := HPs.out _ hp
          have HU4 : Hid (U4 (acc ++ [q])) := Lib.hid (fun z hz => (List.mem_append.1 hz).elim (HU.out z) (fun h => by rw [List.mem_singleton.1 h]; exact HUx.out _ hp))
          clear HN HY HPs HUx Hq hp
          simp only [Option.isSome_some]
          go_wp2_with fail
          exact ⟨⟨k + 1, r2, acc ++ [q], v4, by go_num, rfl, by omega, HE, Lib.hid (by rw [List.length_append, HAl.out]; rfl), HU4, HB4, HO4, HW4⟩, by simp [intOf]; omega⟩
set_option maxRecDepth 100000 in
set_option maxHeartbeats 4000000 in
theorem setRead_any (s : List UInt8) (w : World) (hv : Vr w) (hs : s.length ≤ 1000000) :
    Calls Tryz.prog 17 #[.string (strL s)] w fun e w' => ∃ v L i f, rsR s = (L, i, f) ∧ e = .returned (.tuple #[v, .int .i64 i, .int .i64 f]) ∧ OwnK layPf w' w.heap.size v L ∧ Below w.heap.size w w' := by
  have hsz : (strL s).size = s.length := strL_size s
  obtain ⟨sl, hsl⟩ : ∃ q, s.length = q := ⟨_, rfl⟩
  have HR0 : Hid (rsR s = if 200000 < sl then ([], 0, 2) else rsV (rdS 0 (spl 10 s) [])) := Lib.hid (by rw [← hsl]; rfl)
  have HL := Lib.hid fun wx hb hB (h : s.length ≤ 200000) => qLines_any s w wx w.heap.size rfl hv hb hB h
  rw [hsl] at hsz hs HL
  generalize rsR s = RR at *
  generalize rdS 0 (spl 10 s) [] = R at *
  obtain ⟨SS, hSS⟩ : ∃ q, strL s = q := ⟨_, rfl⟩
  rw [hSS] at hsz HL ⊢
  clear hSS hsl hv
  go_enter Tryz.func17, Tryz.ntmps17
  by_cases hbig : 200000 < sl
  · have hR := HR0.out
    rw [if_pos hbig] at hR
    subst hR
    clear HR0 HL
    have hbi : (200000 : Int) < (sl : Int) := by omega
    go_wp2_with fail
    go_ret3
    exact ⟨.slice none 0 0, [], 0, 2, rfl, rfl, OwnK.nil _ _ _, Below.refl _ _⟩
  · have hR := HR0.out
    rw [if_neg hbig] at hR
    have HR := Lib.hid hR
    have hbi : ¬ (200000 : Int) < (sl : Int) := by omega
    have hbi2 : ¬ (sl : Int) > 200000 := by omega
    clear HR0 hR
    have HL1 := Lib.hid (HL.out _ (below_alloc (Below.refl _ _) _) (Blk.new w 35 #[.slice none 0 0]) (by omega))
    clear HL
    go_upto_region 4 with fail
    generalize w.alloc (.cells #[.slice none 0 0] 35 (0, 0)) = w1 at *
    obtain ⟨bx, hbx⟩ : ∃ q, w.heap.size = q := ⟨_, rfl⟩
    rw [hbx] at HL1 ⊢
    have Hbx := Lib.hid hbx
    clear hbx hbi hbi2
    go_wp2_with fail
    refine HL1.out.mono ?_
    rintro e w3 ⟨i, ok, v, L, rfl, hB, hO, hb, hno, hyes⟩
    have HB3 := Lib.hid hB
    have HO3 := Lib.hid hO
    have HW3 := Lib.hid hb
    have Hno := Lib.hid hno
    have Hyes := Lib.hid hyes
    clear hB hO hb hno hyes HL1
    cases ok
    · have HE : Hid (RR = ([], (i : Int), 9)) := Lib.hid (by rw [HR.out, Hno.out rfl]; rfl)
      clear Hno Hyes
      go_wp2_with fail
      go_ret3
      exact ⟨.slice none 0 0, [], (i : Int), 9, HE.out, rfl, OwnK.nil _ _ _, by rw [Hbx.out]; exact HW3.out⟩
    · have hy := Hyes.out rfl
      have HE : Hid (RR = if setF L = 0 then (L, 0, 0) else ([], 0, setF L)) := Lib.hid (by rw [HR.out, hy.1]; rfl)
      obtain ⟨ao, co, hvo, -⟩ := HO3.out.form
      subst hvo
      have HC := Lib.hid (setFault_any ao L.length co L w3 HO3.out.rd rfl hy.2.2 hy.2.1)
      have HSe : Hid (setF L = setF L) := Lib.hid rfl
      obtain ⟨F, hF⟩ : ∃ q, setF L = q := ⟨_, rfl⟩
      rw [hF] at HC HE
      obtain ⟨n, hn⟩ : ∃ n, L.length = n := ⟨_, rfl⟩
      have Hn := Lib.hid hn
      rw [hn] at HC HO3 HB3
      clear hy Hno Hyes HSe hF hn
      have c0 := HB3.out.cell 0
      simp at c0
      go_wp2_with fail
      refine HC.out.mono ?_
      rintro e w4 ⟨rfl, hb4⟩
      have hlt := HB3.out.lt
      have HB4 := Lib.hid (HB3.out.below hb4 hlt)
      have HO4 := Lib.hid (HO3.out.later hb4)
      have HW4 := Lib.hid (HW3.out.trans (hb4.mono (Nat.le_of_lt hlt)))
      clear hb4 HB3 HO3 HW3 HC c0
      have c0 := HB4.out.cell 0
      simp at c0
      by_cases hF : F = 0
      · have hRR := HE.out
        subst hF
        rw [if_pos rfl] at hRR
        go_wp2_with fail
        go_ret3
        exact ⟨_, L, 0, 0, hRR, rfl, HO4.out.weak (by rw [Hbx.out]; exact Nat.le_succ bx), by rw [Hbx.out]; exact HW4.out⟩
      · have hRR := HE.out
        rw [if_neg hF] at hRR
        have hb1 : (F != 0) = true := by simpa using hF
        go_wp2_with fail
        go_ret3
        exact ⟨.slice none 0 0, [], 0, F, hRR, rfl, OwnK.nil _ _ _, by rw [Hbx.out]; exact HW4.out⟩
end Go.Proofs.YtcpafmndjcejjaaGreatDoor
