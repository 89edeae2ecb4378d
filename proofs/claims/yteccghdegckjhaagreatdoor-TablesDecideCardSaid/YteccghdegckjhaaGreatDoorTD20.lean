/-
  The edges of a table: the addresses at which it can begin to say something else.
-/
import Derived.Test.YteccghdegckjhaaGreatDoorTD19
import Derived.Test.YteccghdegckjhaaGreatDoorTD12
set_option linter.unusedVariables false
namespace Go.Proofs.YteccghdegckjhaaGreatDoor
open Go.RowKit Go
set_option linter.unusedVariables false

theorem adC_zero : adC 0 = [.bool false, .int .u64 0, .int .u64 0] := by rfl
theorem adC_six : adC (2 ^ 128) = [.bool true, .int .u64 0, .int .u64 0] := by
  have h1 : sixN (2 ^ 128) = true := by decide +kernel
  have h2 : hiN (2 ^ 128) = 0 := by decide +kernel
  have h3 : loN (2 ^ 128) = 0 := by decide +kernel
  unfold adC
  rw [h1, h2, h3]
  rfl
theorem own_two (w : World) : OwnK layAd (w.alloc (.cells #[.bool false, .int .u64 0, .int .u64 0, .bool true, .int .u64 0, .int .u64 0] 28 (0, 0))) w.heap.size (.slice (some ⟨w.heap.size, 0, none⟩) 2 2) [0, 2 ^ 128] := by
  have he : layAd.all [0, 2 ^ 128] = [.bool false, .int .u64 0, .int .u64 0, .bool true, .int .u64 0, .int .u64 0] := by
    show adC 0 ++ (adC (2 ^ 128) ++ []) = _
    rw [adC_zero, adC_six]
    rfl
  refine ⟨layAd.all_len _, .inr ⟨w.heap.size, 2, #[.bool false, .int .u64 0, .int .u64 0, .bool true, .int .u64 0, .int .u64 0], rfl, Nat.le_refl _, heap_alloc_new w _, Nat.le_refl _, by unfold maxLen; omega, rfl, ?_⟩⟩
  rw [he]
  rfl
theorem spP_vn {p : Pf} (h : OkPf p) : VN (spP p).2 ∧ topN (spP p).2 = topN (nuP p) := by
  have h1 : VN (spP p).2 := VN_fil h.num.1 h.bits
  refine ⟨h1, ?_⟩
  rw [top_val h1, top_val h.num.1]
  have h2 := fil_six h.num.1 h.bits
  show (if sixN (fil (nuP p) (LN (nuP p) - p.2.2.2.toNat)) = true then _ else _) = _
  rw [h2]
theorem edT_len {T : List En} : (T.flatMap edE).length ≤ 2 * T.length := by
  induction T with
  | nil => simp
  | cons e T ih =>
    rw [List.flatMap_cons, List.length_append, List.length_cons]
    have : (edE e).length ≤ 2 := by
      unfold edE
      split <;> simp
    omega
def edK (T : List En) (k : Nat) : List Nat := 0 :: 2 ^ 128 :: (T.take k).flatMap edE
theorem edK_step {T : List En} {k : Nat} {e : En} (h : T[k]? = some e) : edK T (k + 1) = edK T k ++ edE e := by
  unfold edK
  rw [List.take_add_one, h, List.flatMap_append]
  simp
theorem edK_len (T : List En) (k : Nat) (h : k ≤ 500) : (edK T k).length ≤ 1002 := by
  unfold edK
  rw [List.length_cons, List.length_cons]
  have := edT_len (T := T.take k)
  have := List.length_take_le k T
  omega
set_option maxRecDepth 100000 in
set_option maxHeartbeats 8000000 in
theorem aEdges_any (ad : Option Addr) (n c : Nat) (T : List En) (w : World) (h : RdK layEn w ad T) (hn : T.length = n) (hs : n ≤ 500) (hk : OkT T) :
    Calls Tryz.prog 54 #[.slice ad n c] w fun e w' => ∃ v, e = .returned v ∧ OwnK layAd w' w.heap.size v (edT T) ∧ Below w.heap.size w w' := by
  have H0 := Lib.hid h
  have Hn := Lib.hid hn
  have Hk := Lib.hid hk
  have HEn : Hid (edK T n = edT T) := Lib.hid (by unfold edK edT; rw [← hn, List.take_length])
  have HLn := Lib.hid fun k (hk : k ≤ n) => edK_len T k (by omega)
  have HSt := Lib.hid fun k e (h : T[k]? = some e) => edK_step h
  have HO0 : Hid (OwnK layAd (w.alloc (.cells #[.bool false, .int .u64 0, .int .u64 0, .bool true, .int .u64 0, .int .u64 0] 28 (0, 0))) w.heap.size (.slice (some ⟨w.heap.size, 0, none⟩) 2 2) (edK T 0)) := Lib.hid (own_two w)
  have HB0 : Hid (Below w.heap.size w (w.alloc (.cells #[.bool false, .int .u64 0, .int .u64 0, .bool true, .int .u64 0, .int .u64 0] 28 (0, 0)))) := Lib.hid (below_alloc (Below.refl _ _) _)
  clear h hn hk
  generalize edT T = ET at *
  generalize hek : edK T = ek at *
  clear hek
  go_enter Tryz.func54, Tryz.ntmps54
  go_upto_region 2 with fail
  generalize w.alloc (.cells #[.bool false, .int .u64 0, .int .u64 0, .bool true, .int .u64 0, .int .u64 0] 28 (0, 0)) = w1 at *
  go_wp2_with fail
  go_loopw [3, 5, 6, 7, 13] (fun v s5 s6 s7 i wr => ∃ (k : Nat) (V : Value), k ≤ n ∧ i = .int .i64 (k : Int) ∧ V = v ∧ Hid (OwnK layAd wr w.heap.size V (ek k)) ∧ Hid (Below w.heap.size w wr)) (fun _ _ _ _ i _ => n - (intOf i).toNat)
  case atStart => exact ⟨0, _, Nat.zero_le _, rfl, rfl, HO0, HB0⟩
  case round =>
    clear HO0 HB0
    obtain ⟨k, v, hk, rfl, rfl, HO, HB⟩ := hrel
    by_cases hlt : k < n
    · have hS : k < T.length := by rw [Hn.out]; exact hlt
      obtain ⟨x, hx⟩ : ∃ x, T[k]? = some x := ⟨_, List.getElem?_eq_getElem hS⟩
      have hok := (Hk.out x (List.mem_of_getElem? hx)).1
      have HE : Hid (ek (k + 1) = ek k ++ edE x) := Lib.hid (HSt.out k x hx)
      have HL := Lib.hid (HLn.out k (by omega))
      have HR := Lib.hid (H0.out.below HB.out)
      obtain ⟨hyv, hyt⟩ := spP_vn hok
      have HLs := Lib.hid fun wx => spanLastN wx hok.num.1 hok.bits
      have HNx := Lib.hid fun wx => nextN wx hyv
      have hed : edE x = nuP x.1 :: (if (spP x.1).2 = topN (nuP x.1) then [] else [(spP x.1).2 + 1]) := rfl
      rw [hed] at HE
      rw [hyt] at HNx
      obtain ⟨a1, a2, a3, a4, hpc, hpN, haN⟩ := pf_cells hok
      have hec : layEn.enc x = [.bool a1, .int .u64 (a2 : Int), .int .u64 (a3 : Int), .int .i64 (a4 : Int), .string (strL x.2)] := by
        show enC x = _
        have : enC x = pfC x.1 ++ [.string (strL x.2)] := rfl
        rw [this, hpc]
        rfl
      have HaN : Hid ((layAd.enc (nuP x.1)).toArray = #[.bool a1, .int .u64 (a2 : Int), .int .u64 (a3 : Int)]) := Lib.hid haN
      rw [hpN] at HLs
      rw [show fil (nuP x.1) (LN (nuP x.1) - x.1.2.2.2.toNat) = (spP x.1).2 from rfl] at HLs
      obtain ⟨g, o, had, hg, hcell⟩ := HR.out k x hx
      rw [hec] at hcell
      have c0 := hcell 0 _ rfl
      have c1 := hcell 1 _ rfl
      have c2 := hcell 2 _ rfl
      have c3 := hcell 3 _ rfl
      have c4 := hcell 4 _ rfl
      rw [show layEn.K = 5 from rfl] at c0 c1 c2 c3 c4
      simp only [Nat.add_zero] at c0
      simp only [← Nat.add_assoc] at c1 c2 c3 c4
      subst had
      clear hcell hec hpc hpN haN hok hyv hyt hed hx hS hg HR
      generalize (spP x.1).2 = y at *
      generalize topN (nuP x.1) = tp at *
      generalize hnx : nuP x.1 = nx at *
      generalize strL x.2 = KX at *
      generalize aN y = YA at *
      have HP : Hid (Blk (wr.alloc (.cells #[.bool a1, .int .u64 (a2 : Int), .int .u64 (a3 : Int), .int .i64 (a4 : Int), .string KX] 48 (0, 0))) wr.heap.size 48 #[.bool a1, .int .u64 (a2 : Int), .int .u64 (a3 : Int), .int .i64 (a4 : Int), .string KX]) := Lib.hid (Blk.new wr _ _)
      have HO1 := Lib.hid (HO.out.alloc (.cells #[.bool a1, .int .u64 (a2 : Int), .int .u64 (a3 : Int), .int .i64 (a4 : Int), .string KX] 48 (0, 0)))
      have HB1 : Hid (Below w.heap.size w (wr.alloc (.cells #[.bool a1, .int .u64 (a2 : Int), .int .u64 (a3 : Int), .int .i64 (a4 : Int), .string KX] 48 (0, 0)))) := Lib.hid (Below.alloc HB.out HB.out.size _)
      go_upto_region 5 with fail
      generalize wr.alloc (.cells #[.bool a1, .int .u64 (a2 : Int), .int .u64 (a3 : Int), .int .i64 (a4 : Int), .string KX] 48 (0, 0)) = w3 at *
      generalize wr.heap.size = bx at *
      clear HB HO c0 c1 c2 c3 c4 hnx
      have d0 := HP.out.cell 0
      have d1 := HP.out.cell 1
      have d2 := HP.out.cell 2
      simp at d0 d1 d2
      generalize hEk : ek k = EK at *
      clear hEk
      go_wp2_with (at_builtin; refine wpList_app adE rfl (.tmp 17) (.tmp 21) rfl rfl (World.ownsRow.alloc HO1.out _) rfl (src_new layAd _ nx _ _ ?c0) ?c1 ?c2 ?c3 ?c4 ?_)
      case c0 => exact HaN.out.symm
      case c1 => exact layAd.one _
      case c2 => unfold maxLen; have := HL.out; omega
      case c3 => have := HL.out; omega
      case c4 => have := HB1.out.size; simp; omega
      intro v' w4 hO hG
      have HO4 : Hid (OwnK layAd w4 w.heap.size v' (EK ++ [nx])) := Lib.hid (OwnK.snoc hO)
      have HP4 := Lib.hid ((HP.out.alloc (.cells #[.bool a1, .int .u64 (a2 : Int), .int .u64 (a3 : Int)] 28 (0, 0))).grew (World.ownsRow.alloc HO1.out _) (by decide) hG)
      have HB4 : Hid (Below w.heap.size w w4) := Lib.hid ((Below.alloc HB1.out HB1.out.size _).trans (hG.below (by have := HB1.out.size; simp; omega) (own_base HO1.out)))
      clear hO hG HO1 HP HB1 d0 d1 d2
      have d0 := HP4.out.cell 0
      have d1 := HP4.out.cell 1
      have d2 := HP4.out.cell 2
      have d3 := HP4.out.cell 3
      simp at d0 d1 d2 d3
      go_wp2_with fail
      refine (HLs.out _).mono ?_
      rintro e w5 ⟨rfl, hb⟩
      have HO5 := Lib.hid (HO4.out.later hb)
      have HB5 := Lib.hid (HB4.out.trans (hb.mono HB4.out.size))
      clear hb HO4 HP4 HB4 HLs d0 d1 d2 d3
      by_cases hT : y = tp
      · have HE2 : Hid (ek (k + 1) = EK ++ [nx]) := Lib.hid (by rw [HE.out, if_pos hT])
        rw [if_pos hT, decide_eq_true hT] at HNx
        clear HE hT
        obtain ⟨v1, v2, v3, hz⟩ : ∃ (v1 : Bool) (v2 v3 : Nat), aN y = #[.bool v1, .int .u64 (v2 : Int), .int .u64 (v3 : Int)] := ⟨_, _, _, rfl⟩
        rw [hz] at HNx
        clear hz
        go_wp2_with fail
        refine (HNx.out _).mono ?_
        rintro e w6 ⟨rfl, hb⟩
        have HO6 := Lib.hid ((HO5.out.later hb).alloc (.cells #[.bool v1, .int .u64 (v2 : Int), .int .u64 (v3 : Int)] 28 (0, 0)))
        have HB6 : Hid (Below w.heap.size w (w6.alloc (.cells #[.bool v1, .int .u64 (v2 : Int), .int .u64 (v3 : Int)] 28 (0, 0)))) := Lib.hid (Below.alloc (HB5.out.trans (hb.mono HB5.out.size)) (Nat.le_trans HB5.out.size hb.size) _)
        clear hb HO5 HB5 HNx
        go_upto_region 7 with fail
        generalize w6.alloc (.cells #[.bool v1, .int .u64 (v2 : Int), .int .u64 (v3 : Int)] 28 (0, 0)) = w7 at *
        generalize w6.heap.size = zb at *
        go_wp2_with fail
        exact ⟨⟨k + 1, _, by omega, by go_num, rfl, by rw [HE2.out]; exact HO6, HB6⟩, by simp [intOf]; omega⟩
      · have HE2 : Hid (ek (k + 1) = (EK ++ [nx]) ++ [y + 1]) := Lib.hid (by rw [HE.out, if_neg hT]; simp)
        rw [if_neg hT, decide_eq_false hT] at HNx
        clear HE hT
        obtain ⟨v1, v2, v3, hz⟩ : ∃ (v1 : Bool) (v2 v3 : Nat), aN (y + 1) = #[.bool v1, .int .u64 (v2 : Int), .int .u64 (v3 : Int)] := ⟨_, _, _, rfl⟩
        have HzN : Hid ((layAd.enc (y + 1)).toArray = #[.bool v1, .int .u64 (v2 : Int), .int .u64 (v3 : Int)]) := Lib.hid hz
        rw [hz] at HNx
        clear hz
        go_wp2_with fail
        refine (HNx.out _).mono ?_
        rintro e w6 ⟨rfl, hb⟩
        have HO6 := Lib.hid ((HO5.out.later hb).alloc (.cells #[.bool v1, .int .u64 (v2 : Int), .int .u64 (v3 : Int)] 28 (0, 0)))
        have HQ6 : Hid (Blk (w6.alloc (.cells #[.bool v1, .int .u64 (v2 : Int), .int .u64 (v3 : Int)] 28 (0, 0))) w6.heap.size 28 #[.bool v1, .int .u64 (v2 : Int), .int .u64 (v3 : Int)]) := Lib.hid (Blk.new w6 _ _)
        have HB6 : Hid (Below w.heap.size w (w6.alloc (.cells #[.bool v1, .int .u64 (v2 : Int), .int .u64 (v3 : Int)] 28 (0, 0)))) := Lib.hid (Below.alloc (HB5.out.trans (hb.mono HB5.out.size)) (Nat.le_trans HB5.out.size hb.size) _)
        clear hb HO5 HB5 HNx
        go_upto_region 7 with fail
        generalize w6.alloc (.cells #[.bool v1, .int .u64 (v2 : Int), .int .u64 (v3 : Int)] 28 (0, 0)) = w7 at *
        generalize w6.heap.size = zb at *
        have f0 := HQ6.out.cell 0
        have f1 := HQ6.out.cell 1
        have f2 := HQ6.out.cell 2
        simp at f0 f1 f2
        have hlen : (EK ++ [nx]).length ≤ 1003 := by rw [List.length_append]; have := HL.out; simp; omega
        generalize EK ++ [nx] = EL at *
        have HLe := Lib.hid hlen
        clear hlen HL
        go_wp2_with (at_builtin; refine wpList_app adE rfl (.tmp 31) (.tmp 33) rfl rfl (World.ownsRow.alloc HO6.out _) rfl (src_new layAd _ (y + 1) _ _ ?e0) ?e1 ?e2 ?e3 ?e4 ?_)
        case e0 => exact HzN.out.symm
        case e1 => exact layAd.one _
        case e2 => unfold maxLen; have := HLe.out; omega
        case e3 => have := HLe.out; omega
        case e4 => have := HB6.out.size; simp; omega
        intro v2' w8 hO hG
        have HO8 : Hid (OwnK layAd w8 w.heap.size v2' (EL ++ [y + 1])) := Lib.hid (OwnK.snoc hO)
        have HB8 : Hid (Below w.heap.size w w8) := Lib.hid ((Below.alloc HB6.out HB6.out.size _).trans (hG.below (by have := HB6.out.size; simp; omega) (own_base HO6.out)))
        clear hO hG HO6 HB6 HQ6 f0 f1 f2
        go_wp2_with fail
        exact ⟨⟨k + 1, _, by omega, by go_num, rfl, by rw [HE2.out]; exact HO8, HB8⟩, by simp [intOf]; omega⟩
    · obtain rfl : k = n := by omega
      have HOe : Hid (OwnK layAd wr w.heap.size v ET) := Lib.hid (by rw [← HEn.out]; exact HO.out)
      go_wp2_with fail
      go_ret
      exact ⟨_, rfl, HOe.out, HB.out⟩
end Go.Proofs.YteccghdegckjhaaGreatDoor
