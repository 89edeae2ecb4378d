/-
  The text of a prefix: prefixText and PrefixText of the program, PrefixLine of the reference.
-/
import Derived.Test.YteccghdegckjhaaGreatDoorPT35
import Derived.Test.YteccghdegckjhaaGreatDoorPT36
import Derived.Test.YteccghdegckjhaaGreatDoorPT3
import Derived.Test.YteccghdegckjhaaGreatDoorPT4
set_option linter.unusedVariables false
namespace Go.Proofs.YteccghdegckjhaaGreatDoor
open Go.RowKit Go Go.Sort
set_option linter.unusedVariables false

/-- the text of a prefix -/
def pfxT (six : Bool) (hi lo n : Nat) : ByteArray := txtA six hi lo ++ ⟨#[47]⟩ ++ ⟨(Lib.decDigits n).toArray⟩
theorem dec_size {n : Nat} (h : n < 1000) : (⟨(Lib.decDigits n).toArray⟩ : ByteArray).size ≤ 3 := by
  show (Lib.decDigits n).toArray.size ≤ 3
  rw [List.size_toArray, Lib.decDigits_length]
  exact nDigits_lt (by decide) h
theorem pfxT_size {six : Bool} {hi lo n : Nat} (h : n < 1000) : (pfxT six hi lo n).size ≤ 804 := by
  unfold pfxT
  have h1 := txtA_size six hi lo
  have h2 := dec_size h
  rw [ByteArray.size_append, ByteArray.size_append]
  have : (⟨#[47]⟩ : ByteArray).size = 1 := rfl
  omega
set_option maxRecDepth 100000 in
set_option maxHeartbeats 4000000 in
theorem prefixText_any (six : Bool) (hi lo n : Nat) (w : World) (h1 : U64N hi) (h2 : U64N lo) (hf : aFault six (hi : Int) (lo : Int) = 0) (hn : n < 1000) (ht : Tabs w) :
    Calls Tryz.prog 35 #[.agg #[.bool six, .int .u64 (hi : Int), .int .u64 (lo : Int), .int .i64 (n : Int)]] w (Ret (.string (pfxT six hi lo n)) w) := by
  have HP : Hid (Blk (w.alloc (.cells #[.bool six, .int .u64 (hi : Int), .int .u64 (lo : Int), .int .i64 (n : Int)] 30 (0, 0))) w.heap.size 30 #[.bool six, .int .u64 (hi : Int), .int .u64 (lo : Int), .int .i64 (n : Int)]) := Lib.hid (Blk.new w _ _)
  have HB : Hid (Below w.heap.size w (w.alloc (.cells #[.bool six, .int .u64 (hi : Int), .int .u64 (lo : Int), .int .i64 (n : Int)] 30 (0, 0)))) := Lib.hid (below_alloc (Below.refl _ _) _)
  have HV := Lib.hid (ht.below (below_alloc (Below.refl _ _) (.cells #[.bool six, .int .u64 (hi : Int), .int .u64 (lo : Int), .int .i64 (n : Int)] 30 (0, 0))))
  have hsz := txtA_size six hi lo
  have hds := dec_size hn
  have HE : Hid (pfxT six hi lo n = txtA six hi lo ++ ⟨#[47]⟩ ++ ⟨(Lib.decDigits n).toArray⟩) := Lib.hid rfl
  have HT := Lib.hid fun wx (ht : Tabs wx) => textOf_any six hi lo wx h1 h2 hf ht
  have HI := Lib.hid fun wx (ht : Tabs wx) => itoa_any n hn wx ht.1
  generalize pfxT six hi lo n = PT at *
  generalize txtA six hi lo = TX at *
  obtain ⟨DX, hDX⟩ : ∃ q : ByteArray, ⟨(Lib.decDigits n).toArray⟩ = q := ⟨_, rfl⟩
  rw [hDX] at hds HE HI
  clear h1 h2 hf ht hDX
  go_enter Tryz.func35, Tryz.ntmps35
  go_upto_region 1 with fail
  generalize w.alloc (.cells #[.bool six, .int .u64 (hi : Int), .int .u64 (lo : Int), .int .i64 (n : Int)] 30 (0, 0)) = w1 at *
  obtain ⟨bx, hbx⟩ : ∃ q, w.heap.size = q := ⟨_, rfl⟩
  have Hbx := Lib.hid hbx
  rw [hbx] at HP HB ⊢
  clear hbx
  have hb1 : bx ≤ w1.heap.size := Nat.le_of_lt HP.out.lt
  have c0 := HP.out.cell 0
  have c1 := HP.out.cell 1
  have c2 := HP.out.cell 2
  have c3 := HP.out.cell 3
  simp at c0 c1 c2 c3
  have l0 := Later.cell_of c0
  have l1 := Later.cell_of c1
  have l2 := Later.cell_of c2
  have l3 := Later.cell_of c3
  have hQT := fun m : Later w1 => Calls.later m (HT.out m.1 (HV.out.below m.2))
  have hQI := fun m : Later w1 => Calls.later m (HI.out m.1 (HV.out.below m.2))
  have nb1 : ¬ 9223372036854775807 < TX.size + 1 := by omega
  have nb2 : ¬ 9223372036854775807 < TX.size + 1 + DX.size := by omega
  clear hsz hds
  refine wp_region_later (by kernel_rfl) (by kernel_rfl) ?_
  repeat (go_big_quiet_step (first | (go_at_call 77; exact hQT _) | (go_at_call 41; exact hQI _)))
  refine wpQuiet_nil ?_
  rintro w4 ⟨m4, hm4⟩
  have hb4 : Below w1.heap.size w1 w4 := by rw [hm4]; exact m4.2
  have HB4 := Lib.hid (HB.out.trans (hb4.mono hb1))
  clear hm4 m4 hb4
  rw [← HE.out]
  go_wp2_with fail
  go_ret
  exact ⟨rfl, by rw [Hbx.out]; exact HB4.out⟩
set_option maxRecDepth 100000 in
set_option maxHeartbeats 4000000 in
theorem prefixLine_any (six : Bool) (hi lo n : Nat) (w : World) (h1 : U64N hi) (h2 : U64N lo) (hf : aFault six (hi : Int) (lo : Int) = 0) (hn : n < 1000) (ht : Tabs w) :
    Calls Tryz.prog 9 #[.agg #[.bool six, .int .u64 (hi : Int), .int .u64 (lo : Int), .int .i64 (n : Int)]] w (Ret (.string (pfxT six hi lo n)) w) := by
  have HP : Hid (Blk (w.alloc (.cells #[.bool six, .int .u64 (hi : Int), .int .u64 (lo : Int), .int .i64 (n : Int)] 30 (0, 0))) w.heap.size 30 #[.bool six, .int .u64 (hi : Int), .int .u64 (lo : Int), .int .i64 (n : Int)]) := Lib.hid (Blk.new w _ _)
  have HB : Hid (Below w.heap.size w (w.alloc (.cells #[.bool six, .int .u64 (hi : Int), .int .u64 (lo : Int), .int .i64 (n : Int)] 30 (0, 0)))) := Lib.hid (below_alloc (Below.refl _ _) _)
  have HV := Lib.hid (ht.below (below_alloc (Below.refl _ _) (.cells #[.bool six, .int .u64 (hi : Int), .int .u64 (lo : Int), .int .i64 (n : Int)] 30 (0, 0))))
  have hsz := txtA_size six hi lo
  have hds := dec_size hn
  have HE : Hid (pfxT six hi lo n = txtA six hi lo ++ ⟨#[47]⟩ ++ ⟨(Lib.decDigits n).toArray⟩) := Lib.hid rfl
  have HT := Lib.hid fun wx (ht : Tabs wx) => addrText_any six hi lo wx h1 h2 hf ht
  have HI := Lib.hid fun wx (ht : Tabs wx) => itoa_any n hn wx ht.1
  generalize pfxT six hi lo n = PT at *
  generalize txtA six hi lo = TX at *
  obtain ⟨DX, hDX⟩ : ∃ q : ByteArray, ⟨(Lib.decDigits n).toArray⟩ = q := ⟨_, rfl⟩
  rw [hDX] at hds HE HI
  clear h1 h2 hf ht hDX
  go_enter Tryz.func9, Tryz.ntmps9
  go_upto_region 1 with fail
  generalize w.alloc (.cells #[.bool six, .int .u64 (hi : Int), .int .u64 (lo : Int), .int .i64 (n : Int)] 30 (0, 0)) = w1 at *
  obtain ⟨bx, hbx⟩ : ∃ q, w.heap.size = q := ⟨_, rfl⟩
  have Hbx := Lib.hid hbx
  rw [hbx] at HP HB ⊢
  clear hbx
  have hb1 : bx ≤ w1.heap.size := Nat.le_of_lt HP.out.lt
  have c0 := HP.out.cell 0
  have c1 := HP.out.cell 1
  have c2 := HP.out.cell 2
  have c3 := HP.out.cell 3
  simp at c0 c1 c2 c3
  have l0 := Later.cell_of c0
  have l1 := Later.cell_of c1
  have l2 := Later.cell_of c2
  have l3 := Later.cell_of c3
  have hQT := fun m : Later w1 => Calls.later m (HT.out m.1 (HV.out.below m.2))
  have hQI := fun m : Later w1 => Calls.later m (HI.out m.1 (HV.out.below m.2))
  have nb1 : ¬ 9223372036854775807 < TX.size + 1 := by omega
  have nb2 : ¬ 9223372036854775807 < TX.size + 1 + DX.size := by omega
  clear hsz hds
  refine wp_region_later (by kernel_rfl) (by kernel_rfl) ?_
  repeat (go_big_quiet_step (first | (go_at_call 40; exact hQT _) | (go_at_call 41; exact hQI _)))
  refine wpQuiet_nil ?_
  rintro w4 ⟨m4, hm4⟩
  have hb4 : Below w1.heap.size w1 w4 := by rw [hm4]; exact m4.2
  have HB4 := Lib.hid (HB.out.trans (hb4.mono hb1))
  clear hm4 m4 hb4
  rw [← HE.out]
  go_wp2_with fail
  go_ret
  exact ⟨rfl, by rw [Hbx.out]; exact HB4.out⟩
theorem pFault_ok {six : Bool} {hi lo : Nat} {bits : Int} (h : pFault six hi lo bits = 0) : aFault six (hi : Int) (lo : Int) = 0 ∧ ∃ n : Nat, n < 1000 ∧ bits = (n : Int) := by
  unfold pFault at h
  by_cases h1 : aFault six (hi : Int) (lo : Int) ≠ 0
  · rw [if_pos h1] at h; cases h
  · rw [if_neg h1] at h
    refine ⟨by omega, ?_⟩
    by_cases h2 : outB bits 0 (lenN six : Nat) = true
    · rw [if_pos h2] at h; cases h
    · unfold outB at h2
      have := lenN_le six
      simp at h2
      exact ⟨bits.toNat, by omega, by omega⟩
def pfxO (six : Bool) (hi lo : Nat) (bits : Int) : ByteArray := if pFault six hi lo bits = 0 then pfxT six hi lo bits.toNat else ⟨#[]⟩
set_option maxRecDepth 100000 in
set_option maxHeartbeats 4000000 in
theorem prefixText_all (six : Bool) (hi lo : Nat) (bits : Int) (w : World) (h1 : U64N hi) (h2 : U64N lo) (ht : Tabs w) :
    Calls Tryz.prog 7 #[.agg #[.bool six, .int .u64 (hi : Int), .int .u64 (lo : Int), .int .i64 bits]] w (Ret (.tuple #[.string (pfxO six hi lo bits), .int .i64 (pFault six hi lo bits)]) w) := by
  have HP : Hid (Blk (w.alloc (.cells #[.bool six, .int .u64 (hi : Int), .int .u64 (lo : Int), .int .i64 bits] 30 (0, 0))) w.heap.size 30 #[.bool six, .int .u64 (hi : Int), .int .u64 (lo : Int), .int .i64 bits]) := Lib.hid (Blk.new w _ _)
  have HB : Hid (Below w.heap.size w (w.alloc (.cells #[.bool six, .int .u64 (hi : Int), .int .u64 (lo : Int), .int .i64 bits] 30 (0, 0)))) := Lib.hid (below_alloc (Below.refl _ _) _)
  have HV := Lib.hid (ht.below (below_alloc (Below.refl _ _) (.cells #[.bool six, .int .u64 (hi : Int), .int .u64 (lo : Int), .int .i64 bits] 30 (0, 0))))
  have HC := Lib.hid fun wx => checkPrefix_any six hi lo bits wx (by unfold U64N at h1; omega) (by unfold U64N at h2; omega)
  have HT : Hid (pFault six hi lo bits = 0 → ∀ wx, Tabs wx → Calls Tryz.prog 35 #[.agg #[.bool six, .int .u64 (hi : Int), .int .u64 (lo : Int), .int .i64 bits]] wx (Ret (.string (pfxT six hi lo bits.toNat)) wx)) := Lib.hid fun h wx ht => by
    obtain ⟨g1, n, g2, rfl⟩ := pFault_ok h
    exact prefixText_any six hi lo n wx h1 h2 g1 g2 ht
  have HE : Hid (pfxO six hi lo bits = if pFault six hi lo bits = 0 then pfxT six hi lo bits.toNat else ⟨#[]⟩) := Lib.hid rfl
  obtain ⟨PO, hPO⟩ : ∃ q, pfxO six hi lo bits = q := ⟨_, rfl⟩
  rw [hPO] at HE ⊢
  generalize pFault six hi lo bits = pf at *
  generalize pfxT six hi lo bits.toNat = PT at *
  clear h1 h2 ht hPO
  by_cases hz : pf = 0
  · subst hz
    have hE : PO = PT := HE.out.trans (if_pos rfl)
    subst hE
    clear HE
    go_enter Tryz.func7, Tryz.ntmps7
    go_upto_region 1 with fail
    generalize w.alloc (.cells #[.bool six, .int .u64 (hi : Int), .int .u64 (lo : Int), .int .i64 bits] 30 (0, 0)) = w1 at *
    obtain ⟨bx, hbx⟩ : ∃ q, w.heap.size = q := ⟨_, rfl⟩
    have Hbx := Lib.hid hbx
    rw [hbx] at HP HB ⊢
    clear hbx
    have c0 := HP.out.cell 0
    have c1 := HP.out.cell 1
    have c2 := HP.out.cell 2
    have c3 := HP.out.cell 3
    simp at c0 c1 c2 c3
    go_wp2_with fail
    refine (HC.out _).mono ?_
    rintro e w2 ⟨rfl, hb⟩
    have HP2 := Lib.hid (HP.out.below hb HP.out.lt)
    have HB2 := Lib.hid (HB.out.trans (hb.mono (Nat.le_of_lt HP.out.lt)))
    have HV2 := Lib.hid (HV.out.below hb)
    clear hb c0 c1 c2 c3
    have c0 := HP2.out.cell 0
    have c1 := HP2.out.cell 1
    have c2 := HP2.out.cell 2
    have c3 := HP2.out.cell 3
    simp at c0 c1 c2 c3
    go_wp2_with fail
    refine (HT.out trivial _ HV2.out).mono ?_
    rintro e w3 ⟨rfl, hb⟩
    have HB3 := Lib.hid (HB2.out.trans (hb.mono (Nat.le_of_lt HP2.out.lt)))
    clear hb
    go_wp2_with fail
    refine bodyPost_ret (v := .tuple #[.string PO, .int .i64 0]) (by simp [results, Tryz.results7, go_sem, *]) rfl ⟨rfl, by rw [Hbx.out]; exact HB3.out⟩
  · have hE : PO = ⟨#[]⟩ := HE.out.trans (if_neg hz)
    subst hE
    have hb1 : (pf != 0) = true := by simpa using hz
    clear HE HT
    go_enter Tryz.func7, Tryz.ntmps7
    go_upto_region 1 with fail
    generalize w.alloc (.cells #[.bool six, .int .u64 (hi : Int), .int .u64 (lo : Int), .int .i64 bits] 30 (0, 0)) = w1 at *
    obtain ⟨bx, hbx⟩ : ∃ q, w.heap.size = q := ⟨_, rfl⟩
    have Hbx := Lib.hid hbx
    rw [hbx] at HP HB ⊢
    clear hbx
    have c0 := HP.out.cell 0
    have c1 := HP.out.cell 1
    have c2 := HP.out.cell 2
    have c3 := HP.out.cell 3
    simp at c0 c1 c2 c3
    go_wp2_with fail
    refine (HC.out _).mono ?_
    rintro e w2 ⟨rfl, hb⟩
    have HB2 := Lib.hid (HB.out.trans (hb.mono (Nat.le_of_lt HP.out.lt)))
    clear hb
    go_wp2_with fail
    refine bodyPost_ret (v := .tuple #[.string ⟨#[]⟩, .int .i64 pf]) (by simp [results, Tryz.results7, go_sem, *]) rfl ⟨rfl, by rw [Hbx.out]; exact HB2.out⟩
end Go.Proofs.YteccghdegckjhaaGreatDoor
