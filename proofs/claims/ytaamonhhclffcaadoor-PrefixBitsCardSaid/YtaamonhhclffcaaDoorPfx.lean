/-
  Prefixes: CheckPrefix.
-/
import Derived.Test.YtaamonhhclffcaaDoorSpan
import Derived.BigQuiet
namespace Go.Proofs.YtaamonhhclffcaaDoor
open Go.RowKit Go
set_option linter.unusedVariables false

def pFault (six : Bool) (hi lo : Nat) (bits : Int) : Int :=
  if aFault six hi lo ≠ 0 then 3 else if outB bits 0 (lenN six) = true then 1 else if mHi six hi bits.toNat ≠ hi ∨ mLo six lo bits.toNat ≠ lo then 3 else 0
set_option maxRecDepth 100000 in
set_option maxHeartbeats 2000000 in
theorem checkPrefix_any (six : Bool) (hi lo : Nat) (bits : Int) (w : World) (h1 : hi < 18446744073709551616) (h2 : lo < 18446744073709551616) :
    Calls Tryd.prog 32 #[.agg #[.bool six, .int .u64 (hi : Int), .int .u64 (lo : Int), .int .i64 bits]] w (Ret (.int .i64 (pFault six hi lo bits)) w) := by
  have HA := Lib.hid (fun wx => checkAddr_any six hi lo wx ⟨by omega, by omega⟩ ⟨by omega, by omega⟩)
  have hP : Blk (w.alloc (.cells #[.bool six, .int .u64 (hi : Int), .int .u64 (lo : Int), .int .i64 bits] 31 (0, 0))) w.heap.size 31 #[.bool six, .int .u64 (hi : Int), .int .u64 (lo : Int), .int .i64 bits] := Blk.new w _ _
  have hB : Below w.heap.size w (w.alloc (.cells #[.bool six, .int .u64 (hi : Int), .int .u64 (lo : Int), .int .i64 bits] 31 (0, 0))) := below_alloc (Below.refl _ _) _
  obtain ⟨pf, hpf⟩ : ∃ pf, pFault six hi lo bits = pf := ⟨_, rfl⟩
  rw [hpf]
  replace hpf := Lib.hid hpf
  go_enter Tryd.func32, Tryd.ntmps32
  go_upto_region 1 with fail
  have HP := Lib.hid hP
  have HB := Lib.hid hB
  clear hP hB
  generalize w.alloc (.cells #[.bool six, .int .u64 (hi : Int), .int .u64 (lo : Int), .int .i64 bits] 31 (0, 0)) = w1 at *
  generalize hP0 : w.heap.size = P0 at *
  replace hP0 := Lib.hid hP0
  have a0 := HP.out.cell 0
  have a1 := HP.out.cell 1
  have a2 := HP.out.cell 2
  have a3 := HP.out.cell 3
  have af := HP.out.free
  simp at a0 a1 a2 a3
  go_wp2_with fail
  refine (HA.out _).mono ?_
  rintro e w2 ⟨rfl, o, rfl⟩
  have HP2 := Lib.hid (HP.out.alloc o)
  have HB2 := Lib.hid (HB.out.trans ((below_alloc (Below.refl w1.heap.size w1) o).mono (Nat.le_of_lt HP.out.lt)))
  have hlt2 := HP2.out.lt
  clear a0 a1 a2 a3 af HP HB
  generalize w1.alloc o = w2 at *
  obtain ⟨af0, haf⟩ : ∃ z, aFault six hi lo = z := ⟨_, rfl⟩
  rw [haf]
  by_cases hz : af0 = 0
  · subst hz
    go_upto_region 3 with fail
    have a0 := HP2.out.cell 0
    have a1 := HP2.out.cell 1
    have a2 := HP2.out.cell 2
    have a3 := HP2.out.cell 3
    simp at a0 a1 a2 a3
    have l0 := Later.cell_of a0
    have l1 := Later.cell_of a1
    have l2 := Later.cell_of a2
    have l3 := Later.cell_of a3
    have hL := fun n : Later w2 => Calls.later n (length_any six hi lo n.1)
    have hO := fun n : Later w2 => Calls.later_same n (outside_any bits 0 (lenN six : Nat) n.1)
    unfold vA at hL
    refine wp_region_later (by kernel_rfl) (by kernel_rfl) ?_
    repeat (go_big_quiet_step (first | (go_at_call 55; exact hL _) | (go_at_call 38; exact hO _)))
    refine wpQuiet_nil ?_
    rintro w5 ⟨n5, rfl⟩
    clear a0 a1 a2 a3 l0 l1 l2 l3 hL hO
    obtain ⟨ob, hob⟩ : ∃ z, outB bits 0 (lenN six : Nat) = z := ⟨_, rfl⟩
    rw [hob]
    have HB5 := Lib.hid (HB2.out.trans (n5.2.mono (Nat.le_of_lt hlt2)))
    have HP5 := Lib.hid (HP2.out.below n5.2 hlt2)
    have hlt5 := HP5.out.lt
    generalize n5.1 = w5 at *
    cases ob
    · go_upto_region 5 with fail
      have hb : 0 ≤ bits ∧ bits ≤ (lenN six : Nat) := by
        unfold outB at hob
        simp at hob
        omega
      obtain ⟨bn, rfl⟩ := Int.eq_ofNat_of_zero_le hb.1
      have a0 := HP5.out.cell 0
      have a1 := HP5.out.cell 1
      have a2 := HP5.out.cell 2
      have a3 := HP5.out.cell 3
      simp at a0 a1 a2 a3
      have l0 := Later.cell_of a0
      have l1 := Later.cell_of a1
      have l2 := Later.cell_of a2
      have l3 := Later.cell_of a3
      have hM := fun n : Later w5 => Calls.later n (masked_any six hi lo bn n.1 h1 h2 (by omega))
      unfold vA at hM
      have hpf2 : pf = if mHi six hi bn ≠ hi ∨ mLo six lo bn ≠ lo then 3 else 0 := by
        rw [← hpf.out, pFault, if_neg (by rw [haf]; decide), if_neg (by rw [hob]; decide)]
        rfl
      generalize mHi six hi bn = mh at *
      generalize mLo six lo bn = ml at *
      have hx : (mh = hi ∧ ml = lo) ∨ (¬ (mh : Int) = (hi : Int)) ∨ (mh = hi ∧ ¬ (ml : Int) = (lo : Int)) := by omega
      rcases hx with ⟨rfl, rfl⟩ | e1 | ⟨rfl, e2⟩
      · have hp0 : pf = 0 := by rw [hpf2, if_neg (by omega)]
        subst hp0
        refine wp_region_later (by kernel_rfl) (by kernel_rfl) ?_
        repeat (go_big_quiet_step ((go_at_call 56; exact hM _)))
        refine wpQuiet_nil ?_
        rintro w6 ⟨n6, rfl⟩
        have HB6 := Lib.hid (HB5.out.trans (n6.2.mono (Nat.le_of_lt hlt5)))
        clear a0 a1 a2 a3 l0 l1 l2 l3 hM
        go_wp2_with fail
        have hP0' := hP0.out
        subst hP0'
        go_ret
        exact ⟨rfl, HB6.out⟩
      · have hp0 : pf = 3 := by rw [hpf2, if_pos (by omega)]
        subst hp0
        refine wp_region_later (by kernel_rfl) (by kernel_rfl) ?_
        repeat (go_big_quiet_step ((go_at_call 56; exact hM _)))
        refine wpQuiet_nil ?_
        rintro w6 ⟨n6, rfl⟩
        have HB6 := Lib.hid (HB5.out.trans (n6.2.mono (Nat.le_of_lt hlt5)))
        clear a0 a1 a2 a3 l0 l1 l2 l3 hM
        go_wp2_with fail
        have hP0' := hP0.out
        subst hP0'
        go_ret
        exact ⟨rfl, HB6.out⟩
      · have hp0 : pf = 3 := by rw [hpf2, if_pos (by omega)]
        subst hp0
        refine wp_region_later (by kernel_rfl) (by kernel_rfl) ?_
        repeat (go_big_quiet_step ((go_at_call 56; exact hM _)))
        refine wpQuiet_nil ?_
        rintro w6 ⟨n6, rfl⟩
        have HB6 := Lib.hid (HB5.out.trans (n6.2.mono (Nat.le_of_lt hlt5)))
        clear a0 a1 a2 a3 l0 l1 l2 l3 hM
        go_wp2_with fail
        have hP0' := hP0.out
        subst hP0'
        go_ret
        exact ⟨rfl, HB6.out⟩
    · go_wp2_with fail
      have hP0' := hP0.out
      subst hP0'
      go_ret
      refine ⟨?_, HB5.out⟩
      rw [← hpf.out, pFault, if_neg (by rw [haf]; decide), if_pos hob]
      rfl
  · have hz' : (af0 != 0) = true := by simpa using hz
    go_wp2_with fail
    have hP0' := hP0.out
    subst hP0'
    go_ret
    refine ⟨?_, HB2.out⟩
    rw [← hpf.out, pFault, if_pos (by rw [haf]; exact hz)]
    rfl
end Go.Proofs.YtaamonhhclffcaaDoor
