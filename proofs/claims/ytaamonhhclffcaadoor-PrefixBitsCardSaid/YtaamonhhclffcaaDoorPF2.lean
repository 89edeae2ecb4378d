/-
  The reference's PrefixFault and MaskOf.
-/
import Derived.Test.YtaamonhhclffcaaDoorWEq
namespace Go.Proofs.YtaamonhhclffcaaDoor
open Go.RowKit Go
set_option linter.unusedVariables false

def vP (six : Bool) (hi lo : Nat) (bits : Int) : Value := .agg #[.bool six, .int .u64 (hi : Int), .int .u64 (lo : Int), .int .i64 bits]
set_option maxRecDepth 100000 in
set_option maxHeartbeats 2000000 in
theorem prefixFault_any (six : Bool) (hi lo : Nat) (bits : Int) (w : World) (h1 : hi < 18446744073709551616) (h2 : lo < 18446744073709551616) :
    Calls Tryd.prog 11 #[vP six hi lo bits] w (Ret (.int .i64 (pFault six hi lo bits)) w) := by
  unfold vP
  have HA := Lib.hid (fun wx => addrFault_any six hi lo wx ⟨by omega, by omega⟩ ⟨by omega, by omega⟩)
  have hP : Blk (w.alloc (.cells #[.bool six, .int .u64 (hi : Int), .int .u64 (lo : Int), .int .i64 bits] 31 (0, 0))) w.heap.size 31 #[.bool six, .int .u64 (hi : Int), .int .u64 (lo : Int), .int .i64 bits] := Blk.new w _ _
  have hB : Below w.heap.size w (w.alloc (.cells #[.bool six, .int .u64 (hi : Int), .int .u64 (lo : Int), .int .i64 bits] 31 (0, 0))) := below_alloc (Below.refl _ _) _
  obtain ⟨pf, hpf⟩ : ∃ pf, pFault six hi lo bits = pf := ⟨_, rfl⟩
  rw [hpf]
  replace hpf := Lib.hid hpf
  go_enter Tryd.func11, Tryd.ntmps11
  go_upto_region 1 with fail
  have HP := Lib.hid hP
  have HB := Lib.hid hB
  clear hP hB
  generalize w.alloc (.cells #[.bool six, .int .u64 (hi : Int), .int .u64 (lo : Int), .int .i64 bits] 31 (0, 0)) = w1 at *
  generalize hP0 : w.heap.size = P0 at *
  replace hP0 := Lib.hid hP0
  have a0 := HP.out.cell 0
  have a1 := HP.out.cell 1
  have a2 := HP.out.cell 2
  have a3 := HP.out.cell 3
  have af := HP.out.free
  simp at a0 a1 a2 a3
  go_wp2_with fail
  refine (HA.out _).mono ?_
  rintro e w2 ⟨rfl, o, rfl⟩
  have HP2 := Lib.hid (HP.out.alloc o)
  have HB2 := Lib.hid (HB.out.trans ((below_alloc (Below.refl w1.heap.size w1) o).mono (Nat.le_of_lt HP.out.lt)))
  have hlt2 := HP2.out.lt
  clear a0 a1 a2 a3 af HP HB
  generalize w1.alloc o = w2 at *
  obtain ⟨af0, haf⟩ : ∃ z, aFault six hi lo = z := ⟨_, rfl⟩
  rw [haf]
  by_cases hz : af0 = 0
  · subst hz
    go_upto_region 4 with fail
    have a0 := HP2.out.cell 0
    have a1 := HP2.out.cell 1
    have a2 := HP2.out.cell 2
    have a3 := HP2.out.cell 3
    simp at a0 a1 a2 a3
    have l0 := Later.cell_of a0
    have l1 := Later.cell_of a1
    have l2 := Later.cell_of a2
    have l3 := Later.cell_of a3
    have hL := fun n : Later w2 => Calls.later n (lengthQ_any six hi lo n.1)
    have hO := fun n : Later w2 => Calls.later_same n (in_any bits 0 (lenN six : Nat) n.1)
    unfold vA at hL
    refine wp_region_later (by kernel_rfl) (by kernel_rfl) ?_
    repeat (go_big_quiet_step (first | (go_at_call 40; exact hL _) | (go_at_call 39; exact hO _)))
    refine wpQuiet_nil ?_
    rintro w5 ⟨n5, rfl⟩
    clear a0 a1 a2 a3 l0 l1 l2 l3 hL hO
    obtain ⟨ob, hob⟩ : ∃ z, inB bits 0 (lenN six : Nat) = z := ⟨_, rfl⟩
    rw [hob]
    have HB5 := Lib.hid (HB2.out.trans (n5.2.mono (Nat.le_of_lt hlt2)))
    have HP5 := Lib.hid (HP2.out.below n5.2 hlt2)
    have hlt5 := HP5.out.lt
    generalize n5.1 = w5 at *
    have hob2 : outB bits 0 (lenN six : Nat) = !ob := by rw [← hob, inB_out]; simp
    cases ob
    · go_wp2_with fail
      have hP0' := hP0.out
      subst hP0'
      go_ret
      refine ⟨?_, HB5.out⟩
      rw [← hpf.out, pFault, if_neg (by rw [haf]; decide), if_pos (by rw [hob2]; rfl)]
      rfl
    · go_upto_region 6 with fail
      have hb : 0 ≤ bits ∧ bits ≤ (lenN six : Nat) := by
        unfold inB at hob
        simp at hob
        omega
      obtain ⟨bn, rfl⟩ := Int.eq_ofNat_of_zero_le hb.1
      have hln := lenN_le six
      have a0 := HP5.out.cell 0
      have a1 := HP5.out.cell 1
      have a2 := HP5.out.cell 2
      have a3 := HP5.out.cell 3
      simp at a0 a1 a2 a3
      have l0 := Later.cell_of a0
      have l1 := Later.cell_of a1
      have l2 := Later.cell_of a2
      have l3 := Later.cell_of a3
      have hF := fun n : Later w5 => Calls.later n (firstOf_any six hi lo bn (lenN six - bn) n.1 h1 h2 (by omega) (by omega) (by omega))
      have hO := fun n : Later w5 => Calls.later n (of_any six hi lo n.1 h1 h2)
      simp only [wCells_wv] at hO
      unfold vA at hF hO
      have hN := fun w => wide_neq six six (clrF hi lo (lenN six - bn)) (dg hi lo) w
      rw [wl_first six hi lo bn h1 h2] at hN
      have hG := wide_guard .neq
      have hpf2 : pf = if mHi six hi bn ≠ hi ∨ mLo six lo bn ≠ lo then 3 else 0 := by
        rw [← hpf.out, pFault, if_neg (by rw [haf]; decide), if_neg (by rw [hob2]; decide)]
        rfl
      obtain ⟨z, hz⟩ : ∃ z, decide (mHi six hi bn = hi ∧ mLo six lo bn = lo) = z := ⟨_, rfl⟩
      rw [hz] at hN
      have Hpf2 : Hid (pf = if z = true then 0 else 3) := Lib.hid (by
        rw [hpf2, ← hz]
        by_cases h : mHi six hi bn = hi ∧ mLo six lo bn = lo
        · rw [if_neg (by omega), if_pos (by simpa using h)]
        · rw [if_pos (by omega), if_neg (by simpa using h)])
      clear hpf2 hz hob hob2 hb
      generalize wv six (clrF hi lo (lenN six - bn)) = WF at *
      generalize wv six (dg hi lo) = WD at *
      refine wp_region_later (by kernel_rfl) (by kernel_rfl) ?_
      repeat (go_big_quiet_step (first | (go_at_call 41; exact hF _) | (go_at_call 42; exact hO _)))
      refine wpQuiet_nil ?_
      rintro w6 ⟨n6, rfl⟩
      have HB6 := Lib.hid (HB5.out.trans (n6.2.mono (Nat.le_of_lt hlt5)))
      clear a0 a1 a2 a3 l0 l1 l2 l3 hF hO hN hG
      cases z
      all_goals
        go_wp2_with fail
        have hP0' := hP0.out
        subst hP0'
        go_ret
        exact ⟨by rw [Hpf2.out]; rfl, HB6.out⟩
  · have hz' : (af0 != 0) = true := by simpa using hz
    go_wp2_with fail
    have hP0' := hP0.out
    subst hP0'
    go_ret
    refine ⟨?_, HB2.out⟩
    have h3 : af0 = 3 := by have := aFault_vals six hi lo; rw [haf] at this; omega
    rw [← hpf.out, pFault, if_pos (by rw [haf]; exact hz), h3]
    rfl
set_option maxRecDepth 100000 in
set_option maxHeartbeats 2000000 in
theorem maskOf_any (six : Bool) (hi lo n : Nat) (w : World) (h1 : hi < 18446744073709551616) (h2 : lo < 18446744073709551616) (hn : n ≤ 128) :
    Calls Tryd.prog 25 #[vA six hi lo, .int .i64 (n : Int)] w (Ret (vP six (mHi six hi n) (mLo six lo n) (n : Int)) w) := by
  have hln := lenN_le six
  have HF := Lib.hid fun wx => firstOf_any six hi lo n (lenN six - n) wx h1 h2 (by omega) (by omega) (by omega)
  have HW := Lib.hid fun wx => wideAddr_any six (clrF hi lo (lenN six - n)) wx (clrF_lt hi lo _)
  rw [clr_lo hi lo _ h2, clr_hi hi lo _ h1, ← mHi_clr, ← mLo_clr] at HW
  generalize wv six (clrF hi lo (lenN six - n)) = WF at *
  generalize mHi six hi n = mh at *
  generalize mLo six lo n = ml at *
  unfold vA at HF HW ⊢
  unfold vP
  have HR0 : Blk ((w.alloc (.cells #[.bool six, .int .u64 (hi : Int), .int .u64 (lo : Int)] 29 (0, 0))).alloc (.cells #[.bool false, .int .u64 0, .int .u64 0, .int .i64 0] 31 (0, 0))) (w.heap.size + 1) 31 #[.bool false, .int .u64 0, .int .u64 0, .int .i64 0] := by
    have := Blk.new (w.alloc (.cells #[.bool six, .int .u64 (hi : Int), .int .u64 (lo : Int)] 29 (0, 0))) 31 #[.bool false, .int .u64 0, .int .u64 0, .int .i64 0]
    rw [World.size_alloc] at this
    exact this
  have HR := Lib.hid HR0
  have HB : Hid (Below w.heap.size w ((w.alloc (.cells #[.bool six, .int .u64 (hi : Int), .int .u64 (lo : Int)] 29 (0, 0))).alloc (.cells #[.bool false, .int .u64 0, .int .u64 0, .int .i64 0] 31 (0, 0)))) := Lib.hid (below_alloc (below_alloc (Below.refl _ _) _) _)
  clear HR0
  go_enter Tryd.func25, Tryd.ntmps25
  go_wp2_with fail
  refine (HF.out _).mono ?_
  rintro e w2 ⟨rfl, hb⟩
  have HR2 := Lib.hid (HR.out.below hb HR.out.lt)
  have HB2 := Lib.hid (HB.out.trans (hb.mono HB.out.size))
  clear hb HR HB HF
  go_wp2_with fail
  refine (HW.out _).mono ?_
  rintro e w3 ⟨rfl, hb⟩
  have HR3 := Lib.hid (HR2.out.below hb HR2.out.lt)
  have HB3 := Lib.hid (HB2.out.trans (hb.mono HB2.out.size))
  clear hb HR2 HB2 HW
  have r0 := HR3.out.cell 0
  have r1 := HR3.out.cell 1
  have r2 := HR3.out.cell 2
  have r3 := HR3.out.cell 3
  have rf := HR3.out.free
  simp at r0 r1 r2 r3
  go_wp2_with fail
  refine bodyPost_ret (v := .agg #[.bool six, .int .u64 (mh : Int), .int .u64 (ml : Int), .int .i64 (n : Int)]) (by simp [results, Tryd.results25, go_sem, r0, r1, r2, r3]) rfl ⟨rfl, ?_⟩
  repeat refine Below.setCell ?_ (by first | (simp; omega) | simp) _
  exact HB3.out
end Go.Proofs.YtaamonhhclffcaaDoor
