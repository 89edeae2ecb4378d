/-
  Generators of addresses and flows: contracts of Raw, at, sixAt, RightFlow, Flow, Times.
-/
import Derived.Test.YtofjlpnebfijoaaDoorGenA
namespace Go.Proofs.YtofjlpnebfijoaaDoor
open Go.RowKit
set_option linter.unusedVariables false

theorem ABlk.new (w : World) : ABlk (w.alloc (.cells #[.bool false, .int .u64 0, .int .u64 0] 28 (0, 0))) w.heap.size := heap_alloc_new w _
theorem ABlk.keep {w w' : World} {b B : Nat} (h : ABlk w B) (hg : w.grownBy w' (some b)) (hne : B ≠ b) : ABlk w' B := blk_keep hg hne h

/-- a block that holds an address -/
def VBlk (w : World) (B : Nat) (six : Bool) (hi lo : Int) : Prop := w.heap[B]? = some (.cells #[.bool six, .int .u64 hi, .int .u64 lo] 28 (0, 0))
theorem VBlk.cells {w : World} {B : Nat} {six : Bool} {hi lo : Int} (h : VBlk w B six hi lo) : w.cell? ⟨B, 0, none⟩ = some (.bool six) ∧ w.cell? ⟨B, 1, none⟩ = some (.int .u64 hi) ∧ w.cell? ⟨B, 2, none⟩ = some (.int .u64 lo) ∧ ∀ i, w.frozen? ⟨B, i, none⟩ = false :=
  ⟨by rw [cell_of_row w _ 0 _ _ _ h]; rfl, by rw [cell_of_row w _ 1 _ _ _ h]; rfl, by rw [cell_of_row w _ 2 _ _ _ h]; rfl, fun i => frozen_of_row w _ i _ _ h⟩


set_option maxRecDepth 100000 in
theorem raw_gen (b m : Nat) (w : World) (h : Strm w b m) (hm : m + 6 < 1099511627776) :
    Calls Tryd.prog 4 #[.pointer (some ⟨b, 0, none⟩)] w fun e w' => ∃ six hi lo, e = .returned (vAddr six hi lo) ∧ (U64 hi ∧ U64 lo) ∧ Gen b w w' (m + 6) := by
  have hblt := h.lt
  go_enter Tryd.func4, Tryd.ntmps4
  go_wp2_with fail
  refine (mAddr_gen b m _ (h.alloc _) (by omega)).mono ?_
  rintro e w1 ⟨six, hi, lo, rfl, ⟨hu1, hu2, hu3⟩, hg⟩
  have hA : ABlk w1 w.heap.size := (ABlk.new w).keep hg.g (by omega)
  have hG : Gen b w w1 (m + 3) := ((Gen.start h).alloc _).trans hg
  have HA := Lib.hid hA
  have HG := Lib.hid hG
  clear hA hg hG
  unfold vAddr
  go_wp2_with fail
  refine (flip_gen b (m + 3) _ _ (HG.out.s.alloc _) (by omega) (by omega)).mono ?_
  rintro e w2 ⟨k, rfl, hg⟩
  have hb1 : b < w1.heap.size := HG.out.s.lt
  have hV : VBlk w2 w1.heap.size six hi lo := blk_keep hg.g (by omega) (heap_alloc_new w1 _)
  have hA : ABlk w2 w.heap.size := ABlk.keep (w := w1.alloc (.cells #[.bool six, .int .u64 hi, .int .u64 lo] 28 (0, 0))) ((Below.heap_alloc _ _ _ (lt_of_block HA.out)).trans HA.out) hg.g (by omega)
  have hG := (HG.out.alloc (.cells #[.bool six, .int .u64 hi, .int .u64 lo] 28 (0, 0))).trans hg
  have hlt : w.heap.size < w1.heap.size := lt_of_block HA.out
  clear HG HA hg
  cases k
  · have hne : w.heap.size ≠ w1.heap.size := by omega
    obtain ⟨c0, c1, c2, f0⟩ := hA.cells
    obtain ⟨d0, d1, d2, g0⟩ := hV.cells
    clear hA hV
    have HG := Lib.hid hG
    clear hG
    go_wp2_with fail
    refine bodyPost_ret (v := vAddr six hi lo) (by simp [results, Tryd.results4, go_sem, c0, c1, c2, vAddr]) rfl ⟨six, hi, lo, rfl, ⟨hu1, hu2⟩, ?_⟩
    exact (HG.out.mono (by omega)).set3 (Nat.le_refl _) hblt _ _ _
  · have HA := Lib.hid hA
    have HG := Lib.hid hG
    clear hA hG hV
    go_wp2_with fail
    refine (next_gen b (m + 3 + 1) _ _ HG.out.s (by omega) (by omega)).mono ?_
    rintro e w3 ⟨k2, rfl, ⟨hk20, hk21⟩, hg2⟩
    have hA : ABlk w3 w.heap.size := HA.out.keep hg2.g (by omega)
    have HG2 := Lib.hid (HG.out.trans hg2)
    have HA2 := Lib.hid hA
    clear HG HA hA hg2
    go_wp2_with fail
    refine (next_gen b (m + 3 + 1 + 1) _ _ (HG2.out.s.alloc _) (by omega) (by omega)).mono ?_
    rintro e w4 ⟨k3, rfl, ⟨hk30, hk31⟩, hg3⟩
    have hA : ABlk w4 w.heap.size := ABlk.keep (w := w3.alloc (.cells #[.int .u64 4294967296, .int .u64 5, .int .u64 1099511627776] 26 (0, 0))) ((Below.heap_alloc _ _ _ (lt_of_block HA2.out)).trans HA2.out) hg3.g (by omega)
    have hb3 : w4.heap[w3.heap.size]? = some (.cells #[.int .u64 4294967296, .int .u64 5, .int .u64 1099511627776] 26 (0, 0)) := blk_keep hg3.g (by have := HG2.out.s.lt; omega) (heap_alloc_new w3 _)
    have hG := (HG2.out.alloc (.cells #[.int .u64 4294967296, .int .u64 5, .int .u64 1099511627776] 26 (0, 0))).trans hg3
    obtain ⟨x, hx, hxu⟩ : ∃ x, w4.cell? ⟨w3.heap.size, k3.toNat, none⟩ = some (.int .u64 x) ∧ U64 x := by
      have hj : k3.toNat = 0 ∨ k3.toNat = 1 ∨ k3.toNat = 2 := by omega
      rcases hj with hj | hj | hj <;> rw [hj]
      · exact ⟨_, by rw [cell_of_row _ _ 0 _ _ _ hb3]; rfl, by unfold U64; decide⟩
      · exact ⟨_, by rw [cell_of_row _ _ 1 _ _ _ hb3]; rfl, by unfold U64; decide⟩
      · exact ⟨_, by rw [cell_of_row _ _ 2 _ _ _ hb3]; rfl, by unfold U64; decide⟩
    obtain ⟨c0, c1, c2, f0⟩ := hA.cells
    have HG := Lib.hid hG
    have hk33 : k3 < 3 := by omega
    have hk23 : k2 < 2 := by omega
    clear hA hG hb3 HG2 HA2 hg3
    go_wp2_with fail
    refine bodyPost_ret (v := vAddr false k2 x) (by simp [results, Tryd.results4, go_sem, c0, c1, c2, vAddr]) rfl ⟨false, k2, x, rfl, ⟨⟨by omega, by omega⟩, hxu⟩, ?_⟩
    exact (HG.out.mono (by omega)).set3 (Nat.le_refl _) hblt _ _ _
end Go.Proofs.YtofjlpnebfijoaaDoor
