/-
  The last of the law's marks: filtered is true.
-/
import Derived.Test.YtaamonhhclffcaaSum
import Derived.Test.YtaamonhhclffcaaGenC
namespace Go.Proofs.Ytaamonhhclffcaa
open Go.RowKit Go
set_option linter.unusedVariables false

theorem filtered_any (w : World) : Calls Try.prog 15 #[] w (Ret (.bool true) w) := by
  have hr : RdB (w.alloc (.cells #[.int .u8 0, .int .u8 1] 5 (0, 0))) (some ⟨w.heap.size, 0, none⟩) [0, 1] := by
    refine ⟨by decide, fun i hi => ⟨w.heap.size, 0, rfl, by simp, ?_⟩⟩
    have hb := Blk.new w 5 #[.int .u8 0, .int .u8 1]
    have hi : i < 2 := hi
    rw [Blk.cell hb]
    match i, hi with
    | 0, _ => rfl
    | 1, _ => rfl
  have hs : foldSum (sumB [0, 1] true) = 1 := by decide
  go_enter Try.func15, Try.ntmps15
  go_wp2_with fail
  refine (sum_any _ 2 [0, 1] _ hr).mono ?_
  rintro e w1 ⟨rfl, rfl⟩
  rw [hs]
  go_wp2_with fail
  go_ret
  exact ⟨rfl, below_alloc (Below.refl _ _) _⟩
end Go.Proofs.Ytaamonhhclffcaa
