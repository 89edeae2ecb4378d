/-
  The tables of numerals, out of what a row lists: the listed tables lie as the program's text lays them.
-/
import Derived.Test.YtofjlpnebfijoaaDoorDec
namespace Go.Proofs.YtofjlpnebfijoaaDoor
open Go.RowKit Go
set_option linter.unusedVariables false

/-- the numbers of a listed table -/
def numsOf : DataW Unit → List Int
  | .agg l => l.map fun | .lit (.int _ z) => z | _ => 0
  | _ => []
theorem tabs_of {w : World} {L : List (String × DataW Unit)} {d64 : DataW Unit} (h : laidMetH Tryd.prog L w)
    (e1 : L.filter (fun x => x.1 == "internal/strconv.uint64pow10") = [("internal/strconv.uint64pow10", Lib.tabData .u64 Lib.pow10Tab)])
    (e2 : L.filter (fun x => x.1 == "math/bits.deBruijn64tab") = [("math/bits.deBruijn64tab", d64)])
    (e3 : d64 = Lib.tabData .u8 (numsOf d64)) (e4 : (numsOf d64).length = 64) (e5 : (numsOf d64).getD 15 0 = 4) : Tabs w := by
  refine ⟨?_, ?_⟩
  · have h1 := h.filter (fun x => x.1 == "internal/strconv.uint64pow10")
    rw [e1] at h1
    replace h1 : laidMet Tryd.prog [("internal/strconv.uint64pow10", Lib.tabData .u64 Lib.pow10Tab)] w := (laidMetH_iff.1 h1).1
    exact Lib.tabIs_of_head (g := 0) (t := 83) (e := 26) (n := 20) (by kernel_rfl) (by kernel_rfl) (by kernel_rfl) (by kernel_rfl) (by kernel_rfl) (by kernel_rfl) h1
  · have h2 := h.filter (fun x => x.1 == "math/bits.deBruijn64tab")
    rw [e2, e3] at h2
    replace h2 : laidMet Tryd.prog [("math/bits.deBruijn64tab", Lib.tabData .u8 (numsOf d64))] w := (laidMetH_iff.1 h2).1
    have := Lib.TabIs.cell (Lib.tabIs_of_head (g := 3) (t := 89) (e := 5) (n := 64) (by kernel_rfl) (by kernel_rfl) (by kernel_rfl) (by kernel_rfl) (by kernel_rfl) (by kernel_rfl) h2) (g := 3) (by kernel_rfl) 15 (by rw [e4]; decide)
    rw [e5] at this
    exact this
end Go.Proofs.YtofjlpnebfijoaaDoor
