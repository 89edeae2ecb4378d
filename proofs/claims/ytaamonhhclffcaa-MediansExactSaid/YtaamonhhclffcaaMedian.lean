/-
  Median and Spread of the program, MedianOf and SpreadOf of the reference, flowing: of at most 3000 numbers.
-/
import Derived.Test.YtaamonhhclffcaaNumbers
import Derived.Test.YtaamonhhclffcaaFrac
namespace Go.Proofs.Ytaamonhhclffcaa
open Go.RowKit Go
set_option linter.unusedVariables false

def FrBlk (w : World) (B : Nat) (a b : Int) : Prop := Blk w B 73 #[.int .i64 a, .int .i64 b]
theorem FrBlk.cells {w : World} {B : Nat} {a b : Int} (h : FrBlk w B a b) : w.cell? ⟨B, 0, none⟩ = some (.int .i64 a) ∧ w.cell? ⟨B, 1, none⟩ = some (.int .i64 b) ∧ ∀ i, w.frozen? ⟨B, i, none⟩ = false := ⟨Blk.cell h 0, Blk.cell h 1, Blk.free h⟩

set_option maxRecDepth 100000 in
set_option maxHeartbeats 1000000 in
theorem median_none (ad : Option Addr) (c : Nat) (w : World) :
    Calls Try.prog 42 #[.slice ad 0 c] w (Ret (.tuple #[.agg #[.int .i64 0, .int .i64 0], .int .i64 8]) w) := by
  go_enter Try.func42, Try.ntmps42
  go_wp2_with fail
  refine (numbersFault_none ad c _).mono ?_
  rintro e w1 ⟨rfl, rfl⟩
  have HA : FrBlk (w.alloc (.cells #[.int .i64 0, .int .i64 0] 73 (0, 0))) w.heap.size 0 0 := Blk.new w _ _
  have HB := Lib.hid (below_alloc (Below.refl w.heap.size w) (.cells #[.int .i64 0, .int .i64 0] 73 (0, 0)))
  generalize (w.alloc (.cells #[.int .i64 0, .int .i64 0] 73 (0, 0))) = w1 at *
  obtain ⟨c0, c1, f0⟩ := HA.cells
  clear HA
  go_wp2_with fail
  refine bodyPost_ret (v := .tuple #[.agg #[.int .i64 0, .int .i64 0], .int .i64 8]) (by simp [results, Try.results42, go_sem, c0, c1]) rfl ⟨rfl, ?_⟩
  repeat refine Below.setCell ?_ (by simp) _
  exact HB.out

set_option maxRecDepth 100000 in
set_option maxHeartbeats 1000000 in
theorem median_bad (g o n c : Nat) (zs : List Int) (w : World) (h : RdInts w g o n zs) (hn : 1 ≤ n ∧ n ≤ 3000) (hf : nFault zs ≠ 0) :
    Calls Try.prog 42 #[.slice (some ⟨g, o, none⟩) n c] w (Ret (.tuple #[.agg #[.int .i64 0, .int .i64 0], .int .i64 (nFault zs)]) w) := by
  have Hc := Lib.hid fun (w : World) h => numbersFault_any g o n c zs w h hn
  have HA : FrBlk (w.alloc (.cells #[.int .i64 0, .int .i64 0] 73 (0, 0))) w.heap.size 0 0 := Blk.new w _ _
  have HB := Lib.hid (below_alloc (Below.refl w.heap.size w) (.cells #[.int .i64 0, .int .i64 0] 73 (0, 0)))
  have HR := Lib.hid (h.alloc (.cells #[.int .i64 0, .int .i64 0] 73 (0, 0)))
  generalize nFault zs = f at *
  clear h
  go_enter Try.func42, Try.ntmps42
  go_wp2_with fail
  refine (Hc.out _ HR.out).mono ?_
  rintro e w1 ⟨rfl, rfl⟩
  generalize (w.alloc (.cells #[.int .i64 0, .int .i64 0] 73 (0, 0))) = w1 at *
  obtain ⟨c0, c1, f0⟩ := HA.cells
  clear HA
  go_wp2_with fail
  refine bodyPost_ret (v := .tuple #[.agg #[.int .i64 0, .int .i64 0], .int .i64 f]) (by simp [results, Try.results42, go_sem, c0, c1]) rfl ⟨rfl, ?_⟩
  repeat refine Below.setCell ?_ (by simp) _
  exact HB.out

set_option maxRecDepth 100000 in
set_option maxHeartbeats 1000000 in
theorem median_good (g o n c : Nat) (zs : List Int) (w : World) (h : RdInts w g o n zs) (hn : 1 ≤ n ∧ n ≤ 3000) (hf : nFault zs = 0) :
    Calls Try.prog 42 #[.slice (some ⟨g, o, none⟩) n c] w (Ret (.tuple #[.agg #[.int .i64 (fracN (mid zs) 2), .int .i64 (fracD (mid zs) 2)], .int .i64 0]) w) := by
  have Hc := Lib.hid fun (w : World) h => numbersFault_any g o n c zs w h hn
  obtain ⟨hsm, h1⟩ := nFault_small hf
  have HI : Hid (I62 (mid zs)) := Lib.hid (by have := mid_I62 hsm h1; exact ⟨by omega, by omega⟩)
  have HA : FrBlk (w.alloc (.cells #[.int .i64 0, .int .i64 0] 73 (0, 0))) w.heap.size 0 0 := Blk.new w _ _
  have HB := Lib.hid (below_alloc (Below.refl w.heap.size w) (.cells #[.int .i64 0, .int .i64 0] 73 (0, 0)))
  have HR := Lib.hid (h.alloc (.cells #[.int .i64 0, .int .i64 0] 73 (0, 0)))
  have HS := Lib.hid hsm
  have HL := Lib.hid fun w => lowest_any (mid zs) 2 w HI.out ⟨by omega, by omega⟩ (by omega)
  generalize fracN (mid zs) 2 = p at *
  generalize fracD (mid zs) 2 = q at *
  rw [hf] at Hc
  have Hn := Lib.hid hn
  have hlt : w.heap.size < (w.alloc (.cells #[.int .i64 0, .int .i64 0] 73 (0, 0))).heap.size := HA.lt
  clear h hsm h1 hn hf
  go_enter Try.func42, Try.ntmps42
  go_wp2_with fail
  refine (Hc.out _ HR.out).mono ?_
  rintro e w1 ⟨rfl, rfl⟩
  generalize (w.alloc (.cells #[.int .i64 0, .int .i64 0] 73 (0, 0))) = w1 at *
  go_wp2_with fail
  refine (middle_any g o n c zs _ HR.out ⟨Hn.out.1, by have := Hn.out; omega⟩ HS.out.sized).mono ?_
  rintro e w2 ⟨rfl, hB2⟩
  have HA2 : FrBlk w2 w.heap.size 0 0 := Blk.below HA hB2 hlt
  have HB2 := Lib.hid (HB.out.trans (hB2.mono (by omega)))
  have hlt2 := HA2.lt
  clear hB2 HA hlt
  go_wp2_with fail
  refine (HL.out _).mono ?_
  rintro e w3 ⟨rfl, hB3⟩
  have HA3 : FrBlk w3 w.heap.size 0 0 := Blk.below HA2 hB3 hlt2
  have HB3 := Lib.hid (HB2.out.trans (hB3.mono (by omega)))
  obtain ⟨c0, c1, f0⟩ := HA3.cells
  clear hB3 HA2 hlt2 HA3
  go_wp2_with fail
  refine bodyPost_ret (v := .tuple #[.agg #[.int .i64 p, .int .i64 q], .int .i64 0]) (by simp [results, Try.results42, go_sem, c0, c1]) rfl ⟨rfl, ?_⟩
  repeat refine Below.setCell ?_ (by simp) _
  exact HB3.out

set_option maxRecDepth 100000 in
set_option maxHeartbeats 1000000 in
theorem spreadP_none (ad : Option Addr) (c : Nat) (w : World) :
    Calls Try.prog 43 #[.slice ad 0 c] w (Ret (.tuple #[.agg #[.int .i64 0, .int .i64 0], .int .i64 8]) w) := by
  go_enter Try.func43, Try.ntmps43
  go_wp2_with fail
  refine (numbersFault_none ad c _).mono ?_
  rintro e w1 ⟨rfl, rfl⟩
  have HA : FrBlk (w.alloc (.cells #[.int .i64 0, .int .i64 0] 73 (0, 0))) w.heap.size 0 0 := Blk.new w _ _
  have HB := Lib.hid (below_alloc (Below.refl w.heap.size w) (.cells #[.int .i64 0, .int .i64 0] 73 (0, 0)))
  generalize (w.alloc (.cells #[.int .i64 0, .int .i64 0] 73 (0, 0))) = w1 at *
  obtain ⟨c0, c1, f0⟩ := HA.cells
  clear HA
  go_wp2_with fail
  refine bodyPost_ret (v := .tuple #[.agg #[.int .i64 0, .int .i64 0], .int .i64 8]) (by simp [results, Try.results43, go_sem, c0, c1]) rfl ⟨rfl, ?_⟩
  repeat refine Below.setCell ?_ (by simp) _
  exact HB.out

set_option maxRecDepth 100000 in
set_option maxHeartbeats 1000000 in
theorem spreadP_bad (g o n c : Nat) (zs : List Int) (w : World) (h : RdInts w g o n zs) (hn : 1 ≤ n ∧ n ≤ 3000) (hf : nFault zs ≠ 0) :
    Calls Try.prog 43 #[.slice (some ⟨g, o, none⟩) n c] w (Ret (.tuple #[.agg #[.int .i64 0, .int .i64 0], .int .i64 (nFault zs)]) w) := by
  have Hc := Lib.hid fun (w : World) h => numbersFault_any g o n c zs w h hn
  have HA : FrBlk (w.alloc (.cells #[.int .i64 0, .int .i64 0] 73 (0, 0))) w.heap.size 0 0 := Blk.new w _ _
  have HB := Lib.hid (below_alloc (Below.refl w.heap.size w) (.cells #[.int .i64 0, .int .i64 0] 73 (0, 0)))
  have HR := Lib.hid (h.alloc (.cells #[.int .i64 0, .int .i64 0] 73 (0, 0)))
  generalize nFault zs = f at *
  clear h
  go_enter Try.func43, Try.ntmps43
  go_wp2_with fail
  refine (Hc.out _ HR.out).mono ?_
  rintro e w1 ⟨rfl, rfl⟩
  generalize (w.alloc (.cells #[.int .i64 0, .int .i64 0] 73 (0, 0))) = w1 at *
  obtain ⟨c0, c1, f0⟩ := HA.cells
  clear HA
  go_wp2_with fail
  refine bodyPost_ret (v := .tuple #[.agg #[.int .i64 0, .int .i64 0], .int .i64 f]) (by simp [results, Try.results43, go_sem, c0, c1]) rfl ⟨rfl, ?_⟩
  repeat refine Below.setCell ?_ (by simp) _
  exact HB.out

set_option maxRecDepth 100000 in
set_option maxHeartbeats 1000000 in
theorem spreadP_good (g o n c : Nat) (zs : List Int) (w : World) (h : RdInts w g o n zs) (hn : 1 ≤ n ∧ n ≤ 3000) (hf : nFault zs = 0) :
    Calls Try.prog 43 #[.slice (some ⟨g, o, none⟩) n c] w (Ret (.tuple #[.agg #[.int .i64 (fracN (mid (devs zs)) 4), .int .i64 (fracD (mid (devs zs)) 4)], .int .i64 0]) w) := by
  have Hc := Lib.hid fun (w : World) h => numbersFault_any g o n c zs w h hn
  obtain ⟨hsm, h1⟩ := nFault_small hf
  have HI : Hid (I62 (mid (devs zs))) := Lib.hid (by have := spr_I62 hsm h1; exact ⟨by omega, by omega⟩)
  have HA : FrBlk (w.alloc (.cells #[.int .i64 0, .int .i64 0] 73 (0, 0))) w.heap.size 0 0 := Blk.new w _ _
  have HB := Lib.hid (below_alloc (Below.refl w.heap.size w) (.cells #[.int .i64 0, .int .i64 0] 73 (0, 0)))
  have HR := Lib.hid (h.alloc (.cells #[.int .i64 0, .int .i64 0] 73 (0, 0)))
  have HS := Lib.hid hsm
  have HL := Lib.hid fun w => lowest_any (mid (devs zs)) 4 w HI.out ⟨by omega, by omega⟩ (by omega)
  generalize fracN (mid (devs zs)) 4 = p at *
  generalize fracD (mid (devs zs)) 4 = q at *
  rw [hf] at Hc
  have Hn := Lib.hid hn
  have hlt : w.heap.size < (w.alloc (.cells #[.int .i64 0, .int .i64 0] 73 (0, 0))).heap.size := HA.lt
  clear h hsm h1 hn hf
  go_enter Try.func43, Try.ntmps43
  go_wp2_with fail
  refine (Hc.out _ HR.out).mono ?_
  rintro e w1 ⟨rfl, rfl⟩
  generalize (w.alloc (.cells #[.int .i64 0, .int .i64 0] 73 (0, 0))) = w1 at *
  go_wp2_with fail
  refine (spread_any g o n c zs _ HR.out ⟨Hn.out.1, by have := Hn.out; omega⟩ HS.out).mono ?_
  rintro e w2 ⟨rfl, hB2⟩
  have HA2 : FrBlk w2 w.heap.size 0 0 := Blk.below HA hB2 hlt
  have HB2 := Lib.hid (HB.out.trans (hB2.mono (by omega)))
  have hlt2 := HA2.lt
  clear hB2 HA hlt
  go_wp2_with fail
  refine (HL.out _).mono ?_
  rintro e w3 ⟨rfl, hB3⟩
  have HA3 : FrBlk w3 w.heap.size 0 0 := Blk.below HA2 hB3 hlt2
  have HB3 := Lib.hid (HB2.out.trans (hB3.mono (by omega)))
  obtain ⟨c0, c1, f0⟩ := HA3.cells
  clear hB3 HA2 hlt2 HA3
  go_wp2_with fail
  refine bodyPost_ret (v := .tuple #[.agg #[.int .i64 p, .int .i64 q], .int .i64 0]) (by simp [results, Try.results43, go_sem, c0, c1]) rfl ⟨rfl, ?_⟩
  repeat refine Below.setCell ?_ (by simp) _
  exact HB3.out

set_option maxRecDepth 100000 in
set_option maxHeartbeats 1000000 in
theorem medianOf_any (g o n c : Nat) (zs : List Int) (w : World) (h : RdInts w g o n zs) (hn : 1 ≤ n ∧ n ≤ 3000) (hf : nFault zs = 0) :
    Calls Try.prog 46 #[.slice (some ⟨g, o, none⟩) n c] w (Ret (.agg #[.int .i64 (fracN (mid zs) 2), .int .i64 (fracD (mid zs) 2)]) w) := by
  obtain ⟨hsm, h1⟩ := nFault_small hf
  have HI : Hid (I62 (mid zs)) := Lib.hid (by have := mid_I62 hsm h1; exact ⟨by omega, by omega⟩)
  have HA : FrBlk (w.alloc (.cells #[.int .i64 0, .int .i64 0] 73 (0, 0))) w.heap.size 0 0 := Blk.new w _ _
  have HB := Lib.hid (below_alloc (Below.refl w.heap.size w) (.cells #[.int .i64 0, .int .i64 0] 73 (0, 0)))
  have HR := Lib.hid (h.alloc (.cells #[.int .i64 0, .int .i64 0] 73 (0, 0)))
  have HS := Lib.hid hsm
  have HL := Lib.hid fun w => qlowest_any (mid zs) 2 w HI.out ⟨by omega, by omega⟩ (by omega)
  generalize fracN (mid zs) 2 = p at *
  generalize fracD (mid zs) 2 = q at *
  have Hn := Lib.hid hn
  have hlt : w.heap.size < (w.alloc (.cells #[.int .i64 0, .int .i64 0] 73 (0, 0))).heap.size := HA.lt
  clear h hsm h1 hn hf
  go_enter Try.func46, Try.ntmps46
  go_wp2_with fail
  refine (twice_any g o n c zs _ HR.out ⟨Hn.out.1, by have := Hn.out; omega⟩ HS.out.sized).mono ?_
  rintro e w2 ⟨rfl, hB2⟩
  generalize (w.alloc (.cells #[.int .i64 0, .int .i64 0] 73 (0, 0))) = w1 at *
  have HA2 : FrBlk w2 w.heap.size 0 0 := Blk.below HA hB2 hlt
  have HB2 := Lib.hid (HB.out.trans (hB2.mono (by omega)))
  have hlt2 := HA2.lt
  clear hB2 HA hlt
  go_wp2_with fail
  refine (HL.out _).mono ?_
  rintro e w3 ⟨rfl, hB3⟩
  have HA3 : FrBlk w3 w.heap.size 0 0 := Blk.below HA2 hB3 hlt2
  have HB3 := Lib.hid (HB2.out.trans (hB3.mono (by omega)))
  obtain ⟨c0, c1, f0⟩ := HA3.cells
  clear hB3 HA2 hlt2 HA3
  go_wp2_with fail
  refine bodyPost_ret (v := .agg #[.int .i64 p, .int .i64 q]) (by simp [results, Try.results46, go_sem, c0, c1]) rfl ⟨rfl, ?_⟩
  repeat refine Below.setCell ?_ (by simp) _
  exact HB3.out

set_option maxRecDepth 100000 in
set_option maxHeartbeats 1000000 in
theorem spreadOf_any (g o n c : Nat) (zs : List Int) (w : World) (h : RdInts w g o n zs) (hn : 1 ≤ n ∧ n ≤ 3000) (hf : nFault zs = 0) :
    Calls Try.prog 47 #[.slice (some ⟨g, o, none⟩) n c] w (Ret (.agg #[.int .i64 (fracN (mid (devs zs)) 4), .int .i64 (fracD (mid (devs zs)) 4)]) w) := by
  obtain ⟨hsm, h1⟩ := nFault_small hf
  have HI : Hid (I62 (mid (devs zs))) := Lib.hid (by have := spr_I62 hsm h1; exact ⟨by omega, by omega⟩)
  have HA : FrBlk (w.alloc (.cells #[.int .i64 0, .int .i64 0] 73 (0, 0))) w.heap.size 0 0 := Blk.new w _ _
  have HB := Lib.hid (below_alloc (Below.refl w.heap.size w) (.cells #[.int .i64 0, .int .i64 0] 73 (0, 0)))
  have HR := Lib.hid (h.alloc (.cells #[.int .i64 0, .int .i64 0] 73 (0, 0)))
  have HS := Lib.hid hsm
  have HL := Lib.hid fun w => qlowest_any (mid (devs zs)) 4 w HI.out ⟨by omega, by omega⟩ (by omega)
  generalize fracN (mid (devs zs)) 4 = p at *
  generalize fracD (mid (devs zs)) 4 = q at *
  have Hn := Lib.hid hn
  have hlt : w.heap.size < (w.alloc (.cells #[.int .i64 0, .int .i64 0] 73 (0, 0))).heap.size := HA.lt
  clear h hsm h1 hn hf
  go_enter Try.func47, Try.ntmps47
  go_wp2_with fail
  refine (fourfold_any g o n c zs _ HR.out ⟨Hn.out.1, by have := Hn.out; omega⟩ HS.out).mono ?_
  rintro e w2 ⟨rfl, hB2⟩
  generalize (w.alloc (.cells #[.int .i64 0, .int .i64 0] 73 (0, 0))) = w1 at *
  have HA2 : FrBlk w2 w.heap.size 0 0 := Blk.below HA hB2 hlt
  have HB2 := Lib.hid (HB.out.trans (hB2.mono (by omega)))
  have hlt2 := HA2.lt
  clear hB2 HA hlt
  go_wp2_with fail
  refine (HL.out _).mono ?_
  rintro e w3 ⟨rfl, hB3⟩
  have HA3 : FrBlk w3 w.heap.size 0 0 := Blk.below HA2 hB3 hlt2
  have HB3 := Lib.hid (HB2.out.trans (hB3.mono (by omega)))
  obtain ⟨c0, c1, f0⟩ := HA3.cells
  clear hB3 HA2 hlt2 HA3
  go_wp2_with fail
  refine bodyPost_ret (v := .agg #[.int .i64 p, .int .i64 q]) (by simp [results, Try.results47, go_sem, c0, c1]) rfl ⟨rfl, ?_⟩
  repeat refine Below.setCell ?_ (by simp) _
  exact HB3.out
end Go.Proofs.Ytaamonhhclffcaa
