/-
  Generators of flows and times: contracts of RightFlow, Flow, Times.
-/
import Derived.Test.YtofjlpnebfijoaaDoorGenB
import Derived.Deep.DeepCutAuto
namespace Go.Proofs.YtofjlpnebfijoaaDoor
open Go.RowKit
set_option linter.unusedVariables false

/-- a block known whole -/
def Blk (w : World) (B : Nat) (t : TypeId) (cs : Array Value) : Prop := w.heap[B]? = some (.cells cs t (0, 0))
theorem Blk.lt {w : World} {B : Nat} {t : TypeId} {cs : Array Value} (h : Blk w B t cs) : B < w.heap.size := lt_of_block h
theorem Blk.new (w : World) (t : TypeId) (cs : Array Value) : Blk (w.alloc (.cells cs t (0, 0))) w.heap.size t cs := heap_alloc_new w _
theorem Blk.alloc {w : World} {B : Nat} {t : TypeId} {cs : Array Value} (h : Blk w B t cs) (o : Obj) : Blk (w.alloc o) B t cs := (Below.heap_alloc w o B h.lt).trans h
theorem Blk.keep {w w' : World} {b B : Nat} {t : TypeId} {cs : Array Value} (h : Blk w B t cs) (hg : w.grownBy w' (some b)) (hne : B ≠ b) : Blk w' B t cs := blk_keep hg hne h
theorem Blk.below {w w' : World} {B B' : Nat} {t : TypeId} {cs : Array Value} (h : Blk w B t cs) (hb : Below B' w w') (hlt : B < B') : Blk w' B t cs := (hb.block B hlt).trans h
theorem Blk.drewN {w : World} {B : Nat} {t : TypeId} {cs : Array Value} (h : Blk w B t cs) (n : Nat) : Blk (w.drewN n) B t cs := h
theorem Blk.cell {w : World} {B : Nat} {t : TypeId} {cs : Array Value} (h : Blk w B t cs) (i : Nat) : w.cell? ⟨B, i, none⟩ = cs[i]? := cell_of_row w B i cs t (0, 0) h
theorem Blk.free {w : World} {B : Nat} {t : TypeId} {cs : Array Value} (h : Blk w B t cs) (i : Nat) : w.frozen? ⟨B, i, none⟩ = false := frozen_of_row w B i cs t h
theorem Blk.set {w : World} {B : Nat} {t : TypeId} {cs : Array Value} (h : Blk w B t cs) (i : Nat) (v : Value) : Blk (w.setCell ⟨B, i, none⟩ v) B t (cs.setIfInBounds i v) := heap_setCell_same w B i cs t v h
theorem Blk.far {w : World} {B B' : Nat} {t : TypeId} {cs : Array Value} (h : Blk w B t cs) (hne : B ≠ B') (i : Nat) (v : Value) : Blk (w.setCell ⟨B', i, none⟩ v) B t cs := (Below.heap_setCell w ⟨B', i, none⟩ v B hne).trans h


theorem pick_new (b m g n : Nat) (t : TypeId) (vs : Array Value) (zs : List Int) (w : World) (h : Strm w b m) (hg : w.heap.size = g) (hm : m < 1099511627776) (hn : zs.length = n) (hn1 : 1 ≤ n ∧ n ≤ 1000) (hv : vs = (zs.map (Value.int .i64)).toArray) :
    Calls Tryd.prog 6 #[.pointer (some ⟨b, 0, none⟩), .slice (some ⟨g, 0, none⟩) n n] (w.alloc (.cells vs t)) fun e w' => ∃ k : Int, e = .returned (.int .i64 k) ∧ k ∈ zs ∧ Gen b w w' (m + 1) := by
  subst hg hn
  exact (pick_gen b m w.heap.size 0 zs.length zs.length zs _ (h.alloc _) hm (by omega) (rdInts_new w t zs vs hv) (by have := h.lt; omega)).mono fun _ _ ⟨k, h1, h2, h3⟩ => ⟨k, h1, h2, ((Gen.start h).alloc _).trans h3⟩

end Go.Proofs.YtofjlpnebfijoaaDoor
