/-
  How many blocks a span has at most, plain.
  Spans.Prefixes: the greedy blocks of ranges.
  slices.Equal at rows of prefixes and of ranges.
  addr.set, checkPrefixes, Least of the program.
  addr.Least, CheckSet, Ranges of the program.
  addr.CheckSet of the program.
  addr.Ranges and addr.Span of the program.
  A variable made and filled: alloc and store of a whole value at once, the cells whatever.
-/
import Derived.Test.YtcpafmndjcejjaaGreatDoorAR9
import Derived.Deep.CutBlock
import Derived.Test.YtcpafmndjcejjaaGreatDoorAR4
import Derived.Deep.MidRow
import Derived.Deep.WholeRow
import Derived.Great.Walk
import Derived.BigQuiet
import Derived.Great.BuildSlice
import Derived.Great.FillDense
set_option linter.unusedVariables false
namespace Go.Proofs.YtcpafmndjcejjaaGreatDoor
open Go
set_option linter.unusedVariables false
end Go.Proofs.YtcpafmndjcejjaaGreatDoor

namespace Go.Proofs.YtcpafmndjcejjaaGreatDoor
open Go.RowKit Go
set_option linter.unusedVariables false
theorem own_far {w : World} {base : Nat} {e : TypeId} {size : Nat} {v : Value} {n : Nat} {xs : List Value} {b : Nat} {t : TypeId} {cs : Array Value} (h : w.ownsRow base e size v n xs) (hb : Blk w b t cs) (hne : e ≠ t) (i : Nat) (u : Value) : (w.setCell ⟨b, i, none⟩ u).ownsRow base e size v n xs := by
  rcases h with ⟨hl, hv | ⟨g, c, cur, rfl, hbase, hg, hc, hm, hs, ht⟩⟩
  · exact ⟨hl, .inl hv⟩
  · refine ⟨hl, .inr ⟨g, c, cur, rfl, hbase, ?_, hc, hm, hs, ht⟩⟩
    rw [Below.heap_setCell w ⟨b, i, none⟩ u g (by
      rintro rfl
      unfold Blk at hb
      rw [hg] at hb
      injection hb with hb
      injection hb with _ hb
      exact hne hb)]
    exact hg
theorem OwnK.far {α : Type} {E : Lay α} {w : World} {B : Nat} {v : Value} {L : List α} {b : Nat} {t : TypeId} {cs : Array Value} (h : OwnK E w B v L) (hb : Blk w b t cs) (hne : E.ty ≠ t) (i : Nat) (u : Value) : OwnK E (w.setCell ⟨b, i, none⟩ u) B v L := own_far h hb hne i u
theorem Blk.grew {w w' : World} {b : Nat} {t : TypeId} {cs : Array Value} {base : Nat} {e : TypeId} {size : Nat} {v v' : Value} {n : Nat} {xs : List Value} (hb : Blk w b t cs) (h : w.ownsRow base e size v n xs) (hne : e ≠ t) (hG : Grew w w' v v') : Blk w' b t cs := by
  refine (hG.g.block b hb.lt ?_).trans hb
  rcases h with ⟨hl, ⟨rfl, _⟩ | ⟨g, c, cur, rfl, hbase, hg, hc, hm, hs, ht⟩⟩
  · simp [Value.ownBlock]
  · intro he
    have : b = g := by simpa [Value.ownBlock] using he
    subst this
    unfold Blk at hb
    rw [hg] at hb
    injection hb with hb
    injection hb with _ hb
    exact hne hb
end Go.Proofs.YtcpafmndjcejjaaGreatDoor

namespace Go.Proofs.YtcpafmndjcejjaaGreatDoor
open Go.RowKit Go
set_option linter.unusedVariables false
end Go.Proofs.YtcpafmndjcejjaaGreatDoor

namespace Go.Proofs.YtcpafmndjcejjaaGreatDoor
open Go.RowKit Go
set_option linter.unusedVariables false
end Go.Proofs.YtcpafmndjcejjaaGreatDoor

namespace Go.Proofs.YtcpafmndjcejjaaGreatDoor
open Go.RowKit Go
set_option linter.unusedVariables false
end Go.Proofs.YtcpafmndjcejjaaGreatDoor

namespace Go.Proofs.YtcpafmndjcejjaaGreatDoor
open Go.RowKit Go
set_option linter.unusedVariables false
end Go.Proofs.YtcpafmndjcejjaaGreatDoor

namespace Go.Proofs.YtcpafmndjcejjaaGreatDoor
open Go.RowKit Go
set_option linter.unusedVariables false
theorem RdK.one {α : Type} (E : Lay α) (w : World) (x : α) (cs : Array Value) (t : TypeId) (h : cs = (E.enc x).toArray) : RdK E (w.alloc (.cells cs t (0, 0))) (some ⟨w.heap.size, 0, none⟩) [x] := by
  subst h
  intro i y hy
  obtain rfl : i = 0 := by
    rcases i with _ | i
    · rfl
    · simp at hy
  simp at hy
  subst hy
  refine ⟨w.heap.size, 0, rfl, by simp, fun j v hv => ?_⟩
  rw [cell_of_row _ w.heap.size _ _ _ _ (heap_alloc_new w _)]
  simpa using hv
end Go.Proofs.YtcpafmndjcejjaaGreatDoor

namespace Go.Proofs.YtcpafmndjcejjaaGreatDoor
open Go.RowKit Go
set_option linter.unusedVariables false

theorem alloc_of {P : Program} {ty : TypeId} {z : Value} (hz : ∀ w, (zeroValue ty).run P w = .ok z w) (w : World) : (Instr.alloc ty true (.tuple #[])).run P w = .ok (.pointer (some ⟨w.heap.size, 0, none⟩)) (w.alloc (.cells z.cells ty (0, 0))) := by
  simp [Instr.alloc, hz, newVar, newRow]
/-- a value that is stored whole into the block made last -/
theorem wpList_store_newb {P : Program} {ops : Array Oper} {rest : List Oper} {op : Oper} {a : Act} {Q : Exit → Act → World → Prop} {w : World} {c c' : Array Value} (hgd : op.guard = none) (ty : TypeId) (x y : Operand) (ho : op.op = .store ty x y)
    (hx : a.eval x = .pointer (some ⟨w.heap.size, 0, none⟩)) (hy : a.eval y = .agg c') (hi : (P.info? ty).map (·.size) = some c'.size) (hs : c.size = c'.size) (h1 : c'.all (·.oneCell') = true)
    (h : wpList P ops Q rest (a.put op.dst undef) (w.alloc (.cells c' ty (0, 0)))) : wpList P ops Q (op :: rest) a (w.alloc (.cells c ty (0, 0))) :=
  wpList_store_row hgd ty x y ho w.heap.size c' hx hy ty c (heap_alloc_last w _) hi hs h1 (by rw [World.setRow_alloc_new]; exact h)
/-- alloc, then store: the block is there with the value's cells -/
theorem wpList_var {P : Program} {ops : Array Oper} {rest : List Oper} {o1 o2 : Oper} {a : Act} {Q : Exit → Act → World → Prop} {w : World} (c' : Array Value) (ty : TypeId) {z : Value} (hz : ∀ w, (zeroValue ty).run P w = .ok z w)
    (h1 : o1.guard = none) (e1 : o1.op = .alloc ty) (h2 : o2.guard = none) (x y : Operand) (e2 : o2.op = .store ty x y) (d : Option Tmp) (hd : o1.dst = d)
    (hx : (a.put d (.pointer (some ⟨w.heap.size, 0, none⟩))).eval x = .pointer (some ⟨w.heap.size, 0, none⟩)) (hy : (a.put d (.pointer (some ⟨w.heap.size, 0, none⟩))).eval y = .agg c')
    (m : Nat) (hi : (P.info? ty).map (·.size) = some m) (hm : c'.size = m) (hs : z.cells.size = m) (hone : c'.all (·.oneCell') = true)
    (h : wpList P ops Q rest ((a.put d (.pointer (some ⟨w.heap.size, 0, none⟩))).put o2.dst undef) (w.alloc (.cells c' ty (0, 0)))) : wpList P ops Q (o1 :: o2 :: rest) a w := by
  subst hd hm
  refine wpList_plain h1 fun K hK => ?_
  unfold Oper.wp execOp
  simp only [e1, Sem.run_bind, alloc_of hz w, Sem.run_pure, Result.andThen_ok]
  exact hK _ _ (wpList_store_newb h2 ty x y e2 hx hy hi hs hone h)
theorem Blk.range {w : World} {B : Nat} {t : TypeId} {X : List Value} (h : Blk w B t X.toArray) : w.rangeAt B 0 X := fun j v hv => by
  rw [Nat.zero_add, h.cell j]
  simpa using hv
end Go.Proofs.YtcpafmndjcejjaaGreatDoor
