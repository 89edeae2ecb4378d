/-
  addr.Ranges and addr.Span of the program.
  A variable made and filled: alloc and store of a whole value at once, the cells whatever.
  Keys: the program's IsKey, the reference's Key (by strings.Trim): both say keyB.
-/
import Derived.Test.YtcpafmndjcejjaaGreatDoorSE11
import Derived.Deep.MidRow
import Derived.Deep.WholeRow
import Derived.Great.Walk
import Derived.BigQuiet
import Derived.Great.BuildSlice
import Derived.Great.FillDense
import Derived.Test.YtcpafmndjcejjaaGreatDoorSE8
import Derived.Test.YtcpafmndjcejjaaGreatDoorSE5
set_option linter.unusedVariables false
namespace Go.Proofs.YtcpafmndjcejjaaGreatDoor
open Go.RowKit Go
set_option linter.unusedVariables false
theorem RdK.one {α : Type} (E : Lay α) (w : World) (x : α) (cs : Array Value) (t : TypeId) (h : cs = (E.enc x).toArray) : RdK E (w.alloc (.cells cs t (0, 0))) (some ⟨w.heap.size, 0, none⟩) [x] := by
  subst h
  intro i y hy
  obtain rfl : i = 0 := by
    rcases i with _ | i
    · rfl
    · simp at hy
  simp at hy
  subst hy
  refine ⟨w.heap.size, 0, rfl, by simp, fun j v hv => ?_⟩
  rw [cell_of_row _ w.heap.size _ _ _ _ (heap_alloc_new w _)]
  simpa using hv
end Go.Proofs.YtcpafmndjcejjaaGreatDoor

namespace Go.Proofs.YtcpafmndjcejjaaGreatDoor
open Go.RowKit Go
set_option linter.unusedVariables false

theorem alloc_of {P : Program} {ty : TypeId} {z : Value} (hz : ∀ w, (zeroValue ty).run P w = .ok z w) (w : World) : (Instr.alloc ty true (.tuple #[])).run P w = .ok (.pointer (some ⟨w.heap.size, 0, none⟩)) (w.alloc (.cells z.cells ty (0, 0))) := by
  simp [Instr.alloc, hz, newVar, newRow]
/-- a value that is stored whole into the block made last -/
theorem wpList_store_newb {P : Program} {ops : Array Oper} {rest : List Oper} {op : Oper} {a : Act} {Q : Exit → Act → World → Prop} {w : World} {c c' : Array Value} (hgd : op.guard = none) (ty : TypeId) (x y : Operand) (ho : op.op = .store ty x y)
    (hx : a.eval x = .pointer (some ⟨w.heap.size, 0, none⟩)) (hy : a.eval y = .agg c') (hi : (P.info? ty).map (·.size) = some c'.size) (hs : c.size = c'.size) (h1 : c'.all (·.oneCell') = true)
    (h : wpList P ops Q rest (a.put op.dst undef) (w.alloc (.cells c' ty (0, 0)))) : wpList P ops Q (op :: rest) a (w.alloc (.cells c ty (0, 0))) :=
  wpList_store_row hgd ty x y ho w.heap.size c' hx hy ty c (heap_alloc_last w _) hi hs h1 (by rw [World.setRow_alloc_new]; exact h)
/-- alloc, then store: the block is there with the value's cells -/
theorem wpList_var {P : Program} {ops : Array Oper} {rest : List Oper} {o1 o2 : Oper} {a : Act} {Q : Exit → Act → World → Prop} {w : World} (c' : Array Value) (ty : TypeId) {z : Value} (hz : ∀ w, (zeroValue ty).run P w = .ok z w)
    (h1 : o1.guard = none) (e1 : o1.op = .alloc ty) (h2 : o2.guard = none) (x y : Operand) (e2 : o2.op = .store ty x y) (d : Option Tmp) (hd : o1.dst = d)
    (hx : (a.put d (.pointer (some ⟨w.heap.size, 0, none⟩))).eval x = .pointer (some ⟨w.heap.size, 0, none⟩)) (hy : (a.put d (.pointer (some ⟨w.heap.size, 0, none⟩))).eval y = .agg c')
    (m : Nat) (hi : (P.info? ty).map (·.size) = some m) (hm : c'.size = m) (hs : z.cells.size = m) (hone : c'.all (·.oneCell') = true)
    (h : wpList P ops Q rest ((a.put d (.pointer (some ⟨w.heap.size, 0, none⟩))).put o2.dst undef) (w.alloc (.cells c' ty (0, 0)))) : wpList P ops Q (o1 :: o2 :: rest) a w := by
  subst hd hm
  refine wpList_plain h1 fun K hK => ?_
  unfold Oper.wp execOp
  simp only [e1, Sem.run_bind, alloc_of hz w, Sem.run_pure, Result.andThen_ok]
  exact hK _ _ (wpList_store_newb h2 ty x y e2 hx hy hi hs hone h)
/-- a load of many cells; their number said apart -/
theorem wpList_loadn {P : Program} {ops : Array Oper} {rest : List Oper} {op : Oper} {a : Act} {w : World} {Q : Exit → Act → World → Prop} (hgd : op.guard = none) (ty : TypeId) (x : Operand) (ho : op.op = .load ty x)
    (b o : Nat) (hx : a.eval x = .pointer (some ⟨b, o, none⟩)) (cs : List Value) (d : TypeDesc) (hc : w.rangeAt b o cs)
    (hu : P.underlying ty = some d) (hd : d.isRow = true) (m : Nat) (hi : (P.info? ty).map (·.size) = some m) (hm : cs.length = m)
    (h : wpList P ops Q rest (a.put op.dst (.agg cs.toArray)) w) : wpList P ops Q (op :: rest) a w := by
  subst hm
  exact wpList_load_mid hgd ty x ho b o hx cs d hc hu hd hi h
/-- a row of one element out of a whole value, its cells whatever -/
theorem wpList_build1 {P : Program} {ops : Array Oper} {rest : List Oper} {o : Oper} {a : Act} {w : World} {Q : Exit → Act → World → Prop} (hg : o.guard = none) (t e : TypeId) (x : Operand) (ho : o.op = .buildSlice t 1 #[(0, x)])
    (X : Array Value) (hx : a.eval x = .agg X) (m : Nat) (hu : P.underlying t = some (.slice e)) (hi : (P.info? e).map (fun i => (i.size, i.zero.map (fun z => z.cells.size))) = some (m, some m)) (hX : X.size = m) (hpos : 0 < m) (hsmall : m ≤ 2 ^ 24)
    (h : wpList P ops Q rest (a.put o.dst (.slice (some ⟨w.heap.size, 0, none⟩) 1 1)) (w.alloc (.cells X e (0, 0)))) : wpList P ops Q (o :: rest) a w := by
  cases hie : P.info? e with
  | none => rw [hie] at hi; cases hi
  | some ie =>
    rw [hie] at hi
    simp only [Option.map_some, Option.some.injEq, Prod.mk.injEq] at hi
    obtain ⟨h1, h2⟩ := hi
    cases hz : ie.zero with
    | none => rw [hz] at h2; cases h2
    | some z =>
      rw [hz] at h2
      simp only [Option.map_some, Option.some.injEq] at h2
      have hf := Go.Great.fill_whole (s := m) hpos [Value.agg X] ((Array.range (1 * m)).map (z.cells[· % z.cells.size]!)) (fun v hv => by rw [List.mem_singleton] at hv; subst hv; exact hX) (by simp)
      have e2 : (([Value.agg X] : List Value).flatMap fun v => v.cells.toList).toArray = X := by simp [Value.cells]
      rw [e2] at hf
      refine wpList_buildSlice hg t e 1 #[(0, x)] ho X ie z hu hie hz (by rw [h1]; omega) (by rw [h1]; omega) ?_ h
      rw [h1]
      simpa [hx] using hf
theorem Blk.range {w : World} {B : Nat} {t : TypeId} {X : List Value} (h : Blk w B t X.toArray) : w.rangeAt B 0 X := fun j v hv => by
  rw [Nat.zero_add, h.cell j]
  simpa using hv
theorem range_left {w : World} {b o : Nat} {A B : List Value} (h : w.rangeAt b o (A ++ B)) : w.rangeAt b o A := fun j v hv => h j v (by
  have hj := (List.getElem?_eq_some_iff.1 hv).1
  rw [List.getElem?_append_left hj]; exact hv)
theorem range_right {w : World} {b o : Nat} {A B : List Value} (h : w.rangeAt b o (A ++ B)) : w.rangeAt b (o + A.length) B := fun j v hv => by
  have := h (A.length + j) v (by rw [List.getElem?_append_right (Nat.le_add_right _ _), Nat.add_sub_cancel_left]; exact hv)
  rw [← Nat.add_assoc] at this
  exact this
theorem range_below {w w' : World} {b o B : Nat} {A : List Value} (h : w.rangeAt b o A) (hb : Below B w w') (hlt : b < B) : w'.rangeAt b o A := fun j v hv => (hb.cell (p := ⟨b, o + j, none⟩) hlt).trans (h j v hv)
/-- a load of many cells in a quiet region -/
theorem wpQuiet_loadn {P : Program} {ops : Array Oper} {C : World → Prop} {Q : Act → Prop} {o : Oper} {rest : List Oper} {a : Act} (hw : Region.wanted o (yielded ops a.tmps) = true) (ty : TypeId) (x : Operand) (ho : o.op = .load ty x) (dst : Option Tmp) (hdst : o.dst = dst)
    (b off : Nat) (hx : a.eval x = .pointer (some ⟨b, off, none⟩)) (X : Array Value) (hc : ∀ w, C w → w.rangeAt b off X.toList) (d : TypeDesc) (hu : P.underlying ty = some d) (hd : d.isRow = true) (m : Nat) (hi : (P.info? ty).map (·.size) = some m) (hm : X.size = m)
    (h : wpQuiet P ops C Q rest (a.put dst (.agg X))) : wpQuiet P ops C Q (o :: rest) a := by
  subst hm hdst
  refine BigFrame.wpQuiet_want hw fun K hK => ⟨.agg X, fun w hwC => ?_, hK _ h⟩
  have := run_loadAt_mid w b off ty X.toList d (hc w hwC) hu hd (by simpa using hi)
  unfold Oper.quietAt execOp
  simp only [ho, hx, Sem.run_bind, this, Result.andThen_ok, Sem.run_pure]
  exact ⟨rfl, rfl⟩
theorem cN_pos (a b : Nat) : cN a b > 0 ↔ b < a := by unfold cN; split <;> (try split) <;> omega
theorem wN_size (x : Nat) : (wN x).size = 9 := rfl
theorem wN_dig8 (x : Nat) : (wN x).toList[8]? = some (.int .i64 ((digN x 8 : Nat) : Int)) := rfl
theorem qs_split (p : Sp) : layQs.enc p = (wN p.1).toList ++ (wN p.2).toList := Array.toList_append
theorem zero_qs : (Tryz.prog.info? 138).map (fun i => (i.size, i.zero.map (fun z => z.cells.size))) = some (18, some 18) := by kernel_rfl
theorem size_qs : (Tryz.prog.info? 138).map (·.size) = some 18 := by kernel_rfl
theorem size_wide : (Tryz.prog.info? 86).map (·.size) = some 9 := by kernel_rfl
end Go.Proofs.YtcpafmndjcejjaaGreatDoor

namespace Go.Proofs.YtcpafmndjcejjaaGreatDoor
open Go.RowKit Go
set_option linter.unusedVariables false

/-- a list of bytes as a string -/
def strL (L : List UInt8) : ByteArray := ⟨L.toArray⟩
theorem strL_of (s : ByteArray) : strL s.data.toList = s := by
  rcases s with ⟨⟨l⟩⟩
  rfl
theorem strL_size (L : List UInt8) : (strL L).size = L.length := by simp [strL, ByteArray.size]
theorem strL_get (L : List UInt8) (i : Nat) (x : UInt8) (hx : L[i]? = some x) (h : i < (strL L).size) : (strL L)[i]'h = x := by
  obtain ⟨h2, rfl⟩ := List.getElem?_eq_some_iff.1 hx
  rfl
theorem strL_take (L : List UInt8) (n : Nat) : (strL L).extract 0 n = strL (L.take n) := by
  unfold strL
  apply ByteArray.ext
  simp
theorem strL_drop (L : List UInt8) (m : Nat) : (strL L).extract m (strL L).size = strL (L.drop m) := by
  unfold strL
  apply ByteArray.ext
  simp [ByteArray.size]
  exact List.take_of_length_le (by simp)
theorem wrap_i64R (x : Nat) (h : x < 9223372036854775808) : IntKind.i64.wrap (x : Int) = (x : Int) := by
  rw [IntKind.wrap_i64]
  omega
end Go.Proofs.YtcpafmndjcejjaaGreatDoor
