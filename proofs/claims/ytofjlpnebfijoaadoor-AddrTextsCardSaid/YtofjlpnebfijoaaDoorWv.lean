/-
  The reference's first and last address of a prefix: digits struck or filled, bit by bit.
-/
import Derived.Test.YtofjlpnebfijoaaDoorWide
import Derived.Test.YtofjlpnebfijoaaDoorDig
import Derived.Test.YtofjlpnebfijoaaDoorRegionQ
import Derived.StillTailTactics
import Derived.Laws.Tables
import Derived.Laws.Rows
namespace Go.Proofs.YtofjlpnebfijoaaDoor
open Go.RowKit Go
set_option linter.unusedVariables false

def dg (hi lo : Nat) : Nat → Nat
  | 0 => lo % 65536
  | 1 => lo / 65536 % 65536
  | 2 => lo / 4294967296 % 65536
  | 3 => lo / 281474976710656 % 65536
  | 4 => hi % 65536
  | 5 => hi / 65536 % 65536
  | 6 => hi / 4294967296 % 65536
  | _ => hi / 281474976710656 % 65536
theorem dg_lt (hi lo d : Nat) : dg hi lo d < 65536 := by
  unfold dg
  split <;> exact Nat.mod_lt _ (by decide)
def wv (six : Bool) (f : Nat → Nat) : Array Value := #[.int .i64 ((f 0 : Nat) : Int), .int .i64 ((f 1 : Nat) : Int), .int .i64 ((f 2 : Nat) : Int), .int .i64 ((f 3 : Nat) : Int), .int .i64 ((f 4 : Nat) : Int), .int .i64 ((f 5 : Nat) : Int), .int .i64 ((f 6 : Nat) : Int), .int .i64 ((f 7 : Nat) : Int), .int .i64 (if six = true then 1 else 0)]
theorem wCells_wv (six : Bool) (hi lo : Nat) : wCells six hi lo = wv six (dg hi lo) := rfl
theorem wv_size (six : Bool) (f : Nat → Nat) : (wv six f).size = 9 := rfl
theorem lt8 {d : Nat} (h : d < 8) : d = 0 ∨ d = 1 ∨ d = 2 ∨ d = 3 ∨ d = 4 ∨ d = 5 ∨ d = 6 ∨ d = 7 := by omega
theorem wv_get (six : Bool) (f : Nat → Nat) (d : Nat) (h : d < 8) : (wv six f)[d]? = some (.int .i64 ((f d : Nat) : Int)) := by
  rcases lt8 h with rfl | rfl | rfl | rfl | rfl | rfl | rfl | rfl <;> rfl
theorem wv_set (six : Bool) (f : Nat → Nat) (d : Nat) (h : d < 8) (x : Nat) : (wv six f).setIfInBounds d (.int .i64 (x : Int)) = wv six (fun j => if j = d then x else f j) := by
  rcases lt8 h with rfl | rfl | rfl | rfl | rfl | rfl | rfl | rfl <;> rfl
theorem wv_one (six : Bool) (f : Nat → Nat) : (wv six f).all (·.oneCell') = true := by simp [wv, Value.oneCell']
theorem wv_congr {six : Bool} {f g : Nat → Nat} (h : ∀ d, d < 8 → f d = g d) : wv six f = wv six g := by
  unfold wv
  rw [h 0 (by decide), h 1 (by decide), h 2 (by decide), h 3 (by decide), h 4 (by decide), h 5 (by decide), h 6 (by decide), h 7 (by decide)]
def clrF (hi lo k : Nat) (d : Nat) : Nat := clr (dg hi lo d) (min (k - 16 * d) 16)
def filF (hi lo k : Nat) (d : Nat) : Nat := fil (dg hi lo d) (min (k - 16 * d) 16)
theorem belowRow {u v : World} (h : Below u.heap.size u v) {B : Nat} (hB : u.heap.size ≤ B) (c : Array Value) : Below u.heap.size u (v.setRow B c) :=
  ⟨h.os, h.tape, h.output, by rw [setRow_size]; exact h.size, fun i hi => (setRow_other v B i c (by omega)).trans (h.block i hi)⟩
theorem Blk.rowFar {w : World} {A B : Nat} {t : TypeId} {cs : Array Value} (h : Blk w A t cs) (hne : A ≠ B) (c2 : Array Value) : Blk (w.setRow B c2) A t cs := (setRow_other w B A c2 hne).trans h
theorem Blk.row {w : World} {B : Nat} {t : TypeId} {cs : Array Value} (h : Blk w B t cs) (c2 : Array Value) : Blk (w.setRow B c2) B t c2 := setRow_heap w B _ _ _ _ h

theorem clrF_zero (six : Bool) (hi lo : Nat) : wv six (clrF hi lo 0) = wv six (dg hi lo) := wv_congr fun d _ => by unfold clrF; rw [Nat.zero_sub, Nat.zero_min, clr_zero]
theorem clrF_step (six : Bool) (hi lo i : Nat) (h : i < 128) : (wv six (clrF hi lo i)).setIfInBounds (i / 16) (.int .i64 ((clr (dg hi lo (i / 16)) (i % 16 + 1) : Nat) : Int)) = wv six (clrF hi lo (i + 1)) := by
  rw [wv_set _ _ _ (by omega)]
  refine wv_congr fun d _ => ?_
  unfold clrF
  by_cases e : d = i / 16
  · rw [if_pos e, clr_next _ _ _ e.symm, e]
  · rw [if_neg e, clr_else _ _ _ (Ne.symm e)]
theorem clrF_at (hi lo i : Nat) : clrF hi lo i (i / 16) = clr (dg hi lo (i / 16)) (i % 16) := clr_at _ _ _ rfl

theorem filF_zero (six : Bool) (hi lo : Nat) : wv six (filF hi lo 0) = wv six (dg hi lo) := wv_congr fun d _ => by unfold filF; rw [Nat.zero_sub, Nat.zero_min, fil_zero]
theorem filF_step (six : Bool) (hi lo i : Nat) (h : i < 128) : (wv six (filF hi lo i)).setIfInBounds (i / 16) (.int .i64 ((fil (dg hi lo (i / 16)) (i % 16 + 1) : Nat) : Int)) = wv six (filF hi lo (i + 1)) := by
  rw [wv_set _ _ _ (by omega)]
  refine wv_congr fun d _ => ?_
  unfold filF
  by_cases e : d = i / 16
  · rw [if_pos e, fil_next _ _ _ e.symm, e]
  · rw [if_neg e, fil_else _ _ _ (Ne.symm e)]
theorem filF_at (hi lo i : Nat) : filF hi lo i (i / 16) = fil (dg hi lo (i / 16)) (i % 16) := fil_at _ _ _ rfl
end Go.Proofs.YtofjlpnebfijoaaDoor
