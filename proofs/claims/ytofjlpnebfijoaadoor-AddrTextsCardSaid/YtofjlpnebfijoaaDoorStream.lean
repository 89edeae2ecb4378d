/-
  The stream of drawn numbers: contracts of lanemake.Below and of the methods Next, Range, Flip of Stream. Conditions: fewer than 2^40 numbers drawn.
-/
import Derived.Test.YtofjlpnebfijoaaDoorProg
import Derived.WalkKit
import Derived.WalkLawsBesides
import Derived.WalkSpells
import Derived.Deep.QuietTactic
import Derived.BigQuiet
import Derived.Lib.Hide
namespace Go.Proofs.YtofjlpnebfijoaaDoor
open Go.RowKit
set_option linter.unusedVariables false

theorem ret_int {k : IntKind} {a b : Int} (h : a = b) : Ending.returned (.int k a) = .returned (.int k b) := by rw [h]
/-- int64's range -/
def I64 (x : Int) : Prop := -9223372036854775808 ≤ x ∧ x ≤ 9223372036854775807

theorem wrap64_bd (x : Int) : -9223372036854775808 ≤ wrap64 x ∧ wrap64 x ≤ 9223372036854775807 := by unfold wrap64; omega

def BelowRes (n k : Int) : Prop := 0 ≤ k ∧ (k < n ∨ k = 0)

theorem below_any (x n : Int) (w : World) (hx : -9223372036854775808 ≤ x ∧ x ≤ 9223372036854775807) (hn : -9223372036854775808 ≤ n ∧ n ≤ 9223372036854775807) :
    Calls Tryd.prog 27 #[.int .i64 x, .int .i64 n] w fun e w' => ∃ k : Int, e = .returned (.int .i64 k) ∧ BelowRes n k ∧ w = w' := by
  have h3 : 1 ≤ n → x.tmod n < n ∧ -n < x.tmod n := fun h => ⟨Int.tmod_lt_of_pos x (by omega), by have := Int.lt_tmod_of_pos x (show 0 < n by omega); omega⟩
  go_enter Tryd.func27, Tryd.ntmps27
  go_wp2
  · go_ret; exact ⟨_, rfl, ⟨by omega, by omega⟩, rfl⟩
  · go_ret
    have h1 : 1 ≤ n := by assumption
    have h2 : x.tmod n < 0 := by assumption
    have := h3 h1
    exact ⟨_, rfl, ⟨by omega, by omega⟩, rfl⟩
  · go_ret
    have h1 : 1 ≤ n := by assumption
    have h2 : 0 ≤ x.tmod n := by assumption
    have := h3 h1
    exact ⟨_, rfl, ⟨by omega, by omega⟩, rfl⟩

/-- The stream at block b: at most m numbers were drawn; its numbers are readable and lie in blocks below b. -/
structure Strm (w : World) (b m : Nat) : Prop where
  ex : ∃ (ad : Option Addr) (n c : Nat) (k : Int) (zs : Nat → Int), w.heap[b]? = some (.cells #[.slice ad n c, .int .i64 k] 25 (0, 0)) ∧ n ≤ 9223372036854775807 ∧ 0 ≤ k ∧ k ≤ m ∧
    (∀ i, i < n → ∃ bb oo, ad = some ⟨bb, oo, none⟩ ∧ bb < b ∧ w.cell? ⟨bb, oo + i, none⟩ = some (.int .i64 (zs i))) ∧ (∀ i, -9223372036854775808 ≤ zs i ∧ zs i ≤ 9223372036854775807)

theorem Strm.lt {w : World} {b m : Nat} (h : Strm w b m) : b < w.heap.size := by
  obtain ⟨ad, n, c, k, zs, hb, _⟩ := h.ex
  exact lt_of_block hb
theorem Strm.mono {w : World} {b m m' : Nat} (h : Strm w b m) (hm : m ≤ m') : Strm w b m' := by
  obtain ⟨ad, n, c, k, zs, hb, h1, h2, h3, h4, h5⟩ := h.ex
  exact ⟨ad, n, c, k, zs, hb, h1, h2, by omega, h4, h5⟩
/-- The stream's block and all below are kept -/
theorem Strm.keep {w w' : World} {b m : Nat} (h : Strm w b m) (hk : ∀ i, i ≤ b → w'.heap[i]? = w.heap[i]?) : Strm w' b m := by
  obtain ⟨ad, n, c, k, zs, hb, h1, h2, h3, h4, h5⟩ := h.ex
  refine ⟨ad, n, c, k, zs, (hk b (Nat.le_refl _)).trans hb, h1, h2, h3, fun i hi => ?_, h5⟩
  obtain ⟨bb, oo, e, hlt, hc⟩ := h4 i hi
  exact ⟨bb, oo, e, hlt, (World.cell?_of_block (w := w) (hk bb (by omega))).trans hc⟩
theorem Strm.below {w w' : World} {b m B : Nat} (h : Strm w b m) (hb : Below B w w') (hB : b < B) : Strm w' b m := h.keep fun i hi => hb.block i (by omega)
theorem Strm.drewN {w : World} {b m : Nat} (h : Strm w b m) (n : Nat) : Strm (w.drewN n) b m := h.keep fun i hi => rfl
theorem Strm.alloc {w : World} {b m : Nat} (h : Strm w b m) (o : Obj) : Strm (w.alloc o) b m := h.keep fun i hi => Below.heap_alloc w o i (by have := h.lt; omega)
theorem Strm.grown {w w' : World} {b m : Nat} {row : Option Nat} (h : Strm w b m) (hg : w.grownBy w' row) (hr : ∀ g, row = some g → b < g) : Strm w' b m :=
  h.keep fun i hi => hg.block i (by have := h.lt; omega) (fun e => by have := hr _ e.symm; omega)

theorem next_any (b m : Nat) (n : Int) (w : World) (h : Strm w b m) (hm : m < 1099511627776) (hn : -9223372036854775808 ≤ n ∧ n ≤ 9223372036854775807) :
    Calls Tryd.prog 15 #[.pointer (some ⟨b, 0, none⟩), .int .i64 n] w fun e w' => ∃ k : Int, e = .returned (.int .i64 k) ∧ BelowRes n k ∧ w.grownBy w' (some b) ∧ Strm w' b (m + 1) := by
  obtain ⟨ad, len, c, k, zs, hb, hlen, hk0, hk1, hz, hzb⟩ := h.ex
  have c0 : w.cell? ⟨b, 0, none⟩ = some (.slice ad len c) := by rw [cell_of_row w b 0 _ _ _ hb]; rfl
  have c1 : w.cell? ⟨b, 1, none⟩ = some (.int .i64 k) := by rw [cell_of_row w b 1 _ _ _ hb]; rfl
  have f1 : w.frozen? ⟨b, 1, none⟩ = false := frozen_of_row w b 1 _ _ hb
  have hend : ∀ N, w.grownBy ((w.setCell ⟨b, 1, none⟩ (.int .i64 (k + 1))).drewN N) (some b) ∧ Strm ((w.setCell ⟨b, 1, none⟩ (.int .i64 (k + 1))).drewN N) b (m + 1) := by
    intro N
    refine ⟨⟨rfl, rfl, rfl, by simp [World.setCell], fun i hi hne => Below.heap_setCell w _ _ i (fun e => hne (by rw [e]))⟩, ⟨ad, len, c, k + 1, zs, ?_, hlen, by omega, by omega, fun i hi => ?_, hzb⟩⟩
    · show (w.setCell ⟨b, 1, none⟩ (.int .i64 (k + 1))).heap[b]? = _
      rw [heap_setCell_same w b 1 _ _ _ hb]; rfl
    · obtain ⟨bb, oo, e, hlt, hc⟩ := hz i hi
      exact ⟨bb, oo, e, hlt, (World.cell?_of_block (w := w) (Below.heap_setCell w ⟨b, 1, none⟩ _ bb (by simp; omega))).trans hc⟩
  have Hend := Lib.hid hend
  clear hend h hb
  by_cases hl0 : ((len : Int) == 0) = true
  · clear hz
    go_enter Tryd.func15, Tryd.ntmps15
    go_wp2_with (go_at_call 27; refine (below_any _ _ _ (by omega) (by omega)).mono ?_; rintro e w' ⟨k', rfl, hk', rfl⟩)
    go_ret
    exact ⟨_, rfl, hk', (Hend.out 0).1, (Hend.out 0).2⟩
  · have hl1 : 0 < len := by simp at hl0; omega
    have hlf : ((len : Int) == 0) = false := by simpa using hl0
    have hm0 : 0 ≤ k % (len : Int) := Int.emod_nonneg _ (by omega)
    have hm1 : k % (len : Int) < len := Int.emod_lt_of_pos _ (by omega)
    obtain ⟨bb, oo, rfl, hlt, hc⟩ := hz (k % (len : Int)).toNat (by omega)
    have hzi := hzb (k % (len : Int)).toNat
    generalize zs (k % (len : Int)).toNat = z at hc hzi
    clear hz hzb hl0
    have hbne : bb ≠ b := by omega
    go_enter Tryd.func15, Tryd.ntmps15
    go_wp2_with fail
    go_quiet (fail)
    go_wp2_with fail
    go_quiet (fail)
    go_wp2_with (go_at_call 27; refine (below_any _ _ _ (by first | omega | exact wrap64_bd _) (by omega)).mono ?_; rintro e w' ⟨k', rfl, hk', rfl⟩)
    go_ret
    exact ⟨_, rfl, hk', (Hend.out _).1, (Hend.out _).2⟩
/-- What a generator function leaves: only the stream's block is written, and at most m numbers were drawn in all. -/
structure Gen (b : Nat) (w w' : World) (m' : Nat) : Prop where
  g : w.grownBy w' (some b)
  s : Strm w' b m'
theorem Gen.mono {b m m' : Nat} {w w' : World} (h : Gen b w w' m) (hm : m ≤ m') : Gen b w w' m' := ⟨h.g, h.s.mono hm⟩
theorem grown_trans {a b c : World} {r : Option Nat} (h : a.grownBy b r) (k : b.grownBy c r) : a.grownBy c r :=
  ⟨k.os.trans h.os, k.tape.trans h.tape, k.output.trans h.output, Nat.le_trans h.size k.size, fun i hi hne => (k.block i (Nat.lt_of_lt_of_le hi h.size) hne).trans (h.block i hi hne)⟩
theorem Gen.trans {b m m' : Nat} {u v w : World} (h : Gen b u v m) (k : Gen b v w m') : Gen b u w m' := ⟨grown_trans h.g k.g, k.s⟩
theorem Gen.drewN {b m : Nat} {u v : World} (h : Gen b u v m) (n : Nat) : Gen b u (v.drewN n) m :=
  ⟨⟨h.g.os, h.g.tape, h.g.output, h.g.size, h.g.block⟩, h.s.drewN n⟩
theorem Gen.drew {b m : Nat} {u v : World} (h : Gen b u v m) : Gen b u v.drew m := h.drewN 1
theorem Gen.alloc {b m : Nat} {u v : World} (h : Gen b u v m) (o : Obj) : Gen b u (v.alloc o) m :=
  ⟨grown_trans h.g (World.grownBy_alloc v o _), h.s.alloc o⟩
theorem Gen.setCell {b m : Nat} {u v : World} (h : Gen b u v m) (a : Addr) (x : Value) (ha : u.heap.size ≤ a.block) (hb : b < a.block) : Gen b u (v.setCell a x) m :=
  ⟨⟨h.g.os, h.g.tape, h.g.output, by simpa [World.setCell] using h.g.size, fun i hi hne => (Below.heap_setCell v a x i (by omega)).trans (h.g.block i hi hne)⟩,
   h.s.keep fun i hi => Below.heap_setCell v a x i (by omega)⟩
theorem Gen.start {b m : Nat} {w : World} (h : Strm w b m) : Gen b w w m := ⟨World.grownBy.refl w _, h⟩
theorem Gen.below {b m B : Nat} {u v w : World} (h : Gen b u v m) (k : Below B v w) (hB : u.heap.size ≤ B) (hb : b < B) : Gen b u w m :=
  ⟨⟨k.os.trans h.g.os, k.tape.trans h.g.tape, k.output.trans h.g.output, Nat.le_trans h.g.size k.size, fun i hi hne => (k.block i (by omega)).trans (h.g.block i hi hne)⟩, h.s.below k hb⟩

def RangeRes (low high k : Int) : Prop := low ≤ k ∧ (k ≤ high ∨ k = low)

theorem next_gen (b m : Nat) (n : Int) (w : World) (h : Strm w b m) (hm : m < 1099511627776) (hn : -9223372036854775808 ≤ n ∧ n ≤ 9223372036854775807) :
    Calls Tryd.prog 15 #[.pointer (some ⟨b, 0, none⟩), .int .i64 n] w fun e w' => ∃ k : Int, e = .returned (.int .i64 k) ∧ BelowRes n k ∧ Gen b w w' (m + 1) :=
  (next_any b m n w h hm hn).mono fun _ _ ⟨k, h1, h2, h3, h4⟩ => ⟨k, h1, h2, h3, h4⟩

theorem range_gen (b m : Nat) (low high : Int) (w : World) (h : Strm w b m) (hm : m < 1099511627776) (hl : -2305843009213693952 ≤ low ∧ low ≤ 2305843009213693952) (hh : -2305843009213693952 ≤ high ∧ high ≤ 2305843009213693952) :
    Calls Tryd.prog 26 #[.pointer (some ⟨b, 0, none⟩), .int .i64 low, .int .i64 high] w fun e w' => ∃ k : Int, e = .returned (.int .i64 k) ∧ RangeRes low high k ∧ Gen b w w' (m + 1) := by
  go_enter Tryd.func26, Tryd.ntmps26
  go_wp2_with (go_at_call 15; refine (next_gen b m _ _ h hm (by omega)).mono ?_; rintro e w' ⟨k', rfl, ⟨hk0, hk1⟩, hg⟩)
  · go_ret; exact ⟨_, rfl, ⟨by omega, by omega⟩, (Gen.start h).mono (by omega)⟩
  · go_ret; exact ⟨_, rfl, ⟨by omega, by omega⟩, hg⟩

theorem flip_gen (b m : Nat) (n : Int) (w : World) (h : Strm w b m) (hm : m < 1099511627776) (hn : -9223372036854775808 ≤ n ∧ n ≤ 9223372036854775807) :
    Calls Tryd.prog 5 #[.pointer (some ⟨b, 0, none⟩), .int .i64 n] w fun e w' => ∃ k : Bool, e = .returned (.bool k) ∧ Gen b w w' (m + 1) := by
  go_enter Tryd.func5, Tryd.ntmps5
  go_wp2_with (go_at_call 15; refine (next_gen b m _ _ h hm (by omega)).mono ?_; rintro e w' ⟨k', rfl, ⟨hk0, hk1⟩, hg⟩)
  go_ret; exact ⟨_, rfl, hg⟩

/-- A slice of ints in memory. -/
def RdInts (w : World) (g o n : Nat) (zs : List Int) : Prop := zs.length = n ∧ g < w.heap.size ∧ ∀ i, i < n → w.cell? ⟨g, o + i, none⟩ = some (.int .i64 (zs.getD i 0))

theorem pick_gen (b m g o n c : Nat) (zs : List Int) (w : World) (h : Strm w b m) (hm : m < 1099511627776) (hn : 1 ≤ n ∧ n ≤ 9223372036854775807) (hz : RdInts w g o n zs) (hgb : g ≠ b) :
    Calls Tryd.prog 6 #[.pointer (some ⟨b, 0, none⟩), .slice (some ⟨g, o, none⟩) n c] w fun e w' => ∃ k : Int, e = .returned (.int .i64 k) ∧ k ∈ zs ∧ Gen b w w' (m + 1) := by
  obtain ⟨hl, hgs, hc⟩ := hz
  have Hc := Lib.hid hc
  have Hl := Lib.hid hl
  clear hc hl
  go_enter Tryd.func6, Tryd.ntmps6
  go_wp2_with fail
  refine (next_gen b m _ _ h hm (by omega)).mono ?_
  rintro e w' ⟨k, rfl, ⟨hk0, hk1⟩, hg⟩
  have hk2 : k < n := by omega
  have hcell : w'.cell? ⟨g, o + k.toNat, none⟩ = some (.int .i64 (zs.getD k.toNat 0)) := (World.cell?_of_block (w := w) (hg.g.block g hgs (by simpa using hgb))).trans (Hc.out k.toNat (by omega))
  have hmem : zs.getD k.toNat 0 ∈ zs := by
    have hlt : k.toNat < zs.length := by rw [Hl.out]; omega
    simp [List.getD, List.getElem?_eq_getElem hlt]
  generalize zs.getD k.toNat 0 = z at hcell hmem
  go_wp2_with fail
  go_ret; exact ⟨_, rfl, hmem, hg⟩
/-- what the law is handed: a slice of ints that can be read -/
def LawArg (w : World) (ad : Option Addr) (n : Nat) : Prop :=
  n ≤ 9223372036854775807 ∧ ∃ zs : Nat → Int, (∀ i, i < n → ∃ bb oo, ad = some ⟨bb, oo, none⟩ ∧ bb < w.heap.size ∧ w.cell? ⟨bb, oo + i, none⟩ = some (.int .i64 (zs i))) ∧ (∀ i, -9223372036854775808 ≤ zs i ∧ zs i ≤ 9223372036854775807)

theorem LawArg.strm {w : World} {ad : Option Addr} {n c : Nat} (h : LawArg w ad n) : Strm (w.alloc (.cells #[.slice ad n c, .int .i64 0] 25 (0, 0))) w.heap.size 0 := by
  obtain ⟨hn, zs, hz, hb⟩ := h
  refine ⟨ad, n, c, 0, zs, heap_alloc_new w _, hn, Int.le_refl _, Int.le_refl _, fun i hi => ?_, hb⟩
  obtain ⟨bb, oo, e, hlt, hc⟩ := hz i hi
  exact ⟨bb, oo, e, hlt, (World.cell?_of_block (w := w) (Below.heap_alloc w _ bb hlt)).trans hc⟩

end Go.Proofs.YtofjlpnebfijoaaDoor
