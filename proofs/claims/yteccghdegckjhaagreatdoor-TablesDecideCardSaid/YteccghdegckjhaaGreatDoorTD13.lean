/-
  Entries without a fault; the generator's order and sameness of entries.
  Rows of structs whose cells are set many at once.
  The contract of slices.SortFunc at a slice of structs over this program, as the kit's lay-plain.mjs prints it. Condition: the slice has no element, or its cells are known, fewer than 2^62 of them.
  Lists without the elements that are alike to the one ahead of them, in plain words.
  All blocks but the one that a value owns stay as they are.
  The generator of right prefixes: what it returns is a right prefix.
  Functions of package slices at a row of structs.
  Functions of package slices at a row of structs.
-/
import Derived.Test.YteccghdegckjhaaGreatDoorTD12
import Derived.Test.YteccghdegckjhaaGreatDoorTD3
import Derived.Test.YteccghdegckjhaaGreatDoorTD6
import Derived.Deep.MidRow
import Derived.Shelf.SlSortCmp.NoneTotal
import Derived.Test.YteccghdegckjhaaGreatDoorProg
import Derived.Test.YteccghdegckjhaaGreatDoorTD8
import Derived.Test.YteccghdegckjhaaGreatDoorTD7
import Derived.Test.YteccghdegckjhaaGreatDoorTD9
import Derived.WalkSpells
set_option linter.unusedVariables false
namespace Go.Proofs.YteccghdegckjhaaGreatDoor
open Go.RowKit Go
set_option linter.unusedVariables false

def EB := { e : En // OkPf e.1 ∧ e.2.length ≤ 1000 }
theorem okPf_zero : OkPf zPf := okPf_of (by decide +kernel) (show (0 : Nat) < 18446744073709551616 by decide) (show (0 : Nat) < 18446744073709551616 by decide)
instance : Inhabited EB := ⟨⟨zEn, okPf_zero, by decide⟩⟩
def layEB : Lay EB := ⟨fun x => enC x.1, 5, 48, by decide, fun _ => rfl, fun p v hv => layEn.one p.1 v hv⟩
theorem allEB (L : List EB) : layEB.all L = layEn.all (L.map (·.1)) := by
  unfold Lay.all
  rw [List.flatMap_map]
  rfl
theorem OwnK.ofEB {w : World} {B : Nat} {v : Value} {L : List EB} (h : OwnK layEB w B v L) : OwnK layEn w B v (L.map (·.1)) := by
  show w.ownsRow _ _ _ _ _ _
  rw [List.length_map, ← allEB]
  exact h
def cE (x y : EB) : Int := orI (cN (nuP x.1.1) (nuP y.1.1)) (x.1.1.2.2.2 - y.1.1.2.2.2)
set_option maxRecDepth 100000 in
set_option maxHeartbeats 4000000 in
theorem rt1_any (x y : EB) (w : World) : Calls Tryz.prog 91 #[.agg (layEB.enc x).toArray, .agg (layEB.enc y).toArray] w (RetD (.int .i64 (cE x y)) w) := by
  obtain ⟨⟨⟨s1, h1, l1, n1⟩, ka⟩, hx, hx2⟩ := x
  obtain ⟨⟨⟨s2, h2, l2, n2⟩, kb⟩, hy, hy2⟩ := y
  have hbx := okPf_bits hx
  have hby := okPf_bits hy
  have ux := hx.ok.1
  have uy := hy.ok.1
  simp only at hbx hby ux uy
  show Calls Tryz.prog 91 #[.agg #[.bool s1, .int .u64 (h1 : Int), .int .u64 (l1 : Int), .int .i64 n1, .string (strL ka)], .agg #[.bool s2, .int .u64 (h2 : Int), .int .u64 (l2 : Int), .int .i64 n2, .string (strL kb)]] w (RetD (.int .i64 (orI (cN (numA s1 h1 l1) (numA s2 h2 l2)) (n1 - n2))) w)
  have HC1 := Lib.hid fun wx => orderD_any s1 h1 l1 s2 h2 l2 wx ux.1 ux.2.1 uy.1 uy.2.1
  have e7 : IntKind.i64.wrap (n1 - n2) = n1 - n2 := by
    obtain ⟨a, ha, hb⟩ := hbx
    obtain ⟨c, hc, hd⟩ := hby
    rw [IntKind.wrap_i64]; omega
  have e8 : wrap64 (n1 - n2) = n1 - n2 := by
    obtain ⟨a, ha, hb⟩ := hbx
    obtain ⟨c, hc, hd⟩ := hby
    unfold wrap64; omega
  generalize strL ka = k1 at *
  generalize strL kb = k2 at *
  clear hx hx2 hy hy2 hbx hby ux uy
  have HP : Hid (Blk ((w.alloc (.cells #[.bool s1, .int .u64 (h1 : Int), .int .u64 (l1 : Int), .int .i64 n1, .string k1] 48 (0, 0))).alloc (.cells #[.bool s2, .int .u64 (h2 : Int), .int .u64 (l2 : Int), .int .i64 n2, .string k2] 48 (0, 0))) w.heap.size 48 #[.bool s1, .int .u64 (h1 : Int), .int .u64 (l1 : Int), .int .i64 n1, .string k1]) := Lib.hid ((Blk.new w _ _).alloc _)
  have HQ : Hid (Blk ((w.alloc (.cells #[.bool s1, .int .u64 (h1 : Int), .int .u64 (l1 : Int), .int .i64 n1, .string k1] 48 (0, 0))).alloc (.cells #[.bool s2, .int .u64 (h2 : Int), .int .u64 (l2 : Int), .int .i64 n2, .string k2] 48 (0, 0))) (w.heap.size + 1) 48 #[.bool s2, .int .u64 (h2 : Int), .int .u64 (l2 : Int), .int .i64 n2, .string k2]) := Lib.hid (by
    have this := Blk.new (w.alloc (.cells #[.bool s1, .int .u64 (h1 : Int), .int .u64 (l1 : Int), .int .i64 n1, .string k1] 48 (0, 0))) 48 #[.bool s2, .int .u64 (h2 : Int), .int .u64 (l2 : Int), .int .i64 n2, .string k2]
    rw [World.size_alloc] at this
    exact this)
  have HB : Hid (BelD w ((w.alloc (.cells #[.bool s1, .int .u64 (h1 : Int), .int .u64 (l1 : Int), .int .i64 n1, .string k1] 48 (0, 0))).alloc (.cells #[.bool s2, .int .u64 (h2 : Int), .int .u64 (l2 : Int), .int .i64 n2, .string k2] 48 (0, 0)))) := Lib.hid (((BelD.refl _).alloc _).alloc _)
  generalize cN (numA s1 h1 l1) (numA s2 h2 l2) = C1 at *
  go_enter Tryz.func91, Tryz.ntmps91
  go_upto_region 1 with fail
  generalize ((w.alloc (.cells #[.bool s1, .int .u64 (h1 : Int), .int .u64 (l1 : Int), .int .i64 n1, .string k1] 48 (0, 0))).alloc (.cells #[.bool s2, .int .u64 (h2 : Int), .int .u64 (l2 : Int), .int .i64 n2, .string k2] 48 (0, 0))) = w1 at *
  generalize w.heap.size = b at HP HQ ⊢
  have a0 := HP.out.cell 0
  have a1 := HP.out.cell 1
  have a2 := HP.out.cell 2
  simp at a0 a1 a2
  have b0 := HQ.out.cell 0
  have b1 := HQ.out.cell 1
  have b2 := HQ.out.cell 2
  simp at b0 b1 b2
  go_wp2_with fail
  refine (HC1.out _).mono ?_
  rintro e w2 ⟨rfl, hb⟩
  have HB2 := Lib.hid (HB.out.trans hb)
  have HP2 := Lib.hid (HP.out.below hb.b HP.out.lt)
  have HQ2 := Lib.hid (HQ.out.below hb.b HQ.out.lt)
  clear hb HB HP HQ HC1 a0 a1 a2 b0 b1 b2
  by_cases hc : C1 = 0
  · subst hc
    have a3 := HP2.out.cell 3
    have b3 := HQ2.out.cell 3
    simp at a3 b3
    have HO := Lib.hid (show orI 0 (n1 - n2) = n1 - n2 from rfl)
    go_wp2_with fail
    go_ret
    exact ⟨by rw [HO.out]; rfl, HB2.out⟩
  · have hc1 : (C1 != 0) = true := by simpa using hc
    have HO := Lib.hid (show orI C1 (n1 - n2) = C1 by unfold orI; simp [hc])
    go_wp2_with fail
    go_ret
    exact ⟨by rw [HO.out]; rfl, HB2.out⟩
def eqE (x y : En) : Bool := decide ((x.1.1, ((x.1.2.1 : Nat) : Int), ((x.1.2.2.1 : Nat) : Int), x.1.2.2.2) = ((y.1.1, ((y.1.2.1 : Nat) : Int), ((y.1.2.2.1 : Nat) : Int), y.1.2.2.2) : Bool × Int × Int × Int))
set_option maxRecDepth 100000 in
set_option maxHeartbeats 4000000 in
theorem rt2_any (x y : En) (w : World) : Calls Tryz.prog 94 #[.agg (layEn.enc x).toArray, .agg (layEn.enc y).toArray] w (Ret (.bool (eqE x y)) w) := by
  obtain ⟨⟨s1, h1, l1, n1⟩, ka⟩ := x
  obtain ⟨⟨s2, h2, l2, n2⟩, kb⟩ := y
  show Calls Tryz.prog 94 #[.agg #[.bool s1, .int .u64 (h1 : Int), .int .u64 (l1 : Int), .int .i64 n1, .string (strL ka)], .agg #[.bool s2, .int .u64 (h2 : Int), .int .u64 (l2 : Int), .int .i64 n2, .string (strL kb)]] w (Ret (.bool (decide ((s1, (h1 : Int), (l1 : Int), n1) = ((s2, (h2 : Int), (l2 : Int), n2) : Bool × Int × Int × Int)))) w)
  have hE := fun w => pfx_eql s1 s2 (h1 : Int) (h2 : Int) (l1 : Int) (l2 : Int) n1 n2 w
  have hG := pfx_guard
  generalize strL ka = k1 at *
  generalize strL kb = k2 at *
  have HP : Hid (Blk ((w.alloc (.cells #[.bool s1, .int .u64 (h1 : Int), .int .u64 (l1 : Int), .int .i64 n1, .string k1] 48 (0, 0))).alloc (.cells #[.bool s2, .int .u64 (h2 : Int), .int .u64 (l2 : Int), .int .i64 n2, .string k2] 48 (0, 0))) w.heap.size 48 #[.bool s1, .int .u64 (h1 : Int), .int .u64 (l1 : Int), .int .i64 n1, .string k1]) := Lib.hid ((Blk.new w _ _).alloc _)
  have HQ : Hid (Blk ((w.alloc (.cells #[.bool s1, .int .u64 (h1 : Int), .int .u64 (l1 : Int), .int .i64 n1, .string k1] 48 (0, 0))).alloc (.cells #[.bool s2, .int .u64 (h2 : Int), .int .u64 (l2 : Int), .int .i64 n2, .string k2] 48 (0, 0))) (w.heap.size + 1) 48 #[.bool s2, .int .u64 (h2 : Int), .int .u64 (l2 : Int), .int .i64 n2, .string k2]) := Lib.hid (by
    have this := Blk.new (w.alloc (.cells #[.bool s1, .int .u64 (h1 : Int), .int .u64 (l1 : Int), .int .i64 n1, .string k1] 48 (0, 0))) 48 #[.bool s2, .int .u64 (h2 : Int), .int .u64 (l2 : Int), .int .i64 n2, .string k2]
    rw [World.size_alloc] at this
    exact this)
  have HB : Hid (Below w.heap.size w ((w.alloc (.cells #[.bool s1, .int .u64 (h1 : Int), .int .u64 (l1 : Int), .int .i64 n1, .string k1] 48 (0, 0))).alloc (.cells #[.bool s2, .int .u64 (h2 : Int), .int .u64 (l2 : Int), .int .i64 n2, .string k2] 48 (0, 0)))) := Lib.hid (below_alloc (below_alloc (Below.refl _ _) _) _)
  obtain ⟨D, hD⟩ : ∃ D, decide ((s1, (h1 : Int), (l1 : Int), n1) = ((s2, (h2 : Int), (l2 : Int), n2) : Bool × Int × Int × Int)) = D := ⟨_, rfl⟩
  rw [hD] at hE ⊢
  clear hD
  go_enter Tryz.func94, Tryz.ntmps94
  go_upto_region 1 with fail
  generalize ((w.alloc (.cells #[.bool s1, .int .u64 (h1 : Int), .int .u64 (l1 : Int), .int .i64 n1, .string k1] 48 (0, 0))).alloc (.cells #[.bool s2, .int .u64 (h2 : Int), .int .u64 (l2 : Int), .int .i64 n2, .string k2] 48 (0, 0))) = w1 at *
  obtain ⟨b, hb⟩ : ∃ q, w.heap.size = q := ⟨_, rfl⟩
  have Hb := Lib.hid hb
  rw [hb] at HP HQ HB ⊢
  clear hb
  have a0 := HP.out.cell 0
  have a1 := HP.out.cell 1
  have a2 := HP.out.cell 2
  have a3 := HP.out.cell 3
  simp at a0 a1 a2 a3
  have b0 := HQ.out.cell 0
  have b1 := HQ.out.cell 1
  have b2 := HQ.out.cell 2
  have b3 := HQ.out.cell 3
  simp at b0 b1 b2 b3
  go_wp2_with fail
  go_ret
  exact ⟨rfl, by rw [Hb.out]; exact HB.out⟩
end Go.Proofs.YteccghdegckjhaaGreatDoor

namespace Go.Proofs.YteccghdegckjhaaGreatDoor
open Go.RowKit Go
set_option linter.unusedVariables false

theorem heap_setCells_same {g : Nat} {t : TypeId} : ∀ (vs : List Value) (o : Nat) (w : World) (cur : Array Value), w.heap[g]? = some (.cells cur t (0, 0)) → ∃ cur', (w.setCells g o vs).heap[g]? = some (.cells cur' t (0, 0)) ∧ cur'.size = cur.size
  | [], _, w, cur, h => ⟨cur, h, rfl⟩
  | v :: r, o, w, cur, h => by
    obtain ⟨cur', h1, h2⟩ := heap_setCells_same r (o + 1) (w.setCell ⟨g, o, none⟩ v) (cur.setIfInBounds o v) (heap_setCell_same w g o cur t v h)
    exact ⟨cur', h1, by rw [h2]; simp⟩
theorem heap_setCells_other {g j : Nat} (hne : j ≠ g) : ∀ (vs : List Value) (o : Nat) (w : World), (w.setCells g o vs).heap[j]? = w.heap[j]?
  | [], _, w => rfl
  | v :: r, o, w => by
    rw [World.setCells, heap_setCells_other hne r (o + 1)]
    exact Below.heap_setCell w ⟨g, o, none⟩ v j hne
theorem grown_setCells (g : Nat) : ∀ (vs : List Value) (o : Nat) (w : World), w.grownBy (w.setCells g o vs) (some g)
  | [], _, w => World.grownBy.refl _ _
  | v :: r, o, w => by
    have h1 : w.grownBy (w.setCell ⟨g, o, none⟩ v) (some g) := ⟨rfl, rfl, rfl, by simp, fun i hi hne => Below.heap_setCell w ⟨g, o, none⟩ v i (fun e => hne (by rw [e]))⟩
    exact grown_trans h1 (grown_setCells g r (o + 1) (w.setCell ⟨g, o, none⟩ v))
section
variable {α : Type} {E : Lay α}
theorem OwnK.of_cells {w : World} {B g n c : Nat} {cur : Array Value} {L : List α} (hl : L.length = n) (hB : B ≤ g) (hnc : n ≤ c) (hc : c ≤ maxLen) (hh : w.heap[g]? = some (.cells cur E.ty (0, 0))) (hs : cur.size = c * E.K)
    (hcell : ∀ (k : Nat) (x : α), L[k]? = some x → ∀ (j : Nat) (v : Value), (E.enc x)[j]? = some v → w.cell? ⟨g, k * E.K + j, none⟩ = some v) : OwnK E w B (.slice (some ⟨g, 0, none⟩) n c) L := by
  subst hl
  refine ⟨E.all_len L, .inr ⟨g, c, cur, rfl, hB, hh, hnc, hc, hs, ?_⟩⟩
  apply List.ext_getElem?
  intro t
  have hle : L.length * E.K ≤ c * E.K := Nat.mul_le_mul_right _ hnc
  rcases Nat.lt_or_ge t (L.length * E.K) with h | h
  · obtain ⟨x, hx, he⟩ := E.all_cut L t h
    rw [List.getElem?_take, if_pos h, he]
    have hj : t % E.K < (E.enc x).length := by rw [E.len]; exact Nat.mod_lt _ E.pos
    have := hcell (t / E.K) x hx (t % E.K) _ (List.getElem?_eq_getElem hj)
    rw [show t / E.K * E.K + t % E.K = t by rw [Nat.mul_comm]; exact Nat.div_add_mod t E.K, cell_of_row w g _ _ _ _ hh] at this
    rw [List.getElem?_eq_getElem hj, ← this]
    simp
  · rw [List.getElem?_eq_none (by rw [List.length_take]; simp; omega), List.getElem?_eq_none (by rw [E.all_len]; exact h)]
theorem OwnK.cellsAt {w : World} {B g n c : Nat} {L : List α} (h : OwnK E w B (.slice (some ⟨g, 0, none⟩) n c) L) {k : Nat} {x : α} (hx : L[k]? = some x) : w.rangeAt g (k * E.K) (E.enc x) := fun j v hv => h.get hx hv
theorem OwnK.there {w : World} {B g n c : Nat} {L : List α} (h : OwnK E w B (.slice (some ⟨g, 0, none⟩) n c) L) {o m : Nat} (hm : o + m ≤ n * E.K) : w.there g o m := fun j hj => by
  obtain ⟨hn, _, hc, _, cur, hg, hs, _⟩ := h.block
  refine ⟨?_, h.frozen _⟩
  rw [cell_of_row w g _ _ _ _ hg, Array.getElem?_eq_getElem (by have := Nat.mul_le_mul_right E.K hc; omega)]
  rfl
theorem mul_apart {i k K : Nat} (h : i ≠ k) : k * K + K ≤ i * K ∨ i * K + K ≤ k * K := by
  rcases Nat.lt_or_ge i k with h1 | h1
  · right; have := Nat.mul_le_mul_right K (show i + 1 ≤ k by omega); rw [Nat.add_mul] at this; omega
  · left; have := Nat.mul_le_mul_right K (show k + 1 ≤ i by omega); rw [Nat.add_mul] at this; omega
/-- an element is laid over another one -/
theorem OwnK.setRow {w : World} {B g n c : Nat} {L : List α} (h : OwnK E w B (.slice (some ⟨g, 0, none⟩) n c) L) {i : Nat} (hi : i < n) (y : α) : OwnK E (w.setCells g (i * E.K) (E.enc y)) B (.slice (some ⟨g, 0, none⟩) n c) (L.set i y) := by
  have hth := h.there (o := i * E.K) (m := E.K) (by have := Nat.mul_le_mul_right E.K (show i + 1 ≤ n by omega); rw [Nat.add_mul] at this; omega)
  obtain ⟨hn, hB, hc, hm, cur, hg, hs, ht⟩ := h.block
  obtain ⟨cur', h1, h2⟩ := heap_setCells_same (E.enc y) (i * E.K) w cur hg
  refine OwnK.of_cells (by rw [List.length_set]; exact hn.symm) hB hc hm h1 (by rw [h2, hs]) fun k x hx j v hv => ?_
  by_cases e : k = i
  · subst e
    rw [List.getElem?_set_self (by rw [← hn]; exact hi)] at hx
    injection hx with hx
    subst hx
    exact World.rangeAt_setCells_same w g (k * E.K) (E.enc y) (by rw [E.len]; exact hth) j v hv
  · rw [List.getElem?_set_ne (fun h => e h.symm)] at hx
    exact World.rangeAt_setCells_apart (h.cellsAt hx) g (i * E.K) (E.enc y) (.inr (by rw [E.len, E.len]; exact mul_apart (fun h => e h.symm))) j v hv
/-- the first elements stay, whatever is laid behind them -/
theorem OwnK.cut {w : World} {B g n c : Nat} {L : List α} (h : OwnK E w B (.slice (some ⟨g, 0, none⟩) n c) L) {i : Nat} (hi : i ≤ n) (vs : List Value) : OwnK E (w.setCells g (i * E.K) vs) B (.slice (some ⟨g, 0, none⟩) i c) (L.take i) := by
  obtain ⟨hn, hB, hc, hm, cur, hg, hs, ht⟩ := h.block
  obtain ⟨cur', h1, h2⟩ := heap_setCells_same vs (i * E.K) w cur hg
  refine OwnK.of_cells (by rw [List.length_take]; omega) hB (by omega) hm h1 (by rw [h2, hs]) fun k x hx j v hv => ?_
  have hk : k < i := by
    have := (List.getElem?_eq_some_iff.1 hx).1
    rw [List.length_take] at this; omega
  rw [List.getElem?_take, if_pos hk] at hx
  refine World.rangeAt_setCells_apart (h.cellsAt hx) g (i * E.K) vs (.inr (.inl ?_)) j v hv
  rw [E.len]
  have := Nat.mul_le_mul_right E.K (show k + 1 ≤ i by omega)
  rw [Nat.add_mul] at this; omega
theorem OwnK.take {w : World} {B g n c : Nat} {L : List α} (h : OwnK E w B (.slice (some ⟨g, 0, none⟩) n c) L) {i : Nat} (hi : i ≤ n) : OwnK E w B (.slice (some ⟨g, 0, none⟩) i c) (L.take i) := h.cut hi []
end
theorem zeroCells_len (zs : Array Value) (n : Nat) : (Builtin.zeroCells zs n).toList.length = n * zs.size := by simp [Builtin.zeroCells]
theorem run_clear_rows {P : Program} (w : World) (t e ty : TypeId) (z : Value) (ht : P.underlying t = some (.slice e)) (hv : ∀ w, (zeroValue e).run P w = .ok z w) (h1 : ∀ v ∈ z.cells, v.oneCell' = true) (b o n c : Nat) (hn : 0 < n) (hth : w.there b o (n * z.cells.size)) (hz : 0 < z.cells.size) :
    (Builtin.clear_ #[t] ty #[.slice (some ⟨b, o, none⟩) n c]).run P w = .ok (.tuple #[]) (w.setCells b o (Builtin.zeroCells z.cells n).toList) := by
  have hst := run_storeCells_cells (P := P) b o (Builtin.zeroCells z.cells n).toList 0 w (fun j hj => by rw [zeroCells_len] at hj; simpa using (hth j hj).1) (fun j hj => by rw [zeroCells_len] at hj; simpa using (hth j hj).2) (fun v hv => by
    simp [Builtin.zeroCells] at hv
    obtain ⟨i, hi, rfl⟩ := hv
    have : i % z.cells.size < z.cells.size := Nat.mod_lt _ hz
    rw [getElem!_pos z.cells (i % z.cells.size) this]
    exact h1 _ (Array.getElem_mem _))
  simp only [Nat.add_zero] at hst
  obtain ⟨m, rfl⟩ : ∃ m, n = m + 1 := ⟨n - 1, by omega⟩
  simp [Builtin.clear_, run_underlying ht, hv, hst]
/-- a load of many cells, the cells whatever, as one operation of a region that draws its order -/
theorem Op1.loadn {P : Program} {o : Oper} {ρ : Operand → Value} {w : World} {post : Value → World → Prop} (ty : TypeId) (x : Operand) (ho : o.op = .load ty x) (b off : Nat) (hx : ρ x = .pointer (some ⟨b, off, none⟩)) (cs : List Value) (d : TypeDesc) (hc : w.rangeAt b off cs)
    (hu : P.underlying ty = some d) (hd : d.isRow = true) (m : Nat) (hi : (P.info? ty).map (·.size) = some m) (hm : cs.length = m) (h : post (.agg cs.toArray) w) : Op1 P o ρ w post := by
  subst hm
  have := run_loadAt_mid (P := P) w b off ty cs d hc hu hd hi
  unfold Op1 execOp
  simp only [ho, hx, Sem.run_bind, this, Result.andThen_ok, Sem.run_pure]
  exact h
end Go.Proofs.YteccghdegckjhaaGreatDoor

namespace Go.Proofs
open Go.Shelf
def Tryz.insEn_ren : Go.Shelf.Ren := ⟨fun | 20 => 171 | n => n, fun | 24 => 48 | 22 => 42 | 3 => 3 | 25 => 119 | 4 => 4 | 0 => 0 | n => n, fun | n => n⟩
theorem Tryz.insEn : Go.Proofs.SlLaysF0.n20 Tryz.prog Tryz.insEn_ren := {
  mixed := by kernel_rfl
  f20 := ⟨Tryz.f171.name, by decide, Tryz.func171.trans (congrArg some (by kernel_rfl))⟩
  t0 := Tryz.underlying0
  a0 := Tryz.isAgg0
  z0 := Tryz.sizeOf0
  v0 := Tryz.zeroValue0
  t3 := Tryz.underlying3
  a3 := Tryz.isAgg3
  z3 := Tryz.sizeOf3
  v3 := Tryz.zeroValue3
  t4 := Tryz.underlying4
  a4 := Tryz.isAgg4
  z4 := Tryz.sizeOf4
  v4 := Tryz.zeroValue4
  t22 := Tryz.underlying42
  a22 := Tryz.isAgg42
  z22 := Tryz.sizeOf42
  v22 := Tryz.zeroValue42
  t25 := Tryz.underlying119
  a25 := Tryz.isAgg119
  z25 := Tryz.sizeOf119
  v25 := Tryz.zeroValue119 }
open Go.Sort Go.RowKit in
theorem Tryz.slices_ins_En {α : Type} [Inhabited α] (enc : α → List Value) (hk : ∀ x, (enc x).length = 5) (h1 : ∀ x, ∀ v ∈ enc x, v.oneCell' = true) (cf : α → α → Int) (g : Nat) (cb : Array Value) (blk off cap a b : Nat) (d : Array α) (w : World)
    (eg : ∀ args w, (callFunc g args).run Tryz.prog w = .ok (.enter g args) w) (hcmp : CmpLays Tryz.prog g cb enc 5 cf blk off d.size w) (hH : HoldsK enc 5 w blk off d) (hblk : blk < w.heap.size) (hab : a ≤ b) (hb : b ≤ d.size) (hsz : d.size < 4611686018427387904) :
    Calls Tryz.prog 171 #[.slice (some ⟨blk, off, none⟩) d.size cap, .int .i64 a, .int .i64 b, .func (.func g) #[] cb] w fun e w' =>
      e = .returned (.tuple #[]) ∧ ∃ n os, w' = sortWorldK enc 5 w blk off n (Go.Sort.insertionSort (ltOf cf) d a b) os :=
  AnyQ.insertionSortCmpFunc Tryz.insEn 5 Tryz.isAgg48 Tryz.sizeOf48 enc hk h1 cf g cb blk off cap a b d w eg hcmp hH hblk hab hb hsz
open Go.Sort Go.RowKit in
theorem Tryz.slices_ins_En_none (p : Option Addr) (cap : Nat) (fv : Value) (w : World) :
    Calls Tryz.prog 171 #[.slice p 0 cap, .int .i64 0, .int .i64 0, fv] w fun e w' => e = .returned (.tuple #[]) ∧ w' = w :=
  AnyF.insertionSortCmpFunc_none Tryz.insEn p cap fv w
end Go.Proofs

namespace Go.Proofs.YteccghdegckjhaaGreatDoor
open Go.RowKit Go
set_option linter.unusedVariables false

section
variable {α : Type} (eq : α → α → Bool)
def compF : α → List α → List α
  | _, [] => []
  | p, y :: l => if eq y p = true then compF y l else y :: compF y l
def compL : List α → List α
  | [] => []
  | x :: l => x :: compF eq x l
theorem compF_len : ∀ (p : α) (l : List α), (compF eq p l).length ≤ l.length
  | _, [] => Nat.le_refl _
  | p, y :: l => by
    unfold compF
    have := compF_len y l
    split
    · simp; omega
    · simp; omega
theorem compL_len : ∀ l : List α, (compL eq l).length ≤ l.length
  | [] => Nat.le_refl _
  | x :: l => by
    have := compF_len eq x l
    simp [compL]; omega
theorem compF_mem : ∀ (p : α) (l : List α) (x : α), x ∈ compF eq p l → x ∈ l
  | _, [], x, h => h
  | p, y :: l, x, h => by
    unfold compF at h
    split at h
    · exact List.mem_cons_of_mem _ (compF_mem y l x h)
    · rcases List.mem_cons.1 h with rfl | h
      · exact List.mem_cons_self
      · exact List.mem_cons_of_mem _ (compF_mem y l x h)
theorem compF_take : ∀ (L : List α) (p : α) (j : Nat) (x y : α), L[j]? = some x → (p :: L)[j]? = some y → compF eq p (L.take (j + 1)) = compF eq p (L.take j) ++ (if eq x y = true then [] else [x])
  | [], p, j, x, y, h, _ => by simp at h
  | z :: L, p, 0, x, y, h, h2 => by
    have e1 : z = x := by simpa using h
    have e2 : p = y := by simpa using h2
    subst e1; subst e2
    simp only [List.take_succ_cons, List.take_zero, compF]
    split <;> simp
  | z :: L, p, j + 1, x, y, h, h2 => by
    have ih := compF_take L z j x y (by simpa using h) (by simpa using h2)
    rw [List.take_succ_cons, List.take_succ_cons]
    simp only [compF]
    rw [ih]
    split <;> simp
theorem compL_take {L : List α} {j : Nat} {x y : α} (hx : L[j + 1]? = some x) (hy : L[j]? = some y) : compL eq (L.take (j + 2)) = compL eq (L.take (j + 1)) ++ (if eq x y = true then [] else [x]) := by
  cases L with
  | nil => simp at hx
  | cons z L =>
    rw [List.take_succ_cons, List.take_succ_cons]
    simp only [compL, List.cons_append]
    rw [compF_take eq L z j x y (by simpa using hx) hy]
theorem compL_all (L : List α) (n : Nat) (h : L.length ≤ n) : compL eq (L.take n) = compL eq L := by rw [List.take_of_length_le h]
end
end Go.Proofs.YteccghdegckjhaaGreatDoor

namespace Go.Proofs.YteccghdegckjhaaGreatDoor
open Go.RowKit Go
set_option linter.unusedVariables false

structure KeepV (v : Value) (w w' : World) : Prop where
  size : w.heap.size ≤ w'.heap.size
  block : ∀ k, k < w.heap.size → v.ownBlock ≠ some k → w'.heap[k]? = w.heap[k]?
theorem KeepV.refl (v : Value) (w : World) : KeepV v w w := ⟨Nat.le_refl _, fun _ _ _ => rfl⟩
theorem KeepV.trans {v : Value} {u w z : World} (h : KeepV v u w) (k : KeepV v w z) : KeepV v u z := ⟨Nat.le_trans h.size k.size, fun i hi hn => (k.block i (Nat.lt_of_lt_of_le hi h.size) hn).trans (h.block i hi hn)⟩
theorem KeepV.of_below {v : Value} {w w' : World} (h : Below w.heap.size w w') : KeepV v w w' := ⟨h.size, fun k hk _ => h.block k hk⟩
theorem KeepV.alloc {v : Value} {u w : World} (h : KeepV v u w) (o : Obj) : KeepV v u (w.alloc o) := h.trans (KeepV.of_below (below_alloc (Below.refl _ _) o))
theorem KeepV.of_grew {w w' : World} {v v' : Value} (h : Grew w w' v v') : KeepV v w w' := ⟨h.g.size, fun k hk hn => h.g.block k hk (Ne.symm hn)⟩
/-- a block that the value does not own stays -/
theorem KeepV.blk {v : Value} {w w' : World} (h : KeepV v w w') {b : Nat} {t : TypeId} {cs : Array Value} (hb : Blk w b t cs) (hn : v.ownBlock ≠ some b) : Blk w' b t cs := by
  have hl := hb.lt
  unfold Blk at hb ⊢
  rw [h.block b hl hn]
  exact hb
/-- a row that lies below what the value owns can still be read -/
theorem KeepV.rd {α : Type} {E : Lay α} {v : Value} {w w' : World} {B : Nat} {ad : Option Addr} {L : List α} (h : KeepV v w w') (hr : RdK E w ad L) (hv : ∀ k, v.ownBlock = some k → B ≤ k) (hl : ∀ a, ad = some a → a.block < B) : RdK E w' ad L := fun i x hx => by
  obtain ⟨g, o, e, hg, hc⟩ := hr i x hx
  refine ⟨g, o, e, Nat.lt_of_lt_of_le hg h.size, fun j u hu => ?_⟩
  have hgB := hl _ e
  rw [World.cell?_of_block (a := ⟨g, o + (i * E.K + j), none⟩) (h.block g hg fun e2 => by have := hv g e2; simp at hgB; omega)]
  exact hc j u hu
theorem KeepV.rd0 {α : Type} {E : Lay α} {v : Value} {w0 w w' : World} {ad : Option Addr} {L : List α} (h0 : RdK E w0 ad L) (hb : Below w0.heap.size w0 w) (h : KeepV v w w') (hv : ∀ k, v.ownBlock = some k → w0.heap.size ≤ k) : RdK E w' ad L := fun i x hx => by
  obtain ⟨g, o, e, hg, hc⟩ := h0 i x hx
  have hgw := Nat.lt_of_lt_of_le hg hb.size
  refine ⟨g, o, e, Nat.lt_of_lt_of_le hgw h.size, fun j u hu => ?_⟩
  rw [World.cell?_of_block (a := ⟨g, o + (i * E.K + j), none⟩) (h.block g hgw fun e2 => by have := hv g e2; omega)]
  exact (hb.cell (p := ⟨g, o + (i * E.K + j), none⟩) hg).trans (hc j u hu)
theorem Grew.belowB {w0 w w' : World} {v v' : Value} {B : Nat} (hb : Below B w0 w) (h : Grew w w' v v') (hB : B ≤ w.heap.size) (hv : ∀ k, v.ownBlock = some k → B ≤ k) : Below B w0 w' :=
  hb.grown h.g hB (fun k hk => hv k hk)
end Go.Proofs.YteccghdegckjhaaGreatDoor

namespace Go.Proofs.YteccghdegckjhaaGreatDoor
open Go.RowKit Go
set_option linter.unusedVariables false

def PfxOk (b : Nat) (w : World) (m : Nat) (e : Ending) (w' : World) : Prop :=
  ∃ p : Pf, e = .returned (.agg (pfC p).toArray) ∧ OkPf p ∧ Gen b w w' m
set_option maxRecDepth 100000 in
set_option maxHeartbeats 600000 in
theorem rightPrefix_ok (b m : Nat) (w : World) (h : Strm w b m) (hm : m + 10 < 1099511627776) :
    Calls Tryz.prog 30 #[.pointer (some ⟨b, 0, none⟩)] w (PfxOk b w (m + 5)) := by
  have hblt := h.lt
  have HG0 : Hid (Gen b w (w.alloc (.cells #[.bool false, .int .u64 0, .int .u64 0, .int .i64 0] 30 (0, 0))) m) := Lib.hid ((Gen.start h).alloc _)
  have HR0 : Hid (Blk (w.alloc (.cells #[.bool false, .int .u64 0, .int .u64 0, .int .i64 0] 30 (0, 0))) w.heap.size 30 #[.bool false, .int .u64 0, .int .u64 0, .int .i64 0]) := Lib.hid (Blk.new w _ _)
  clear h
  go_enter Tryz.func30, Tryz.ntmps30
  go_wp2_with fail
  refine (mAddr_gen b m _ HG0.out.s (by omega)).mono ?_
  rintro e w1 ⟨six, hi0, lo0, rfl, ⟨hu1, hu2, hu3⟩, hg⟩
  obtain ⟨hi, rfl, h1⟩ := nat_of_U64 hu1
  obtain ⟨lo, rfl, h2⟩ := nat_of_U64 hu2
  have HU := Lib.hid (And.intro h1 h2)
  have HA : Hid (AOK six hi lo) := Lib.hid ⟨h1, h2, fun e => by have := hu3 e; omega⟩
  have HG1 := Lib.hid ((HG0.out.trans hg).alloc (.cells #[.bool six, .int .u64 (hi : Int), .int .u64 (lo : Int)] 28 (0, 0)))
  have HR1 := Lib.hid ((HR0.out.keep hg.g (by omega)).alloc (.cells #[.bool six, .int .u64 (hi : Int), .int .u64 (lo : Int)] 28 (0, 0)))
  have HA1 : Hid (Blk (w1.alloc (.cells #[.bool six, .int .u64 (hi : Int), .int .u64 (lo : Int)] 28 (0, 0))) w1.heap.size 28 #[.bool six, .int .u64 (hi : Int), .int .u64 (lo : Int)]) := Lib.hid (Blk.new w1 _ _)
  have hw1 : w.heap.size < w1.heap.size := HR0.out.keep hg.g (by omega) |> Blk.lt
  clear hu1 hu2 hu3 h1 h2 hg HG0 HR0
  unfold vAddr
  go_upto_region 2 with fail
  generalize w1.alloc (.cells #[.bool six, .int .u64 (hi : Int), .int .u64 (lo : Int)] 28 (0, 0)) = w2 at *
  generalize w1.heap.size = F at *
  have key : ∀ (n : Nat) (wx : World), n ≤ 128 → Calls Tryz.prog 72 #[.agg #[.bool six, .int .u64 (hi : Int), .int .u64 (lo : Int)], .int .i64 (n : Int)] wx (Ret (vP six (mHi six hi n) (mLo six lo n) (n : Int)) wx) := fun n wx hn => maskOf_any six hi lo n wx HU.out.1 HU.out.2 hn
  have HK := Lib.hid key
  clear key
  go_wp2_with fail
  refine (pick_new b (m + 3) _ _ _ _ [0, 8, 24, 27, 28, 29, 30, 31, 32] _ HG1.out.s rfl (by omega) rfl (by decide) rfl).mono ?_
  rintro e w3 ⟨x, rfl, hx, hg⟩
  have hxb : 0 ≤ x ∧ x ≤ 32 := by simp at hx; omega
  obtain ⟨n, rfl⟩ := Int.eq_ofNat_of_zero_le hxb.1
  have hn : n ≤ 128 := by omega
  have hn32 : n ≤ 32 := by omega
  have HG3 := Lib.hid (HG1.out.trans hg)
  have HR3 := Lib.hid (HR1.out.keep hg.g (by omega))
  have HA3 := Lib.hid (HA1.out.keep hg.g (by omega))
  clear hx hxb hg HG1 HR1 HA1
  have a0 := HA3.out.cell 0
  have a1 := HA3.out.cell 1
  have a2 := HA3.out.cell 2
  simp at a0 a1 a2
  cases six
  · go_wp2_with fail
    refine (HK.out n _ hn).mono ?_
    rintro e w5 ⟨rfl, hb⟩
    have HG5 := Lib.hid (HG3.out.below0 hb HG3.out.s.lt)
    have HR5 := Lib.hid (HR3.out.below hb HR3.out.lt)
    have HO : Hid (POK false (mHi false hi n) (mLo false lo n) n) := Lib.hid (mask_pok HA.out hn32)
    have h1 : U64N (mHi false hi n) := mHi_lt HU.out.1
    have h2 : U64N (mLo false lo n) := mLo_lt HU.out.2
    generalize mHi false hi n = mh at *
    generalize mLo false lo n = ml at *
    have HU2 := Lib.hid (And.intro h1 h2)
    clear h1 h2 hb a0 a1 a2 HG3 HR3 HA3
    have r0 := HR5.out.cell 0
    have r1 := HR5.out.cell 1
    have r2 := HR5.out.cell 2
    have r3 := HR5.out.cell 3
    have rf := HR5.out.free
    simp at r0 r1 r2 r3
    unfold vP
    go_wp2_with fail
    refine bodyPost_ret (v := .agg #[.bool false, .int .u64 (mh : Int), .int .u64 (ml : Int), .int .i64 (n : Int)]) (by simp [results, Tryz.results30, go_sem, r0, r1, r2, r3]) rfl ⟨(false, mh, ml, (n : Int)), rfl, ⟨rfl, HO.out⟩, ?_⟩
    repeat refine Gen.setCell ?_ _ _ (Nat.le_refl _) hblt
    exact HG5.out.mono (by omega)
  · go_wp2_with fail
    refine (pick_new b (m + 3 + 1) _ _ _ _ [0, 8, 32, 48, 63, 64, 65, 96, 127, 128] _ HG3.out.s rfl (by omega) rfl (by decide) rfl).mono ?_
    rintro e w4 ⟨x, rfl, hx, hg⟩
    have hxb : 0 ≤ x ∧ x ≤ 128 := by simp at hx; omega
    obtain ⟨n2, rfl⟩ := Int.eq_ofNat_of_zero_le hxb.1
    have hn2 : n2 ≤ 128 := by omega
    have HG4 := Lib.hid (HG3.out.trans hg)
    have HR4 := Lib.hid (HR3.out.keep hg.g (by omega))
    have HA4 := Lib.hid (HA3.out.keep hg.g (by omega))
    clear hx hxb hg HG3 HR3 HA3 a0 a1 a2
    have a0 := HA4.out.cell 0
    have a1 := HA4.out.cell 1
    have a2 := HA4.out.cell 2
    simp at a0 a1 a2
    go_wp2_with fail
    refine (HK.out n2 _ hn2).mono ?_
    rintro e w5 ⟨rfl, hb⟩
    have HG5 := Lib.hid (HG4.out.below0 hb HG4.out.s.lt)
    have HR5 := Lib.hid (HR4.out.below hb HR4.out.lt)
    have HO : Hid (POK true (mHi true hi n2) (mLo true lo n2) n2) := Lib.hid (mask_pok HA.out hn2)
    have h1 : U64N (mHi true hi n2) := mHi_lt HU.out.1
    have h2 : U64N (mLo true lo n2) := mLo_lt HU.out.2
    generalize mHi true hi n2 = mh at *
    generalize mLo true lo n2 = ml at *
    have HU2 := Lib.hid (And.intro h1 h2)
    clear h1 h2 hb a0 a1 a2 HG4 HR4 HA4
    have r0 := HR5.out.cell 0
    have r1 := HR5.out.cell 1
    have r2 := HR5.out.cell 2
    have r3 := HR5.out.cell 3
    have rf := HR5.out.free
    simp at r0 r1 r2 r3
    unfold vP
    go_wp2_with fail
    refine bodyPost_ret (v := .agg #[.bool true, .int .u64 (mh : Int), .int .u64 (ml : Int), .int .i64 (n2 : Int)]) (by simp [results, Tryz.results30, go_sem, r0, r1, r2, r3]) rfl ⟨(true, mh, ml, (n2 : Int)), rfl, ⟨rfl, HO.out⟩, ?_⟩
    repeat refine Gen.setCell ?_ _ _ (Nat.le_refl _) hblt
    exact HG5.out.mono (by omega)
end Go.Proofs.YteccghdegckjhaaGreatDoor

namespace Go.Proofs.YteccghdegckjhaaGreatDoor
open Go.RowKit Go
set_option linter.unusedVariables false

end Go.Proofs.YteccghdegckjhaaGreatDoor

namespace Go.Proofs.YteccghdegckjhaaGreatDoor
open Go.RowKit Go
set_option linter.unusedVariables false

end Go.Proofs.YteccghdegckjhaaGreatDoor
