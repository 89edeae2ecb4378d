/-
  Flows turned round, and times: back, Back, BackOf, CheckTimes, TimesFault, Times, filtered.
  Reports: how they lie; when they are equal; their order.
  The fault of a list of reports, in plain words.
  Sorting an own row of structs by a number of each element, in the words of an own row.
  Rows of prefixes, of ranges, of spans: how they lie; the comparisons of the two sorts; the sorts; the copies.
  The copies and the sorts of rows of ranges (program) and of spans (reference).
  span.touches: whether a range that does not begin earlier has addresses in common with another one, or lies next to it.
  Several cells of one element of an own row set, one after the other.
-/
import Derived.Test.YteccghdegckjhaaGreatDoorPT7
import Derived.Test.YteccghdegckjhaaGreatDoorPT4
import Derived.Laws.StructEq
import Derived.Lib.Bytealg
import Derived.Lib.Small
import Derived.Shelf.SlSortCmp.NoneTotal
import Derived.WalkSpells
set_option linter.unusedVariables false
namespace Go.Proofs.YteccghdegckjhaaGreatDoor
open Go.RowKit
set_option linter.unusedVariables false
/-! times -/
structure TV where
  y : Int
  t : Int
  d : Int
  o : Int
def TV.cells (x : TV) : Array Value := #[.int .i64 x.y, .int .i64 x.t, .int .i64 x.d, .int .i64 x.o]
def TV.zero : TV := ⟨0, 0, 0, 0⟩
end Go.Proofs.YteccghdegckjhaaGreatDoor

namespace Go.Proofs.YteccghdegckjhaaGreatDoor
open Go.RowKit Go
set_option linter.unusedVariables false
end Go.Proofs.YteccghdegckjhaaGreatDoor

namespace Go.Proofs.YteccghdegckjhaaGreatDoor
open Go.RowKit Go
set_option linter.unusedVariables false

/-- the bytes of a key -/
def smallC (c : UInt8) : Bool := 97 ≤ c && c ≤ 122
def digitC (c : UInt8) : Bool := 48 ≤ c && c ≤ 57
def keyC (c : UInt8) : Bool := smallC c || digitC c || c == 45 || c == 95
def keyB (l : List UInt8) : Bool := decide (1 ≤ l.length ∧ l.length ≤ 40) && (l.take 1).all smallC && l.all keyC
end Go.Proofs.YteccghdegckjhaaGreatDoor

namespace Go.Proofs.YteccghdegckjhaaGreatDoor
open Go.RowKit Go Go.Sort
set_option linter.unusedVariables false

def cfK {α : Type} (f : α → Nat) (x y : α) : Int := cN (f x) (f y)
theorem ltK {α : Type} (f : α → Nat) (x y : α) : Go.Proofs.ltOf (cfK f) x y = decide (f x < f y) := by
  unfold Go.Proofs.ltOf cfK
  rw [decide_eq_decide]
  exact cN_lt_iff _ _
theorem swoK {α : Type} (f : α → Nat) : SWO (Go.Proofs.ltOf (cfK f)) where
  irrefl x := by rw [ltK]; simp
  trans x y z h1 h2 := by rw [ltK] at *; simp at *; omega
  ntrans x y z h1 h2 := by rw [ltK] at *; simp at *; omega
theorem putK_take (F cur : Array Value) (h : F.size ≤ cur.size) : (putCells id 0 F cur).size = cur.size ∧ (putCells id 0 F cur).toList.take F.size = F.toList := by
  refine ⟨by simp [putCells], List.ext_getElem? fun i => ?_⟩
  rcases Nat.lt_or_ge i F.size with hi | hi
  · rw [List.getElem?_take, if_pos hi, Array.getElem?_toList, Array.getElem?_toList]
    simp only [putCells, Array.getElem?_mapIdx]
    rw [Array.getElem?_eq_getElem (by omega)]
    simp [hi]
  · rw [List.getElem?_eq_none (by simp; omega), List.getElem?_eq_none (by simpa using hi)]
section
variable {α : Type} [Inhabited α] {E : Lay α} {f : α → Nat}
theorem flat_all (E : Lay α) (d : Array α) : (flatK E.enc E.K d).toList = E.all d.toList := by
  refine List.ext_getElem? fun t => ?_
  rcases Nat.lt_or_ge t (d.size * E.K) with h | h
  · have hs : t < (flatK E.enc E.K d).size := by rw [size_flatK]; exact h
    obtain ⟨x, hx, e⟩ := E.all_cut d.toList t (by simpa using h)
    rw [e, Array.getElem?_toList, Array.getElem?_eq_getElem hs, ← getElem!_pos (flatK E.enc E.K d) t hs, get_flatK _ _ _ _ h]
    have hx2 : d[t / E.K]? = some x := by rw [← Array.getElem?_toList]; exact hx
    have hd : d[t / E.K]! = x := by rw [getElem!_def, hx2]
    have hm : t % E.K < (E.enc x).length := by rw [E.len]; exact Nat.mod_lt _ E.pos
    rw [hd, List.getElem?_eq_getElem hm]
    first | rfl | simp [hm]
  · rw [List.getElem?_eq_none (by rw [Array.length_toList, size_flatK]; exact h), List.getElem?_eq_none (by rw [E.all_len]; simpa using h)]
theorem cmpLays_of {P : Program} {g blk off size : Nat} {w : World} (h : ∀ x y W, Calls P g #[.agg (E.enc x).toArray, .agg (E.enc y).toArray] W (RetD (.int .i64 (cfK f x y)) W)) : CmpLays P g #[] E.enc E.K (cfK f) blk off size w :=
  fun m os dk _ x y => by
    rw [Array.append_empty]
    exact (h x y _).mono fun _ _ ⟨he, hb⟩ => ⟨he, hb.grow⟩
theorem OwnK.holds {w : World} {B g n c : Nat} {M : List α} (h : OwnK E w B (.slice (some ⟨g, 0, none⟩) n c) M) : HoldsK E.enc E.K w g 0 M.toArray ∧ g < w.heap.size := by
  obtain ⟨_, hb, hc, hm, cur, hg, hs, ht⟩ := h.block
  refine ⟨?_, lt_of_block hg⟩
  have hF := flat_all E M.toArray
  rw [List.toList_toArray] at hF
  have hfs : (flatK E.enc E.K M.toArray).size = M.length * E.K := by rw [size_flatK]; rfl
  intro j hj
  rw [hfs] at hj
  refine ⟨?_, frozen_of_row w g (0 + j) cur _ hg⟩
  rw [Nat.zero_add, cell_of_row w g j _ _ _ hg]
  have h1 : (cur.toList.take (M.length * E.K))[j]? = (flatK E.enc E.K M.toArray).toList[j]? := by rw [ht, hF]
  rw [List.getElem?_take, if_pos hj, Array.getElem?_toList, Array.getElem?_toList, Array.getElem?_eq_getElem (xs := flatK E.enc E.K M.toArray) (by omega)] at h1
  rw [h1, getElem!_pos _ j (by omega)]
  rfl
theorem OwnK.sorted {w w' : World} {B g n c : Nat} {M : List α} (h : OwnK E w B (.slice (some ⟨g, 0, none⟩) n c) M) (hB : B ≤ w.heap.size) {d' : Array α} {q : Nat} {os : Array Obj}
    (hp : PermIn 0 M.toArray.size M.toArray d') (hso : SortedIn (Go.Proofs.ltOf (cfK f)) 0 M.toArray.size d') (hw : w' = sortWorldK E.enc E.K w g 0 q d' os) :
    ∃ S : List α, S.Perm M ∧ S.Pairwise (fun p q => f p ≤ f q) ∧ OwnK E w' B (.slice (some ⟨g, 0, none⟩) n c) S ∧ Below B w w' := by
  subst hw
  obtain ⟨hn, hb, hc, hm, cur, hg, hs, ht⟩ := h.block
  have hlt := lt_of_block hg
  have hms : M.toArray.size = M.length := rfl
  have hds' : d'.size = M.length := hp.1
  have hperm : d'.toList.Perm M := by
    have h3 := hp.2.2
    rw [Array.extract_eq_self_of_le (by omega), Array.extract_eq_self_of_le (by omega)] at h3
    exact h3
  have hF' := flat_all E d'
  have hfs' : (flatK E.enc E.K d').size = M.length * E.K := by rw [size_flatK, hds']
  refine ⟨d'.toList, hperm, ?_, ?_⟩
  · rw [List.pairwise_iff_getElem]
    intro i j hi hj hij
    have hj' : j < d'.size := by simpa using hj
    have hs := hso i j (Nat.zero_le _) hij (by omega)
    rw [ltK, getElem!_pos d' j hj', getElem!_pos d' i (by omega)] at hs
    simp at hs ⊢
    exact hs
  · show OwnK E (grow (putRow id (Sort.ahead w q) g 0 (flatK E.enc E.K d')) os) B _ _ ∧ Below B w (grow (putRow id (Sort.ahead w q) g 0 (flatK E.enc E.K d')) os)
    generalize flatK E.enc E.K d' = F at hF' hfs' ⊢
    have hlen : d'.toList.length = M.length := by simp [hds']
    generalize d'.toList = L at hF' hlen ⊢
    have hheap : ∀ i, i < w.heap.size → (grow (putRow id (Sort.ahead w q) g 0 F) os).heap[i]? = if g = i then some (.cells (putCells id 0 F cur) E.ty (0, 0)) else w.heap[i]? := by
      intro i hi
      simp only [grow, putRow, mapBlock, Sort.ahead]
      rw [Array.getElem?_append_left (by simpa using hi), Array.getElem?_modify]
      by_cases e : g = i
      · subst e
        rw [if_pos rfl, if_pos rfl, hg]
        rfl
      · rw [if_neg e, if_neg e]
    have hFc : F.size ≤ cur.size := by
      rw [hfs', hs]
      exact Nat.mul_le_mul_right _ (by omega)
    obtain ⟨p1, p2⟩ := putK_take F cur hFc
    refine ⟨⟨by rw [E.all_len], .inr ⟨g, c, _, by rw [hlen, hn], hb, by rw [hheap g hlt, if_pos rfl], by omega, hm, by omega, by rw [hlen, ← hfs', p2]; exact hF'⟩⟩, ?_⟩
    refine ⟨rfl, rfl, rfl, by simp [grow, putRow, mapBlock, Sort.ahead], fun i hi => ?_⟩
    rw [hheap i (by omega), if_neg (by omega)]
end
end Go.Proofs.YteccghdegckjhaaGreatDoor

namespace Go.Proofs.YteccghdegckjhaaGreatDoor
open Go.RowKit Go Go.Sort
set_option linter.unusedVariables false

/-- a prefix as it lies: six, hi, lo, bits -/
abbrev Pf := Bool × Nat × Nat × Int
def pfC (p : Pf) : List Value := [.bool p.1, .int .u64 ((p.2.1 : Nat) : Int), .int .u64 ((p.2.2.1 : Nat) : Int), .int .i64 p.2.2.2]
def layPf : Lay Pf := ⟨pfC, 4, 30, by decide, fun _ => rfl, fun p v hv => by simp [pfC] at hv; rcases hv with rfl | rfl | rfl | rfl <;> rfl⟩
/-! ### The comparisons -/
def nmN (x : Nat) : Nat := numA (sixN x) (hiN x) (loN x)
def keyRg (p : Sp) : Nat := nmN p.1
def keyQs (p : Sp) : Nat := p.1 % 65536 ^ 9
end Go.Proofs.YteccghdegckjhaaGreatDoor

namespace Go.Proofs.YteccghdegckjhaaGreatDoor
open Go.RowKit Go Go.Sort
set_option linter.unusedVariables false


end Go.Proofs.YteccghdegckjhaaGreatDoor

namespace Go.Proofs.YteccghdegckjhaaGreatDoor
open Go.RowKit Go
set_option linter.unusedVariables false

/-- a right range -/
structure VR (p : Sp) : Prop where
  a : VN p.1
  b : VN p.2
  s : sixN p.1 = sixN p.2
  le : p.1 ≤ p.2
theorem nm_VN {x : Nat} (h : VN x) : nmN x = x := num_aN h
theorem VR.key {p : Sp} (h : VR p) : keyRg p = p.1 ∧ keyQs p = p.1 := ⟨nm_VN h.a, Nat.mod_eq_of_lt (by have := h.a.lt9; omega)⟩
end Go.Proofs.YteccghdegckjhaaGreatDoor

namespace Go.Proofs.YteccghdegckjhaaGreatDoor
open Go.RowKit Go
set_option linter.unusedVariables false

theorem flat_set (K : Nat) : ∀ (LL : List (List Value)) (i j : Nat) (xs : List Value) (v : Value), (∀ l ∈ LL, l.length = K) → LL[i]? = some xs → j < K → LL.flatten.set (i * K + j) v = (LL.set i (xs.set j v)).flatten
  | [], i, j, xs, v, _, h, _ => by simp at h
  | l :: LL, 0, j, xs, v, hl, h, hj => by
    simp at h
    subst h
    rw [Nat.zero_mul, Nat.zero_add, List.flatten_cons, List.set_append_left _ _ (by rw [hl l (List.mem_cons_self ..)]; exact hj)]
    rfl
  | l :: LL, i + 1, j, xs, v, hl, h, hj => by
    have := flat_set K LL i j xs v (fun l h => hl l (List.mem_cons_of_mem _ h)) (by simpa using h) hj
    have hk := hl l (List.mem_cons_self ..)
    rw [List.flatten_cons, List.set_append_right _ _ (by rw [hk, Nat.add_mul]; omega), hk, show (i + 1) * K + j - K = i * K + j by rw [Nat.add_mul]; omega, this]
    rfl
theorem raw_set {w : World} {B ty K g n c : Nat} {xs : List Value} (h : w.ownsRow B ty K (.slice (some ⟨g, 0, none⟩) n c) n xs) (t : Nat) (v : Value) : (w.setCell ⟨g, t, none⟩ v).ownsRow B ty K (.slice (some ⟨g, 0, none⟩) n c) n (xs.set t v) := by
  rcases h with ⟨hl, ⟨hv, _⟩ | ⟨g2, c2, cur, hv, hb, hg, hc, hm, hs, ht⟩⟩
  · cases hv
  · simp at hv
    obtain ⟨rfl, rfl⟩ := hv
    refine ⟨by rw [List.length_set]; exact hl, .inr ⟨g, c, cur.setIfInBounds t v, rfl, hb, heap_setCell_same w g _ cur _ _ hg, hc, hm, by simpa using hs, ?_⟩⟩
    rw [Array.toList_setIfInBounds, List.take_set, ht]
section
variable {α : Type} {E : Lay α}
theorem Lay.all_flat (E : Lay α) (L : List α) : E.all L = (L.map E.enc).flatten := by simp [Lay.all, List.flatMap]
theorem Lay.all_set3 (E : Lay α) (L : List α) (i j : Nat) (x y : α) (v0 v1 v2 : Value) (hx : L[i]? = some x) (hj : j + 2 < E.K) (hy : E.enc y = (((E.enc x).set j v0).set (j + 1) v1).set (j + 2) v2) :
    (((E.all L).set (i * E.K + j) v0).set (i * E.K + (j + 1)) v1).set (i * E.K + (j + 2)) v2 = E.all (L.set i y) := by
  have hi := (List.getElem?_eq_some_iff.1 hx).1
  have hm : (L.map E.enc)[i]? = some (E.enc x) := by rw [List.getElem?_map, hx]; rfl
  have hk : ∀ l ∈ L.map E.enc, l.length = E.K := fun l hl => by obtain ⟨z, _, rfl⟩ := List.mem_map.1 hl; exact E.len z
  have hks : ∀ (LL : List (List Value)) (z : List Value), (∀ l ∈ LL, l.length = E.K) → z.length = E.K → ∀ l ∈ LL.set i z, l.length = E.K := fun LL z h hz l hl => by
    rcases List.mem_or_eq_of_mem_set hl with h1 | rfl
    · exact h l h1
    · exact hz
  have hg : ∀ (LL : List (List Value)) (z : List Value), i < LL.length → (LL.set i z)[i]? = some z := fun LL z h => by simp [h]
  have hl := E.len x
  rw [E.all_flat, flat_set E.K _ i j _ v0 hk hm (by omega),
    flat_set E.K _ i (j + 1) _ v1 (hks _ _ hk (by simpa using hl)) (hg _ _ (by simpa using hi)) (by omega),
    flat_set E.K _ i (j + 2) _ v2 (hks _ _ (hks _ _ hk (by simpa using hl)) (by simpa using hl)) (hg _ _ (by simpa using hi)) (by omega),
    List.set_set, List.set_set, ← hy, E.all_flat, List.map_set]
theorem OwnK.set3 {w : World} {B g n c : Nat} {L : List α} (h : OwnK E w B (.slice (some ⟨g, 0, none⟩) n c) L) {i j : Nat} {x y : α} (v0 v1 v2 : Value) (hx : L[i]? = some x) (hj : j + 2 < E.K) (hy : E.enc y = (((E.enc x).set j v0).set (j + 1) v1).set (j + 2) v2) :
    OwnK E (((w.setCell ⟨g, i * E.K + j, none⟩ v0).setCell ⟨g, i * E.K + (j + 1), none⟩ v1).setCell ⟨g, i * E.K + (j + 2), none⟩ v2) B (.slice (some ⟨g, 0, none⟩) n c) (L.set i y) := by
  obtain ⟨rfl, _⟩ := h.block
  have := raw_set (raw_set (raw_set h (i * E.K + j) v0) (i * E.K + (j + 1)) v1) (i * E.K + (j + 2)) v2
  rw [E.all_set3 L i j x y v0 v1 v2 hx hj hy] at this
  show World.ownsRow _ _ _ _ _ _ _
  rw [List.length_set]
  exact this
end
end Go.Proofs.YteccghdegckjhaaGreatDoor
