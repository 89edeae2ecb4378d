/-
  Sorting an own row of ints, in the words of an own row.
-/
import Derived.Test.YtaamonhhclffcaaInts
import Derived.Test.YtaamonhhclffcaaSort
namespace Go.Proofs.Ytaamonhhclffcaa
open Go.RowKit Go Go.Sort
set_option linter.unusedVariables false

def sortI (zs : List Int) : List Int := zs.mergeSort fun x y => decide (x ≤ y)
theorem sortI_len (zs : List Int) : (sortI zs).length = zs.length := List.length_mergeSort _
theorem sortI_mem {zs : List Int} {z : Int} : z ∈ sortI zs ↔ z ∈ zs := List.mem_mergeSort

theorem putCells_take (enc : Int → Value) (ys : List Int) (cur : Array Value) (h : ys.length ≤ cur.size) :
    (putCells enc 0 ys.toArray cur).size = cur.size ∧ (putCells enc 0 ys.toArray cur).toList.take ys.length = ys.map enc := by
  refine ⟨by simp [putCells], List.ext_getElem? fun i => ?_⟩
  rcases Nat.lt_or_ge i ys.length with hi | hi
  · rw [List.getElem?_take, if_pos hi, Array.getElem?_toList]
    simp only [putCells, Array.getElem?_mapIdx]
    rw [Array.getElem?_eq_getElem (by omega)]
    simp [hi]
  · rw [List.getElem?_eq_none (by simp; omega), List.getElem?_eq_none (by simpa using hi)]

theorem sort_ints (B g n c : Nat) (zs : List Int) (w : World) (h : OwnI w B (.slice (some ⟨g, 0, none⟩) n c) zs) (hn : zs.length = n) (hn1 : 1 ≤ n ∧ n ≤ 1000000) (hB : B ≤ w.heap.size) :
    Calls Try.prog 113 #[.slice (some ⟨g, 0, none⟩) n c] w fun e w' => e = .returned (.tuple #[]) ∧ OwnI w' B (.slice (some ⟨g, 0, none⟩) n c) (sortI zs) ∧ Below B w w' := by
  subst hn
  obtain ⟨g', c', cur, hv, hb, hg, hR, hc, hm⟩ := h.slice hn1.1
  obtain ⟨rfl, rfl⟩ : g' = g ∧ c' = c := by simp at hv; exact ⟨hv.1.symm, hv.2.symm⟩
  have hsz : cur.size = c' * 1 := by
    rcases h.2 with ⟨hv, _⟩ | ⟨g2, c2, cur2, hv2, _, hg2, _, _, hs2, _⟩
    · cases hv
    · simp at hv2
      obtain ⟨rfl, rfl⟩ := hv2
      rw [hg] at hg2
      simp at hg2
      rw [hg2]; exact hs2
  have hH : Holds (Value.int .i64) w g' 0 zs.toArray := by
    intro j hj
    have hj' : j < zs.length := by simpa using hj
    refine ⟨?_, ?_⟩
    · rw [hR.2.2 j hj']
      simp [List.getD, hj']
    · exact frozen_of_row w g' (0 + j) cur _ hg
  refine (Try.slices_Sort_int g' 0 c' zs w hH (lt_of_block hg) (by omega)).mono ?_
  rintro e w' ⟨rfl, n, os, rfl⟩
  have hys : (sortI zs).length = zs.length := sortI_len zs
  show _ ∧ OwnI (grow (putRow (Value.int .i64) (Sort.ahead w n) g' 0 (sortI zs).toArray) os) B _ (sortI zs) ∧ Below B w (grow (putRow (Value.int .i64) (Sort.ahead w n) g' 0 (sortI zs).toArray) os)
  generalize sortI zs = ys at hys ⊢
  have hlt : g' < w.heap.size := lt_of_block hg
  have hheap : ∀ i, i < w.heap.size → (grow (putRow (Value.int .i64) (Sort.ahead w n) g' 0 ys.toArray) os).heap[i]? = if g' = i then some (.cells (putCells (Value.int .i64) 0 ys.toArray cur) 3 (0, 0)) else w.heap[i]? := by
    intro i hi
    simp only [grow, putRow, mapBlock, Sort.ahead]
    rw [Array.getElem?_append_left (by simpa using hi), Array.getElem?_modify]
    by_cases e : g' = i
    · subst e
      rw [if_pos rfl, if_pos rfl, hg]
      rfl
    · rw [if_neg e, if_neg e]
  obtain ⟨p1, p2⟩ := putCells_take (Value.int .i64) ys cur (by omega)
  refine ⟨rfl, ⟨by simp [encIs], .inr ⟨g', c', _, by rw [hys], hb, by rw [hheap g' hlt, if_pos rfl], by omega, hm, by omega, by rw [Nat.mul_one]; exact p2⟩⟩, ?_⟩
  refine ⟨rfl, rfl, rfl, by simp [grow, putRow, mapBlock, Sort.ahead], fun i hi => ?_⟩
  rw [hheap i (by omega), if_neg (by omega)]
end Go.Proofs.Ytaamonhhclffcaa
