/-
  Sorting an own row of ranges by From, in the words of an own row.
-/
import Derived.Test.YtaamonhhclffcaaPortRef
import Derived.Test.YtaamonhhclffcaaSortP
namespace Go.Proofs.Ytaamonhhclffcaa
open Go.RowKit Go Go.Sort
set_option linter.unusedVariables false

def fromF (x : Fin 65536 × Nat) : Nat × Nat := (x.1.val, x.2)
def toF (p : Nat × Nat) : Fin 65536 × Nat := (Fin.ofNat 65536 p.1, p.2)
theorem fromTo {p : Nat × Nat} (h : p.1 < 65536) : fromF (toF p) = p := by
  obtain ⟨a, b⟩ := p
  simp only [fromF, toF, Fin.ofNat, Prod.mk.injEq, and_true]
  exact Nat.mod_eq_of_lt h
def encF (x : Fin 65536 × Nat) : List Value := encP (((fromF x).1 : Int), ((fromF x).2 : Int))
def cfF (x y : Fin 65536 × Nat) : Int := ((fromF x).1 : Int) - ((fromF y).1 : Int)
theorem ltF (x y : Fin 65536 × Nat) : Go.Proofs.ltOf cfF x y = decide ((fromF x).1 < (fromF y).1) := by
  unfold Go.Proofs.ltOf cfF
  rw [decide_eq_decide]; omega
theorem swoF : SWO (Go.Proofs.ltOf cfF) where
  irrefl x := by rw [ltF]; simp
  trans x y z h1 h2 := by rw [ltF] at *; simp at *; omega
  ntrans x y z h1 h2 := by rw [ltF] at *; simp at *; omega
theorem flat_list (d : Array (Fin 65536 × Nat)) : (flatK encF 2 d).toList = encPs (PI (d.toList.map fromF)) := by
  refine List.ext_getElem? fun t => ?_
  rcases Nat.lt_or_ge t (d.size * 2) with h | h
  · have hs : t < (flatK encF 2 d).size := by rw [size_flatK]; exact h
    have hi : t / 2 < d.size := by omega
    rw [Array.getElem?_toList, Array.getElem?_eq_getElem hs, ← getElem!_pos (flatK encF 2 d) t hs, get_flatK _ _ _ _ h]
    have hl : t / 2 < (PI (d.toList.map fromF)).length := by simpa [PI] using hi
    obtain ⟨e0, e1⟩ := encPs_get _ _ hl
    have hd : (PI (d.toList.map fromF)).getD (t / 2) (0, 0) = (((fromF d[t / 2]!).1 : Int), ((fromF d[t / 2]!).2 : Int)) := by simp [PI, List.getD, hi]
    rw [hd] at e0 e1
    rcases Nat.mod_two_eq_zero_or_one t with hm | hm
    · rw [show t / 2 * 2 = t by omega] at e0
      rw [e0, hm]; rfl
    · rw [show t / 2 * 2 + 1 = t by omega] at e1
      rw [e1, hm]; rfl
  · rw [List.getElem?_eq_none (by rw [Array.length_toList, size_flatK]; exact h), List.getElem?_eq_none (by rw [encPs_len]; simpa [PI] using h)]
theorem putId_take (F cur : Array Value) (h : F.size ≤ cur.size) : (putCells id 0 F cur).size = cur.size ∧ (putCells id 0 F cur).toList.take F.size = F.toList := by
  refine ⟨by simp [putCells], List.ext_getElem? fun i => ?_⟩
  rcases Nat.lt_or_ge i F.size with hi | hi
  · rw [List.getElem?_take, if_pos hi, Array.getElem?_toList, Array.getElem?_toList]
    simp only [putCells, Array.getElem?_mapIdx]
    rw [Array.getElem?_eq_getElem (by omega)]
    simp [hi]
  · rw [List.getElem?_eq_none (by simp; omega), List.getElem?_eq_none (by simpa using hi)]
set_option maxHeartbeats 1000000 in
theorem cmp_ports (x y : Fin 65536 × Nat) (W : World) : Calls Try.prog 108 #[.agg (encF x).toArray, .agg (encF y).toArray] W fun e w' => e = .returned (.int .i64 (cfF x y)) ∧ ∃ q os', w' = grow (W.drewN q) os' := by
  have hx := x.1.isLt
  have hy := y.1.isLt
  show Calls Try.prog 108 #[.agg #[.int .i64 ((fromF x).1 : Int), .int .i64 ((fromF x).2 : Int)], .agg #[.int .i64 ((fromF y).1 : Int), .int .i64 ((fromF y).2 : Int)]] W fun e w' => e = .returned (.int .i64 (((fromF x).1 : Int) - ((fromF y).1 : Int))) ∧ ∃ q os', w' = grow (W.drewN q) os'
  have hx1 : (fromF x).1 < 65536 := hx
  have hy1 : (fromF y).1 < 65536 := hy
  clear hx hy
  generalize fromF x = p at *
  generalize fromF y = q at *
  obtain ⟨p1, p2⟩ := p
  obtain ⟨q1, q2⟩ := q
  simp only at hx1 hy1 ⊢
  go_enter Try.func108, Try.ntmps108
  go_wp2
  go_ret
  exact ⟨rfl, 0, _, by rw [alloc_eq_grow, alloc_eq_grow, grow_grow]; rfl⟩
theorem sort_ports (B g n c : Nat) (M : List (Nat × Nat)) (w : World) (h : OwnP w B (.slice (some ⟨g, 0, none⟩) n c) (PI M)) (hn : M.length = n) (hn1 : n ≤ 1000) (hB : B ≤ w.heap.size) (hv : ∀ p ∈ M, p.1 < 65536) :
    Calls Try.prog 107 #[.slice (some ⟨g, 0, none⟩) n c, .func (.func 108) #[] #[]] w fun e w' => e = .returned (.tuple #[]) ∧ ∃ S : List (Nat × Nat), S.Perm M ∧ S.Pairwise (fun p q => p.1 ≤ q.1) ∧ OwnP w' B (.slice (some ⟨g, 0, none⟩) n c) (PI S) ∧ Below B w w' := by
  obtain ⟨_, hb, hc, hm, cur, hg, hs, ht⟩ := h.block
  have hd : (M.map toF).toArray.toList.map fromF = M := by
    rw [List.toList_toArray, List.map_map]
    conv => rhs; rw [← List.map_id M]
    exact List.map_congr_left fun p hp => fromTo (hv p hp)
  obtain ⟨d, hdd⟩ : ∃ d, (M.map toF).toArray = d := ⟨_, rfl⟩
  have hds : d.size = n := by rw [← hdd]; simpa using hn
  rw [hdd] at hd
  have hF := flat_list d
  rw [hd] at hF
  have hfs : (flatK encF 2 d).size = n * 2 := by rw [size_flatK, hds]
  have hlt : g < w.heap.size := lt_of_block hg
  have hH : HoldsK encF 2 w g 0 d := by
    intro j hj
    rw [hfs] at hj
    refine ⟨?_, frozen_of_row w g (0 + j) cur _ hg⟩
    rw [Nat.zero_add, cell_of_row w g j _ _ _ hg]
    have h1 : (cur.toList.take ((PI M).length * 2))[j]? = (flatK encF 2 d).toList[j]? := by rw [ht, hF]
    rw [PI_len, hn, List.getElem?_take, if_pos hj, Array.getElem?_toList, Array.getElem?_toList, Array.getElem?_eq_getElem (xs := flatK encF 2 d) (by omega)] at h1
    rw [h1, getElem!_pos _ j (by omega)]
    rfl
  have eg : ∀ args w, (callFunc 108 args).run Try.prog w = .ok (.enter 108 args) w := Go.Proofs.enters_of Try.func108 (by kernel_rfl) rfl
  have hcon := Try.slices_SortFunc_ports encF (fun _ => rfl) (fun x v hv => by simp [encF, encP] at hv; rcases hv with rfl | rfl <;> rfl) cfF swoF 108 #[] g 0 c d w eg (fun _ _ _ _ x y => cmp_ports x y _) hH hlt (by omega)
  rw [hds] at hcon
  refine hcon.mono ?_
  rintro e w' ⟨rfl, d', q, os, hp, hso, rfl⟩
  have hds' : d'.size = n := hp.1.trans hds
  have hperm : d'.toList.Perm d.toList := by
    have h3 := hp.2.2
    rw [← hds, Array.extract_eq_self_of_le (by omega), Array.extract_eq_self_of_le (by omega)] at h3
    exact h3
  have hF' := flat_list d'
  have hfs' : (flatK encF 2 d').size = n * 2 := by rw [size_flatK, hds']
  refine ⟨rfl, d'.toList.map fromF, ?_, ?_, ?_⟩
  · have := hperm.map fromF
    rwa [hd] at this
  · rw [List.pairwise_iff_getElem]
    intro i j hi hj hij
    have hj' : j < d'.size := by simpa using hj
    have hs := hso i j (Nat.zero_le _) hij (by omega)
    rw [ltF, getElem!_pos d' j hj', getElem!_pos d' i (by omega)] at hs
    simp at hs ⊢
    exact hs
  · show OwnP (grow (putRow id (Sort.ahead w q) g 0 (flatK encF 2 d')) os) B _ _ ∧ Below B w (grow (putRow id (Sort.ahead w q) g 0 (flatK encF 2 d')) os)
    generalize flatK encF 2 d' = F at hF' hfs' ⊢
    have hlen : (PI (d'.toList.map fromF)).length = n := by simp [PI, hds']
    generalize PI (d'.toList.map fromF) = L at hF' hlen ⊢
    have hheap : ∀ i, i < w.heap.size → (grow (putRow id (Sort.ahead w q) g 0 F) os).heap[i]? = if g = i then some (.cells (putCells id 0 F cur) 64 (0, 0)) else w.heap[i]? := by
      intro i hi
      simp only [grow, putRow, mapBlock, Sort.ahead]
      rw [Array.getElem?_append_left (by simpa using hi), Array.getElem?_modify]
      by_cases e : g = i
      · subst e
        rw [if_pos rfl, if_pos rfl, hg]
        rfl
      · rw [if_neg e, if_neg e]
    obtain ⟨p1, p2⟩ := putId_take F cur (by omega)
    refine ⟨⟨by rw [encPs_len], .inr ⟨g, c, _, by rw [hlen], hb, by rw [hheap g hlt, if_pos rfl], by omega, hm, by omega, by rw [hlen, ← hfs', p2]; exact hF'⟩⟩, ?_⟩
    refine ⟨rfl, rfl, rfl, by simp [grow, putRow, mapBlock, Sort.ahead], fun i hi => ?_⟩
    rw [hheap i (by omega), if_neg (by omega)]
end Go.Proofs.Ytaamonhhclffcaa
