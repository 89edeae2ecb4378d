/-
  Slices of ints: an own row, Clone, Min, Max, the numbers' faults.
-/
import Derived.Test.YtaamonhhclffcaaOwn
import Derived.Test.YtaamonhhclffcaaPure
import Derived.Lib.LazyBuf
namespace Go.Proofs.Ytaamonhhclffcaa
open Go.RowKit Go
set_option linter.unusedVariables false

def encIs (zs : List Int) : List Value := zs.map (Value.int .i64)
theorem encIs_len (zs : List Int) : (encIs zs).length = zs.length := by simp [encIs]
theorem encIs_one (zs : List Int) : ∀ u ∈ encIs zs, u.oneCell' = true := by
  intro u hu
  obtain ⟨c, _, rfl⟩ := List.mem_map.1 hu
  rfl
def OwnI (w : World) (base : Nat) (v : Value) (zs : List Int) : Prop := w.ownsRow base 3 1 v zs.length (encIs zs)
theorem intE : EI Try.prog 22 3 1 8 := EI.mk' (z := .int .i64 0) Try.underlying22 (by kernel_rfl) rfl (by decide)
theorem OwnI.nil (w : World) (base : Nat) : OwnI w base (.slice none 0 0) [] := World.ownsRow_nil w base _ 1
theorem OwnI.weak {w : World} {base base' : Nat} {v : Value} {zs : List Int} (h : OwnI w base v zs) (hb : base' ≤ base) : OwnI w base' v zs := own_weak h hb
theorem OwnI.later {w w' : World} {base : Nat} {v : Value} {zs : List Int} (h : OwnI w base v zs) (hb : Below w.heap.size w w') : OwnI w' base v zs := own_later h hb

/-- an int row with one cell at least -/
theorem OwnI.slice {w : World} {base : Nat} {v : Value} {zs : List Int} (h : OwnI w base v zs) (hn : 1 ≤ zs.length) :
    ∃ g c cur, v = .slice (some ⟨g, 0, none⟩) zs.length c ∧ base ≤ g ∧ w.heap[g]? = some (.cells cur 3 (0, 0)) ∧ RdInts w g 0 zs.length zs ∧ zs.length ≤ c ∧ c ≤ maxLen := by
  rcases h.2 with ⟨_, h0⟩ | ⟨g, cap, cur, rfl, hb, hg, hc, hm, hs, ht⟩
  · omega
  · refine ⟨g, cap, cur, rfl, hb, hg, ⟨rfl, lt_of_block hg, fun i hi => ?_⟩, hc, hm⟩
    rw [Nat.zero_add, cell_of_row w g i _ _ _ hg]
    have h1 : (cur.toList.take (zs.length * 1))[i]? = (encIs zs)[i]? := by rw [ht]
    rw [List.getElem?_take, if_pos (by omega)] at h1
    rw [← Array.getElem?_toList, h1]
    simp [encIs, List.getD, hi]

theorem own_empty (w : World) (t : TypeId) (size : Nat) : (w.alloc (.cells #[] t (0, 0))).ownsRow w.heap.size t size (.slice (some ⟨w.heap.size, 0, none⟩) 0 0) 0 [] :=
  ⟨by simp, .inr ⟨w.heap.size, 0, #[], rfl, Nat.le_refl _, heap_alloc_new w _, Nat.le_refl _, by unfold maxLen; omega, by simp, by simp⟩⟩

theorem RdInts.src {w : World} {g o n : Nat} {zs : List Int} (h : RdInts w g o n zs) : Src w (some ⟨g, o, none⟩) n 1 (encIs zs) := by
  obtain ⟨hl, hg, hc⟩ := h
  refine ⟨by simp [encIs, hl], fun j u hu => ?_⟩
  have hj : j < zs.length := by
    rcases Nat.lt_or_ge j zs.length with h | h
    · exact h
    · rw [List.getElem?_eq_none (by simpa [encIs] using h)] at hu; cases hu
  refine ⟨_, rfl, hg, ?_⟩
  have hadd : (⟨g, o, none⟩ : Addr).add j = ⟨g, o + j, none⟩ := by unfold Addr.add; split <;> simp_all
  rw [hadd, hc j (by omega)]
  simp [encIs, hj] at hu
  rw [← hu]
  simp [List.getD, hj]
theorem RdInts.later {w w' : World} {g o n : Nat} {zs : List Int} (h : RdInts w g o n zs) (hb : Below w.heap.size w w') : RdInts w' g o n zs :=
  ⟨h.1, Nat.lt_of_lt_of_le h.2.1 hb.size, fun i hi => (World.cell?_of_block (w := w) (hb.block g h.2.1)).trans (h.2.2 i hi)⟩
theorem RdInts.alloc {w : World} {g o n : Nat} {zs : List Int} (h : RdInts w g o n zs) (ob : Obj) : RdInts (w.alloc ob) g o n zs := h.later (below_alloc (Below.refl _ _) _)

theorem getD_mem {zs : List Int} {i : Nat} (h : i < zs.length) : zs.getD i 0 ∈ zs := by simp [List.getD, List.getElem?_eq_getElem h]

theorem run_eql_slice_nil_ints (w : World) (a : Option Addr) (l c : Nat) : (binOp .eql 22 (.slice a l c) (.slice none 0 0)).run Try.prog w = .ok (.bool a.isNone) w :=
  Lib.run_eql_slice_nil (h := Try.underlying22) ..
set_option maxRecDepth 100000 in
set_option maxHeartbeats 1000000 in
theorem clone_ints (g o n c : Nat) (zs : List Int) (w : World) (h : RdInts w g o n zs) (hn : n ≤ 1000000) :
    Calls Try.prog 112 #[.slice (some ⟨g, o, none⟩) n c] w fun e w' => ∃ v, e = .returned v ∧ OwnI w' w.heap.size v zs ∧ Below w.heap.size w w' := by
  have en := fun w => run_eql_slice_nil_ints w (some ⟨g, o, none⟩) n c
  simp only [Option.isNone_some] at en
  go_enter Try.func112, Try.ntmps112
  go_wp2_with (at_builtin; refine wpList_app intE rfl (.tmp 5) (.tmp 6) rfl rfl (own_empty w _ _) rfl (h.alloc _).src (encIs_one zs) ?c2 ?c3 ?c4 ?_)
  case c2 => unfold maxLen; omega
  case c3 => omega
  case c4 => simp
  intro v' w' hO hG
  rw [← h.1] at hO
  have HO := Lib.hid hO
  have HG := Lib.hid hG
  clear hO hG
  go_wp2
  go_ret
  exact ⟨_, rfl, HO.out, HG.out.below (u := .slice (some ⟨w.heap.size, 0, none⟩) 0 0) (by simp) (by intro k hk; simp [Value.ownBlock] at hk; omega) |> (below_alloc (Below.refl _ _) _).trans⟩

set_option maxRecDepth 100000 in
set_option maxHeartbeats 1000000 in
theorem min_ints (g o n c : Nat) (zs : List Int) (w : World) (h : RdInts w g o n zs) (hn : 1 ≤ n ∧ n ≤ 1000000) :
    Calls Try.prog 56 #[.slice (some ⟨g, o, none⟩) n c] w fun e w' => ∃ k, e = .returned (.int .i64 k) ∧ k ∈ zs ∧ (∀ z ∈ zs, k ≤ z) ∧ w' = w := by
  obtain ⟨hl, hg, hc⟩ := h
  have Hc := Lib.hid hc
  have Hl := Lib.hid hl
  have c0 := hc 0 (by omega)
  rw [Nat.add_zero] at c0
  have hn0 : ¬ ((n : Int) < 1) := by omega
  obtain ⟨hn1, hn2⟩ := hn
  clear hc hl
  go_enter Try.func56, Try.ntmps56
  go_wp2
  go_loopw [3, 4] (fun m i wr => ∃ (k : Nat) (x : Int), 1 ≤ k ∧ k ≤ n ∧ i = .int .i64 k ∧ m = .int .i64 x ∧ Hid (x ∈ zs ∧ ∀ j, j < k → x ≤ zs.getD j 0) ∧ wr = w) (fun _ i _ => n - (intOf i).toNat)
  case atStart => exact ⟨1, _, Nat.le_refl _, hn1, rfl, rfl, Lib.hid ⟨getD_mem (by have := Hl.out; omega), fun j hj => by rw [Nat.lt_one_iff.1 hj]; exact Int.le_refl _⟩, rfl⟩
  case round =>
    obtain ⟨k, x, hk1, hk, rfl, rfl, HX, rfl⟩ := hrel
    by_cases hlt : k < n
    · have ck := Hc.out k hlt
      have hmem := Lib.hid (getD_mem (zs := zs) (i := k) (by have := Hl.out; omega))
      obtain ⟨y, hy⟩ : ∃ y, y = zs.getD k 0 := ⟨_, rfl⟩
      rw [← hy] at ck hmem
      have Hy := Lib.hid hy
      clear hy
      go_wp2
      refine ⟨⟨k + 1, min x y, by omega, by omega, by go_num, ?_, Lib.hid ⟨?_, fun j hj => ?_⟩, by first | rfl | trivial⟩, by simp [intOf]; omega⟩
      · first | rfl | exact congrArg _ (by omega)
      · rcases Int.le_total x y with h | h
        · rw [Int.min_eq_left h]; exact HX.out.1
        · rw [Int.min_eq_right h]; exact hmem.out
      · rcases Nat.lt_or_ge j k with h | h
        · have := HX.out.2 j h; omega
        · obtain rfl : j = k := by omega
          rw [← Hy.out]; omega
    · obtain rfl : k = n := by omega
      go_wp2
      go_ret
      refine ⟨x, rfl, HX.out.1, fun z hz => ?_, rfl⟩
      obtain ⟨j, hj, rfl⟩ := List.getElem_of_mem hz
      have := HX.out.2 j (by have := Hl.out; omega)
      simpa [List.getD, List.getElem?_eq_getElem hj] using this
set_option maxRecDepth 100000 in
set_option maxHeartbeats 1000000 in
theorem max_ints (g o n c : Nat) (zs : List Int) (w : World) (h : RdInts w g o n zs) (hn : 1 ≤ n ∧ n ≤ 1000000) :
    Calls Try.prog 57 #[.slice (some ⟨g, o, none⟩) n c] w fun e w' => ∃ k, e = .returned (.int .i64 k) ∧ k ∈ zs ∧ (∀ z ∈ zs, z ≤ k) ∧ w' = w := by
  obtain ⟨hl, hg, hc⟩ := h
  have Hc := Lib.hid hc
  have Hl := Lib.hid hl
  have c0 := hc 0 (by omega)
  rw [Nat.add_zero] at c0
  have hn0 : ¬ ((n : Int) < 1) := by omega
  obtain ⟨hn1, hn2⟩ := hn
  clear hc hl
  go_enter Try.func57, Try.ntmps57
  go_wp2
  go_loopw [3, 4] (fun m i wr => ∃ (k : Nat) (x : Int), 1 ≤ k ∧ k ≤ n ∧ i = .int .i64 k ∧ m = .int .i64 x ∧ Hid (x ∈ zs ∧ ∀ j, j < k → zs.getD j 0 ≤ x) ∧ wr = w) (fun _ i _ => n - (intOf i).toNat)
  case atStart => exact ⟨1, _, Nat.le_refl _, hn1, rfl, rfl, Lib.hid ⟨getD_mem (by have := Hl.out; omega), fun j hj => by rw [Nat.lt_one_iff.1 hj]; exact Int.le_refl _⟩, rfl⟩
  case round =>
    obtain ⟨k, x, hk1, hk, rfl, rfl, HX, rfl⟩ := hrel
    by_cases hlt : k < n
    · have ck := Hc.out k hlt
      have hmem := Lib.hid (getD_mem (zs := zs) (i := k) (by have := Hl.out; omega))
      obtain ⟨y, hy⟩ : ∃ y, y = zs.getD k 0 := ⟨_, rfl⟩
      rw [← hy] at ck hmem
      have Hy := Lib.hid hy
      clear hy
      go_wp2
      refine ⟨⟨k + 1, max x y, by omega, by omega, by go_num, ?_, Lib.hid ⟨?_, fun j hj => ?_⟩, by first | rfl | trivial⟩, by simp [intOf]; omega⟩
      · first | rfl | exact congrArg _ (by omega)
      · rcases Int.le_total x y with h | h
        · rw [Int.max_eq_right h]; exact hmem.out
        · rw [Int.max_eq_left h]; exact HX.out.1
      · rcases Nat.lt_or_ge j k with h | h
        · have := HX.out.2 j h; omega
        · obtain rfl : j = k := by omega
          rw [← Hy.out]; omega
    · obtain rfl : k = n := by omega
      go_wp2
      go_ret
      refine ⟨x, rfl, HX.out.1, fun z hz => ?_, rfl⟩
      obtain ⟨j, hj, rfl⟩ := List.getElem_of_mem hz
      have := HX.out.2 j (by have := Hl.out; omega)
      simpa [List.getD, List.getElem?_eq_getElem hj] using this
end Go.Proofs.Ytaamonhhclffcaa
