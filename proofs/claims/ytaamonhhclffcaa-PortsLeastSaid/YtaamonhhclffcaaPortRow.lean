/-
  Rows of ranges that a call owns: two cells an element.
-/
import Derived.Test.YtaamonhhclffcaaOwn
import Derived.Test.YtaamonhhclffcaaPorts
namespace Go.Proofs.Ytaamonhhclffcaa
open Go.RowKit Go
set_option linter.unusedVariables false

def encP (p : Int × Int) : List Value := [.int .i64 p.1, .int .i64 p.2]
def encPs (L : List (Int × Int)) : List Value := L.flatMap encP
theorem encPs_len : ∀ L : List (Int × Int), (encPs L).length = L.length * 2
  | [] => rfl
  | p :: L => by have := encPs_len L; simp [encPs, encP] at this ⊢; omega
theorem encPs_append (A B : List (Int × Int)) : encPs (A ++ B) = encPs A ++ encPs B := by simp [encPs]
theorem encPs_one (L : List (Int × Int)) : ∀ u ∈ encPs L, u.oneCell' = true := by
  intro u hu
  obtain ⟨p, _, hp⟩ := List.mem_flatMap.1 hu
  simp [encP] at hp
  rcases hp with rfl | rfl <;> rfl
theorem encPs_get : ∀ (L : List (Int × Int)) (i : Nat), i < L.length → (encPs L)[i * 2]? = some (.int .i64 (L.getD i (0, 0)).1) ∧ (encPs L)[i * 2 + 1]? = some (.int .i64 (L.getD i (0, 0)).2)
  | [], i, h => by simp at h
  | p :: L, 0, h => by simp [encPs, encP]
  | p :: L, i + 1, h => by
    have := encPs_get L i (by simpa using h)
    rw [show (i + 1) * 2 = i * 2 + 1 + 1 by omega]
    simpa [encPs, encP] using this
theorem encPs_set1 : ∀ (L : List (Int × Int)) (i : Nat) (x : Int), i < L.length → (encPs L).set (i * 2 + 1) (.int .i64 x) = encPs (L.set i ((L.getD i (0, 0)).1, x))
  | [], i, x, h => by simp at h
  | p :: L, 0, x, h => by simp [encPs, encP]
  | p :: L, i + 1, x, h => by
    have := encPs_set1 L i x (by simpa using h)
    rw [show (i + 1) * 2 + 1 = i * 2 + 1 + 1 + 1 by omega]
    simp [encPs, encP] at this ⊢
    exact this
def OwnP (w : World) (base : Nat) (v : Value) (L : List (Int × Int)) : Prop := w.ownsRow base 64 2 v L.length (encPs L)
theorem portE : EI Try.prog 61 64 2 16 := EI.mk' (z := .agg #[.int .i64 0, .int .i64 0]) Try.underlying61 (by kernel_rfl) rfl (by decide)
theorem OwnP.nil (w : World) (base : Nat) : OwnP w base (.slice none 0 0) [] := World.ownsRow_nil w base _ 2
theorem OwnP.weak {w : World} {base base' : Nat} {v : Value} {L : List (Int × Int)} (h : OwnP w base v L) (hb : base' ≤ base) : OwnP w base' v L := own_weak h hb
theorem OwnP.later {w w' : World} {base : Nat} {v : Value} {L : List (Int × Int)} (h : OwnP w base v L) (hb : Below w.heap.size w w') : OwnP w' base v L := own_later h hb
theorem OwnP.alloc {w : World} {base : Nat} {v : Value} {L : List (Int × Int)} (h : OwnP w base v L) (o : Obj) : OwnP (w.alloc o) base v L := h.later (below_alloc (Below.refl _ _) _)
theorem OwnP.drewN {w : World} {base : Nat} {v : Value} {L : List (Int × Int)} (h : OwnP w base v L) (n : Nat) : OwnP (w.drewN n) base v L := h.later (below_drewN (Below.refl _ _) _)
theorem ownP_empty (w : World) : OwnP (w.alloc (.cells #[] 64 (0, 0))) w.heap.size (.slice (some ⟨w.heap.size, 0, none⟩) 0 0) [] :=
  ⟨by simp [encPs], .inr ⟨w.heap.size, 0, #[], rfl, Nat.le_refl _, heap_alloc_new w _, Nat.le_refl _, by unfold maxLen; omega, by simp, by simp [encPs]⟩⟩
theorem OwnP.gen {w w' : World} {b B m : Nat} {v : Value} {L : List (Int × Int)} (h : OwnP w B v L) (hg : Gen b w w' m) (hb : b < B) : OwnP w' B v L :=
  World.ownsRow.kept h hg.g (by
    cases hv : v.ownBlock with
    | none => exact .inl rfl
    | some k => exact .inr (by have := own_base h k hv; simp; omega))
theorem OwnP.snoc {w : World} {B : Nat} {v : Value} {L : List (Int × Int)} {p : Int × Int} (h : w.ownsRow B 64 2 v (L.length + 1) (encPs L ++ [.int .i64 p.1, .int .i64 p.2])) : OwnP w B v (L ++ [p]) := by
  show w.ownsRow _ _ _ _ _ _
  rw [List.length_append, encPs_append]
  simpa [encPs, encP] using h
/-- a row with one element at least: its block -/
theorem OwnP.one {w : World} {B : Nat} {v : Value} {L : List (Int × Int)} (h : OwnP w B v L) (hl : 1 ≤ L.length) :
    ∃ g c, v = .slice (some ⟨g, 0, none⟩) L.length c ∧ B ≤ g ∧ g < w.heap.size ∧ L.length ≤ c ∧ c ≤ maxLen := by
  rcases h.2 with ⟨rfl, h0⟩ | ⟨g, cap, cur, rfl, hb, hg, hc, hm, hs, ht⟩
  · omega
  · exact ⟨g, cap, rfl, hb, lt_of_block hg, hc, hm⟩
theorem OwnP.block {w : World} {B g n c : Nat} {L : List (Int × Int)} (h : OwnP w B (.slice (some ⟨g, 0, none⟩) n c) L) : n = L.length ∧ B ≤ g ∧ n ≤ c ∧ c ≤ maxLen ∧ ∃ cur, w.heap[g]? = some (.cells cur 64 (0, 0)) ∧ cur.size = c * 2 ∧ cur.toList.take (L.length * 2) = encPs L := by
  rcases h.2 with ⟨hv, _⟩ | ⟨g2, c2, cur, hv, hb, hg, hc, hm, hs, ht⟩
  · cases hv
  · simp at hv
    obtain ⟨rfl, rfl, rfl⟩ := hv
    exact ⟨rfl, hb, hc, hm, cur, hg, hs, ht⟩
theorem OwnP.frozen {w : World} {B g c n : Nat} {L : List (Int × Int)} (h : OwnP w B (.slice (some ⟨g, 0, none⟩) n c) L) (i : Nat) : w.frozen? ⟨g, i, none⟩ = false := by
  obtain ⟨_, _, _, _, cur, hg, _⟩ := h.block
  exact frozen_of_row w g i cur _ hg
theorem OwnP.get {w : World} {B g c n : Nat} {L : List (Int × Int)} (h : OwnP w B (.slice (some ⟨g, 0, none⟩) n c) L) (i : Nat) (hi : i < L.length) :
    w.cell? ⟨g, i * 2, none⟩ = some (.int .i64 (L.getD i (0, 0)).1) ∧ w.cell? ⟨g, i * 2 + 1, none⟩ = some (.int .i64 (L.getD i (0, 0)).2) := by
  obtain ⟨_, _, _, _, cur, hg, hs, ht⟩ := h.block
  obtain ⟨h0, h1⟩ := encPs_get L i hi
  rw [cell_of_row w g _ _ _ _ hg, cell_of_row w g _ _ _ _ hg]
  rw [← ht, List.getElem?_take, if_pos (by omega), Array.getElem?_toList] at h0 h1
  exact ⟨h0, h1⟩
theorem OwnP.setTo {w : World} {B g c n : Nat} {L : List (Int × Int)} (h : OwnP w B (.slice (some ⟨g, 0, none⟩) n c) L) (i : Nat) (hi : i < L.length) (x : Int) :
    OwnP (w.setCell ⟨g, i * 2 + 1, none⟩ (.int .i64 x)) B (.slice (some ⟨g, 0, none⟩) n c) (L.set i ((L.getD i (0, 0)).1, x)) := by
  obtain ⟨rfl, hb, hc, hm, cur, hg, hs, ht⟩ := h.block
  refine ⟨by rw [encPs_len], .inr ⟨g, c, cur.setIfInBounds (i * 2 + 1) (.int .i64 x), by simp, hb, heap_setCell_same w g _ cur _ _ hg, by simpa using hc, hm, by simpa using hs, ?_⟩⟩
  rw [Array.toList_setIfInBounds, List.take_set, List.length_set, ht, encPs_set1 _ _ _ hi]
/-- a row that can be read -/
theorem OwnP.rd {w : World} {B n c : Nat} {ad : Option Addr} {L : List (Int × Int)} (h : OwnP w B (.slice ad n c) L) (hl : L.length ≤ 1000) : RdP w ad L := by
  refine ⟨hl, fun i hi => ?_⟩
  obtain ⟨g, c', hv, _, hg, _⟩ := h.one (by omega)
  simp at hv
  obtain ⟨rfl, rfl, rfl⟩ := hv
  exact ⟨g, 0, rfl, hg, by rw [Nat.zero_add]; exact (h.get i hi).1, by rw [Nat.zero_add]; exact (h.get i hi).2⟩
theorem OwnP.form {w : World} {B : Nat} {v : Value} {L : List (Int × Int)} (h : OwnP w B v L) : ∃ ad c, v = .slice ad L.length c ∧ Src w ad L.length 2 (encPs L) ∧ L.length ≤ c ∧ c ≤ maxLen := own_form h
theorem RdP.src {w : World} {ad : Option Addr} {L : List (Int × Int)} (h : RdP w ad L) : Src w ad L.length 2 (encPs L) := by
  refine ⟨encPs_len L, fun j u hu => ?_⟩
  have hj : j < L.length * 2 := by
    rcases Nat.lt_or_ge j (L.length * 2) with h | h
    · exact h
    · rw [List.getElem?_eq_none (by rw [encPs_len]; exact h)] at hu; cases hu
  obtain ⟨g, o, e, hg, h0, h1⟩ := h.cell (j / 2) (by omega)
  obtain ⟨e0, e1⟩ := encPs_get L (j / 2) (by omega)
  refine ⟨_, e, hg, ?_⟩
  have hadd : (⟨g, o, none⟩ : Addr).add j = ⟨g, o + j, none⟩ := by unfold Addr.add; split <;> simp_all
  rw [hadd]
  rcases Nat.mod_two_eq_zero_or_one j with hm | hm
  · have : j / 2 * 2 = j := by omega
    rw [this] at h0 e0
    rw [h0, ← e0, hu]
  · have : j / 2 * 2 + 1 = j := by omega
    rw [Nat.add_assoc, this] at h1
    rw [this] at e1
    rw [h1, ← e1, hu]
theorem src_two_new (w : World) (x y : Value) (t : TypeId) : Src (w.alloc (.cells #[x, y] t)) (some ⟨w.heap.size, 0, none⟩) 1 2 [x, y] :=
  ⟨rfl, fun j u hu => ⟨_, rfl, by simp, by
    have hadd : (⟨w.heap.size, 0, none⟩ : Addr).add j = ⟨w.heap.size, j, none⟩ := by unfold Addr.add; split <;> simp_all
    rw [hadd, cell_of_row _ w.heap.size j _ _ _ (heap_alloc_new w _)]
    simpa using hu⟩⟩
theorem run_eql_slice_nil_ports (w : World) (a : Option Addr) (l c : Nat) : (binOp .eql 61 (.slice a l c) (.slice none 0 0)).run Try.prog w = .ok (.bool a.isNone) w :=
  Lib.run_eql_slice_nil (h := Try.underlying61) ..
set_option maxRecDepth 100000 in
set_option maxHeartbeats 1000000 in
theorem clone_ports (ad : Option Addr) (n c : Nat) (L : List (Int × Int)) (w : World) (h : RdP w ad L) (hn : n = L.length) (hc : ad = none → n = 0) :
    Calls Try.prog 106 #[.slice ad n c] w fun e w' => ∃ v, e = .returned v ∧ OwnP w' w.heap.size v L ∧ Below w.heap.size w w' := by
  subst hn
  have hsm := h.small
  cases ad with
  | none =>
    have en := fun w => run_eql_slice_nil_ports w none L.length c
    simp only [Option.isNone_none] at en
    have hL : Hid (L = []) := Lib.hid (List.eq_nil_of_length_eq_zero (hc rfl))
    clear hc h
    go_enter Try.func106, Try.ntmps106
    go_wp2
    go_ret
    exact ⟨_, rfl, by rw [hL.out]; exact OwnP.nil _ _, Below.refl _ _⟩
  | some a =>
    have en := fun w => run_eql_slice_nil_ports w (some a) L.length c
    simp only [Option.isNone_some] at en
    have HS := Lib.hid h.src
    clear hc h
    have hB : Hid (Below w.heap.size w (w.alloc (.cells #[] 64 (0, 0)))) := Lib.hid (below_alloc (Below.refl _ _) _)
    go_enter Try.func106, Try.ntmps106
    go_wp2_with (at_builtin; refine wpList_app portE rfl (.tmp 5) (.tmp 6) rfl rfl (ownP_empty w) rfl (src_later HS.out hB.out) (encPs_one L) ?c2 ?c3 ?c4 ?_)
    case c2 => unfold maxLen; simp only [List.length_nil]; omega
    case c3 => simp only [List.length_nil]; omega
    case c4 => simp
    intro v' w' hO hG
    rw [show encPs [] ++ encPs L = encPs L from rfl] at hO
    have HO : Hid (OwnP w' w.heap.size v' L) := Lib.hid hO
    have HG := Lib.hid hG
    clear hO hG
    go_wp2
    go_ret
    exact ⟨_, rfl, HO.out, HG.out.below (u := .slice (some ⟨w.heap.size, 0, none⟩) 0 0) (by simp) (by intro k hk; simp [Value.ownBlock] at hk; omega) |> (below_alloc (Below.refl _ _) _).trans⟩
end Go.Proofs.Ytaamonhhclffcaa
