/-
  The longest row of zeros, plain: what the reference's search finds is what the program's loop keeps.
-/
import Derived.Test.YtofjlpnebfijoaaDoorTxtE
namespace Go.Proofs.YtofjlpnebfijoaaDoor
open Go
set_option linter.unusedVariables false

def hit (z : Nat → Bool) (i n : Nat) : Bool := (List.range n).all fun j => z (i + j)
def rIn (z : Nat → Bool) (n : Nat) : Nat → Nat → Option (Nat × Nat)
  | 0, _ => none
  | k + 1, i => if i + n ≤ 8 then (if hit z i n = true then some (i, n) else rIn z n k (i + 1)) else none
def rOut (z : Nat → Bool) : Nat → Option (Nat × Nat)
  | 0 => none
  | k + 1 => match rIn z (k + 2) 9 0 with
    | some x => some x
    | none => rOut z k
def tab8 (b0 b1 b2 b3 b4 b5 b6 b7 : Bool) (j : Nat) : Bool := [b0, b1, b2, b3, b4, b5, b6, b7].getD j false
theorem run0_congr {z z' : Nat → Bool} (h : ∀ j, j < 8 → z j = z' j) : ∀ k i, run0 z k i = run0 z' k i
  | 0, _ => rfl
  | k + 1, i => by
    unfold run0
    by_cases hi : i < 8
    · rw [h i hi, run0_congr h k (i + 1)]
    · rw [if_neg (fun e => hi e.1), if_neg (fun e => hi e.1)]
theorem zF_congr {z z' : Nat → Bool} (h : ∀ j, j < 8 → z j = z' j) : ∀ k i f m, zF z k i f m = zF z' k i f m
  | 0, _, _, _ => rfl
  | k + 1, i, f, m => by
    unfold zF
    rw [run0_congr h 8 i]
    by_cases hi : i < 8
    · rw [if_pos hi, if_pos hi, zF_congr h k]
    · rw [if_neg hi, if_neg hi]
theorem hit_congr {z z' : Nat → Bool} (h : ∀ j, j < 8 → z j = z' j) {i n : Nat} (hn : i + n ≤ 8) : hit z i n = hit z' i n := by
  unfold hit
  rw [Bool.eq_iff_iff, List.all_eq_true, List.all_eq_true]
  constructor <;> intro h1 j hj <;> have h2 := h1 j hj <;> have h3 : j < n := List.mem_range.1 hj
  · rw [← h (i + j) (by omega)]; exact h2
  · rw [h (i + j) (by omega)]; exact h2
theorem rIn_congr {z z' : Nat → Bool} (h : ∀ j, j < 8 → z j = z' j) (n : Nat) : ∀ k i, rIn z n k i = rIn z' n k i
  | 0, _ => rfl
  | k + 1, i => by
    unfold rIn
    by_cases hi : i + n ≤ 8
    · rw [if_pos hi, if_pos hi, hit_congr h hi, rIn_congr h n k (i + 1)]
    · rw [if_neg hi, if_neg hi]
theorem rOut_congr {z z' : Nat → Bool} (h : ∀ j, j < 8 → z j = z' j) : ∀ k, rOut z k = rOut z' k
  | 0 => rfl
  | k + 1 => by unfold rOut; rw [rIn_congr h, rOut_congr h k]
theorem search_tab : ∀ b0 b1 b2 b3 b4 b5 b6 b7 : Bool, rOut (tab8 b0 b1 b2 b3 b4 b5 b6 b7) 7 = if (zF (tab8 b0 b1 b2 b3 b4 b5 b6 b7) 8 0 0 0).2 < 2 then none else some (zF (tab8 b0 b1 b2 b3 b4 b5 b6 b7) 8 0 0 0) := by decide +kernel
theorem search_eq (z : Nat → Bool) : rOut z 7 = if (zF z 8 0 0 0).2 < 2 then none else some (zF z 8 0 0 0) := by
  have h : ∀ j, j < 8 → z j = tab8 (z 0) (z 1) (z 2) (z 3) (z 4) (z 5) (z 6) (z 7) j := fun j hj => by
    have : j = 0 ∨ j = 1 ∨ j = 2 ∨ j = 3 ∨ j = 4 ∨ j = 5 ∨ j = 6 ∨ j = 7 := by omega
    rcases this with rfl | rfl | rfl | rfl | rfl | rfl | rfl | rfl <;> rfl
  rw [rOut_congr h, zF_congr h]
  exact search_tab _ _ _ _ _ _ _ _
/-- the text, as the reference finds it -/
theorem sixT_search (g : Nat → Nat) : sixT g = match rOut (zB g) 7 with
    | none => joinS (sixL g) ⟨#[58]⟩
    | some x => gapS (sixL g) x.1 x.2 := by
  rw [search_eq]
  unfold sixT
  split <;> rfl
/-- a group's numeral is "0" where the group is none, and only there -/
theorem hexS_zero (n : Nat) (h : n < 65536) : (hexS n = ⟨#[48]⟩) ↔ n = 0 := by
  constructor
  · intro e
    unfold hexS hexL at e
    by_cases h1 : n < 16
    · rw [if_pos h1] at e
      have : ∀ k, k < 16 → (⟨[dH k].toArray⟩ : ByteArray) = ⟨#[48]⟩ → k = 0 := by decide +kernel
      exact this n h1 e
    · rw [if_neg h1] at e
      have hl := congrArg (fun b : ByteArray => b.data.size) e
      split at hl
      · simp at hl
      · split at hl <;> simp at hl
  · rintro rfl
    decide +kernel
end Go.Proofs.YtofjlpnebfijoaaDoor
