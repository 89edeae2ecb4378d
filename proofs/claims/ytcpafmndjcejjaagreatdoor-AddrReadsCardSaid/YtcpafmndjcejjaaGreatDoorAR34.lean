/-
  The longest row of zeros, plain: what the reference's search finds is what the program's loop keeps.
  The closure of AddrText; slices.IndexFunc, ContainsFunc at a piece of a row of strings.
-/
import Derived.Test.YtcpafmndjcejjaaGreatDoorAR33
set_option linter.unusedVariables false
namespace Go.Proofs.YtcpafmndjcejjaaGreatDoor
open Go
set_option linter.unusedVariables false

def hit (z : Nat → Bool) (i n : Nat) : Bool := (List.range n).all fun j => z (i + j)
def rIn (z : Nat → Bool) (n : Nat) : Nat → Nat → Option (Nat × Nat)
  | 0, _ => none
  | k + 1, i => if i + n ≤ 8 then (if hit z i n = true then some (i, n) else rIn z n k (i + 1)) else none
def rOut (z : Nat → Bool) : Nat → Option (Nat × Nat)
  | 0 => none
  | k + 1 => match rIn z (k + 2) 9 0 with
    | some x => some x
    | none => rOut z k
def tab8 (b0 b1 b2 b3 b4 b5 b6 b7 : Bool) (j : Nat) : Bool := [b0, b1, b2, b3, b4, b5, b6, b7].getD j false
theorem run0_congr {z z' : Nat → Bool} (h : ∀ j, j < 8 → z j = z' j) : ∀ k i, run0 z k i = run0 z' k i
  | 0, _ => rfl
  | k + 1, i => by
    unfold run0
    by_cases hi : i < 8
    · rw [h i hi, run0_congr h k (i + 1)]
    · rw [if_neg (fun e => hi e.1), if_neg (fun e => hi e.1)]
theorem zF_congr {z z' : Nat → Bool} (h : ∀ j, j < 8 → z j = z' j) : ∀ k i f m, zF z k i f m = zF z' k i f m
  | 0, _, _, _ => rfl
  | k + 1, i, f, m => by
    unfold zF
    rw [run0_congr h 8 i]
    by_cases hi : i < 8
    · rw [if_pos hi, if_pos hi, zF_congr h k]
    · rw [if_neg hi, if_neg hi]
theorem hit_congr {z z' : Nat → Bool} (h : ∀ j, j < 8 → z j = z' j) {i n : Nat} (hn : i + n ≤ 8) : hit z i n = hit z' i n := by
  unfold hit
  rw [Bool.eq_iff_iff, List.all_eq_true, List.all_eq_true]
  constructor <;> intro h1 j hj <;> have h2 := h1 j hj <;> have h3 : j < n := List.mem_range.1 hj
  · rw [← h (i + j) (by omega)]; exact h2
  · rw [h (i + j) (by omega)]; exact h2
theorem rIn_congr {z z' : Nat → Bool} (h : ∀ j, j < 8 → z j = z' j) (n : Nat) : ∀ k i, rIn z n k i = rIn z' n k i
  | 0, _ => rfl
  | k + 1, i => by
    unfold rIn
    by_cases hi : i + n ≤ 8
    · rw [if_pos hi, if_pos hi, hit_congr h hi, rIn_congr h n k (i + 1)]
    · rw [if_neg hi, if_neg hi]
theorem rOut_congr {z z' : Nat → Bool} (h : ∀ j, j < 8 → z j = z' j) : ∀ k, rOut z k = rOut z' k
  | 0 => rfl
  | k + 1 => by unfold rOut; rw [rIn_congr h, rOut_congr h k]
theorem search_tab : ∀ b0 b1 b2 b3 b4 b5 b6 b7 : Bool, rOut (tab8 b0 b1 b2 b3 b4 b5 b6 b7) 7 = if (zF (tab8 b0 b1 b2 b3 b4 b5 b6 b7) 8 0 0 0).2 < 2 then none else some (zF (tab8 b0 b1 b2 b3 b4 b5 b6 b7) 8 0 0 0) := by decide +kernel
theorem search_eq (z : Nat → Bool) : rOut z 7 = if (zF z 8 0 0 0).2 < 2 then none else some (zF z 8 0 0 0) := by
  have h : ∀ j, j < 8 → z j = tab8 (z 0) (z 1) (z 2) (z 3) (z 4) (z 5) (z 6) (z 7) j := fun j hj => by
    have : j = 0 ∨ j = 1 ∨ j = 2 ∨ j = 3 ∨ j = 4 ∨ j = 5 ∨ j = 6 ∨ j = 7 := by omega
    rcases this with rfl | rfl | rfl | rfl | rfl | rfl | rfl | rfl <;> rfl
  rw [rOut_congr h, zF_congr h]
  exact search_tab _ _ _ _ _ _ _ _
/-- the text, as the reference finds it -/
theorem sixT_search (g : Nat → Nat) : sixT g = match rOut (zB g) 7 with
    | none => joinS (sixL g) ⟨#[58]⟩
    | some x => gapS (sixL g) x.1 x.2 := by
  rw [search_eq]
  unfold sixT
  split <;> rfl
/-- a group's numeral is "0" where the group is none, and only there -/
theorem hexS_zero (n : Nat) (h : n < 65536) : (hexS n = ⟨#[48]⟩) ↔ n = 0 := by
  constructor
  · intro e
    unfold hexS hexL at e
    by_cases h1 : n < 16
    · rw [if_pos h1] at e
      have : ∀ k, k < 16 → (⟨[dH k].toArray⟩ : ByteArray) = ⟨#[48]⟩ → k = 0 := by decide +kernel
      exact this n h1 e
    · rw [if_neg h1] at e
      have hl := congrArg (fun b : ByteArray => b.data.size) e
      split at hl
      · simp at hl
      · split at hl <;> simp at hl
  · rintro rfl
    decide +kernel
end Go.Proofs.YtcpafmndjcejjaaGreatDoor

namespace Go.Proofs.YtcpafmndjcejjaaGreatDoor
open Go.RowKit Go
set_option linter.unusedVariables false

theorem notZero_any (s : ByteArray) (w : World) : Calls Tryz.prog 55 #[.string s] w fun e w' => e = .returned (.bool (decide (s ≠ ⟨#[48]⟩))) ∧ w' = w := by
  by_cases h : s = ⟨#[48]⟩
  · have e : decide (s ≠ ⟨#[48]⟩) = false := decide_eq_false (fun h2 => h2 h)
    rw [e]
    subst h
    go_enter Tryz.func55, Tryz.ntmps55
    go_wp2
    go_ret
    exact ⟨rfl, rfl⟩
  · have e : decide (s ≠ ⟨#[48]⟩) = true := decide_eq_true h
    have h3 : ¬ s.toList = [48] := fun h2 => h (by
      rw [Lib.toList_data] at h2
      apply ByteArray.ext
      apply Array.toList_inj.1
      rw [h2])
    rw [e]
    go_enter Tryz.func55, Tryz.ntmps55
    go_wp2
    go_ret
    exact ⟨by first | rfl | simp [h3] | simp [h], rfl⟩
set_option maxRecDepth 100000 in
set_option maxHeartbeats 1000000 in
theorem indexFunc_any (g o c : Nat) (L : List ByteArray) (w : World) (hn : L.length ≤ 8) (hcells : ∀ (j : Nat) x, L[j]? = some x → w.cell? ⟨g, o + j, none⟩ = some (.string x)) :
    Calls Tryz.prog 89 #[.slice (some ⟨g, o, none⟩) L.length c, .func (.func 55) #[] #[]] w fun e w' => ∃ k : Int, e = .returned (.int .i64 k) ∧ (0 ≤ k ↔ ∃ x ∈ L, x ≠ ⟨#[48]⟩) ∧ w' = w := by
  have HC := Lib.hid hcells
  have HN := Lib.hid fun s wx => notZero_any s wx
  obtain ⟨n, hnn⟩ : ∃ n, L.length = n := ⟨_, rfl⟩
  have HL := Lib.hid hnn
  rw [hnn] at hn ⊢
  clear hcells hnn
  go_enter Tryz.func89, Tryz.ntmps89
  go_wp2_with fail
  go_loopw [5, 8] (fun s i wr => ∃ k : Nat, k ≤ n ∧ i = .int .i64 (k : Int) ∧ Hid (∀ j x, j < k → L[j]? = some x → x = ⟨#[48]⟩) ∧ wr = w) (fun _ i _ => n - (intOf i).toNat)
  case atStart => exact ⟨0, Nat.zero_le _, rfl, Lib.hid fun j x h => absurd h (Nat.not_lt_zero _), rfl⟩
  case round =>
    obtain ⟨k, hk, rfl, HZ, rfl⟩ := hrel
    by_cases hlt : k < n
    · obtain ⟨x, hx⟩ : ∃ x, L[k]? = some x := ⟨L[k]'(by rw [HL.out]; exact hlt), List.getElem?_eq_getElem _⟩
      have p := HC.out k x hx
      have HX := Lib.hid hx
      clear hx
      go_wp2_with fail
      refine (HN.out x _).mono ?_
      rintro e w' ⟨rfl, rfl⟩
      by_cases hxz : x = ⟨#[48]⟩
      · have e : decide (x ≠ ⟨#[48]⟩) = false := decide_eq_false (fun h2 => h2 hxz)
        have HZ2 : Hid (∀ j y, j < k + 1 → L[j]? = some y → y = ⟨#[48]⟩) := Lib.hid fun j y hj hy => by
          rcases Nat.lt_or_ge j k with h | h
          · exact HZ.out j y h hy
          · obtain rfl : j = k := by omega
            have h2 := HX.out.symm.trans hy
            injection h2 with h2
            rw [← h2]; exact hxz
        rw [e]
        clear hxz e HX p
        go_wp2_with fail
        exact ⟨⟨k + 1, by omega, by go_num, HZ2, by first | rfl | trivial⟩, by simp [intOf]; omega⟩
      · have e : decide (x ≠ ⟨#[48]⟩) = true := decide_eq_true hxz
        rw [e]
        have HM : Hid (∃ y ∈ L, y ≠ ⟨#[48]⟩) := Lib.hid ⟨x, List.mem_of_getElem? HX.out, hxz⟩
        clear hxz e HX p
        go_wp2_with fail
        go_ret
        exact ⟨(k : Int), rfl, ⟨fun _ => HM.out, fun _ => by omega⟩, rfl⟩
    · obtain rfl : k = n := by omega
      have HM : Hid (¬ ∃ y ∈ L, y ≠ ⟨#[48]⟩) := Lib.hid fun ⟨y, hy, hne⟩ => by
        obtain ⟨j, hj, hjy⟩ := List.getElem_of_mem hy
        exact hne (HZ.out j y (by rw [← HL.out]; exact hj) (by rw [List.getElem?_eq_getElem hj, hjy]))
      go_wp2_with fail
      go_ret
      exact ⟨-1, rfl, ⟨fun h => absurd h (by decide), fun h => absurd h HM.out⟩, rfl⟩
theorem containsFunc_any (g o n c : Nat) (L : List ByteArray) (z : Bool) (w : World) (hL : L.length = n) (hn : n ≤ 8) (hcells : ∀ (j : Nat) x, L[j]? = some x → w.cell? ⟨g, o + j, none⟩ = some (.string x)) (hz : z = true ↔ ∀ x ∈ L, x = ⟨#[48]⟩) :
    Calls Tryz.prog 54 #[.slice (some ⟨g, o, none⟩) n c, .func (.func 55) #[] #[]] w fun e w' => e = .returned (.bool (!z)) ∧ w' = w := by
  have H := Lib.hid (indexFunc_any g o c L w (by omega) hcells)
  rw [hL] at H
  have Hz := Lib.hid hz
  clear hz hcells hL
  go_enter Tryz.func54, Tryz.ntmps54
  go_wp2_with fail
  refine H.out.mono ?_
  rintro e w' ⟨k, rfl, hk, rfl⟩
  have hkz : z = true ↔ ¬ 0 ≤ k := by
    rw [Hz.out, hk]
    constructor
    · rintro h ⟨x, hx, hne⟩; exact hne (h x hx)
    · intro h x hx
      by_cases e : x = ⟨#[48]⟩
      · exact e
      · exact absurd ⟨x, hx, e⟩ h
  clear hk Hz H
  cases z
  · have h0 : 0 ≤ k := by
      rcases Int.lt_or_le k 0 with h | h
      · exact absurd (hkz.2 (by omega)) (by decide)
      · exact h
    clear hkz
    go_wp2_with fail
    go_ret
    exact ⟨rfl, rfl⟩
  · have h0 : ¬ 0 ≤ k := hkz.1 rfl
    clear hkz
    go_wp2_with fail
    go_ret
    have e : decide (0 ≤ k) = false := decide_eq_false (by omega)
    exact ⟨by rw [e]; rfl, rfl⟩
end Go.Proofs.YtcpafmndjcejjaaGreatDoor
