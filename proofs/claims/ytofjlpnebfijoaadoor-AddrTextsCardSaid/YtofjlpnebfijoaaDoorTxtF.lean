/-
  The closure of AddrText; slices.IndexFunc, ContainsFunc at a piece of a row of strings.
-/
import Derived.Test.YtofjlpnebfijoaaDoorTxtP
namespace Go.Proofs.YtofjlpnebfijoaaDoor
open Go.RowKit Go
set_option linter.unusedVariables false

theorem notZero_any (s : ByteArray) (w : World) : Calls Tryd.prog 23 #[.string s] w fun e w' => e = .returned (.bool (decide (s ≠ ⟨#[48]⟩))) ∧ w' = w := by
  by_cases h : s = ⟨#[48]⟩
  · have e : decide (s ≠ ⟨#[48]⟩) = false := decide_eq_false (fun h2 => h2 h)
    rw [e]
    subst h
    go_enter Tryd.func23, Tryd.ntmps23
    go_wp2
    go_ret
    exact ⟨rfl, rfl⟩
  · have e : decide (s ≠ ⟨#[48]⟩) = true := decide_eq_true h
    have h3 : ¬ s.toList = [48] := fun h2 => h (by
      rw [Lib.toList_data] at h2
      apply ByteArray.ext
      apply Array.toList_inj.1
      rw [h2])
    rw [e]
    go_enter Tryd.func23, Tryd.ntmps23
    go_wp2
    go_ret
    exact ⟨by first | rfl | simp [h3] | simp [h], rfl⟩
set_option maxRecDepth 100000 in
set_option maxHeartbeats 1000000 in
theorem indexFunc_any (g o c : Nat) (L : List ByteArray) (w : World) (hn : L.length ≤ 8) (hcells : ∀ (j : Nat) x, L[j]? = some x → w.cell? ⟨g, o + j, none⟩ = some (.string x)) :
    Calls Tryd.prog 36 #[.slice (some ⟨g, o, none⟩) L.length c, .func (.func 23) #[] #[]] w fun e w' => ∃ k : Int, e = .returned (.int .i64 k) ∧ (0 ≤ k ↔ ∃ x ∈ L, x ≠ ⟨#[48]⟩) ∧ w' = w := by
  have HC := Lib.hid hcells
  have HN := Lib.hid fun s wx => notZero_any s wx
  obtain ⟨n, hnn⟩ : ∃ n, L.length = n := ⟨_, rfl⟩
  have HL := Lib.hid hnn
  rw [hnn] at hn ⊢
  clear hcells hnn
  go_enter Tryd.func36, Tryd.ntmps36
  go_wp2_with fail
  go_loopw [5, 8] (fun s i wr => ∃ k : Nat, k ≤ n ∧ i = .int .i64 (k : Int) ∧ Hid (∀ j x, j < k → L[j]? = some x → x = ⟨#[48]⟩) ∧ wr = w) (fun _ i _ => n - (intOf i).toNat)
  case atStart => exact ⟨0, Nat.zero_le _, rfl, Lib.hid fun j x h => absurd h (Nat.not_lt_zero _), rfl⟩
  case round =>
    obtain ⟨k, hk, rfl, HZ, rfl⟩ := hrel
    by_cases hlt : k < n
    · obtain ⟨x, hx⟩ : ∃ x, L[k]? = some x := ⟨L[k]'(by rw [HL.out]; exact hlt), List.getElem?_eq_getElem _⟩
      have p := HC.out k x hx
      have HX := Lib.hid hx
      clear hx
      go_wp2_with fail
      refine (HN.out x _).mono ?_
      rintro e w' ⟨rfl, rfl⟩
      by_cases hxz : x = ⟨#[48]⟩
      · have e : decide (x ≠ ⟨#[48]⟩) = false := decide_eq_false (fun h2 => h2 hxz)
        have HZ2 : Hid (∀ j y, j < k + 1 → L[j]? = some y → y = ⟨#[48]⟩) := Lib.hid fun j y hj hy => by
          rcases Nat.lt_or_ge j k with h | h
          · exact HZ.out j y h hy
          · obtain rfl : j = k := by omega
            have h2 := HX.out.symm.trans hy
            injection h2 with h2
            rw [← h2]; exact hxz
        rw [e]
        clear hxz e HX p
        go_wp2_with fail
        exact ⟨⟨k + 1, by omega, by go_num, HZ2, by first | rfl | trivial⟩, by simp [intOf]; omega⟩
      · have e : decide (x ≠ ⟨#[48]⟩) = true := decide_eq_true hxz
        rw [e]
        have HM : Hid (∃ y ∈ L, y ≠ ⟨#[48]⟩) := Lib.hid ⟨x, List.mem_of_getElem? HX.out, hxz⟩
        clear hxz e HX p
        go_wp2_with fail
        go_ret
        exact ⟨(k : Int), rfl, ⟨fun _ => HM.out, fun _ => by omega⟩, rfl⟩
    · obtain rfl : k = n := by omega
      have HM : Hid (¬ ∃ y ∈ L, y ≠ ⟨#[48]⟩) := Lib.hid fun ⟨y, hy, hne⟩ => by
        obtain ⟨j, hj, hjy⟩ := List.getElem_of_mem hy
        exact hne (HZ.out j y (by rw [← HL.out]; exact hj) (by rw [List.getElem?_eq_getElem hj, hjy]))
      go_wp2_with fail
      go_ret
      exact ⟨-1, rfl, ⟨fun h => absurd h (by decide), fun h => absurd h HM.out⟩, rfl⟩
theorem containsFunc_any (g o n c : Nat) (L : List ByteArray) (z : Bool) (w : World) (hL : L.length = n) (hn : n ≤ 8) (hcells : ∀ (j : Nat) x, L[j]? = some x → w.cell? ⟨g, o + j, none⟩ = some (.string x)) (hz : z = true ↔ ∀ x ∈ L, x = ⟨#[48]⟩) :
    Calls Tryd.prog 22 #[.slice (some ⟨g, o, none⟩) n c, .func (.func 23) #[] #[]] w fun e w' => e = .returned (.bool (!z)) ∧ w' = w := by
  have H := Lib.hid (indexFunc_any g o c L w (by omega) hcells)
  rw [hL] at H
  have Hz := Lib.hid hz
  clear hz hcells hL
  go_enter Tryd.func22, Tryd.ntmps22
  go_wp2_with fail
  refine H.out.mono ?_
  rintro e w' ⟨k, rfl, hk, rfl⟩
  have hkz : z = true ↔ ¬ 0 ≤ k := by
    rw [Hz.out, hk]
    constructor
    · rintro h ⟨x, hx, hne⟩; exact hne (h x hx)
    · intro h x hx
      by_cases e : x = ⟨#[48]⟩
      · exact e
      · exact absurd ⟨x, hx, e⟩ h
  clear hk Hz H
  cases z
  · have h0 : 0 ≤ k := by
      rcases Int.lt_or_le k 0 with h | h
      · exact absurd (hkz.2 (by omega)) (by decide)
      · exact h
    clear hkz
    go_wp2_with fail
    go_ret
    exact ⟨rfl, rfl⟩
  · have h0 : ¬ 0 ≤ k := hkz.1 rfl
    clear hkz
    go_wp2_with fail
    go_ret
    have e : decide (0 ≤ k) = false := decide_eq_false (by omega)
    exact ⟨by rw [e]; rfl, rfl⟩
end Go.Proofs.YtofjlpnebfijoaaDoor
