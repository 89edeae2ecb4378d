/-
  The error of Median and Spread: the program's and the reference's.
-/
import Derived.Test.YtaamonhhclffcaaSpread
namespace Go.Proofs.Ytaamonhhclffcaa
open Go.RowKit Go
set_option linter.unusedVariables false

def badN (z : Int) : Bool := outB z 0 2000000000000
/-- the error of numbers, not more than 3000 -/
def nFault (zs : List Int) : Int := if zs.length = 0 then 8 else if zs.any badN = true then 1 else 0
theorem nFault_small {zs : List Int} (h : nFault zs = 0) : Small zs ∧ 1 ≤ zs.length := by
  unfold nFault at h
  split at h
  · cases h
  · split at h
    · cases h
    · rename_i h1 h2
      refine ⟨fun z hz => ?_, by omega⟩
      have : badN z = false := by
        cases hb : badN z
        · rfl
        · exact absurd (List.any_eq_true.2 ⟨z, hz, hb⟩) h2
      simp [badN, outB] at this
      omega

set_option maxRecDepth 100000 in
set_option maxHeartbeats 1000000 in
theorem bad_any (z : Int) (w : World) : Calls Try.prog 110 #[.int .i64 z] w fun e w' => e = .returned (.bool (badN z)) ∧ w' = w := by
  unfold badN
  go_enter Try.func110, Try.ntmps110
  go_wp2_with (go_at_call 55; refine (outside_any _ _ _ _).mono ?_; rintro e w' ⟨rfl, rfl⟩)
  go_ret
  exact ⟨rfl, rfl⟩

set_option maxRecDepth 100000 in
set_option maxHeartbeats 1000000 in
theorem index_bad (g o n c : Nat) (zs : List Int) (w : World) (h : RdInts w g o n zs) (hn : n ≤ 1000000) :
    Calls Try.prog 118 #[.slice (some ⟨g, o, none⟩) n c, .func (.func 110) #[] #[]] w fun e w' => ∃ k : Int, e = .returned (.int .i64 k) ∧ decide (0 ≤ k) = zs.any badN ∧ w' = w := by
  obtain ⟨hl, hg, hc⟩ := h
  have Hc := Lib.hid hc
  have Hl := Lib.hid hl
  clear hc hl
  go_enter Try.func118, Try.ntmps118
  go_wp2
  go_loopw [8] (fun i wr => ∃ (k : Nat), k ≤ n ∧ i = .int .i64 k ∧ Hid (∀ j, j < k → badN (zs.getD j 0) = false) ∧ wr = w) (fun i _ => n - (intOf i).toNat)
  case atStart => exact ⟨0, Nat.zero_le _, rfl, Lib.hid fun j hj => absurd hj (Nat.not_lt_zero _), rfl⟩
  case round =>
    obtain ⟨k, hk, rfl, HX, rfl⟩ := hrel
    by_cases hlt : k < n
    · have ck := Hc.out k hlt
      have Hmem := Lib.hid (getD_mem (zs := zs) (i := k) (by have := Hl.out; omega))
      obtain ⟨z, hz⟩ : ∃ z, z = zs.getD k 0 := ⟨_, rfl⟩
      rw [← hz] at ck Hmem
      have Hz := Lib.hid hz
      clear hz
      cases hb : badN z with
      | true =>
        have Hb := Lib.hid hb
        clear hb
        go_wp2_with fail
        refine (bad_any _ _).mono ?_
        rintro e w' ⟨rfl, rfl⟩
        rw [Hb.out]
        go_wp2_with fail
        go_ret
        refine ⟨k, rfl, ?_, rfl⟩
        rw [List.any_eq_true.2 ⟨z, Hmem.out, Hb.out⟩]
        simp
      | false =>
        have Hb := Lib.hid hb
        clear hb
        go_wp2_with fail
        refine (bad_any _ _).mono ?_
        rintro e w' ⟨rfl, rfl⟩
        rw [Hb.out]
        go_wp2_with fail
        refine ⟨⟨k + 1, by omega, by go_num, Lib.hid fun j hj => ?_, by first | rfl | trivial⟩, by simp [intOf]; omega⟩
        rcases Nat.lt_or_ge j k with h | h
        · exact HX.out j h
        · obtain rfl : j = k := by omega
          rw [← Hz.out]; exact Hb.out
    · obtain rfl : k = n := by omega
      go_wp2
      go_ret
      refine ⟨-1, rfl, ?_, rfl⟩
      have : zs.any badN = false := by
        rw [Bool.eq_false_iff]
        intro hh
        obtain ⟨z, hz, hb⟩ := List.any_eq_true.1 hh
        obtain ⟨j, hj, rfl⟩ := List.getElem_of_mem hz
        have := HX.out j (by have := Hl.out; omega)
        rw [List.getD_eq_getElem?_getD, List.getElem?_eq_getElem hj] at this
        simp at this
        rw [this] at hb
        cases hb
      rw [this]
      rfl

set_option maxRecDepth 100000 in
set_option maxHeartbeats 1000000 in
theorem contains_bad (g o n c : Nat) (zs : List Int) (w : World) (h : RdInts w g o n zs) (hn : n ≤ 1000000) :
    Calls Try.prog 109 #[.slice (some ⟨g, o, none⟩) n c, .func (.func 110) #[] #[]] w fun e w' => e = .returned (.bool (zs.any badN)) ∧ w' = w := by
  have Hi := Lib.hid (index_bad g o n c zs w h hn)
  generalize zs.any badN = b at *
  clear h
  go_enter Try.func109, Try.ntmps109
  go_wp2_with fail
  refine Hi.out.mono ?_
  rintro e w' ⟨k, rfl, hk, rfl⟩
  subst hk
  go_wp2
  go_ret
  exact ⟨rfl, rfl⟩

set_option maxRecDepth 100000 in
set_option maxHeartbeats 1000000 in
theorem numbersFault_none (ad : Option Addr) (c : Nat) (w : World) :
    Calls Try.prog 82 #[.slice ad 0 c] w fun e w' => e = .returned (.int .i64 8) ∧ w' = w := by
  go_enter Try.func82, Try.ntmps82
  go_wp2
  go_ret
  exact ⟨rfl, rfl⟩
set_option maxRecDepth 100000 in
set_option maxHeartbeats 1000000 in
theorem numbersFault_any (g o n c : Nat) (zs : List Int) (w : World) (h : RdInts w g o n zs) (hn : 1 ≤ n ∧ n ≤ 3000) :
    Calls Try.prog 82 #[.slice (some ⟨g, o, none⟩) n c] w fun e w' => e = .returned (.int .i64 (nFault zs)) ∧ w' = w := by
  have hf : nFault zs = if zs.any badN = true then 1 else 0 := by unfold nFault; rw [if_neg (by have := h.1; omega)]
  rw [hf]
  have Hi := Lib.hid (contains_bad g o n c zs w h (by omega))
  have h0 : ¬ (n : Int) = 0 := by omega
  have h1 : ¬ 3000 < (n : Int) := by omega
  clear h hf
  generalize zs.any badN = b at *
  cases b
  all_goals
    go_enter Try.func82, Try.ntmps82
    go_wp2_with fail
    refine Hi.out.mono ?_
    rintro e w' ⟨rfl, rfl⟩
    go_wp2_with fail
    go_ret
    exact ⟨rfl, rfl⟩

set_option maxRecDepth 100000 in
set_option maxHeartbeats 1000000 in
theorem qNumbersFault_none (ad : Option Addr) (c : Nat) (w : World) :
    Calls Try.prog 44 #[.slice ad 0 c] w fun e w' => e = .returned (.int .i64 8) ∧ w' = w := by
  go_enter Try.func44, Try.ntmps44
  go_wp2
  go_ret
  exact ⟨rfl, rfl⟩
set_option maxRecDepth 100000 in
set_option maxHeartbeats 1000000 in
theorem qNumbersFault_any (g o n c : Nat) (zs : List Int) (w : World) (h : RdInts w g o n zs) (hn : 1 ≤ n ∧ n ≤ 3000) :
    Calls Try.prog 44 #[.slice (some ⟨g, o, none⟩) n c] w fun e w' => e = .returned (.int .i64 (nFault zs)) ∧ w' = w := by
  have hf : nFault zs = if zs.any badN = true then 1 else 0 := by unfold nFault; rw [if_neg (by have := h.1; omega)]
  rw [hf]
  have hbad : ∀ z, z ∈ zs → (z < 0 ∨ 2000000000000 < z) → zs.any badN = true := fun z hz hh => List.any_eq_true.2 ⟨z, hz, by simp [badN, outB]; omega⟩
  have hgood : (∀ z ∈ zs, 0 ≤ z) → (∀ z ∈ zs, z ≤ 2000000000000) → zs.any badN = false := fun h1 h2 => by
    rw [Bool.eq_false_iff]
    intro hh
    obtain ⟨z, hz, hb⟩ := List.any_eq_true.1 hh
    have := h1 z hz
    have := h2 z hz
    simp [badN, outB] at hb
    omega
  have HBad := Lib.hid hbad
  have HGood := Lib.hid hgood
  generalize zs.any badN = b at *
  have H := Lib.hid h
  have h0 : ¬ (n : Int) = 0 := by omega
  have h1 : ¬ 3000 < (n : Int) := by omega
  clear h hf hbad hgood
  go_enter Try.func44, Try.ntmps44
  go_wp2_with fail
  refine (min_ints g o n c zs w H.out (by omega)).mono ?_
  rintro e w' ⟨x, rfl, hx, hmin, rfl⟩
  have Hx := Lib.hid (And.intro hx hmin)
  clear hx hmin
  by_cases hx0 : x < 0
  · have hb := HBad.out x Hx.out.1 (.inl hx0)
    subst hb
    go_wp2_with fail
    go_ret
    exact ⟨rfl, rfl⟩
  · go_wp2_with fail
    refine (max_ints g o n c zs w' H.out (by omega)).mono ?_
    rintro e w1 ⟨y, rfl, hy, hmax, rfl⟩
    have Hy := Lib.hid (And.intro hy hmax)
    clear hy hmax
    by_cases hy0 : 2000000000000 < y
    · have hb := HBad.out y Hy.out.1 (.inr hy0)
      subst hb
      go_wp2_with fail
      go_ret
      exact ⟨rfl, rfl⟩
    · have hb := HGood.out (fun z hz => by have := Hx.out.2 z hz; omega) (fun z hz => by have := Hy.out.2 z hz; omega)
      subst hb
      go_wp2_with fail
      go_ret
      exact ⟨rfl, rfl⟩
end Go.Proofs.Ytaamonhhclffcaa
