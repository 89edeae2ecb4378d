/-
  Twice the median, four times the spread: the program and the reference.
-/
import Derived.Test.YtaamonhhclffcaaSortI
namespace Go.Proofs.Ytaamonhhclffcaa
open Go.RowKit Go
set_option linter.unusedVariables false

/-- the numbers are of a size that nothing wraps -/
def Sized (zs : List Int) : Prop := ∀ z ∈ zs, -1099511627776000 ≤ z ∧ z ≤ 1099511627776000
def mid (zs : List Int) : Int := (sortI zs).getD ((zs.length - 1) / 2) 0 + (sortI zs).getD (zs.length / 2) 0

theorem mid_bd {zs : List Int} {a b : Int} (h : ∀ z ∈ zs, a ≤ z ∧ z ≤ b) (hn : 1 ≤ zs.length) : 2 * a ≤ mid zs ∧ mid zs ≤ 2 * b := by
  unfold mid
  have h1 := h _ (sortI_mem.1 (getD_mem (zs := sortI zs) (i := (zs.length - 1) / 2) (by rw [sortI_len]; omega)))
  have h2 := h _ (sortI_mem.1 (getD_mem (zs := sortI zs) (i := zs.length / 2) (by rw [sortI_len]; omega)))
  omega
theorem Sized.sort {zs : List Int} (h : Sized zs) : Sized (sortI zs) := fun z hz => h z (sortI_mem.1 hz)
theorem Sized.at {zs : List Int} (h : Sized zs) (i : Nat) : -1099511627776000 ≤ zs.getD i 0 ∧ zs.getD i 0 ≤ 1099511627776000 := by
  rcases Nat.lt_or_ge i zs.length with hi | hi
  · exact h _ (getD_mem hi)
  · rw [List.getD_eq_getElem?_getD, List.getElem?_eq_none hi]; simp

set_option maxRecDepth 100000 in
set_option maxHeartbeats 1000000 in
theorem middle_any (g o n c : Nat) (zs : List Int) (w : World) (h : RdInts w g o n zs) (hn : 1 ≤ n ∧ n ≤ 1000000) (hs : Sized zs) :
    Calls Try.prog 84 #[.slice (some ⟨g, o, none⟩) n c] w (Ret (.int .i64 (mid zs)) w) := by
  have hl := h.1
  have HS := Lib.hid hs.sort
  have H := Lib.hid h
  obtain ⟨M, hM⟩ : ∃ M, M = mid zs := ⟨_, rfl⟩
  rw [← hM]
  unfold mid at hM
  rw [hl] at hM
  have HM := Lib.hid hM
  clear h hs hM
  go_enter Try.func84, Try.ntmps84
  go_wp2_with fail
  refine (clone_ints g o n c zs w H.out hn.2).mono ?_
  rintro e w1 ⟨v, rfl, hO, hB⟩
  obtain ⟨g1, c1, cur, rfl, hb1, _, _, hc1, hm1⟩ := hO.slice (by omega)
  rw [hl] at hO hc1 ⊢
  have HB1 := Lib.hid hB
  have HO1 := Lib.hid hO
  clear hB hO
  go_wp2_with fail
  refine (sort_ints w.heap.size g1 n c1 zs w1 HO1.out hl hn HB1.out.size).mono ?_
  rintro e w2 ⟨rfl, hO, hB⟩
  have HB2 := Lib.hid (HB1.out.trans hB)
  have hys : (sortI zs).length = n := (sortI_len zs).trans hl
  generalize sortI zs = ys at *
  obtain ⟨g2, c2, cur2, hv, _, hg2, hR, _, _⟩ := hO.slice (by omega)
  obtain ⟨rfl, rfl⟩ : g1 = g2 ∧ c1 = c2 := by simp at hv; exact ⟨hv.1, hv.2.2⟩
  obtain ⟨_, hgl, hc⟩ := hR
  have e1 := hc ((n - 1) / 2) (by omega)
  have e2 := hc (n / 2) (by omega)
  have b1 := HS.out.at ((n - 1) / 2)
  have b2 := HS.out.at (n / 2)
  rw [Nat.zero_add] at e1 e2
  generalize ys.getD ((n - 1) / 2) 0 = y1 at *
  generalize ys.getD (n / 2) 0 = y2 at *
  have HH := Lib.hid (And.intro hg2 hv)
  clear hc hg2 hv hO hB HO1 hys hl HS
  have t1 : ((n : Int) - 1).tdiv 2 = (((n - 1) / 2 : Nat) : Int) := by rw [Int.tdiv_eq_ediv_of_nonneg (by omega)]; omega
  have t2 : (n : Int).tdiv 2 = ((n / 2 : Nat) : Int) := by rw [Int.tdiv_eq_ediv_of_nonneg (by omega)]; omega
  have k1 : (n - 1) / 2 < n := by omega
  have k2 : n / 2 < n := by omega
  have k3 : 1 ≤ n := hn.1
  generalize (n - 1) / 2 = i1 at *
  generalize n / 2 = i2 at *
  go_wp2_with fail
  go_quiet (fail)
  go_wp2
  go_ret
  exact ⟨ret_int HM.out.symm, below_drewN HB2.out _⟩

set_option maxRecDepth 100000 in
set_option maxHeartbeats 1000000 in
theorem twice_any (g o n c : Nat) (zs : List Int) (w : World) (h : RdInts w g o n zs) (hn : 1 ≤ n ∧ n ≤ 1000000) (hs : Sized zs) :
    Calls Try.prog 87 #[.slice (some ⟨g, o, none⟩) n c] w (Ret (.int .i64 (mid zs)) w) := by
  have hl := h.1
  have HS := Lib.hid hs.sort
  have H := Lib.hid h
  obtain ⟨M, hM⟩ : ∃ M, M = mid zs := ⟨_, rfl⟩
  rw [← hM]
  unfold mid at hM
  rw [hl] at hM
  have HM := Lib.hid hM
  clear h hs hM
  go_enter Try.func87, Try.ntmps87
  go_wp2_with fail
  refine (clone_ints g o n c zs w H.out hn.2).mono ?_
  rintro e w1 ⟨v, rfl, hO, hB⟩
  obtain ⟨g1, c1, cur, rfl, hb1, _, _, hc1, hm1⟩ := hO.slice (by omega)
  rw [hl] at hO hc1 ⊢
  have HB1 := Lib.hid hB
  have HO1 := Lib.hid hO
  clear hB hO
  go_wp2_with fail
  refine (sort_ints w.heap.size g1 n c1 zs w1 HO1.out hl hn HB1.out.size).mono ?_
  rintro e w2 ⟨rfl, hO, hB⟩
  have HB2 := Lib.hid (HB1.out.trans hB)
  have hys : (sortI zs).length = n := (sortI_len zs).trans hl
  generalize sortI zs = ys at *
  obtain ⟨g2, c2, cur2, hv, _, hg2, hR, _, _⟩ := hO.slice (by omega)
  obtain ⟨rfl, rfl⟩ : g1 = g2 ∧ c1 = c2 := by simp at hv; exact ⟨hv.1, hv.2.2⟩
  obtain ⟨_, hgl, hc⟩ := hR
  have Hc := Lib.hid hc
  have HH := Lib.hid (And.intro hg2 hv)
  have Hys := Lib.hid hys
  clear hc hg2 hv hO hB HO1 hl hys
  obtain ⟨hn1, hn2⟩ := hn
  have hmx : c1 ≤ 9223372036854775807 := by unfold maxLen at hm1; omega
  clear hm1
  go_wp2
  go_loopw [0] (fun s wr => ∃ (i m : Nat), s = .slice (some ⟨g1, i, none⟩) m (c1 - i) ∧ m + 2 * i = n ∧ 1 ≤ m ∧ wr = w2) (fun s _ => (match s with | .slice _ m _ => m | _ => 0 : Nat))
  case atStart => exact ⟨0, n, by simp, by omega, hn1, rfl⟩
  case round =>
    obtain ⟨i, m, rfl, hm, hm1, rfl⟩ := hrel
    by_cases hlt : 2 < m
    · go_wp2
      exact ⟨⟨i + 1, m - 1 - 1, by rw [show c1 - i - 1 = c1 - (i + 1) by omega], by omega, by omega, trivial⟩, (show m - 1 - 1 < m by omega)⟩
    · have hlt' : ¬ (2 : Int) < (m : Int) := by omega
      have e1 := Hc.out i (by have := Hys.out; omega)
      have e2 := Hc.out (i + (m - 1)) (by have := Hys.out; omega)
      have b1 := HS.out.at i
      have b2 := HS.out.at (i + (m - 1))
      have i1 : (n - 1) / 2 = i := by omega
      have i2 : n / 2 = i + (m - 1) := by omega
      rw [i1, i2] at HM
      rw [Nat.zero_add] at e1 e2
      have t1 : (m : Int) - 1 = ((m - 1 : Nat) : Int) := by omega
      generalize ys.getD i 0 = y1 at *
      generalize ys.getD (i + (m - 1)) 0 = y2 at *
      have k1 : m - 1 < m := by omega
      clear i1 i2 Hc HS
      generalize m - 1 = m' at *
      go_wp2_with fail
      go_quiet (fail)
      go_wp2
      go_ret
      exact ⟨ret_int HM.out.symm, below_drewN HB2.out _⟩
end Go.Proofs.Ytaamonhhclffcaa
