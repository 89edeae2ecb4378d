/-
  filter.LeastPorts: the fault of a list, or its least list.
-/
import Derived.Test.YtaamonhhclffcaaLeastP
import Derived.Test.YtaamonhhclffcaaPortsF
namespace Go.Proofs.Ytaamonhhclffcaa
open Go.RowKit Go
set_option linter.unusedVariables false

def natL (L : List (Int × Int)) : List (Nat × Nat) := L.map fun p => (p.1.toNat, p.2.toNat)
theorem natL_len (L : List (Int × Int)) : (natL L).length = L.length := by simp [natL]
theorem badP_no {p : Int × Int} (h : badP p = false) : 0 ≤ p.1 ∧ p.1 ≤ p.2 ∧ p.2 ≤ 65535 := by
  unfold badP outB at h
  simp at h
  omega
theorem natL_good {L : List (Int × Int)} (h : ∀ j, j < L.length → badP (L.getD j (0, 0)) = false) : PI (natL L) = L ∧ ∀ p ∈ natL L, p.1 ≤ p.2 ∧ p.2 < 65536 := by
  have h' : ∀ p ∈ L, 0 ≤ p.1 ∧ p.1 ≤ p.2 ∧ p.2 ≤ 65535 := fun p hp => by
    obtain ⟨j, hj, rfl⟩ := List.getElem_of_mem hp
    have := h j hj
    simp [List.getD, List.getElem?_eq_getElem hj] at this
    exact badP_no this
  refine ⟨?_, fun p hp => ?_⟩
  · unfold PI natL
    rw [List.map_map]
    conv => rhs; rw [← List.map_id L]
    refine List.map_congr_left fun p hp => ?_
    have := h' p hp
    obtain ⟨a, b⟩ := p
    simp only [Function.comp_apply, id_eq, Prod.mk.injEq]
    simp only at this
    omega
  · obtain ⟨q, hq, rfl⟩ := List.mem_map.1 hp
    have := h' q hq
    simp only
    omega
theorem anyF_zero {L : List (Int × Int)} (h : anyF L = 0) : ∀ j, j < L.length → badP (L.getD j (0, 0)) = false := fun j hj => by
  cases hb : badP (L.getD j (0, 0)) with
  | false => rfl
  | true => have := anyF_hit hj hb; omega
theorem scan_short (M : List (Nat × Nat)) (hv : ∀ p ∈ M, p.1 ≤ p.2 ∧ p.2 < 65536) : (scan (inRow M) 65536).length ≤ M.length := by
  have hp := List.mergeSort_perm M (fun p q => decide (p.1 ≤ q.1))
  have hs : (M.mergeSort (fun p q => decide (p.1 ≤ q.1))).Pairwise (fun p q => p.1 ≤ q.1) := by
    have := List.pairwise_mergeSort (le := fun p q : Nat × Nat => decide (p.1 ≤ q.1)) (fun a b c h1 h2 => by simp at *; omega) (fun a b => by simp; omega) M
    exact this.imp fun h => by simpa using h
  rw [← least_eq (fun p => hp.mem_iff) hs hv]
  have := foldl_len (M.mergeSort (fun p q => decide (p.1 ≤ q.1))) []
  rw [hp.length_eq] at this
  simpa using this
def LeastRes (L : List (Int × Int)) (w : World) (e : Ending) (w' : World) : Prop :=
  Below w.heap.size w w' ∧ ((anyF L = 0 ∧ ∃ v, e = .returned (.tuple #[v, .int .i64 0]) ∧ OwnP w' w.heap.size v (PI (scan (inRow (natL L)) 65536))) ∨ (anyF L = 1 ∧ e = .returned (.tuple #[.slice none 0 0, .int .i64 1])))
set_option maxRecDepth 100000 in
set_option maxHeartbeats 1000000 in
theorem fleast_any (ad : Option Addr) (n c : Nat) (L : List (Int × Int)) (w : World) (h : RdP w ad L) (hn : L.length = n) : Calls Try.prog 35 #[.slice ad n c] w (LeastRes L w) := by
  have hs := h.small
  rw [hn] at hs
  have H0 := Lib.hid h
  have Hn := Lib.hid hn
  have hs2 : ¬ ((n : Int) > 1000) := by omega
  clear h hn
  go_enter Try.func35, Try.ntmps35
  go_wp2
  go_loopw [5, 6, 12] (fun bx ev i wr => ∃ (k : Nat), k ≤ n ∧ i = .int .i64 k ∧ Hid (∀ j, j < k → badP (L.getD j (0, 0)) = false) ∧ Hid (Below w.heap.size w wr)) (fun _ _ i _ => n - (intOf i).toNat)
  case atStart => exact ⟨0, Nat.zero_le _, rfl, Lib.hid fun j hj => absurd hj (Nat.not_lt_zero _), Lib.hid (Below.refl _ _)⟩
  case round =>
    obtain ⟨k, hk, rfl, HX, HB⟩ := hrel
    by_cases hlt : k < n
    · obtain ⟨g, o, had, hg, c0, c1⟩ := (H0.out.below HB.out).cell k (by rw [Hn.out]; exact hlt)
      subst had
      have hkl : k < L.length := by rw [Hn.out]; exact hlt
      have Hkl := Lib.hid hkl
      clear hkl
      obtain ⟨p, hp⟩ : ∃ p, L.getD k (0, 0) = p := ⟨_, rfl⟩
      rw [hp] at c0 c1
      have Hp := Lib.hid hp
      clear hp
      obtain ⟨f, t⟩ := p
      simp only at c0 c1
      cases hb : badP (f, t)
      · have hz : portF (f, t) = 0 := by unfold portF; rw [hb]; rfl
        have hpf := fun wx => portsFault_any f t wx
        rw [hz] at hpf
        have Hpf := Lib.hid hpf
        have Hb := Lib.hid hb
        clear hz hpf hb
        go_wp2_with fail
        refine (Hpf.out _).mono ?_
        rintro e w' ⟨rfl, hb'⟩
        have HB' : Hid (Below w.heap.size w w') := Lib.hid ((below_alloc HB.out _).trans (hb'.mono (by have := HB.out.size; simp; omega)))
        clear hb' c0 c1
        go_wp2_with fail
        refine ⟨⟨k + 1, by omega, by go_num, Lib.hid fun j hj => ?_, HB'⟩, by simp [intOf]; omega⟩
        rcases Nat.lt_or_ge j k with h | h
        · exact HX.out j h
        · obtain rfl : j = k := by omega
          rw [Hp.out]; exact Hb.out
      · have hz : portF (f, t) = 1 := by unfold portF; rw [hb]; rfl
        have hpf := fun wx => portsFault_any f t wx
        rw [hz] at hpf
        have Hpf := Lib.hid hpf
        have Hb : Hid (anyF L = 1) := Lib.hid (anyF_hit Hkl.out (by rw [Hp.out]; exact hb))
        clear hz hpf hb
        go_wp2_with fail
        refine (Hpf.out _).mono ?_
        rintro e w' ⟨rfl, hb'⟩
        have HB' : Hid (Below w.heap.size w w') := Lib.hid ((below_alloc HB.out _).trans (hb'.mono (by have := HB.out.size; simp; omega)))
        clear hb' c0 c1
        go_wp2_with fail
        go_ret2
        exact ⟨HB'.out, .inr ⟨Hb.out, rfl⟩⟩
    · obtain rfl : k = n := by omega
      have ha : anyF L = 0 := anyF_none fun j hj => HX.out j (by rw [← Hn.out]; exact hj)
      obtain ⟨hL, hv⟩ := natL_good (anyF_zero ha)
      have HR : Hid (RdP wr ad (PI (natL L))) := Lib.hid (by rw [hL]; exact H0.out.below HB.out)
      have Ha := Lib.hid ha
      have Hv := Lib.hid hv
      have HN : Hid ((natL L).length = k) := Lib.hid ((natL_len L).trans Hn.out)
      clear ha hL hv
      go_wp2_with fail
      refine (vleast_any ad k c (natL L) _ HR.out HN.out Hv.out).mono ?_
      rintro e w' ⟨v, rfl, hO, hb⟩
      have HO : Hid (OwnP w' w.heap.size v (PI (scan (inRow (natL L)) 65536))) := Lib.hid (hO.weak HB.out.size)
      have HB' : Hid (Below w.heap.size w w') := Lib.hid (HB.out.trans (hb.mono HB.out.size))
      clear hO hb
      go_wp2_with fail
      go_ret2
      exact ⟨HB'.out, .inl ⟨Ha.out, v, rfl, HO.out⟩⟩
end Go.Proofs.Ytaamonhhclffcaa
