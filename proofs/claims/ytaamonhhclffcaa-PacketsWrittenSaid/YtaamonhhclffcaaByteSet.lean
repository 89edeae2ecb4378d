/-
  Bytes set in an own row; sums of rows that can be read.
-/
import Derived.Test.YtaamonhhclffcaaPktB
namespace Go.Proofs.Ytaamonhhclffcaa
open Go.RowKit Go
set_option linter.unusedVariables false

theorem OwnB.slice1 {w : World} {B : Nat} {v : Value} {L : List UInt8} (h : OwnB w B v L) (hl : 0 < L.length) : ∃ g c, v = .slice (some ⟨g, 0, none⟩) L.length c ∧ B ≤ g ∧ g < w.heap.size ∧ L.length ≤ c ∧ c ≤ maxLen := by
  rcases h.2 with ⟨rfl, h0⟩ | ⟨g, cap, cur, rfl, hb, hg, hc, hm, hs, ht⟩
  · omega
  · exact ⟨g, cap, rfl, hb, lt_of_block hg, hc, hm⟩
theorem OwnB.set {w : World} {B g c : Nat} {L : List UInt8} (h : OwnB w B (.slice (some ⟨g, 0, none⟩) L.length c) L) (i : Nat) (hi : i < L.length) (b : UInt8) :
    OwnB (w.setCell ⟨g, i, none⟩ (encB b)) B (.slice (some ⟨g, 0, none⟩) L.length c) (L.set i b) := by
  rcases h.2 with ⟨hv, _⟩ | ⟨g2, c2, cur, hv, hb, hg, hc, hm, hs, ht⟩
  · cases hv
  · simp at hv
    obtain ⟨rfl, rfl⟩ := hv
    refine ⟨by simp [encBs], .inr ⟨g, c, cur.setIfInBounds i (encB b), by simp, hb, heap_setCell_same w g i cur _ _ hg, by simpa using hc, hm, by simpa using hs, ?_⟩⟩
    rw [Array.toList_setIfInBounds, List.take_set, List.length_set, ht]
    simp [encBs, List.map_set]
theorem OwnB.frozen {w : World} {B g c n : Nat} {L : List UInt8} (h : OwnB w B (.slice (some ⟨g, 0, none⟩) n c) L) (i : Nat) : w.frozen? ⟨g, i, none⟩ = false := by
  rcases h.2 with ⟨hv, _⟩ | ⟨g2, c2, cur, hv, hb, hg, hc, hm, hs, ht⟩
  · cases hv
  · simp at hv
    obtain ⟨rfl, _⟩ := hv
    exact frozen_of_row w g i cur _ hg
theorem OwnB.get {w : World} {B g c : Nat} {L : List UInt8} (h : OwnB w B (.slice (some ⟨g, 0, none⟩) L.length c) L) (i : Nat) (hi : i < L.length) : w.cell? ⟨g, i, none⟩ = some (encB (L.getD i 0)) := by
  obtain ⟨ad, c2, e, hs, -⟩ := own_form h
  simp at e
  obtain ⟨rfl, rfl⟩ := e
  obtain ⟨a, e, _, hc⟩ := hs.2 i (encB (L.getD i 0)) (by simp [encBs, List.getD, hi])
  simp at e
  subst e
  have hadd : (⟨g, 0, none⟩ : Addr).add i = ⟨g, i, none⟩ := by unfold Addr.add; split <;> simp_all
  rwa [hadd] at hc
theorem OwnB.weak {w : World} {B B' : Nat} {v : Value} {L : List UInt8} (h : OwnB w B v L) (hB : B' ≤ B) : OwnB w B' v L := own_weak h hB
theorem sumN_int (bs : List UInt8) : (65535 - (foldSum (sumB bs true) : Int)) = ((sumN bs : Nat) : Int) := by
  have := foldSum_le (sumB bs true)
  unfold sumN
  omega
theorem sum_rb {B : Nat} {w : World} {v : Value} {L : List UInt8} (h : Rb B w v L) : Calls Try.prog 26 #[v] w fun e w' => e = .returned (.int .i64 ((sumN L : Nat) : Int)) ∧ w = w' := by
  obtain ⟨ad, c, rfl, h1, -⟩ := h
  rw [← sumN_int]
  exact sum_any ad c L w h1
theorem checkSum_rb {B : Nat} {w : World} {v : Value} {L : List UInt8} (h : Rb B w v L) : Calls Try.prog 27 #[v] w fun e w' => e = .returned (.int .i64 ((sumN L : Nat) : Int)) ∧ w = w' := by
  obtain ⟨ad, c, rfl, h1, -⟩ := h
  rw [← sumN_int]
  exact checkSumOf_any ad c L w h1
theorem b8_hi (n : Nat) : Value.int .u8 (IntKind.u8.wrap ((n : Int) / 256)) = encB (b8 (n / 256)) := by
  rw [show ((n : Int) / 256) = ((n / 256 : Nat) : Int) by omega]
  exact u8_nat _
end Go.Proofs.Ytaamonhhclffcaa
