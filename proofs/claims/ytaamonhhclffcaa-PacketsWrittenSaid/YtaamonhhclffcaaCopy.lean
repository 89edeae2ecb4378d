/-
  copy of two bytes into an own row.
-/
import Derived.Test.YtaamonhhclffcaaByteSet
import Derived.Laws.CopyOwn
namespace Go.Proofs.Ytaamonhhclffcaa
open Go.RowKit Go
set_option linter.unusedVariables false

theorem wpList_copy2 {w : World} {ops : Array Oper} {rest : List Oper} {o : Oper} {a : Act} {Q : Exit → Act → World → Prop} (hgd : o.guard = none) (d s : Operand)
    (ho : o.op = .call { callee := .builtin .copy, args := #[d, s], argTypes := #[43, 43] }) {B B' g c i k m dc : Nat} {sv : Value} {L : List UInt8} (hO : OwnB w B (.slice (some ⟨g, 0, none⟩) L.length c) L) (hd : a.eval d = .slice (some ⟨g, i, none⟩) m dc) (hm : 2 ≤ m) (hk : k ≤ 65535)
    (hs : a.eval s = sv) (hR : Rb B' w sv (be k 2)) (hi : i + 2 ≤ L.length)
    (h : ∀ w', OwnB w' B (.slice (some ⟨g, 0, none⟩) L.length c) (setSum L i k) → Below B w w' → (∀ j, j ≠ g → w'.heap[j]? = w.heap[j]?) → w'.heap.size = w.heap.size → wpList Try.prog ops Q rest (a.put o.dst (goInt 2)) w') : wpList Try.prog ops Q (o :: rest) a w := by
  obtain ⟨ad, sc, rfl, -, hsrc, -⟩ := hR
  have hlen : (encBs (be k 2)).length = 2 := by simp [encBs, be_len]
  obtain ⟨ad', rfl⟩ : ∃ ad', ad = some ad' := by
    obtain ⟨x, hx⟩ : ∃ x, (encBs (be k 2))[0]? = some x := ⟨_, List.getElem?_eq_getElem (by omega)⟩
    obtain ⟨a', e, _⟩ := hsrc.2 0 x hx
    exact ⟨a', e⟩
  rcases hO.2 with ⟨hv, _⟩ | ⟨g2, c2, cur, hv, hb, hg, hc, hmx, hsz, ht⟩
  · cases hv
  · simp at hv
    obtain ⟨rfl, rfl⟩ := hv
    have hcl : L.length ≤ cur.size := by omega
    refine wpList_copy_own hgd d s _ _ ho 5 Try.underlying43 (by kernel_rfl) g i m dc ad' _ sc hd hs cur 5 hg (encBs (be k 2)) (by rw [hlen, be_len]; exact (Nat.min_eq_left hm).symm) ?_ (by rw [hlen]; omega) (encBs_one _) ?_
    · intro j v hj
      obtain ⟨a', e, _, hcc⟩ := hsrc.2 j v hj
      injection e with e
      subst e
      exact hcc
    · rw [hlen]
      refine h _ ?_ ?_ (fun j hj => setRow_other w g j _ hj) (setRow_size _ _ _)
      · refine ⟨by simp [encBs], .inr ⟨g, c, _, by rw [setSum_len], hb, setRow_heap w g _ _ _ _ hg, by rw [setSum_len]; exact hc, hmx, ?_, ?_⟩⟩
        · simp [hlen]; omega
        · rw [setSum_len, Nat.mul_one, ← setSum_splice L i k hi hk]
          have htc : cur.toList.take L.length = encBs L := by simpa using ht
          have h1 : cur.toList.take i = (encBs L).take i := by rw [← htc, List.take_take, Nat.min_eq_left (by omega)]
          have h2 : (cur.toList.drop (i + 2)).take (L.length - (i + 2)) = (encBs L).drop (i + 2) := by rw [← htc, List.drop_take]
          simp only [List.take_append, h1]
          have e1 : ((encBs L).take i).length = i := by simp [encBs]; omega
          have e0 : ((encBs L).take i).take L.length = (encBs L).take i := List.take_of_length_le (by rw [e1]; omega)
          rw [e0, e1, hlen]
          have e2 : (encBs (be k 2)).take (L.length - i) = encBs (be k 2) := List.take_of_length_le (by rw [hlen]; omega)
          rw [e2, show L.length - i - 2 = L.length - (i + 2) by omega, h2]
          simp [encBs]
      · exact (Below.refl B w).trans ⟨rfl, rfl, rfl, by rw [setRow_size]; exact Nat.le_refl _, fun j hj => setRow_other w g j _ (by omega)⟩
theorem OwnB.later {w w' : World} {B B' : Nat} {v : Value} {L : List UInt8} (h : OwnB w B v L) (hb : Below B' w w') (hB : w.heap.size ≤ B') : OwnB w' B v L := own_below h hb fun k hk => Nat.lt_of_lt_of_le (own_lt h k hk) hB
end Go.Proofs.Ytaamonhhclffcaa
