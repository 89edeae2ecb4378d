/-
  Plain law: the text of a set, written and read line by line.
-/
import Derived.Test.YtcpafmndjcejjaaGreatDoorSE40
import Derived.Test.YtcpafmndjcejjaaGreatDoorSE11
import Derived.Test.YtcpafmndjcejjaaGreatDoorSE13
import Derived.Test.YtcpafmndjcejjaaGreatDoorSE26
set_option linter.unusedVariables false
namespace Go.Proofs.YtcpafmndjcejjaaGreatDoor
open Go.RowKit Go Go.Sort
set_option linter.unusedVariables false

/-- the text of a set -/
def pfBy (p : Pf) : ByteArray := pfxT p.1 p.2.1 p.2.2.1 p.2.2.2.toNat
def setT (L : List Pf) : List UInt8 := L.flatMap fun p => (pfBy p).data.toList ++ [10]
theorem setT_take {L : List Pf} {k : Nat} {p : Pf} (h : L[k]? = some p) : setT (L.take (k + 1)) = setT (L.take k) ++ ((pfBy p).data.toList ++ [10]) := by
  unfold setT
  rw [List.take_add_one, h, List.flatMap_append]
  simp
theorem setT_len {L : List Pf} (h : ∀ p ∈ L, OkPf p) : (setT L).length ≤ 805 * L.length := by
  induction L with
  | nil => exact Nat.le_refl _
  | cons p L ih =>
    have h1 := ih fun q hq => h q (List.mem_cons_of_mem _ hq)
    have h2 := pfxT_size (six := p.1) (hi := p.2.1) (lo := p.2.2.1) (n := p.2.2.2.toNat) (by
      have h3 := (h p (List.mem_cons_self ..)).bits
      have h4 : LN (nuP p) ≤ 128 := by rw [LN_six]; exact lenN_le _
      omega)
    unfold setT at h1 ⊢
    rw [List.flatMap_cons, List.length_append, List.length_append, List.length_cons, List.length_cons, List.length_nil]
    have h5 : (pfBy p).data.toList.length = (pfBy p).size := by rw [Array.length_toList]; rfl
    rw [h5]
    have h6 : (pfBy p).size ≤ 804 := h2
    omega
/-- a line, read -/
def pP (s : List UInt8) : Option Pf := match parsePF s with
  | some (x, h, l, n) => some (x, h, l, (n : Int))
  | none => none
/-- lines, read: the number of the first that is none, or all -/
def rdS : Nat → List (List UInt8) → List Pf → Sum Nat (List Pf)
  | _, [], acc => .inr acc
  | i, [l], acc => if l = [] then .inr acc else .inl i
  | i, l :: l2 :: ls, acc => match pP l with
    | some p => rdS (i + 1) (l2 :: ls) (acc ++ [p])
    | none => .inl i
theorem rdS_last (i : Nat) (acc : List Pf) : rdS i [[]] acc = .inr acc := by rw [rdS, if_pos rfl]
theorem rdS_open {i : Nat} {l : List UInt8} {acc : List Pf} (h : l ≠ []) : rdS i [l] acc = .inl i := by rw [rdS, if_neg h]
theorem rdS_bad {i : Nat} {l : List UInt8} {ls : List (List UInt8)} {acc : List Pf} (h : ls ≠ []) (hp : pP l = none) : rdS i (l :: ls) acc = .inl i := by
  cases ls with
  | nil => exact absurd rfl h
  | cons a ls => rw [rdS, hp]
theorem rdS_good {i : Nat} {l : List UInt8} {ls : List (List UInt8)} {acc : List Pf} {p : Pf} (h : ls ≠ []) (hp : pP l = some p) : rdS i (l :: ls) acc = rdS (i + 1) ls (acc ++ [p]) := by
  cases ls with
  | nil => exact absurd rfl h
  | cons a ls => rw [rdS, hp]
theorem pP_u {s : List UInt8} {p : Pf} (hs : s.length ≤ 1000000) (h : pP s = some p) : U64N p.2.1 ∧ U64N p.2.2.1 := by
  unfold pP at h
  cases hq : parsePF s with
  | none => rw [hq] at h; cases h
  | some a =>
    obtain ⟨x, y, z, n⟩ := a
    rw [hq] at h
    have h : some (x, y, z, (n : Int)) = some p := h
    injection h with h
    subst h
    unfold parsePF at hq
    cases hf : parseF (Lib.cut s [47]).1 with
    | none => rw [hf] at hq; cases hq
    | some b =>
      obtain ⟨x2, y2, z2⟩ := b
      have h3 := parseF_ok (Nat.le_trans (cut_le s [47]).1 hs) hf
      rw [hf] at hq
      simp only at hq
      split at hq
      · split at hq
        · injection hq with hq
          injection hq with e1 hq
          injection hq with e2 hq
          injection hq with e3 e4
          subst e1 e2 e3 e4
          exact ⟨h3.1, h3.2.1⟩
        · cases hq
      · cases hq
/-- a string cut at its first line's end -/
theorem cut_spl (s : List UInt8) (c : UInt8) : (c ∉ s ∧ Lib.cut s [c] = (s, [], false) ∧ spl c s = [s]) ∨ (∃ l r, s = l ++ c :: r ∧ Lib.cut s [c] = (l, r, true) ∧ spl c s = l :: spl c r) := by
  unfold Lib.cut
  rcases Lib.index_spec s [c] with ⟨h1, h2⟩ | ⟨i, h1, h2, h3, h4⟩
  · left
    have hm : c ∉ s := fun hc => by
      obtain ⟨j, hj, e⟩ := List.getElem_of_mem hc
      have h5 := h2 j (Nat.le_of_lt hj)
      unfold Lib.occAt at h5
      rw [List.drop_eq_getElem_cons hj, e] at h5
      simp [List.isPrefixOf] at h5
    refine ⟨hm, by rw [h1]; rfl, spl_none (by simpa using hm)⟩
  · right
    unfold Lib.occAt at h3
    obtain ⟨t, ht⟩ := List.isPrefixOf_iff_prefix.1 h3
    have h7 : c :: t = s.drop i := ht
    have h6 : s.drop (i + [c].length) = t := by
      rw [← List.drop_drop, ← h7]; rfl
    have hs : s = s.take i ++ c :: t := by rw [h7, List.take_append_drop]
    have hn : c ∉ s.take i := fun hc => by
      obtain ⟨j, hj, e⟩ := List.getElem_of_mem hc
      have hjl : j < i ∧ j < s.length := by rw [List.length_take] at hj; omega
      have h5 := h4 j hjl.1
      unfold Lib.occAt at h5
      rw [List.getElem_take] at e
      rw [List.drop_eq_getElem_cons hjl.2, e] at h5
      simp [List.isPrefixOf] at h5
    refine ⟨s.take i, t, hs, by rw [h1, if_pos (by omega)]; show (s.take ((i : Int)).toNat, s.drop (((i : Int)).toNat + [c].length), true) = _; rw [Int.toNat_natCast, h6], ?_⟩
    have key : ∀ (a : List UInt8), c ∉ a → spl c (a ++ c :: t) = a :: spl c t := by
      intro a
      induction a with
      | nil => intro _; simp [spl]
      | cons x a ih =>
        intro ha
        have hx : ¬ x = c := fun e => ha (by rw [e]; exact List.mem_cons_self ..)
        have h8 := ih fun h => ha (List.mem_cons_of_mem _ h)
        show (if x = c then [] :: spl c (a ++ c :: t) else match spl c (a ++ c :: t) with
          | p :: ps => (x :: p) :: ps
          | [] => [[x]]) = _
        rw [if_neg hx, h8]
    rw [hs]
    have e : (s.take i ++ c :: t).take i = s.take i := by rw [← hs]
    rw [e]
    exact key _ hn
end Go.Proofs.YtcpafmndjcejjaaGreatDoor
