/-
  Strings cut at a byte, in plain words.
-/
import Derived.Lib.SplitLaws
set_option linter.unusedVariables false
namespace Go.Proofs.YtcpafmndjcejjaaGreatDoor
open Go
set_option linter.unusedVariables false

/-- a string cut at every byte c -/
def spl (c : UInt8) : List UInt8 → List (List UInt8)
  | [] => [[]]
  | x :: l => if x = c then [] :: spl c l else match spl c l with
    | p :: ps => (x :: p) :: ps
    | [] => [[x]]
theorem spl_ne (c : UInt8) : ∀ s, spl c s ≠ []
  | [] => by simp [spl]
  | x :: l => by
    unfold spl
    split
    · simp
    · split <;> simp
theorem splitK_one (c : UInt8) : ∀ (s : List UInt8) (k : Nat), Lib.count s [c] = k → Lib.splitK [c] 0 k s = spl c s
  | [], k, h => by
    rw [Lib.count_miss (by simp [Lib.index])] at h
    subst h
    rfl
  | b :: l, k, h => by
    by_cases hb : b = c
    · subst hb
      rw [Lib.count_cons_eq] at h
      have hix : Lib.index (b :: l) [b] = ((0 : Nat) : Int) := by rw [Lib.index]; simp [List.isPrefixOf]
      obtain ⟨k, rfl⟩ : ∃ q, k = q + 1 := ⟨k - 1, by omega⟩
      unfold Lib.splitK
      rw [hix]
      simp only [spl]
      rw [if_neg (by decide), if_pos trivial]
      have := splitK_one b l k (by omega)
      simpa using this
    · rw [Lib.count_cons_ne b c l hb] at h
      have ih := splitK_one c l k h
      have hp : ([c] : List UInt8).isPrefixOf (b :: l) = false := by simp [List.isPrefixOf, Ne.symm hb]
      have hix : Lib.index (b :: l) [c] = if Lib.index l [c] == -1 then -1 else Lib.index l [c] + 1 := by rw [Lib.index, hp]; simp
      simp only [spl]
      rw [if_neg hb, ← ih]
      cases k with
      | zero => rfl
      | succ k =>
        have hm : Lib.index l [c] ≠ -1 := fun e => by rw [Lib.count_miss e] at h; omega
        have hge := Lib.index_ge l [c]
        obtain ⟨j, hj⟩ : ∃ j : Nat, Lib.index l [c] = j := ⟨(Lib.index l [c]).toNat, by omega⟩
        have hj' : Lib.index (b :: l) [c] = ((j + 1 : Nat) : Int) := by rw [hix, if_neg (fun e => hm (beq_iff_eq.1 e)), hj]; omega
        unfold Lib.splitK
        rw [hj, hj', if_neg (fun e => by have := beq_iff_eq.1 e; omega), if_neg (fun e => by have := beq_iff_eq.1 e; omega)]
        simp
/-- what strings.Split gives at a byte -/
theorem splitB_one (c : UInt8) (s : ByteArray) : (Lib.splitB ⟨#[c]⟩ 0 (Lib.countB s ⟨#[c]⟩) s).map (·.data.toList) = spl c s.data.toList := by
  rw [Lib.splitB_data]
  exact splitK_one c _ _ rfl
theorem splitB_one' (c : UInt8) (s : ByteArray) : Lib.splitB ⟨#[c]⟩ 0 (Lib.countB s ⟨#[c]⟩) s = (spl c s.data.toList).map fun p => ⟨p.toArray⟩ := by
  rw [← splitB_one, List.map_map]
  have : ((fun p : List UInt8 => (⟨p.toArray⟩ : ByteArray)) ∘ fun x : ByteArray => x.data.toList) = id := by
    funext x
    obtain ⟨⟨l⟩⟩ := x
    rfl
  rw [this, List.map_id]
theorem spl_len (c : UInt8) : ∀ s, (spl c s).length = s.count c + 1
  | [] => rfl
  | x :: l => by
    have ih := spl_len c l
    simp only [spl]
    by_cases h : x = c
    · subst h
      rw [if_pos rfl, List.length_cons, ih, List.count_cons_self]
    · rw [if_neg h, List.count_cons_of_ne (by simpa using h), ← ih]
      cases e : spl c l with
      | nil => exact absurd e (spl_ne c l)
      | cons p ps => rfl
theorem countB_one (c : UInt8) (s : ByteArray) : Lib.countB s ⟨#[c]⟩ + 1 = (spl c s.data.toList).length := by
  rw [spl_len]
  exact congrArg (· + 1) (Lib.count_one c _)
theorem mem_spl (c : UInt8) : ∀ s (b : UInt8), b ∈ s → b = c ∨ ∃ p ∈ spl c s, b ∈ p
  | [], b, h => by simp at h
  | x :: l, b, h => by
    simp only [spl]
    by_cases hx : x = c
    · rw [if_pos hx]
      rcases List.mem_cons.1 h with rfl | h
      · exact .inl hx
      · rcases mem_spl c l b h with e | ⟨p, hp, hb⟩
        · exact .inl e
        · exact .inr ⟨p, List.mem_cons_of_mem _ hp, hb⟩
    · rw [if_neg hx]
      cases e : spl c l with
      | nil => exact absurd e (spl_ne c l)
      | cons p ps =>
        rcases List.mem_cons.1 h with rfl | h
        · exact .inr ⟨b :: p, by simp, by simp⟩
        · rcases mem_spl c l b h with e2 | ⟨q, hq, hb⟩
          · exact .inl e2
          · rw [e] at hq
            rcases List.mem_cons.1 hq with rfl | hq
            · exact .inr ⟨x :: q, by simp, List.mem_cons_of_mem _ hb⟩
            · exact .inr ⟨q, by simp [hq], hb⟩
theorem spl_mem (c : UInt8) : ∀ s (p : List UInt8), p ∈ spl c s → c ∉ p ∧ (∀ b ∈ p, b ∈ s) ∧ p.length ≤ s.length
  | [], p, h => by
    have : p = [] := by simpa [spl] using h
    subst this; simp
  | x :: l, p, h => by
    simp only [spl] at h
    by_cases hx : x = c
    · rw [if_pos hx] at h
      rcases List.mem_cons.1 h with rfl | h
      · simp
      · obtain ⟨h1, h2, h3⟩ := spl_mem c l p h
        exact ⟨h1, fun b hb => List.mem_cons_of_mem _ (h2 b hb), by simp; omega⟩
    · rw [if_neg hx] at h
      cases e : spl c l with
      | nil => exact absurd e (spl_ne c l)
      | cons q ps =>
        rw [e] at h
        rcases List.mem_cons.1 h with rfl | h
        · obtain ⟨h1, h2, h3⟩ := spl_mem c l q (by rw [e]; simp)
          refine ⟨fun hc => ?_, fun b hb => ?_, by simp; omega⟩
          · rcases List.mem_cons.1 hc with rfl | hc
            · exact hx rfl
            · exact h1 hc
          · rcases List.mem_cons.1 hb with rfl | hb
            · simp
            · exact List.mem_cons_of_mem _ (h2 b hb)
        · obtain ⟨h1, h2, h3⟩ := spl_mem c l p (by rw [e]; simp [h])
          exact ⟨h1, fun b hb => List.mem_cons_of_mem _ (h2 b hb), by simp; omega⟩
end Go.Proofs.YtcpafmndjcejjaaGreatDoor
