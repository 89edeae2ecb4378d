/-
  Plain law: a prefix read. What the program asks (a number of at most three digits) and what the reference asks (its line is the string again) are the same.
-/
import Derived.Test.YtcpafmndjcejjaaGreatDoorSE39
set_option linter.unusedVariables false
namespace Go.Proofs.YtcpafmndjcejjaaGreatDoor
open Go.RowKit Go Go.Sort
set_option linter.unusedVariables false

theorem cut_one (s : List UInt8) (c : UInt8) : ((Lib.cut s [c]).1 = s ∧ (Lib.cut s [c]).2.1 = []) ∨ s = (Lib.cut s [c]).1 ++ c :: (Lib.cut s [c]).2.1 := by
  unfold Lib.cut
  rcases Lib.index_spec s [c] with ⟨h1, _⟩ | ⟨i, h1, h2, h3, _⟩
  · left; rw [h1]; exact ⟨rfl, rfl⟩
  · right
    rw [h1, if_pos (by omega)]
    unfold Lib.occAt at h3
    obtain ⟨t, ht⟩ := List.isPrefixOf_iff_prefix.1 h3
    have h6 : s.drop (i + [c].length) = t := by
      rw [← List.drop_drop, ← ht]; rfl
    have h7 : c :: t = s.drop i := ht
    show s = s.take ((i : Int)).toNat ++ c :: s.drop (((i : Int)).toNat + [c].length)
    rw [Int.toNat_natCast, h6, h7, List.take_append_drop]
theorem strL_app (a b : List UInt8) : strL (a ++ b) = strL a ++ strL b := by
  apply ByteArray.ext
  rw [ByteArray.data_append]
  simp [strL]
theorem strL_inj {a b : List UInt8} (h : strL a = strL b) : a = b := by
  have := congrArg ByteArray.toList h
  rwa [strL_list, strL_list] at this
theorem pFault_128 {six : Bool} {hi lo : Nat} {bits : Int} (h : pFault six hi lo bits = 0) : ∃ n : Nat, n ≤ 128 ∧ bits = (n : Int) := by
  unfold pFault at h
  by_cases h1 : aFault six (hi : Int) (lo : Int) ≠ 0
  · rw [if_pos h1] at h; cases h
  · rw [if_neg h1] at h
    by_cases h2 : outB bits 0 (lenN six : Nat) = true
    · rw [if_pos h2] at h; cases h
    · unfold outB at h2
      have := lenN_le six
      simp at h2
      exact ⟨bits.toNat, by omega, by omega⟩
/-- a prefix, read -/
def parsePF (s : List UInt8) : Option (Bool × Nat × Nat × Nat) := match parseF (Lib.cut s [47]).1 with
  | some (x, h, l) => (match d255 (Lib.cut s [47]).2.1 with
    | some n => if pFault x h l (n : Int) = 0 then some (x, h, l, n) else none
    | none => none)
  | none => none
theorem parseF_txt {s : List UInt8} {six : Bool} {hi lo : Nat} (h : parseF s = some (six, hi, lo)) : txtA six hi lo = strL s := by
  unfold parseF at h
  cases hl : looseF s with
  | none => rw [hl] at h; cases h
  | some a =>
    obtain ⟨x, y, z⟩ := a
    rw [hl] at h
    simp only at h
    split at h
    · rename_i h2
      injection h with h
      injection h with h1 h
      injection h with h2 h3
      subst h1 h2 h3
      assumption
    · cases h
theorem parseF_ok {s : List UInt8} {six : Bool} {hi lo : Nat} (hs : s.length ≤ 1000000) (h : parseF s = some (six, hi, lo)) : U64N hi ∧ U64N lo ∧ aFault six (hi : Int) (lo : Int) = 0 := by
  unfold parseF at h
  cases hl : looseF s with
  | none => rw [hl] at h; cases h
  | some a =>
    obtain ⟨x, y, z⟩ := a
    rw [hl] at h
    simp only at h
    split at h
    · injection h with h
      injection h with h1 h
      injection h with h2 h3
      subst h1 h2 h3
      exact looseF_ok hs hl
    · cases h
theorem parsePF_none {s : List UInt8} (h : parseF (Lib.cut s [47]).1 = none) : parsePF s = none := by
  unfold parsePF
  rw [h]
theorem parsePF_prog {s : List UInt8} {x : Bool} {h l : Nat} (hp : parseF (Lib.cut s [47]).1 = some (x, h, l)) :
    parsePF s = if numOk (Lib.cut s [47]).2.1 3 = true ∧ pFault x h l (numV (Lib.cut s [47]).2.1) = 0 then some (x, h, l, (numV (Lib.cut s [47]).2.1).toNat) else none := by
  unfold parsePF
  rw [hp]
  generalize (Lib.cut s [47]).2.1 = r
  obtain ⟨h1, h2⟩ := numOk_255 r
  by_cases hc : numOk r 3 = true ∧ pFault x h l (numV r) = 0
  · rw [if_pos hc]
    obtain ⟨n, hn, hv⟩ := pFault_128 hc.2
    have : (d255 r).isSome = true := by
      rw [← h1, hc.1, decide_eq_true (by omega : 0 ≤ numV r), decide_eq_true (by omega : numV r ≤ 255)]; rfl
    obtain ⟨m, hm⟩ := Option.isSome_iff_exists.1 this
    have h3 := h2 m hm
    have hc2 := hc.2
    rw [h3] at hc2 ⊢
    rw [hm]
    show (if pFault x h l (m : Int) = 0 then _ else _) = _
    rw [if_pos hc2, Int.toNat_natCast]
  · rw [if_neg hc]
    cases hd : d255 r with
    | none => rfl
    | some n =>
      have h3 := h2 n hd
      rw [hd] at h1
      have h4 : numOk r 3 = true := by
        revert h1
        cases numOk r 3 <;> simp
      show (if pFault x h l (n : Int) = 0 then _ else _) = _
      rw [if_neg fun e => hc ⟨h4, by rw [h3]; exact e⟩]
theorem pfxT_strL (x : Bool) (h l n : Nat) (a : List UInt8) (ht : txtA x h l = strL a) : pfxT x h l n = strL (a ++ 47 :: Lib.decDigits n) := by
  unfold pfxT
  rw [ht, show a ++ 47 :: Lib.decDigits n = (a ++ [47]) ++ Lib.decDigits n by simp, strL_app, strL_app]
  rfl
theorem parsePF_ref {s : List UInt8} {x : Bool} {h l : Nat} {v : Int} (hp : parseF (Lib.cut s [47]).1 = some (x, h, l)) (ha : Lib.atoiAll (Lib.cut s [47]).2.1 = .ok v) (hf : pFault x h l v = 0) :
    parsePF s = if pfxT x h l v.toNat = strL s then some (x, h, l, v.toNat) else none := by
  have ht := parseF_txt hp
  rw [pfxT_strL x h l v.toNat _ ht]
  obtain ⟨n, hn, rfl⟩ := pFault_128 hf
  rw [Int.toNat_natCast]
  unfold parsePF
  rw [hp]
  have hat := atoi_255 (Lib.cut s [47]).2.1
  have hcut := cut_one s 47
  generalize (Lib.cut s [47]).1 = a at *
  generalize (Lib.cut s [47]).2.1 = r at *
  rcases hcut with ⟨h1, h2⟩ | h1
  · subst h1 h2
    have hd : d255 [] = none := by simp [d255, numL]
    rw [hd, if_neg fun e => by
      have := congrArg List.length (strL_inj e)
      simp at this]
  · cases hd : d255 r with
    | none =>
      rw [if_neg fun e => by
        have e2 := strL_inj e
        rw [h1] at e2
        have e3 := List.append_cancel_left e2
        injection e3 with _ e4
        exact hat.2 hd (n : Int) ha (by omega) (by omega) (by rw [Int.toNat_natCast]; exact e4)]
    | some m =>
      obtain ⟨g1, g2, g3⟩ := hat.1 m hd
      rw [ha] at g1
      injection g1 with g1
      have g1 : n = m := by omega
      subst g1
      show (if pFault x h l (n : Int) = 0 then _ else _) = _
      rw [if_pos hf, if_pos (by rw [g2, h1])]
theorem parsePF_ref_none {s : List UInt8} {x : Bool} {h l : Nat} (hp : parseF (Lib.cut s [47]).1 = some (x, h, l)) (ha : ∀ v, Lib.atoiAll (Lib.cut s [47]).2.1 = .ok v → pFault x h l v ≠ 0) : parsePF s = none := by
  unfold parsePF
  rw [hp]
  have hat := atoi_255 (Lib.cut s [47]).2.1
  cases hd : d255 (Lib.cut s [47]).2.1 with
  | none => rfl
  | some n =>
    show (if pFault x h l (n : Int) = 0 then _ else _) = _
    rw [if_neg (ha n (hat.1 n hd).1)]
def psV : Option (Bool × Nat × Nat × Nat) → Value
  | some (s, h, l, n) => .tuple #[.agg #[.bool s, .int .u64 (h : Int), .int .u64 (l : Int), .int .i64 (n : Int)], .int .i64 0]
  | none => .tuple #[.agg #[.bool false, .int .u64 0, .int .u64 0, .int .i64 0], .int .i64 9]
theorem Blk.set4p {w : World} {B : Nat} {t : TypeId} {x y z u x' y' z' u' : Value} (h : Blk w B t #[x, y, z, u]) : Blk ((((w.setCell ⟨B, 0, none⟩ x').setCell ⟨B, 1, none⟩ y').setCell ⟨B, 2, none⟩ z').setCell ⟨B, 3, none⟩ u') B t #[x', y', z', u'] :=
  Blk.set (Blk.set (Blk.set (Blk.set h 0 x') 1 y') 2 z') 3 u'
end Go.Proofs.YtcpafmndjcejjaaGreatDoor
