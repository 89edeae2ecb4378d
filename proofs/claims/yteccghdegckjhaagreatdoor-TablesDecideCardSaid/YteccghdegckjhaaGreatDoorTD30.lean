/-
  The reference's AddrLoose = looseF. Condition: at most a million bytes.
  Addresses of four numbers as text: textOf of the program, AddrText of the reference.
  Addresses of four numbers as text: AddrText of the reference.
  The eight groups of an address: groupsOf of the program and of the reference.
  The longest row of groups that are zero: zeros of the program; and what the reference looks for is the same.
-/
import Derived.Test.YteccghdegckjhaaGreatDoorTD29
import Derived.Test.YteccghdegckjhaaGreatDoorTD21
import Derived.Test.YteccghdegckjhaaGreatDoorTD2
import Derived.Lib.ItoaLen
set_option linter.unusedVariables false
namespace Go.Proofs.YteccghdegckjhaaGreatDoor
open Go.RowKit Go Go.Sort
set_option linter.unusedVariables false
end Go.Proofs.YteccghdegckjhaaGreatDoor

namespace Go.Proofs.YteccghdegckjhaaGreatDoor
open Go.RowKit Go
set_option linter.unusedVariables false

def decB (n : Nat) : ByteArray := ⟨(Lib.decDigits n).toArray⟩
def joinS (L : List ByteArray) (sep : ByteArray) : ByteArray := ⟨(Lib.join (L.map (·.data.toList)) sep.data.toList).toArray⟩
/-- short strings -/
def Short (L : List ByteArray) : Prop := L.length ≤ 8 ∧ ∀ x ∈ L, x.data.toList.length ≤ 30
def fourL (lo : Nat) : List ByteArray := [decB (lo / 16777216 % 256), decB (lo / 65536 % 256), decB (lo / 256 % 256), decB (lo % 256)]
end Go.Proofs.YteccghdegckjhaaGreatDoor

namespace Go.Proofs.YteccghdegckjhaaGreatDoor
open Go.RowKit Go
set_option linter.unusedVariables false
end Go.Proofs.YteccghdegckjhaaGreatDoor

namespace Go.Proofs.YteccghdegckjhaaGreatDoor
open Go.RowKit Go
set_option linter.unusedVariables false
/-- an own row of ints -/
def OwnN (w : World) (base : Nat) (v : Value) (L : List Int) : Prop := w.ownsRow base 3 1 v L.length (L.map (Value.int .i64))
theorem OwnN.nil (w : World) (base : Nat) : OwnN w base (.slice none 0 0) [] := World.ownsRow_nil w base _ 1
theorem OwnN.later {w w' : World} {base : Nat} {v : Value} {L : List Int} (h : OwnN w base v L) (hb : Below w.heap.size w w') : OwnN w' base v L := own_later h hb
theorem OwnN.snoc {w : World} {B : Nat} {v : Value} {L : List Int} {x : Int} (h : w.ownsRow B 3 1 v (L.length + 1) (L.map (Value.int .i64) ++ [.int .i64 x])) : OwnN w B v (L ++ [x]) := by
  show w.ownsRow _ _ _ _ _ _
  rw [List.length_append, List.map_append]
  exact h
theorem OwnN.one {w : World} {B : Nat} {v : Value} {L : List Int} (h : OwnN w B v L) (hl : 1 ≤ L.length) :
    ∃ g c, v = .slice (some ⟨g, 0, none⟩) L.length c ∧ B ≤ g ∧ g < w.heap.size ∧ L.length ≤ c ∧ c ≤ maxLen ∧ ∀ (j : Nat) x, L[j]? = some x → w.cell? ⟨g, j, none⟩ = some (.int .i64 x) := by
  rcases h.2 with ⟨rfl, h0⟩ | ⟨g, cap, cur, rfl, hb, hg, hc, hm, hs, ht⟩
  · omega
  · refine ⟨g, cap, rfl, hb, lt_of_block hg, hc, hm, fun j x hx => ?_⟩
    have hj : j < L.length := by
      rcases Nat.lt_or_ge j L.length with h | h
      · exact h
      · rw [List.getElem?_eq_none h] at hx; cases hx
    rw [cell_of_row w g _ _ _ _ hg]
    have h2 : (L.map (Value.int .i64))[j]? = some (.int .i64 x) := by simp [hx]
    rw [← ht, List.getElem?_take, if_pos (by omega), Array.getElem?_toList] at h2
    exact h2
end Go.Proofs.YteccghdegckjhaaGreatDoor

namespace Go.Proofs.YteccghdegckjhaaGreatDoor
open Go.RowKit Go
set_option linter.unusedVariables false

def run0 (z : Nat → Bool) : Nat → Nat → Nat
  | 0, _ => 0
  | k + 1, i => if i < 8 ∧ z i = true then run0 z k (i + 1) + 1 else 0
def zF (z : Nat → Bool) : Nat → Nat → Nat → Nat → Nat × Nat
  | 0, _, f, m => (f, m)
  | k + 1, i, f, m => if i < 8 then zF z k (i + run0 z 8 i + 1) (if m < run0 z 8 i then i else f) (if m < run0 z 8 i then run0 z 8 i else m) else (f, m)
/-- which groups are zero -/
def zB (g : Nat → Nat) (j : Nat) : Bool := g (7 - j) == 0
end Go.Proofs.YteccghdegckjhaaGreatDoor
