/-
  An address of eight groups as text: textOf of the program.
-/
import Derived.Test.YteccghdegckjhaaGreatDoorTD30
set_option linter.unusedVariables false
namespace Go.Proofs.YteccghdegckjhaaGreatDoor
open Go.RowKit Go
set_option linter.unusedVariables false
def sixL (g : Nat → Nat) : List ByteArray := [hexS (g 7), hexS (g 6), hexS (g 5), hexS (g 4), hexS (g 3), hexS (g 2), hexS (g 1), hexS (g 0)]
theorem Short.take {L : List ByteArray} (h : Short L) (n : Nat) : Short (L.take n) := ⟨by have := h.1; simp; omega, fun x hx => h.2 x (List.mem_of_mem_take hx)⟩
theorem Short.drop {L : List ByteArray} (h : Short L) (n : Nat) : Short (L.drop n) := ⟨by have := h.1; simp; omega, fun x hx => h.2 x (List.mem_of_mem_drop hx)⟩
def gapS (L : List ByteArray) (f m : Nat) : ByteArray := joinS (L.take f) ⟨#[58]⟩ ++ ⟨#[58, 58]⟩ ++ joinS (L.drop (f + m)) ⟨#[58]⟩
def sixT (g : Nat → Nat) : ByteArray := if (zF (zB g) 8 0 0 0).2 < 2 then joinS (sixL g) ⟨#[58]⟩ else gapS (sixL g) (zF (zB g) 8 0 0 0).1 (zF (zB g) 8 0 0 0).2
end Go.Proofs.YteccghdegckjhaaGreatDoor
