/-
  Reports put together: the program.
  Reports put together: the reference.
  An address whose last bits are hidden: the program's hidden.
  Two rows that a call owns, in blocks apart.
  Reports whose addresses are hidden, in plain words.
  The closure of the reference's HideOf; the program's hidden on the cells of a flow.
  The reference's HideOf = hidP. Condition: at most twenty reports, bits of right numbers.
  The program's Loose = looseF. Condition: at most a million bytes.
-/
import Derived.Test.YteccghdegckjhaaGreatDoorTD21
import Derived.Test.YteccghdegckjhaaGreatDoorTD17
import Derived.Test.YteccghdegckjhaaGreatDoorTD2
import Derived.Deep.Light
import Derived.Test.YteccghdegckjhaaGreatDoorTD3
import Derived.Test.YteccghdegckjhaaGreatDoorTD6
import Derived.Test.YteccghdegckjhaaGreatDoorTD13
import Derived.Test.YteccghdegckjhaaGreatDoorTD28
import Derived.OwnWalk
set_option linter.unusedVariables false
namespace Go.Proofs.YteccghdegckjhaaGreatDoor
open Go.RowKit Go
set_option linter.unusedVariables false
end Go.Proofs.YteccghdegckjhaaGreatDoor

namespace Go.Proofs.YteccghdegckjhaaGreatDoor
open Go.RowKit Go
set_option linter.unusedVariables false

end Go.Proofs.YteccghdegckjhaaGreatDoor

namespace Go.Proofs.YteccghdegckjhaaGreatDoor
open Go.RowKit Go
set_option linter.unusedVariables false

end Go.Proofs.YteccghdegckjhaaGreatDoor

namespace Go.Proofs.YteccghdegckjhaaGreatDoor
open Go.RowKit Go
set_option linter.unusedVariables false

/-- two values whose own blocks are not one -/
def Apart (u v : Value) : Prop := ∀ k, u.ownBlock = some k → v.ownBlock ≠ some k
theorem Apart.symm {u v : Value} (h : Apart u v) : Apart v u := fun k hk e => h k e hk
theorem Apart.or {u v : Value} (h : Apart u v) : v.ownBlock = none ∨ v.ownBlock ≠ u.ownBlock := by
  cases e : v.ownBlock with
  | none => exact .inl rfl
  | some k => exact .inr fun e2 => h k e2.symm e
theorem Apart.none_left (v : Value) : Apart (.slice none 0 0) v := fun k hk => by cases hk
section
variable {α : Type} {E : Lay α}
/-- a row stays where another one, apart from it, is written -/
theorem OwnK.apart {w w' : World} {B : Nat} {u v v' : Value} {L : List α} (h : OwnK E w B u L) (hA : Apart u v) (hG : Grew w w' v v') : OwnK E w' B u L := own_grew h hG hA.symm.or
theorem Apart.grew {w w' : World} {B : Nat} {u v v' : Value} {L : List α} (h : OwnK E w B u L) (hA : Apart u v) (hG : Grew w w' v v') : Apart u v' := fun k hk e => by
  rcases hG.o with e2 | ⟨j, e2, hj⟩
  · rw [e2] at e; exact hA k hk e
  · rw [e2] at e
    injection e with e
    have := own_lt h k hk
    omega
/-- two rows that a call owns, apart -/
structure Two (E : Lay α) (w : World) (B : Nat) (u v : Value) (L M : List α) : Prop where
  l : OwnK E w B u L
  r : OwnK E w B v M
  a : Apart u v
theorem Two.nil (E : Lay α) (w : World) (B : Nat) : Two E w B (.slice none 0 0) (.slice none 0 0) [] [] := ⟨OwnK.nil _ _ _, OwnK.nil _ _ _, Apart.none_left _⟩
theorem Two.later {w w' : World} {B : Nat} {u v : Value} {L M : List α} (h : Two E w B u v L M) (hb : Below w.heap.size w w') : Two E w' B u v L M := ⟨h.l.later hb, h.r.later hb, h.a⟩
theorem Two.alloc {w : World} {B : Nat} {u v : Value} {L M : List α} (h : Two E w B u v L M) (o : Obj) : Two E (w.alloc o) B u v L M := ⟨h.l.alloc o, h.r.alloc o, h.a⟩
theorem Two.left {w w' : World} {B : Nat} {u v u' : Value} {L M L' : List α} (h : Two E w B u v L M) (hO : OwnK E w' B u' L') (hG : Grew w w' u u') : Two E w' B u' v L' M :=
  ⟨hO, h.r.apart h.a.symm hG, (Apart.grew h.r h.a.symm hG).symm⟩
theorem Two.right {w w' : World} {B : Nat} {u v v' : Value} {L M M' : List α} (h : Two E w B u v L M) (hO : OwnK E w' B v' M') (hG : Grew w w' v v') : Two E w' B u v' L M' :=
  ⟨h.l.apart h.a hG, hO, Apart.grew h.l h.a hG⟩
end
end Go.Proofs.YteccghdegckjhaaGreatDoor

namespace Go.Proofs.YteccghdegckjhaaGreatDoor
open Go.RowKit Go
set_option linter.unusedVariables false
end Go.Proofs.YteccghdegckjhaaGreatDoor

namespace Go.Proofs.YteccghdegckjhaaGreatDoor
open Go.RowKit Go
set_option linter.unusedVariables false

end Go.Proofs.YteccghdegckjhaaGreatDoor

namespace Go.Proofs.YteccghdegckjhaaGreatDoor
open Go.RowKit Go
set_option linter.unusedVariables false
end Go.Proofs.YteccghdegckjhaaGreatDoor

namespace Go.Proofs.YteccghdegckjhaaGreatDoor
open Go.RowKit Go Go.Sort
set_option linter.unusedVariables false
theorem Blk.drew {w : World} {B : Nat} {t : TypeId} {cs : Array Value} (h : Blk w B t cs) : Blk w.drew B t cs := h
end Go.Proofs.YteccghdegckjhaaGreatDoor
