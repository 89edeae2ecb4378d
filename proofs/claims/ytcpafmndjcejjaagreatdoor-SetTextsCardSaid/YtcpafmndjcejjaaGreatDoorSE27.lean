/-
  Reports put together, and old ones thinned, in plain words: the program's way and the reference's give one list.
  The reference's Key says keyB.
  Lists without the elements that are alike to the one ahead of them, in plain words.
  The fault of a list of reports: the program.
  Functions of package slices at a row of structs.
  Functions of package slices at a row of structs.
  Functions of package slices at a row of structs.
  What the generator of reports calls: Some, the closure that compares; the state in a round.
-/
import Derived.Test.YtcpafmndjcejjaaGreatDoorSE26
import Derived.Test.YtcpafmndjcejjaaGreatDoorSE8
import Derived.Test.YtcpafmndjcejjaaGreatDoorSE22
import Derived.Test.YtcpafmndjcejjaaGreatDoorSE1
import Derived.Test.YtcpafmndjcejjaaGreatDoorSE12
import Derived.WalkSpells
set_option linter.unusedVariables false
namespace Go.Proofs.YtcpafmndjcejjaaGreatDoor
open Go.RowKit Go Go.Sort
set_option linter.unusedVariables false
end Go.Proofs.YtcpafmndjcejjaaGreatDoor

namespace Go.Proofs.YtcpafmndjcejjaaGreatDoor
open Go.RowKit Go
set_option linter.unusedVariables false
end Go.Proofs.YtcpafmndjcejjaaGreatDoor

namespace Go.Proofs.YtcpafmndjcejjaaGreatDoor
open Go.RowKit Go
set_option linter.unusedVariables false

section
variable {α : Type} (eq : α → α → Bool)
end
end Go.Proofs.YtcpafmndjcejjaaGreatDoor

namespace Go.Proofs.YtcpafmndjcejjaaGreatDoor
open Go.RowKit Go
set_option linter.unusedVariables false
end Go.Proofs.YtcpafmndjcejjaaGreatDoor

namespace Go.Proofs.YtcpafmndjcejjaaGreatDoor
open Go.RowKit Go
set_option linter.unusedVariables false

end Go.Proofs.YtcpafmndjcejjaaGreatDoor

namespace Go.Proofs.YtcpafmndjcejjaaGreatDoor
open Go.RowKit Go
set_option linter.unusedVariables false

end Go.Proofs.YtcpafmndjcejjaaGreatDoor

namespace Go.Proofs.YtcpafmndjcejjaaGreatDoor
open Go.RowKit Go
set_option linter.unusedVariables false

end Go.Proofs.YtcpafmndjcejjaaGreatDoor

namespace Go.Proofs.YtcpafmndjcejjaaGreatDoor
open Go.RowKit Go
set_option linter.unusedVariables false

/-- a row of strings that can be read -/
def RdStr (w : World) (g : Nat) (ss : List ByteArray) : Prop := g < w.heap.size ∧ ∀ (i : Nat) s, ss[i]? = some s → w.cell? ⟨g, i, none⟩ = some (.string s)
theorem RdStr.grown {w w' : World} {g b : Nat} {ss : List ByteArray} (h : RdStr w g ss) (hg : w.grownBy w' (some b)) (hne : g ≠ b) : RdStr w' g ss :=
  ⟨Nat.lt_of_lt_of_le h.1 hg.size, fun i s hi => (World.cell?_of_block (hg.block g h.1 (by simpa using hne))).trans (h.2 i s hi)⟩
theorem Gen.setCells {b m B : Nat} {u : World} (hB : u.heap.size ≤ B) (hb : b < B) : ∀ (vs : List Value) (o : Nat) (v : World), Gen b u v m → Gen b u (v.setCells B o vs) m
  | [], _, v, h => h
  | x :: l, o, v, h => Gen.setCells hB hb l (o + 1) _ (h.setCell ⟨B, o, none⟩ x hB hb)
/-- an address that is made of a flow: three cells set one behind the other -/
theorem Blk.set3 {w : World} {B : Nat} {t : TypeId} {x y z x' y' z' : Value} (h : Blk w B t #[x, y, z]) : Blk (((w.setCell ⟨B, 0, none⟩ x').setCell ⟨B, 1, none⟩ y').setCell ⟨B, 2, none⟩ z') B t #[x', y', z'] :=
  Blk.set (Blk.set (Blk.set h 0 x') 1 y') 2 z'
end Go.Proofs.YtcpafmndjcejjaaGreatDoor
