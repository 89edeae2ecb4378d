/-
  Reports put together, and old ones thinned, in plain words: the program's way and the reference's give one list.
  The reference's Key says keyB.
  Lists without the elements that are alike to the one ahead of them, in plain words.
  The fault of a list of reports: the program.
  Functions of package slices at a row of structs.
  Functions of package slices at a row of structs.
  Functions of package slices at a row of structs.
  What the generator of reports calls: Some, the closure that compares; the state in a round.
-/
import Derived.Test.YtcpafmndjcejjaaGreatDoorAR25
import Derived.Test.YtcpafmndjcejjaaGreatDoorAR8
import Derived.Test.YtcpafmndjcejjaaGreatDoorAR21
import Derived.Test.YtcpafmndjcejjaaGreatDoorAR1
import Derived.Test.YtcpafmndjcejjaaGreatDoorAR10
import Derived.WalkSpells
set_option linter.unusedVariables false
namespace Go.Proofs.YtcpafmndjcejjaaGreatDoor
open Go.RowKit Go Go.Sort
set_option linter.unusedVariables false
end Go.Proofs.YtcpafmndjcejjaaGreatDoor

namespace Go.Proofs.YtcpafmndjcejjaaGreatDoor
open Go.RowKit Go
set_option linter.unusedVariables false
end Go.Proofs.YtcpafmndjcejjaaGreatDoor

namespace Go.Proofs.YtcpafmndjcejjaaGreatDoor
open Go.RowKit Go
set_option linter.unusedVariables false

section
variable {α : Type} (eq : α → α → Bool)
end
end Go.Proofs.YtcpafmndjcejjaaGreatDoor

namespace Go.Proofs.YtcpafmndjcejjaaGreatDoor
open Go.RowKit Go
set_option linter.unusedVariables false
end Go.Proofs.YtcpafmndjcejjaaGreatDoor

namespace Go.Proofs.YtcpafmndjcejjaaGreatDoor
open Go.RowKit Go
set_option linter.unusedVariables false

end Go.Proofs.YtcpafmndjcejjaaGreatDoor

namespace Go.Proofs.YtcpafmndjcejjaaGreatDoor
open Go.RowKit Go
set_option linter.unusedVariables false

end Go.Proofs.YtcpafmndjcejjaaGreatDoor

namespace Go.Proofs.YtcpafmndjcejjaaGreatDoor
open Go.RowKit Go
set_option linter.unusedVariables false

end Go.Proofs.YtcpafmndjcejjaaGreatDoor

namespace Go.Proofs.YtcpafmndjcejjaaGreatDoor
open Go.RowKit Go
set_option linter.unusedVariables false

/-- a row of strings that can be read -/
def RdStr (w : World) (g : Nat) (ss : List ByteArray) : Prop := g < w.heap.size ∧ ∀ (i : Nat) s, ss[i]? = some s → w.cell? ⟨g, i, none⟩ = some (.string s)
theorem RdStr.grown {w w' : World} {g b : Nat} {ss : List ByteArray} (h : RdStr w g ss) (hg : w.grownBy w' (some b)) (hne : g ≠ b) : RdStr w' g ss :=
  ⟨Nat.lt_of_lt_of_le h.1 hg.size, fun i s hi => (World.cell?_of_block (hg.block g h.1 (by simpa using hne))).trans (h.2 i s hi)⟩
theorem rdStr_new (w : World) (t : TypeId) (ss : List ByteArray) (vs : Array Value) (hv : vs = (ss.map Value.string).toArray) : RdStr (w.alloc (.cells vs t)) w.heap.size ss := by
  subst hv
  refine ⟨by simp, fun i s hi => ?_⟩
  rw [cell_of_row _ w.heap.size i _ _ _ (heap_alloc_new w _)]
  simp [hi]
set_option maxHeartbeats 1000000 in
theorem some_gen (b m g n : Nat) (ss : List ByteArray) (w : World) (h : Strm w b m) (hm : m < 1099511627776) (hn : ss.length = n) (hn1 : 1 ≤ n ∧ n ≤ 1000) (hs : RdStr w g ss) (hgb : g ≠ b) :
    Calls Tryz.prog 20 #[.pointer (some ⟨b, 0, none⟩), .slice (some ⟨g, 0, none⟩) n n] w fun e w' => ∃ s : ByteArray, e = .returned (.string s) ∧ s ∈ ss ∧ Gen b w w' (m + 1) := by
  have Hs := Lib.hid hs
  have HS := Lib.hid h
  have Hn := Lib.hid hn
  clear hs h hn
  go_enter Tryz.func20, Tryz.ntmps20
  go_wp2_with fail
  refine (next_gen b m _ _ HS.out hm (by omega)).mono ?_
  rintro e w1 ⟨k, rfl, ⟨hk0, hk1⟩, hg⟩
  obtain ⟨j, rfl⟩ := Int.eq_ofNat_of_zero_le hk0
  have hj : j < n := by omega
  obtain ⟨s, hs⟩ : ∃ s, ss[j]? = some s := ⟨_, List.getElem?_eq_getElem (by rw [Hn.out]; exact hj)⟩
  have hc := (Hs.out.grown hg.g hgb).2 j s hs
  have HG := Lib.hid hg
  have hmem := List.mem_of_getElem? hs
  have HM := Lib.hid hmem
  clear hg hs hmem
  have b1 : (0 : Int) ≤ (j : Int) := by omega
  have b2 : (j : Int) < (n : Int) := by omega
  go_wp2_with fail
  go_ret
  exact ⟨s, rfl, HM.out, HG.out⟩
theorem Gen.setCells {b m B : Nat} {u : World} (hB : u.heap.size ≤ B) (hb : b < B) : ∀ (vs : List Value) (o : Nat) (v : World), Gen b u v m → Gen b u (v.setCells B o vs) m
  | [], _, v, h => h
  | x :: l, o, v, h => Gen.setCells hB hb l (o + 1) _ (h.setCell ⟨B, o, none⟩ x hB hb)
/-- an address that is made of a flow: three cells set one behind the other -/
theorem Blk.set3 {w : World} {B : Nat} {t : TypeId} {x y z x' y' z' : Value} (h : Blk w B t #[x, y, z]) : Blk (((w.setCell ⟨B, 0, none⟩ x').setCell ⟨B, 1, none⟩ y').setCell ⟨B, 2, none⟩ z') B t #[x', y', z'] :=
  Blk.set (Blk.set (Blk.set h 0 x') 1 y') 2 z'
end Go.Proofs.YtcpafmndjcejjaaGreatDoor
