/-
  Prefixes of the program: span.Last, Contains, Inside; addr.Mask, Last, Contains, Inside.
  Prefixes of sites: Via, ViaOf, Site, SiteOf.
  Prefixes of the program: addr.Last, Contains, Inside, Common, checkPrefixes.
  Prefixes of the program: addr.Inside, Common.
  Prefixes of the reference: sign, cmp, LastOf, Holds, Within, CommonOf.
  Orders of addresses: cmp.Compare, cmp.Or, span.Compare, addr.Compare of the program; Order of the reference: both compare the addresses' numbers.
  Quiet regions and calls that also never lower the count of draws: what a sort asks of its comparison.
  The comparisons that the sorts ask: of wide numbers, of addresses; the count of draws never goes down.
-/
import Derived.Test.YtcpafmndjcejjaaGreatDoorAR4
import Derived.StillTailTactics
import Derived.Sort.Grow
set_option linter.unusedVariables false
namespace Go.Proofs.YtcpafmndjcejjaaGreatDoor
open Go.RowKit Go
set_option linter.unusedVariables false
end Go.Proofs.YtcpafmndjcejjaaGreatDoor

namespace Go.Proofs.YtcpafmndjcejjaaGreatDoor
open Go.RowKit Go
set_option linter.unusedVariables false
end Go.Proofs.YtcpafmndjcejjaaGreatDoor

namespace Go.Proofs.YtcpafmndjcejjaaGreatDoor
open Go.RowKit Go
set_option linter.unusedVariables false
end Go.Proofs.YtcpafmndjcejjaaGreatDoor

namespace Go.Proofs.YtcpafmndjcejjaaGreatDoor
open Go.RowKit Go
set_option linter.unusedVariables false
end Go.Proofs.YtcpafmndjcejjaaGreatDoor

namespace Go.Proofs.YtcpafmndjcejjaaGreatDoor
open Go.RowKit Go
set_option linter.unusedVariables false
end Go.Proofs.YtcpafmndjcejjaaGreatDoor

namespace Go.Proofs.YtcpafmndjcejjaaGreatDoor
open Go.RowKit Go
set_option linter.unusedVariables false
end Go.Proofs.YtcpafmndjcejjaaGreatDoor

namespace Go.Proofs.YtcpafmndjcejjaaGreatDoor
open Go.RowKit Go
set_option linter.unusedVariables false

/-- nothing that was there is changed, and the count of draws has not gone down -/
structure BelD (u v : World) : Prop where
  b : Below u.heap.size u v
  d : u.drawn ≤ v.drawn
theorem BelD.refl (u : World) : BelD u u := ⟨Below.refl _ _, Nat.le_refl _⟩
theorem BelD.trans {u v w : World} (h : BelD u v) (k : BelD v w) : BelD u w := ⟨h.b.trans (k.b.mono h.b.size), Nat.le_trans h.d k.d⟩
theorem BelD.alloc {u v : World} (h : BelD u v) (o : Obj) : BelD u (v.alloc o) := ⟨below_alloc h.b o, h.d⟩
theorem BelD.drewN {u v : World} (h : BelD u v) (n : Nat) : BelD u (v.drewN n) := ⟨below_drewN h.b n, Nat.le_trans h.d (Nat.le_add_right _ _)⟩
theorem BelD.drew {u v : World} (h : BelD u v) : BelD u v.drew := h.drewN 1
/-- as a sort's law spells it -/
theorem BelD.grow {u v : World} (h : BelD u v) : ∃ q os, v = Sort.grow (u.drewN q) os := by
  obtain ⟨hos, htape, hout, hsize, hblock⟩ := h.b
  have hd := h.d
  refine ⟨v.drawn - u.drawn, v.heap.extract u.heap.size v.heap.size, ?_⟩
  obtain ⟨vh, vt, vd, vo, vp⟩ := v
  obtain ⟨uh, ut, ud, uo, up⟩ := u
  simp only at hos htape hout hsize hblock hd
  subst hos htape hout
  have e1 : ud + (vd - ud) = vd := by omega
  have e2 : uh ++ vh.extract uh.size vh.size = vh := by
    apply Array.ext_getElem?
    intro i
    rcases Nat.lt_or_ge i uh.size with hi | hi
    · rw [Array.getElem?_append_left hi]; exact (hblock i hi).symm
    · rw [Array.getElem?_append_right hi, Array.getElem?_extract]
      rcases Nat.lt_or_ge i vh.size with h2 | h2
      · rw [if_pos (by omega), show uh.size + (i - uh.size) = i by omega]
      · rw [if_neg (by omega), Array.getElem?_eq_none h2]
  show (⟨vh, vt, vd, vo, vp⟩ : World) = ⟨uh ++ vh.extract uh.size vh.size, vt, ud + (vd - ud), vo, vp⟩
  rw [e1, e2]
/-- a pure function's contract, with the count of draws -/
def RetD (v : Value) (w : World) (e : Ending) (w' : World) : Prop := e = .returned v ∧ BelD w w'
def LaterD (W : World) : Type := { w' : World // BelD W w' }
instance (W : World) : Inhabited (LaterD W) := ⟨⟨W, BelD.refl _⟩⟩
theorem LaterD.cell_of {W : World} {B i : Nat} {v : Value} (h : W.cell? ⟨B, i, none⟩ = some v) (n : LaterD W) : n.1.cell? ⟨B, i, none⟩ = some v := Later.cell_of h ⟨n.1, n.2.b⟩
end Go.Proofs.YtcpafmndjcejjaaGreatDoor

namespace Go.Proofs.YtcpafmndjcejjaaGreatDoor
open Go.RowKit Go
set_option linter.unusedVariables false
end Go.Proofs.YtcpafmndjcejjaaGreatDoor
