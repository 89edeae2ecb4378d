/-
  span.joined: ranges in order, put together where they touch.
  span.Of: the ranges of prefixes, in any order.
  How many blocks a span has at most, plain.
  Spans.Prefixes: the greedy blocks of ranges.
  slices.Equal at rows of prefixes and of ranges.
  addr.set, checkPrefixes, Least of the program.
  addr.Least, CheckSet, Ranges of the program.
  addr.CheckSet of the program.
-/
import Derived.Test.YteccghdegckjhaaGreatDoorPT8
import Derived.Deep.Cut
import Derived.Deep.Light
import Derived.Deep.CutBlock
import Derived.Test.YteccghdegckjhaaGreatDoorPT5
set_option linter.unusedVariables false
namespace Go.Proofs.YteccghdegckjhaaGreatDoor
open Go.RowKit Go
set_option linter.unusedVariables false
end Go.Proofs.YteccghdegckjhaaGreatDoor

namespace Go.Proofs.YteccghdegckjhaaGreatDoor
open Go.RowKit Go
set_option linter.unusedVariables false

/-- a prefix without a fault -/
structure OkPf (p : Pf) : Prop where
  nn : p.2.2.2 = (p.2.2.2.toNat : Int)
  ok : POK p.1 p.2.1 p.2.2.1 p.2.2.2.toNat
def nuP (p : Pf) : Nat := numA p.1 p.2.1 p.2.2.1
theorem OkPf.num {p : Pf} (h : OkPf p) : VN (nuP p) ∧ sixN (nuP p) = p.1 ∧ hiN (nuP p) = p.2.1 ∧ loN (nuP p) = p.2.2.1 := aN_num h.ok.1
theorem OkPf.bits {p : Pf} (h : OkPf p) : p.2.2.2.toNat ≤ LN (nuP p) := by
  rw [LN_six, h.num.2.1]
  exact h.ok.2.1
theorem OkPf.cells {p : Pf} (h : OkPf p) : pfC p = (pN (nuP p) (p.2.2.2.toNat : Int)).toList := by
  obtain ⟨_, a, b, c⟩ := h.num
  unfold pN pfC
  rw [a, b, c, ← h.nn]
theorem OkPf.clr {p : Pf} (h : OkPf p) : clr (nuP p) (LN (nuP p) - p.2.2.2.toNat) = nuP p := by
  have e := mask_num (n := p.2.2.2.toNat) h.ok.1
  rw [h.ok.2.2.1, h.ok.2.2.2] at e
  rw [LN_six, h.num.2.1]
  exact e.symm
theorem RdK.pf {w : World} {ad : Option Addr} {L : List Pf} (h : RdK layPf w ad L) {k : Nat} {p : Pf} (hp : L[k]? = some p) {a1 : Bool} {a2 a3 : Nat} {a4 : Int} (hc : pfC p = [.bool a1, .int .u64 (a2 : Int), .int .u64 (a3 : Int), .int .i64 a4]) :
    ∃ g o, ad = some ⟨g, o, none⟩ ∧ g < w.heap.size ∧ w.cell? ⟨g, o + k * 4, none⟩ = some (.bool a1) ∧ w.cell? ⟨g, o + k * 4 + 1, none⟩ = some (.int .u64 (a2 : Int)) ∧ w.cell? ⟨g, o + k * 4 + 2, none⟩ = some (.int .u64 (a3 : Int)) ∧ w.cell? ⟨g, o + k * 4 + 3, none⟩ = some (.int .i64 a4) := by
  obtain ⟨g, o, e, hg, h0⟩ := h k p hp
  have hE : layPf.enc p = pfC p := rfl
  have hK : layPf.K = 4 := rfl
  rw [hE, hc, hK] at h0
  exact ⟨g, o, e, hg, h0 0 _ rfl, h0 1 _ rfl, h0 2 _ rfl, h0 3 _ rfl⟩
end Go.Proofs.YteccghdegckjhaaGreatDoor

namespace Go.Proofs.YteccghdegckjhaaGreatDoor
open Go
set_option linter.unusedVariables false
end Go.Proofs.YteccghdegckjhaaGreatDoor

namespace Go.Proofs.YteccghdegckjhaaGreatDoor
open Go.RowKit Go
set_option linter.unusedVariables false
theorem own_far {w : World} {base : Nat} {e : TypeId} {size : Nat} {v : Value} {n : Nat} {xs : List Value} {b : Nat} {t : TypeId} {cs : Array Value} (h : w.ownsRow base e size v n xs) (hb : Blk w b t cs) (hne : e ≠ t) (i : Nat) (u : Value) : (w.setCell ⟨b, i, none⟩ u).ownsRow base e size v n xs := by
  rcases h with ⟨hl, hv | ⟨g, c, cur, rfl, hbase, hg, hc, hm, hs, ht⟩⟩
  · exact ⟨hl, .inl hv⟩
  · refine ⟨hl, .inr ⟨g, c, cur, rfl, hbase, ?_, hc, hm, hs, ht⟩⟩
    rw [Below.heap_setCell w ⟨b, i, none⟩ u g (by
      rintro rfl
      unfold Blk at hb
      rw [hg] at hb
      injection hb with hb
      injection hb with _ hb
      exact hne hb)]
    exact hg
theorem OwnK.far {α : Type} {E : Lay α} {w : World} {B : Nat} {v : Value} {L : List α} {b : Nat} {t : TypeId} {cs : Array Value} (h : OwnK E w B v L) (hb : Blk w b t cs) (hne : E.ty ≠ t) (i : Nat) (u : Value) : OwnK E (w.setCell ⟨b, i, none⟩ u) B v L := own_far h hb hne i u
theorem Blk.grew {w w' : World} {b : Nat} {t : TypeId} {cs : Array Value} {base : Nat} {e : TypeId} {size : Nat} {v v' : Value} {n : Nat} {xs : List Value} (hb : Blk w b t cs) (h : w.ownsRow base e size v n xs) (hne : e ≠ t) (hG : Grew w w' v v') : Blk w' b t cs := by
  refine (hG.g.block b hb.lt ?_).trans hb
  rcases h with ⟨hl, ⟨rfl, _⟩ | ⟨g, c, cur, rfl, hbase, hg, hc, hm, hs, ht⟩⟩
  · simp [Value.ownBlock]
  · intro he
    have : b = g := by simpa [Value.ownBlock] using he
    subst this
    unfold Blk at hb
    rw [hg] at hb
    injection hb with hb
    injection hb with _ hb
    exact hne hb
end Go.Proofs.YteccghdegckjhaaGreatDoor

namespace Go.Proofs.YteccghdegckjhaaGreatDoor
open Go.RowKit Go
set_option linter.unusedVariables false
end Go.Proofs.YteccghdegckjhaaGreatDoor

namespace Go.Proofs.YteccghdegckjhaaGreatDoor
open Go.RowKit Go
set_option linter.unusedVariables false
end Go.Proofs.YteccghdegckjhaaGreatDoor

namespace Go.Proofs.YteccghdegckjhaaGreatDoor
open Go.RowKit Go
set_option linter.unusedVariables false
end Go.Proofs.YteccghdegckjhaaGreatDoor

namespace Go.Proofs.YteccghdegckjhaaGreatDoor
open Go.RowKit Go
set_option linter.unusedVariables false
end Go.Proofs.YteccghdegckjhaaGreatDoor
