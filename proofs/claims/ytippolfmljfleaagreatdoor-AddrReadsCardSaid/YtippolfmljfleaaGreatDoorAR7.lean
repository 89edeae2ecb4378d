/-
  The reference's order of addresses; the count of draws never goes down.
  Flows: view.FlowFault and the reference's FlowFault are the same function; Back and BackOf.
  The sum of bytes: filter.Sum and the reference's CheckSumOf are the same function of the bytes.
  The last of the law's marks: filtered is true.
  Generators of flows and times: contracts of Flow, Times.
  Flows turned round, and times: back, Back, BackOf, CheckTimes, TimesFault, Times, filtered.
  Reports: how they lie; when they are equal; their order.
  The fault of a list of reports, in plain words.
-/
import Derived.Test.YtippolfmljfleaaGreatDoorAR6
import Derived.Test.YtippolfmljfleaaGreatDoorAR1
import Derived.Laws.StructEq
import Derived.Lib.Bytealg
import Derived.Lib.Small
set_option linter.unusedVariables false
namespace Go.Proofs.YtippolfmljfleaaGreatDoor
open Go.RowKit Go
set_option linter.unusedVariables false
end Go.Proofs.YtippolfmljfleaaGreatDoor

namespace Go.Proofs.YtippolfmljfleaaGreatDoor
open Go.RowKit
set_option linter.unusedVariables false
end Go.Proofs.YtippolfmljfleaaGreatDoor

namespace Go.Proofs.YtippolfmljfleaaGreatDoor
open Go.RowKit
set_option linter.unusedVariables false

/-- a slice of bytes that can be read -/
structure RdB (w : World) (ad : Option Addr) (bs : List UInt8) : Prop where
  small : bs.length ≤ 140737488351232
  cell : ∀ i, i < bs.length → ∃ g o, ad = some ⟨g, o, none⟩ ∧ g < w.heap.size ∧ w.cell? ⟨g, o + i, none⟩ = some (.int .u8 ((bs.getD i 0).toNat : Int))

end Go.Proofs.YtippolfmljfleaaGreatDoor

namespace Go.Proofs.YtippolfmljfleaaGreatDoor
open Go.RowKit Go
set_option linter.unusedVariables false
end Go.Proofs.YtippolfmljfleaaGreatDoor

namespace Go.Proofs.YtippolfmljfleaaGreatDoor
open Go.RowKit
set_option linter.unusedVariables false
end Go.Proofs.YtippolfmljfleaaGreatDoor

namespace Go.Proofs.YtippolfmljfleaaGreatDoor
open Go.RowKit
set_option linter.unusedVariables false

def FV.back (f : FV) : FV := ⟨f.p, f.s2, f.h2, f.l2, f.s1, f.h1, f.l1, f.tp, f.fp⟩

/-! times -/
structure TV where
  y : Int
  t : Int
  d : Int
  o : Int
def TV.cells (x : TV) : Array Value := #[.int .i64 x.y, .int .i64 x.t, .int .i64 x.d, .int .i64 x.o]
def TV.ok (x : TV) : Prop := I41 x.y ∧ I41 x.t ∧ I41 x.d ∧ I41 x.o
def TV.zero : TV := ⟨0, 0, 0, 0⟩
end Go.Proofs.YtippolfmljfleaaGreatDoor

namespace Go.Proofs.YtippolfmljfleaaGreatDoor
open Go.RowKit Go
set_option linter.unusedVariables false

/-- a report -/
structure RP where
  node : ByteArray
  hour : Int
  out : Bool
  f : FV
  pk : Int
  sz : Int
def RP.Sm (r : RP) : Prop := r.f.ok ∧ -1099511627777 ≤ r.hour ∧ r.hour ≤ 1099511627777 ∧ r.node.size ≤ 1000
/-- a report whose numbers are not too far off -/
def RB : Type := {r : RP // r.Sm}
theorem fvz_ok : FV.zero.ok := by
  unfold FV.zero FV.ok I41 U64
  simp
instance : Inhabited RB := ⟨⟨⟨⟨#[]⟩, 0, false, FV.zero, 0, 0⟩, fvz_ok, by show -1099511627777 ≤ (0 : Int); decide, by show (0 : Int) ≤ 1099511627777; decide, by decide⟩⟩
def rpC (x : RP) : List Value := [.string x.node, .int .i64 x.hour, .bool x.out, .int .i64 x.f.p, .bool x.f.s1, .int .u64 x.f.h1, .int .u64 x.f.l1, .bool x.f.s2, .int .u64 x.f.h2, .int .u64 x.f.l2, .int .i64 x.f.fp, .int .i64 x.f.tp, .int .i64 x.pk, .int .i64 x.sz]
/-! ### order -/
def cA (s : Bool) (h l : Int) (s' : Bool) (h' l' : Int) : Int := cN (numA s h.toNat l.toNat) (numA s' h'.toNat l'.toNat)
def cS (a b : ByteArray) : Int := Lib.compareBytes a.data.toList b.data.toList
def cBo (a b : Bool) : Int := if a = b then 0 else if b = true then -1 else 1
def cF (a b : FV) : Int := orI (Lib.compareInt a.p b.p) (orI (cA a.s1 a.h1 a.l1 b.s1 b.h1 b.l1) (orI (cA a.s2 a.h2 a.l2 b.s2 b.h2 b.l2) (orI (Lib.compareInt a.fp b.fp) (Lib.compareInt a.tp b.tp))))
def cR (a b : RB) : Int := orI (Lib.compareInt a.1.hour b.1.hour) (orI (cS a.1.node b.1.node) (orI (cBo a.1.out b.1.out) (cF a.1.f b.1.f)))
end Go.Proofs.YtippolfmljfleaaGreatDoor

namespace Go.Proofs.YtippolfmljfleaaGreatDoor
open Go.RowKit Go
set_option linter.unusedVariables false

/-- the bytes of a key -/
def smallC (c : UInt8) : Bool := 97 ≤ c && c ≤ 122
def digitC (c : UInt8) : Bool := 48 ≤ c && c ≤ 57
def keyC (c : UInt8) : Bool := smallC c || digitC c || c == 45 || c == 95
def keyB (l : List UInt8) : Bool := decide (1 ≤ l.length ∧ l.length ≤ 40) && (l.take 1).all smallC && l.all keyC
end Go.Proofs.YtippolfmljfleaaGreatDoor
