/-
  A right packet is written by the reference: the part behind the addresses.
-/
import Derived.Test.YtakjopbdkkcnlaaPR9
import Derived.Test.YtakjopbdkkcnlaaPR10
import Derived.Test.YtakjopbdkkcnlaaPR11
import Derived.Deep.Cut
set_option linter.unusedVariables false
namespace Go.Proofs.Ytakjopbdkkcnlaa
open Go.RowKit Go
set_option linter.unusedVariables false

theorem part_any (x : NP) (hx : x.fit) (pa : Option Addr) (pc : Nat) (pay : List UInt8) (w : World) (hr : Rb w.heap.size w (.slice pa pay.length pc) pay) (hpl : pay.length ≤ 1401) :
  Calls Try.prog 64 #[.agg (x.pv (.slice pa pay.length pc)).cells] w fun e w' => ∃ v, e = .returned (.tuple #[v, .int .i64 ((sumAtN x.proto : Nat) : Int)]) ∧ OwnB w' w.heap.size v (partB x pay) ∧ Below w.heap.size w w' := by
 rcases hx.proto with h | h | h
 ·exact part_1 x hx pa pc pay w hr hpl h
 ·exact part_6 x hx pa pc pay w hr hpl h
 ·exact part_17 x hx pa pc pay w hr hpl h
end Go.Proofs.Ytakjopbdkkcnlaa
