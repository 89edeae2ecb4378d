/-
  A right packet is written by the reference: lemmas of the part.
-/
import Derived.Test.YtaamonhhclffcaaPktQ
import Derived.Deep.Cut
namespace Go.Proofs.Ytaamonhhclffcaa
open Go.RowKit Go
set_option linter.unusedVariables false

theorem Op1.of_run {P : Program} {o : Oper} {ρ : Operand → Value} {w w2 : World} {v : Value} {post : Value → World → Prop} (hr : (execOp ρ o).run P w = .ok (.value v) w2) (h : post v w2) : Op1 P o ρ w post := by
  unfold Op1
  rw [hr]
  exact h
theorem rb_lit {B : Nat} {w : World} {v : Value} {L : List UInt8} (h : Rb B w v L) : ∃ ad n c, v = .slice ad n c ∧ Hid (Rb B w (.slice ad n c) L) := by
  obtain ⟨ad, c, e, -⟩ := id h
  exact ⟨ad, L.length, c, e, e ▸ h⟩
theorem FS.rebase2 {B : Nat} {w1 : World} {P0 : Nat} {x : PV} {pay : List UInt8} {w : World} (h : FS B w1 P0 x pay w) : FS w.heap.size w P0 x pay w :=
  ⟨Below.refl _ _, Nat.le_refl _, h.p, Blk.lt h.p, h.rb.mono h.sz⟩
theorem bit_ob {c : RC} (hB : c.fine) {n : Nat} {w : World} (hC : c.C n w) (b : Bool) (k : UInt8) :
    Calls Try.prog 98 #[.bool b, .int .u8 (k.toNat : Int)] w fun e w' => ∃ v', e = .returned v' ∧ Ds.R c (.val (encB (if b = true then k else 0))) v' n w' ∧ c.C n w' ∧ c.S n w n w' := by
  rw [← bit_enc]
  exact ret_ob hB hC (bit_any b _ w)
theorem flag_sum (x : NP) : (((if x.fin = true then (1 : UInt8) else 0) + (if x.syn = true then (2 : UInt8) else 0)) + (if x.rst = true then (4 : UInt8) else 0)) + (if x.has = true then (16 : UInt8) else 0) = b8 (flagN x) := by
  unfold flagN
  cases x.fin <;> cases x.syn <;> cases x.rst <;> cases x.has <;> rfl
end Go.Proofs.Ytaamonhhclffcaa
