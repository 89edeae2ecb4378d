/-
  Packets: the fault in the reference's words.
-/
import Derived.Test.YtaamonhhclffcaaPktF
import Derived.BigQuiet
import Derived.Deep.Cut
namespace Go.Proofs.Ytaamonhhclffcaa
open Go.RowKit Go
set_option linter.unusedVariables false

theorem ite_merge {α : Type} {P Q : Prop} {_ : Decidable P} {_ : Decidable Q} (a r : α) : (if P then a else if Q then a else r) = if P ∨ Q then a else r := by
  by_cases h : P <;> by_cases k : Q <;> simp [h, k]
theorem pktFault_ref (x : PV) (n : Nat) : pktFault x n = if aFault x.s1 x.h1 x.l1 ≠ 0 then aFault x.s1 x.h1 x.l1 else if aFault x.s2 x.h2 x.l2 ≠ 0 then aFault x.s2 x.h2 x.l2 else if (x.s1 != x.s2) = true then 10 else if (!(inB x.hops 0 255)) = true then 1 else if (((!(x.proto == 6)) && (!(x.proto == 17))) && (!(x.proto == 1))) = true then 4 else if ((((((!(inB x.fp 0 65535)) || (!(inB x.tp 0 65535))) || (!(inB x.seq 0 4294967295))) || (!(inB x.ack 0 4294967295))) || (!(inB x.id 0 65535))) || ((x.proto == 1) && (decide (65535 < x.seq)))) = true then 1 else if ((x.proto == 1) && ((x.fp != 0) || (x.tp != 0))) = true then 3 else if ((!(x.proto == 6)) && ((((x.syn || x.fin) || x.rst) || x.has) || (x.ack != 0))) = true then 3 else if ((x.proto == 17) && (x.seq != 0)) = true then 3 else if ((!(x.proto == 1)) && (x.reply || (x.id != 0))) = true then 3 else if ((!x.has) && (x.ack != 0)) = true then 3 else if (decide (1400 < (n : Int))) = true then 2 else 0 := by
  unfold pktFault
  rw [ite_merge (P := (outB x.fp 0 65535 = true ∨ outB x.tp 0 65535 = true)), ite_merge (P := ((x.proto == 1) && ((x.fp != 0) || (x.tp != 0))) = true), ite_merge (Q := ((x.proto == 17) && (x.seq != 0)) = true), ite_merge (Q := ((!(x.proto == 1)) && (x.reply || (x.id != 0))) = true), ite_merge (Q := ((!x.has) && (x.ack != 0)) = true)]
  refine ite_congr rfl (fun _ => rfl) fun _ => ite_congr rfl (fun _ => rfl) fun _ => ite_congr ?_ (fun _ => rfl) fun _ => ite_congr ?_ (fun _ => rfl) fun _ => ite_congr ?_ (fun _ => rfl) fun h3 => ite_congr ?_ (fun _ => rfl) fun _ => ite_congr ?_ (fun _ => rfl) fun _ => ite_congr ?_ (fun _ => rfl) fun _ => rfl
  · simp
  · simp [inB_out]
  · unfold hasPorts
    cases (x.proto == 1) <;> cases (x.proto == 6) <;> cases (x.proto == 17) <;> simp
  · simp [inB_out, or_assoc]
  · have h4 : x.proto = 1 ∨ x.proto = 6 ∨ x.proto = 17 := by
      by_cases h1 : x.proto = 1
      · exact .inl h1
      · by_cases h6 : x.proto = 6
        · exact .inr (.inl h6)
        · by_cases h17 : x.proto = 17
          · exact .inr (.inr h17)
          · exact absurd (by simp [h1, h6, h17]) h3
    have hun : unusedB x = (((x.proto == 1) && ((x.fp != 0) || (x.tp != 0))) || ((!(x.proto == 6)) && ((((x.syn || x.fin) || x.rst) || x.has) || (x.ack != 0))) || ((x.proto == 17) && (x.seq != 0)) || ((!(x.proto == 1)) && (x.reply || (x.id != 0)))) := by
      unfold unusedB
      rcases h4 with h | h | h <;> rw [h] <;> rfl
    rw [hun, show (x.ack ≠ 0 ∧ x.has = false) = ((!x.has && x.ack != 0) = true) from propext (by simp [and_comm])]
    simp only [Bool.or_eq_true]
  · rw [decide_eq_true_eq]
    exact propext (by omega)

end Go.Proofs.Ytaamonhhclffcaa
