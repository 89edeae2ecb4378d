/-
  The first bytes of a packet whose addresses are long, as the program reads them.
-/
import Derived.Test.YtakjopbdkkcnlaaPR4
set_option linter.unusedVariables false
namespace Go.Proofs.Ytakjopbdkkcnlaa
open Go.RowKit Go
set_option linter.unusedVariables false


theorem sb3 (L : List UInt8) (h : 4 ≤ L.length) : (sb L 1 3) = [ub L 1, ub L 2, ub L 3] := by
 rw [sb_cut L 1 1 2 2 3 rfl rfl, sb_cut L 2 1 1 3 2 rfl rfl, sb_one L 1 (by omega), sb_one L 2 (by omega), sb_one L 3 (by omega)]
 rfl
set_option maxRecDepth 100000 in
set_option maxHeartbeats 4000000 in
theorem readSix_any (w : World) (P B g o c nb : Nat) (L : List UInt8) (hS : RS w P B (.slice (some ⟨g, o, none⟩) nb c) L PV.zero w) (h20 : 20 ≤ nb) (hL : L.length ≤ 2000) :
  Calls Try.prog 71 #[.pointer (some ⟨P, 0, none⟩), .slice (some ⟨g, o, none⟩) nb c] w fun e w' =>
   (form6 L ∧ e = .returned (.tuple #[subV (some ⟨g, o, none⟩) c 40 nb, .int .i64 0]) ∧ RS w P B (.slice (some ⟨g, o, none⟩) nb c) L ((x6 L).pv (.slice none 0 0)) w') ∨
   (¬ form6 L ∧ e = .returned (.tuple #[.slice none 0 0, .int .i64 3]) ∧ w.grownBy w' (some P)) := by
 obtain ⟨hn, hc1, hc2⟩ := hS.rb.len
 have Hn : Hid (L.length = nb) := Lib.hid hn.symm
 rw [hn.symm] at hc1 hL
 have hcn : nb ≤ c := hc1
 have HS0 := Lib.hid hS
 clear hS hn hc1
 go_enter Try.func71, Try.ntmps71
 go_upto_region 1 with fail
 have HS1 := HS0
 rcases Nat.lt_or_ge nb 40 with h40 | h40
 ·have H1 : Hid ((decide (((nb : Nat) : Int) < 40)) = true) := Lib.hid (decide_eq_true (by omega))
  have Hf : Hid (¬ form6 L) := Lib.hid fun hf => by have := hf.1; have := Hn.out; omega
  refine Lm.wp_region_seq 19 0 (fun p vv nn ww => (List.getD ((.val (.slice (some ⟨g, o, none⟩) nb c)) :: (.val (.int .i64 ((nb : Nat) : Int))) :: (.val (.bool true)) :: (.val (.bool true)) :: (.val (undef)) :: (.val (undef)) :: (.val (undef)) :: (.val (undef)) :: (.val (undef)) :: (.val (undef)) :: (.val (undef)) :: (.val (undef)) :: (.val (.bool true)) :: (.val (.bool true)) :: (.val (undef)) :: (.val (undef)) :: (.val (undef)) :: (.val (undef)) :: (.val (.bool true)) :: [] : List Vd) p .any).R vv nn ww) (fun _ ww => RS w P B (.slice (some ⟨g, o, none⟩) nb c) L (PV.zero) ww ∧ Below w.heap.size w ww) SS (fun _ => 0) (fun _ => 0)
   (by kernel_rfl) (by kernel_rfl) (by decide) (by kernel_rfl) (fun p vv nn ww n' w' h hs => Vd.keep _ h hs) (⟨HS1.out, Below.refl _ _⟩) ?hXa
  case' hXa => (apply Exists.intro; refine ⟨fun T => ?hAa, ?hoba, ?henda⟩)
  case hAa =>
   simp only [setAll, List.take_succ_cons, List.take_zero, Act.put, List.setIfInBounds_toArray, List.set_cons_succ, List.set_cons_zero, Nat.reduceAdd]
   exact rfl
  case hoba =>
   refine ⟨?_, ?_, ?_, ?_, ?_, ?_, ?_, ?_, ?_, ?_, ?_, ?_, ?_, ?_, ?_, ?_, ?_, ?_, ?_, trivial⟩
   ·intro T wx n hC (hn : n ≤ 0) hp
    refine Op1.g fun _ Z => ?_; go_simp; exact Z _ _ ⟨rfl, hC, sR⟩
   ·intro T wx n hC (hn : n ≤ 0) hp
    obtain ⟨(d0 : T 0 = .slice (some ⟨g, o, none⟩) nb c), -⟩ := hp
    refine Op1.g fun _ Z => ?_; go_simp; exact Z _ _ ⟨rfl, hC, sR⟩
   ·intro T wx n hC (hn : n ≤ 0) hp
    obtain ⟨(d1 : T 1 = .int .i64 ((nb : Nat) : Int)), -⟩ := hp
    refine Op1.g fun _ Z => ?_; go_simp; first | exact Z _ _ ⟨congrArg Value.bool (H1.out), hC, sR⟩ | exact Z _ _ ⟨rfl, hC, sR⟩
   ·intro T wx n hC (hn : n ≤ 0) hp
    obtain ⟨(d2 : T 2 = .bool true), -⟩ := hp
    refine Op1.g fun _ Z => ?_; go_simp; exact Z _ _ ⟨rfl, hC, sR⟩
   ·intro T wx n hC (hn : n ≤ 0) hp
    obtain ⟨(d3 : T 3 = .bool true), -⟩ := hp
    refine ⟨fun hT => ?_, fun hT => ⟨rfl, hC, sR⟩⟩
    rw [d3] at hT
    cases hT
   ·intro T wx n hC (hn : n ≤ 0) hp
    obtain ⟨-, (d3 : T 3 = .bool true), -⟩ := hp
    refine ⟨fun hT => ?_, fun hT => ⟨rfl, hC, sR⟩⟩
    rw [d3] at hT
    cases hT
   ·intro T wx n hC (hn : n ≤ 0) hp
    obtain ⟨-, (d3 : T 3 = .bool true), -⟩ := hp
    refine ⟨fun hT => ?_, fun hT => ⟨rfl, hC, sR⟩⟩
    rw [d3] at hT
    cases hT
   ·intro T wx n hC (hn : n ≤ 0) hp
    obtain ⟨-, (d3 : T 3 = .bool true), -⟩ := hp
    refine ⟨fun hT => ?_, fun hT => ⟨rfl, hC, sR⟩⟩
    rw [d3] at hT
    cases hT
   ·intro T wx n hC (hn : n ≤ 0) hp
    obtain ⟨(d3 : T 3 = .bool true), -⟩ := hp
    refine ⟨fun hT => ?_, fun hT => ⟨rfl, hC, sR⟩⟩
    rw [d3] at hT
    cases hT
   ·intro T wx n hC (hn : n ≤ 0) hp
    obtain ⟨-, (d3 : T 3 = .bool true), -⟩ := hp
    refine ⟨fun hT => ?_, fun hT => ⟨rfl, hC, sR⟩⟩
    rw [d3] at hT
    cases hT
   ·intro T wx n hC (hn : n ≤ 0) hp
    obtain ⟨-, (d3 : T 3 = .bool true), -⟩ := hp
    refine ⟨fun hT => ?_, fun hT => ⟨rfl, hC, sR⟩⟩
    rw [d3] at hT
    cases hT
   ·intro T wx n hC (hn : n ≤ 0) hp
    obtain ⟨-, -, (d3 : T 3 = .bool true), -⟩ := hp
    refine ⟨fun hT => ?_, fun hT => ⟨rfl, hC, sR⟩⟩
    rw [d3] at hT
    cases hT
   ·intro T wx n hC (hn : n ≤ 0) hp
    obtain ⟨(d3 : T 3 = .bool true), -⟩ := hp
    refine Op1.g fun _ Z => ?_; go_simp; exact Z _ _ ⟨rfl, hC, sR⟩
   ·intro T wx n hC (hn : n ≤ 0) hp
    obtain ⟨(d12 : T 12 = .bool true), -⟩ := hp
    refine Op1.g fun _ Z => ?_; go_simp; exact Z _ _ ⟨rfl, hC, sR⟩
   ·intro T wx n hC (hn : n ≤ 0) hp
    obtain ⟨(d13 : T 13 = .bool true), -⟩ := hp
    refine ⟨fun hT => ?_, fun hT => ⟨rfl, hC, sR⟩⟩
    rw [d13] at hT
    cases hT
   ·intro T wx n hC (hn : n ≤ 0) hp
    obtain ⟨-, (d13 : T 13 = .bool true), -⟩ := hp
    refine ⟨fun hT => ?_, fun hT => ⟨rfl, hC, sR⟩⟩
    rw [d13] at hT
    cases hT
   ·intro T wx n hC (hn : n ≤ 0) hp
    obtain ⟨-, (d13 : T 13 = .bool true), -⟩ := hp
    refine ⟨fun hT => ?_, fun hT => ⟨rfl, hC, sR⟩⟩
    rw [d13] at hT
    cases hT
   ·intro T wx n hC (hn : n ≤ 0) hp
    obtain ⟨-, (d13 : T 13 = .bool true), -⟩ := hp
    refine ⟨fun hT => ?_, fun hT => ⟨rfl, hC, sR⟩⟩
    rw [d13] at hT
    cases hT
   ·intro T wx n hC (hn : n ≤ 0) hp
    obtain ⟨(d13 : T 13 = .bool true), -⟩ := hp
    refine Op1.g fun _ Z => ?_; go_simp; exact Z _ _ ⟨rfl, hC, sR⟩
  case henda =>
   intro T wx ⟨n, hn, hC, hR⟩
   have HSa := Lib.hid hC.1
   have HBa := Lib.hid hC.2
   have r24 : T 18 = .bool true := hR 18 (by omega)
   rw [r24]
   clear r24
   clear hR hC
   simp only [List.drop_succ_cons, List.drop_nil]
   unfold wpList
   go_wp2_with fail
   go_ret2
   exact .inr ⟨Hf.out, rfl, HSa.out.g⟩
 ·have H1 : Hid ((decide (((nb : Nat) : Int) < 40)) = false) := Lib.hid (decide_eq_false (by omega))
  rcases (Decidable.em (num (sb L 4 2) = nb - 40)).symm with hq | hq
  ·have H2 : Hid ((((num (sb L 4 2) : Nat) : Int) != (((nb - 40) : Nat) : Int)) = true) := Lib.hid (by rw [bne_iff_ne]; intro e; exact hq (Int.ofNat.inj e))
   have Hf : Hid (¬ form6 L) := Lib.hid fun hf => hq (by rw [← Hn.out]; exact hf.2.1)
   clear hq
   refine Lm.wp_region_seq 19 0 (fun p vv nn ww => (List.getD ((.val (.slice (some ⟨g, o, none⟩) nb c)) :: (.val (.int .i64 ((nb : Nat) : Int))) :: (.val (.bool false)) :: (.val (.bool false)) :: (.val (.slice (some ⟨g, o, none⟩) nb c)) :: (.val (subV (some ⟨g, o, none⟩) c 4 6)) :: (.val (.int .u64 ((num (sb L 4 2) : Nat) : Int))) :: (.val (.int .i64 ((num (sb L 4 2) : Nat) : Int))) :: (.val (.slice (some ⟨g, o, none⟩) nb c)) :: (.val (.int .i64 ((nb : Nat) : Int))) :: (.val (.int .i64 ((nb - 40 : Nat) : Int))) :: (.val (.bool true)) :: (.val (.bool true)) :: (.val (.bool true)) :: (.val (undef)) :: (.val (undef)) :: (.val (undef)) :: (.val (undef)) :: (.val (.bool true)) :: [] : List Vd) p .any).R vv nn ww) (fun _ ww => RS w P B (.slice (some ⟨g, o, none⟩) nb c) L (PV.zero) ww ∧ Below w.heap.size w ww) SS (fun _ => 0) (fun _ => 0)
    (by kernel_rfl) (by kernel_rfl) (by decide) (by kernel_rfl) (fun p vv nn ww n' w' h hs => Vd.keep _ h hs) (⟨HS1.out, Below.refl _ _⟩) ?hXb
   case' hXb => (apply Exists.intro; refine ⟨fun T => ?hAb, ?hobb, ?hendb⟩)
   case hAb =>
    simp only [setAll, List.take_succ_cons, List.take_zero, Act.put, List.setIfInBounds_toArray, List.set_cons_succ, List.set_cons_zero, Nat.reduceAdd]
    exact rfl
   case hobb =>
    refine ⟨?_, ?_, ?_, ?_, ?_, ?_, ?_, ?_, ?_, ?_, ?_, ?_, ?_, ?_, ?_, ?_, ?_, ?_, ?_, trivial⟩
    ·intro T wx n hC (hn : n ≤ 0) hp
     refine Op1.g fun _ Z => ?_; go_simp; exact Z _ _ ⟨rfl, hC, sR⟩
    ·intro T wx n hC (hn : n ≤ 0) hp
     obtain ⟨(d0 : T 0 = .slice (some ⟨g, o, none⟩) nb c), -⟩ := hp
     refine Op1.g fun _ Z => ?_; go_simp; exact Z _ _ ⟨rfl, hC, sR⟩
    ·intro T wx n hC (hn : n ≤ 0) hp
     obtain ⟨(d1 : T 1 = .int .i64 ((nb : Nat) : Int)), -⟩ := hp
     refine Op1.g fun _ Z => ?_; go_simp; first | exact Z _ _ ⟨congrArg Value.bool (H1.out), hC, sR⟩ | exact Z _ _ ⟨rfl, hC, sR⟩
    ·intro T wx n hC (hn : n ≤ 0) hp
     obtain ⟨(d2 : T 2 = .bool false), -⟩ := hp
     refine Op1.g fun _ Z => ?_; go_simp; exact Z _ _ ⟨rfl, hC, sR⟩
    ·intro T wx n hC (hn : n ≤ 0) hp
     obtain ⟨(d3 : T 3 = .bool false), -⟩ := hp
     refine ⟨fun hT => ?_, fun hT => absurd d3 hT⟩
     refine Op1.g fun _ Z => ?_; go_simp; exact Z _ _ ⟨rfl, hC, sR⟩
    ·intro T wx n hC (hn : n ≤ 0) hp
     obtain ⟨(d4 : T 4 = .slice (some ⟨g, o, none⟩) nb c), (d3 : T 3 = .bool false), -⟩ := hp
     refine ⟨fun hT => ?_, fun hT => absurd d3 hT⟩
     exact Op1.slice_lh (l := 4) (h := 6) (.tmp 10) (.const (.int .i64 4)) (.const (.int .i64 6)) rfl d4 rfl rfl (by omega) (by omega) ⟨rfl, hC, sR⟩
    ·intro T wx n hC (hn : n ≤ 0) hp
     obtain ⟨(d5 : T 5 = subV (some ⟨g, o, none⟩) c 4 6), (d3 : T 3 = .bool false), -⟩ := hp
     refine ⟨fun hT => ?_, fun hT => absurd d3 hT⟩
     have hz : (L).length = nb := Hn.out
     refine Op1.g fun _ Z => ?_; go_simp; exact calls_post (val_same0 hC (take_rb (hC.1.rb.sub 4 2 (by omega)) (by rw [sb_len L 4 2 (by omega)]; omega))) Z
    ·intro T wx n hC (hn : n ≤ 0) hp
     obtain ⟨(d6 : T 6 = .int .u64 ((num (sb L 4 2) : Nat) : Int)), (d3 : T 3 = .bool false), -⟩ := hp
     refine ⟨fun hT => ?_, fun hT => absurd d3 hT⟩
     refine Op1.g fun _ Z => ?_; go_simp
     have hb := Nat.lt_of_lt_of_le (num_sb L 4 2) (by decide : 256 ^ 2 ≤ 65536)
     first | exact Z _ _ ⟨rfl, hC, sR⟩ | (refine Z _ _ ⟨congrArg (Value.int _) ?_, hC, sR⟩; first | omega | (simp only [IntKind.wrap_i64]; omega))
    ·intro T wx n hC (hn : n ≤ 0) hp
     obtain ⟨(d3 : T 3 = .bool false), -⟩ := hp
     refine ⟨fun hT => ?_, fun hT => absurd d3 hT⟩
     refine Op1.g fun _ Z => ?_; go_simp; exact Z _ _ ⟨rfl, hC, sR⟩
    ·intro T wx n hC (hn : n ≤ 0) hp
     obtain ⟨(d8 : T 8 = .slice (some ⟨g, o, none⟩) nb c), (d3 : T 3 = .bool false), -⟩ := hp
     refine ⟨fun hT => ?_, fun hT => absurd d3 hT⟩
     refine Op1.g fun _ Z => ?_; go_simp; exact Z _ _ ⟨rfl, hC, sR⟩
    ·intro T wx n hC (hn : n ≤ 0) hp
     obtain ⟨(d9 : T 9 = .int .i64 ((nb : Nat) : Int)), (d3 : T 3 = .bool false), -⟩ := hp
     refine ⟨fun hT => ?_, fun hT => absurd d3 hT⟩
     refine Op1.g fun _ Z => ?_; go_simp
     first | exact Z _ _ ⟨rfl, hC, sR⟩ | (refine Z _ _ ⟨congrArg (Value.int _) ?_, hC, sR⟩; first | omega | (simp only [IntKind.wrap_i64]; omega))
    ·intro T wx n hC (hn : n ≤ 0) hp
     obtain ⟨(d7 : T 7 = .int .i64 ((num (sb L 4 2) : Nat) : Int)), (d10 : T 10 = .int .i64 ((nb - 40 : Nat) : Int)), (d3 : T 3 = .bool false), -⟩ := hp
     refine ⟨fun hT => ?_, fun hT => absurd d3 hT⟩
     refine Op1.g fun _ Z => ?_; go_simp; first | exact Z _ _ ⟨congrArg Value.bool (H2.out), hC, sR⟩ | exact Z _ _ ⟨rfl, hC, sR⟩
    ·intro T wx n hC (hn : n ≤ 0) hp
     obtain ⟨(d3 : T 3 = .bool false), (d11 : T 11 = .bool true), -⟩ := hp
     refine Op1.g fun _ Z => ?_; go_simp; exact Z _ _ ⟨rfl, hC, sR⟩
    ·intro T wx n hC (hn : n ≤ 0) hp
     obtain ⟨(d12 : T 12 = .bool true), -⟩ := hp
     refine Op1.g fun _ Z => ?_; go_simp; exact Z _ _ ⟨rfl, hC, sR⟩
    ·intro T wx n hC (hn : n ≤ 0) hp
     obtain ⟨(d13 : T 13 = .bool true), -⟩ := hp
     refine ⟨fun hT => ?_, fun hT => ⟨rfl, hC, sR⟩⟩
     rw [d13] at hT
     cases hT
    ·intro T wx n hC (hn : n ≤ 0) hp
     obtain ⟨-, (d13 : T 13 = .bool true), -⟩ := hp
     refine ⟨fun hT => ?_, fun hT => ⟨rfl, hC, sR⟩⟩
     rw [d13] at hT
     cases hT
    ·intro T wx n hC (hn : n ≤ 0) hp
     obtain ⟨-, (d13 : T 13 = .bool true), -⟩ := hp
     refine ⟨fun hT => ?_, fun hT => ⟨rfl, hC, sR⟩⟩
     rw [d13] at hT
     cases hT
    ·intro T wx n hC (hn : n ≤ 0) hp
     obtain ⟨-, (d13 : T 13 = .bool true), -⟩ := hp
     refine ⟨fun hT => ?_, fun hT => ⟨rfl, hC, sR⟩⟩
     rw [d13] at hT
     cases hT
    ·intro T wx n hC (hn : n ≤ 0) hp
     obtain ⟨(d13 : T 13 = .bool true), -⟩ := hp
     refine Op1.g fun _ Z => ?_; go_simp; exact Z _ _ ⟨rfl, hC, sR⟩
   case hendb =>
    intro T wx ⟨n, hn, hC, hR⟩
    have HSb := Lib.hid hC.1
    have HBb := Lib.hid hC.2
    have r24 : T 18 = .bool true := hR 18 (by omega)
    rw [r24]
    clear r24
    clear hR hC
    simp only [List.drop_succ_cons, List.drop_nil]
    unfold wpList
    go_wp2_with fail
    go_ret2
    exact .inr ⟨Hf.out, rfl, HSb.out.g⟩
  ·have H2 : Hid ((((num (sb L 4 2) : Nat) : Int) != (((nb - 40) : Nat) : Int)) = false) := Lib.hid (by rw [hq]; simp)
   have Hq := Lib.hid hq
   clear hq
   rcases (Decidable.em (ub L 1 = 0 ∧ ub L 2 = 0 ∧ ub L 3 = 0)).symm with hz | hz
   ·have H3 : Hid ((!(sb L 1 3).any (· != 0)) = false) := Lib.hid (by
     rw [sb3 L (by have := Hn.out; omega)]
     simp only [List.any_cons, List.any_nil, Bool.or_false, Bool.not_eq_false', Bool.or_eq_true, bne_iff_ne]
     by_cases a1 : ub L 1 = 0 <;> by_cases a2 : ub L 2 = 0 <;> by_cases a3 : ub L 3 = 0 <;> simp_all)
    have Hf : Hid (¬ form6 L) := Lib.hid fun hf => hz hf.2.2
    clear hz
    refine Lm.wp_region_seq 19 0 (fun p vv nn ww => (List.getD ((.val (.slice (some ⟨g, o, none⟩) nb c)) :: (.val (.int .i64 ((nb : Nat) : Int))) :: (.val (.bool false)) :: (.val (.bool false)) :: (.val (.slice (some ⟨g, o, none⟩) nb c)) :: (.val (subV (some ⟨g, o, none⟩) c 4 6)) :: (.val (.int .u64 ((num (sb L 4 2) : Nat) : Int))) :: (.val (.int .i64 ((num (sb L 4 2) : Nat) : Int))) :: (.val (.slice (some ⟨g, o, none⟩) nb c)) :: (.val (.int .i64 ((nb : Nat) : Int))) :: (.val (.int .i64 ((nb - 40 : Nat) : Int))) :: (.val (.bool false)) :: (.val (.bool false)) :: (.val (.bool false)) :: (.val (.slice (some ⟨g, o, none⟩) nb c)) :: (.val (subV (some ⟨g, o, none⟩) c 1 4)) :: (.val (.bool false)) :: (.val (.bool true)) :: (.val (.bool true)) :: [] : List Vd) p .any).R vv nn ww) (fun _ ww => RS w P B (.slice (some ⟨g, o, none⟩) nb c) L (PV.zero) ww ∧ Below w.heap.size w ww) SS (fun _ => 0) (fun _ => 0)
     (by kernel_rfl) (by kernel_rfl) (by decide) (by kernel_rfl) (fun p vv nn ww n' w' h hs => Vd.keep _ h hs) (⟨HS1.out, Below.refl _ _⟩) ?hXc
    case' hXc => (apply Exists.intro; refine ⟨fun T => ?hAc, ?hobc, ?hendc⟩)
    case hAc =>
     simp only [setAll, List.take_succ_cons, List.take_zero, Act.put, List.setIfInBounds_toArray, List.set_cons_succ, List.set_cons_zero, Nat.reduceAdd]
     exact rfl
    case hobc =>
     refine ⟨?_, ?_, ?_, ?_, ?_, ?_, ?_, ?_, ?_, ?_, ?_, ?_, ?_, ?_, ?_, ?_, ?_, ?_, ?_, trivial⟩
     ·intro T wx n hC (hn : n ≤ 0) hp
      refine Op1.g fun _ Z => ?_; go_simp; exact Z _ _ ⟨rfl, hC, sR⟩
     ·intro T wx n hC (hn : n ≤ 0) hp
      obtain ⟨(d0 : T 0 = .slice (some ⟨g, o, none⟩) nb c), -⟩ := hp
      refine Op1.g fun _ Z => ?_; go_simp; exact Z _ _ ⟨rfl, hC, sR⟩
     ·intro T wx n hC (hn : n ≤ 0) hp
      obtain ⟨(d1 : T 1 = .int .i64 ((nb : Nat) : Int)), -⟩ := hp
      refine Op1.g fun _ Z => ?_; go_simp; first | exact Z _ _ ⟨congrArg Value.bool (H1.out), hC, sR⟩ | exact Z _ _ ⟨rfl, hC, sR⟩
     ·intro T wx n hC (hn : n ≤ 0) hp
      obtain ⟨(d2 : T 2 = .bool false), -⟩ := hp
      refine Op1.g fun _ Z => ?_; go_simp; exact Z _ _ ⟨rfl, hC, sR⟩
     ·intro T wx n hC (hn : n ≤ 0) hp
      obtain ⟨(d3 : T 3 = .bool false), -⟩ := hp
      refine ⟨fun hT => ?_, fun hT => absurd d3 hT⟩
      refine Op1.g fun _ Z => ?_; go_simp; exact Z _ _ ⟨rfl, hC, sR⟩
     ·intro T wx n hC (hn : n ≤ 0) hp
      obtain ⟨(d4 : T 4 = .slice (some ⟨g, o, none⟩) nb c), (d3 : T 3 = .bool false), -⟩ := hp
      refine ⟨fun hT => ?_, fun hT => absurd d3 hT⟩
      exact Op1.slice_lh (l := 4) (h := 6) (.tmp 10) (.const (.int .i64 4)) (.const (.int .i64 6)) rfl d4 rfl rfl (by omega) (by omega) ⟨rfl, hC, sR⟩
     ·intro T wx n hC (hn : n ≤ 0) hp
      obtain ⟨(d5 : T 5 = subV (some ⟨g, o, none⟩) c 4 6), (d3 : T 3 = .bool false), -⟩ := hp
      refine ⟨fun hT => ?_, fun hT => absurd d3 hT⟩
      have hz : (L).length = nb := Hn.out
      refine Op1.g fun _ Z => ?_; go_simp; exact calls_post (val_same0 hC (take_rb (hC.1.rb.sub 4 2 (by omega)) (by rw [sb_len L 4 2 (by omega)]; omega))) Z
     ·intro T wx n hC (hn : n ≤ 0) hp
      obtain ⟨(d6 : T 6 = .int .u64 ((num (sb L 4 2) : Nat) : Int)), (d3 : T 3 = .bool false), -⟩ := hp
      refine ⟨fun hT => ?_, fun hT => absurd d3 hT⟩
      refine Op1.g fun _ Z => ?_; go_simp
      have hb := Nat.lt_of_lt_of_le (num_sb L 4 2) (by decide : 256 ^ 2 ≤ 65536)
      first | exact Z _ _ ⟨rfl, hC, sR⟩ | (refine Z _ _ ⟨congrArg (Value.int _) ?_, hC, sR⟩; first | omega | (simp only [IntKind.wrap_i64]; omega))
     ·intro T wx n hC (hn : n ≤ 0) hp
      obtain ⟨(d3 : T 3 = .bool false), -⟩ := hp
      refine ⟨fun hT => ?_, fun hT => absurd d3 hT⟩
      refine Op1.g fun _ Z => ?_; go_simp; exact Z _ _ ⟨rfl, hC, sR⟩
     ·intro T wx n hC (hn : n ≤ 0) hp
      obtain ⟨(d8 : T 8 = .slice (some ⟨g, o, none⟩) nb c), (d3 : T 3 = .bool false), -⟩ := hp
      refine ⟨fun hT => ?_, fun hT => absurd d3 hT⟩
      refine Op1.g fun _ Z => ?_; go_simp; exact Z _ _ ⟨rfl, hC, sR⟩
     ·intro T wx n hC (hn : n ≤ 0) hp
      obtain ⟨(d9 : T 9 = .int .i64 ((nb : Nat) : Int)), (d3 : T 3 = .bool false), -⟩ := hp
      refine ⟨fun hT => ?_, fun hT => absurd d3 hT⟩
      refine Op1.g fun _ Z => ?_; go_simp
      first | exact Z _ _ ⟨rfl, hC, sR⟩ | (refine Z _ _ ⟨congrArg (Value.int _) ?_, hC, sR⟩; first | omega | (simp only [IntKind.wrap_i64]; omega))
     ·intro T wx n hC (hn : n ≤ 0) hp
      obtain ⟨(d7 : T 7 = .int .i64 ((num (sb L 4 2) : Nat) : Int)), (d10 : T 10 = .int .i64 ((nb - 40 : Nat) : Int)), (d3 : T 3 = .bool false), -⟩ := hp
      refine ⟨fun hT => ?_, fun hT => absurd d3 hT⟩
      refine Op1.g fun _ Z => ?_; go_simp; first | exact Z _ _ ⟨congrArg Value.bool (H2.out), hC, sR⟩ | exact Z _ _ ⟨rfl, hC, sR⟩
     ·intro T wx n hC (hn : n ≤ 0) hp
      obtain ⟨(d3 : T 3 = .bool false), (d11 : T 11 = .bool false), -⟩ := hp
      refine Op1.g fun _ Z => ?_; go_simp; exact Z _ _ ⟨rfl, hC, sR⟩
     ·intro T wx n hC (hn : n ≤ 0) hp
      obtain ⟨(d12 : T 12 = .bool false), -⟩ := hp
      refine Op1.g fun _ Z => ?_; go_simp; exact Z _ _ ⟨rfl, hC, sR⟩
     ·intro T wx n hC (hn : n ≤ 0) hp
      obtain ⟨(d13 : T 13 = .bool false), -⟩ := hp
      refine ⟨fun hT => ?_, fun hT => absurd d13 hT⟩
      refine Op1.g fun _ Z => ?_; go_simp; exact Z _ _ ⟨rfl, hC, sR⟩
     ·intro T wx n hC (hn : n ≤ 0) hp
      obtain ⟨(d14 : T 14 = .slice (some ⟨g, o, none⟩) nb c), (d13 : T 13 = .bool false), -⟩ := hp
      refine ⟨fun hT => ?_, fun hT => absurd d13 hT⟩
      exact Op1.slice_lh (l := 1) (h := 4) (.tmp 20) (.const (.int .i64 1)) (.const (.int .i64 4)) rfl d14 rfl rfl (by omega) (by omega) ⟨rfl, hC, sR⟩
     ·intro T wx n hC (hn : n ≤ 0) hp
      obtain ⟨(d15 : T 15 = subV (some ⟨g, o, none⟩) c 1 4), (d13 : T 13 = .bool false), -⟩ := hp
      refine ⟨fun hT => ?_, fun hT => absurd d13 hT⟩
      have hz : (L).length = nb := Hn.out
      refine Op1.g fun _ Z => ?_; go_simp; exact calls_post (val_same0 hC (zeros_is (hC.1.rb.sub 1 3 (by omega)) (by rw [sb_len L 1 3 (by omega)]; omega) H3.out)) Z
     ·intro T wx n hC (hn : n ≤ 0) hp
      obtain ⟨(d16 : T 16 = .bool false), (d13 : T 13 = .bool false), -⟩ := hp
      refine ⟨fun hT => ?_, fun hT => absurd d13 hT⟩
      refine Op1.g fun _ Z => ?_; go_simp; exact Z _ _ ⟨rfl, hC, sR⟩
     ·intro T wx n hC (hn : n ≤ 0) hp
      obtain ⟨(d13 : T 13 = .bool false), (d17 : T 17 = .bool true), -⟩ := hp
      refine Op1.g fun _ Z => ?_; go_simp; exact Z _ _ ⟨rfl, hC, sR⟩
    case hendc =>
     intro T wx ⟨n, hn, hC, hR⟩
     have HSc := Lib.hid hC.1
     have HBc := Lib.hid hC.2
     have r24 : T 18 = .bool true := hR 18 (by omega)
     rw [r24]
     clear r24
     clear hR hC
     simp only [List.drop_succ_cons, List.drop_nil]
     unfold wpList
     go_wp2_with fail
     go_ret2
     exact .inr ⟨Hf.out, rfl, HSc.out.g⟩
   ·have H3 : Hid ((!(sb L 1 3).any (· != 0)) = true) := Lib.hid (by rw [sb3 L (by have := Hn.out; omega), hz.1, hz.2.1, hz.2.2]; rfl)
    have Hf : Hid (form6 L) := Lib.hid ⟨by rw [Hn.out]; exact h40, Hq.out.trans (by rw [Hn.out]), hz⟩
    clear hz
    refine Lm.wp_region_seq 19 0 (fun p vv nn ww => (List.getD ((.val (.slice (some ⟨g, o, none⟩) nb c)) :: (.val (.int .i64 ((nb : Nat) : Int))) :: (.val (.bool false)) :: (.val (.bool false)) :: (.val (.slice (some ⟨g, o, none⟩) nb c)) :: (.val (subV (some ⟨g, o, none⟩) c 4 6)) :: (.val (.int .u64 ((num (sb L 4 2) : Nat) : Int))) :: (.val (.int .i64 ((num (sb L 4 2) : Nat) : Int))) :: (.val (.slice (some ⟨g, o, none⟩) nb c)) :: (.val (.int .i64 ((nb : Nat) : Int))) :: (.val (.int .i64 ((nb - 40 : Nat) : Int))) :: (.val (.bool false)) :: (.val (.bool false)) :: (.val (.bool false)) :: (.val (.slice (some ⟨g, o, none⟩) nb c)) :: (.val (subV (some ⟨g, o, none⟩) c 1 4)) :: (.val (.bool true)) :: (.val (.bool false)) :: (.val (.bool false)) :: [] : List Vd) p .any).R vv nn ww) (fun _ ww => RS w P B (.slice (some ⟨g, o, none⟩) nb c) L (PV.zero) ww ∧ Below w.heap.size w ww) SS (fun _ => 0) (fun _ => 0)
     (by kernel_rfl) (by kernel_rfl) (by decide) (by kernel_rfl) (fun p vv nn ww n' w' h hs => Vd.keep _ h hs) (⟨HS1.out, Below.refl _ _⟩) ?hXd
    case' hXd => (apply Exists.intro; refine ⟨fun T => ?hAd, ?hobd, ?hendd⟩)
    case hAd =>
     simp only [setAll, List.take_succ_cons, List.take_zero, Act.put, List.setIfInBounds_toArray, List.set_cons_succ, List.set_cons_zero, Nat.reduceAdd]
     exact rfl
    case hobd =>
     refine ⟨?_, ?_, ?_, ?_, ?_, ?_, ?_, ?_, ?_, ?_, ?_, ?_, ?_, ?_, ?_, ?_, ?_, ?_, ?_, trivial⟩
     ·intro T wx n hC (hn : n ≤ 0) hp
      refine Op1.g fun _ Z => ?_; go_simp; exact Z _ _ ⟨rfl, hC, sR⟩
     ·intro T wx n hC (hn : n ≤ 0) hp
      obtain ⟨(d0 : T 0 = .slice (some ⟨g, o, none⟩) nb c), -⟩ := hp
      refine Op1.g fun _ Z => ?_; go_simp; exact Z _ _ ⟨rfl, hC, sR⟩
     ·intro T wx n hC (hn : n ≤ 0) hp
      obtain ⟨(d1 : T 1 = .int .i64 ((nb : Nat) : Int)), -⟩ := hp
      refine Op1.g fun _ Z => ?_; go_simp; first | exact Z _ _ ⟨congrArg Value.bool (H1.out), hC, sR⟩ | exact Z _ _ ⟨rfl, hC, sR⟩
     ·intro T wx n hC (hn : n ≤ 0) hp
      obtain ⟨(d2 : T 2 = .bool false), -⟩ := hp
      refine Op1.g fun _ Z => ?_; go_simp; exact Z _ _ ⟨rfl, hC, sR⟩
     ·intro T wx n hC (hn : n ≤ 0) hp
      obtain ⟨(d3 : T 3 = .bool false), -⟩ := hp
      refine ⟨fun hT => ?_, fun hT => absurd d3 hT⟩
      refine Op1.g fun _ Z => ?_; go_simp; exact Z _ _ ⟨rfl, hC, sR⟩
     ·intro T wx n hC (hn : n ≤ 0) hp
      obtain ⟨(d4 : T 4 = .slice (some ⟨g, o, none⟩) nb c), (d3 : T 3 = .bool false), -⟩ := hp
      refine ⟨fun hT => ?_, fun hT => absurd d3 hT⟩
      exact Op1.slice_lh (l := 4) (h := 6) (.tmp 10) (.const (.int .i64 4)) (.const (.int .i64 6)) rfl d4 rfl rfl (by omega) (by omega) ⟨rfl, hC, sR⟩
     ·intro T wx n hC (hn : n ≤ 0) hp
      obtain ⟨(d5 : T 5 = subV (some ⟨g, o, none⟩) c 4 6), (d3 : T 3 = .bool false), -⟩ := hp
      refine ⟨fun hT => ?_, fun hT => absurd d3 hT⟩
      have hz : (L).length = nb := Hn.out
      refine Op1.g fun _ Z => ?_; go_simp; exact calls_post (val_same0 hC (take_rb (hC.1.rb.sub 4 2 (by omega)) (by rw [sb_len L 4 2 (by omega)]; omega))) Z
     ·intro T wx n hC (hn : n ≤ 0) hp
      obtain ⟨(d6 : T 6 = .int .u64 ((num (sb L 4 2) : Nat) : Int)), (d3 : T 3 = .bool false), -⟩ := hp
      refine ⟨fun hT => ?_, fun hT => absurd d3 hT⟩
      refine Op1.g fun _ Z => ?_; go_simp
      have hb := Nat.lt_of_lt_of_le (num_sb L 4 2) (by decide : 256 ^ 2 ≤ 65536)
      first | exact Z _ _ ⟨rfl, hC, sR⟩ | (refine Z _ _ ⟨congrArg (Value.int _) ?_, hC, sR⟩; first | omega | (simp only [IntKind.wrap_i64]; omega))
     ·intro T wx n hC (hn : n ≤ 0) hp
      obtain ⟨(d3 : T 3 = .bool false), -⟩ := hp
      refine ⟨fun hT => ?_, fun hT => absurd d3 hT⟩
      refine Op1.g fun _ Z => ?_; go_simp; exact Z _ _ ⟨rfl, hC, sR⟩
     ·intro T wx n hC (hn : n ≤ 0) hp
      obtain ⟨(d8 : T 8 = .slice (some ⟨g, o, none⟩) nb c), (d3 : T 3 = .bool false), -⟩ := hp
      refine ⟨fun hT => ?_, fun hT => absurd d3 hT⟩
      refine Op1.g fun _ Z => ?_; go_simp; exact Z _ _ ⟨rfl, hC, sR⟩
     ·intro T wx n hC (hn : n ≤ 0) hp
      obtain ⟨(d9 : T 9 = .int .i64 ((nb : Nat) : Int)), (d3 : T 3 = .bool false), -⟩ := hp
      refine ⟨fun hT => ?_, fun hT => absurd d3 hT⟩
      refine Op1.g fun _ Z => ?_; go_simp
      first | exact Z _ _ ⟨rfl, hC, sR⟩ | (refine Z _ _ ⟨congrArg (Value.int _) ?_, hC, sR⟩; first | omega | (simp only [IntKind.wrap_i64]; omega))
     ·intro T wx n hC (hn : n ≤ 0) hp
      obtain ⟨(d7 : T 7 = .int .i64 ((num (sb L 4 2) : Nat) : Int)), (d10 : T 10 = .int .i64 ((nb - 40 : Nat) : Int)), (d3 : T 3 = .bool false), -⟩ := hp
      refine ⟨fun hT => ?_, fun hT => absurd d3 hT⟩
      refine Op1.g fun _ Z => ?_; go_simp; first | exact Z _ _ ⟨congrArg Value.bool (H2.out), hC, sR⟩ | exact Z _ _ ⟨rfl, hC, sR⟩
     ·intro T wx n hC (hn : n ≤ 0) hp
      obtain ⟨(d3 : T 3 = .bool false), (d11 : T 11 = .bool false), -⟩ := hp
      refine Op1.g fun _ Z => ?_; go_simp; exact Z _ _ ⟨rfl, hC, sR⟩
     ·intro T wx n hC (hn : n ≤ 0) hp
      obtain ⟨(d12 : T 12 = .bool false), -⟩ := hp
      refine Op1.g fun _ Z => ?_; go_simp; exact Z _ _ ⟨rfl, hC, sR⟩
     ·intro T wx n hC (hn : n ≤ 0) hp
      obtain ⟨(d13 : T 13 = .bool false), -⟩ := hp
      refine ⟨fun hT => ?_, fun hT => absurd d13 hT⟩
      refine Op1.g fun _ Z => ?_; go_simp; exact Z _ _ ⟨rfl, hC, sR⟩
     ·intro T wx n hC (hn : n ≤ 0) hp
      obtain ⟨(d14 : T 14 = .slice (some ⟨g, o, none⟩) nb c), (d13 : T 13 = .bool false), -⟩ := hp
      refine ⟨fun hT => ?_, fun hT => absurd d13 hT⟩
      exact Op1.slice_lh (l := 1) (h := 4) (.tmp 20) (.const (.int .i64 1)) (.const (.int .i64 4)) rfl d14 rfl rfl (by omega) (by omega) ⟨rfl, hC, sR⟩
     ·intro T wx n hC (hn : n ≤ 0) hp
      obtain ⟨(d15 : T 15 = subV (some ⟨g, o, none⟩) c 1 4), (d13 : T 13 = .bool false), -⟩ := hp
      refine ⟨fun hT => ?_, fun hT => absurd d13 hT⟩
      have hz : (L).length = nb := Hn.out
      refine Op1.g fun _ Z => ?_; go_simp; exact calls_post (val_same0 hC (zeros_is (hC.1.rb.sub 1 3 (by omega)) (by rw [sb_len L 1 3 (by omega)]; omega) H3.out)) Z
     ·intro T wx n hC (hn : n ≤ 0) hp
      obtain ⟨(d16 : T 16 = .bool true), (d13 : T 13 = .bool false), -⟩ := hp
      refine ⟨fun hT => ?_, fun hT => absurd d13 hT⟩
      refine Op1.g fun _ Z => ?_; go_simp; exact Z _ _ ⟨rfl, hC, sR⟩
     ·intro T wx n hC (hn : n ≤ 0) hp
      obtain ⟨(d13 : T 13 = .bool false), (d17 : T 17 = .bool false), -⟩ := hp
      refine Op1.g fun _ Z => ?_; go_simp; exact Z _ _ ⟨rfl, hC, sR⟩
    case hendd =>
     intro T wx ⟨n, hn, hC, hR⟩
     have HSd := Lib.hid hC.1
     have HBd := Lib.hid hC.2
     have r24 : T 18 = .bool false := hR 18 (by omega)
     rw [r24]
     clear r24
     clear hR hC
     simp only [List.drop_succ_cons, List.drop_nil]
     unfold wpList
     go_upto_region 3 with fail
     generalize wx = w3 at *
     have HS3 := HSd
     clear HSd HBd H1 H2 H3
     refine Lm.wp_region_lim 30 4 (fun p vv nn ww => (List.getD ((.val (.pointer (some ⟨P, 0, none⟩))) :: (.val (.pointer (some ⟨P, 0, none⟩))) :: (.val (.pointer (some ⟨P, 0, none⟩))) :: (.val (.pointer (some ⟨P, 0, none⟩))) :: (.val (.slice (some ⟨g, o, none⟩) nb c)) :: (.val (.pointer (some ⟨g, o + 7, none⟩))) :: (.val (.int .u8 (((ub L 7).toNat : Nat) : Int))) :: (.val (.int .i64 (((ub L 7).toNat : Nat) : Int))) :: (.val (.slice (some ⟨g, o, none⟩) nb c)) :: (.val (.pointer (some ⟨g, o + 6, none⟩))) :: (.val (.int .u8 (((ub L 6).toNat : Nat) : Int))) :: (.val (.int .i64 (((ub L 6).toNat : Nat) : Int))) :: (.val (.slice (some ⟨g, o, none⟩) nb c)) :: (.val (subV (some ⟨g, o, none⟩) c 8 24)) :: (.val (.agg #[.bool true, .int .u64 ((num (sb L 8 8) : Nat) : Int), .int .u64 ((num (sb L 16 8) : Nat) : Int)])) :: (.val (.slice (some ⟨g, o, none⟩) nb c)) :: (.val (subV (some ⟨g, o, none⟩) c 24 40)) :: (.val (.agg #[.bool true, .int .u64 ((num (sb L 24 8) : Nat) : Int), .int .u64 ((num (sb L 32 8) : Nat) : Int)])) :: (.val (.pointer (some ⟨P, 0, none⟩))) :: (.val (.pointer (some ⟨P, 6, none⟩))) :: (.st 1) :: (.val (.pointer (some ⟨P, 0, none⟩))) :: (.val (.pointer (some ⟨P, 7, none⟩))) :: (.st 2) :: (.val (.pointer (some ⟨P, 0, none⟩))) :: (.val (.pointer (some ⟨P, 0, none⟩))) :: (.st 3) :: (.val (.pointer (some ⟨P, 0, none⟩))) :: (.val (.pointer (some ⟨P, 3, none⟩))) :: (.st 4) :: [] : List Vd) p .any).R vv nn ww) (fun nn ww => RS w P B (.slice (some ⟨g, o, none⟩) nb c) L (List.getD [(PV.zero), ({ PV.zero with hops := (((ub L 7).toNat : Nat) : Int) }), ({ PV.zero with hops := (((ub L 7).toNat : Nat) : Int), proto := (((ub L 6).toNat : Nat) : Int) }), ({ PV.zero with hops := (((ub L 7).toNat : Nat) : Int), proto := (((ub L 6).toNat : Nat) : Int), s1 := true, h1 := ((num (sb L 8 8) : Nat) : Int), l1 := ((num (sb L 16 8) : Nat) : Int) }), ({ PV.zero with hops := (((ub L 7).toNat : Nat) : Int), proto := (((ub L 6).toNat : Nat) : Int), s1 := true, h1 := ((num (sb L 8 8) : Nat) : Int), l1 := ((num (sb L 16 8) : Nat) : Int), s2 := true, h2 := ((num (sb L 24 8) : Nat) : Int), l2 := ((num (sb L 32 8) : Nat) : Int) })] nn ({ PV.zero with hops := (((ub L 7).toNat : Nat) : Int), proto := (((ub L 6).toNat : Nat) : Int), s1 := true, h1 := ((num (sb L 8 8) : Nat) : Int), l1 := ((num (sb L 16 8) : Nat) : Int), s2 := true, h2 := ((num (sb L 24 8) : Nat) : Int), l2 := ((num (sb L 32 8) : Nat) : Int) })) ww ∧ SS 0 w3 nn ww) SS (fun i => if i = 20 ∨ i = 23 ∨ i = 26 ∨ i = 29 then 1 else 0) (fun i => if i = 1 ∨ i = 11 ∨ i = 21 ∨ i = 22 ∨ i = 23 then 1 else if i = 2 ∨ i = 24 ∨ i = 25 ∨ i = 26 then 2 else if i = 3 ∨ i = 27 ∨ i = 28 ∨ i = 29 then 3 else 0)
      (by kernel_rfl) (by kernel_rfl) (by decide) (by kernel_rfl) (fun p vv nn ww n' w' h hs => Vd.keep _ h hs) (⟨HS3.out.drew, SS.drew⟩) ?hXf
     case' hXf => (apply Exists.intro; refine ⟨fun T => ?hAf, ?hobf, ?hendf⟩)
     case hAf =>
      simp only [setAll, List.take_succ_cons, List.take_zero, Act.put, List.setIfInBounds_toArray, List.set_cons_succ, List.set_cons_zero, Nat.reduceAdd]
      exact rfl
     case hobf =>
      refine ⟨?_, ?_, ?_, ?_, ?_, ?_, ?_, ?_, ?_, ?_, ?_, ?_, ?_, ?_, ?_, ?_, ?_, ?_, ?_, ?_, ?_, ?_, ?_, ?_, ?_, ?_, ?_, ?_, ?_, ?_, trivial⟩
      ·intro T wx n hC (hn : n ≤ 0) hp
       refine Op1.g fun _ Z => ?_; go_simp; exact Z _ _ ⟨rfl, hC, sR⟩
      ·intro T wx n hC (hn : n ≤ 1) hp
       refine Op1.g fun _ Z => ?_; go_simp; exact Z _ _ ⟨rfl, hC, sR⟩
      ·intro T wx n hC (hn : n ≤ 2) hp
       refine Op1.g fun _ Z => ?_; go_simp; exact Z _ _ ⟨rfl, hC, sR⟩
      ·intro T wx n hC (hn : n ≤ 3) hp
       refine Op1.g fun _ Z => ?_; go_simp; exact Z _ _ ⟨rfl, hC, sR⟩
      ·intro T wx n hC (hn : n ≤ 0) hp
       refine Op1.g fun _ Z => ?_; go_simp; exact Z _ _ ⟨rfl, hC, sR⟩
      ·intro T wx n hC (hn : n ≤ 0) hp
       obtain ⟨(d4 : T 4 = .slice (some ⟨g, o, none⟩) nb c), -⟩ := hp
       exact Op1.indexB (k := 7) (.tmp 29) (.const (.int .i64 7)) rfl d4 rfl (by omega) ⟨rfl, hC, sR⟩
      ·intro T wx n hC (hn : n ≤ 0) hp
       obtain ⟨(d5 : T 5 = .pointer (some ⟨g, o + 7, none⟩)), -⟩ := hp
       have hz : (L).length = nb := Hn.out
       have cb : wx.cell? ⟨g, o + 7, none⟩ = some (.int .u8 (((ub L 7).toNat : Nat) : Int)) := hC.1.rb.get 7 (by omega)
       clear hz
       refine Op1.g fun _ Z => ?_; go_simp; exact Z _ _ ⟨rfl, hC, sR⟩
      ·intro T wx n hC (hn : n ≤ 0) hp
       obtain ⟨(d6 : T 6 = .int .u8 (((ub L 7).toNat : Nat) : Int)), -⟩ := hp
       refine Op1.g fun _ Z => ?_; go_simp
       have hb := (ub L 7).toNat_lt
       first | exact Z _ _ ⟨rfl, hC, sR⟩ | (refine Z _ _ ⟨congrArg (Value.int _) ?_, hC, sR⟩; first | omega | (simp only [IntKind.wrap_i64]; omega))
      ·intro T wx n hC (hn : n ≤ 0) hp
       refine Op1.g fun _ Z => ?_; go_simp; exact Z _ _ ⟨rfl, hC, sR⟩
      ·intro T wx n hC (hn : n ≤ 0) hp
       obtain ⟨(d8 : T 8 = .slice (some ⟨g, o, none⟩) nb c), -⟩ := hp
       exact Op1.indexB (k := 6) (.tmp 33) (.const (.int .i64 6)) rfl d8 rfl (by omega) ⟨rfl, hC, sR⟩
      ·intro T wx n hC (hn : n ≤ 0) hp
       obtain ⟨(d9 : T 9 = .pointer (some ⟨g, o + 6, none⟩)), -⟩ := hp
       have hz : (L).length = nb := Hn.out
       have cb : wx.cell? ⟨g, o + 6, none⟩ = some (.int .u8 (((ub L 6).toNat : Nat) : Int)) := hC.1.rb.get 6 (by omega)
       clear hz
       refine Op1.g fun _ Z => ?_; go_simp; exact Z _ _ ⟨rfl, hC, sR⟩
      ·intro T wx n hC (hn : n ≤ 1) hp
       obtain ⟨(d10 : T 10 = .int .u8 (((ub L 6).toNat : Nat) : Int)), -⟩ := hp
       refine Op1.g fun _ Z => ?_; go_simp
       have hb := (ub L 6).toNat_lt
       first | exact Z _ _ ⟨rfl, hC, sR⟩ | (refine Z _ _ ⟨congrArg (Value.int _) ?_, hC, sR⟩; first | omega | (simp only [IntKind.wrap_i64]; omega))
      ·intro T wx n hC (hn : n ≤ 0) hp
       refine Op1.g fun _ Z => ?_; go_simp; exact Z _ _ ⟨rfl, hC, sR⟩
      ·intro T wx n hC (hn : n ≤ 0) hp
       obtain ⟨(d12 : T 12 = .slice (some ⟨g, o, none⟩) nb c), -⟩ := hp
       exact Op1.slice_lh (l := 8) (h := 24) (.tmp 37) (.const (.int .i64 8)) (.const (.int .i64 24)) rfl d12 rfl rfl (by omega) (by omega) ⟨rfl, hC, sR⟩
      ·intro T wx n hC (hn : n ≤ 0) hp
       obtain ⟨(d13 : T 13 = subV (some ⟨g, o, none⟩) c 8 24), -⟩ := hp
       have hz : (L).length = nb := Hn.out
       refine Op1.g fun _ Z => ?_; go_simp; exact calls_post (val_ret1 hC (takeAddr16s hC.1.rb (Nat.le_trans hC.1.bs hC.1.g.size) 8 16 rfl (by omega))) Z
      ·intro T wx n hC (hn : n ≤ 0) hp
       refine Op1.g fun _ Z => ?_; go_simp; exact Z _ _ ⟨rfl, hC, sR⟩
      ·intro T wx n hC (hn : n ≤ 0) hp
       obtain ⟨(d15 : T 15 = .slice (some ⟨g, o, none⟩) nb c), -⟩ := hp
       exact Op1.slice_lh (l := 24) (h := 40) (.tmp 40) (.const (.int .i64 24)) (.const (.int .i64 40)) rfl d15 rfl rfl (by omega) (by omega) ⟨rfl, hC, sR⟩
      ·intro T wx n hC (hn : n ≤ 0) hp
       obtain ⟨(d16 : T 16 = subV (some ⟨g, o, none⟩) c 24 40), -⟩ := hp
       have hz : (L).length = nb := Hn.out
       refine Op1.g fun _ Z => ?_; go_simp; exact calls_post (val_ret1 hC (takeAddr16s hC.1.rb (Nat.le_trans hC.1.bs hC.1.g.size) 24 32 rfl (by omega))) Z
      ·intro T wx n hC (hn : n ≤ 0) hp
       obtain ⟨(d0 : T 0 = .pointer (some ⟨P, 0, none⟩)), -⟩ := hp
       refine Op1.g fun _ Z => ?_; go_simp; exact Z _ _ ⟨rfl, hC, sR⟩
      ·intro T wx n hC (hn : n ≤ 0) hp
       obtain ⟨(d18 : T 18 = .pointer (some ⟨P, 0, none⟩)), -⟩ := hp
       refine Op1.g fun _ Z => ?_; go_simp; exact Z _ _ ⟨rfl, hC, sR⟩
      ·intro T wx n hC (hn : n ≤ 0) hp
       obtain ⟨(d19 : T 19 = .pointer (some ⟨P, 6, none⟩)), (d7 : T 7 = .int .i64 (((ub L 7).toNat : Nat) : Int)), -⟩ := hp
       obtain rfl : n = 0 := by omega
       have hk : RS w P B (.slice (some ⟨g, o, none⟩) nb c) L (PV.zero) wx := hC.1
       obtain ⟨-, -, -, -, -, -, c6, -, -, -, -, -, -, -, -, -, -, -, -, f0⟩ := PBlk.cells hk.p
       refine Op1.g fun _ Z => ?_; go_simp
       have hk0 := hk.set (PBlk.set_hops hk.p ((((ub L 7).toNat : Nat) : Int)))
       exact Z _ _ ⟨Nat.le_refl _, ⟨hk0, hC.2.trans (SS.set (n := 0) (n' := 1) hk.p 6 _ (by omega))⟩, (SS.set (n := 0) (n' := 1) hk.p 6 _ (by omega))⟩
      ·intro T wx n hC (hn : n ≤ 1) hp
       obtain ⟨(d1 : T 1 = .pointer (some ⟨P, 0, none⟩)), -⟩ := hp
       refine Op1.g fun _ Z => ?_; go_simp; exact Z _ _ ⟨rfl, hC, sR⟩
      ·intro T wx n hC (hn : n ≤ 1) hp
       obtain ⟨(d21 : T 21 = .pointer (some ⟨P, 0, none⟩)), -⟩ := hp
       refine Op1.g fun _ Z => ?_; go_simp; exact Z _ _ ⟨rfl, hC, sR⟩
      ·intro T wx n hC (hn : n ≤ 1) hp
       obtain ⟨(d22 : T 22 = .pointer (some ⟨P, 7, none⟩)), (d11 : T 11 = .int .i64 (((ub L 6).toNat : Nat) : Int)), (d20 : 1 ≤ n), -⟩ := hp
       obtain rfl : n = 1 := by omega
       have hk : RS w P B (.slice (some ⟨g, o, none⟩) nb c) L ({ PV.zero with hops := (((ub L 7).toNat : Nat) : Int) }) wx := hC.1
       obtain ⟨-, -, -, -, -, -, -, c7, -, -, -, -, -, -, -, -, -, -, -, f0⟩ := PBlk.cells hk.p
       refine Op1.g fun _ Z => ?_; go_simp
       have hk0 := hk.set (PBlk.set_proto hk.p ((((ub L 6).toNat : Nat) : Int)))
       exact Z _ _ ⟨Nat.le_refl _, ⟨hk0, hC.2.trans (SS.set (n := 1) (n' := 2) hk.p 7 _ (by omega))⟩, (SS.set (n := 1) (n' := 2) hk.p 7 _ (by omega))⟩
      ·intro T wx n hC (hn : n ≤ 2) hp
       obtain ⟨(d2 : T 2 = .pointer (some ⟨P, 0, none⟩)), -⟩ := hp
       refine Op1.g fun _ Z => ?_; go_simp; exact Z _ _ ⟨rfl, hC, sR⟩
      ·intro T wx n hC (hn : n ≤ 2) hp
       obtain ⟨(d24 : T 24 = .pointer (some ⟨P, 0, none⟩)), -⟩ := hp
       refine Op1.g fun _ Z => ?_; go_simp; exact Z _ _ ⟨rfl, hC, sR⟩
      ·intro T wx n hC (hn : n ≤ 2) hp
       obtain ⟨(d25 : T 25 = .pointer (some ⟨P, 0, none⟩)), (d14 : T 14 = .agg #[.bool true, .int .u64 ((num (sb L 8 8) : Nat) : Int), .int .u64 ((num (sb L 16 8) : Nat) : Int)]), (d23 : 2 ≤ n), -⟩ := hp
       obtain rfl : n = 2 := by omega
       have hk : RS w P B (.slice (some ⟨g, o, none⟩) nb c) L ({ PV.zero with hops := (((ub L 7).toNat : Nat) : Int), proto := (((ub L 6).toNat : Nat) : Int) }) wx := hC.1
       obtain ⟨c0, c1, c2, -, -, -, -, -, -, -, -, -, -, -, -, -, -, -, -, f0⟩ := PBlk.cells hk.p
       refine Op1.g fun _ Z => ?_; go_simp
       have hk0 := hk.set (PBlk.set_s1 hk.p (true))
       have hk1 := hk0.set (PBlk.set_h1 hk0.p (((num (sb L 8 8) : Nat) : Int)))
       have hk2 := hk1.set (PBlk.set_l1 hk1.p (((num (sb L 16 8) : Nat) : Int)))
       exact Z _ _ ⟨Nat.le_refl _, ⟨hk2, hC.2.trans (((SS.set (n := 2) (n' := 3) hk.p 0 _ (by omega)).trans (SS.set (n := 3) (n' := 3) hk0.p 1 _ (by omega))).trans (SS.set (n := 3) (n' := 3) hk1.p 2 _ (by omega)))⟩, (((SS.set (n := 2) (n' := 3) hk.p 0 _ (by omega)).trans (SS.set (n := 3) (n' := 3) hk0.p 1 _ (by omega))).trans (SS.set (n := 3) (n' := 3) hk1.p 2 _ (by omega)))⟩
      ·intro T wx n hC (hn : n ≤ 3) hp
       obtain ⟨(d3 : T 3 = .pointer (some ⟨P, 0, none⟩)), -⟩ := hp
       refine Op1.g fun _ Z => ?_; go_simp; exact Z _ _ ⟨rfl, hC, sR⟩
      ·intro T wx n hC (hn : n ≤ 3) hp
       obtain ⟨(d27 : T 27 = .pointer (some ⟨P, 0, none⟩)), -⟩ := hp
       refine Op1.g fun _ Z => ?_; go_simp; exact Z _ _ ⟨rfl, hC, sR⟩
      ·intro T wx n hC (hn : n ≤ 3) hp
       obtain ⟨(d28 : T 28 = .pointer (some ⟨P, 3, none⟩)), (d17 : T 17 = .agg #[.bool true, .int .u64 ((num (sb L 24 8) : Nat) : Int), .int .u64 ((num (sb L 32 8) : Nat) : Int)]), (d26 : 3 ≤ n), -⟩ := hp
       obtain rfl : n = 3 := by omega
       have hk : RS w P B (.slice (some ⟨g, o, none⟩) nb c) L ({ PV.zero with hops := (((ub L 7).toNat : Nat) : Int), proto := (((ub L 6).toNat : Nat) : Int), s1 := true, h1 := ((num (sb L 8 8) : Nat) : Int), l1 := ((num (sb L 16 8) : Nat) : Int) }) wx := hC.1
       obtain ⟨-, -, -, c3, c4, c5, -, -, -, -, -, -, -, -, -, -, -, -, -, f0⟩ := PBlk.cells hk.p
       refine Op1.g fun _ Z => ?_; go_simp
       have hk0 := hk.set (PBlk.set_s2 hk.p (true))
       have hk1 := hk0.set (PBlk.set_h2 hk0.p (((num (sb L 24 8) : Nat) : Int)))
       have hk2 := hk1.set (PBlk.set_l2 hk1.p (((num (sb L 32 8) : Nat) : Int)))
       exact Z _ _ ⟨Nat.le_refl _, ⟨hk2, hC.2.trans (((SS.set (n := 3) (n' := 4) hk.p 3 _ (by omega)).trans (SS.set (n := 4) (n' := 4) hk0.p 4 _ (by omega))).trans (SS.set (n := 4) (n' := 4) hk1.p 5 _ (by omega)))⟩, (((SS.set (n := 3) (n' := 4) hk.p 3 _ (by omega)).trans (SS.set (n := 4) (n' := 4) hk0.p 4 _ (by omega))).trans (SS.set (n := 4) (n' := 4) hk1.p 5 _ (by omega)))⟩
     case hendf =>
      intro T wx ⟨n, hn, hC, hR⟩
      have hk : 4 ≤ n := hR 29 (by omega)
      obtain rfl : n = 4 := by omega
      have HSf : Hid (RS w P B (.slice (some ⟨g, o, none⟩) nb c) L ({ PV.zero with hops := (((ub L 7).toNat : Nat) : Int), proto := (((ub L 6).toNat : Nat) : Int), s1 := true, h1 := ((num (sb L 8 8) : Nat) : Int), l1 := ((num (sb L 16 8) : Nat) : Int), s2 := true, h2 := ((num (sb L 24 8) : Nat) : Int), l2 := ((num (sb L 32 8) : Nat) : Int) }) wx) := Lib.hid hC.1
      have HUf := Lib.hid hC.2
      clear hR hC
      simp only [List.drop_succ_cons, List.drop_nil]
      unfold wpList
      have hlt := (ub L 6).toNat_lt
      have Hp : Hid ((x6 L).proto = p6 (ub L 6).toNat) := Lib.hid rfl
      have Hx : Hid (∀ p : Nat, p6 (ub L 6).toNat = p → { PV.zero with hops := (((ub L 7).toNat : Nat) : Int), proto := ((p : Nat) : Int), s1 := true, h1 := ((num (sb L 8 8) : Nat) : Int), l1 := ((num (sb L 16 8) : Nat) : Int), s2 := true, h2 := ((num (sb L 24 8) : Nat) : Int), l2 := ((num (sb L 32 8) : Nat) : Int) } = (x6 L).pv (.slice none 0 0)) := Lib.hid (by rintro p rfl; rfl)
      have Hk : Hid (∀ v : Int, RS w P B (.slice (some ⟨g, o, none⟩) nb c) L ({ PV.zero with hops := (((ub L 7).toNat : Nat) : Int), proto := v, s1 := true, h1 := ((num (sb L 8 8) : Nat) : Int), l1 := ((num (sb L 16 8) : Nat) : Int), s2 := true, h2 := ((num (sb L 24 8) : Nat) : Int), l2 := ((num (sb L 32 8) : Nat) : Int) }) (wx.setCell ⟨P, 7, none⟩ (.int .i64 v))) := Lib.hid fun v => HSf.out.set (PBlk.set_proto HSf.out.p v)
      obtain ⟨-, -, -, -, -, -, -, c7, -, -, -, -, -, -, -, -, -, -, -, f0⟩ := PBlk.cells HSf.out.p
      simp only at c7
      generalize (ub L 6).toNat = k at *
      have hp6 : (k = 58 ∧ p6 k = 1) ∨ (k ≠ 58 ∧ k = 1 ∧ p6 k = 0) ∨ (k ≠ 58 ∧ k ≠ 1 ∧ p6 k = k) := by
       unfold p6; by_cases h1 : k = 58 <;> by_cases h2 : k = 1 <;> simp [h1, h2]
      have Hv : ∀ p : Nat, p6 k = p → RS w P B (.slice (some ⟨g, o, none⟩) nb c) L ({ PV.zero with hops := (((ub L 7).toNat : Nat) : Int), proto := ((p : Nat) : Int), s1 := true, h1 := ((num (sb L 8 8) : Nat) : Int), l1 := ((num (sb L 16 8) : Nat) : Int), s2 := true, h2 := ((num (sb L 24 8) : Nat) : Int), l2 := ((num (sb L 32 8) : Nat) : Int) }) (wx.setCell ⟨P, 7, none⟩ (.int .i64 ((p : Nat) : Int))) → RS w P B (.slice (some ⟨g, o, none⟩) nb c) L ((x6 L).pv (.slice none 0 0)) (wx.setCell ⟨P, 7, none⟩ (.int .i64 ((p : Nat) : Int))) := fun p hp h => by rw [← Hx.out p hp]; exact h
      have HV := Lib.hid Hv
      clear Hv
      rcases Decidable.em (c = 40) with h9 | h9
      all_goals
       first | subst h9 | skip
       rcases hp6 with ⟨e1, e2⟩ | ⟨e0, e1, e2⟩ | ⟨e0, e1, e2⟩
       ·have He := Lib.hid e2
        clear e2
        subst e1
        go_wp2_with fail
        go_ret2
        exact .inl ⟨Hf.out, by unfold subV; first | (simp [h9, Addr.add] <;> omega) | (simp <;> omega), HV.out 1 He.out (Hk.out 1)⟩
       ·have He := Lib.hid e2
        clear e2 e0
        subst e1
        go_wp2_with fail
        go_ret2
        exact .inl ⟨Hf.out, by unfold subV; first | (simp [h9, Addr.add] <;> omega) | (simp <;> omega), HV.out 0 He.out (Hk.out 0)⟩
       ·have He := Lib.hid e2
        clear e2
        have e3 : ¬ ((k : Int) = 58) := by omega
        have e4 : ¬ ((k : Int) = 1) := by omega
        go_wp2_with fail
        go_ret2
        refine .inl ⟨Hf.out, by unfold subV; first | (simp [h9, Addr.add] <;> omega) | (simp <;> omega), ?_⟩
        rw [← Hx.out k He.out]; exact HSf.out
end Go.Proofs.Ytakjopbdkkcnlaa
