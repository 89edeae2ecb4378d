/-
  The first bytes of a packet whose addresses are short, as the program reads them.
-/
import Derived.Test.YtakjopbdkkcnlaaPR4
set_option linter.unusedVariables false
namespace Go.Proofs.Ytakjopbdkkcnlaa
open Go.RowKit Go
set_option linter.unusedVariables false


set_option maxRecDepth 100000 in
set_option maxHeartbeats 4000000 in
theorem readFour_any (w : World) (P B g o c nb : Nat) (L : List UInt8) (hS : RS w P B (.slice (some ⟨g, o, none⟩) nb c) L PV.zero w) (h20 : 20 ≤ nb) (hL : L.length ≤ 2000) :
  Calls Try.prog 70 #[.pointer (some ⟨P, 0, none⟩), .slice (some ⟨g, o, none⟩) nb c] w fun e w' =>
   (sum4 L ∧ form4 L ∧ e = .returned (.tuple #[subV (some ⟨g, o, none⟩) c 20 nb, .int .i64 0]) ∧ RS w P B (.slice (some ⟨g, o, none⟩) nb c) L ((x4 L).pv (.slice none 0 0)) w') ∨
   (¬ sum4 L ∧ e = .returned (.tuple #[.slice none 0 0, .int .i64 15]) ∧ w.grownBy w' (some P)) ∨
   (sum4 L ∧ ¬ form4 L ∧ e = .returned (.tuple #[.slice none 0 0, .int .i64 3]) ∧ w.grownBy w' (some P)) := by
 obtain ⟨hn, hc1, hc2⟩ := hS.rb.len
 have Hn : Hid (L.length = nb) := Lib.hid hn.symm
 rw [hn.symm] at hc1 hL
 have hcz : (20 : Int) ≤ (c : Int) := by omega
 have hcn : nb ≤ c := hc1
 have hl20 : (sb L 0 20).length = 20 := sb_len L 0 20 (by have := Hn.out; omega)
 have hr20 : Rb B w (.slice (some ⟨g, o, none⟩) 20 c) (sb L 0 20) := by
  have h := hS.rb.sub 0 20 (by have := Hn.out; omega)
  rwa [show subV (some ⟨g, o, none⟩) c 0 (0 + 20) = .slice (some ⟨g, o, none⟩) 20 c by unfold subV; rw [if_neg (by omega)]; simp [Addr.add]] at h
 have HS0 := Lib.hid hS
 clear hS hn hc1
 go_enter Try.func70, Try.ntmps70
 go_wp2_with fail
 refine (cloneB_rb (L := sb L 0 20) hr20 (by rw [hl20]; omega)).mono ?_
 rintro e w1 ⟨v1, rfl, hO, hB1⟩
 have HS1 := Lib.hid (HS0.out.later hB1)
 have HO1 : Hid (OwnB w1 w.heap.size v1 (sb L 0 20)) := Lib.hid hO
 have hsz0 := HS0.out.g.size
 have hP0 := Blk.lt HS0.out.p
 obtain ⟨g2, c2, rfl, hg1, hg2, hd1, hd2⟩ := HO1.out.slice1 (by rw [hl20]; omega)
 have hf := HO1.out.frozen
 have hcl := HO1.out.get
 have HS2 := Lib.hid (show OwnB ((w1.setCell ⟨g2, 10, none⟩ (.int .u8 0)).setCell ⟨g2, 11, none⟩ (.int .u8 0)) _ (.slice (some ⟨g2, 0, none⟩) (sb L 0 20).length c2) (setSum (sb L 0 20) 10 0) from HO1.out.zero2 10 (by rw [hl20]; omega))
 rw [hl20] at hcl HS2 hd1
 obtain ⟨y1, hc1'⟩ : ∃ y, w1.cell? ⟨g2, 10, none⟩ = some (encB y) := ⟨_, hcl 10 (by omega)⟩
 obtain ⟨y2, hc2'⟩ : ∃ y, w1.cell? ⟨g2, 11, none⟩ = some (encB y) := ⟨_, hcl 11 (by omega)⟩
 clear hcl hO hB1
 try rw [hl20]
 go_upto_region 3 with fail
 have HS3 : Hid (RS w P B (.slice (some ⟨g, o, none⟩) nb c) L PV.zero ((w1.setCell ⟨g2, 10, none⟩ (.int .u8 0)).setCell ⟨g2, 11, none⟩ (.int .u8 0))) := Lib.hid ((HS1.out.other g2 10 _ (by omega) (by omega)).other g2 11 _ (by omega) (by omega))
 generalize (w1.setCell ⟨g2, 10, none⟩ (.int .u8 0)).setCell ⟨g2, 11, none⟩ (.int .u8 0) = w3 at *
 have HR3 : Hid (Rb w3.heap.size w3 (.slice (some ⟨g2, 0, none⟩) 20 c2) (setSum (sb L 0 20) 10 0)) := Lib.hid (HS2.out.rb (by rw [setSum_len, hl20]; omega))
 clear hf hc1' hc2' HO1 HS1 HS2 hr20 hsz0
 have hsum : sum4 L ↔ sumN (setSum (sb L 0 20) 10 0) = num (sb L 10 2) := Iff.rfl
 rcases (Decidable.em (sum4 L)).symm with hs | hs
 ·have H6 : Hid ((((sumN (setSum (sb L 0 20) 10 0) : Nat) : Int) != ((num (sb L 10 2) : Nat) : Int)) = true) := Lib.hid (by rw [bne_iff_ne]; intro e; exact hs (hsum.2 (Int.ofNat.inj e)))
  refine Lm.wp_region_lim 7 0 (fun p vv nn ww => (List.getD ((.val (.slice (some ⟨g2, 0, none⟩) 20 c2)) :: (.val (.int .i64 ((sumN (setSum (sb L 0 20) 10 0) : Nat) : Int))) :: (.val (.slice (some ⟨g, o, none⟩) nb c)) :: (.val (subV (some ⟨g, o, none⟩) c 10 12)) :: (.val (.int .u64 ((num (sb L 10 2) : Nat) : Int))) :: (.val (.int .i64 ((num (sb L 10 2) : Nat) : Int))) :: (.val (.bool true)) :: [] : List Vd) p .any).R vv nn ww) (fun _ ww => RS w P B (.slice (some ⟨g, o, none⟩) nb c) L (PV.zero) ww ∧ Below w3.heap.size w3 ww) SS (fun _ => 0) (fun _ => 0)
   (by kernel_rfl) (by kernel_rfl) (by decide) (by kernel_rfl) (fun p vv nn ww n' w' h hs => Vd.keep _ h hs) (⟨HS3.out.drew, below_drew (Below.refl _ _)⟩) ?hXa
  case' hXa => (apply Exists.intro; refine ⟨fun T => ?hAa, ?hoba, ?henda⟩)
  case hAa =>
   simp only [setAll, List.take_succ_cons, List.take_zero, Act.put, List.setIfInBounds_toArray, List.set_cons_succ, List.set_cons_zero, Nat.reduceAdd]
   exact rfl
  case hoba =>
   refine ⟨?_, ?_, ?_, ?_, ?_, ?_, ?_, trivial⟩
   ·intro T wx n hC (hn : n ≤ 0) hp
    refine Op1.g fun _ Z => ?_; go_simp; exact Z _ _ ⟨rfl, hC, sR⟩
   ·intro T wx n hC (hn : n ≤ 0) hp
    obtain ⟨(d0 : T 0 = .slice (some ⟨g2, 0, none⟩) 20 c2), -⟩ := hp
    refine Op1.g fun _ Z => ?_; go_simp; exact calls_post (val_same0 hC (sum_rb (HR3.out.below hC.2))) Z
   ·intro T wx n hC (hn : n ≤ 0) hp
    refine Op1.g fun _ Z => ?_; go_simp; exact Z _ _ ⟨rfl, hC, sR⟩
   ·intro T wx n hC (hn : n ≤ 0) hp
    obtain ⟨(d2 : T 2 = .slice (some ⟨g, o, none⟩) nb c), -⟩ := hp
    exact Op1.slice_lh (l := 10) (h := 12) (.tmp 17) (.const (.int .i64 10)) (.const (.int .i64 12)) rfl d2 rfl rfl (by omega) (by omega) ⟨rfl, hC, sR⟩
   ·intro T wx n hC (hn : n ≤ 0) hp
    obtain ⟨(d3 : T 3 = subV (some ⟨g, o, none⟩) c 10 12), -⟩ := hp
    have hz : (L).length = nb := Hn.out
    refine Op1.g fun _ Z => ?_; go_simp; exact calls_post (val_same0 hC (take_rb (hC.1.rb.sub 10 2 (by omega)) (by rw [sb_len L 10 2 (by omega)]; omega))) Z
   ·intro T wx n hC (hn : n ≤ 0) hp
    obtain ⟨(d4 : T 4 = .int .u64 ((num (sb L 10 2) : Nat) : Int)), -⟩ := hp
    refine Op1.g fun _ Z => ?_; go_simp
    have hb := Nat.lt_of_lt_of_le (num_sb L 10 2) (by decide : 256 ^ 2 ≤ 65536)
    first | exact Z _ _ ⟨rfl, hC, sR⟩ | (refine Z _ _ ⟨congrArg (Value.int _) ?_, hC, sR⟩; first | omega | (simp only [IntKind.wrap_i64]; omega))
   ·intro T wx n hC (hn : n ≤ 0) hp
    obtain ⟨(d1 : T 1 = .int .i64 ((sumN (setSum (sb L 0 20) 10 0) : Nat) : Int)), (d5 : T 5 = .int .i64 ((num (sb L 10 2) : Nat) : Int)), -⟩ := hp
    refine Op1.g fun _ Z => ?_; go_simp; first | exact Z _ _ ⟨congrArg Value.bool (H6.out), hC, sR⟩ | exact Z _ _ ⟨rfl, hC, sR⟩
  case henda =>
   intro T wx ⟨n, hn, hC, hR⟩
   have HSa := Lib.hid hC.1
   have HBa := Lib.hid hC.2
   have r21 : T 6 = .bool true := hR 6 (by omega)
   rw [r21]
   clear r21
   clear hR hC
   go_wp2_with fail
   go_ret2
   exact .inr (.inl ⟨hs, rfl, HSa.out.g⟩)
 ·have H6 : Hid ((((sumN (setSum (sb L 0 20) 10 0) : Nat) : Int) != ((num (sb L 10 2) : Nat) : Int)) = false) := Lib.hid (by rw [hsum.1 hs]; simp)
  have Hs := Lib.hid hs
  refine Lm.wp_region_lim 7 0 (fun p vv nn ww => (List.getD ((.val (.slice (some ⟨g2, 0, none⟩) 20 c2)) :: (.val (.int .i64 ((sumN (setSum (sb L 0 20) 10 0) : Nat) : Int))) :: (.val (.slice (some ⟨g, o, none⟩) nb c)) :: (.val (subV (some ⟨g, o, none⟩) c 10 12)) :: (.val (.int .u64 ((num (sb L 10 2) : Nat) : Int))) :: (.val (.int .i64 ((num (sb L 10 2) : Nat) : Int))) :: (.val (.bool false)) :: [] : List Vd) p .any).R vv nn ww) (fun _ ww => RS w P B (.slice (some ⟨g, o, none⟩) nb c) L (PV.zero) ww ∧ Below w3.heap.size w3 ww) SS (fun _ => 0) (fun _ => 0)
   (by kernel_rfl) (by kernel_rfl) (by decide) (by kernel_rfl) (fun p vv nn ww n' w' h hs => Vd.keep _ h hs) (⟨HS3.out.drew, below_drew (Below.refl _ _)⟩) ?hXb
  case' hXb => (apply Exists.intro; refine ⟨fun T => ?hAb, ?hobb, ?hendb⟩)
  case hAb =>
   simp only [setAll, List.take_succ_cons, List.take_zero, Act.put, List.setIfInBounds_toArray, List.set_cons_succ, List.set_cons_zero, Nat.reduceAdd]
   exact rfl
  case hobb =>
   refine ⟨?_, ?_, ?_, ?_, ?_, ?_, ?_, trivial⟩
   ·intro T wx n hC (hn : n ≤ 0) hp
    refine Op1.g fun _ Z => ?_; go_simp; exact Z _ _ ⟨rfl, hC, sR⟩
   ·intro T wx n hC (hn : n ≤ 0) hp
    obtain ⟨(d0 : T 0 = .slice (some ⟨g2, 0, none⟩) 20 c2), -⟩ := hp
    refine Op1.g fun _ Z => ?_; go_simp; exact calls_post (val_same0 hC (sum_rb (HR3.out.below hC.2))) Z
   ·intro T wx n hC (hn : n ≤ 0) hp
    refine Op1.g fun _ Z => ?_; go_simp; exact Z _ _ ⟨rfl, hC, sR⟩
   ·intro T wx n hC (hn : n ≤ 0) hp
    obtain ⟨(d2 : T 2 = .slice (some ⟨g, o, none⟩) nb c), -⟩ := hp
    exact Op1.slice_lh (l := 10) (h := 12) (.tmp 17) (.const (.int .i64 10)) (.const (.int .i64 12)) rfl d2 rfl rfl (by omega) (by omega) ⟨rfl, hC, sR⟩
   ·intro T wx n hC (hn : n ≤ 0) hp
    obtain ⟨(d3 : T 3 = subV (some ⟨g, o, none⟩) c 10 12), -⟩ := hp
    have hz : (L).length = nb := Hn.out
    refine Op1.g fun _ Z => ?_; go_simp; exact calls_post (val_same0 hC (take_rb (hC.1.rb.sub 10 2 (by omega)) (by rw [sb_len L 10 2 (by omega)]; omega))) Z
   ·intro T wx n hC (hn : n ≤ 0) hp
    obtain ⟨(d4 : T 4 = .int .u64 ((num (sb L 10 2) : Nat) : Int)), -⟩ := hp
    refine Op1.g fun _ Z => ?_; go_simp
    have hb := Nat.lt_of_lt_of_le (num_sb L 10 2) (by decide : 256 ^ 2 ≤ 65536)
    first | exact Z _ _ ⟨rfl, hC, sR⟩ | (refine Z _ _ ⟨congrArg (Value.int _) ?_, hC, sR⟩; first | omega | (simp only [IntKind.wrap_i64]; omega))
   ·intro T wx n hC (hn : n ≤ 0) hp
    obtain ⟨(d1 : T 1 = .int .i64 ((sumN (setSum (sb L 0 20) 10 0) : Nat) : Int)), (d5 : T 5 = .int .i64 ((num (sb L 10 2) : Nat) : Int)), -⟩ := hp
    refine Op1.g fun _ Z => ?_; go_simp; first | exact Z _ _ ⟨congrArg Value.bool (H6.out), hC, sR⟩ | exact Z _ _ ⟨rfl, hC, sR⟩
  case hendb =>
   intro T wx ⟨n, hn, hC, hR⟩
   have HSb := Lib.hid hC.1
   have HBb := Lib.hid hC.2
   have r21 : T 6 = .bool false := hR 6 (by omega)
   rw [r21]
   clear r21
   clear hR hC
   go_upto_region 5 with fail
   generalize wx = w4 at *
   have HS3a := HSb
   clear HSb HBb
   rcases (Decidable.em (num (sb L 2 2) = nb)).symm with hq | hq
   ·have H7 : Hid ((((num (sb L 2 2) : Nat) : Int) != ((nb : Nat) : Int)) = true) := Lib.hid (by rw [bne_iff_ne]; intro e; exact hq (Int.ofNat.inj e))
    have Hq := Lib.hid hq
    clear hq
    refine Lm.wp_region_lim 27 0 (fun p vv nn ww => (List.getD ((.val (.slice (some ⟨g, o, none⟩) nb c)) :: (.val (subV (some ⟨g, o, none⟩) c 2 4)) :: (.val (.int .u64 ((num (sb L 2 2) : Nat) : Int))) :: (.val (.int .i64 ((num (sb L 2 2) : Nat) : Int))) :: (.val (.slice (some ⟨g, o, none⟩) nb c)) :: (.val (.int .i64 ((nb : Nat) : Int))) :: (.val (.bool true)) :: (.val (.bool true)) :: (.val (undef)) :: (.val (undef)) :: (.val (undef)) :: (.val (undef)) :: (.val (undef)) :: (.val (undef)) :: (.val (undef)) :: (.val (undef)) :: (.val (undef)) :: (.val (undef)) :: (.val (undef)) :: (.val (undef)) :: (.val (undef)) :: (.val (undef)) :: (.val (undef)) :: (.val (undef)) :: (.val (undef)) :: (.val (undef)) :: (.val (.bool true)) :: [] : List Vd) p .any).R vv nn ww) (fun _ ww => RS w P B (.slice (some ⟨g, o, none⟩) nb c) L (PV.zero) ww ∧ Below w4.heap.size w4 ww) SS (fun _ => 0) (fun _ => 0)
     (by kernel_rfl) (by kernel_rfl) (by decide) (by kernel_rfl) (fun p vv nn ww n' w' h hs => Vd.keep _ h hs) (⟨HS3a.out.drew, below_drew (Below.refl _ _)⟩) ?hXc
    case' hXc => (apply Exists.intro; refine ⟨fun T => ?hAc, ?hobc, ?hendc⟩)
    case hAc =>
     simp only [setAll, List.take_succ_cons, List.take_zero, Act.put, List.setIfInBounds_toArray, List.set_cons_succ, List.set_cons_zero, Nat.reduceAdd]
     exact rfl
    case hobc =>
     refine ⟨?_, ?_, ?_, ?_, ?_, ?_, ?_, ?_, ?_, ?_, ?_, ?_, ?_, ?_, ?_, ?_, ?_, ?_, ?_, ?_, ?_, ?_, ?_, ?_, ?_, ?_, ?_, trivial⟩
     ·intro T wx n hC (hn : n ≤ 0) hp
      refine Op1.g fun _ Z => ?_; go_simp; exact Z _ _ ⟨rfl, hC, sR⟩
     ·intro T wx n hC (hn : n ≤ 0) hp
      obtain ⟨(d0 : T 0 = .slice (some ⟨g, o, none⟩) nb c), -⟩ := hp
      exact Op1.slice_lh (l := 2) (h := 4) (.tmp 23) (.const (.int .i64 2)) (.const (.int .i64 4)) rfl d0 rfl rfl (by omega) (by omega) ⟨rfl, hC, sR⟩
     ·intro T wx n hC (hn : n ≤ 0) hp
      obtain ⟨(d1 : T 1 = subV (some ⟨g, o, none⟩) c 2 4), -⟩ := hp
      have hz : (L).length = nb := Hn.out
      refine Op1.g fun _ Z => ?_; go_simp; exact calls_post (val_same0 hC (take_rb (hC.1.rb.sub 2 2 (by omega)) (by rw [sb_len L 2 2 (by omega)]; omega))) Z
     ·intro T wx n hC (hn : n ≤ 0) hp
      obtain ⟨(d2 : T 2 = .int .u64 ((num (sb L 2 2) : Nat) : Int)), -⟩ := hp
      refine Op1.g fun _ Z => ?_; go_simp
      have hb := Nat.lt_of_lt_of_le (num_sb L 2 2) (by decide : 256 ^ 2 ≤ 65536)
      first | exact Z _ _ ⟨rfl, hC, sR⟩ | (refine Z _ _ ⟨congrArg (Value.int _) ?_, hC, sR⟩; first | omega | (simp only [IntKind.wrap_i64]; omega))
     ·intro T wx n hC (hn : n ≤ 0) hp
      refine Op1.g fun _ Z => ?_; go_simp; exact Z _ _ ⟨rfl, hC, sR⟩
     ·intro T wx n hC (hn : n ≤ 0) hp
      obtain ⟨(d4 : T 4 = .slice (some ⟨g, o, none⟩) nb c), -⟩ := hp
      refine Op1.g fun _ Z => ?_; go_simp; exact Z _ _ ⟨rfl, hC, sR⟩
     ·intro T wx n hC (hn : n ≤ 0) hp
      obtain ⟨(d3 : T 3 = .int .i64 ((num (sb L 2 2) : Nat) : Int)), (d5 : T 5 = .int .i64 ((nb : Nat) : Int)), -⟩ := hp
      refine Op1.g fun _ Z => ?_; go_simp; first | exact Z _ _ ⟨congrArg Value.bool (H7.out), hC, sR⟩ | exact Z _ _ ⟨rfl, hC, sR⟩
     ·intro T wx n hC (hn : n ≤ 0) hp
      obtain ⟨(d6 : T 6 = .bool true), -⟩ := hp
      refine Op1.g fun _ Z => ?_; go_simp; exact Z _ _ ⟨rfl, hC, sR⟩
     ·intro T wx n hC (hn : n ≤ 0) hp
      obtain ⟨(d7 : T 7 = .bool true), -⟩ := hp
      refine ⟨fun hT => ?_, fun hT => ⟨rfl, hC, sR⟩⟩
      rw [d7] at hT
      cases hT
     ·intro T wx n hC (hn : n ≤ 0) hp
      obtain ⟨-, (d7 : T 7 = .bool true), -⟩ := hp
      refine ⟨fun hT => ?_, fun hT => ⟨rfl, hC, sR⟩⟩
      rw [d7] at hT
      cases hT
     ·intro T wx n hC (hn : n ≤ 0) hp
      obtain ⟨-, (d7 : T 7 = .bool true), -⟩ := hp
      refine ⟨fun hT => ?_, fun hT => ⟨rfl, hC, sR⟩⟩
      rw [d7] at hT
      cases hT
     ·intro T wx n hC (hn : n ≤ 0) hp
      obtain ⟨(d7 : T 7 = .bool true), -⟩ := hp
      refine ⟨fun hT => ?_, fun hT => ⟨rfl, hC, sR⟩⟩
      rw [d7] at hT
      cases hT
     ·intro T wx n hC (hn : n ≤ 0) hp
      obtain ⟨-, (d7 : T 7 = .bool true), -⟩ := hp
      refine ⟨fun hT => ?_, fun hT => ⟨rfl, hC, sR⟩⟩
      rw [d7] at hT
      cases hT
     ·intro T wx n hC (hn : n ≤ 0) hp
      obtain ⟨-, (d7 : T 7 = .bool true), -⟩ := hp
      refine ⟨fun hT => ?_, fun hT => ⟨rfl, hC, sR⟩⟩
      rw [d7] at hT
      cases hT
     ·intro T wx n hC (hn : n ≤ 0) hp
      obtain ⟨(d7 : T 7 = .bool true), -⟩ := hp
      refine ⟨fun hT => ?_, fun hT => ⟨rfl, hC, sR⟩⟩
      rw [d7] at hT
      cases hT
     ·intro T wx n hC (hn : n ≤ 0) hp
      obtain ⟨-, (d7 : T 7 = .bool true), -⟩ := hp
      refine ⟨fun hT => ?_, fun hT => ⟨rfl, hC, sR⟩⟩
      rw [d7] at hT
      cases hT
     ·intro T wx n hC (hn : n ≤ 0) hp
      obtain ⟨-, (d7 : T 7 = .bool true), -⟩ := hp
      refine ⟨fun hT => ?_, fun hT => ⟨rfl, hC, sR⟩⟩
      rw [d7] at hT
      cases hT
     ·intro T wx n hC (hn : n ≤ 0) hp
      obtain ⟨(d7 : T 7 = .bool true), -⟩ := hp
      refine ⟨fun hT => ?_, fun hT => ⟨rfl, hC, sR⟩⟩
      rw [d7] at hT
      cases hT
     ·intro T wx n hC (hn : n ≤ 0) hp
      obtain ⟨-, (d7 : T 7 = .bool true), -⟩ := hp
      refine ⟨fun hT => ?_, fun hT => ⟨rfl, hC, sR⟩⟩
      rw [d7] at hT
      cases hT
     ·intro T wx n hC (hn : n ≤ 0) hp
      obtain ⟨-, (d7 : T 7 = .bool true), -⟩ := hp
      refine ⟨fun hT => ?_, fun hT => ⟨rfl, hC, sR⟩⟩
      rw [d7] at hT
      cases hT
     ·intro T wx n hC (hn : n ≤ 0) hp
      obtain ⟨(d7 : T 7 = .bool true), -⟩ := hp
      refine ⟨fun hT => ?_, fun hT => ⟨rfl, hC, sR⟩⟩
      rw [d7] at hT
      cases hT
     ·intro T wx n hC (hn : n ≤ 0) hp
      obtain ⟨-, (d7 : T 7 = .bool true), -⟩ := hp
      refine ⟨fun hT => ?_, fun hT => ⟨rfl, hC, sR⟩⟩
      rw [d7] at hT
      cases hT
     ·intro T wx n hC (hn : n ≤ 0) hp
      obtain ⟨-, (d7 : T 7 = .bool true), -⟩ := hp
      refine ⟨fun hT => ?_, fun hT => ⟨rfl, hC, sR⟩⟩
      rw [d7] at hT
      cases hT
     ·intro T wx n hC (hn : n ≤ 0) hp
      obtain ⟨-, -, -, -, -, (d7 : T 7 = .bool true), -⟩ := hp
      refine ⟨fun hT => ?_, fun hT => ⟨rfl, hC, sR⟩⟩
      rw [d7] at hT
      cases hT
     ·intro T wx n hC (hn : n ≤ 0) hp
      obtain ⟨-, (d7 : T 7 = .bool true), -⟩ := hp
      refine ⟨fun hT => ?_, fun hT => ⟨rfl, hC, sR⟩⟩
      rw [d7] at hT
      cases hT
     ·intro T wx n hC (hn : n ≤ 0) hp
      obtain ⟨-, (d7 : T 7 = .bool true), -⟩ := hp
      refine ⟨fun hT => ?_, fun hT => ⟨rfl, hC, sR⟩⟩
      rw [d7] at hT
      cases hT
     ·intro T wx n hC (hn : n ≤ 0) hp
      obtain ⟨(d7 : T 7 = .bool true), -⟩ := hp
      refine Op1.g fun _ Z => ?_; go_simp; exact Z _ _ ⟨rfl, hC, sR⟩
    case hendc =>
     intro T wx ⟨n, hn, hC, hR⟩
     have HSc := Lib.hid hC.1
     have HBc := Lib.hid hC.2
     have r49 : T 26 = .bool true := hR 26 (by omega)
     rw [r49]
     clear r49
     clear hR hC
     go_wp2_with fail
     go_ret2
     exact .inr (.inr ⟨Hs.out, fun hf => Hq.out (hf.1.trans Hn.out), rfl, HSc.out.g⟩)
   ·have H7 : Hid ((((num (sb L 2 2) : Nat) : Int) != ((nb : Nat) : Int)) = false) := Lib.hid (by rw [hq]; simp)
    have Hq := Lib.hid hq
    clear hq
    rcases (Decidable.em (ub L 1 = 0 ∧ ub L 4 = 0 ∧ ub L 5 = 0 ∧ ub L 6 = 0 ∧ ub L 7 = 0)).symm with hz | hz
    ·have H8 : Hid ((!([(ub L 1), (ub L 4), (ub L 5), (ub L 6), (ub L 7)]).any (· != 0)) = false) := Lib.hid (by
      simp only [List.any_cons, List.any_nil, Bool.or_false, Bool.not_eq_false', Bool.or_eq_true, bne_iff_ne]
      by_cases a1 : ub L 1 = 0 <;> by_cases a2 : ub L 4 = 0 <;> by_cases a3 : ub L 5 = 0 <;> by_cases a4 : ub L 6 = 0 <;> by_cases a5 : ub L 7 = 0 <;> simp_all)
     have Hz := Lib.hid hz
     clear hz
     refine Lm.wp_region_lim 27 0 (fun p vv nn ww => (List.getD ((.val (.slice (some ⟨g, o, none⟩) nb c)) :: (.val (subV (some ⟨g, o, none⟩) c 2 4)) :: (.val (.int .u64 ((num (sb L 2 2) : Nat) : Int))) :: (.val (.int .i64 ((num (sb L 2 2) : Nat) : Int))) :: (.val (.slice (some ⟨g, o, none⟩) nb c)) :: (.val (.int .i64 ((nb : Nat) : Int))) :: (.val (.bool false)) :: (.val (.bool false)) :: (.val (.slice (some ⟨g, o, none⟩) nb c)) :: (.val (.pointer (some ⟨g, o + 1, none⟩))) :: (.val (.int .u8 (((ub L 1).toNat : Nat) : Int))) :: (.val (.slice (some ⟨g, o, none⟩) nb c)) :: (.val (.pointer (some ⟨g, o + 4, none⟩))) :: (.val (.int .u8 (((ub L 4).toNat : Nat) : Int))) :: (.val (.slice (some ⟨g, o, none⟩) nb c)) :: (.val (.pointer (some ⟨g, o + 5, none⟩))) :: (.val (.int .u8 (((ub L 5).toNat : Nat) : Int))) :: (.val (.slice (some ⟨g, o, none⟩) nb c)) :: (.val (.pointer (some ⟨g, o + 6, none⟩))) :: (.val (.int .u8 (((ub L 6).toNat : Nat) : Int))) :: (.val (.slice (some ⟨g, o, none⟩) nb c)) :: (.val (.pointer (some ⟨g, o + 7, none⟩))) :: (.val (.int .u8 (((ub L 7).toNat : Nat) : Int))) :: (.arr ([(ub L 1), (ub L 4), (ub L 5), (ub L 6), (ub L 7)])) :: (.val (.bool false)) :: (.val (.bool true)) :: (.val (.bool true)) :: [] : List Vd) p .any).R vv nn ww) (fun _ ww => RS w P B (.slice (some ⟨g, o, none⟩) nb c) L (PV.zero) ww ∧ Below w4.heap.size w4 ww) SS (fun _ => 0) (fun _ => 0)
      (by kernel_rfl) (by kernel_rfl) (by decide) (by kernel_rfl) (fun p vv nn ww n' w' h hs => Vd.keep _ h hs) (⟨HS3a.out.drew, below_drew (Below.refl _ _)⟩) ?hXd
     case' hXd => (apply Exists.intro; refine ⟨fun T => ?hAd, ?hobd, ?hendd⟩)
     case hAd =>
      simp only [setAll, List.take_succ_cons, List.take_zero, Act.put, List.setIfInBounds_toArray, List.set_cons_succ, List.set_cons_zero, Nat.reduceAdd]
      exact rfl
     case hobd =>
      refine ⟨?_, ?_, ?_, ?_, ?_, ?_, ?_, ?_, ?_, ?_, ?_, ?_, ?_, ?_, ?_, ?_, ?_, ?_, ?_, ?_, ?_, ?_, ?_, ?_, ?_, ?_, ?_, trivial⟩
      ·intro T wx n hC (hn : n ≤ 0) hp
       refine Op1.g fun _ Z => ?_; go_simp; exact Z _ _ ⟨rfl, hC, sR⟩
      ·intro T wx n hC (hn : n ≤ 0) hp
       obtain ⟨(d0 : T 0 = .slice (some ⟨g, o, none⟩) nb c), -⟩ := hp
       exact Op1.slice_lh (l := 2) (h := 4) (.tmp 23) (.const (.int .i64 2)) (.const (.int .i64 4)) rfl d0 rfl rfl (by omega) (by omega) ⟨rfl, hC, sR⟩
      ·intro T wx n hC (hn : n ≤ 0) hp
       obtain ⟨(d1 : T 1 = subV (some ⟨g, o, none⟩) c 2 4), -⟩ := hp
       have hz : (L).length = nb := Hn.out
       refine Op1.g fun _ Z => ?_; go_simp; exact calls_post (val_same0 hC (take_rb (hC.1.rb.sub 2 2 (by omega)) (by rw [sb_len L 2 2 (by omega)]; omega))) Z
      ·intro T wx n hC (hn : n ≤ 0) hp
       obtain ⟨(d2 : T 2 = .int .u64 ((num (sb L 2 2) : Nat) : Int)), -⟩ := hp
       refine Op1.g fun _ Z => ?_; go_simp
       have hb := Nat.lt_of_lt_of_le (num_sb L 2 2) (by decide : 256 ^ 2 ≤ 65536)
       first | exact Z _ _ ⟨rfl, hC, sR⟩ | (refine Z _ _ ⟨congrArg (Value.int _) ?_, hC, sR⟩; first | omega | (simp only [IntKind.wrap_i64]; omega))
      ·intro T wx n hC (hn : n ≤ 0) hp
       refine Op1.g fun _ Z => ?_; go_simp; exact Z _ _ ⟨rfl, hC, sR⟩
      ·intro T wx n hC (hn : n ≤ 0) hp
       obtain ⟨(d4 : T 4 = .slice (some ⟨g, o, none⟩) nb c), -⟩ := hp
       refine Op1.g fun _ Z => ?_; go_simp; exact Z _ _ ⟨rfl, hC, sR⟩
      ·intro T wx n hC (hn : n ≤ 0) hp
       obtain ⟨(d3 : T 3 = .int .i64 ((num (sb L 2 2) : Nat) : Int)), (d5 : T 5 = .int .i64 ((nb : Nat) : Int)), -⟩ := hp
       refine Op1.g fun _ Z => ?_; go_simp; first | exact Z _ _ ⟨congrArg Value.bool (H7.out), hC, sR⟩ | exact Z _ _ ⟨rfl, hC, sR⟩
      ·intro T wx n hC (hn : n ≤ 0) hp
       obtain ⟨(d6 : T 6 = .bool false), -⟩ := hp
       refine Op1.g fun _ Z => ?_; go_simp; exact Z _ _ ⟨rfl, hC, sR⟩
      ·intro T wx n hC (hn : n ≤ 0) hp
       obtain ⟨(d7 : T 7 = .bool false), -⟩ := hp
       refine ⟨fun hT => ?_, fun hT => absurd d7 hT⟩
       refine Op1.g fun _ Z => ?_; go_simp; exact Z _ _ ⟨rfl, hC, sR⟩
      ·intro T wx n hC (hn : n ≤ 0) hp
       obtain ⟨(d8 : T 8 = .slice (some ⟨g, o, none⟩) nb c), (d7 : T 7 = .bool false), -⟩ := hp
       refine ⟨fun hT => ?_, fun hT => absurd d7 hT⟩
       exact Op1.indexB (k := 1) (.tmp 31) (.const (.int .i64 1)) rfl d8 rfl (by omega) ⟨rfl, hC, sR⟩
      ·intro T wx n hC (hn : n ≤ 0) hp
       obtain ⟨(d9 : T 9 = .pointer (some ⟨g, o + 1, none⟩)), (d7 : T 7 = .bool false), -⟩ := hp
       refine ⟨fun hT => ?_, fun hT => absurd d7 hT⟩
       have hz : (L).length = nb := Hn.out
       have cb : wx.cell? ⟨g, o + 1, none⟩ = some (.int .u8 (((ub L 1).toNat : Nat) : Int)) := hC.1.rb.get 1 (by omega)
       clear hz
       refine Op1.g fun _ Z => ?_; go_simp; exact Z _ _ ⟨rfl, hC, sR⟩
      ·intro T wx n hC (hn : n ≤ 0) hp
       obtain ⟨(d7 : T 7 = .bool false), -⟩ := hp
       refine ⟨fun hT => ?_, fun hT => absurd d7 hT⟩
       refine Op1.g fun _ Z => ?_; go_simp; exact Z _ _ ⟨rfl, hC, sR⟩
      ·intro T wx n hC (hn : n ≤ 0) hp
       obtain ⟨(d11 : T 11 = .slice (some ⟨g, o, none⟩) nb c), (d7 : T 7 = .bool false), -⟩ := hp
       refine ⟨fun hT => ?_, fun hT => absurd d7 hT⟩
       exact Op1.indexB (k := 4) (.tmp 34) (.const (.int .i64 4)) rfl d11 rfl (by omega) ⟨rfl, hC, sR⟩
      ·intro T wx n hC (hn : n ≤ 0) hp
       obtain ⟨(d12 : T 12 = .pointer (some ⟨g, o + 4, none⟩)), (d7 : T 7 = .bool false), -⟩ := hp
       refine ⟨fun hT => ?_, fun hT => absurd d7 hT⟩
       have hz : (L).length = nb := Hn.out
       have cb : wx.cell? ⟨g, o + 4, none⟩ = some (.int .u8 (((ub L 4).toNat : Nat) : Int)) := hC.1.rb.get 4 (by omega)
       clear hz
       refine Op1.g fun _ Z => ?_; go_simp; exact Z _ _ ⟨rfl, hC, sR⟩
      ·intro T wx n hC (hn : n ≤ 0) hp
       obtain ⟨(d7 : T 7 = .bool false), -⟩ := hp
       refine ⟨fun hT => ?_, fun hT => absurd d7 hT⟩
       refine Op1.g fun _ Z => ?_; go_simp; exact Z _ _ ⟨rfl, hC, sR⟩
      ·intro T wx n hC (hn : n ≤ 0) hp
       obtain ⟨(d14 : T 14 = .slice (some ⟨g, o, none⟩) nb c), (d7 : T 7 = .bool false), -⟩ := hp
       refine ⟨fun hT => ?_, fun hT => absurd d7 hT⟩
       exact Op1.indexB (k := 5) (.tmp 37) (.const (.int .i64 5)) rfl d14 rfl (by omega) ⟨rfl, hC, sR⟩
      ·intro T wx n hC (hn : n ≤ 0) hp
       obtain ⟨(d15 : T 15 = .pointer (some ⟨g, o + 5, none⟩)), (d7 : T 7 = .bool false), -⟩ := hp
       refine ⟨fun hT => ?_, fun hT => absurd d7 hT⟩
       have hz : (L).length = nb := Hn.out
       have cb : wx.cell? ⟨g, o + 5, none⟩ = some (.int .u8 (((ub L 5).toNat : Nat) : Int)) := hC.1.rb.get 5 (by omega)
       clear hz
       refine Op1.g fun _ Z => ?_; go_simp; exact Z _ _ ⟨rfl, hC, sR⟩
      ·intro T wx n hC (hn : n ≤ 0) hp
       obtain ⟨(d7 : T 7 = .bool false), -⟩ := hp
       refine ⟨fun hT => ?_, fun hT => absurd d7 hT⟩
       refine Op1.g fun _ Z => ?_; go_simp; exact Z _ _ ⟨rfl, hC, sR⟩
      ·intro T wx n hC (hn : n ≤ 0) hp
       obtain ⟨(d17 : T 17 = .slice (some ⟨g, o, none⟩) nb c), (d7 : T 7 = .bool false), -⟩ := hp
       refine ⟨fun hT => ?_, fun hT => absurd d7 hT⟩
       exact Op1.indexB (k := 6) (.tmp 40) (.const (.int .i64 6)) rfl d17 rfl (by omega) ⟨rfl, hC, sR⟩
      ·intro T wx n hC (hn : n ≤ 0) hp
       obtain ⟨(d18 : T 18 = .pointer (some ⟨g, o + 6, none⟩)), (d7 : T 7 = .bool false), -⟩ := hp
       refine ⟨fun hT => ?_, fun hT => absurd d7 hT⟩
       have hz : (L).length = nb := Hn.out
       have cb : wx.cell? ⟨g, o + 6, none⟩ = some (.int .u8 (((ub L 6).toNat : Nat) : Int)) := hC.1.rb.get 6 (by omega)
       clear hz
       refine Op1.g fun _ Z => ?_; go_simp; exact Z _ _ ⟨rfl, hC, sR⟩
      ·intro T wx n hC (hn : n ≤ 0) hp
       obtain ⟨(d7 : T 7 = .bool false), -⟩ := hp
       refine ⟨fun hT => ?_, fun hT => absurd d7 hT⟩
       refine Op1.g fun _ Z => ?_; go_simp; exact Z _ _ ⟨rfl, hC, sR⟩
      ·intro T wx n hC (hn : n ≤ 0) hp
       obtain ⟨(d20 : T 20 = .slice (some ⟨g, o, none⟩) nb c), (d7 : T 7 = .bool false), -⟩ := hp
       refine ⟨fun hT => ?_, fun hT => absurd d7 hT⟩
       exact Op1.indexB (k := 7) (.tmp 43) (.const (.int .i64 7)) rfl d20 rfl (by omega) ⟨rfl, hC, sR⟩
      ·intro T wx n hC (hn : n ≤ 0) hp
       obtain ⟨(d21 : T 21 = .pointer (some ⟨g, o + 7, none⟩)), (d7 : T 7 = .bool false), -⟩ := hp
       refine ⟨fun hT => ?_, fun hT => absurd d7 hT⟩
       have hz : (L).length = nb := Hn.out
       have cb : wx.cell? ⟨g, o + 7, none⟩ = some (.int .u8 (((ub L 7).toNat : Nat) : Int)) := hC.1.rb.get 7 (by omega)
       clear hz
       refine Op1.g fun _ Z => ?_; go_simp; exact Z _ _ ⟨rfl, hC, sR⟩
      ·intro T wx n hC (hn : n ≤ 0) hp
       obtain ⟨(d10 : T 10 = .int .u8 (((ub L 1).toNat : Nat) : Int)), (d13 : T 13 = .int .u8 (((ub L 4).toNat : Nat) : Int)), (d16 : T 16 = .int .u8 (((ub L 5).toNat : Nat) : Int)), (d19 : T 19 = .int .u8 (((ub L 6).toNat : Nat) : Int)), (d22 : T 22 = .int .u8 (((ub L 7).toNat : Nat) : Int)), (d7 : T 7 = .bool false), -⟩ := hp
       refine ⟨fun hT => ?_, fun hT => absurd d7 hT⟩
       skip
       refine Op1.g fun _ Z => ?_; go_simp; exact Z _ _ (arr_val0 [(ub L 1), (ub L 4), (ub L 5), (ub L 6), (ub L 7)] hC _ rfl _ rfl)
      ·intro T wx n hC (hn : n ≤ 0) hp
       obtain ⟨(d23 : Vd.R (.arr ([(ub L 1), (ub L 4), (ub L 5), (ub L 6), (ub L 7)])) (T 23) n wx), (d7 : T 7 = .bool false), -⟩ := hp
       refine ⟨fun hT => ?_, fun hT => absurd d7 hT⟩
       obtain ⟨g9, q9, hg9⟩ := d23
       have hr9 := rb_arr hg9 (by simp)
       refine Op1.g fun _ Z => ?_; go_simp; exact calls_post (val_same0 hC (zeros_is hr9 (by simp) H8.out)) Z
      ·intro T wx n hC (hn : n ≤ 0) hp
       obtain ⟨(d24 : T 24 = .bool false), (d7 : T 7 = .bool false), -⟩ := hp
       refine ⟨fun hT => ?_, fun hT => absurd d7 hT⟩
       refine Op1.g fun _ Z => ?_; go_simp; exact Z _ _ ⟨rfl, hC, sR⟩
      ·intro T wx n hC (hn : n ≤ 0) hp
       obtain ⟨(d7 : T 7 = .bool false), (d25 : T 25 = .bool true), -⟩ := hp
       refine Op1.g fun _ Z => ?_; go_simp; exact Z _ _ ⟨rfl, hC, sR⟩
     case hendd =>
      intro T wx ⟨n, hn, hC, hR⟩
      have HSd := Lib.hid hC.1
      have HBd := Lib.hid hC.2
      have r49 : T 26 = .bool true := hR 26 (by omega)
      rw [r49]
      clear r49
      clear hR hC
      go_wp2_with fail
      go_ret2
      exact .inr (.inr ⟨Hs.out, fun hf => Hz.out hf.2, rfl, HSd.out.g⟩)
    ·have H8 : Hid ((!([(ub L 1), (ub L 4), (ub L 5), (ub L 6), (ub L 7)]).any (· != 0)) = true) := Lib.hid (by rw [hz.1, hz.2.1, hz.2.2.1, hz.2.2.2.1, hz.2.2.2.2]; rfl)
     have Hf : Hid (form4 L) := Lib.hid ⟨Hq.out.trans Hn.out.symm, hz⟩
     clear hz
     refine Lm.wp_region_lim 27 0 (fun p vv nn ww => (List.getD ((.val (.slice (some ⟨g, o, none⟩) nb c)) :: (.val (subV (some ⟨g, o, none⟩) c 2 4)) :: (.val (.int .u64 ((num (sb L 2 2) : Nat) : Int))) :: (.val (.int .i64 ((num (sb L 2 2) : Nat) : Int))) :: (.val (.slice (some ⟨g, o, none⟩) nb c)) :: (.val (.int .i64 ((nb : Nat) : Int))) :: (.val (.bool false)) :: (.val (.bool false)) :: (.val (.slice (some ⟨g, o, none⟩) nb c)) :: (.val (.pointer (some ⟨g, o + 1, none⟩))) :: (.val (.int .u8 (((ub L 1).toNat : Nat) : Int))) :: (.val (.slice (some ⟨g, o, none⟩) nb c)) :: (.val (.pointer (some ⟨g, o + 4, none⟩))) :: (.val (.int .u8 (((ub L 4).toNat : Nat) : Int))) :: (.val (.slice (some ⟨g, o, none⟩) nb c)) :: (.val (.pointer (some ⟨g, o + 5, none⟩))) :: (.val (.int .u8 (((ub L 5).toNat : Nat) : Int))) :: (.val (.slice (some ⟨g, o, none⟩) nb c)) :: (.val (.pointer (some ⟨g, o + 6, none⟩))) :: (.val (.int .u8 (((ub L 6).toNat : Nat) : Int))) :: (.val (.slice (some ⟨g, o, none⟩) nb c)) :: (.val (.pointer (some ⟨g, o + 7, none⟩))) :: (.val (.int .u8 (((ub L 7).toNat : Nat) : Int))) :: (.arr ([(ub L 1), (ub L 4), (ub L 5), (ub L 6), (ub L 7)])) :: (.val (.bool true)) :: (.val (.bool false)) :: (.val (.bool false)) :: [] : List Vd) p .any).R vv nn ww) (fun _ ww => RS w P B (.slice (some ⟨g, o, none⟩) nb c) L (PV.zero) ww ∧ Below w4.heap.size w4 ww) SS (fun _ => 0) (fun _ => 0)
      (by kernel_rfl) (by kernel_rfl) (by decide) (by kernel_rfl) (fun p vv nn ww n' w' h hs => Vd.keep _ h hs) (⟨HS3a.out.drew, below_drew (Below.refl _ _)⟩) ?hXe
     case' hXe => (apply Exists.intro; refine ⟨fun T => ?hAe, ?hobe, ?hende⟩)
     case hAe =>
      simp only [setAll, List.take_succ_cons, List.take_zero, Act.put, List.setIfInBounds_toArray, List.set_cons_succ, List.set_cons_zero, Nat.reduceAdd]
      exact rfl
     case hobe =>
      refine ⟨?_, ?_, ?_, ?_, ?_, ?_, ?_, ?_, ?_, ?_, ?_, ?_, ?_, ?_, ?_, ?_, ?_, ?_, ?_, ?_, ?_, ?_, ?_, ?_, ?_, ?_, ?_, trivial⟩
      ·intro T wx n hC (hn : n ≤ 0) hp
       refine Op1.g fun _ Z => ?_; go_simp; exact Z _ _ ⟨rfl, hC, sR⟩
      ·intro T wx n hC (hn : n ≤ 0) hp
       obtain ⟨(d0 : T 0 = .slice (some ⟨g, o, none⟩) nb c), -⟩ := hp
       exact Op1.slice_lh (l := 2) (h := 4) (.tmp 23) (.const (.int .i64 2)) (.const (.int .i64 4)) rfl d0 rfl rfl (by omega) (by omega) ⟨rfl, hC, sR⟩
      ·intro T wx n hC (hn : n ≤ 0) hp
       obtain ⟨(d1 : T 1 = subV (some ⟨g, o, none⟩) c 2 4), -⟩ := hp
       have hz : (L).length = nb := Hn.out
       refine Op1.g fun _ Z => ?_; go_simp; exact calls_post (val_same0 hC (take_rb (hC.1.rb.sub 2 2 (by omega)) (by rw [sb_len L 2 2 (by omega)]; omega))) Z
      ·intro T wx n hC (hn : n ≤ 0) hp
       obtain ⟨(d2 : T 2 = .int .u64 ((num (sb L 2 2) : Nat) : Int)), -⟩ := hp
       refine Op1.g fun _ Z => ?_; go_simp
       have hb := Nat.lt_of_lt_of_le (num_sb L 2 2) (by decide : 256 ^ 2 ≤ 65536)
       first | exact Z _ _ ⟨rfl, hC, sR⟩ | (refine Z _ _ ⟨congrArg (Value.int _) ?_, hC, sR⟩; first | omega | (simp only [IntKind.wrap_i64]; omega))
      ·intro T wx n hC (hn : n ≤ 0) hp
       refine Op1.g fun _ Z => ?_; go_simp; exact Z _ _ ⟨rfl, hC, sR⟩
      ·intro T wx n hC (hn : n ≤ 0) hp
       obtain ⟨(d4 : T 4 = .slice (some ⟨g, o, none⟩) nb c), -⟩ := hp
       refine Op1.g fun _ Z => ?_; go_simp; exact Z _ _ ⟨rfl, hC, sR⟩
      ·intro T wx n hC (hn : n ≤ 0) hp
       obtain ⟨(d3 : T 3 = .int .i64 ((num (sb L 2 2) : Nat) : Int)), (d5 : T 5 = .int .i64 ((nb : Nat) : Int)), -⟩ := hp
       refine Op1.g fun _ Z => ?_; go_simp; first | exact Z _ _ ⟨congrArg Value.bool (H7.out), hC, sR⟩ | exact Z _ _ ⟨rfl, hC, sR⟩
      ·intro T wx n hC (hn : n ≤ 0) hp
       obtain ⟨(d6 : T 6 = .bool false), -⟩ := hp
       refine Op1.g fun _ Z => ?_; go_simp; exact Z _ _ ⟨rfl, hC, sR⟩
      ·intro T wx n hC (hn : n ≤ 0) hp
       obtain ⟨(d7 : T 7 = .bool false), -⟩ := hp
       refine ⟨fun hT => ?_, fun hT => absurd d7 hT⟩
       refine Op1.g fun _ Z => ?_; go_simp; exact Z _ _ ⟨rfl, hC, sR⟩
      ·intro T wx n hC (hn : n ≤ 0) hp
       obtain ⟨(d8 : T 8 = .slice (some ⟨g, o, none⟩) nb c), (d7 : T 7 = .bool false), -⟩ := hp
       refine ⟨fun hT => ?_, fun hT => absurd d7 hT⟩
       exact Op1.indexB (k := 1) (.tmp 31) (.const (.int .i64 1)) rfl d8 rfl (by omega) ⟨rfl, hC, sR⟩
      ·intro T wx n hC (hn : n ≤ 0) hp
       obtain ⟨(d9 : T 9 = .pointer (some ⟨g, o + 1, none⟩)), (d7 : T 7 = .bool false), -⟩ := hp
       refine ⟨fun hT => ?_, fun hT => absurd d7 hT⟩
       have hz : (L).length = nb := Hn.out
       have cb : wx.cell? ⟨g, o + 1, none⟩ = some (.int .u8 (((ub L 1).toNat : Nat) : Int)) := hC.1.rb.get 1 (by omega)
       clear hz
       refine Op1.g fun _ Z => ?_; go_simp; exact Z _ _ ⟨rfl, hC, sR⟩
      ·intro T wx n hC (hn : n ≤ 0) hp
       obtain ⟨(d7 : T 7 = .bool false), -⟩ := hp
       refine ⟨fun hT => ?_, fun hT => absurd d7 hT⟩
       refine Op1.g fun _ Z => ?_; go_simp; exact Z _ _ ⟨rfl, hC, sR⟩
      ·intro T wx n hC (hn : n ≤ 0) hp
       obtain ⟨(d11 : T 11 = .slice (some ⟨g, o, none⟩) nb c), (d7 : T 7 = .bool false), -⟩ := hp
       refine ⟨fun hT => ?_, fun hT => absurd d7 hT⟩
       exact Op1.indexB (k := 4) (.tmp 34) (.const (.int .i64 4)) rfl d11 rfl (by omega) ⟨rfl, hC, sR⟩
      ·intro T wx n hC (hn : n ≤ 0) hp
       obtain ⟨(d12 : T 12 = .pointer (some ⟨g, o + 4, none⟩)), (d7 : T 7 = .bool false), -⟩ := hp
       refine ⟨fun hT => ?_, fun hT => absurd d7 hT⟩
       have hz : (L).length = nb := Hn.out
       have cb : wx.cell? ⟨g, o + 4, none⟩ = some (.int .u8 (((ub L 4).toNat : Nat) : Int)) := hC.1.rb.get 4 (by omega)
       clear hz
       refine Op1.g fun _ Z => ?_; go_simp; exact Z _ _ ⟨rfl, hC, sR⟩
      ·intro T wx n hC (hn : n ≤ 0) hp
       obtain ⟨(d7 : T 7 = .bool false), -⟩ := hp
       refine ⟨fun hT => ?_, fun hT => absurd d7 hT⟩
       refine Op1.g fun _ Z => ?_; go_simp; exact Z _ _ ⟨rfl, hC, sR⟩
      ·intro T wx n hC (hn : n ≤ 0) hp
       obtain ⟨(d14 : T 14 = .slice (some ⟨g, o, none⟩) nb c), (d7 : T 7 = .bool false), -⟩ := hp
       refine ⟨fun hT => ?_, fun hT => absurd d7 hT⟩
       exact Op1.indexB (k := 5) (.tmp 37) (.const (.int .i64 5)) rfl d14 rfl (by omega) ⟨rfl, hC, sR⟩
      ·intro T wx n hC (hn : n ≤ 0) hp
       obtain ⟨(d15 : T 15 = .pointer (some ⟨g, o + 5, none⟩)), (d7 : T 7 = .bool false), -⟩ := hp
       refine ⟨fun hT => ?_, fun hT => absurd d7 hT⟩
       have hz : (L).length = nb := Hn.out
       have cb : wx.cell? ⟨g, o + 5, none⟩ = some (.int .u8 (((ub L 5).toNat : Nat) : Int)) := hC.1.rb.get 5 (by omega)
       clear hz
       refine Op1.g fun _ Z => ?_; go_simp; exact Z _ _ ⟨rfl, hC, sR⟩
      ·intro T wx n hC (hn : n ≤ 0) hp
       obtain ⟨(d7 : T 7 = .bool false), -⟩ := hp
       refine ⟨fun hT => ?_, fun hT => absurd d7 hT⟩
       refine Op1.g fun _ Z => ?_; go_simp; exact Z _ _ ⟨rfl, hC, sR⟩
      ·intro T wx n hC (hn : n ≤ 0) hp
       obtain ⟨(d17 : T 17 = .slice (some ⟨g, o, none⟩) nb c), (d7 : T 7 = .bool false), -⟩ := hp
       refine ⟨fun hT => ?_, fun hT => absurd d7 hT⟩
       exact Op1.indexB (k := 6) (.tmp 40) (.const (.int .i64 6)) rfl d17 rfl (by omega) ⟨rfl, hC, sR⟩
      ·intro T wx n hC (hn : n ≤ 0) hp
       obtain ⟨(d18 : T 18 = .pointer (some ⟨g, o + 6, none⟩)), (d7 : T 7 = .bool false), -⟩ := hp
       refine ⟨fun hT => ?_, fun hT => absurd d7 hT⟩
       have hz : (L).length = nb := Hn.out
       have cb : wx.cell? ⟨g, o + 6, none⟩ = some (.int .u8 (((ub L 6).toNat : Nat) : Int)) := hC.1.rb.get 6 (by omega)
       clear hz
       refine Op1.g fun _ Z => ?_; go_simp; exact Z _ _ ⟨rfl, hC, sR⟩
      ·intro T wx n hC (hn : n ≤ 0) hp
       obtain ⟨(d7 : T 7 = .bool false), -⟩ := hp
       refine ⟨fun hT => ?_, fun hT => absurd d7 hT⟩
       refine Op1.g fun _ Z => ?_; go_simp; exact Z _ _ ⟨rfl, hC, sR⟩
      ·intro T wx n hC (hn : n ≤ 0) hp
       obtain ⟨(d20 : T 20 = .slice (some ⟨g, o, none⟩) nb c), (d7 : T 7 = .bool false), -⟩ := hp
       refine ⟨fun hT => ?_, fun hT => absurd d7 hT⟩
       exact Op1.indexB (k := 7) (.tmp 43) (.const (.int .i64 7)) rfl d20 rfl (by omega) ⟨rfl, hC, sR⟩
      ·intro T wx n hC (hn : n ≤ 0) hp
       obtain ⟨(d21 : T 21 = .pointer (some ⟨g, o + 7, none⟩)), (d7 : T 7 = .bool false), -⟩ := hp
       refine ⟨fun hT => ?_, fun hT => absurd d7 hT⟩
       have hz : (L).length = nb := Hn.out
       have cb : wx.cell? ⟨g, o + 7, none⟩ = some (.int .u8 (((ub L 7).toNat : Nat) : Int)) := hC.1.rb.get 7 (by omega)
       clear hz
       refine Op1.g fun _ Z => ?_; go_simp; exact Z _ _ ⟨rfl, hC, sR⟩
      ·intro T wx n hC (hn : n ≤ 0) hp
       obtain ⟨(d10 : T 10 = .int .u8 (((ub L 1).toNat : Nat) : Int)), (d13 : T 13 = .int .u8 (((ub L 4).toNat : Nat) : Int)), (d16 : T 16 = .int .u8 (((ub L 5).toNat : Nat) : Int)), (d19 : T 19 = .int .u8 (((ub L 6).toNat : Nat) : Int)), (d22 : T 22 = .int .u8 (((ub L 7).toNat : Nat) : Int)), (d7 : T 7 = .bool false), -⟩ := hp
       refine ⟨fun hT => ?_, fun hT => absurd d7 hT⟩
       skip
       refine Op1.g fun _ Z => ?_; go_simp; exact Z _ _ (arr_val0 [(ub L 1), (ub L 4), (ub L 5), (ub L 6), (ub L 7)] hC _ rfl _ rfl)
      ·intro T wx n hC (hn : n ≤ 0) hp
       obtain ⟨(d23 : Vd.R (.arr ([(ub L 1), (ub L 4), (ub L 5), (ub L 6), (ub L 7)])) (T 23) n wx), (d7 : T 7 = .bool false), -⟩ := hp
       refine ⟨fun hT => ?_, fun hT => absurd d7 hT⟩
       obtain ⟨g9, q9, hg9⟩ := d23
       have hr9 := rb_arr hg9 (by simp)
       refine Op1.g fun _ Z => ?_; go_simp; exact calls_post (val_same0 hC (zeros_is hr9 (by simp) H8.out)) Z
      ·intro T wx n hC (hn : n ≤ 0) hp
       obtain ⟨(d24 : T 24 = .bool true), (d7 : T 7 = .bool false), -⟩ := hp
       refine ⟨fun hT => ?_, fun hT => absurd d7 hT⟩
       refine Op1.g fun _ Z => ?_; go_simp; exact Z _ _ ⟨rfl, hC, sR⟩
      ·intro T wx n hC (hn : n ≤ 0) hp
       obtain ⟨(d7 : T 7 = .bool false), (d25 : T 25 = .bool false), -⟩ := hp
       refine Op1.g fun _ Z => ?_; go_simp; exact Z _ _ ⟨rfl, hC, sR⟩
     case hende =>
      intro T wx ⟨n, hn, hC, hR⟩
      have HSe := Lib.hid hC.1
      have HBe := Lib.hid hC.2
      have r49 : T 26 = .bool false := hR 26 (by omega)
      rw [r49]
      clear r49
      clear hR hC
      go_upto_region 7 with fail
      generalize wx = w5 at *
      have HS5 := HSe
      clear HSe HBe H8 H7 H6 HR3
      refine Lm.wp_region_lim 30 4 (fun p vv nn ww => (List.getD ((.val (.pointer (some ⟨P, 0, none⟩))) :: (.val (.pointer (some ⟨P, 0, none⟩))) :: (.val (.pointer (some ⟨P, 0, none⟩))) :: (.val (.pointer (some ⟨P, 0, none⟩))) :: (.val (.slice (some ⟨g, o, none⟩) nb c)) :: (.val (.pointer (some ⟨g, o + 8, none⟩))) :: (.val (.int .u8 (((ub L 8).toNat : Nat) : Int))) :: (.val (.int .i64 (((ub L 8).toNat : Nat) : Int))) :: (.val (.slice (some ⟨g, o, none⟩) nb c)) :: (.val (.pointer (some ⟨g, o + 9, none⟩))) :: (.val (.int .u8 (((ub L 9).toNat : Nat) : Int))) :: (.val (.int .i64 (((ub L 9).toNat : Nat) : Int))) :: (.val (.slice (some ⟨g, o, none⟩) nb c)) :: (.val (subV (some ⟨g, o, none⟩) c 12 16)) :: (.val (.agg #[.bool false, .int .u64 0, .int .u64 ((num (sb L 12 4) : Nat) : Int)])) :: (.val (.slice (some ⟨g, o, none⟩) nb c)) :: (.val (subV (some ⟨g, o, none⟩) c 16 20)) :: (.val (.agg #[.bool false, .int .u64 0, .int .u64 ((num (sb L 16 4) : Nat) : Int)])) :: (.val (.pointer (some ⟨P, 0, none⟩))) :: (.val (.pointer (some ⟨P, 6, none⟩))) :: (.st 1) :: (.val (.pointer (some ⟨P, 0, none⟩))) :: (.val (.pointer (some ⟨P, 7, none⟩))) :: (.st 2) :: (.val (.pointer (some ⟨P, 0, none⟩))) :: (.val (.pointer (some ⟨P, 0, none⟩))) :: (.st 3) :: (.val (.pointer (some ⟨P, 0, none⟩))) :: (.val (.pointer (some ⟨P, 3, none⟩))) :: (.st 4) :: [] : List Vd) p .any).R vv nn ww) (fun nn ww => RS w P B (.slice (some ⟨g, o, none⟩) nb c) L (List.getD [(PV.zero), ({ PV.zero with hops := (((ub L 8).toNat : Nat) : Int) }), ({ PV.zero with hops := (((ub L 8).toNat : Nat) : Int), proto := (((ub L 9).toNat : Nat) : Int) }), ({ PV.zero with hops := (((ub L 8).toNat : Nat) : Int), proto := (((ub L 9).toNat : Nat) : Int), s1 := false, h1 := 0, l1 := ((num (sb L 12 4) : Nat) : Int) }), ({ PV.zero with hops := (((ub L 8).toNat : Nat) : Int), proto := (((ub L 9).toNat : Nat) : Int), s1 := false, h1 := 0, l1 := ((num (sb L 12 4) : Nat) : Int), s2 := false, h2 := 0, l2 := ((num (sb L 16 4) : Nat) : Int) })] nn ({ PV.zero with hops := (((ub L 8).toNat : Nat) : Int), proto := (((ub L 9).toNat : Nat) : Int), s1 := false, h1 := 0, l1 := ((num (sb L 12 4) : Nat) : Int), s2 := false, h2 := 0, l2 := ((num (sb L 16 4) : Nat) : Int) })) ww ∧ SS 0 w5 nn ww) SS (fun i => if i = 20 ∨ i = 23 ∨ i = 26 ∨ i = 29 then 1 else 0) (fun i => if i = 1 ∨ i = 11 ∨ i = 21 ∨ i = 22 ∨ i = 23 then 1 else if i = 2 ∨ i = 24 ∨ i = 25 ∨ i = 26 then 2 else if i = 3 ∨ i = 27 ∨ i = 28 ∨ i = 29 then 3 else 0)
       (by kernel_rfl) (by kernel_rfl) (by decide) (by kernel_rfl) (fun p vv nn ww n' w' h hs => Vd.keep _ h hs) (⟨HS5.out.drew, SS.drew⟩) ?hXf
      case' hXf => (apply Exists.intro; refine ⟨fun T => ?hAf, ?hobf, ?hendf⟩)
      case hAf =>
       simp only [setAll, List.take_succ_cons, List.take_zero, Act.put, List.setIfInBounds_toArray, List.set_cons_succ, List.set_cons_zero, Nat.reduceAdd]
       exact rfl
      case hobf =>
       refine ⟨?_, ?_, ?_, ?_, ?_, ?_, ?_, ?_, ?_, ?_, ?_, ?_, ?_, ?_, ?_, ?_, ?_, ?_, ?_, ?_, ?_, ?_, ?_, ?_, ?_, ?_, ?_, ?_, ?_, ?_, trivial⟩
       ·intro T wx n hC (hn : n ≤ 0) hp
        refine Op1.g fun _ Z => ?_; go_simp; exact Z _ _ ⟨rfl, hC, sR⟩
       ·intro T wx n hC (hn : n ≤ 1) hp
        refine Op1.g fun _ Z => ?_; go_simp; exact Z _ _ ⟨rfl, hC, sR⟩
       ·intro T wx n hC (hn : n ≤ 2) hp
        refine Op1.g fun _ Z => ?_; go_simp; exact Z _ _ ⟨rfl, hC, sR⟩
       ·intro T wx n hC (hn : n ≤ 3) hp
        refine Op1.g fun _ Z => ?_; go_simp; exact Z _ _ ⟨rfl, hC, sR⟩
       ·intro T wx n hC (hn : n ≤ 0) hp
        refine Op1.g fun _ Z => ?_; go_simp; exact Z _ _ ⟨rfl, hC, sR⟩
       ·intro T wx n hC (hn : n ≤ 0) hp
        obtain ⟨(d4 : T 4 = .slice (some ⟨g, o, none⟩) nb c), -⟩ := hp
        exact Op1.indexB (k := 8) (.tmp 54) (.const (.int .i64 8)) rfl d4 rfl (by omega) ⟨rfl, hC, sR⟩
       ·intro T wx n hC (hn : n ≤ 0) hp
        obtain ⟨(d5 : T 5 = .pointer (some ⟨g, o + 8, none⟩)), -⟩ := hp
        have hz : (L).length = nb := Hn.out
        have cb : wx.cell? ⟨g, o + 8, none⟩ = some (.int .u8 (((ub L 8).toNat : Nat) : Int)) := hC.1.rb.get 8 (by omega)
        clear hz
        refine Op1.g fun _ Z => ?_; go_simp; exact Z _ _ ⟨rfl, hC, sR⟩
       ·intro T wx n hC (hn : n ≤ 0) hp
        obtain ⟨(d6 : T 6 = .int .u8 (((ub L 8).toNat : Nat) : Int)), -⟩ := hp
        refine Op1.g fun _ Z => ?_; go_simp
        have hb := (ub L 8).toNat_lt
        first | exact Z _ _ ⟨rfl, hC, sR⟩ | (refine Z _ _ ⟨congrArg (Value.int _) ?_, hC, sR⟩; first | omega | (simp only [IntKind.wrap_i64]; omega))
       ·intro T wx n hC (hn : n ≤ 0) hp
        refine Op1.g fun _ Z => ?_; go_simp; exact Z _ _ ⟨rfl, hC, sR⟩
       ·intro T wx n hC (hn : n ≤ 0) hp
        obtain ⟨(d8 : T 8 = .slice (some ⟨g, o, none⟩) nb c), -⟩ := hp
        exact Op1.indexB (k := 9) (.tmp 58) (.const (.int .i64 9)) rfl d8 rfl (by omega) ⟨rfl, hC, sR⟩
       ·intro T wx n hC (hn : n ≤ 0) hp
        obtain ⟨(d9 : T 9 = .pointer (some ⟨g, o + 9, none⟩)), -⟩ := hp
        have hz : (L).length = nb := Hn.out
        have cb : wx.cell? ⟨g, o + 9, none⟩ = some (.int .u8 (((ub L 9).toNat : Nat) : Int)) := hC.1.rb.get 9 (by omega)
        clear hz
        refine Op1.g fun _ Z => ?_; go_simp; exact Z _ _ ⟨rfl, hC, sR⟩
       ·intro T wx n hC (hn : n ≤ 1) hp
        obtain ⟨(d10 : T 10 = .int .u8 (((ub L 9).toNat : Nat) : Int)), -⟩ := hp
        refine Op1.g fun _ Z => ?_; go_simp
        have hb := (ub L 9).toNat_lt
        first | exact Z _ _ ⟨rfl, hC, sR⟩ | (refine Z _ _ ⟨congrArg (Value.int _) ?_, hC, sR⟩; first | omega | (simp only [IntKind.wrap_i64]; omega))
       ·intro T wx n hC (hn : n ≤ 0) hp
        refine Op1.g fun _ Z => ?_; go_simp; exact Z _ _ ⟨rfl, hC, sR⟩
       ·intro T wx n hC (hn : n ≤ 0) hp
        obtain ⟨(d12 : T 12 = .slice (some ⟨g, o, none⟩) nb c), -⟩ := hp
        exact Op1.slice_lh (l := 12) (h := 16) (.tmp 62) (.const (.int .i64 12)) (.const (.int .i64 16)) rfl d12 rfl rfl (by omega) (by omega) ⟨rfl, hC, sR⟩
       ·intro T wx n hC (hn : n ≤ 0) hp
        obtain ⟨(d13 : T 13 = subV (some ⟨g, o, none⟩) c 12 16), -⟩ := hp
        have hz : (L).length = nb := Hn.out
        refine Op1.g fun _ Z => ?_; go_simp; exact calls_post (val_ret1 hC (takeAddr4s hC.1.rb (Nat.le_trans hC.1.bs hC.1.g.size) 12 (by omega))) Z
       ·intro T wx n hC (hn : n ≤ 0) hp
        refine Op1.g fun _ Z => ?_; go_simp; exact Z _ _ ⟨rfl, hC, sR⟩
       ·intro T wx n hC (hn : n ≤ 0) hp
        obtain ⟨(d15 : T 15 = .slice (some ⟨g, o, none⟩) nb c), -⟩ := hp
        exact Op1.slice_lh (l := 16) (h := 20) (.tmp 65) (.const (.int .i64 16)) (.const (.int .i64 20)) rfl d15 rfl rfl (by omega) (by omega) ⟨rfl, hC, sR⟩
       ·intro T wx n hC (hn : n ≤ 0) hp
        obtain ⟨(d16 : T 16 = subV (some ⟨g, o, none⟩) c 16 20), -⟩ := hp
        have hz : (L).length = nb := Hn.out
        refine Op1.g fun _ Z => ?_; go_simp; exact calls_post (val_ret1 hC (takeAddr4s hC.1.rb (Nat.le_trans hC.1.bs hC.1.g.size) 16 (by omega))) Z
       ·intro T wx n hC (hn : n ≤ 0) hp
        obtain ⟨(d0 : T 0 = .pointer (some ⟨P, 0, none⟩)), -⟩ := hp
        refine Op1.g fun _ Z => ?_; go_simp; exact Z _ _ ⟨rfl, hC, sR⟩
       ·intro T wx n hC (hn : n ≤ 0) hp
        obtain ⟨(d18 : T 18 = .pointer (some ⟨P, 0, none⟩)), -⟩ := hp
        refine Op1.g fun _ Z => ?_; go_simp; exact Z _ _ ⟨rfl, hC, sR⟩
       ·intro T wx n hC (hn : n ≤ 0) hp
        obtain ⟨(d19 : T 19 = .pointer (some ⟨P, 6, none⟩)), (d7 : T 7 = .int .i64 (((ub L 8).toNat : Nat) : Int)), -⟩ := hp
        obtain rfl : n = 0 := by omega
        have hk : RS w P B (.slice (some ⟨g, o, none⟩) nb c) L (PV.zero) wx := hC.1
        obtain ⟨-, -, -, -, -, -, c6, -, -, -, -, -, -, -, -, -, -, -, -, f0⟩ := PBlk.cells hk.p
        refine Op1.g fun _ Z => ?_; go_simp
        have hk0 := hk.set (PBlk.set_hops hk.p ((((ub L 8).toNat : Nat) : Int)))
        exact Z _ _ ⟨Nat.le_refl _, ⟨hk0, hC.2.trans (SS.set (n := 0) (n' := 1) hk.p 6 _ (by omega))⟩, (SS.set (n := 0) (n' := 1) hk.p 6 _ (by omega))⟩
       ·intro T wx n hC (hn : n ≤ 1) hp
        obtain ⟨(d1 : T 1 = .pointer (some ⟨P, 0, none⟩)), -⟩ := hp
        refine Op1.g fun _ Z => ?_; go_simp; exact Z _ _ ⟨rfl, hC, sR⟩
       ·intro T wx n hC (hn : n ≤ 1) hp
        obtain ⟨(d21 : T 21 = .pointer (some ⟨P, 0, none⟩)), -⟩ := hp
        refine Op1.g fun _ Z => ?_; go_simp; exact Z _ _ ⟨rfl, hC, sR⟩
       ·intro T wx n hC (hn : n ≤ 1) hp
        obtain ⟨(d22 : T 22 = .pointer (some ⟨P, 7, none⟩)), (d11 : T 11 = .int .i64 (((ub L 9).toNat : Nat) : Int)), (d20 : 1 ≤ n), -⟩ := hp
        obtain rfl : n = 1 := by omega
        have hk : RS w P B (.slice (some ⟨g, o, none⟩) nb c) L ({ PV.zero with hops := (((ub L 8).toNat : Nat) : Int) }) wx := hC.1
        obtain ⟨-, -, -, -, -, -, -, c7, -, -, -, -, -, -, -, -, -, -, -, f0⟩ := PBlk.cells hk.p
        refine Op1.g fun _ Z => ?_; go_simp
        have hk0 := hk.set (PBlk.set_proto hk.p ((((ub L 9).toNat : Nat) : Int)))
        exact Z _ _ ⟨Nat.le_refl _, ⟨hk0, hC.2.trans (SS.set (n := 1) (n' := 2) hk.p 7 _ (by omega))⟩, (SS.set (n := 1) (n' := 2) hk.p 7 _ (by omega))⟩
       ·intro T wx n hC (hn : n ≤ 2) hp
        obtain ⟨(d2 : T 2 = .pointer (some ⟨P, 0, none⟩)), -⟩ := hp
        refine Op1.g fun _ Z => ?_; go_simp; exact Z _ _ ⟨rfl, hC, sR⟩
       ·intro T wx n hC (hn : n ≤ 2) hp
        obtain ⟨(d24 : T 24 = .pointer (some ⟨P, 0, none⟩)), -⟩ := hp
        refine Op1.g fun _ Z => ?_; go_simp; exact Z _ _ ⟨rfl, hC, sR⟩
       ·intro T wx n hC (hn : n ≤ 2) hp
        obtain ⟨(d25 : T 25 = .pointer (some ⟨P, 0, none⟩)), (d14 : T 14 = .agg #[.bool false, .int .u64 0, .int .u64 ((num (sb L 12 4) : Nat) : Int)]), (d23 : 2 ≤ n), -⟩ := hp
        obtain rfl : n = 2 := by omega
        have hk : RS w P B (.slice (some ⟨g, o, none⟩) nb c) L ({ PV.zero with hops := (((ub L 8).toNat : Nat) : Int), proto := (((ub L 9).toNat : Nat) : Int) }) wx := hC.1
        obtain ⟨c0, c1, c2, -, -, -, -, -, -, -, -, -, -, -, -, -, -, -, -, f0⟩ := PBlk.cells hk.p
        refine Op1.g fun _ Z => ?_; go_simp
        have hk0 := hk.set (PBlk.set_s1 hk.p (false))
        have hk1 := hk0.set (PBlk.set_h1 hk0.p (0))
        have hk2 := hk1.set (PBlk.set_l1 hk1.p (((num (sb L 12 4) : Nat) : Int)))
        exact Z _ _ ⟨Nat.le_refl _, ⟨hk2, hC.2.trans (((SS.set (n := 2) (n' := 3) hk.p 0 _ (by omega)).trans (SS.set (n := 3) (n' := 3) hk0.p 1 _ (by omega))).trans (SS.set (n := 3) (n' := 3) hk1.p 2 _ (by omega)))⟩, (((SS.set (n := 2) (n' := 3) hk.p 0 _ (by omega)).trans (SS.set (n := 3) (n' := 3) hk0.p 1 _ (by omega))).trans (SS.set (n := 3) (n' := 3) hk1.p 2 _ (by omega)))⟩
       ·intro T wx n hC (hn : n ≤ 3) hp
        obtain ⟨(d3 : T 3 = .pointer (some ⟨P, 0, none⟩)), -⟩ := hp
        refine Op1.g fun _ Z => ?_; go_simp; exact Z _ _ ⟨rfl, hC, sR⟩
       ·intro T wx n hC (hn : n ≤ 3) hp
        obtain ⟨(d27 : T 27 = .pointer (some ⟨P, 0, none⟩)), -⟩ := hp
        refine Op1.g fun _ Z => ?_; go_simp; exact Z _ _ ⟨rfl, hC, sR⟩
       ·intro T wx n hC (hn : n ≤ 3) hp
        obtain ⟨(d28 : T 28 = .pointer (some ⟨P, 3, none⟩)), (d17 : T 17 = .agg #[.bool false, .int .u64 0, .int .u64 ((num (sb L 16 4) : Nat) : Int)]), (d26 : 3 ≤ n), -⟩ := hp
        obtain rfl : n = 3 := by omega
        have hk : RS w P B (.slice (some ⟨g, o, none⟩) nb c) L ({ PV.zero with hops := (((ub L 8).toNat : Nat) : Int), proto := (((ub L 9).toNat : Nat) : Int), s1 := false, h1 := 0, l1 := ((num (sb L 12 4) : Nat) : Int) }) wx := hC.1
        obtain ⟨-, -, -, c3, c4, c5, -, -, -, -, -, -, -, -, -, -, -, -, -, f0⟩ := PBlk.cells hk.p
        refine Op1.g fun _ Z => ?_; go_simp
        have hk0 := hk.set (PBlk.set_s2 hk.p (false))
        have hk1 := hk0.set (PBlk.set_h2 hk0.p (0))
        have hk2 := hk1.set (PBlk.set_l2 hk1.p (((num (sb L 16 4) : Nat) : Int)))
        exact Z _ _ ⟨Nat.le_refl _, ⟨hk2, hC.2.trans (((SS.set (n := 3) (n' := 4) hk.p 3 _ (by omega)).trans (SS.set (n := 4) (n' := 4) hk0.p 4 _ (by omega))).trans (SS.set (n := 4) (n' := 4) hk1.p 5 _ (by omega)))⟩, (((SS.set (n := 3) (n' := 4) hk.p 3 _ (by omega)).trans (SS.set (n := 4) (n' := 4) hk0.p 4 _ (by omega))).trans (SS.set (n := 4) (n' := 4) hk1.p 5 _ (by omega)))⟩
      case hendf =>
       intro T wx ⟨n, hn, hC, hR⟩
       have hk : 4 ≤ n := hR 29 (by omega)
       obtain rfl : n = 4 := by omega
       have HSf : Hid (RS w P B (.slice (some ⟨g, o, none⟩) nb c) L ({ PV.zero with hops := (((ub L 8).toNat : Nat) : Int), proto := (((ub L 9).toNat : Nat) : Int), s1 := false, h1 := 0, l1 := ((num (sb L 12 4) : Nat) : Int), s2 := false, h2 := 0, l2 := ((num (sb L 16 4) : Nat) : Int) }) wx) := Lib.hid hC.1
       have HUf := Lib.hid hC.2
       clear hR hC
       simp only [List.drop_succ_cons, List.drop_nil]
       unfold wpList
       rcases Decidable.em (c = 20) with h9 | h9
       ·subst h9
        go_wp2_with fail
        go_ret2
        exact .inl ⟨Hs.out, Hf.out, by unfold subV; simp; omega, HSf.out⟩
       ·go_wp2_with fail
        go_ret2
        exact .inl ⟨Hs.out, Hf.out, by unfold subV; simp [h9, Addr.add], HSf.out⟩
end Go.Proofs.Ytakjopbdkkcnlaa
