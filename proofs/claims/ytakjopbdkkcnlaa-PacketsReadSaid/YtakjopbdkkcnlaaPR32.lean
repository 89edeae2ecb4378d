/-
  A part of a packet is read: protocol 1.
-/
import Derived.Test.YtakjopbdkkcnlaaPR16
set_option linter.unusedVariables false
namespace Go.Proofs.Ytakjopbdkkcnlaa
open Go.RowKit Go
set_option linter.unusedVariables false


set_option maxRecDepth 100000 in
set_option maxHeartbeats 8000000 in
theorem readPart_I (w : World) (P B g o c nb : Nat) (D : List UInt8) (x : NP) (hx : x.fit) (hp : x.proto = 1) (pv0 : Value) (hS : RS w P B (.slice (some ⟨g, o, none⟩) nb c) D (x.pv pv0) w) (hD : D.length ≤ 1400) :
  Calls Try.prog 72 #[.pointer (some ⟨P, 0, none⟩), .slice (some ⟨g, o, none⟩) nb c] w fun e w' => PartR x D w P B (.slice (some ⟨g, o, none⟩) nb c) e w' := by
 obtain ⟨hn, hc1, hc2⟩ := hS.rb.len
 have Hn : Hid (D.length = nb) := Lib.hid hn.symm
 rw [hn.symm] at hc1 hD
 have hcn : nb ≤ c := hc1
 have HS0 := Lib.hid hS
 clear hS hn hc1
 have c7 : (w).cell? ⟨P, 7, none⟩ = some (.int .i64 1) := by
  obtain ⟨-, -, -, -, -, -, -, c7, -⟩ := PBlk.cells HS0.out.p
  refine c7.trans (congrArg (fun z => some (Value.int .i64 z)) ?_)
  show ((x.proto : Nat) : Int) = 1
  rw [hp]; rfl
 go_enter Try.func72, Try.ntmps72
 rcases Nat.lt_or_ge nb 8 with h8 | h8
 ·have h8z : (nb : Int) < 8 := by omega
  go_wp2_with fail
  go_ret
  refine .inr ⟨fun hk => ?_, rfl, HS0.out.g⟩
  have h1 := hk.1
  rw [hp, Hn.out] at h1
  have h2 : 8 ≤ nb := h1
  omega
 ·have h8z : ¬ ((nb : Int) < 8) := by omega
  go_wp2_with (refine wpList_op1 rfl (Op1.slice_l (l := 8) (.tmp 19) (.tmp 20) rfl rfl rfl (by omega) ?_))
  refine (cloneSub HS0.out.rb (by omega) (by omega)).mono ?_
  rintro e w1 ⟨v1, rfl, hO, hB1⟩
  obtain ⟨M, hM⟩ : ∃ M, M = D.drop 8 := ⟨_, rfl⟩
  rw [← hM] at hO
  have HMl : Hid (M.length = nb - 8) := Lib.hid (by rw [hM, List.length_drop, Hn.out])
  have HM := Lib.hid hM
  clear hM
  obtain ⟨pa, pc, rfl, -⟩ := hO.rb (by have := HMl.out; omega)
  have HS1 := Lib.hid (HS0.out.later hB1)
  have HO1 := Lib.hid hO
  clear hO hB1 c7
  have HS2 : Hid (RS w P B (.slice (some ⟨g, o, none⟩) nb c) D (x.pv (.slice pa M.length pc)) (w1.setCell ⟨P, 18, none⟩ (.slice pa M.length pc))) := Lib.hid (HS1.out.set (PBlk.set_pay HS1.out.p (.slice pa M.length pc)))
  have HO2 := Lib.hid (OwnB.setCell HO1.out HS1.out.p 18 (.slice pa M.length pc))
  obtain ⟨-, -, -, -, -, -, -, -, -, -, -, -, -, -, -, -, -, -, c18, f0⟩ := PBlk.cells HS1.out.p
  have c7 : (w1).cell? ⟨P, 7, none⟩ = some (.int .i64 1) := by
   obtain ⟨-, -, -, -, -, -, -, c7, -⟩ := PBlk.cells HS1.out.p
   refine c7.trans (congrArg (fun z => some (Value.int .i64 z)) ?_)
   show ((x.proto : Nat) : Int) = 1
   rw [hp]; rfl
  go_upto_region 8 with fail
  generalize w1.setCell ⟨P, 18, none⟩ (.slice pa M.length pc) = w2 at *
  clear HS1 HO1 c18 f0 c7
  have Hrr : Hid ((D.getD 0 0 == 0 || D.getD 0 0 == 129) = (ub D 0 == 0 || ub D 0 == 129)) := Lib.hid rfl
  rcases Decidable.em (ub D 0 = 0) with h0 | h0
  ·have H4 : Hid (((((ub D 0).toNat : Nat) : Int) == 0) = true) := Lib.hid (by rw [h0]; rfl)
   have Hr : Hid ((D.getD 0 0 == 0 || D.getD 0 0 == 129) = true) := Lib.hid (by rw [Hrr.out, h0]; rfl)
   clear h0
   refine Lm.wp_region_seq 14 1 (fun p vv nn ww => (List.getD ((.val (.pointer (some ⟨P, 0, none⟩))) :: (.val (.slice (some ⟨g, o, none⟩) nb c)) :: (.val (.pointer (some ⟨g, o + 0, none⟩))) :: (.val (.int .u8 (((ub D 0).toNat : Nat) : Int))) :: (.val (.bool true)) :: (.val (.bool true)) :: (.val (undef)) :: (.val (undef)) :: (.val (undef)) :: (.val (undef)) :: (.val (.bool true)) :: (.val (.pointer (some ⟨P, 0, none⟩))) :: (.val (.pointer (some ⟨P, 16, none⟩))) :: (.st 1) :: [] : List Vd) p .any).R vv nn ww) (fun nn ww => RS w P B (.slice (some ⟨g, o, none⟩) nb c) D (List.getD [((x.pv (.slice pa M.length pc))), ({ (x.pv (.slice pa M.length pc)) with reply := true })] nn ({ (x.pv (.slice pa M.length pc)) with reply := true })) ww ∧ SS 0 w2 nn ww) SS (fun i => if i = 13 then 1 else 0) (fun _ => 0)
    (by kernel_rfl) (by kernel_rfl) (by decide) (by kernel_rfl) (fun p vv nn ww n' w' h hs => Vd.keep _ h hs) (⟨HS2.out, sR⟩) ?hXa
   case' hXa => (apply Exists.intro; refine ⟨fun T => ?hAa, ?hoba, ?henda⟩)
   case hAa =>
    simp only [setAll, List.take_succ_cons, List.take_zero, Act.put, List.setIfInBounds_toArray, List.set_cons_succ, List.set_cons_zero, Nat.reduceAdd]
    exact rfl
   case hoba =>
    refine ⟨?_, ?_, ?_, ?_, ?_, ?_, ?_, ?_, ?_, ?_, ?_, ?_, ?_, ?_, trivial⟩
    ·intro T wx n hC (hn : n ≤ 0) hp
     refine Op1.g fun _ Z => ?_; go_simp; exact Z _ _ ⟨rfl, hC, sR⟩
    ·intro T wx n hC (hn : n ≤ 0) hp
     refine Op1.g fun _ Z => ?_; go_simp; exact Z _ _ ⟨rfl, hC, sR⟩
    ·intro T wx n hC (hn : n ≤ 0) hp
     obtain ⟨(d1 : T 1 = .slice (some ⟨g, o, none⟩) nb c), -⟩ := hp
     exact Op1.indexB (k := 0) (.tmp 31) (.const (.int .i64 0)) rfl d1 rfl (by omega) ⟨rfl, hC, sR⟩
    ·intro T wx n hC (hn : n ≤ 0) hp
     obtain ⟨(d2 : T 2 = .pointer (some ⟨g, o + 0, none⟩)), -⟩ := hp
     have hz : (D).length = nb := Hn.out
     have cb : wx.cell? ⟨g, o, none⟩ = some (.int .u8 (((ub D 0).toNat : Nat) : Int)) := hC.1.rb.get 0 (by omega)
     clear hz
     refine Op1.g fun _ Z => ?_; go_simp; exact Z _ _ ⟨rfl, hC, sR⟩
    ·intro T wx n hC (hn : n ≤ 0) hp
     obtain ⟨(d3 : T 3 = .int .u8 (((ub D 0).toNat : Nat) : Int)), -⟩ := hp
     refine Op1.g fun _ Z => ?_; go_simp; first | exact Z _ _ ⟨congrArg Value.bool (H4.out), hC, sR⟩ | exact Z _ _ ⟨rfl, hC, sR⟩
    ·intro T wx n hC (hn : n ≤ 0) hp
     obtain ⟨(d4 : T 4 = .bool true), -⟩ := hp
     refine Op1.g fun _ Z => ?_; go_simp; exact Z _ _ ⟨rfl, hC, sR⟩
    ·intro T wx n hC (hn : n ≤ 0) hp
     obtain ⟨(d5 : T 5 = .bool true), -⟩ := hp
     refine ⟨fun hT => ?_, fun hT => ⟨rfl, hC, sR⟩⟩
     rw [d5] at hT
     cases hT
    ·intro T wx n hC (hn : n ≤ 0) hp
     obtain ⟨-, (d5 : T 5 = .bool true), -⟩ := hp
     refine ⟨fun hT => ?_, fun hT => ⟨rfl, hC, sR⟩⟩
     rw [d5] at hT
     cases hT
    ·intro T wx n hC (hn : n ≤ 0) hp
     obtain ⟨-, (d5 : T 5 = .bool true), -⟩ := hp
     refine ⟨fun hT => ?_, fun hT => ⟨rfl, hC, sR⟩⟩
     rw [d5] at hT
     cases hT
    ·intro T wx n hC (hn : n ≤ 0) hp
     obtain ⟨-, (d5 : T 5 = .bool true), -⟩ := hp
     refine ⟨fun hT => ?_, fun hT => ⟨rfl, hC, sR⟩⟩
     rw [d5] at hT
     cases hT
    ·intro T wx n hC (hn : n ≤ 0) hp
     obtain ⟨(d5 : T 5 = .bool true), -⟩ := hp
     refine Op1.g fun _ Z => ?_; go_simp; exact Z _ _ ⟨rfl, hC, sR⟩
    ·intro T wx n hC (hn : n ≤ 0) hp
     obtain ⟨(d0 : T 0 = .pointer (some ⟨P, 0, none⟩)), -⟩ := hp
     refine Op1.g fun _ Z => ?_; go_simp; exact Z _ _ ⟨rfl, hC, sR⟩
    ·intro T wx n hC (hn : n ≤ 0) hp
     obtain ⟨(d11 : T 11 = .pointer (some ⟨P, 0, none⟩)), -⟩ := hp
     refine Op1.g fun _ Z => ?_; go_simp; exact Z _ _ ⟨rfl, hC, sR⟩
    ·intro T wx n hC (hn : n ≤ 0) hp
     obtain ⟨(d12 : T 12 = .pointer (some ⟨P, 16, none⟩)), (d10 : T 10 = .bool true), -⟩ := hp
     obtain rfl : n = 0 := by omega
     have hk : RS w P B (.slice (some ⟨g, o, none⟩) nb c) D ((x.pv (.slice pa M.length pc))) wx := hC.1
     obtain ⟨-, -, -, -, -, -, -, -, -, -, -, -, -, -, -, -, c16, -, -, f0⟩ := PBlk.cells hk.p
     refine Op1.g fun _ Z => ?_; go_simp
     have hk0 := hk.set (PBlk.set_reply hk.p (true))
     exact Z _ _ ⟨Nat.le_refl _, ⟨hk0, hC.2.trans (SS.set (n := 0) (n' := 1) hk.p 16 _ (by omega))⟩, (SS.set (n := 0) (n' := 1) hk.p 16 _ (by omega))⟩
   case henda =>
    intro T wx ⟨n, hn, hC, hR⟩
    have hk : 1 ≤ n := hR 13 (by omega)
    obtain rfl : n = 1 := by omega
    have HSa : Hid (RS w P B (.slice (some ⟨g, o, none⟩) nb c) D ({ (x.pv (.slice pa M.length pc)) with reply := true }) wx) := Lib.hid hC.1
    have HUa := Lib.hid hC.2
    clear hR hC
    simp only [List.drop_succ_cons, List.drop_nil]
    unfold wpList
    have HOa := Lib.hid (HO2.out.ss HUa.out)
    go_upto_region 9 with fail
    generalize wx = w3 at *
    clear HS2 HO2 HUa
    refine Lm.wp_region_lim 16 2 (fun p vv nn ww => (List.getD ((.val (.pointer (some ⟨P, 0, none⟩))) :: (.val (.pointer (some ⟨P, 0, none⟩))) :: (.val (.slice (some ⟨g, o, none⟩) nb c)) :: (.val (subV (some ⟨g, o, none⟩) c 4 6)) :: (.val (.int .u64 ((num (sb D 4 2) : Nat) : Int))) :: (.val (.int .i64 ((num (sb D 4 2) : Nat) : Int))) :: (.val (.slice (some ⟨g, o, none⟩) nb c)) :: (.val (subV (some ⟨g, o, none⟩) c 6 8)) :: (.val (.int .u64 ((num (sb D 6 2) : Nat) : Int))) :: (.val (.int .i64 ((num (sb D 6 2) : Nat) : Int))) :: (.val (.pointer (some ⟨P, 0, none⟩))) :: (.val (.pointer (some ⟨P, 17, none⟩))) :: (.st 1) :: (.val (.pointer (some ⟨P, 0, none⟩))) :: (.val (.pointer (some ⟨P, 14, none⟩))) :: (.st 2) :: [] : List Vd) p .any).R vv nn ww) (fun nn ww => RS w P B (.slice (some ⟨g, o, none⟩) nb c) D (List.getD [({ (x.pv (.slice pa M.length pc)) with reply := true }), ({ (x.pv (.slice pa M.length pc)) with reply := true, id := ((num (sb D 4 2) : Nat) : Int) }), ({ (x.pv (.slice pa M.length pc)) with reply := true, id := ((num (sb D 4 2) : Nat) : Int), seq := ((num (sb D 6 2) : Nat) : Int) })] nn ({ (x.pv (.slice pa M.length pc)) with reply := true, id := ((num (sb D 4 2) : Nat) : Int), seq := ((num (sb D 6 2) : Nat) : Int) })) ww ∧ SS 0 w3 nn ww) SS (fun i => if i = 12 ∨ i = 15 then 1 else 0) (fun i => if i = 1 ∨ i = 9 ∨ i = 13 ∨ i = 14 ∨ i = 15 then 1 else 0)
     (by kernel_rfl) (by kernel_rfl) (by decide) (by kernel_rfl) (fun p vv nn ww n' w' h hs => Vd.keep _ h hs) (⟨HSa.out.drew, SS.drew⟩) ?hXa2
    case' hXa2 => (apply Exists.intro; refine ⟨fun T => ?hAa2, ?hoba2, ?henda2⟩)
    case hAa2 =>
     simp only [setAll, List.take_succ_cons, List.take_zero, Act.put, List.setIfInBounds_toArray, List.set_cons_succ, List.set_cons_zero, Nat.reduceAdd]
     exact rfl
    case hoba2 =>
     refine ⟨?_, ?_, ?_, ?_, ?_, ?_, ?_, ?_, ?_, ?_, ?_, ?_, ?_, ?_, ?_, ?_, trivial⟩
     ·intro T wx n hC (hn : n ≤ 0) hp
      refine Op1.g fun _ Z => ?_; go_simp; exact Z _ _ ⟨rfl, hC, sR⟩
     ·intro T wx n hC (hn : n ≤ 1) hp
      refine Op1.g fun _ Z => ?_; go_simp; exact Z _ _ ⟨rfl, hC, sR⟩
     ·intro T wx n hC (hn : n ≤ 0) hp
      refine Op1.g fun _ Z => ?_; go_simp; exact Z _ _ ⟨rfl, hC, sR⟩
     ·intro T wx n hC (hn : n ≤ 0) hp
      obtain ⟨(d2 : T 2 = .slice (some ⟨g, o, none⟩) nb c), -⟩ := hp
      exact Op1.slice_lh (l := 4) (h := 6) (.tmp 45) (.const (.int .i64 4)) (.const (.int .i64 6)) rfl d2 rfl rfl (by omega) (by omega) ⟨rfl, hC, sR⟩
     ·intro T wx n hC (hn : n ≤ 0) hp
      obtain ⟨(d3 : T 3 = subV (some ⟨g, o, none⟩) c 4 6), -⟩ := hp
      have hz : (D).length = nb := Hn.out
      refine Op1.g fun _ Z => ?_; go_simp; exact calls_post (val_same1 hC (take_rb (hC.1.rb.sub 4 2 (by omega)) (by rw [sb_len D 4 2 (by omega)]; omega))) Z
     ·intro T wx n hC (hn : n ≤ 0) hp
      obtain ⟨(d4 : T 4 = .int .u64 ((num (sb D 4 2) : Nat) : Int)), -⟩ := hp
      refine Op1.g fun _ Z => ?_; go_simp
      have hb := Nat.lt_of_lt_of_le (num_sb D 4 2) (by decide : 256 ^ 2 ≤ 65536)
      first | exact Z _ _ ⟨rfl, hC, sR⟩ | (refine Z _ _ ⟨congrArg (Value.int _) ?_, hC, sR⟩; first | omega | (simp only [IntKind.wrap_i64]; omega))
     ·intro T wx n hC (hn : n ≤ 0) hp
      refine Op1.g fun _ Z => ?_; go_simp; exact Z _ _ ⟨rfl, hC, sR⟩
     ·intro T wx n hC (hn : n ≤ 0) hp
      obtain ⟨(d6 : T 6 = .slice (some ⟨g, o, none⟩) nb c), -⟩ := hp
      exact Op1.slice_lh (l := 6) (h := 8) (.tmp 49) (.const (.int .i64 6)) (.const (.int .i64 8)) rfl d6 rfl rfl (by omega) (by omega) ⟨rfl, hC, sR⟩
     ·intro T wx n hC (hn : n ≤ 0) hp
      obtain ⟨(d7 : T 7 = subV (some ⟨g, o, none⟩) c 6 8), -⟩ := hp
      have hz : (D).length = nb := Hn.out
      refine Op1.g fun _ Z => ?_; go_simp; exact calls_post (val_same1 hC (take_rb (hC.1.rb.sub 6 2 (by omega)) (by rw [sb_len D 6 2 (by omega)]; omega))) Z
     ·intro T wx n hC (hn : n ≤ 1) hp
      obtain ⟨(d8 : T 8 = .int .u64 ((num (sb D 6 2) : Nat) : Int)), -⟩ := hp
      refine Op1.g fun _ Z => ?_; go_simp
      have hb := Nat.lt_of_lt_of_le (num_sb D 6 2) (by decide : 256 ^ 2 ≤ 65536)
      first | exact Z _ _ ⟨rfl, hC, sR⟩ | (refine Z _ _ ⟨congrArg (Value.int _) ?_, hC, sR⟩; first | omega | (simp only [IntKind.wrap_i64]; omega))
     ·intro T wx n hC (hn : n ≤ 0) hp
      obtain ⟨(d0 : T 0 = .pointer (some ⟨P, 0, none⟩)), -⟩ := hp
      refine Op1.g fun _ Z => ?_; go_simp; exact Z _ _ ⟨rfl, hC, sR⟩
     ·intro T wx n hC (hn : n ≤ 0) hp
      obtain ⟨(d10 : T 10 = .pointer (some ⟨P, 0, none⟩)), -⟩ := hp
      refine Op1.g fun _ Z => ?_; go_simp; exact Z _ _ ⟨rfl, hC, sR⟩
     ·intro T wx n hC (hn : n ≤ 0) hp
      obtain ⟨(d11 : T 11 = .pointer (some ⟨P, 17, none⟩)), (d5 : T 5 = .int .i64 ((num (sb D 4 2) : Nat) : Int)), -⟩ := hp
      obtain rfl : n = 0 := by omega
      have hk : RS w P B (.slice (some ⟨g, o, none⟩) nb c) D ({ (x.pv (.slice pa M.length pc)) with reply := true }) wx := hC.1
      obtain ⟨-, -, -, -, -, -, -, -, -, -, -, -, -, -, -, -, -, c17, -, f0⟩ := PBlk.cells hk.p
      refine Op1.g fun _ Z => ?_; go_simp
      have hk0 := hk.set (PBlk.set_id hk.p (((num (sb D 4 2) : Nat) : Int)))
      exact Z _ _ ⟨Nat.le_refl _, ⟨hk0, hC.2.trans (SS.set (n := 0) (n' := 1) hk.p 17 _ (by omega))⟩, (SS.set (n := 0) (n' := 1) hk.p 17 _ (by omega))⟩
     ·intro T wx n hC (hn : n ≤ 1) hp
      obtain ⟨(d1 : T 1 = .pointer (some ⟨P, 0, none⟩)), -⟩ := hp
      refine Op1.g fun _ Z => ?_; go_simp; exact Z _ _ ⟨rfl, hC, sR⟩
     ·intro T wx n hC (hn : n ≤ 1) hp
      obtain ⟨(d13 : T 13 = .pointer (some ⟨P, 0, none⟩)), -⟩ := hp
      refine Op1.g fun _ Z => ?_; go_simp; exact Z _ _ ⟨rfl, hC, sR⟩
     ·intro T wx n hC (hn : n ≤ 1) hp
      obtain ⟨(d14 : T 14 = .pointer (some ⟨P, 14, none⟩)), (d9 : T 9 = .int .i64 ((num (sb D 6 2) : Nat) : Int)), (d12 : 1 ≤ n), -⟩ := hp
      obtain rfl : n = 1 := by omega
      have hk : RS w P B (.slice (some ⟨g, o, none⟩) nb c) D ({ (x.pv (.slice pa M.length pc)) with reply := true, id := ((num (sb D 4 2) : Nat) : Int) }) wx := hC.1
      obtain ⟨-, -, -, -, -, -, -, -, -, -, -, -, -, -, c14, -, -, -, -, f0⟩ := PBlk.cells hk.p
      refine Op1.g fun _ Z => ?_; go_simp
      have hk0 := hk.set (PBlk.set_seq hk.p (((num (sb D 6 2) : Nat) : Int)))
      exact Z _ _ ⟨Nat.le_refl _, ⟨hk0, hC.2.trans (SS.set (n := 1) (n' := 2) hk.p 14 _ (by omega))⟩, (SS.set (n := 1) (n' := 2) hk.p 14 _ (by omega))⟩
    case henda2 =>
     intro T wx ⟨n, hn, hC, hR⟩
     have hk : 2 ≤ n := hR 15 (by omega)
     obtain rfl : n = 2 := by omega
     have HSa2 : Hid (RS w P B (.slice (some ⟨g, o, none⟩) nb c) D ({ (x.pv (.slice pa M.length pc)) with reply := true, id := ((num (sb D 4 2) : Nat) : Int), seq := ((num (sb D 6 2) : Nat) : Int) }) wx) := Lib.hid hC.1
     have HUa2 := Lib.hid hC.2
     clear hR hC
     simp only [List.drop_succ_cons, List.drop_nil]
     unfold wpList
     have HOa2 := Lib.hid (HOa.out.ss HUa2.out)
     have c7 : (wx).cell? ⟨P, 7, none⟩ = some (.int .i64 1) := by
      obtain ⟨-, -, -, -, -, -, -, c7, -⟩ := PBlk.cells HSa2.out.p
      refine c7.trans (congrArg (fun z => some (Value.int .i64 z)) ?_)
      show ((x.proto : Nat) : Int) = 1
      rw [hp]; rfl
     go_upto_region 16 with fail
     generalize wx = w4 at *
     clear HSa HOa HUa2 c7
     have Hy : (prtX x D).pv (.slice pa M.length pc) = { (x.pv (.slice pa M.length pc)) with reply := true, id := ((num (sb D 4 2) : Nat) : Int), seq := ((num (sb D 6 2) : Nat) : Int) } := by
      unfold prtX
      rw [if_neg (by rw [hp]; decide), if_neg (by rw [hp]; decide)]
      first | rfl | (simp only [NP.pv]; first | rfl | (rw [← Hr.out]))
     have HSy : Hid (RS w P B (.slice (some ⟨g, o, none⟩) nb c) D ((prtX x D).pv (.slice pa M.length pc)) w4) := by rw [Hy]; exact HSa2
     have hyf : (prtX x D).fit := prtX_fit hx D
     have hyp : (prtX x D).proto = 1 := by rw [prtX_proto]; exact hp
     have Hk : Hid (prtOk x D ↔ partB (prtX x D) M = setSum D 2 0) := Lib.hid (by
      unfold prtOk
      rw [show leastN x.proto = 8 by rw [hp]; rfl, show sumAtN x.proto = 2 by rw [hp]; rfl, ← HM.out]
      exact ⟨fun h => h.2.2, fun h => ⟨by rw [Hn.out]; omega, fun h => by have := h.1; omega, h⟩⟩)
     obtain ⟨y, hy⟩ : ∃ y, prtX x D = y := ⟨_, rfl⟩
     have HY := Lib.hid hy
     rw [hy] at HSy hyf hyp Hk
     clear hy Hy HSa2
     go_wp2_with (refine wpList_load_row rfl 45 (.tmp 135) rfl P rfl 45 (y.pv (.slice pa M.length pc)).cells (0, 0) _ HSy.out.p Try.underlying45 rfl (by kernel_rfl) ?_)
     refine (partOf_any y hyf pa pc M w4 (OwnB.rb HOa2.out (by have := HMl.out; omega)) (by have := HMl.out; omega)).mono ?_
     rintro e w5 ⟨v5, rfl, hO5, hB5⟩
     have HS5 := Lib.hid (HSy.out.later hB5)
     have HO5 := Lib.hid hO5
     have HB5 := Lib.hid hB5
     have hsz5 := hB5.size
     clear hO5 hB5
     go_wp2_with fail
     refine (cloneB_rb HS5.out.rb (by rw [Hn.out]; omega)).mono ?_
     rintro e w6 ⟨v6, rfl, hO6, hB6⟩
     have HS6 := Lib.hid (HS5.out.later hB6)
     have HB6 := Lib.hid (HB5.out.trans (hB6.mono hsz5))
     have HR5 : Hid (Rb w5.heap.size w6 v5 (partB y M)) := Lib.hid ((HO5.out.rb (by rw [partB_len, hyp, HMl.out, show leastN 1 = 8 from rfl]; omega)).below hB6)
     have hsz6 := hB6.size
     obtain ⟨g6, c6, rfl, hg6, hl6, hd6, hm6⟩ := hO6.slice1 (by rw [Hn.out]; omega)
     have HO6 := Lib.hid hO6
     clear hO6 hB6
     rw [show D.length = nb from Hn.out]
     have c7 : w6.cell? ⟨P, 7, none⟩ = some (.int .i64 1) := by
      obtain ⟨-, -, -, -, -, -, -, c7, -⟩ := PBlk.cells HS6.out.p
      refine c7.trans (congrArg (fun z => some (Value.int .i64 z)) ?_)
      show ((y.proto : Nat) : Int) = 1
      rw [hyp]; rfl
     have hsa : Calls Try.prog 73 #[.int .i64 1] w6 (Ret (.int .i64 2) w6) := sumAt_any 1 w6 (by omega)
     go_wp2_with fail
     refine hsa.mono ?_
     rintro e w7 ⟨rfl, hB7⟩
     have HS7 := Lib.hid (HS6.out.later hB7)
     have HB7 := Lib.hid (HB6.out.trans (hB7.mono (Nat.le_trans hsz5 hsz6)))
     have HR7 := Lib.hid (HR5.out.below (hB7.mono hsz6))
     have HO7 : Hid (OwnB w7 w5.heap.size (.slice (some ⟨g6, 0, none⟩) D.length c6) D) := Lib.hid (own_later HO6.out hB7)
     have hsz7 := hB7.size
     clear hB7 hsa c7
     have hf := HO7.out.frozen
     have hcl := HO7.out.get
     have HO8 := Lib.hid (show OwnB ((w7.setCell ⟨g6, 2, none⟩ (.int .u8 0)).setCell ⟨g6, 3, none⟩ (.int .u8 0)) w5.heap.size (.slice (some ⟨g6, 0, none⟩) D.length c6) (setSum D 2 0) from HO7.out.zero2 2 (by rw [Hn.out]; omega))
     rw [show D.length = nb from Hn.out] at hcl HO8 hd6
     obtain ⟨y1, hc1'⟩ : ∃ y, w7.cell? ⟨g6, 2, none⟩ = some (encB y) := ⟨_, hcl 2 (by omega)⟩
     obtain ⟨y2, hc2'⟩ : ∃ y, w7.cell? ⟨g6, 3, none⟩ = some (encB y) := ⟨_, hcl 3 (by omega)⟩
     clear hcl
     go_wp2_with fail
     have HB8 : Hid (Below w5.heap.size w7 ((w7.setCell ⟨g6, 2, none⟩ (.int .u8 0)).setCell ⟨g6, 3, none⟩ (.int .u8 0))) := Lib.hid (((Below.refl _ _).setCell hg6 _).setCell hg6 _)
     refine (equal_rb (HR7.out.below HB8.out) (HO8.out.rb (by rw [setSum_len, Hn.out]; omega))).mono ?_
     rintro e w9 ⟨rfl, hB9⟩
     obtain ⟨z, hz⟩ : ∃ z, decide (partB y M = setSum D 2 0) = z := ⟨_, rfl⟩
     rw [hz]
     have HZ := Lib.hid hz
     clear hz
     go_wp2_with fail
     go_ret
     have hB10 : Below w4.heap.size w4 w9 := (HB7.out.trans (HB8.out.mono hsz5)).trans (hB9.mono (by simp; omega))
     cases z with
     | true =>
      refine .inl ⟨Hk.out.2 (of_decide_eq_true HZ.out), rfl, (.slice pa M.length pc), ?_, ?_⟩
      ·rw [HY.out]; exact HSy.out.later hB10
      ·rw [show leastN x.proto = 8 by rw [hp]; rfl, ← HM.out]
       exact own_later HOa2.out hB10
     | false => exact .inr ⟨fun h => of_decide_eq_false HZ.out (Hk.out.1 h), rfl, grown_below HSy.out.g hB10⟩
  ·have H4 : Hid (((((ub D 0).toNat : Nat) : Int) == 0) = false) := Lib.hid (by
    rw [beq_eq_false_iff_ne]; intro e; exact h0 (UInt8.toNat_inj.1 (Int.ofNat.inj e)))
   obtain ⟨rv, hrv⟩ : ∃ rv, (ub D 0 == 129) = rv := ⟨_, rfl⟩
   have H9 : Hid (((((ub D 0).toNat : Nat) : Int) == 129) = rv) := Lib.hid (by
    rw [← hrv]
    by_cases h1 : ub D 0 = 129
    ·rw [h1]; rfl
    ·rw [beq_eq_false_iff_ne.2 h1, beq_eq_false_iff_ne]
     intro e; exact h1 (UInt8.toNat_inj.1 (Int.ofNat.inj e)))
   have Hr : Hid ((D.getD 0 0 == 0 || D.getD 0 0 == 129) = rv) := Lib.hid (by rw [Hrr.out, beq_eq_false_iff_ne.2 h0, hrv, Bool.false_or])
   clear h0 hrv
   refine Lm.wp_region_seq 14 1 (fun p vv nn ww => (List.getD ((.val (.pointer (some ⟨P, 0, none⟩))) :: (.val (.slice (some ⟨g, o, none⟩) nb c)) :: (.val (.pointer (some ⟨g, o + 0, none⟩))) :: (.val (.int .u8 (((ub D 0).toNat : Nat) : Int))) :: (.val (.bool false)) :: (.val (.bool false)) :: (.val (.slice (some ⟨g, o, none⟩) nb c)) :: (.val (.pointer (some ⟨g, o + 0, none⟩))) :: (.val (.int .u8 (((ub D 0).toNat : Nat) : Int))) :: (.val (.bool rv)) :: (.val (.bool rv)) :: (.val (.pointer (some ⟨P, 0, none⟩))) :: (.val (.pointer (some ⟨P, 16, none⟩))) :: (.st 1) :: [] : List Vd) p .any).R vv nn ww) (fun nn ww => RS w P B (.slice (some ⟨g, o, none⟩) nb c) D (List.getD [((x.pv (.slice pa M.length pc))), ({ (x.pv (.slice pa M.length pc)) with reply := rv })] nn ({ (x.pv (.slice pa M.length pc)) with reply := rv })) ww ∧ SS 0 w2 nn ww) SS (fun i => if i = 13 then 1 else 0) (fun _ => 0)
    (by kernel_rfl) (by kernel_rfl) (by decide) (by kernel_rfl) (fun p vv nn ww n' w' h hs => Vd.keep _ h hs) (⟨HS2.out, sR⟩) ?hXb
   case' hXb => (apply Exists.intro; refine ⟨fun T => ?hAb, ?hobb, ?hendb⟩)
   case hAb =>
    simp only [setAll, List.take_succ_cons, List.take_zero, Act.put, List.setIfInBounds_toArray, List.set_cons_succ, List.set_cons_zero, Nat.reduceAdd]
    exact rfl
   case hobb =>
    refine ⟨?_, ?_, ?_, ?_, ?_, ?_, ?_, ?_, ?_, ?_, ?_, ?_, ?_, ?_, trivial⟩
    ·intro T wx n hC (hn : n ≤ 0) hp
     refine Op1.g fun _ Z => ?_; go_simp; exact Z _ _ ⟨rfl, hC, sR⟩
    ·intro T wx n hC (hn : n ≤ 0) hp
     refine Op1.g fun _ Z => ?_; go_simp; exact Z _ _ ⟨rfl, hC, sR⟩
    ·intro T wx n hC (hn : n ≤ 0) hp
     obtain ⟨(d1 : T 1 = .slice (some ⟨g, o, none⟩) nb c), -⟩ := hp
     exact Op1.indexB (k := 0) (.tmp 31) (.const (.int .i64 0)) rfl d1 rfl (by omega) ⟨rfl, hC, sR⟩
    ·intro T wx n hC (hn : n ≤ 0) hp
     obtain ⟨(d2 : T 2 = .pointer (some ⟨g, o + 0, none⟩)), -⟩ := hp
     have hz : (D).length = nb := Hn.out
     have cb : wx.cell? ⟨g, o, none⟩ = some (.int .u8 (((ub D 0).toNat : Nat) : Int)) := hC.1.rb.get 0 (by omega)
     clear hz
     refine Op1.g fun _ Z => ?_; go_simp; exact Z _ _ ⟨rfl, hC, sR⟩
    ·intro T wx n hC (hn : n ≤ 0) hp
     obtain ⟨(d3 : T 3 = .int .u8 (((ub D 0).toNat : Nat) : Int)), -⟩ := hp
     refine Op1.g fun _ Z => ?_; go_simp; first | exact Z _ _ ⟨congrArg Value.bool (H4.out), hC, sR⟩ | exact Z _ _ ⟨rfl, hC, sR⟩
    ·intro T wx n hC (hn : n ≤ 0) hp
     obtain ⟨(d4 : T 4 = .bool false), -⟩ := hp
     refine Op1.g fun _ Z => ?_; go_simp; exact Z _ _ ⟨rfl, hC, sR⟩
    ·intro T wx n hC (hn : n ≤ 0) hp
     obtain ⟨(d5 : T 5 = .bool false), -⟩ := hp
     refine ⟨fun hT => ?_, fun hT => absurd d5 hT⟩
     refine Op1.g fun _ Z => ?_; go_simp; exact Z _ _ ⟨rfl, hC, sR⟩
    ·intro T wx n hC (hn : n ≤ 0) hp
     obtain ⟨(d6 : T 6 = .slice (some ⟨g, o, none⟩) nb c), (d5 : T 5 = .bool false), -⟩ := hp
     refine ⟨fun hT => ?_, fun hT => absurd d5 hT⟩
     exact Op1.indexB (k := 0) (.tmp 36) (.const (.int .i64 0)) rfl d6 rfl (by omega) ⟨rfl, hC, sR⟩
    ·intro T wx n hC (hn : n ≤ 0) hp
     obtain ⟨(d7 : T 7 = .pointer (some ⟨g, o + 0, none⟩)), (d5 : T 5 = .bool false), -⟩ := hp
     refine ⟨fun hT => ?_, fun hT => absurd d5 hT⟩
     have hz : (D).length = nb := Hn.out
     have cb : wx.cell? ⟨g, o, none⟩ = some (.int .u8 (((ub D 0).toNat : Nat) : Int)) := hC.1.rb.get 0 (by omega)
     clear hz
     refine Op1.g fun _ Z => ?_; go_simp; exact Z _ _ ⟨rfl, hC, sR⟩
    ·intro T wx n hC (hn : n ≤ 0) hp
     obtain ⟨(d8 : T 8 = .int .u8 (((ub D 0).toNat : Nat) : Int)), (d5 : T 5 = .bool false), -⟩ := hp
     refine ⟨fun hT => ?_, fun hT => absurd d5 hT⟩
     refine Op1.g fun _ Z => ?_; go_simp; first | exact Z _ _ ⟨congrArg Value.bool (H9.out), hC, sR⟩ | exact Z _ _ ⟨rfl, hC, sR⟩
    ·intro T wx n hC (hn : n ≤ 0) hp
     obtain ⟨(d5 : T 5 = .bool false), (d9 : T 9 = .bool rv), -⟩ := hp
     refine Op1.g fun _ Z => ?_; go_simp; exact Z _ _ ⟨rfl, hC, sR⟩
    ·intro T wx n hC (hn : n ≤ 0) hp
     obtain ⟨(d0 : T 0 = .pointer (some ⟨P, 0, none⟩)), -⟩ := hp
     refine Op1.g fun _ Z => ?_; go_simp; exact Z _ _ ⟨rfl, hC, sR⟩
    ·intro T wx n hC (hn : n ≤ 0) hp
     obtain ⟨(d11 : T 11 = .pointer (some ⟨P, 0, none⟩)), -⟩ := hp
     refine Op1.g fun _ Z => ?_; go_simp; exact Z _ _ ⟨rfl, hC, sR⟩
    ·intro T wx n hC (hn : n ≤ 0) hp
     obtain ⟨(d12 : T 12 = .pointer (some ⟨P, 16, none⟩)), (d10 : T 10 = .bool rv), -⟩ := hp
     obtain rfl : n = 0 := by omega
     have hk : RS w P B (.slice (some ⟨g, o, none⟩) nb c) D ((x.pv (.slice pa M.length pc))) wx := hC.1
     obtain ⟨-, -, -, -, -, -, -, -, -, -, -, -, -, -, -, -, c16, -, -, f0⟩ := PBlk.cells hk.p
     refine Op1.g fun _ Z => ?_; go_simp
     have hk0 := hk.set (PBlk.set_reply hk.p (rv))
     exact Z _ _ ⟨Nat.le_refl _, ⟨hk0, hC.2.trans (SS.set (n := 0) (n' := 1) hk.p 16 _ (by omega))⟩, (SS.set (n := 0) (n' := 1) hk.p 16 _ (by omega))⟩
   case hendb =>
    intro T wx ⟨n, hn, hC, hR⟩
    have hk : 1 ≤ n := hR 13 (by omega)
    obtain rfl : n = 1 := by omega
    have HSb : Hid (RS w P B (.slice (some ⟨g, o, none⟩) nb c) D ({ (x.pv (.slice pa M.length pc)) with reply := rv }) wx) := Lib.hid hC.1
    have HUb := Lib.hid hC.2
    clear hR hC
    simp only [List.drop_succ_cons, List.drop_nil]
    unfold wpList
    have HOb := Lib.hid (HO2.out.ss HUb.out)
    go_upto_region 9 with fail
    generalize wx = w3 at *
    clear HS2 HO2 HUb
    refine Lm.wp_region_lim 16 2 (fun p vv nn ww => (List.getD ((.val (.pointer (some ⟨P, 0, none⟩))) :: (.val (.pointer (some ⟨P, 0, none⟩))) :: (.val (.slice (some ⟨g, o, none⟩) nb c)) :: (.val (subV (some ⟨g, o, none⟩) c 4 6)) :: (.val (.int .u64 ((num (sb D 4 2) : Nat) : Int))) :: (.val (.int .i64 ((num (sb D 4 2) : Nat) : Int))) :: (.val (.slice (some ⟨g, o, none⟩) nb c)) :: (.val (subV (some ⟨g, o, none⟩) c 6 8)) :: (.val (.int .u64 ((num (sb D 6 2) : Nat) : Int))) :: (.val (.int .i64 ((num (sb D 6 2) : Nat) : Int))) :: (.val (.pointer (some ⟨P, 0, none⟩))) :: (.val (.pointer (some ⟨P, 17, none⟩))) :: (.st 1) :: (.val (.pointer (some ⟨P, 0, none⟩))) :: (.val (.pointer (some ⟨P, 14, none⟩))) :: (.st 2) :: [] : List Vd) p .any).R vv nn ww) (fun nn ww => RS w P B (.slice (some ⟨g, o, none⟩) nb c) D (List.getD [({ (x.pv (.slice pa M.length pc)) with reply := rv }), ({ (x.pv (.slice pa M.length pc)) with reply := rv, id := ((num (sb D 4 2) : Nat) : Int) }), ({ (x.pv (.slice pa M.length pc)) with reply := rv, id := ((num (sb D 4 2) : Nat) : Int), seq := ((num (sb D 6 2) : Nat) : Int) })] nn ({ (x.pv (.slice pa M.length pc)) with reply := rv, id := ((num (sb D 4 2) : Nat) : Int), seq := ((num (sb D 6 2) : Nat) : Int) })) ww ∧ SS 0 w3 nn ww) SS (fun i => if i = 12 ∨ i = 15 then 1 else 0) (fun i => if i = 1 ∨ i = 9 ∨ i = 13 ∨ i = 14 ∨ i = 15 then 1 else 0)
     (by kernel_rfl) (by kernel_rfl) (by decide) (by kernel_rfl) (fun p vv nn ww n' w' h hs => Vd.keep _ h hs) (⟨HSb.out.drew, SS.drew⟩) ?hXb2
    case' hXb2 => (apply Exists.intro; refine ⟨fun T => ?hAb2, ?hobb2, ?hendb2⟩)
    case hAb2 =>
     simp only [setAll, List.take_succ_cons, List.take_zero, Act.put, List.setIfInBounds_toArray, List.set_cons_succ, List.set_cons_zero, Nat.reduceAdd]
     exact rfl
    case hobb2 =>
     refine ⟨?_, ?_, ?_, ?_, ?_, ?_, ?_, ?_, ?_, ?_, ?_, ?_, ?_, ?_, ?_, ?_, trivial⟩
     ·intro T wx n hC (hn : n ≤ 0) hp
      refine Op1.g fun _ Z => ?_; go_simp; exact Z _ _ ⟨rfl, hC, sR⟩
     ·intro T wx n hC (hn : n ≤ 1) hp
      refine Op1.g fun _ Z => ?_; go_simp; exact Z _ _ ⟨rfl, hC, sR⟩
     ·intro T wx n hC (hn : n ≤ 0) hp
      refine Op1.g fun _ Z => ?_; go_simp; exact Z _ _ ⟨rfl, hC, sR⟩
     ·intro T wx n hC (hn : n ≤ 0) hp
      obtain ⟨(d2 : T 2 = .slice (some ⟨g, o, none⟩) nb c), -⟩ := hp
      exact Op1.slice_lh (l := 4) (h := 6) (.tmp 45) (.const (.int .i64 4)) (.const (.int .i64 6)) rfl d2 rfl rfl (by omega) (by omega) ⟨rfl, hC, sR⟩
     ·intro T wx n hC (hn : n ≤ 0) hp
      obtain ⟨(d3 : T 3 = subV (some ⟨g, o, none⟩) c 4 6), -⟩ := hp
      have hz : (D).length = nb := Hn.out
      refine Op1.g fun _ Z => ?_; go_simp; exact calls_post (val_same1 hC (take_rb (hC.1.rb.sub 4 2 (by omega)) (by rw [sb_len D 4 2 (by omega)]; omega))) Z
     ·intro T wx n hC (hn : n ≤ 0) hp
      obtain ⟨(d4 : T 4 = .int .u64 ((num (sb D 4 2) : Nat) : Int)), -⟩ := hp
      refine Op1.g fun _ Z => ?_; go_simp
      have hb := Nat.lt_of_lt_of_le (num_sb D 4 2) (by decide : 256 ^ 2 ≤ 65536)
      first | exact Z _ _ ⟨rfl, hC, sR⟩ | (refine Z _ _ ⟨congrArg (Value.int _) ?_, hC, sR⟩; first | omega | (simp only [IntKind.wrap_i64]; omega))
     ·intro T wx n hC (hn : n ≤ 0) hp
      refine Op1.g fun _ Z => ?_; go_simp; exact Z _ _ ⟨rfl, hC, sR⟩
     ·intro T wx n hC (hn : n ≤ 0) hp
      obtain ⟨(d6 : T 6 = .slice (some ⟨g, o, none⟩) nb c), -⟩ := hp
      exact Op1.slice_lh (l := 6) (h := 8) (.tmp 49) (.const (.int .i64 6)) (.const (.int .i64 8)) rfl d6 rfl rfl (by omega) (by omega) ⟨rfl, hC, sR⟩
     ·intro T wx n hC (hn : n ≤ 0) hp
      obtain ⟨(d7 : T 7 = subV (some ⟨g, o, none⟩) c 6 8), -⟩ := hp
      have hz : (D).length = nb := Hn.out
      refine Op1.g fun _ Z => ?_; go_simp; exact calls_post (val_same1 hC (take_rb (hC.1.rb.sub 6 2 (by omega)) (by rw [sb_len D 6 2 (by omega)]; omega))) Z
     ·intro T wx n hC (hn : n ≤ 1) hp
      obtain ⟨(d8 : T 8 = .int .u64 ((num (sb D 6 2) : Nat) : Int)), -⟩ := hp
      refine Op1.g fun _ Z => ?_; go_simp
      have hb := Nat.lt_of_lt_of_le (num_sb D 6 2) (by decide : 256 ^ 2 ≤ 65536)
      first | exact Z _ _ ⟨rfl, hC, sR⟩ | (refine Z _ _ ⟨congrArg (Value.int _) ?_, hC, sR⟩; first | omega | (simp only [IntKind.wrap_i64]; omega))
     ·intro T wx n hC (hn : n ≤ 0) hp
      obtain ⟨(d0 : T 0 = .pointer (some ⟨P, 0, none⟩)), -⟩ := hp
      refine Op1.g fun _ Z => ?_; go_simp; exact Z _ _ ⟨rfl, hC, sR⟩
     ·intro T wx n hC (hn : n ≤ 0) hp
      obtain ⟨(d10 : T 10 = .pointer (some ⟨P, 0, none⟩)), -⟩ := hp
      refine Op1.g fun _ Z => ?_; go_simp; exact Z _ _ ⟨rfl, hC, sR⟩
     ·intro T wx n hC (hn : n ≤ 0) hp
      obtain ⟨(d11 : T 11 = .pointer (some ⟨P, 17, none⟩)), (d5 : T 5 = .int .i64 ((num (sb D 4 2) : Nat) : Int)), -⟩ := hp
      obtain rfl : n = 0 := by omega
      have hk : RS w P B (.slice (some ⟨g, o, none⟩) nb c) D ({ (x.pv (.slice pa M.length pc)) with reply := rv }) wx := hC.1
      obtain ⟨-, -, -, -, -, -, -, -, -, -, -, -, -, -, -, -, -, c17, -, f0⟩ := PBlk.cells hk.p
      refine Op1.g fun _ Z => ?_; go_simp
      have hk0 := hk.set (PBlk.set_id hk.p (((num (sb D 4 2) : Nat) : Int)))
      exact Z _ _ ⟨Nat.le_refl _, ⟨hk0, hC.2.trans (SS.set (n := 0) (n' := 1) hk.p 17 _ (by omega))⟩, (SS.set (n := 0) (n' := 1) hk.p 17 _ (by omega))⟩
     ·intro T wx n hC (hn : n ≤ 1) hp
      obtain ⟨(d1 : T 1 = .pointer (some ⟨P, 0, none⟩)), -⟩ := hp
      refine Op1.g fun _ Z => ?_; go_simp; exact Z _ _ ⟨rfl, hC, sR⟩
     ·intro T wx n hC (hn : n ≤ 1) hp
      obtain ⟨(d13 : T 13 = .pointer (some ⟨P, 0, none⟩)), -⟩ := hp
      refine Op1.g fun _ Z => ?_; go_simp; exact Z _ _ ⟨rfl, hC, sR⟩
     ·intro T wx n hC (hn : n ≤ 1) hp
      obtain ⟨(d14 : T 14 = .pointer (some ⟨P, 14, none⟩)), (d9 : T 9 = .int .i64 ((num (sb D 6 2) : Nat) : Int)), (d12 : 1 ≤ n), -⟩ := hp
      obtain rfl : n = 1 := by omega
      have hk : RS w P B (.slice (some ⟨g, o, none⟩) nb c) D ({ (x.pv (.slice pa M.length pc)) with reply := rv, id := ((num (sb D 4 2) : Nat) : Int) }) wx := hC.1
      obtain ⟨-, -, -, -, -, -, -, -, -, -, -, -, -, -, c14, -, -, -, -, f0⟩ := PBlk.cells hk.p
      refine Op1.g fun _ Z => ?_; go_simp
      have hk0 := hk.set (PBlk.set_seq hk.p (((num (sb D 6 2) : Nat) : Int)))
      exact Z _ _ ⟨Nat.le_refl _, ⟨hk0, hC.2.trans (SS.set (n := 1) (n' := 2) hk.p 14 _ (by omega))⟩, (SS.set (n := 1) (n' := 2) hk.p 14 _ (by omega))⟩
    case hendb2 =>
     intro T wx ⟨n, hn, hC, hR⟩
     have hk : 2 ≤ n := hR 15 (by omega)
     obtain rfl : n = 2 := by omega
     have HSb2 : Hid (RS w P B (.slice (some ⟨g, o, none⟩) nb c) D ({ (x.pv (.slice pa M.length pc)) with reply := rv, id := ((num (sb D 4 2) : Nat) : Int), seq := ((num (sb D 6 2) : Nat) : Int) }) wx) := Lib.hid hC.1
     have HUb2 := Lib.hid hC.2
     clear hR hC
     simp only [List.drop_succ_cons, List.drop_nil]
     unfold wpList
     have HOb2 := Lib.hid (HOb.out.ss HUb2.out)
     have c7 : (wx).cell? ⟨P, 7, none⟩ = some (.int .i64 1) := by
      obtain ⟨-, -, -, -, -, -, -, c7, -⟩ := PBlk.cells HSb2.out.p
      refine c7.trans (congrArg (fun z => some (Value.int .i64 z)) ?_)
      show ((x.proto : Nat) : Int) = 1
      rw [hp]; rfl
     go_upto_region 16 with fail
     generalize wx = w4 at *
     clear HSb HOb HUb2 c7
     have Hy : (prtX x D).pv (.slice pa M.length pc) = { (x.pv (.slice pa M.length pc)) with reply := rv, id := ((num (sb D 4 2) : Nat) : Int), seq := ((num (sb D 6 2) : Nat) : Int) } := by
      unfold prtX
      rw [if_neg (by rw [hp]; decide), if_neg (by rw [hp]; decide)]
      first | rfl | (simp only [NP.pv]; first | rfl | (rw [← Hr.out]))
     have HSy : Hid (RS w P B (.slice (some ⟨g, o, none⟩) nb c) D ((prtX x D).pv (.slice pa M.length pc)) w4) := by rw [Hy]; exact HSb2
     have hyf : (prtX x D).fit := prtX_fit hx D
     have hyp : (prtX x D).proto = 1 := by rw [prtX_proto]; exact hp
     have Hk : Hid (prtOk x D ↔ partB (prtX x D) M = setSum D 2 0) := Lib.hid (by
      unfold prtOk
      rw [show leastN x.proto = 8 by rw [hp]; rfl, show sumAtN x.proto = 2 by rw [hp]; rfl, ← HM.out]
      exact ⟨fun h => h.2.2, fun h => ⟨by rw [Hn.out]; omega, fun h => by have := h.1; omega, h⟩⟩)
     obtain ⟨y, hy⟩ : ∃ y, prtX x D = y := ⟨_, rfl⟩
     have HY := Lib.hid hy
     rw [hy] at HSy hyf hyp Hk
     clear hy Hy HSb2
     go_wp2_with (refine wpList_load_row rfl 45 (.tmp 135) rfl P rfl 45 (y.pv (.slice pa M.length pc)).cells (0, 0) _ HSy.out.p Try.underlying45 rfl (by kernel_rfl) ?_)
     refine (partOf_any y hyf pa pc M w4 (OwnB.rb HOb2.out (by have := HMl.out; omega)) (by have := HMl.out; omega)).mono ?_
     rintro e w5 ⟨v5, rfl, hO5, hB5⟩
     have HS5 := Lib.hid (HSy.out.later hB5)
     have HO5 := Lib.hid hO5
     have HB5 := Lib.hid hB5
     have hsz5 := hB5.size
     clear hO5 hB5
     go_wp2_with fail
     refine (cloneB_rb HS5.out.rb (by rw [Hn.out]; omega)).mono ?_
     rintro e w6 ⟨v6, rfl, hO6, hB6⟩
     have HS6 := Lib.hid (HS5.out.later hB6)
     have HB6 := Lib.hid (HB5.out.trans (hB6.mono hsz5))
     have HR5 : Hid (Rb w5.heap.size w6 v5 (partB y M)) := Lib.hid ((HO5.out.rb (by rw [partB_len, hyp, HMl.out, show leastN 1 = 8 from rfl]; omega)).below hB6)
     have hsz6 := hB6.size
     obtain ⟨g6, c6, rfl, hg6, hl6, hd6, hm6⟩ := hO6.slice1 (by rw [Hn.out]; omega)
     have HO6 := Lib.hid hO6
     clear hO6 hB6
     rw [show D.length = nb from Hn.out]
     have c7 : w6.cell? ⟨P, 7, none⟩ = some (.int .i64 1) := by
      obtain ⟨-, -, -, -, -, -, -, c7, -⟩ := PBlk.cells HS6.out.p
      refine c7.trans (congrArg (fun z => some (Value.int .i64 z)) ?_)
      show ((y.proto : Nat) : Int) = 1
      rw [hyp]; rfl
     have hsa : Calls Try.prog 73 #[.int .i64 1] w6 (Ret (.int .i64 2) w6) := sumAt_any 1 w6 (by omega)
     go_wp2_with fail
     refine hsa.mono ?_
     rintro e w7 ⟨rfl, hB7⟩
     have HS7 := Lib.hid (HS6.out.later hB7)
     have HB7 := Lib.hid (HB6.out.trans (hB7.mono (Nat.le_trans hsz5 hsz6)))
     have HR7 := Lib.hid (HR5.out.below (hB7.mono hsz6))
     have HO7 : Hid (OwnB w7 w5.heap.size (.slice (some ⟨g6, 0, none⟩) D.length c6) D) := Lib.hid (own_later HO6.out hB7)
     have hsz7 := hB7.size
     clear hB7 hsa c7
     have hf := HO7.out.frozen
     have hcl := HO7.out.get
     have HO8 := Lib.hid (show OwnB ((w7.setCell ⟨g6, 2, none⟩ (.int .u8 0)).setCell ⟨g6, 3, none⟩ (.int .u8 0)) w5.heap.size (.slice (some ⟨g6, 0, none⟩) D.length c6) (setSum D 2 0) from HO7.out.zero2 2 (by rw [Hn.out]; omega))
     rw [show D.length = nb from Hn.out] at hcl HO8 hd6
     obtain ⟨y1, hc1'⟩ : ∃ y, w7.cell? ⟨g6, 2, none⟩ = some (encB y) := ⟨_, hcl 2 (by omega)⟩
     obtain ⟨y2, hc2'⟩ : ∃ y, w7.cell? ⟨g6, 3, none⟩ = some (encB y) := ⟨_, hcl 3 (by omega)⟩
     clear hcl
     go_wp2_with fail
     have HB8 : Hid (Below w5.heap.size w7 ((w7.setCell ⟨g6, 2, none⟩ (.int .u8 0)).setCell ⟨g6, 3, none⟩ (.int .u8 0))) := Lib.hid (((Below.refl _ _).setCell hg6 _).setCell hg6 _)
     refine (equal_rb (HR7.out.below HB8.out) (HO8.out.rb (by rw [setSum_len, Hn.out]; omega))).mono ?_
     rintro e w9 ⟨rfl, hB9⟩
     obtain ⟨z, hz⟩ : ∃ z, decide (partB y M = setSum D 2 0) = z := ⟨_, rfl⟩
     rw [hz]
     have HZ := Lib.hid hz
     clear hz
     go_wp2_with fail
     go_ret
     have hB10 : Below w4.heap.size w4 w9 := (HB7.out.trans (HB8.out.mono hsz5)).trans (hB9.mono (by simp; omega))
     cases z with
     | true =>
      refine .inl ⟨Hk.out.2 (of_decide_eq_true HZ.out), rfl, (.slice pa M.length pc), ?_, ?_⟩
      ·rw [HY.out]; exact HSy.out.later hB10
      ·rw [show leastN x.proto = 8 by rw [hp]; rfl, ← HM.out]
       exact own_later HOb2.out hB10
     | false => exact .inr ⟨fun h => of_decide_eq_false HZ.out (Hk.out.1 h), rfl, grown_below HSy.out.g hB10⟩
end Go.Proofs.Ytakjopbdkkcnlaa
