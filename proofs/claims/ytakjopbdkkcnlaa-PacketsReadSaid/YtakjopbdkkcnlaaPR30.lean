/-
  A part of a packet is read: protocol 6.
-/
import Derived.Test.YtakjopbdkkcnlaaPR16
set_option linter.unusedVariables false
namespace Go.Proofs.Ytakjopbdkkcnlaa
open Go.RowKit Go
set_option linter.unusedVariables false


set_option maxRecDepth 100000 in
set_option maxHeartbeats 8000000 in
theorem readPart_T (w : World) (P B g o c nb : Nat) (D : List UInt8) (x : NP) (hx : x.fit) (hp : x.proto = 6) (pv0 : Value) (hS : RS w P B (.slice (some ⟨g, o, none⟩) nb c) D (x.pv pv0) w) (hD : D.length ≤ 1400) :
  Calls Try.prog 72 #[.pointer (some ⟨P, 0, none⟩), .slice (some ⟨g, o, none⟩) nb c] w fun e w' => PartR x D w P B (.slice (some ⟨g, o, none⟩) nb c) e w' := by
 obtain ⟨hn, hc1, hc2⟩ := hS.rb.len
 have Hn : Hid (D.length = nb) := Lib.hid hn.symm
 rw [hn.symm] at hc1 hD
 have hcn : nb ≤ c := hc1
 have HS0 := Lib.hid hS
 clear hS hn hc1
 have c7 : (w).cell? ⟨P, 7, none⟩ = some (.int .i64 6) := by
  obtain ⟨-, -, -, -, -, -, -, c7, -⟩ := PBlk.cells HS0.out.p
  refine c7.trans (congrArg (fun z => some (Value.int .i64 z)) ?_)
  show ((x.proto : Nat) : Int) = 6
  rw [hp]; rfl
 go_enter Try.func72, Try.ntmps72
 rcases Nat.lt_or_ge nb 20 with h20 | h20
 ·have h20z : (nb : Int) < 20 := by omega
  go_wp2_with fail
  go_ret
  refine .inr ⟨fun hk => ?_, rfl, HS0.out.g⟩
  have h1 := hk.1
  rw [hp, Hn.out] at h1
  have h2 : 20 ≤ nb := h1
  omega
 ·have h20z : ¬ ((nb : Int) < 20) := by omega
  go_wp2_with (refine wpList_op1 rfl (Op1.slice_l (l := 20) (.tmp 19) (.tmp 20) rfl rfl rfl (by omega) ?_))
  refine (cloneSub HS0.out.rb (by omega) (by omega)).mono ?_
  rintro e w1 ⟨v1, rfl, hO, hB1⟩
  obtain ⟨M, hM⟩ : ∃ M, M = D.drop 20 := ⟨_, rfl⟩
  rw [← hM] at hO
  have HMl : Hid (M.length = nb - 20) := Lib.hid (by rw [hM, List.length_drop, Hn.out])
  have HM := Lib.hid hM
  clear hM
  obtain ⟨pa, pc, rfl, -⟩ := hO.rb (by have := HMl.out; omega)
  have HS1 := Lib.hid (HS0.out.later hB1)
  have HO1 := Lib.hid hO
  clear hO hB1 c7
  have HS2 : Hid (RS w P B (.slice (some ⟨g, o, none⟩) nb c) D (x.pv (.slice pa M.length pc)) (w1.setCell ⟨P, 18, none⟩ (.slice pa M.length pc))) := Lib.hid (HS1.out.set (PBlk.set_pay HS1.out.p (.slice pa M.length pc)))
  have HO2 := Lib.hid (OwnB.setCell HO1.out HS1.out.p 18 (.slice pa M.length pc))
  obtain ⟨-, -, -, -, -, -, -, -, -, -, -, -, -, -, -, -, -, -, c18, f0⟩ := PBlk.cells HS1.out.p
  have c7 : (w1).cell? ⟨P, 7, none⟩ = some (.int .i64 6) := by
   obtain ⟨-, -, -, -, -, -, -, c7, -⟩ := PBlk.cells HS1.out.p
   refine c7.trans (congrArg (fun z => some (Value.int .i64 z)) ?_)
   show ((x.proto : Nat) : Int) = 6
   rw [hp]; rfl
  go_upto_region 10 with fail
  generalize w1.setCell ⟨P, 18, none⟩ (.slice pa M.length pc) = w2 at *
  clear HS1 HO1 c18 f0 c7
  refine Lm.wp_region_lim 16 2 (fun p vv nn ww => (List.getD ((.val (.pointer (some ⟨P, 0, none⟩))) :: (.val (.pointer (some ⟨P, 0, none⟩))) :: (.val (.slice (some ⟨g, o, none⟩) nb c)) :: (.val (subV (some ⟨g, o, none⟩) c 0 2)) :: (.val (.int .u64 ((num (sb D 0 2) : Nat) : Int))) :: (.val (.int .i64 ((num (sb D 0 2) : Nat) : Int))) :: (.val (.slice (some ⟨g, o, none⟩) nb c)) :: (.val (subV (some ⟨g, o, none⟩) c 2 4)) :: (.val (.int .u64 ((num (sb D 2 2) : Nat) : Int))) :: (.val (.int .i64 ((num (sb D 2 2) : Nat) : Int))) :: (.val (.pointer (some ⟨P, 0, none⟩))) :: (.val (.pointer (some ⟨P, 8, none⟩))) :: (.st 1) :: (.val (.pointer (some ⟨P, 0, none⟩))) :: (.val (.pointer (some ⟨P, 9, none⟩))) :: (.st 2) :: [] : List Vd) p .any).R vv nn ww) (fun nn ww => RS w P B (.slice (some ⟨g, o, none⟩) nb c) D (List.getD [((x.pv (.slice pa M.length pc))), ({ (x.pv (.slice pa M.length pc)) with fp := ((num (sb D 0 2) : Nat) : Int) }), ({ (x.pv (.slice pa M.length pc)) with fp := ((num (sb D 0 2) : Nat) : Int), tp := ((num (sb D 2 2) : Nat) : Int) })] nn ({ (x.pv (.slice pa M.length pc)) with fp := ((num (sb D 0 2) : Nat) : Int), tp := ((num (sb D 2 2) : Nat) : Int) })) ww ∧ SS 0 w2 nn ww) SS (fun i => if i = 12 ∨ i = 15 then 1 else 0) (fun i => if i = 1 ∨ i = 9 ∨ i = 13 ∨ i = 14 ∨ i = 15 then 1 else 0)
   (by kernel_rfl) (by kernel_rfl) (by decide) (by kernel_rfl) (fun p vv nn ww n' w' h hs => Vd.keep _ h hs) (⟨HS2.out.drew, SS.drew⟩) ?hXa
  case' hXa => (apply Exists.intro; refine ⟨fun T => ?hAa, ?hoba, ?henda⟩)
  case hAa =>
   simp only [setAll, List.take_succ_cons, List.take_zero, Act.put, List.setIfInBounds_toArray, List.set_cons_succ, List.set_cons_zero, Nat.reduceAdd]
   exact rfl
  case hoba =>
   refine ⟨?_, ?_, ?_, ?_, ?_, ?_, ?_, ?_, ?_, ?_, ?_, ?_, ?_, ?_, ?_, ?_, trivial⟩
   ·intro T wx n hC (hn : n ≤ 0) hp
    refine Op1.g fun _ Z => ?_; go_simp; exact Z _ _ ⟨rfl, hC, sR⟩
   ·intro T wx n hC (hn : n ≤ 1) hp
    refine Op1.g fun _ Z => ?_; go_simp; exact Z _ _ ⟨rfl, hC, sR⟩
   ·intro T wx n hC (hn : n ≤ 0) hp
    refine Op1.g fun _ Z => ?_; go_simp; exact Z _ _ ⟨rfl, hC, sR⟩
   ·intro T wx n hC (hn : n ≤ 0) hp
    obtain ⟨(d2 : T 2 = .slice (some ⟨g, o, none⟩) nb c), -⟩ := hp
    exact Op1.slice_h (h := 2) (.tmp 59) (.const (.int .i64 2)) rfl d2 rfl (by omega) ⟨rfl, hC, sR⟩
   ·intro T wx n hC (hn : n ≤ 0) hp
    obtain ⟨(d3 : T 3 = subV (some ⟨g, o, none⟩) c 0 2), -⟩ := hp
    have hz : (D).length = nb := Hn.out
    refine Op1.g fun _ Z => ?_; go_simp; exact calls_post (val_same1 hC (take_rb (hC.1.rb.sub 0 2 (by omega)) (by rw [sb_len D 0 2 (by omega)]; omega))) Z
   ·intro T wx n hC (hn : n ≤ 0) hp
    obtain ⟨(d4 : T 4 = .int .u64 ((num (sb D 0 2) : Nat) : Int)), -⟩ := hp
    refine Op1.g fun _ Z => ?_; go_simp
    have hb := Nat.lt_of_lt_of_le (num_sb D 0 2) (by decide : 256 ^ 2 ≤ 65536)
    first | exact Z _ _ ⟨rfl, hC, sR⟩ | (refine Z _ _ ⟨congrArg (Value.int _) ?_, hC, sR⟩; first | omega | (simp only [IntKind.wrap_i64]; omega))
   ·intro T wx n hC (hn : n ≤ 0) hp
    refine Op1.g fun _ Z => ?_; go_simp; exact Z _ _ ⟨rfl, hC, sR⟩
   ·intro T wx n hC (hn : n ≤ 0) hp
    obtain ⟨(d6 : T 6 = .slice (some ⟨g, o, none⟩) nb c), -⟩ := hp
    exact Op1.slice_lh (l := 2) (h := 4) (.tmp 63) (.const (.int .i64 2)) (.const (.int .i64 4)) rfl d6 rfl rfl (by omega) (by omega) ⟨rfl, hC, sR⟩
   ·intro T wx n hC (hn : n ≤ 0) hp
    obtain ⟨(d7 : T 7 = subV (some ⟨g, o, none⟩) c 2 4), -⟩ := hp
    have hz : (D).length = nb := Hn.out
    refine Op1.g fun _ Z => ?_; go_simp; exact calls_post (val_same1 hC (take_rb (hC.1.rb.sub 2 2 (by omega)) (by rw [sb_len D 2 2 (by omega)]; omega))) Z
   ·intro T wx n hC (hn : n ≤ 1) hp
    obtain ⟨(d8 : T 8 = .int .u64 ((num (sb D 2 2) : Nat) : Int)), -⟩ := hp
    refine Op1.g fun _ Z => ?_; go_simp
    have hb := Nat.lt_of_lt_of_le (num_sb D 2 2) (by decide : 256 ^ 2 ≤ 65536)
    first | exact Z _ _ ⟨rfl, hC, sR⟩ | (refine Z _ _ ⟨congrArg (Value.int _) ?_, hC, sR⟩; first | omega | (simp only [IntKind.wrap_i64]; omega))
   ·intro T wx n hC (hn : n ≤ 0) hp
    obtain ⟨(d0 : T 0 = .pointer (some ⟨P, 0, none⟩)), -⟩ := hp
    refine Op1.g fun _ Z => ?_; go_simp; exact Z _ _ ⟨rfl, hC, sR⟩
   ·intro T wx n hC (hn : n ≤ 0) hp
    obtain ⟨(d10 : T 10 = .pointer (some ⟨P, 0, none⟩)), -⟩ := hp
    refine Op1.g fun _ Z => ?_; go_simp; exact Z _ _ ⟨rfl, hC, sR⟩
   ·intro T wx n hC (hn : n ≤ 0) hp
    obtain ⟨(d11 : T 11 = .pointer (some ⟨P, 8, none⟩)), (d5 : T 5 = .int .i64 ((num (sb D 0 2) : Nat) : Int)), -⟩ := hp
    obtain rfl : n = 0 := by omega
    have hk : RS w P B (.slice (some ⟨g, o, none⟩) nb c) D ((x.pv (.slice pa M.length pc))) wx := hC.1
    obtain ⟨-, -, -, -, -, -, -, -, c8, -, -, -, -, -, -, -, -, -, -, f0⟩ := PBlk.cells hk.p
    refine Op1.g fun _ Z => ?_; go_simp
    have hk0 := hk.set (PBlk.set_fp hk.p (((num (sb D 0 2) : Nat) : Int)))
    exact Z _ _ ⟨Nat.le_refl _, ⟨hk0, hC.2.trans (SS.set (n := 0) (n' := 1) hk.p 8 _ (by omega))⟩, (SS.set (n := 0) (n' := 1) hk.p 8 _ (by omega))⟩
   ·intro T wx n hC (hn : n ≤ 1) hp
    obtain ⟨(d1 : T 1 = .pointer (some ⟨P, 0, none⟩)), -⟩ := hp
    refine Op1.g fun _ Z => ?_; go_simp; exact Z _ _ ⟨rfl, hC, sR⟩
   ·intro T wx n hC (hn : n ≤ 1) hp
    obtain ⟨(d13 : T 13 = .pointer (some ⟨P, 0, none⟩)), -⟩ := hp
    refine Op1.g fun _ Z => ?_; go_simp; exact Z _ _ ⟨rfl, hC, sR⟩
   ·intro T wx n hC (hn : n ≤ 1) hp
    obtain ⟨(d14 : T 14 = .pointer (some ⟨P, 9, none⟩)), (d9 : T 9 = .int .i64 ((num (sb D 2 2) : Nat) : Int)), (d12 : 1 ≤ n), -⟩ := hp
    obtain rfl : n = 1 := by omega
    have hk : RS w P B (.slice (some ⟨g, o, none⟩) nb c) D ({ (x.pv (.slice pa M.length pc)) with fp := ((num (sb D 0 2) : Nat) : Int) }) wx := hC.1
    obtain ⟨-, -, -, -, -, -, -, -, -, c9, -, -, -, -, -, -, -, -, -, f0⟩ := PBlk.cells hk.p
    refine Op1.g fun _ Z => ?_; go_simp
    have hk0 := hk.set (PBlk.set_tp hk.p (((num (sb D 2 2) : Nat) : Int)))
    exact Z _ _ ⟨Nat.le_refl _, ⟨hk0, hC.2.trans (SS.set (n := 1) (n' := 2) hk.p 9 _ (by omega))⟩, (SS.set (n := 1) (n' := 2) hk.p 9 _ (by omega))⟩
  case henda =>
   intro T wx ⟨n, hn, hC, hR⟩
   have hk : 2 ≤ n := hR 15 (by omega)
   obtain rfl : n = 2 := by omega
   have HSa : Hid (RS w P B (.slice (some ⟨g, o, none⟩) nb c) D ({ (x.pv (.slice pa M.length pc)) with fp := ((num (sb D 0 2) : Nat) : Int), tp := ((num (sb D 2 2) : Nat) : Int) }) wx) := Lib.hid hC.1
   have HUa := Lib.hid hC.2
   clear hR hC
   simp only [List.drop_succ_cons, List.drop_nil]
   unfold wpList
   have HOa := Lib.hid (HO2.out.ss HUa.out)
   have c7 : (wx).cell? ⟨P, 7, none⟩ = some (.int .i64 6) := by
    obtain ⟨-, -, -, -, -, -, -, c7, -⟩ := PBlk.cells HSa.out.p
    refine c7.trans (congrArg (fun z => some (Value.int .i64 z)) ?_)
    show ((x.proto : Nat) : Int) = 6
    rw [hp]; rfl
   go_upto_region 12 with fail
   generalize wx = w3 at *
   clear HS2 HO2 HUa c7
   refine Lm.wp_region_lim 16 2 (fun p vv nn ww => (List.getD ((.val (.pointer (some ⟨P, 0, none⟩))) :: (.val (.pointer (some ⟨P, 0, none⟩))) :: (.val (.slice (some ⟨g, o, none⟩) nb c)) :: (.val (subV (some ⟨g, o, none⟩) c 4 8)) :: (.val (.int .u64 ((num (sb D 4 4) : Nat) : Int))) :: (.val (.int .i64 ((num (sb D 4 4) : Nat) : Int))) :: (.val (.slice (some ⟨g, o, none⟩) nb c)) :: (.val (subV (some ⟨g, o, none⟩) c 8 12)) :: (.val (.int .u64 ((num (sb D 8 4) : Nat) : Int))) :: (.val (.int .i64 ((num (sb D 8 4) : Nat) : Int))) :: (.val (.pointer (some ⟨P, 0, none⟩))) :: (.val (.pointer (some ⟨P, 14, none⟩))) :: (.st 1) :: (.val (.pointer (some ⟨P, 0, none⟩))) :: (.val (.pointer (some ⟨P, 15, none⟩))) :: (.st 2) :: [] : List Vd) p .any).R vv nn ww) (fun nn ww => RS w P B (.slice (some ⟨g, o, none⟩) nb c) D (List.getD [({ (x.pv (.slice pa M.length pc)) with fp := ((num (sb D 0 2) : Nat) : Int), tp := ((num (sb D 2 2) : Nat) : Int) }), ({ (x.pv (.slice pa M.length pc)) with fp := ((num (sb D 0 2) : Nat) : Int), tp := ((num (sb D 2 2) : Nat) : Int), seq := ((num (sb D 4 4) : Nat) : Int) }), ({ (x.pv (.slice pa M.length pc)) with fp := ((num (sb D 0 2) : Nat) : Int), tp := ((num (sb D 2 2) : Nat) : Int), seq := ((num (sb D 4 4) : Nat) : Int), ack := ((num (sb D 8 4) : Nat) : Int) })] nn ({ (x.pv (.slice pa M.length pc)) with fp := ((num (sb D 0 2) : Nat) : Int), tp := ((num (sb D 2 2) : Nat) : Int), seq := ((num (sb D 4 4) : Nat) : Int), ack := ((num (sb D 8 4) : Nat) : Int) })) ww ∧ SS 0 w3 nn ww) SS (fun i => if i = 12 ∨ i = 15 then 1 else 0) (fun i => if i = 1 ∨ i = 9 ∨ i = 13 ∨ i = 14 ∨ i = 15 then 1 else 0)
    (by kernel_rfl) (by kernel_rfl) (by decide) (by kernel_rfl) (fun p vv nn ww n' w' h hs => Vd.keep _ h hs) (⟨HSa.out.drew, SS.drew⟩) ?hXb
   case' hXb => (apply Exists.intro; refine ⟨fun T => ?hAb, ?hobb, ?hendb⟩)
   case hAb =>
    simp only [setAll, List.take_succ_cons, List.take_zero, Act.put, List.setIfInBounds_toArray, List.set_cons_succ, List.set_cons_zero, Nat.reduceAdd]
    exact rfl
   case hobb =>
    refine ⟨?_, ?_, ?_, ?_, ?_, ?_, ?_, ?_, ?_, ?_, ?_, ?_, ?_, ?_, ?_, ?_, trivial⟩
    ·intro T wx n hC (hn : n ≤ 0) hp
     refine Op1.g fun _ Z => ?_; go_simp; exact Z _ _ ⟨rfl, hC, sR⟩
    ·intro T wx n hC (hn : n ≤ 1) hp
     refine Op1.g fun _ Z => ?_; go_simp; exact Z _ _ ⟨rfl, hC, sR⟩
    ·intro T wx n hC (hn : n ≤ 0) hp
     refine Op1.g fun _ Z => ?_; go_simp; exact Z _ _ ⟨rfl, hC, sR⟩
    ·intro T wx n hC (hn : n ≤ 0) hp
     obtain ⟨(d2 : T 2 = .slice (some ⟨g, o, none⟩) nb c), -⟩ := hp
     exact Op1.slice_lh (l := 4) (h := 8) (.tmp 78) (.const (.int .i64 4)) (.const (.int .i64 8)) rfl d2 rfl rfl (by omega) (by omega) ⟨rfl, hC, sR⟩
    ·intro T wx n hC (hn : n ≤ 0) hp
     obtain ⟨(d3 : T 3 = subV (some ⟨g, o, none⟩) c 4 8), -⟩ := hp
     have hz : (D).length = nb := Hn.out
     refine Op1.g fun _ Z => ?_; go_simp; exact calls_post (val_same1 hC (take_rb (hC.1.rb.sub 4 4 (by omega)) (by rw [sb_len D 4 4 (by omega)]; omega))) Z
    ·intro T wx n hC (hn : n ≤ 0) hp
     obtain ⟨(d4 : T 4 = .int .u64 ((num (sb D 4 4) : Nat) : Int)), -⟩ := hp
     refine Op1.g fun _ Z => ?_; go_simp
     have hb := Nat.lt_of_lt_of_le (num_sb D 4 4) (by decide : 256 ^ 4 ≤ 4294967296)
     first | exact Z _ _ ⟨rfl, hC, sR⟩ | (refine Z _ _ ⟨congrArg (Value.int _) ?_, hC, sR⟩; first | omega | (simp only [IntKind.wrap_i64]; omega))
    ·intro T wx n hC (hn : n ≤ 0) hp
     refine Op1.g fun _ Z => ?_; go_simp; exact Z _ _ ⟨rfl, hC, sR⟩
    ·intro T wx n hC (hn : n ≤ 0) hp
     obtain ⟨(d6 : T 6 = .slice (some ⟨g, o, none⟩) nb c), -⟩ := hp
     exact Op1.slice_lh (l := 8) (h := 12) (.tmp 82) (.const (.int .i64 8)) (.const (.int .i64 12)) rfl d6 rfl rfl (by omega) (by omega) ⟨rfl, hC, sR⟩
    ·intro T wx n hC (hn : n ≤ 0) hp
     obtain ⟨(d7 : T 7 = subV (some ⟨g, o, none⟩) c 8 12), -⟩ := hp
     have hz : (D).length = nb := Hn.out
     refine Op1.g fun _ Z => ?_; go_simp; exact calls_post (val_same1 hC (take_rb (hC.1.rb.sub 8 4 (by omega)) (by rw [sb_len D 8 4 (by omega)]; omega))) Z
    ·intro T wx n hC (hn : n ≤ 1) hp
     obtain ⟨(d8 : T 8 = .int .u64 ((num (sb D 8 4) : Nat) : Int)), -⟩ := hp
     refine Op1.g fun _ Z => ?_; go_simp
     have hb := Nat.lt_of_lt_of_le (num_sb D 8 4) (by decide : 256 ^ 4 ≤ 4294967296)
     first | exact Z _ _ ⟨rfl, hC, sR⟩ | (refine Z _ _ ⟨congrArg (Value.int _) ?_, hC, sR⟩; first | omega | (simp only [IntKind.wrap_i64]; omega))
    ·intro T wx n hC (hn : n ≤ 0) hp
     obtain ⟨(d0 : T 0 = .pointer (some ⟨P, 0, none⟩)), -⟩ := hp
     refine Op1.g fun _ Z => ?_; go_simp; exact Z _ _ ⟨rfl, hC, sR⟩
    ·intro T wx n hC (hn : n ≤ 0) hp
     obtain ⟨(d10 : T 10 = .pointer (some ⟨P, 0, none⟩)), -⟩ := hp
     refine Op1.g fun _ Z => ?_; go_simp; exact Z _ _ ⟨rfl, hC, sR⟩
    ·intro T wx n hC (hn : n ≤ 0) hp
     obtain ⟨(d11 : T 11 = .pointer (some ⟨P, 14, none⟩)), (d5 : T 5 = .int .i64 ((num (sb D 4 4) : Nat) : Int)), -⟩ := hp
     obtain rfl : n = 0 := by omega
     have hk : RS w P B (.slice (some ⟨g, o, none⟩) nb c) D ({ (x.pv (.slice pa M.length pc)) with fp := ((num (sb D 0 2) : Nat) : Int), tp := ((num (sb D 2 2) : Nat) : Int) }) wx := hC.1
     obtain ⟨-, -, -, -, -, -, -, -, -, -, -, -, -, -, c14, -, -, -, -, f0⟩ := PBlk.cells hk.p
     refine Op1.g fun _ Z => ?_; go_simp
     have hk0 := hk.set (PBlk.set_seq hk.p (((num (sb D 4 4) : Nat) : Int)))
     exact Z _ _ ⟨Nat.le_refl _, ⟨hk0, hC.2.trans (SS.set (n := 0) (n' := 1) hk.p 14 _ (by omega))⟩, (SS.set (n := 0) (n' := 1) hk.p 14 _ (by omega))⟩
    ·intro T wx n hC (hn : n ≤ 1) hp
     obtain ⟨(d1 : T 1 = .pointer (some ⟨P, 0, none⟩)), -⟩ := hp
     refine Op1.g fun _ Z => ?_; go_simp; exact Z _ _ ⟨rfl, hC, sR⟩
    ·intro T wx n hC (hn : n ≤ 1) hp
     obtain ⟨(d13 : T 13 = .pointer (some ⟨P, 0, none⟩)), -⟩ := hp
     refine Op1.g fun _ Z => ?_; go_simp; exact Z _ _ ⟨rfl, hC, sR⟩
    ·intro T wx n hC (hn : n ≤ 1) hp
     obtain ⟨(d14 : T 14 = .pointer (some ⟨P, 15, none⟩)), (d9 : T 9 = .int .i64 ((num (sb D 8 4) : Nat) : Int)), (d12 : 1 ≤ n), -⟩ := hp
     obtain rfl : n = 1 := by omega
     have hk : RS w P B (.slice (some ⟨g, o, none⟩) nb c) D ({ (x.pv (.slice pa M.length pc)) with fp := ((num (sb D 0 2) : Nat) : Int), tp := ((num (sb D 2 2) : Nat) : Int), seq := ((num (sb D 4 4) : Nat) : Int) }) wx := hC.1
     obtain ⟨-, -, -, -, -, -, -, -, -, -, -, -, -, -, -, c15, -, -, -, f0⟩ := PBlk.cells hk.p
     refine Op1.g fun _ Z => ?_; go_simp
     have hk0 := hk.set (PBlk.set_ack hk.p (((num (sb D 8 4) : Nat) : Int)))
     exact Z _ _ ⟨Nat.le_refl _, ⟨hk0, hC.2.trans (SS.set (n := 1) (n' := 2) hk.p 15 _ (by omega))⟩, (SS.set (n := 1) (n' := 2) hk.p 15 _ (by omega))⟩
   case hendb =>
    intro T wx ⟨n, hn, hC, hR⟩
    have hk : 2 ≤ n := hR 15 (by omega)
    obtain rfl : n = 2 := by omega
    have HSb : Hid (RS w P B (.slice (some ⟨g, o, none⟩) nb c) D ({ (x.pv (.slice pa M.length pc)) with fp := ((num (sb D 0 2) : Nat) : Int), tp := ((num (sb D 2 2) : Nat) : Int), seq := ((num (sb D 4 4) : Nat) : Int), ack := ((num (sb D 8 4) : Nat) : Int) }) wx) := Lib.hid hC.1
    have HUb := Lib.hid hC.2
    clear hR hC
    simp only [List.drop_succ_cons, List.drop_nil]
    unfold wpList
    have HOb := Lib.hid (HOa.out.ss HUb.out)
    go_upto_region 13 with fail
    generalize wx = w4 at *
    clear HSa HOa HUb
    refine Lm.wp_region_lim 36 4 (fun p vv nn ww => (List.getD ((.val (.pointer (some ⟨P, 0, none⟩))) :: (.val (.pointer (some ⟨P, 0, none⟩))) :: (.val (.pointer (some ⟨P, 0, none⟩))) :: (.val (.pointer (some ⟨P, 0, none⟩))) :: (.val (.slice (some ⟨g, o, none⟩) nb c)) :: (.val (.pointer (some ⟨g, o + 13, none⟩))) :: (.val (.int .u8 (((ub D 13).toNat : Nat) : Int))) :: (.val (.int .u8 (bits .and .u8 (((ub D 13).toNat : Nat) : Int) 1))) :: (.val (.bool (flz D 13 1))) :: (.val (.slice (some ⟨g, o, none⟩) nb c)) :: (.val (.pointer (some ⟨g, o + 13, none⟩))) :: (.val (.int .u8 (((ub D 13).toNat : Nat) : Int))) :: (.val (.int .u8 (bits .and .u8 (((ub D 13).toNat : Nat) : Int) 2))) :: (.val (.bool (flz D 13 2))) :: (.val (.slice (some ⟨g, o, none⟩) nb c)) :: (.val (.pointer (some ⟨g, o + 13, none⟩))) :: (.val (.int .u8 (((ub D 13).toNat : Nat) : Int))) :: (.val (.int .u8 (bits .and .u8 (((ub D 13).toNat : Nat) : Int) 4))) :: (.val (.bool (flz D 13 4))) :: (.val (.slice (some ⟨g, o, none⟩) nb c)) :: (.val (.pointer (some ⟨g, o + 13, none⟩))) :: (.val (.int .u8 (((ub D 13).toNat : Nat) : Int))) :: (.val (.int .u8 (bits .and .u8 (((ub D 13).toNat : Nat) : Int) 16))) :: (.val (.bool (flz D 13 16))) :: (.val (.pointer (some ⟨P, 0, none⟩))) :: (.val (.pointer (some ⟨P, 11, none⟩))) :: (.st 1) :: (.val (.pointer (some ⟨P, 0, none⟩))) :: (.val (.pointer (some ⟨P, 10, none⟩))) :: (.st 2) :: (.val (.pointer (some ⟨P, 0, none⟩))) :: (.val (.pointer (some ⟨P, 12, none⟩))) :: (.st 3) :: (.val (.pointer (some ⟨P, 0, none⟩))) :: (.val (.pointer (some ⟨P, 13, none⟩))) :: (.st 4) :: [] : List Vd) p .any).R vv nn ww) (fun nn ww => RS w P B (.slice (some ⟨g, o, none⟩) nb c) D (List.getD [({ (x.pv (.slice pa M.length pc)) with fp := ((num (sb D 0 2) : Nat) : Int), tp := ((num (sb D 2 2) : Nat) : Int), seq := ((num (sb D 4 4) : Nat) : Int), ack := ((num (sb D 8 4) : Nat) : Int) }), ({ (x.pv (.slice pa M.length pc)) with fp := ((num (sb D 0 2) : Nat) : Int), tp := ((num (sb D 2 2) : Nat) : Int), seq := ((num (sb D 4 4) : Nat) : Int), ack := ((num (sb D 8 4) : Nat) : Int), fin := (flz D 13 1) }), ({ (x.pv (.slice pa M.length pc)) with fp := ((num (sb D 0 2) : Nat) : Int), tp := ((num (sb D 2 2) : Nat) : Int), seq := ((num (sb D 4 4) : Nat) : Int), ack := ((num (sb D 8 4) : Nat) : Int), fin := (flz D 13 1), syn := (flz D 13 2) }), ({ (x.pv (.slice pa M.length pc)) with fp := ((num (sb D 0 2) : Nat) : Int), tp := ((num (sb D 2 2) : Nat) : Int), seq := ((num (sb D 4 4) : Nat) : Int), ack := ((num (sb D 8 4) : Nat) : Int), fin := (flz D 13 1), syn := (flz D 13 2), rst := (flz D 13 4) }), ({ (x.pv (.slice pa M.length pc)) with fp := ((num (sb D 0 2) : Nat) : Int), tp := ((num (sb D 2 2) : Nat) : Int), seq := ((num (sb D 4 4) : Nat) : Int), ack := ((num (sb D 8 4) : Nat) : Int), fin := (flz D 13 1), syn := (flz D 13 2), rst := (flz D 13 4), has := (flz D 13 16) })] nn ({ (x.pv (.slice pa M.length pc)) with fp := ((num (sb D 0 2) : Nat) : Int), tp := ((num (sb D 2 2) : Nat) : Int), seq := ((num (sb D 4 4) : Nat) : Int), ack := ((num (sb D 8 4) : Nat) : Int), fin := (flz D 13 1), syn := (flz D 13 2), rst := (flz D 13 4), has := (flz D 13 16) })) ww ∧ SS 0 w4 nn ww) SS (fun i => if i = 26 ∨ i = 29 ∨ i = 32 ∨ i = 35 then 1 else 0) (fun i => if i = 1 ∨ i = 12 ∨ i = 13 ∨ i = 27 ∨ i = 28 ∨ i = 29 then 1 else if i = 2 ∨ i = 17 ∨ i = 18 ∨ i = 30 ∨ i = 31 ∨ i = 32 then 2 else if i = 3 ∨ i = 22 ∨ i = 23 ∨ i = 33 ∨ i = 34 ∨ i = 35 then 3 else 0)
     (by kernel_rfl) (by kernel_rfl) (by decide) (by kernel_rfl) (fun p vv nn ww n' w' h hs => Vd.keep _ h hs) (⟨HSb.out.drew, SS.drew⟩) ?hXd
    case' hXd => (apply Exists.intro; refine ⟨fun T => ?hAd, ?hobd, ?hendd⟩)
    case hAd =>
     simp only [setAll, List.take_succ_cons, List.take_zero, Act.put, List.setIfInBounds_toArray, List.set_cons_succ, List.set_cons_zero, Nat.reduceAdd]
     exact rfl
    case hobd =>
     refine ⟨?_, ?_, ?_, ?_, ?_, ?_, ?_, ?_, ?_, ?_, ?_, ?_, ?_, ?_, ?_, ?_, ?_, ?_, ?_, ?_, ?_, ?_, ?_, ?_, ?_, ?_, ?_, ?_, ?_, ?_, ?_, ?_, ?_, ?_, ?_, ?_, trivial⟩
     ·intro T wx n hC (hn : n ≤ 0) hp
      refine Op1.g fun _ Z => ?_; go_simp; exact Z _ _ ⟨rfl, hC, sR⟩
     ·intro T wx n hC (hn : n ≤ 1) hp
      refine Op1.g fun _ Z => ?_; go_simp; exact Z _ _ ⟨rfl, hC, sR⟩
     ·intro T wx n hC (hn : n ≤ 2) hp
      refine Op1.g fun _ Z => ?_; go_simp; exact Z _ _ ⟨rfl, hC, sR⟩
     ·intro T wx n hC (hn : n ≤ 3) hp
      refine Op1.g fun _ Z => ?_; go_simp; exact Z _ _ ⟨rfl, hC, sR⟩
     ·intro T wx n hC (hn : n ≤ 0) hp
      refine Op1.g fun _ Z => ?_; go_simp; exact Z _ _ ⟨rfl, hC, sR⟩
     ·intro T wx n hC (hn : n ≤ 0) hp
      obtain ⟨(d4 : T 4 = .slice (some ⟨g, o, none⟩) nb c), -⟩ := hp
      exact Op1.indexB (k := 13) (.tmp 94) (.const (.int .i64 13)) rfl d4 rfl (by omega) ⟨rfl, hC, sR⟩
     ·intro T wx n hC (hn : n ≤ 0) hp
      obtain ⟨(d5 : T 5 = .pointer (some ⟨g, o + 13, none⟩)), -⟩ := hp
      have hz : (D).length = nb := Hn.out
      have cb : wx.cell? ⟨g, o + 13, none⟩ = some (.int .u8 (((ub D 13).toNat : Nat) : Int)) := hC.1.rb.get 13 (by omega)
      clear hz
      refine Op1.g fun _ Z => ?_; go_simp; exact Z _ _ ⟨rfl, hC, sR⟩
     ·intro T wx n hC (hn : n ≤ 0) hp
      obtain ⟨(d6 : T 6 = .int .u8 (((ub D 13).toNat : Nat) : Int)), -⟩ := hp
      refine Op1.g fun _ Z => ?_; go_simp; exact Z _ _ ⟨rfl, hC, sR⟩
     ·intro T wx n hC (hn : n ≤ 0) hp
      obtain ⟨(d7 : T 7 = .int .u8 (bits .and .u8 (((ub D 13).toNat : Nat) : Int) 1)), -⟩ := hp
      refine Op1.g fun _ Z => ?_; go_simp; first | exact Z _ _ ⟨congrArg Value.bool (rfl), hC, sR⟩ | exact Z _ _ ⟨rfl, hC, sR⟩
     ·intro T wx n hC (hn : n ≤ 0) hp
      refine Op1.g fun _ Z => ?_; go_simp; exact Z _ _ ⟨rfl, hC, sR⟩
     ·intro T wx n hC (hn : n ≤ 0) hp
      obtain ⟨(d9 : T 9 = .slice (some ⟨g, o, none⟩) nb c), -⟩ := hp
      exact Op1.indexB (k := 13) (.tmp 99) (.const (.int .i64 13)) rfl d9 rfl (by omega) ⟨rfl, hC, sR⟩
     ·intro T wx n hC (hn : n ≤ 0) hp
      obtain ⟨(d10 : T 10 = .pointer (some ⟨g, o + 13, none⟩)), -⟩ := hp
      have hz : (D).length = nb := Hn.out
      have cb : wx.cell? ⟨g, o + 13, none⟩ = some (.int .u8 (((ub D 13).toNat : Nat) : Int)) := hC.1.rb.get 13 (by omega)
      clear hz
      refine Op1.g fun _ Z => ?_; go_simp; exact Z _ _ ⟨rfl, hC, sR⟩
     ·intro T wx n hC (hn : n ≤ 1) hp
      obtain ⟨(d11 : T 11 = .int .u8 (((ub D 13).toNat : Nat) : Int)), -⟩ := hp
      refine Op1.g fun _ Z => ?_; go_simp; exact Z _ _ ⟨rfl, hC, sR⟩
     ·intro T wx n hC (hn : n ≤ 1) hp
      obtain ⟨(d12 : T 12 = .int .u8 (bits .and .u8 (((ub D 13).toNat : Nat) : Int) 2)), -⟩ := hp
      refine Op1.g fun _ Z => ?_; go_simp; first | exact Z _ _ ⟨congrArg Value.bool (rfl), hC, sR⟩ | exact Z _ _ ⟨rfl, hC, sR⟩
     ·intro T wx n hC (hn : n ≤ 0) hp
      refine Op1.g fun _ Z => ?_; go_simp; exact Z _ _ ⟨rfl, hC, sR⟩
     ·intro T wx n hC (hn : n ≤ 0) hp
      obtain ⟨(d14 : T 14 = .slice (some ⟨g, o, none⟩) nb c), -⟩ := hp
      exact Op1.indexB (k := 13) (.tmp 104) (.const (.int .i64 13)) rfl d14 rfl (by omega) ⟨rfl, hC, sR⟩
     ·intro T wx n hC (hn : n ≤ 0) hp
      obtain ⟨(d15 : T 15 = .pointer (some ⟨g, o + 13, none⟩)), -⟩ := hp
      have hz : (D).length = nb := Hn.out
      have cb : wx.cell? ⟨g, o + 13, none⟩ = some (.int .u8 (((ub D 13).toNat : Nat) : Int)) := hC.1.rb.get 13 (by omega)
      clear hz
      refine Op1.g fun _ Z => ?_; go_simp; exact Z _ _ ⟨rfl, hC, sR⟩
     ·intro T wx n hC (hn : n ≤ 2) hp
      obtain ⟨(d16 : T 16 = .int .u8 (((ub D 13).toNat : Nat) : Int)), -⟩ := hp
      refine Op1.g fun _ Z => ?_; go_simp; exact Z _ _ ⟨rfl, hC, sR⟩
     ·intro T wx n hC (hn : n ≤ 2) hp
      obtain ⟨(d17 : T 17 = .int .u8 (bits .and .u8 (((ub D 13).toNat : Nat) : Int) 4)), -⟩ := hp
      refine Op1.g fun _ Z => ?_; go_simp; first | exact Z _ _ ⟨congrArg Value.bool (rfl), hC, sR⟩ | exact Z _ _ ⟨rfl, hC, sR⟩
     ·intro T wx n hC (hn : n ≤ 0) hp
      refine Op1.g fun _ Z => ?_; go_simp; exact Z _ _ ⟨rfl, hC, sR⟩
     ·intro T wx n hC (hn : n ≤ 0) hp
      obtain ⟨(d19 : T 19 = .slice (some ⟨g, o, none⟩) nb c), -⟩ := hp
      exact Op1.indexB (k := 13) (.tmp 109) (.const (.int .i64 13)) rfl d19 rfl (by omega) ⟨rfl, hC, sR⟩
     ·intro T wx n hC (hn : n ≤ 0) hp
      obtain ⟨(d20 : T 20 = .pointer (some ⟨g, o + 13, none⟩)), -⟩ := hp
      have hz : (D).length = nb := Hn.out
      have cb : wx.cell? ⟨g, o + 13, none⟩ = some (.int .u8 (((ub D 13).toNat : Nat) : Int)) := hC.1.rb.get 13 (by omega)
      clear hz
      refine Op1.g fun _ Z => ?_; go_simp; exact Z _ _ ⟨rfl, hC, sR⟩
     ·intro T wx n hC (hn : n ≤ 3) hp
      obtain ⟨(d21 : T 21 = .int .u8 (((ub D 13).toNat : Nat) : Int)), -⟩ := hp
      refine Op1.g fun _ Z => ?_; go_simp; exact Z _ _ ⟨rfl, hC, sR⟩
     ·intro T wx n hC (hn : n ≤ 3) hp
      obtain ⟨(d22 : T 22 = .int .u8 (bits .and .u8 (((ub D 13).toNat : Nat) : Int) 16)), -⟩ := hp
      refine Op1.g fun _ Z => ?_; go_simp; first | exact Z _ _ ⟨congrArg Value.bool (rfl), hC, sR⟩ | exact Z _ _ ⟨rfl, hC, sR⟩
     ·intro T wx n hC (hn : n ≤ 0) hp
      obtain ⟨(d0 : T 0 = .pointer (some ⟨P, 0, none⟩)), -⟩ := hp
      refine Op1.g fun _ Z => ?_; go_simp; exact Z _ _ ⟨rfl, hC, sR⟩
     ·intro T wx n hC (hn : n ≤ 0) hp
      obtain ⟨(d24 : T 24 = .pointer (some ⟨P, 0, none⟩)), -⟩ := hp
      refine Op1.g fun _ Z => ?_; go_simp; exact Z _ _ ⟨rfl, hC, sR⟩
     ·intro T wx n hC (hn : n ≤ 0) hp
      obtain ⟨(d25 : T 25 = .pointer (some ⟨P, 11, none⟩)), (d8 : T 8 = .bool (flz D 13 1)), -⟩ := hp
      obtain rfl : n = 0 := by omega
      have hk : RS w P B (.slice (some ⟨g, o, none⟩) nb c) D ({ (x.pv (.slice pa M.length pc)) with fp := ((num (sb D 0 2) : Nat) : Int), tp := ((num (sb D 2 2) : Nat) : Int), seq := ((num (sb D 4 4) : Nat) : Int), ack := ((num (sb D 8 4) : Nat) : Int) }) wx := hC.1
      obtain ⟨-, -, -, -, -, -, -, -, -, -, -, c11, -, -, -, -, -, -, -, f0⟩ := PBlk.cells hk.p
      refine Op1.g fun _ Z => ?_; go_simp
      have hk0 := hk.set (PBlk.set_fin hk.p ((flz D 13 1)))
      exact Z _ _ ⟨Nat.le_refl _, ⟨hk0, hC.2.trans (SS.set (n := 0) (n' := 1) hk.p 11 _ (by omega))⟩, (SS.set (n := 0) (n' := 1) hk.p 11 _ (by omega))⟩
     ·intro T wx n hC (hn : n ≤ 1) hp
      obtain ⟨(d1 : T 1 = .pointer (some ⟨P, 0, none⟩)), -⟩ := hp
      refine Op1.g fun _ Z => ?_; go_simp; exact Z _ _ ⟨rfl, hC, sR⟩
     ·intro T wx n hC (hn : n ≤ 1) hp
      obtain ⟨(d27 : T 27 = .pointer (some ⟨P, 0, none⟩)), -⟩ := hp
      refine Op1.g fun _ Z => ?_; go_simp; exact Z _ _ ⟨rfl, hC, sR⟩
     ·intro T wx n hC (hn : n ≤ 1) hp
      obtain ⟨(d28 : T 28 = .pointer (some ⟨P, 10, none⟩)), (d13 : T 13 = .bool (flz D 13 2)), (d26 : 1 ≤ n), -⟩ := hp
      obtain rfl : n = 1 := by omega
      have hk : RS w P B (.slice (some ⟨g, o, none⟩) nb c) D ({ (x.pv (.slice pa M.length pc)) with fp := ((num (sb D 0 2) : Nat) : Int), tp := ((num (sb D 2 2) : Nat) : Int), seq := ((num (sb D 4 4) : Nat) : Int), ack := ((num (sb D 8 4) : Nat) : Int), fin := (flz D 13 1) }) wx := hC.1
      obtain ⟨-, -, -, -, -, -, -, -, -, -, c10, -, -, -, -, -, -, -, -, f0⟩ := PBlk.cells hk.p
      refine Op1.g fun _ Z => ?_; go_simp
      have hk0 := hk.set (PBlk.set_syn hk.p ((flz D 13 2)))
      exact Z _ _ ⟨Nat.le_refl _, ⟨hk0, hC.2.trans (SS.set (n := 1) (n' := 2) hk.p 10 _ (by omega))⟩, (SS.set (n := 1) (n' := 2) hk.p 10 _ (by omega))⟩
     ·intro T wx n hC (hn : n ≤ 2) hp
      obtain ⟨(d2 : T 2 = .pointer (some ⟨P, 0, none⟩)), -⟩ := hp
      refine Op1.g fun _ Z => ?_; go_simp; exact Z _ _ ⟨rfl, hC, sR⟩
     ·intro T wx n hC (hn : n ≤ 2) hp
      obtain ⟨(d30 : T 30 = .pointer (some ⟨P, 0, none⟩)), -⟩ := hp
      refine Op1.g fun _ Z => ?_; go_simp; exact Z _ _ ⟨rfl, hC, sR⟩
     ·intro T wx n hC (hn : n ≤ 2) hp
      obtain ⟨(d31 : T 31 = .pointer (some ⟨P, 12, none⟩)), (d18 : T 18 = .bool (flz D 13 4)), (d29 : 2 ≤ n), -⟩ := hp
      obtain rfl : n = 2 := by omega
      have hk : RS w P B (.slice (some ⟨g, o, none⟩) nb c) D ({ (x.pv (.slice pa M.length pc)) with fp := ((num (sb D 0 2) : Nat) : Int), tp := ((num (sb D 2 2) : Nat) : Int), seq := ((num (sb D 4 4) : Nat) : Int), ack := ((num (sb D 8 4) : Nat) : Int), fin := (flz D 13 1), syn := (flz D 13 2) }) wx := hC.1
      obtain ⟨-, -, -, -, -, -, -, -, -, -, -, -, c12, -, -, -, -, -, -, f0⟩ := PBlk.cells hk.p
      refine Op1.g fun _ Z => ?_; go_simp
      have hk0 := hk.set (PBlk.set_rst hk.p ((flz D 13 4)))
      exact Z _ _ ⟨Nat.le_refl _, ⟨hk0, hC.2.trans (SS.set (n := 2) (n' := 3) hk.p 12 _ (by omega))⟩, (SS.set (n := 2) (n' := 3) hk.p 12 _ (by omega))⟩
     ·intro T wx n hC (hn : n ≤ 3) hp
      obtain ⟨(d3 : T 3 = .pointer (some ⟨P, 0, none⟩)), -⟩ := hp
      refine Op1.g fun _ Z => ?_; go_simp; exact Z _ _ ⟨rfl, hC, sR⟩
     ·intro T wx n hC (hn : n ≤ 3) hp
      obtain ⟨(d33 : T 33 = .pointer (some ⟨P, 0, none⟩)), -⟩ := hp
      refine Op1.g fun _ Z => ?_; go_simp; exact Z _ _ ⟨rfl, hC, sR⟩
     ·intro T wx n hC (hn : n ≤ 3) hp
      obtain ⟨(d34 : T 34 = .pointer (some ⟨P, 13, none⟩)), (d23 : T 23 = .bool (flz D 13 16)), (d32 : 3 ≤ n), -⟩ := hp
      obtain rfl : n = 3 := by omega
      have hk : RS w P B (.slice (some ⟨g, o, none⟩) nb c) D ({ (x.pv (.slice pa M.length pc)) with fp := ((num (sb D 0 2) : Nat) : Int), tp := ((num (sb D 2 2) : Nat) : Int), seq := ((num (sb D 4 4) : Nat) : Int), ack := ((num (sb D 8 4) : Nat) : Int), fin := (flz D 13 1), syn := (flz D 13 2), rst := (flz D 13 4) }) wx := hC.1
      obtain ⟨-, -, -, -, -, -, -, -, -, -, -, -, -, c13, -, -, -, -, -, f0⟩ := PBlk.cells hk.p
      refine Op1.g fun _ Z => ?_; go_simp
      have hk0 := hk.set (PBlk.set_has hk.p ((flz D 13 16)))
      exact Z _ _ ⟨Nat.le_refl _, ⟨hk0, hC.2.trans (SS.set (n := 3) (n' := 4) hk.p 13 _ (by omega))⟩, (SS.set (n := 3) (n' := 4) hk.p 13 _ (by omega))⟩
    case hendd =>
     intro T wx ⟨n, hn, hC, hR⟩
     have hk : 4 ≤ n := hR 35 (by omega)
     obtain rfl : n = 4 := by omega
     have HSd : Hid (RS w P B (.slice (some ⟨g, o, none⟩) nb c) D ({ (x.pv (.slice pa M.length pc)) with fp := ((num (sb D 0 2) : Nat) : Int), tp := ((num (sb D 2 2) : Nat) : Int), seq := ((num (sb D 4 4) : Nat) : Int), ack := ((num (sb D 8 4) : Nat) : Int), fin := (flz D 13 1), syn := (flz D 13 2), rst := (flz D 13 4), has := (flz D 13 16) }) wx) := Lib.hid hC.1
     have HUd := Lib.hid hC.2
     clear hR hC
     simp only [List.drop_succ_cons, List.drop_nil]
     unfold wpList
     have HOd := Lib.hid (HOb.out.ss HUd.out)
     go_upto_region 14 with fail
     generalize wx = wk at *
     clear HSb HOb HUd
     have HAk : Hid ((prtX x D).ack = num (sb D 8 4) ∧ (prtX x D).has = flz D 13 16) := Lib.hid (by unfold prtX; rw [if_pos hp]; exact ⟨rfl, rfl⟩)
     rcases Decidable.em (num (sb D 8 4) = 0) with hk | hk
     ·have H4 : Hid ((((num (sb D 8 4) : Nat) : Int) != 0) = false) := Lib.hid (by rw [hk]; rfl)
      have HA : Hid (¬ (x.proto = 6 ∧ (prtX x D).ack ≠ 0 ∧ (prtX x D).has = false)) := Lib.hid fun h => h.2.1 (by rw [HAk.out.1]; exact hk)
      clear hk
      refine Lm.wp_region_seq 12 0 (fun p vv nn ww => (List.getD ((.val (.pointer (some ⟨P, 0, none⟩))) :: (.val (.pointer (some ⟨P, 0, none⟩))) :: (.val (.pointer (some ⟨P, 15, none⟩))) :: (.val (.int .i64 (((num (sb D 8 4) : Nat) : Int)))) :: (.val (.bool false)) :: (.val (.bool false)) :: (.val (undef)) :: (.val (undef)) :: (.val (undef)) :: (.val (undef)) :: (.val (undef)) :: (.val (.bool false)) :: [] : List Vd) p .any).R vv nn ww) (fun _ ww => RS w P B (.slice (some ⟨g, o, none⟩) nb c) D ({ (x.pv (.slice pa M.length pc)) with fp := ((num (sb D 0 2) : Nat) : Int), tp := ((num (sb D 2 2) : Nat) : Int), seq := ((num (sb D 4 4) : Nat) : Int), ack := ((num (sb D 8 4) : Nat) : Int), fin := (flz D 13 1), syn := (flz D 13 2), rst := (flz D 13 4), has := (flz D 13 16) }) ww ∧ Below wk.heap.size wk ww) SS (fun _ => 0) (fun _ => 0)
       (by kernel_rfl) (by kernel_rfl) (by decide) (by kernel_rfl) (fun p vv nn ww n' w' h hs => Vd.keep _ h hs) (⟨HSd.out, Below.refl _ _⟩) ?hXe
      case' hXe => (apply Exists.intro; refine ⟨fun T => ?hAe, ?hobe, ?hende⟩)
      case hAe =>
       simp only [setAll, List.take_succ_cons, List.take_zero, Act.put, List.setIfInBounds_toArray, List.set_cons_succ, List.set_cons_zero, Nat.reduceAdd]
       exact rfl
      case hobe =>
       refine ⟨?_, ?_, ?_, ?_, ?_, ?_, ?_, ?_, ?_, ?_, ?_, ?_, trivial⟩
       ·intro T wx n hC (hn : n ≤ 0) hp
        refine Op1.g fun _ Z => ?_; go_simp; exact Z _ _ ⟨rfl, hC, sR⟩
       ·intro T wx n hC (hn : n ≤ 0) hp
        obtain ⟨(d0 : T 0 = .pointer (some ⟨P, 0, none⟩)), -⟩ := hp
        refine Op1.g fun _ Z => ?_; go_simp; exact Z _ _ ⟨rfl, hC, sR⟩
       ·intro T wx n hC (hn : n ≤ 0) hp
        obtain ⟨(d1 : T 1 = .pointer (some ⟨P, 0, none⟩)), -⟩ := hp
        refine Op1.g fun _ Z => ?_; go_simp; exact Z _ _ ⟨rfl, hC, sR⟩
       ·intro T wx n hC (hn : n ≤ 0) hp
        obtain ⟨(d2 : T 2 = .pointer (some ⟨P, 15, none⟩)), -⟩ := hp
        have hk := hC.1
        obtain ⟨-, -, -, -, -, -, -, -, -, -, -, -, -, -, -, c15, -, -, -, f0⟩ := PBlk.cells hk.p
        refine Op1.g fun _ Z => ?_; go_simp; exact Z _ _ ⟨rfl, hC, sR⟩
       ·intro T wx n hC (hn : n ≤ 0) hp
        obtain ⟨(d3 : T 3 = .int .i64 (((num (sb D 8 4) : Nat) : Int))), -⟩ := hp
        refine Op1.g fun _ Z => ?_; go_simp; first | exact Z _ _ ⟨congrArg Value.bool (H4.out), hC, sR⟩ | exact Z _ _ ⟨rfl, hC, sR⟩
       ·intro T wx n hC (hn : n ≤ 0) hp
        obtain ⟨(d4 : T 4 = .bool false), -⟩ := hp
        refine Op1.g fun _ Z => ?_; go_simp; exact Z _ _ ⟨rfl, hC, sR⟩
       ·intro T wx n hC (hn : n ≤ 0) hp
        obtain ⟨(d5 : T 5 = .bool false), -⟩ := hp
        refine ⟨fun hT => ?_, fun hT => ⟨rfl, hC, sR⟩⟩
        rw [d5] at hT
        cases hT
       ·intro T wx n hC (hn : n ≤ 0) hp
        obtain ⟨-, (d5 : T 5 = .bool false), -⟩ := hp
        refine ⟨fun hT => ?_, fun hT => ⟨rfl, hC, sR⟩⟩
        rw [d5] at hT
        cases hT
       ·intro T wx n hC (hn : n ≤ 0) hp
        obtain ⟨-, (d5 : T 5 = .bool false), -⟩ := hp
        refine ⟨fun hT => ?_, fun hT => ⟨rfl, hC, sR⟩⟩
        rw [d5] at hT
        cases hT
       ·intro T wx n hC (hn : n ≤ 0) hp
        obtain ⟨-, (d5 : T 5 = .bool false), -⟩ := hp
        refine ⟨fun hT => ?_, fun hT => ⟨rfl, hC, sR⟩⟩
        rw [d5] at hT
        cases hT
       ·intro T wx n hC (hn : n ≤ 0) hp
        obtain ⟨-, (d5 : T 5 = .bool false), -⟩ := hp
        refine ⟨fun hT => ?_, fun hT => ⟨rfl, hC, sR⟩⟩
        rw [d5] at hT
        cases hT
       ·intro T wx n hC (hn : n ≤ 0) hp
        obtain ⟨(d5 : T 5 = .bool false), -⟩ := hp
        refine Op1.g fun _ Z => ?_; go_simp; exact Z _ _ ⟨rfl, hC, sR⟩
      case hende =>
       intro T wx ⟨n, hn, hC, hR⟩
       have HSe := Lib.hid hC.1
       have HBe := Lib.hid hC.2
       have r133 : T 11 = .bool false := hR 11 (by omega)
       rw [r133]
       clear r133
       clear hR hC
       simp only [List.drop_succ_cons, List.drop_nil]
       unfold wpList
       go_upto_region 16 with fail
       generalize hwk : wx = wk2 at *
       have HOe : Hid (OwnB wk2 w.heap.size (.slice pa M.length pc) M) := Lib.hid (own_later HOd.out HBe.out)
       clear HBe HSd HOd H4 HAk
       have Hy : (prtX x D).pv (.slice pa M.length pc) = { (x.pv (.slice pa M.length pc)) with fp := ((num (sb D 0 2) : Nat) : Int), tp := ((num (sb D 2 2) : Nat) : Int), seq := ((num (sb D 4 4) : Nat) : Int), ack := ((num (sb D 8 4) : Nat) : Int), fin := (flz D 13 1), syn := (flz D 13 2), rst := (flz D 13 4), has := (flz D 13 16) } := by
        unfold prtX
        rw [if_pos hp]
        first | rfl | (simp only [NP.pv]; first | rfl | (rw [← Hr.out]))
       have HSy : Hid (RS w P B (.slice (some ⟨g, o, none⟩) nb c) D ((prtX x D).pv (.slice pa M.length pc)) wk2) := by rw [Hy]; exact HSe
       have hyf : (prtX x D).fit := prtX_fit hx D
       have hyp : (prtX x D).proto = 6 := by rw [prtX_proto]; exact hp
       have Hk : Hid (prtOk x D ↔ partB (prtX x D) M = setSum D 16 0) := Lib.hid (by
        unfold prtOk
        rw [show leastN x.proto = 20 by rw [hp]; rfl, show sumAtN x.proto = 16 by rw [hp]; rfl, ← HM.out]
        exact ⟨fun h => h.2.2, fun h => ⟨by rw [Hn.out]; omega, HA.out, h⟩⟩)
       obtain ⟨y, hy⟩ : ∃ y, prtX x D = y := ⟨_, rfl⟩
       have HY := Lib.hid hy
       rw [hy] at HSy hyf hyp Hk
       clear hy Hy HSe
       go_wp2_with (refine wpList_load_row rfl 45 (.tmp 135) rfl P rfl 45 (y.pv (.slice pa M.length pc)).cells (0, 0) _ HSy.out.p Try.underlying45 rfl (by kernel_rfl) ?_)
       refine (partOf_any y hyf pa pc M wk2 (OwnB.rb HOe.out (by have := HMl.out; omega)) (by have := HMl.out; omega)).mono ?_
       rintro e w5 ⟨v5, rfl, hO5, hB5⟩
       have HS5 := Lib.hid (HSy.out.later hB5)
       have HO5 := Lib.hid hO5
       have HB5 := Lib.hid hB5
       have hsz5 := hB5.size
       clear hO5 hB5
       go_wp2_with fail
       refine (cloneB_rb HS5.out.rb (by rw [Hn.out]; omega)).mono ?_
       rintro e w6 ⟨v6, rfl, hO6, hB6⟩
       have HS6 := Lib.hid (HS5.out.later hB6)
       have HB6 := Lib.hid (HB5.out.trans (hB6.mono hsz5))
       have HR5 : Hid (Rb w5.heap.size w6 v5 (partB y M)) := Lib.hid ((HO5.out.rb (by rw [partB_len, hyp, HMl.out, show leastN 6 = 20 from rfl]; omega)).below hB6)
       have hsz6 := hB6.size
       obtain ⟨g6, c6, rfl, hg6, hl6, hd6, hm6⟩ := hO6.slice1 (by rw [Hn.out]; omega)
       have HO6 := Lib.hid hO6
       clear hO6 hB6
       rw [show D.length = nb from Hn.out]
       have c7 : w6.cell? ⟨P, 7, none⟩ = some (.int .i64 6) := by
        obtain ⟨-, -, -, -, -, -, -, c7, -⟩ := PBlk.cells HS6.out.p
        refine c7.trans (congrArg (fun z => some (Value.int .i64 z)) ?_)
        show ((y.proto : Nat) : Int) = 6
        rw [hyp]; rfl
       have hsa : Calls Try.prog 73 #[.int .i64 6] w6 (Ret (.int .i64 16) w6) := sumAt_any 6 w6 (by omega)
       go_wp2_with fail
       refine hsa.mono ?_
       rintro e w7 ⟨rfl, hB7⟩
       have HS7 := Lib.hid (HS6.out.later hB7)
       have HB7 := Lib.hid (HB6.out.trans (hB7.mono (Nat.le_trans hsz5 hsz6)))
       have HR7 := Lib.hid (HR5.out.below (hB7.mono hsz6))
       have HO7 : Hid (OwnB w7 w5.heap.size (.slice (some ⟨g6, 0, none⟩) D.length c6) D) := Lib.hid (own_later HO6.out hB7)
       have hsz7 := hB7.size
       clear hB7 hsa c7
       have hf := HO7.out.frozen
       have hcl := HO7.out.get
       have HO8 := Lib.hid (show OwnB ((w7.setCell ⟨g6, 16, none⟩ (.int .u8 0)).setCell ⟨g6, 17, none⟩ (.int .u8 0)) w5.heap.size (.slice (some ⟨g6, 0, none⟩) D.length c6) (setSum D 16 0) from HO7.out.zero2 16 (by rw [Hn.out]; omega))
       rw [show D.length = nb from Hn.out] at hcl HO8 hd6
       obtain ⟨y1, hc1'⟩ : ∃ y, w7.cell? ⟨g6, 16, none⟩ = some (encB y) := ⟨_, hcl 16 (by omega)⟩
       obtain ⟨y2, hc2'⟩ : ∃ y, w7.cell? ⟨g6, 17, none⟩ = some (encB y) := ⟨_, hcl 17 (by omega)⟩
       clear hcl
       go_wp2_with fail
       have HB8 : Hid (Below w5.heap.size w7 ((w7.setCell ⟨g6, 16, none⟩ (.int .u8 0)).setCell ⟨g6, 17, none⟩ (.int .u8 0))) := Lib.hid (((Below.refl _ _).setCell hg6 _).setCell hg6 _)
       refine (equal_rb (HR7.out.below HB8.out) (HO8.out.rb (by rw [setSum_len, Hn.out]; omega))).mono ?_
       rintro e w9 ⟨rfl, hB9⟩
       obtain ⟨z, hz⟩ : ∃ z, decide (partB y M = setSum D 16 0) = z := ⟨_, rfl⟩
       rw [hz]
       have HZ := Lib.hid hz
       clear hz
       go_wp2_with fail
       go_ret
       have hB10 : Below wk2.heap.size wk2 w9 := (HB7.out.trans (HB8.out.mono hsz5)).trans (hB9.mono (by simp; omega))
       cases z with
       | true =>
        refine .inl ⟨Hk.out.2 (of_decide_eq_true HZ.out), rfl, (.slice pa M.length pc), ?_, ?_⟩
        ·rw [HY.out]; exact HSy.out.later hB10
        ·rw [show leastN x.proto = 20 by rw [hp]; rfl, ← HM.out]
         exact own_later HOe.out hB10
       | false => exact .inr ⟨fun h => of_decide_eq_false HZ.out (Hk.out.1 h), rfl, grown_below HSy.out.g hB10⟩
     ·have H4 : Hid ((((num (sb D 8 4) : Nat) : Int) != 0) = true) := Lib.hid (by rw [bne_iff_ne]; intro e; exact hk (Int.ofNat.inj e))
      have Hk0 := Lib.hid hk
      clear hk
      rcases Bool.eq_false_or_eq_true ((flz D 13 16)) with hh | hh
      ·have H9 : Hid ((flz D 13 16) = true) := Lib.hid hh
       have HA : Hid (¬ (x.proto = 6 ∧ (prtX x D).ack ≠ 0 ∧ (prtX x D).has = false)) := Lib.hid fun h => by
        have h3 := h.2.2
        rw [HAk.out.2, hh] at h3
        cases h3
       clear hh
       refine Lm.wp_region_seq 12 0 (fun p vv nn ww => (List.getD ((.val (.pointer (some ⟨P, 0, none⟩))) :: (.val (.pointer (some ⟨P, 0, none⟩))) :: (.val (.pointer (some ⟨P, 15, none⟩))) :: (.val (.int .i64 (((num (sb D 8 4) : Nat) : Int)))) :: (.val (.bool true)) :: (.val (.bool true)) :: (.val (.pointer (some ⟨P, 0, none⟩))) :: (.val (.pointer (some ⟨P, 0, none⟩))) :: (.val (.pointer (some ⟨P, 13, none⟩))) :: (.val (.bool true)) :: (.val (.bool false)) :: (.val (.bool false)) :: [] : List Vd) p .any).R vv nn ww) (fun _ ww => RS w P B (.slice (some ⟨g, o, none⟩) nb c) D ({ (x.pv (.slice pa M.length pc)) with fp := ((num (sb D 0 2) : Nat) : Int), tp := ((num (sb D 2 2) : Nat) : Int), seq := ((num (sb D 4 4) : Nat) : Int), ack := ((num (sb D 8 4) : Nat) : Int), fin := (flz D 13 1), syn := (flz D 13 2), rst := (flz D 13 4), has := (flz D 13 16) }) ww ∧ Below wk.heap.size wk ww) SS (fun _ => 0) (fun _ => 0)
        (by kernel_rfl) (by kernel_rfl) (by decide) (by kernel_rfl) (fun p vv nn ww n' w' h hs => Vd.keep _ h hs) (⟨HSd.out, Below.refl _ _⟩) ?hXf
       case' hXf => (apply Exists.intro; refine ⟨fun T => ?hAf, ?hobf, ?hendf⟩)
       case hAf =>
        simp only [setAll, List.take_succ_cons, List.take_zero, Act.put, List.setIfInBounds_toArray, List.set_cons_succ, List.set_cons_zero, Nat.reduceAdd]
        exact rfl
       case hobf =>
        refine ⟨?_, ?_, ?_, ?_, ?_, ?_, ?_, ?_, ?_, ?_, ?_, ?_, trivial⟩
        ·intro T wx n hC (hn : n ≤ 0) hp
         refine Op1.g fun _ Z => ?_; go_simp; exact Z _ _ ⟨rfl, hC, sR⟩
        ·intro T wx n hC (hn : n ≤ 0) hp
         obtain ⟨(d0 : T 0 = .pointer (some ⟨P, 0, none⟩)), -⟩ := hp
         refine Op1.g fun _ Z => ?_; go_simp; exact Z _ _ ⟨rfl, hC, sR⟩
        ·intro T wx n hC (hn : n ≤ 0) hp
         obtain ⟨(d1 : T 1 = .pointer (some ⟨P, 0, none⟩)), -⟩ := hp
         refine Op1.g fun _ Z => ?_; go_simp; exact Z _ _ ⟨rfl, hC, sR⟩
        ·intro T wx n hC (hn : n ≤ 0) hp
         obtain ⟨(d2 : T 2 = .pointer (some ⟨P, 15, none⟩)), -⟩ := hp
         have hk := hC.1
         obtain ⟨-, -, -, -, -, -, -, -, -, -, -, -, -, -, -, c15, -, -, -, f0⟩ := PBlk.cells hk.p
         refine Op1.g fun _ Z => ?_; go_simp; exact Z _ _ ⟨rfl, hC, sR⟩
        ·intro T wx n hC (hn : n ≤ 0) hp
         obtain ⟨(d3 : T 3 = .int .i64 (((num (sb D 8 4) : Nat) : Int))), -⟩ := hp
         refine Op1.g fun _ Z => ?_; go_simp; first | exact Z _ _ ⟨congrArg Value.bool (H4.out), hC, sR⟩ | exact Z _ _ ⟨rfl, hC, sR⟩
        ·intro T wx n hC (hn : n ≤ 0) hp
         obtain ⟨(d4 : T 4 = .bool true), -⟩ := hp
         refine Op1.g fun _ Z => ?_; go_simp; exact Z _ _ ⟨rfl, hC, sR⟩
        ·intro T wx n hC (hn : n ≤ 0) hp
         obtain ⟨(d5 : T 5 = .bool true), -⟩ := hp
         refine ⟨fun hT => ?_, fun hT => absurd d5 hT⟩
         refine Op1.g fun _ Z => ?_; go_simp; exact Z _ _ ⟨rfl, hC, sR⟩
        ·intro T wx n hC (hn : n ≤ 0) hp
         obtain ⟨(d6 : T 6 = .pointer (some ⟨P, 0, none⟩)), (d5 : T 5 = .bool true), -⟩ := hp
         refine ⟨fun hT => ?_, fun hT => absurd d5 hT⟩
         refine Op1.g fun _ Z => ?_; go_simp; exact Z _ _ ⟨rfl, hC, sR⟩
        ·intro T wx n hC (hn : n ≤ 0) hp
         obtain ⟨(d7 : T 7 = .pointer (some ⟨P, 0, none⟩)), (d5 : T 5 = .bool true), -⟩ := hp
         refine ⟨fun hT => ?_, fun hT => absurd d5 hT⟩
         refine Op1.g fun _ Z => ?_; go_simp; exact Z _ _ ⟨rfl, hC, sR⟩
        ·intro T wx n hC (hn : n ≤ 0) hp
         obtain ⟨(d8 : T 8 = .pointer (some ⟨P, 13, none⟩)), (d5 : T 5 = .bool true), -⟩ := hp
         refine ⟨fun hT => ?_, fun hT => absurd d5 hT⟩
         have hk := hC.1
         obtain ⟨-, -, -, -, -, -, -, -, -, -, -, -, -, c13, -, -, -, -, -, f0⟩ := PBlk.cells hk.p
         refine Op1.g fun _ Z => ?_; go_simp; first | exact Z _ _ ⟨congrArg Value.bool (H9.out), hC, sR⟩ | exact Z _ _ ⟨rfl, hC, sR⟩
        ·intro T wx n hC (hn : n ≤ 0) hp
         obtain ⟨(d9 : T 9 = .bool true), (d5 : T 5 = .bool true), -⟩ := hp
         refine ⟨fun hT => ?_, fun hT => absurd d5 hT⟩
         refine Op1.g fun _ Z => ?_; go_simp; exact Z _ _ ⟨rfl, hC, sR⟩
        ·intro T wx n hC (hn : n ≤ 0) hp
         obtain ⟨(d5 : T 5 = .bool true), (d10 : T 10 = .bool false), -⟩ := hp
         refine Op1.g fun _ Z => ?_; go_simp; exact Z _ _ ⟨rfl, hC, sR⟩
       case hendf =>
        intro T wx ⟨n, hn, hC, hR⟩
        have HSf := Lib.hid hC.1
        have HBf := Lib.hid hC.2
        have r133 : T 11 = .bool false := hR 11 (by omega)
        rw [r133]
        clear r133
        clear hR hC
        simp only [List.drop_succ_cons, List.drop_nil]
        unfold wpList
        go_upto_region 16 with fail
        generalize hwk : wx = wk2 at *
        have HOf : Hid (OwnB wk2 w.heap.size (.slice pa M.length pc) M) := Lib.hid (own_later HOd.out HBf.out)
        clear HBf HSd HOd H4 H9 HAk Hk0
        have Hy : (prtX x D).pv (.slice pa M.length pc) = { (x.pv (.slice pa M.length pc)) with fp := ((num (sb D 0 2) : Nat) : Int), tp := ((num (sb D 2 2) : Nat) : Int), seq := ((num (sb D 4 4) : Nat) : Int), ack := ((num (sb D 8 4) : Nat) : Int), fin := (flz D 13 1), syn := (flz D 13 2), rst := (flz D 13 4), has := (flz D 13 16) } := by
         unfold prtX
         rw [if_pos hp]
         first | rfl | (simp only [NP.pv]; first | rfl | (rw [← Hr.out]))
        have HSy : Hid (RS w P B (.slice (some ⟨g, o, none⟩) nb c) D ((prtX x D).pv (.slice pa M.length pc)) wk2) := by rw [Hy]; exact HSf
        have hyf : (prtX x D).fit := prtX_fit hx D
        have hyp : (prtX x D).proto = 6 := by rw [prtX_proto]; exact hp
        have Hk : Hid (prtOk x D ↔ partB (prtX x D) M = setSum D 16 0) := Lib.hid (by
         unfold prtOk
         rw [show leastN x.proto = 20 by rw [hp]; rfl, show sumAtN x.proto = 16 by rw [hp]; rfl, ← HM.out]
         exact ⟨fun h => h.2.2, fun h => ⟨by rw [Hn.out]; omega, HA.out, h⟩⟩)
        obtain ⟨y, hy⟩ : ∃ y, prtX x D = y := ⟨_, rfl⟩
        have HY := Lib.hid hy
        rw [hy] at HSy hyf hyp Hk
        clear hy Hy HSf
        go_wp2_with (refine wpList_load_row rfl 45 (.tmp 135) rfl P rfl 45 (y.pv (.slice pa M.length pc)).cells (0, 0) _ HSy.out.p Try.underlying45 rfl (by kernel_rfl) ?_)
        refine (partOf_any y hyf pa pc M wk2 (OwnB.rb HOf.out (by have := HMl.out; omega)) (by have := HMl.out; omega)).mono ?_
        rintro e w5 ⟨v5, rfl, hO5, hB5⟩
        have HS5 := Lib.hid (HSy.out.later hB5)
        have HO5 := Lib.hid hO5
        have HB5 := Lib.hid hB5
        have hsz5 := hB5.size
        clear hO5 hB5
        go_wp2_with fail
        refine (cloneB_rb HS5.out.rb (by rw [Hn.out]; omega)).mono ?_
        rintro e w6 ⟨v6, rfl, hO6, hB6⟩
        have HS6 := Lib.hid (HS5.out.later hB6)
        have HB6 := Lib.hid (HB5.out.trans (hB6.mono hsz5))
        have HR5 : Hid (Rb w5.heap.size w6 v5 (partB y M)) := Lib.hid ((HO5.out.rb (by rw [partB_len, hyp, HMl.out, show leastN 6 = 20 from rfl]; omega)).below hB6)
        have hsz6 := hB6.size
        obtain ⟨g6, c6, rfl, hg6, hl6, hd6, hm6⟩ := hO6.slice1 (by rw [Hn.out]; omega)
        have HO6 := Lib.hid hO6
        clear hO6 hB6
        rw [show D.length = nb from Hn.out]
        have c7 : w6.cell? ⟨P, 7, none⟩ = some (.int .i64 6) := by
         obtain ⟨-, -, -, -, -, -, -, c7, -⟩ := PBlk.cells HS6.out.p
         refine c7.trans (congrArg (fun z => some (Value.int .i64 z)) ?_)
         show ((y.proto : Nat) : Int) = 6
         rw [hyp]; rfl
        have hsa : Calls Try.prog 73 #[.int .i64 6] w6 (Ret (.int .i64 16) w6) := sumAt_any 6 w6 (by omega)
        go_wp2_with fail
        refine hsa.mono ?_
        rintro e w7 ⟨rfl, hB7⟩
        have HS7 := Lib.hid (HS6.out.later hB7)
        have HB7 := Lib.hid (HB6.out.trans (hB7.mono (Nat.le_trans hsz5 hsz6)))
        have HR7 := Lib.hid (HR5.out.below (hB7.mono hsz6))
        have HO7 : Hid (OwnB w7 w5.heap.size (.slice (some ⟨g6, 0, none⟩) D.length c6) D) := Lib.hid (own_later HO6.out hB7)
        have hsz7 := hB7.size
        clear hB7 hsa c7
        have hf := HO7.out.frozen
        have hcl := HO7.out.get
        have HO8 := Lib.hid (show OwnB ((w7.setCell ⟨g6, 16, none⟩ (.int .u8 0)).setCell ⟨g6, 17, none⟩ (.int .u8 0)) w5.heap.size (.slice (some ⟨g6, 0, none⟩) D.length c6) (setSum D 16 0) from HO7.out.zero2 16 (by rw [Hn.out]; omega))
        rw [show D.length = nb from Hn.out] at hcl HO8 hd6
        obtain ⟨y1, hc1'⟩ : ∃ y, w7.cell? ⟨g6, 16, none⟩ = some (encB y) := ⟨_, hcl 16 (by omega)⟩
        obtain ⟨y2, hc2'⟩ : ∃ y, w7.cell? ⟨g6, 17, none⟩ = some (encB y) := ⟨_, hcl 17 (by omega)⟩
        clear hcl
        go_wp2_with fail
        have HB8 : Hid (Below w5.heap.size w7 ((w7.setCell ⟨g6, 16, none⟩ (.int .u8 0)).setCell ⟨g6, 17, none⟩ (.int .u8 0))) := Lib.hid (((Below.refl _ _).setCell hg6 _).setCell hg6 _)
        refine (equal_rb (HR7.out.below HB8.out) (HO8.out.rb (by rw [setSum_len, Hn.out]; omega))).mono ?_
        rintro e w9 ⟨rfl, hB9⟩
        obtain ⟨z, hz⟩ : ∃ z, decide (partB y M = setSum D 16 0) = z := ⟨_, rfl⟩
        rw [hz]
        have HZ := Lib.hid hz
        clear hz
        go_wp2_with fail
        go_ret
        have hB10 : Below wk2.heap.size wk2 w9 := (HB7.out.trans (HB8.out.mono hsz5)).trans (hB9.mono (by simp; omega))
        cases z with
        | true =>
         refine .inl ⟨Hk.out.2 (of_decide_eq_true HZ.out), rfl, (.slice pa M.length pc), ?_, ?_⟩
         ·rw [HY.out]; exact HSy.out.later hB10
         ·rw [show leastN x.proto = 20 by rw [hp]; rfl, ← HM.out]
          exact own_later HOf.out hB10
        | false => exact .inr ⟨fun h => of_decide_eq_false HZ.out (Hk.out.1 h), rfl, grown_below HSy.out.g hB10⟩
      ·have H9 : Hid ((flz D 13 16) = false) := Lib.hid hh
       clear hh
       refine Lm.wp_region_seq 12 0 (fun p vv nn ww => (List.getD ((.val (.pointer (some ⟨P, 0, none⟩))) :: (.val (.pointer (some ⟨P, 0, none⟩))) :: (.val (.pointer (some ⟨P, 15, none⟩))) :: (.val (.int .i64 (((num (sb D 8 4) : Nat) : Int)))) :: (.val (.bool true)) :: (.val (.bool true)) :: (.val (.pointer (some ⟨P, 0, none⟩))) :: (.val (.pointer (some ⟨P, 0, none⟩))) :: (.val (.pointer (some ⟨P, 13, none⟩))) :: (.val (.bool false)) :: (.val (.bool true)) :: (.val (.bool true)) :: [] : List Vd) p .any).R vv nn ww) (fun _ ww => RS w P B (.slice (some ⟨g, o, none⟩) nb c) D ({ (x.pv (.slice pa M.length pc)) with fp := ((num (sb D 0 2) : Nat) : Int), tp := ((num (sb D 2 2) : Nat) : Int), seq := ((num (sb D 4 4) : Nat) : Int), ack := ((num (sb D 8 4) : Nat) : Int), fin := (flz D 13 1), syn := (flz D 13 2), rst := (flz D 13 4), has := (flz D 13 16) }) ww ∧ Below wk.heap.size wk ww) SS (fun _ => 0) (fun _ => 0)
        (by kernel_rfl) (by kernel_rfl) (by decide) (by kernel_rfl) (fun p vv nn ww n' w' h hs => Vd.keep _ h hs) (⟨HSd.out, Below.refl _ _⟩) ?hXg
       case' hXg => (apply Exists.intro; refine ⟨fun T => ?hAg, ?hobg, ?hendg⟩)
       case hAg =>
        simp only [setAll, List.take_succ_cons, List.take_zero, Act.put, List.setIfInBounds_toArray, List.set_cons_succ, List.set_cons_zero, Nat.reduceAdd]
        exact rfl
       case hobg =>
        refine ⟨?_, ?_, ?_, ?_, ?_, ?_, ?_, ?_, ?_, ?_, ?_, ?_, trivial⟩
        ·intro T wx n hC (hn : n ≤ 0) hp
         refine Op1.g fun _ Z => ?_; go_simp; exact Z _ _ ⟨rfl, hC, sR⟩
        ·intro T wx n hC (hn : n ≤ 0) hp
         obtain ⟨(d0 : T 0 = .pointer (some ⟨P, 0, none⟩)), -⟩ := hp
         refine Op1.g fun _ Z => ?_; go_simp; exact Z _ _ ⟨rfl, hC, sR⟩
        ·intro T wx n hC (hn : n ≤ 0) hp
         obtain ⟨(d1 : T 1 = .pointer (some ⟨P, 0, none⟩)), -⟩ := hp
         refine Op1.g fun _ Z => ?_; go_simp; exact Z _ _ ⟨rfl, hC, sR⟩
        ·intro T wx n hC (hn : n ≤ 0) hp
         obtain ⟨(d2 : T 2 = .pointer (some ⟨P, 15, none⟩)), -⟩ := hp
         have hk := hC.1
         obtain ⟨-, -, -, -, -, -, -, -, -, -, -, -, -, -, -, c15, -, -, -, f0⟩ := PBlk.cells hk.p
         refine Op1.g fun _ Z => ?_; go_simp; exact Z _ _ ⟨rfl, hC, sR⟩
        ·intro T wx n hC (hn : n ≤ 0) hp
         obtain ⟨(d3 : T 3 = .int .i64 (((num (sb D 8 4) : Nat) : Int))), -⟩ := hp
         refine Op1.g fun _ Z => ?_; go_simp; first | exact Z _ _ ⟨congrArg Value.bool (H4.out), hC, sR⟩ | exact Z _ _ ⟨rfl, hC, sR⟩
        ·intro T wx n hC (hn : n ≤ 0) hp
         obtain ⟨(d4 : T 4 = .bool true), -⟩ := hp
         refine Op1.g fun _ Z => ?_; go_simp; exact Z _ _ ⟨rfl, hC, sR⟩
        ·intro T wx n hC (hn : n ≤ 0) hp
         obtain ⟨(d5 : T 5 = .bool true), -⟩ := hp
         refine ⟨fun hT => ?_, fun hT => absurd d5 hT⟩
         refine Op1.g fun _ Z => ?_; go_simp; exact Z _ _ ⟨rfl, hC, sR⟩
        ·intro T wx n hC (hn : n ≤ 0) hp
         obtain ⟨(d6 : T 6 = .pointer (some ⟨P, 0, none⟩)), (d5 : T 5 = .bool true), -⟩ := hp
         refine ⟨fun hT => ?_, fun hT => absurd d5 hT⟩
         refine Op1.g fun _ Z => ?_; go_simp; exact Z _ _ ⟨rfl, hC, sR⟩
        ·intro T wx n hC (hn : n ≤ 0) hp
         obtain ⟨(d7 : T 7 = .pointer (some ⟨P, 0, none⟩)), (d5 : T 5 = .bool true), -⟩ := hp
         refine ⟨fun hT => ?_, fun hT => absurd d5 hT⟩
         refine Op1.g fun _ Z => ?_; go_simp; exact Z _ _ ⟨rfl, hC, sR⟩
        ·intro T wx n hC (hn : n ≤ 0) hp
         obtain ⟨(d8 : T 8 = .pointer (some ⟨P, 13, none⟩)), (d5 : T 5 = .bool true), -⟩ := hp
         refine ⟨fun hT => ?_, fun hT => absurd d5 hT⟩
         have hk := hC.1
         obtain ⟨-, -, -, -, -, -, -, -, -, -, -, -, -, c13, -, -, -, -, -, f0⟩ := PBlk.cells hk.p
         refine Op1.g fun _ Z => ?_; go_simp; first | exact Z _ _ ⟨congrArg Value.bool (H9.out), hC, sR⟩ | exact Z _ _ ⟨rfl, hC, sR⟩
        ·intro T wx n hC (hn : n ≤ 0) hp
         obtain ⟨(d9 : T 9 = .bool false), (d5 : T 5 = .bool true), -⟩ := hp
         refine ⟨fun hT => ?_, fun hT => absurd d5 hT⟩
         refine Op1.g fun _ Z => ?_; go_simp; exact Z _ _ ⟨rfl, hC, sR⟩
        ·intro T wx n hC (hn : n ≤ 0) hp
         obtain ⟨(d5 : T 5 = .bool true), (d10 : T 10 = .bool true), -⟩ := hp
         refine Op1.g fun _ Z => ?_; go_simp; exact Z _ _ ⟨rfl, hC, sR⟩
       case hendg =>
        intro T wx ⟨n, hn, hC, hR⟩
        have HSg := Lib.hid hC.1
        have HBg := Lib.hid hC.2
        have r133 : T 11 = .bool true := hR 11 (by omega)
        rw [r133]
        clear r133
        clear hR hC
        simp only [List.drop_succ_cons, List.drop_nil]
        unfold wpList
        go_wp2_with fail
        go_ret
        exact .inr ⟨fun h => h.2.1 ⟨hp, by rw [HAk.out.1]; exact Hk0.out, by rw [HAk.out.2]; exact H9.out⟩, rfl, HSg.out.g⟩
end Go.Proofs.Ytakjopbdkkcnlaa
