/-
  A packet is read by the reference: protocol 6.
-/
import Derived.Test.YtakjopbdkkcnlaaPR22
set_option linter.unusedVariables false
namespace Go.Proofs.Ytakjopbdkkcnlaa
open Go.RowKit Go
set_option linter.unusedVariables false


set_option maxRecDepth 100000 in
set_option maxHeartbeats 16000000 in
theorem packetRead_T (w : World) (g o c nb : Nat) (L : List UInt8) (hR : Rb w.heap.size w (.slice (some ⟨g, o, none⟩) nb c) L) (hL : L.length ≤ 1400) (he : headE L 3 15 4 = 0) (hp : (headX L).proto = 6) (hnd : 20 ≤ (rdBody L).length) :
  Calls Try.prog 30 #[.slice (some ⟨g, o, none⟩) nb c] w fun e w' => PktR L w e w' := by
 obtain ⟨hn, hc1, hc2⟩ := hR.len
 have Hn : Hid (L.length = nb) := Lib.hid hn.symm
 rw [hn.symm] at hc1 hL
 have hcn : nb ≤ c := hc1
 have HR := Lib.hid hR
 have hok := head_ok L 3 15 4 (by decide) (by decide) (by decide) he
 have hat : headAt L ≤ nb := by rw [← Hn.out]; exact hok.2.1
 have hat2 : headAt L ≤ 40 := by unfold headAt; split <;> omega
 have hxf := hok.1
 have He := Lib.hid he
 clear hR hn hc1 hok he
 have HA1 : Hid (PBlk (w.alloc (.cells ZC 45 (0, 0))) w.heap.size PV.zero) := Lib.hid (Blk.new w _ _)
 have HB1 : Hid (Below w.heap.size w (w.alloc (.cells ZC 45 (0, 0)))) := Lib.hid (below_alloc (Below.refl _ _) _)
 go_enter Try.func30, Try.ntmps30
 go_wp2_with fail
 generalize w.alloc (.cells ZC 45 (0, 0)) = w1 at *
 have hsz1 := Blk.lt HA1.out
 refine (headRead_any w1 L _ ((HR.out.below HB1.out).mono (by omega)) (by rw [Hn.out]; omega)).mono ?_
 rintro e w2 ⟨hB2, ⟨-, rfl⟩ | ⟨h0, -⟩⟩
 rotate_left
 ·exact absurd He.out h0
 obtain ⟨x, hx⟩ : ∃ x, headX L = x := ⟨_, rfl⟩
 obtain ⟨D, hD⟩ : ∃ D, rdBody L = D := ⟨_, rfl⟩
 obtain ⟨at', ha⟩ : ∃ a, headAt L = a := ⟨_, rfl⟩
 rw [hx] at hp hxf
 rw [hD] at hnd
 rw [hx, ha]
 rw [ha] at hat hat2
 have HX := Lib.hid hx
 have HDd : Hid (D = L.drop at') := Lib.hid (by rw [← hD, ← ha]; rfl)
 have HD := Lib.hid hD
 have HB2 := Lib.hid (HB1.out.trans (hB2.mono (by omega)))
 have HA2 : Hid (PBlk w2 w.heap.size PV.zero) := Lib.hid (Blk.below HA1.out hB2 hsz1)
 have hsz2 := Blk.lt HA2.out
 clear hB2 hx hD ha HA1 HB1
 have HPz : Hid (PBlk (w2.alloc (.cells ZC 45 (0, 0))) w2.heap.size PV.zero) := Lib.hid (Blk.new w2 _ _)
 have HAz : Hid (PBlk (w2.alloc (.cells ZC 45 (0, 0))) w.heap.size PV.zero) := Lib.hid (Blk.alloc HA2.out _)
 have HBz : Hid (Below w.heap.size w (w2.alloc (.cells ZC 45 (0, 0)))) := Lib.hid (below_alloc HB2.out _)
 have hone : (x.pv (.slice none 0 0)).cells.all (·.oneCell') = true := PV.one _ rfl
 go_upto_region 4 with (refine wpList_store_row rfl 45 (.tmp 4) (.tmp 17) rfl w2.heap.size (x.pv (.slice none 0 0)).cells rfl rfl 45 PV.zero.cells HPz.out (by kernel_rfl) rfl hone ?_)
 have HP3 : Hid (PBlk ((w2.alloc (.cells ZC 45 (0, 0))).setRow w2.heap.size (x.pv (.slice none 0 0)).cells) w2.heap.size (x.pv (.slice none 0 0))) := Lib.hid (PBlk.store HPz.out (x.pv (.slice none 0 0)))
 have HA3 : Hid (PBlk ((w2.alloc (.cells ZC 45 (0, 0))).setRow w2.heap.size (x.pv (.slice none 0 0)).cells) w.heap.size PV.zero) := Lib.hid (Blk.setRow HAz.out (by omega) _)
 have HB3 : Hid (Below w.heap.size w ((w2.alloc (.cells ZC 45 (0, 0))).setRow w2.heap.size (x.pv (.slice none 0 0)).cells)) := Lib.hid (below_setRow HBz.out (by omega) _)
 clear HPz HAz HBz HA2 HB2 hone
 generalize (w2.alloc (.cells ZC 45 (0, 0))).setRow w2.heap.size (x.pv (.slice none 0 0)).cells = w3 at *
 have hsz3 := Blk.lt HP3.out
 generalize hPw : w2.heap.size = P at *
 have HR3 := Lib.hid (HR.out.below HB3.out)
 obtain ⟨o2, ho2⟩ := subV_go g o c at' nb
 have hrd := HR3.out.sub at' (nb - at') (by rw [Hn.out]; omega)
 rw [show at' + (nb - at') = nb by omega, ho2, show sb L at' (nb - at') = D by rw [HDd.out, ← Hn.out]; exact sb_all L at'] at hrd
 go_upto_region 5 with (refine wpList_op1 rfl (Op1.slice_l (l := at') (.tmp 24) (.tmp 25) rfl rfl rfl (by omega) ?_))
 have hcd : nb - at' ≤ c - at' := by omega
 have hnd2 : nb - at' ≤ 1400 := by omega
 have hDl : D.length = nb - at' := by rw [HDd.out, List.length_drop, Hn.out]
 rw [hDl] at hnd
 have Hd0 := Lib.hid hDl
 clear hDl ho2
 generalize nb - at' = nd at *
 generalize c - at' = cd at *
 have Hd : Hid (D.length = nd) := Hd0
 have HS3 : Hid (RS w3 P w.heap.size (.slice (some ⟨g, o2, none⟩) nd cd) D (x.pv (.slice none 0 0)) w3) := Lib.hid ⟨World.grownBy.refl _ _, HP3.out, hrd, by omega, by omega⟩
 clear hrd HP3 Hd0
 have hge : 20 ≤ nd := hnd
 clear hnd
 have hndz : ¬ ((nd : Int) < 20) := by omega
 have c7 : (w3).cell? ⟨P, 7, none⟩ = some (.int .i64 6) := by
  obtain ⟨-, -, -, -, -, -, -, c7, -⟩ := PBlk.cells HS3.out.p
  refine c7.trans (congrArg (fun z => some (Value.int .i64 z)) ?_)
  show ((x.proto : Nat) : Int) = 6
  rw [hp]; rfl
 have cb : w3.cell? ⟨g, o2 + 13, none⟩ = some (.int .u8 (((ub D 13).toNat : Nat) : Int)) := HS3.out.rb.get 13 (by have := Hd.out; omega)
 go_upto_region 16 with fail
 clear c7 cb
 refine Lm.wp_region_lim 24 4 (fun p vv nn ww => (List.getD ((.val (.slice (some ⟨g, o2, none⟩) nd cd)) :: (.val (subV (some ⟨g, o2, none⟩) cd 0 2)) :: (.val (.int .u64 ((num (sb D 0 2) : Nat) : Int))) :: (.val (.int .i64 ((num (sb D 0 2) : Nat) : Int))) :: (.val (.slice (some ⟨g, o2, none⟩) nd cd)) :: (.val (subV (some ⟨g, o2, none⟩) cd 2 4)) :: (.val (.int .u64 ((num (sb D 2 2) : Nat) : Int))) :: (.val (.int .i64 ((num (sb D 2 2) : Nat) : Int))) :: (.val (.slice (some ⟨g, o2, none⟩) nd cd)) :: (.val (subV (some ⟨g, o2, none⟩) cd 4 8)) :: (.val (.int .u64 ((num (sb D 4 4) : Nat) : Int))) :: (.val (.int .i64 ((num (sb D 4 4) : Nat) : Int))) :: (.val (.slice (some ⟨g, o2, none⟩) nd cd)) :: (.val (subV (some ⟨g, o2, none⟩) cd 8 12)) :: (.val (.int .u64 ((num (sb D 8 4) : Nat) : Int))) :: (.val (.int .i64 ((num (sb D 8 4) : Nat) : Int))) :: (.val (.pointer (some ⟨P, 8, none⟩))) :: (.st 1) :: (.val (.pointer (some ⟨P, 9, none⟩))) :: (.st 2) :: (.val (.pointer (some ⟨P, 14, none⟩))) :: (.st 3) :: (.val (.pointer (some ⟨P, 15, none⟩))) :: (.st 4) :: [] : List Vd) p .any).R vv nn ww) (fun nn ww => RS w3 P w.heap.size (.slice (some ⟨g, o2, none⟩) nd cd) D (List.getD [((x.pv (.slice none 0 0))), ({ (x.pv (.slice none 0 0)) with fp := ((num (sb D 0 2) : Nat) : Int) }), ({ (x.pv (.slice none 0 0)) with fp := ((num (sb D 0 2) : Nat) : Int), tp := ((num (sb D 2 2) : Nat) : Int) }), ({ (x.pv (.slice none 0 0)) with fp := ((num (sb D 0 2) : Nat) : Int), tp := ((num (sb D 2 2) : Nat) : Int), seq := ((num (sb D 4 4) : Nat) : Int) }), ({ (x.pv (.slice none 0 0)) with fp := ((num (sb D 0 2) : Nat) : Int), tp := ((num (sb D 2 2) : Nat) : Int), seq := ((num (sb D 4 4) : Nat) : Int), ack := ((num (sb D 8 4) : Nat) : Int) })] nn ({ (x.pv (.slice none 0 0)) with fp := ((num (sb D 0 2) : Nat) : Int), tp := ((num (sb D 2 2) : Nat) : Int), seq := ((num (sb D 4 4) : Nat) : Int), ack := ((num (sb D 8 4) : Nat) : Int) })) ww ∧ SS 0 w3 nn ww) SS (fun i => if i = 17 ∨ i = 19 ∨ i = 21 ∨ i = 23 then 1 else 0) (fun i => if i = 7 ∨ i = 18 ∨ i = 19 then 1 else if i = 11 ∨ i = 20 ∨ i = 21 then 2 else if i = 15 ∨ i = 22 ∨ i = 23 then 3 else 0)
  (by kernel_rfl) (by kernel_rfl) (by decide) (by kernel_rfl) (fun p vv nn ww n' w' h hs => Vd.keep _ h hs) (⟨HS3.out.drew, SS.drew⟩) ?hXa
 case' hXa => (apply Exists.intro; refine ⟨fun T => ?hAa, ?hoba, ?henda⟩)
 case hAa =>
  simp only [setAll, List.take_succ_cons, List.take_zero, Act.put, List.setIfInBounds_toArray, List.set_cons_succ, List.set_cons_zero, Nat.reduceAdd]
  exact rfl
 case hoba =>
  refine ⟨?_, ?_, ?_, ?_, ?_, ?_, ?_, ?_, ?_, ?_, ?_, ?_, ?_, ?_, ?_, ?_, ?_, ?_, ?_, ?_, ?_, ?_, ?_, ?_, trivial⟩
  ·intro T wx n hC hn hp
   refine Op1.g fun _ Z => ?_; go_simp; exact Z _ _ ⟨rfl, hC, sR⟩
  ·intro T wx n hC hn hp
   obtain ⟨(d0 : T 0 = .slice (some ⟨g, o2, none⟩) nd cd), -⟩ := hp
   exact Op1.slice_h (h := 2) (.tmp 63) (.const (.int .i64 2)) rfl d0 rfl (by omega) ⟨rfl, hC, sR⟩
  ·intro T wx n hC hn hp
   obtain ⟨(d1 : T 1 = subV (some ⟨g, o2, none⟩) cd 0 2), -⟩ := hp
   have hz : (D).length = nd := Hd.out
   refine Op1.g fun _ Z => ?_; go_simp; exact calls_post (val_same1 hC (number_rb (hC.1.rb.sub 0 2 (by omega)) (by rw [sb_len D 0 2 (by omega)]; omega))) Z
  ·intro T wx n hC hn hp
   obtain ⟨(d2 : T 2 = .int .u64 ((num (sb D 0 2) : Nat) : Int)), -⟩ := hp
   refine Op1.g fun _ Z => ?_; go_simp
   have hb := Nat.lt_of_lt_of_le (num_sb D 0 2) (by decide : 256 ^ 2 ≤ 65536)
   first | exact Z _ _ ⟨rfl, hC, sR⟩ | (refine Z _ _ ⟨congrArg (Value.int _) ?_, hC, sR⟩; first | omega | (simp only [IntKind.wrap_i64]; omega))
  ·intro T wx n hC hn hp
   refine Op1.g fun _ Z => ?_; go_simp; exact Z _ _ ⟨rfl, hC, sR⟩
  ·intro T wx n hC hn hp
   obtain ⟨(d4 : T 4 = .slice (some ⟨g, o2, none⟩) nd cd), -⟩ := hp
   exact Op1.slice_lh (l := 2) (h := 4) (.tmp 67) (.const (.int .i64 2)) (.const (.int .i64 4)) rfl d4 rfl rfl (by omega) (by omega) ⟨rfl, hC, sR⟩
  ·intro T wx n hC hn hp
   obtain ⟨(d5 : T 5 = subV (some ⟨g, o2, none⟩) cd 2 4), -⟩ := hp
   have hz : (D).length = nd := Hd.out
   refine Op1.g fun _ Z => ?_; go_simp; exact calls_post (val_same1 hC (number_rb (hC.1.rb.sub 2 2 (by omega)) (by rw [sb_len D 2 2 (by omega)]; omega))) Z
  ·intro T wx n hC hn hp
   obtain ⟨(d6 : T 6 = .int .u64 ((num (sb D 2 2) : Nat) : Int)), -⟩ := hp
   refine Op1.g fun _ Z => ?_; go_simp
   have hb := Nat.lt_of_lt_of_le (num_sb D 2 2) (by decide : 256 ^ 2 ≤ 65536)
   first | exact Z _ _ ⟨rfl, hC, sR⟩ | (refine Z _ _ ⟨congrArg (Value.int _) ?_, hC, sR⟩; first | omega | (simp only [IntKind.wrap_i64]; omega))
  ·intro T wx n hC hn hp
   refine Op1.g fun _ Z => ?_; go_simp; exact Z _ _ ⟨rfl, hC, sR⟩
  ·intro T wx n hC hn hp
   obtain ⟨(d8 : T 8 = .slice (some ⟨g, o2, none⟩) nd cd), -⟩ := hp
   exact Op1.slice_lh (l := 4) (h := 8) (.tmp 71) (.const (.int .i64 4)) (.const (.int .i64 8)) rfl d8 rfl rfl (by omega) (by omega) ⟨rfl, hC, sR⟩
  ·intro T wx n hC hn hp
   obtain ⟨(d9 : T 9 = subV (some ⟨g, o2, none⟩) cd 4 8), -⟩ := hp
   have hz : (D).length = nd := Hd.out
   refine Op1.g fun _ Z => ?_; go_simp; exact calls_post (val_same1 hC (number_rb (hC.1.rb.sub 4 4 (by omega)) (by rw [sb_len D 4 4 (by omega)]; omega))) Z
  ·intro T wx n hC hn hp
   obtain ⟨(d10 : T 10 = .int .u64 ((num (sb D 4 4) : Nat) : Int)), -⟩ := hp
   refine Op1.g fun _ Z => ?_; go_simp
   have hb := Nat.lt_of_lt_of_le (num_sb D 4 4) (by decide : 256 ^ 4 ≤ 4294967296)
   first | exact Z _ _ ⟨rfl, hC, sR⟩ | (refine Z _ _ ⟨congrArg (Value.int _) ?_, hC, sR⟩; first | omega | (simp only [IntKind.wrap_i64]; omega))
  ·intro T wx n hC hn hp
   refine Op1.g fun _ Z => ?_; go_simp; exact Z _ _ ⟨rfl, hC, sR⟩
  ·intro T wx n hC hn hp
   obtain ⟨(d12 : T 12 = .slice (some ⟨g, o2, none⟩) nd cd), -⟩ := hp
   exact Op1.slice_lh (l := 8) (h := 12) (.tmp 75) (.const (.int .i64 8)) (.const (.int .i64 12)) rfl d12 rfl rfl (by omega) (by omega) ⟨rfl, hC, sR⟩
  ·intro T wx n hC hn hp
   obtain ⟨(d13 : T 13 = subV (some ⟨g, o2, none⟩) cd 8 12), -⟩ := hp
   have hz : (D).length = nd := Hd.out
   refine Op1.g fun _ Z => ?_; go_simp; exact calls_post (val_same1 hC (number_rb (hC.1.rb.sub 8 4 (by omega)) (by rw [sb_len D 8 4 (by omega)]; omega))) Z
  ·intro T wx n hC hn hp
   obtain ⟨(d14 : T 14 = .int .u64 ((num (sb D 8 4) : Nat) : Int)), -⟩ := hp
   refine Op1.g fun _ Z => ?_; go_simp
   have hb := Nat.lt_of_lt_of_le (num_sb D 8 4) (by decide : 256 ^ 4 ≤ 4294967296)
   first | exact Z _ _ ⟨rfl, hC, sR⟩ | (refine Z _ _ ⟨congrArg (Value.int _) ?_, hC, sR⟩; first | omega | (simp only [IntKind.wrap_i64]; omega))
  ·intro T wx n hC hn hp
   obtain ⟨e0, e1, e2, e3, -⟩ := hp
   refine Op1.g fun _ Z => ?_; go_simp; exact Z _ _ ⟨rfl, hC, sR⟩
  ·intro T wx n hC (hn : n ≤ 0) hp
   obtain ⟨(d16 : T 16 = .pointer (some ⟨P, 8, none⟩)), (d3 : T 3 = .int .i64 ((num (sb D 0 2) : Nat) : Int)), -⟩ := hp
   obtain rfl : n = 0 := by omega
   have hk : RS w3 P w.heap.size (.slice (some ⟨g, o2, none⟩) nd cd) D ((x.pv (.slice none 0 0))) wx := hC.1
   obtain ⟨-, -, -, -, -, -, -, -, c8, -, -, -, -, -, -, -, -, -, -, f0⟩ := PBlk.cells hk.p
   refine Op1.g fun _ Z => ?_; go_simp
   have hk0 := hk.set (PBlk.set_fp hk.p (((num (sb D 0 2) : Nat) : Int)))
   exact Z _ _ ⟨Nat.le_refl _, ⟨hk0, hC.2.trans (SS.set (n := 0) (n' := 1) hk.p 8 _ (by omega))⟩, (SS.set (n := 0) (n' := 1) hk.p 8 _ (by omega))⟩
  ·intro T wx n hC hn hp
   obtain ⟨e0, e1, e2, e3, e4, e5, e6, e7, e8, e9, -⟩ := hp
   refine Op1.g fun _ Z => ?_; go_simp; exact Z _ _ ⟨rfl, hC, sR⟩
  ·intro T wx n hC (hn : n ≤ 1) hp
   obtain ⟨(d18 : T 18 = .pointer (some ⟨P, 9, none⟩)), (d7 : T 7 = .int .i64 ((num (sb D 2 2) : Nat) : Int)), (d17 : 1 ≤ n), -⟩ := hp
   obtain rfl : n = 1 := by omega
   have hk : RS w3 P w.heap.size (.slice (some ⟨g, o2, none⟩) nd cd) D ({ (x.pv (.slice none 0 0)) with fp := ((num (sb D 0 2) : Nat) : Int) }) wx := hC.1
   obtain ⟨-, -, -, -, -, -, -, -, -, c9, -, -, -, -, -, -, -, -, -, f0⟩ := PBlk.cells hk.p
   refine Op1.g fun _ Z => ?_; go_simp
   have hk0 := hk.set (PBlk.set_tp hk.p (((num (sb D 2 2) : Nat) : Int)))
   exact Z _ _ ⟨Nat.le_refl _, ⟨hk0, hC.2.trans (SS.set (n := 1) (n' := 2) hk.p 9 _ (by omega))⟩, (SS.set (n := 1) (n' := 2) hk.p 9 _ (by omega))⟩
  ·intro T wx n hC hn hp
   obtain ⟨e0, e1, e2, e3, e4, e5, e6, e7, e8, e9, e10, e11, e12, e13, e14, e15, -⟩ := hp
   refine Op1.g fun _ Z => ?_; go_simp; exact Z _ _ ⟨rfl, hC, sR⟩
  ·intro T wx n hC (hn : n ≤ 2) hp
   obtain ⟨(d20 : T 20 = .pointer (some ⟨P, 14, none⟩)), (d11 : T 11 = .int .i64 ((num (sb D 4 4) : Nat) : Int)), (d19 : 2 ≤ n), -⟩ := hp
   obtain rfl : n = 2 := by omega
   have hk : RS w3 P w.heap.size (.slice (some ⟨g, o2, none⟩) nd cd) D ({ (x.pv (.slice none 0 0)) with fp := ((num (sb D 0 2) : Nat) : Int), tp := ((num (sb D 2 2) : Nat) : Int) }) wx := hC.1
   obtain ⟨-, -, -, -, -, -, -, -, -, -, -, -, -, -, c14, -, -, -, -, f0⟩ := PBlk.cells hk.p
   refine Op1.g fun _ Z => ?_; go_simp
   have hk0 := hk.set (PBlk.set_seq hk.p (((num (sb D 4 4) : Nat) : Int)))
   exact Z _ _ ⟨Nat.le_refl _, ⟨hk0, hC.2.trans (SS.set (n := 2) (n' := 3) hk.p 14 _ (by omega))⟩, (SS.set (n := 2) (n' := 3) hk.p 14 _ (by omega))⟩
  ·intro T wx n hC hn hp
   obtain ⟨e0, e1, e2, e3, e4, e5, e6, e7, e8, e9, e10, e11, e12, e13, e14, e15, e16, e17, e18, e19, e20, e21, -⟩ := hp
   refine Op1.g fun _ Z => ?_; go_simp; exact Z _ _ ⟨rfl, hC, sR⟩
  ·intro T wx n hC (hn : n ≤ 3) hp
   obtain ⟨(d22 : T 22 = .pointer (some ⟨P, 15, none⟩)), (d15 : T 15 = .int .i64 ((num (sb D 8 4) : Nat) : Int)), (d21 : 3 ≤ n), -⟩ := hp
   obtain rfl : n = 3 := by omega
   have hk : RS w3 P w.heap.size (.slice (some ⟨g, o2, none⟩) nd cd) D ({ (x.pv (.slice none 0 0)) with fp := ((num (sb D 0 2) : Nat) : Int), tp := ((num (sb D 2 2) : Nat) : Int), seq := ((num (sb D 4 4) : Nat) : Int) }) wx := hC.1
   obtain ⟨-, -, -, -, -, -, -, -, -, -, -, -, -, -, -, c15, -, -, -, f0⟩ := PBlk.cells hk.p
   refine Op1.g fun _ Z => ?_; go_simp
   have hk0 := hk.set (PBlk.set_ack hk.p (((num (sb D 8 4) : Nat) : Int)))
   exact Z _ _ ⟨Nat.le_refl _, ⟨hk0, hC.2.trans (SS.set (n := 3) (n' := 4) hk.p 15 _ (by omega))⟩, (SS.set (n := 3) (n' := 4) hk.p 15 _ (by omega))⟩
 case henda =>
  intro T wx ⟨n, hn, hC, hR⟩
  have hk : 4 ≤ n := hR 23 (by omega)
  obtain rfl : n = 4 := by omega
  have HSa : Hid (RS w3 P w.heap.size (.slice (some ⟨g, o2, none⟩) nd cd) D ({ (x.pv (.slice none 0 0)) with fp := ((num (sb D 0 2) : Nat) : Int), tp := ((num (sb D 2 2) : Nat) : Int), seq := ((num (sb D 4 4) : Nat) : Int), ack := ((num (sb D 8 4) : Nat) : Int) }) wx) := Lib.hid hC.1
  have HUa := Lib.hid hC.2
  clear hR hC
  simp only [List.drop_succ_cons, List.drop_zero]
  unfold wpList
  go_upto_region 17 with fail
  generalize wx = w4 at *
  clear HUa
  refine Lm.wp_region_seq 20 4 (fun p vv nn ww => (List.getD ((.val (.int .u8 (((ub D 13).toNat : Nat) : Int))) :: (.val (.int .u8 (bits .and .u8 (((ub D 13).toNat : Nat) : Int) 1))) :: (.val (.bool (flz D 13 1))) :: (.val (.int .u8 (((ub D 13).toNat : Nat) : Int))) :: (.val (.int .u8 (bits .and .u8 (((ub D 13).toNat : Nat) : Int) 2))) :: (.val (.bool (flz D 13 2))) :: (.val (.int .u8 (((ub D 13).toNat : Nat) : Int))) :: (.val (.int .u8 (bits .and .u8 (((ub D 13).toNat : Nat) : Int) 4))) :: (.val (.bool (flz D 13 4))) :: (.val (.int .u8 (((ub D 13).toNat : Nat) : Int))) :: (.val (.int .u8 (bits .and .u8 (((ub D 13).toNat : Nat) : Int) 16))) :: (.val (.bool (flz D 13 16))) :: (.val (.pointer (some ⟨P, 11, none⟩))) :: (.st 1) :: (.val (.pointer (some ⟨P, 10, none⟩))) :: (.st 2) :: (.val (.pointer (some ⟨P, 12, none⟩))) :: (.st 3) :: (.val (.pointer (some ⟨P, 13, none⟩))) :: (.st 4) :: [] : List Vd) p .any).R vv nn ww) (fun nn ww => RS w3 P w.heap.size (.slice (some ⟨g, o2, none⟩) nd cd) D (List.getD [({ (x.pv (.slice none 0 0)) with fp := ((num (sb D 0 2) : Nat) : Int), tp := ((num (sb D 2 2) : Nat) : Int), seq := ((num (sb D 4 4) : Nat) : Int), ack := ((num (sb D 8 4) : Nat) : Int) }), ({ (x.pv (.slice none 0 0)) with fp := ((num (sb D 0 2) : Nat) : Int), tp := ((num (sb D 2 2) : Nat) : Int), seq := ((num (sb D 4 4) : Nat) : Int), ack := ((num (sb D 8 4) : Nat) : Int), fin := (flz D 13 1) }), ({ (x.pv (.slice none 0 0)) with fp := ((num (sb D 0 2) : Nat) : Int), tp := ((num (sb D 2 2) : Nat) : Int), seq := ((num (sb D 4 4) : Nat) : Int), ack := ((num (sb D 8 4) : Nat) : Int), fin := (flz D 13 1), syn := (flz D 13 2) }), ({ (x.pv (.slice none 0 0)) with fp := ((num (sb D 0 2) : Nat) : Int), tp := ((num (sb D 2 2) : Nat) : Int), seq := ((num (sb D 4 4) : Nat) : Int), ack := ((num (sb D 8 4) : Nat) : Int), fin := (flz D 13 1), syn := (flz D 13 2), rst := (flz D 13 4) }), ({ (x.pv (.slice none 0 0)) with fp := ((num (sb D 0 2) : Nat) : Int), tp := ((num (sb D 2 2) : Nat) : Int), seq := ((num (sb D 4 4) : Nat) : Int), ack := ((num (sb D 8 4) : Nat) : Int), fin := (flz D 13 1), syn := (flz D 13 2), rst := (flz D 13 4), has := (flz D 13 16) })] nn ({ (x.pv (.slice none 0 0)) with fp := ((num (sb D 0 2) : Nat) : Int), tp := ((num (sb D 2 2) : Nat) : Int), seq := ((num (sb D 4 4) : Nat) : Int), ack := ((num (sb D 8 4) : Nat) : Int), fin := (flz D 13 1), syn := (flz D 13 2), rst := (flz D 13 4), has := (flz D 13 16) })) ww ∧ SS 0 w4 nn ww) SS (fun i => if i = 13 ∨ i = 15 ∨ i = 17 ∨ i = 19 then 1 else 0) (fun i => if i = 3 ∨ i = 4 ∨ i = 5 ∨ i = 14 ∨ i = 15 then 1 else if i = 6 ∨ i = 7 ∨ i = 8 ∨ i = 16 ∨ i = 17 then 2 else if i = 9 ∨ i = 10 ∨ i = 11 ∨ i = 18 ∨ i = 19 then 3 else 0)
   (by kernel_rfl) (by kernel_rfl) (by decide) (by kernel_rfl) (fun p vv nn ww n' w' h hs => Vd.keep _ h hs) (⟨HSa.out, sR⟩) ?hXb
  case' hXb => (apply Exists.intro; refine ⟨fun T => ?hAb, ?hobb, ?hendb⟩)
  case hAb =>
   simp only [setAll, List.take_succ_cons, List.take_zero, Act.put, List.setIfInBounds_toArray, List.set_cons_succ, List.set_cons_zero, Nat.reduceAdd]
   exact rfl
  case hobb =>
   refine ⟨?_, ?_, ?_, ?_, ?_, ?_, ?_, ?_, ?_, ?_, ?_, ?_, ?_, ?_, ?_, ?_, ?_, ?_, ?_, ?_, trivial⟩
   ·intro T wx n hC hn hp
    refine Op1.g fun _ Z => ?_; go_simp; exact Z _ _ ⟨rfl, hC, sR⟩
   ·intro T wx n hC hn hp
    obtain ⟨(d0 : T 0 = .int .u8 (((ub D 13).toNat : Nat) : Int)), -⟩ := hp
    refine Op1.g fun _ Z => ?_; go_simp; exact Z _ _ ⟨rfl, hC, sR⟩
   ·intro T wx n hC hn hp
    obtain ⟨(d1 : T 1 = .int .u8 (bits .and .u8 (((ub D 13).toNat : Nat) : Int) 1)), -⟩ := hp
    refine Op1.g fun _ Z => ?_; go_simp; first | exact Z _ _ ⟨congrArg Value.bool (fl_pos _ _), hC, sR⟩ | exact Z _ _ ⟨rfl, hC, sR⟩ | (refine Z _ _ ⟨congrArg Value.bool ?_, hC, sR⟩; simpa using fl_pos _ _)
   ·intro T wx n hC hn hp
    refine Op1.g fun _ Z => ?_; go_simp; exact Z _ _ ⟨rfl, hC, sR⟩
   ·intro T wx n hC hn hp
    obtain ⟨(d3 : T 3 = .int .u8 (((ub D 13).toNat : Nat) : Int)), -⟩ := hp
    refine Op1.g fun _ Z => ?_; go_simp; exact Z _ _ ⟨rfl, hC, sR⟩
   ·intro T wx n hC hn hp
    obtain ⟨(d4 : T 4 = .int .u8 (bits .and .u8 (((ub D 13).toNat : Nat) : Int) 2)), -⟩ := hp
    refine Op1.g fun _ Z => ?_; go_simp; first | exact Z _ _ ⟨congrArg Value.bool (fl_pos _ _), hC, sR⟩ | exact Z _ _ ⟨rfl, hC, sR⟩ | (refine Z _ _ ⟨congrArg Value.bool ?_, hC, sR⟩; simpa using fl_pos _ _)
   ·intro T wx n hC hn hp
    refine Op1.g fun _ Z => ?_; go_simp; exact Z _ _ ⟨rfl, hC, sR⟩
   ·intro T wx n hC hn hp
    obtain ⟨(d6 : T 6 = .int .u8 (((ub D 13).toNat : Nat) : Int)), -⟩ := hp
    refine Op1.g fun _ Z => ?_; go_simp; exact Z _ _ ⟨rfl, hC, sR⟩
   ·intro T wx n hC hn hp
    obtain ⟨(d7 : T 7 = .int .u8 (bits .and .u8 (((ub D 13).toNat : Nat) : Int) 4)), -⟩ := hp
    refine Op1.g fun _ Z => ?_; go_simp; first | exact Z _ _ ⟨congrArg Value.bool (fl_pos _ _), hC, sR⟩ | exact Z _ _ ⟨rfl, hC, sR⟩ | (refine Z _ _ ⟨congrArg Value.bool ?_, hC, sR⟩; simpa using fl_pos _ _)
   ·intro T wx n hC hn hp
    refine Op1.g fun _ Z => ?_; go_simp; exact Z _ _ ⟨rfl, hC, sR⟩
   ·intro T wx n hC hn hp
    obtain ⟨(d9 : T 9 = .int .u8 (((ub D 13).toNat : Nat) : Int)), -⟩ := hp
    refine Op1.g fun _ Z => ?_; go_simp; exact Z _ _ ⟨rfl, hC, sR⟩
   ·intro T wx n hC hn hp
    obtain ⟨(d10 : T 10 = .int .u8 (bits .and .u8 (((ub D 13).toNat : Nat) : Int) 16)), -⟩ := hp
    refine Op1.g fun _ Z => ?_; go_simp; first | exact Z _ _ ⟨congrArg Value.bool (fl_pos _ _), hC, sR⟩ | exact Z _ _ ⟨rfl, hC, sR⟩ | (refine Z _ _ ⟨congrArg Value.bool ?_, hC, sR⟩; simpa using fl_pos _ _)
   ·intro T wx n hC hn hp
    obtain ⟨e0, e1, e2, -⟩ := hp
    refine Op1.g fun _ Z => ?_; go_simp; exact Z _ _ ⟨rfl, hC, sR⟩
   ·intro T wx n hC (hn : n ≤ 0) hp
    obtain ⟨(d12 : T 12 = .pointer (some ⟨P, 11, none⟩)), (d2 : T 2 = .bool (flz D 13 1)), -⟩ := hp
    obtain rfl : n = 0 := by omega
    have hk : RS w3 P w.heap.size (.slice (some ⟨g, o2, none⟩) nd cd) D ({ (x.pv (.slice none 0 0)) with fp := ((num (sb D 0 2) : Nat) : Int), tp := ((num (sb D 2 2) : Nat) : Int), seq := ((num (sb D 4 4) : Nat) : Int), ack := ((num (sb D 8 4) : Nat) : Int) }) wx := hC.1
    obtain ⟨-, -, -, -, -, -, -, -, -, -, -, c11, -, -, -, -, -, -, -, f0⟩ := PBlk.cells hk.p
    refine Op1.g fun _ Z => ?_; go_simp
    have hk0 := hk.set (PBlk.set_fin hk.p ((flz D 13 1)))
    exact Z _ _ ⟨Nat.le_refl _, ⟨hk0, hC.2.trans (SS.set (n := 0) (n' := 1) hk.p 11 _ (by omega))⟩, (SS.set (n := 0) (n' := 1) hk.p 11 _ (by omega))⟩
   ·intro T wx n hC hn hp
    obtain ⟨e0, e1, e2, e3, e4, e5, e6, e7, -⟩ := hp
    refine Op1.g fun _ Z => ?_; go_simp; exact Z _ _ ⟨rfl, hC, sR⟩
   ·intro T wx n hC (hn : n ≤ 1) hp
    obtain ⟨(d14 : T 14 = .pointer (some ⟨P, 10, none⟩)), (d5 : T 5 = .bool (flz D 13 2)), (d13 : 1 ≤ n), -⟩ := hp
    obtain rfl : n = 1 := by omega
    have hk : RS w3 P w.heap.size (.slice (some ⟨g, o2, none⟩) nd cd) D ({ (x.pv (.slice none 0 0)) with fp := ((num (sb D 0 2) : Nat) : Int), tp := ((num (sb D 2 2) : Nat) : Int), seq := ((num (sb D 4 4) : Nat) : Int), ack := ((num (sb D 8 4) : Nat) : Int), fin := (flz D 13 1) }) wx := hC.1
    obtain ⟨-, -, -, -, -, -, -, -, -, -, c10, -, -, -, -, -, -, -, -, f0⟩ := PBlk.cells hk.p
    refine Op1.g fun _ Z => ?_; go_simp
    have hk0 := hk.set (PBlk.set_syn hk.p ((flz D 13 2)))
    exact Z _ _ ⟨Nat.le_refl _, ⟨hk0, hC.2.trans (SS.set (n := 1) (n' := 2) hk.p 10 _ (by omega))⟩, (SS.set (n := 1) (n' := 2) hk.p 10 _ (by omega))⟩
   ·intro T wx n hC hn hp
    obtain ⟨e0, e1, e2, e3, e4, e5, e6, e7, e8, e9, e10, e11, e12, -⟩ := hp
    refine Op1.g fun _ Z => ?_; go_simp; exact Z _ _ ⟨rfl, hC, sR⟩
   ·intro T wx n hC (hn : n ≤ 2) hp
    obtain ⟨(d16 : T 16 = .pointer (some ⟨P, 12, none⟩)), (d8 : T 8 = .bool (flz D 13 4)), (d15 : 2 ≤ n), -⟩ := hp
    obtain rfl : n = 2 := by omega
    have hk : RS w3 P w.heap.size (.slice (some ⟨g, o2, none⟩) nd cd) D ({ (x.pv (.slice none 0 0)) with fp := ((num (sb D 0 2) : Nat) : Int), tp := ((num (sb D 2 2) : Nat) : Int), seq := ((num (sb D 4 4) : Nat) : Int), ack := ((num (sb D 8 4) : Nat) : Int), fin := (flz D 13 1), syn := (flz D 13 2) }) wx := hC.1
    obtain ⟨-, -, -, -, -, -, -, -, -, -, -, -, c12, -, -, -, -, -, -, f0⟩ := PBlk.cells hk.p
    refine Op1.g fun _ Z => ?_; go_simp
    have hk0 := hk.set (PBlk.set_rst hk.p ((flz D 13 4)))
    exact Z _ _ ⟨Nat.le_refl _, ⟨hk0, hC.2.trans (SS.set (n := 2) (n' := 3) hk.p 12 _ (by omega))⟩, (SS.set (n := 2) (n' := 3) hk.p 12 _ (by omega))⟩
   ·intro T wx n hC hn hp
    obtain ⟨e0, e1, e2, e3, e4, e5, e6, e7, e8, e9, e10, e11, e12, e13, e14, e15, e16, e17, -⟩ := hp
    refine Op1.g fun _ Z => ?_; go_simp; exact Z _ _ ⟨rfl, hC, sR⟩
   ·intro T wx n hC (hn : n ≤ 3) hp
    obtain ⟨(d18 : T 18 = .pointer (some ⟨P, 13, none⟩)), (d11 : T 11 = .bool (flz D 13 16)), (d17 : 3 ≤ n), -⟩ := hp
    obtain rfl : n = 3 := by omega
    have hk : RS w3 P w.heap.size (.slice (some ⟨g, o2, none⟩) nd cd) D ({ (x.pv (.slice none 0 0)) with fp := ((num (sb D 0 2) : Nat) : Int), tp := ((num (sb D 2 2) : Nat) : Int), seq := ((num (sb D 4 4) : Nat) : Int), ack := ((num (sb D 8 4) : Nat) : Int), fin := (flz D 13 1), syn := (flz D 13 2), rst := (flz D 13 4) }) wx := hC.1
    obtain ⟨-, -, -, -, -, -, -, -, -, -, -, -, -, c13, -, -, -, -, -, f0⟩ := PBlk.cells hk.p
    refine Op1.g fun _ Z => ?_; go_simp
    have hk0 := hk.set (PBlk.set_has hk.p ((flz D 13 16)))
    exact Z _ _ ⟨Nat.le_refl _, ⟨hk0, hC.2.trans (SS.set (n := 3) (n' := 4) hk.p 13 _ (by omega))⟩, (SS.set (n := 3) (n' := 4) hk.p 13 _ (by omega))⟩
  case hendb =>
   intro T wx ⟨n, hn, hC, hR⟩
   have hk : 4 ≤ n := hR 19 (by omega)
   obtain rfl : n = 4 := by omega
   have HSb : Hid (RS w3 P w.heap.size (.slice (some ⟨g, o2, none⟩) nd cd) D ({ (x.pv (.slice none 0 0)) with fp := ((num (sb D 0 2) : Nat) : Int), tp := ((num (sb D 2 2) : Nat) : Int), seq := ((num (sb D 4 4) : Nat) : Int), ack := ((num (sb D 8 4) : Nat) : Int), fin := (flz D 13 1), syn := (flz D 13 2), rst := (flz D 13 4), has := (flz D 13 16) }) wx) := Lib.hid hC.1
   have HUb := Lib.hid hC.2
   clear hR hC
   simp only [List.drop_succ_cons, List.drop_zero]
   unfold wpList
   generalize wx = wa at *
   clear HUb HSa
   rcases Decidable.em (nd = 20) with hq | hq
   ·have Hnd := Lib.hid hq
    clear hq
    have c7 : (wa).cell? ⟨P, 7, none⟩ = some (.int .i64 6) := by
     obtain ⟨-, -, -, -, -, -, -, c7, -⟩ := PBlk.cells HSb.out.p
     refine c7.trans (congrArg (fun z => some (Value.int .i64 z)) ?_)
     show ((x.proto : Nat) : Int) = 6
     rw [hp]; rfl
    have hndy : ¬ ((nd : Int) > 20) := by have := Hnd.out; omega
    have hndw : ¬ ((20 : Int) < (nd : Int)) := by have := Hnd.out; omega
    obtain ⟨M, hM⟩ : ∃ M : List UInt8, M = [] := ⟨_, rfl⟩
    have HMl : Hid (M.length ≤ 1400) := Lib.hid (by rw [hM]; decide)
    have HM : Hid (M = D.drop 20) := Lib.hid (by rw [hM, List.drop_eq_nil_of_le (by rw [Hd.out]; have := Hnd.out; omega)])
    have HO7 : Hid (OwnB wa wa.heap.size (.slice none 0 0) M) := Lib.hid (by rw [hM]; exact OwnB.nil _ _)
    have HMn := Lib.hid hM
    clear hM
    go_upto_region 24 with fail
    generalize wa = w7 at *
    have HS7 := HSb
    clear HSb c7
    have H2 : Hid (((((x.proto : Nat) : Int) == 6) = true)) := Lib.hid (by rw [hp]; rfl)
    have HAk : Hid ((prtX x D).ack = num (sb D 8 4) ∧ (prtX x D).has = flz D 13 16) := Lib.hid (by unfold prtX; rw [if_pos hp]; exact ⟨rfl, rfl⟩)
    rcases Bool.eq_false_or_eq_true ((flz D 13 16)) with hh | hh
    ·have H9 : Hid ((flz D 13 16) = true) := Lib.hid hh
     have HA : Hid (¬ (x.proto = 6 ∧ (prtX x D).ack ≠ 0 ∧ (prtX x D).has = false)) := Lib.hid fun h => by
      have h3 := h.2.2
      rw [HAk.out.2, hh] at h3
      cases h3
     clear hh
     refine Lm.wp_region_seq 13 0 (fun p vv nn ww => (List.getD ((.val (.pointer (some ⟨P, 7, none⟩))) :: (.val (.int .i64 (((x.proto : Nat) : Int)))) :: (.val (.bool true)) :: (.val (.bool true)) :: (.val (.pointer (some ⟨P, 13, none⟩))) :: (.val (.bool true)) :: (.val (.bool false)) :: (.val (.bool false)) :: (.val (.bool false)) :: (.val (undef)) :: (.val (undef)) :: (.val (undef)) :: (.val (.bool false)) :: [] : List Vd) p .any).R vv nn ww) (fun _ ww => RS w3 P w.heap.size (.slice (some ⟨g, o2, none⟩) nd cd) D ({ (x.pv (.slice none 0 0)) with fp := ((num (sb D 0 2) : Nat) : Int), tp := ((num (sb D 2 2) : Nat) : Int), seq := ((num (sb D 4 4) : Nat) : Int), ack := ((num (sb D 8 4) : Nat) : Int), fin := (flz D 13 1), syn := (flz D 13 2), rst := (flz D 13 4), has := (flz D 13 16) }) ww ∧ Below w7.heap.size w7 ww) SS (fun _ => 0) (fun _ => 0)
      (by kernel_rfl) (by kernel_rfl) (by decide) (by kernel_rfl) (fun p vv nn ww n' w' h hs => Vd.keep _ h hs) (⟨HS7.out, Below.refl _ _⟩) ?hXt0
     case' hXt0 => (apply Exists.intro; refine ⟨fun T => ?hAt0, ?hobt0, ?hendt0⟩)
     case hAt0 =>
      simp only [setAll, List.take_succ_cons, List.take_zero, Act.put, List.setIfInBounds_toArray, List.set_cons_succ, List.set_cons_zero, Nat.reduceAdd]
      exact rfl
     case hobt0 =>
      refine ⟨?_, ?_, ?_, ?_, ?_, ?_, ?_, ?_, ?_, ?_, ?_, ?_, ?_, trivial⟩
      ·intro T wx n hC hn hp
       refine Op1.g fun _ Z => ?_; go_simp; exact Z _ _ ⟨rfl, hC, sR⟩
      ·intro T wx n hC hn hp
       obtain ⟨(d0 : T 0 = .pointer (some ⟨P, 7, none⟩)), -⟩ := hp
       have hk := hC.1
       obtain ⟨-, -, -, -, -, -, -, c7, -, -, -, -, -, -, -, -, -, -, -, f0⟩ := PBlk.cells hk.p
       refine Op1.g fun _ Z => ?_; go_simp; exact Z _ _ ⟨rfl, hC, sR⟩
      ·intro T wx n hC hn hp
       obtain ⟨(d1 : T 1 = .int .i64 (((x.proto : Nat) : Int))), -⟩ := hp
       refine Op1.g fun _ Z => ?_; go_simp; first | exact Z _ _ ⟨congrArg Value.bool (H2.out), hC, sR⟩ | exact Z _ _ ⟨rfl, hC, sR⟩ | (refine Z _ _ ⟨congrArg Value.bool ?_, hC, sR⟩; simpa using H2.out)
      ·intro T wx n hC hn hp
       obtain ⟨(d2 : T 2 = .bool true), -⟩ := hp
       refine Op1.g fun _ Z => ?_; go_simp; exact Z _ _ ⟨rfl, hC, sR⟩
      ·intro T wx n hC hn hp
       obtain ⟨(d3 : T 3 = .bool true), -⟩ := hp
       refine ⟨fun hT => ?_, fun hT => absurd d3 hT⟩
       refine Op1.g fun _ Z => ?_; go_simp; exact Z _ _ ⟨rfl, hC, sR⟩
      ·intro T wx n hC hn hp
       obtain ⟨(d4 : T 4 = .pointer (some ⟨P, 13, none⟩)), (d3 : T 3 = .bool true), -⟩ := hp
       refine ⟨fun hT => ?_, fun hT => absurd d3 hT⟩
       have hk := hC.1
       obtain ⟨-, -, -, -, -, -, -, -, -, -, -, -, -, c13, -, -, -, -, -, f0⟩ := PBlk.cells hk.p
       refine Op1.g fun _ Z => ?_; go_simp; first | exact Z _ _ ⟨congrArg Value.bool (H9.out), hC, sR⟩ | exact Z _ _ ⟨rfl, hC, sR⟩ | (refine Z _ _ ⟨congrArg Value.bool ?_, hC, sR⟩; simpa using H9.out)
      ·intro T wx n hC hn hp
       obtain ⟨(d5 : T 5 = .bool true), (d3 : T 3 = .bool true), -⟩ := hp
       refine ⟨fun hT => ?_, fun hT => absurd d3 hT⟩
       refine Op1.g fun _ Z => ?_; go_simp; exact Z _ _ ⟨rfl, hC, sR⟩
      ·intro T wx n hC hn hp
       obtain ⟨(d3 : T 3 = .bool true), (d6 : T 6 = .bool false), -⟩ := hp
       refine Op1.g fun _ Z => ?_; go_simp; exact Z _ _ ⟨rfl, hC, sR⟩
      ·intro T wx n hC hn hp
       obtain ⟨(d7 : T 7 = .bool false), -⟩ := hp
       refine Op1.g fun _ Z => ?_; go_simp; exact Z _ _ ⟨rfl, hC, sR⟩
      ·intro T wx n hC hn hp
       obtain ⟨(d8 : T 8 = .bool false), -⟩ := hp
       refine ⟨fun hT => ?_, fun hT => ⟨rfl, hC, sR⟩⟩
       rw [d8] at hT
       cases hT
      ·intro T wx n hC hn hp
       obtain ⟨-, (d8 : T 8 = .bool false), -⟩ := hp
       refine ⟨fun hT => ?_, fun hT => ⟨rfl, hC, sR⟩⟩
       rw [d8] at hT
       cases hT
      ·intro T wx n hC hn hp
       obtain ⟨-, (d8 : T 8 = .bool false), -⟩ := hp
       refine ⟨fun hT => ?_, fun hT => ⟨rfl, hC, sR⟩⟩
       rw [d8] at hT
       cases hT
      ·intro T wx n hC hn hp
       obtain ⟨(d8 : T 8 = .bool false), -⟩ := hp
       refine Op1.g fun _ Z => ?_; go_simp; exact Z _ _ ⟨rfl, hC, sR⟩
     case hendt0 =>
      intro T wx ⟨n, hn, hC, hR⟩
      have HSt0 := Lib.hid hC.1
      have HBt0 := Lib.hid hC.2
      have r132 : T 12 = .bool false := hR 12 (by omega)
      rw [r132]
      clear r132
      clear hR hC
      simp only [List.drop_succ_cons, List.drop_zero]
      unfold wpList
      go_upto_region 26 with fail
      generalize hwk : wx = wk at *
      have HOk : Hid (OwnB wk w7.heap.size (.slice none 0 0) M) := Lib.hid (own_later HO7.out HBt0.out)
      have hszk := HBt0.out.size
      clear HO7 HS7 HBt0 H2 hwk
      have Hy : (prtX x D).pv (.slice none 0 0) = { (x.pv (.slice none 0 0)) with fp := ((num (sb D 0 2) : Nat) : Int), tp := ((num (sb D 2 2) : Nat) : Int), seq := ((num (sb D 4 4) : Nat) : Int), ack := ((num (sb D 8 4) : Nat) : Int), fin := (flz D 13 1), syn := (flz D 13 2), rst := (flz D 13 4), has := (flz D 13 16) } := by
       unfold prtX
       rw [if_pos hp]
       first | rfl | (simp only [NP.pv]; first | rfl | (rw [← Hr.out]))
      have HSy : Hid (RS w3 P w.heap.size (.slice (some ⟨g, o2, none⟩) nd cd) D ((prtX x D).pv (.slice none 0 0)) wk) := by rw [Hy]; exact HSt0
      have hyf : (prtX x D).fit := prtX_fit hxf D
      have hyp : (prtX x D).proto = 6 := by rw [prtX_proto]; exact hp
      have Hk : Hid (prtOk x D ↔ partB (prtX x D) M = setSum D 16 0) := Lib.hid (by
       unfold prtOk
       rw [show leastN x.proto = 20 by rw [hp]; rfl, show sumAtN x.proto = 16 by rw [hp]; rfl, ← HM.out]
       exact ⟨fun h => h.2.2, fun h => ⟨by rw [Hd.out]; omega, (HA.out), h⟩⟩)
      have HZ : Hid (rdX L = prtX x D) := Lib.hid (by unfold rdX; rw [HX.out, HD.out])
      have HW : Hid (rdPay L = M) := Lib.hid (by unfold rdPay; rw [HX.out, HD.out, hp, HM.out]; rfl)
      obtain ⟨y, hy⟩ : ∃ y, prtX x D = y := ⟨_, rfl⟩
      rw [hy] at HSy hyf hyp Hk HZ
      clear hy Hy HSt0 HAk
      have Hpl : Hid ((partB y M).length ≤ 1420) := Lib.hid (by have := HMl.out; rw [partB_len]; unfold leastN; split <;> omega)
      have hpart : Calls Try.prog 64 #[.agg (y.pv (.slice none 0 0)).cells] wk fun e w' => ∃ v, e = .returned (.tuple #[v, .int .i64 ((sumAtN y.proto : Nat) : Int)]) ∧ OwnB w' wk.heap.size v (partB y M) ∧ Below wk.heap.size wk w' := by
       have hM := HMn.out
       subst hM
       exact part_any y hyf none 0 [] wk (OwnB.rb HOk.out (by have := HMl.out; omega)) (by have := HMl.out; omega)
      have HPt := Lib.hid hpart
      clear hpart
      go_wp2_with (refine wpList_load_row rfl 45 (.tmp 4) rfl P rfl 45 (y.pv (.slice none 0 0)).cells (0, 0) _ HSy.out.p Try.underlying45 rfl (by kernel_rfl) ?_)
      refine HPt.out.mono ?_
      rintro e w5 ⟨v5, rfl, hO5, hB5⟩
      have HS5 := Lib.hid (HSy.out.later hB5)
      have HO5 := Lib.hid hO5
      have HB5 := Lib.hid hB5
      have hsz5 := hB5.size
      clear hO5 hB5 HPt
      go_wp2_with fail
      refine (cloneB_rb HS5.out.rb (by rw [Hd.out]; omega)).mono ?_
      rintro e w6 ⟨v6, rfl, hO6, hB6⟩
      have HS6 := Lib.hid (HS5.out.later hB6)
      have HB6 := Lib.hid (HB5.out.trans (hB6.mono hsz5))
      have HR5 : Hid (Rb w5.heap.size w6 v5 (partB y M)) := Lib.hid ((HO5.out.rb (by have := Hpl.out; omega)).below hB6)
      have hsz6 := hB6.size
      obtain ⟨g6, c6, rfl, hg6, hl6, hd6, hm6⟩ := hO6.slice1 (by rw [Hd.out]; omega)
      have HO6 : Hid (OwnB w6 w5.heap.size (.slice (some ⟨g6, 0, none⟩) D.length c6) D) := Lib.hid hO6
      clear hO6 hB6
      have hf := HO6.out.frozen
      have hcl := HO6.out.get
      have HO8 := Lib.hid (show OwnB ((w6.setCell ⟨g6, 16, none⟩ (.int .u8 0)).setCell ⟨g6, 17, none⟩ (.int .u8 0)) w5.heap.size (.slice (some ⟨g6, 0, none⟩) D.length c6) (setSum D 16 0) from HO6.out.zero2 16 (by rw [Hd.out]; omega))
      rw [show D.length = nd from Hd.out] at hcl HO8 hd6
      rw [show D.length = nd from Hd.out]
      obtain ⟨y1, hc1'⟩ : ∃ y, w6.cell? ⟨g6, 16, none⟩ = some (encB y) := ⟨_, hcl 16 (by omega)⟩
      obtain ⟨y2, hc2'⟩ : ∃ y, w6.cell? ⟨g6, 17, none⟩ = some (encB y) := ⟨_, hcl 17 (by omega)⟩
      clear hcl
      go_upto_region 29 with fail
      have HB8 : Hid (Below w5.heap.size w6 ((w6.setCell ⟨g6, 16, none⟩ (.int .u8 0)).setCell ⟨g6, 17, none⟩ (.int .u8 0))) := Lib.hid (((Below.refl _ _).setCell hg6 _).setCell hg6 _)
      generalize (w6.setCell ⟨g6, 16, none⟩ (.int .u8 0)).setCell ⟨g6, 17, none⟩ (.int .u8 0) = w8 at *
      have hsz8 := HB8.out.size
      have HBk8 := Lib.hid (HB6.out.trans (HB8.out.mono hsz5))
      have HR8 := Lib.hid (HR5.out.below HB8.out)
      clear HB6 HB5 HS6 HO6 hf hc1' hc2' HR5
      go_wp2_with fail
      refine (equal_rb HR8.out (HO8.out.rb (by rw [setSum_len, Hd.out]; omega))).mono ?_
      rintro e w9 ⟨rfl, hB9⟩
      have HBk9 := Lib.hid (HBk8.out.trans (hB9.mono (by omega)))
      have HS9 := Lib.hid (HSy.out.later HBk9.out)
      have HO9 := Lib.hid (own_later HOk.out HBk9.out)
      obtain ⟨z, hz⟩ : ∃ z, decide (partB y M = setSum D 16 0) = z := ⟨_, rfl⟩
      rw [hz]
      have HZz := Lib.hid hz
      clear hz hB9 HO8 HR8 HBk8 HO5 HS5
      cases z with
      | false =>
       have hno : ¬ prtOk x D := fun h => of_decide_eq_false HZz.out (Hk.out.1 h)
       have Hno := Lib.hid hno
       clear hno
       have HAr := Lib.hid (grown_blk HS9.out.g HA3.out (by omega))
       go_wp2_with (refine wpList_store_row rfl 45 (.tmp 2) (.tmp 153) rfl w.heap.size PV.zero.cells rfl rfl 45 PV.zero.cells HAr.out (by kernel_rfl) rfl (PV.zero.one rfl) ?_)
       refine bodyPost_ret (v := .tuple #[.agg PV.zero.cells, .int .i64 3]) (results_cr2 Try.results30 _ _ w.heap.size 45 PV.zero.cells (0, 0) _ rfl (setRow_heap _ _ _ _ _ _ HAr.out) Try.underlying45 rfl (by kernel_rfl) rfl) rfl ?_
       exact PktR.bad (k := 3) (below_setRow (grown_to_below HB3.out HS9.out.g (by omega) (by omega)) (Nat.le_refl _) _) (rdE_part He.out (by rw [HX.out, HD.out]; exact Hno.out)) (by decide) rfl
      | true =>
       have Hok : Hid (prtOk (headX L) (rdBody L)) := Lib.hid (by rw [HX.out, HD.out]; exact Hk.out.2 (of_decide_eq_true HZz.out))
       have Hag : Hid (pktB y M = L ↔ sumOk L) := Lib.hid (by
        have h := again L 3 15 4 (by decide) (by decide) (by decide) He.out Hok.out
        rwa [HZ.out, HW.out] at h)
       obtain ⟨-, -, -, -, -, -, -, -, -, -, -, -, -, -, -, -, -, -, c18, f0⟩ := PBlk.cells HS9.out.p
       replace c18 : w9.cell? ⟨P, 18, none⟩ = some (.slice none 0 0) := c18
       have hml : ¬ ((1400 : Int) < (M.length : Int)) := by have := HMl.out; omega
       have hpb : Calls Try.prog 24 #[.agg (y.pv (.slice none 0 0)).cells] w9 fun e w' => ∃ v, e = .returned v ∧ OwnB w' w9.heap.size v (pktB y M) ∧ Below w9.heap.size w9 w' := by
        have hM := HMn.out
        subst hM
        exact pktBytes_any y hyf none 0 [] w9 (OwnB.rb HO9.out (by have := HMl.out; omega)) (by have := HMl.out; omega)
       have HPb := Lib.hid hpb
       clear hpb
       go_wp2_with (refine wpList_load_row rfl 45 (.tmp 4) rfl P rfl 45 (y.pv (.slice none 0 0)).cells (0, 0) _ HS9.out.p Try.underlying45 rfl (by kernel_rfl) ?_)
       refine HPb.out.mono ?_
       rintro e w10 ⟨v10, rfl, hO10, hB10⟩
       have HS10 := Lib.hid (HS9.out.later hB10)
       have HO10 := Lib.hid hO10
       have HOv := Lib.hid (own_later HO9.out hB10)
       have HRb : Hid (Rb w.heap.size w10 (.slice (some ⟨g, o, none⟩) nb c) L) := Lib.hid (HR.out.below (grown_to_below HB3.out HS10.out.g (by omega) (by omega)))
       clear hO10 hB10 HPb c18 f0
       go_wp2_with fail
       refine (equal_rb (HO10.out.rb (pktB_len hyf HMl.out)) HRb.out).mono ?_
       rintro e w11 ⟨rfl, hB11⟩
       have HS11 := Lib.hid (HS10.out.later hB11)
       have HOw := Lib.hid (own_later HOv.out hB11)
       have HA11 := Lib.hid (grown_blk HS11.out.g HA3.out (by omega))
       obtain ⟨z, hz⟩ : ∃ z, decide (pktB y M = L) = z := ⟨_, rfl⟩
       rw [hz]
       have HZ2 := Lib.hid hz
       clear hz hB11 HS10 HO10 HOv HRb
       cases z with
       | false =>
        have Hns : Hid (¬ sumOk L) := Lib.hid fun h => of_decide_eq_false HZ2.out (Hag.out.2 h)
        have HAr := Lib.hid (grown_blk HS11.out.g HA3.out (by omega))
        go_wp2_with (refine wpList_store_row rfl 45 (.tmp 2) (.tmp 166) rfl w.heap.size PV.zero.cells rfl rfl 45 PV.zero.cells HAr.out (by kernel_rfl) rfl (PV.zero.one rfl) ?_)
        refine bodyPost_ret (v := .tuple #[.agg PV.zero.cells, .int .i64 15]) (results_cr2 Try.results30 _ _ w.heap.size 45 PV.zero.cells (0, 0) _ rfl (setRow_heap _ _ _ _ _ _ HAr.out) Try.underlying45 rfl (by kernel_rfl) rfl) rfl ?_
        exact PktR.bad (k := 15) (below_setRow (grown_to_below HB3.out HS11.out.g (by omega) (by omega)) (Nat.le_refl _) _) (rdE_sum He.out Hok.out Hns.out) (by decide) rfl
       | true =>
        have hone : (y.pv (.slice none 0 0)).cells.all (·.oneCell') = true := PV.one _ rfl
        go_wp2_with (first | (refine wpList_load_row rfl 45 (.tmp 4) rfl P rfl 45 (y.pv (.slice none 0 0)).cells (0, 0) _ HS11.out.p Try.underlying45 rfl (by kernel_rfl) ?_) | (refine wpList_store_row rfl 45 (.tmp 2) (.tmp 167) rfl w.heap.size (y.pv (.slice none 0 0)).cells rfl rfl 45 PV.zero.cells HA11.out (by kernel_rfl) rfl hone ?_))
        refine bodyPost_ret (v := .tuple #[.agg (y.pv (.slice none 0 0)).cells, .int .i64 0]) (results_cr2 Try.results30 _ _ w.heap.size 45 (y.pv (.slice none 0 0)).cells (0, 0) _ rfl (setRow_heap _ _ _ _ _ _ HA11.out) Try.underlying45 rfl (by kernel_rfl) rfl) rfl ?_
        refine ⟨below_setRow (grown_to_below HB3.out HS11.out.g (by omega) (by omega)) (Nat.le_refl _) _, .inl ⟨rdE_ok He.out Hok.out (Hag.out.1 (of_decide_eq_true HZ2.out)), _, by rw [HZ.out], ?_⟩⟩
        rw [HW.out]
        have HOx : OwnB w11 w7.heap.size (.slice none 0 0) M := HOw.out
        exact (HOx.setRow HA11.out _).rb (by have := HMl.out; omega)
    ·have H9 : Hid ((flz D 13 16) = false) := Lib.hid hh
     clear hh
     rcases Decidable.em (num (sb D 8 4) = 0) with hk | hk
     ·have H4 : Hid ((((num (sb D 8 4) : Nat) : Int) != 0) = false) := Lib.hid (by rw [hk]; rfl)
      have HA : Hid (¬ (x.proto = 6 ∧ (prtX x D).ack ≠ 0 ∧ (prtX x D).has = false)) := Lib.hid fun h => h.2.1 (by rw [HAk.out.1]; exact hk)
      clear hk
      refine Lm.wp_region_seq 13 0 (fun p vv nn ww => (List.getD ((.val (.pointer (some ⟨P, 7, none⟩))) :: (.val (.int .i64 (((x.proto : Nat) : Int)))) :: (.val (.bool true)) :: (.val (.bool true)) :: (.val (.pointer (some ⟨P, 13, none⟩))) :: (.val (.bool false)) :: (.val (.bool true)) :: (.val (.bool true)) :: (.val (.bool true)) :: (.val (.pointer (some ⟨P, 15, none⟩))) :: (.val (.int .i64 (((num (sb D 8 4) : Nat) : Int)))) :: (.val (.bool false)) :: (.val (.bool false)) :: [] : List Vd) p .any).R vv nn ww) (fun _ ww => RS w3 P w.heap.size (.slice (some ⟨g, o2, none⟩) nd cd) D ({ (x.pv (.slice none 0 0)) with fp := ((num (sb D 0 2) : Nat) : Int), tp := ((num (sb D 2 2) : Nat) : Int), seq := ((num (sb D 4 4) : Nat) : Int), ack := ((num (sb D 8 4) : Nat) : Int), fin := (flz D 13 1), syn := (flz D 13 2), rst := (flz D 13 4), has := (flz D 13 16) }) ww ∧ Below w7.heap.size w7 ww) SS (fun _ => 0) (fun _ => 0)
       (by kernel_rfl) (by kernel_rfl) (by decide) (by kernel_rfl) (fun p vv nn ww n' w' h hs => Vd.keep _ h hs) (⟨HS7.out, Below.refl _ _⟩) ?hXu0
      case' hXu0 => (apply Exists.intro; refine ⟨fun T => ?hAu0, ?hobu0, ?hendu0⟩)
      case hAu0 =>
       simp only [setAll, List.take_succ_cons, List.take_zero, Act.put, List.setIfInBounds_toArray, List.set_cons_succ, List.set_cons_zero, Nat.reduceAdd]
       exact rfl
      case hobu0 =>
       refine ⟨?_, ?_, ?_, ?_, ?_, ?_, ?_, ?_, ?_, ?_, ?_, ?_, ?_, trivial⟩
       ·intro T wx n hC hn hp
        refine Op1.g fun _ Z => ?_; go_simp; exact Z _ _ ⟨rfl, hC, sR⟩
       ·intro T wx n hC hn hp
        obtain ⟨(d0 : T 0 = .pointer (some ⟨P, 7, none⟩)), -⟩ := hp
        have hk := hC.1
        obtain ⟨-, -, -, -, -, -, -, c7, -, -, -, -, -, -, -, -, -, -, -, f0⟩ := PBlk.cells hk.p
        refine Op1.g fun _ Z => ?_; go_simp; exact Z _ _ ⟨rfl, hC, sR⟩
       ·intro T wx n hC hn hp
        obtain ⟨(d1 : T 1 = .int .i64 (((x.proto : Nat) : Int))), -⟩ := hp
        refine Op1.g fun _ Z => ?_; go_simp; first | exact Z _ _ ⟨congrArg Value.bool (H2.out), hC, sR⟩ | exact Z _ _ ⟨rfl, hC, sR⟩ | (refine Z _ _ ⟨congrArg Value.bool ?_, hC, sR⟩; simpa using H2.out)
       ·intro T wx n hC hn hp
        obtain ⟨(d2 : T 2 = .bool true), -⟩ := hp
        refine Op1.g fun _ Z => ?_; go_simp; exact Z _ _ ⟨rfl, hC, sR⟩
       ·intro T wx n hC hn hp
        obtain ⟨(d3 : T 3 = .bool true), -⟩ := hp
        refine ⟨fun hT => ?_, fun hT => absurd d3 hT⟩
        refine Op1.g fun _ Z => ?_; go_simp; exact Z _ _ ⟨rfl, hC, sR⟩
       ·intro T wx n hC hn hp
        obtain ⟨(d4 : T 4 = .pointer (some ⟨P, 13, none⟩)), (d3 : T 3 = .bool true), -⟩ := hp
        refine ⟨fun hT => ?_, fun hT => absurd d3 hT⟩
        have hk := hC.1
        obtain ⟨-, -, -, -, -, -, -, -, -, -, -, -, -, c13, -, -, -, -, -, f0⟩ := PBlk.cells hk.p
        refine Op1.g fun _ Z => ?_; go_simp; first | exact Z _ _ ⟨congrArg Value.bool (H9.out), hC, sR⟩ | exact Z _ _ ⟨rfl, hC, sR⟩ | (refine Z _ _ ⟨congrArg Value.bool ?_, hC, sR⟩; simpa using H9.out)
       ·intro T wx n hC hn hp
        obtain ⟨(d5 : T 5 = .bool false), (d3 : T 3 = .bool true), -⟩ := hp
        refine ⟨fun hT => ?_, fun hT => absurd d3 hT⟩
        refine Op1.g fun _ Z => ?_; go_simp; exact Z _ _ ⟨rfl, hC, sR⟩
       ·intro T wx n hC hn hp
        obtain ⟨(d3 : T 3 = .bool true), (d6 : T 6 = .bool true), -⟩ := hp
        refine Op1.g fun _ Z => ?_; go_simp; exact Z _ _ ⟨rfl, hC, sR⟩
       ·intro T wx n hC hn hp
        obtain ⟨(d7 : T 7 = .bool true), -⟩ := hp
        refine Op1.g fun _ Z => ?_; go_simp; exact Z _ _ ⟨rfl, hC, sR⟩
       ·intro T wx n hC hn hp
        obtain ⟨(d8 : T 8 = .bool true), -⟩ := hp
        refine ⟨fun hT => ?_, fun hT => absurd d8 hT⟩
        refine Op1.g fun _ Z => ?_; go_simp; exact Z _ _ ⟨rfl, hC, sR⟩
       ·intro T wx n hC hn hp
        obtain ⟨(d9 : T 9 = .pointer (some ⟨P, 15, none⟩)), (d8 : T 8 = .bool true), -⟩ := hp
        refine ⟨fun hT => ?_, fun hT => absurd d8 hT⟩
        have hk := hC.1
        obtain ⟨-, -, -, -, -, -, -, -, -, -, -, -, -, -, -, c15, -, -, -, f0⟩ := PBlk.cells hk.p
        refine Op1.g fun _ Z => ?_; go_simp; exact Z _ _ ⟨rfl, hC, sR⟩
       ·intro T wx n hC hn hp
        obtain ⟨(d10 : T 10 = .int .i64 (((num (sb D 8 4) : Nat) : Int))), (d8 : T 8 = .bool true), -⟩ := hp
        refine ⟨fun hT => ?_, fun hT => absurd d8 hT⟩
        refine Op1.g fun _ Z => ?_; go_simp; first | exact Z _ _ ⟨congrArg Value.bool (H4.out), hC, sR⟩ | exact Z _ _ ⟨rfl, hC, sR⟩ | (refine Z _ _ ⟨congrArg Value.bool ?_, hC, sR⟩; simpa using H4.out)
       ·intro T wx n hC hn hp
        obtain ⟨(d8 : T 8 = .bool true), (d11 : T 11 = .bool false), -⟩ := hp
        refine Op1.g fun _ Z => ?_; go_simp; exact Z _ _ ⟨rfl, hC, sR⟩
      case hendu0 =>
       intro T wx ⟨n, hn, hC, hR⟩
       have HSu0 := Lib.hid hC.1
       have HBu0 := Lib.hid hC.2
       have r132 : T 12 = .bool false := hR 12 (by omega)
       rw [r132]
       clear r132
       clear hR hC
       simp only [List.drop_succ_cons, List.drop_zero]
       unfold wpList
       go_upto_region 26 with fail
       generalize hwk : wx = wk at *
       have HOk : Hid (OwnB wk w7.heap.size (.slice none 0 0) M) := Lib.hid (own_later HO7.out HBu0.out)
       have hszk := HBu0.out.size
       clear HO7 HS7 HBu0 H2 hwk
       have Hy : (prtX x D).pv (.slice none 0 0) = { (x.pv (.slice none 0 0)) with fp := ((num (sb D 0 2) : Nat) : Int), tp := ((num (sb D 2 2) : Nat) : Int), seq := ((num (sb D 4 4) : Nat) : Int), ack := ((num (sb D 8 4) : Nat) : Int), fin := (flz D 13 1), syn := (flz D 13 2), rst := (flz D 13 4), has := (flz D 13 16) } := by
        unfold prtX
        rw [if_pos hp]
        first | rfl | (simp only [NP.pv]; first | rfl | (rw [← Hr.out]))
       have HSy : Hid (RS w3 P w.heap.size (.slice (some ⟨g, o2, none⟩) nd cd) D ((prtX x D).pv (.slice none 0 0)) wk) := by rw [Hy]; exact HSu0
       have hyf : (prtX x D).fit := prtX_fit hxf D
       have hyp : (prtX x D).proto = 6 := by rw [prtX_proto]; exact hp
       have Hk : Hid (prtOk x D ↔ partB (prtX x D) M = setSum D 16 0) := Lib.hid (by
        unfold prtOk
        rw [show leastN x.proto = 20 by rw [hp]; rfl, show sumAtN x.proto = 16 by rw [hp]; rfl, ← HM.out]
        exact ⟨fun h => h.2.2, fun h => ⟨by rw [Hd.out]; omega, (HA.out), h⟩⟩)
       have HZ : Hid (rdX L = prtX x D) := Lib.hid (by unfold rdX; rw [HX.out, HD.out])
       have HW : Hid (rdPay L = M) := Lib.hid (by unfold rdPay; rw [HX.out, HD.out, hp, HM.out]; rfl)
       obtain ⟨y, hy⟩ : ∃ y, prtX x D = y := ⟨_, rfl⟩
       rw [hy] at HSy hyf hyp Hk HZ
       clear hy Hy HSu0 HAk
       have Hpl : Hid ((partB y M).length ≤ 1420) := Lib.hid (by have := HMl.out; rw [partB_len]; unfold leastN; split <;> omega)
       have hpart : Calls Try.prog 64 #[.agg (y.pv (.slice none 0 0)).cells] wk fun e w' => ∃ v, e = .returned (.tuple #[v, .int .i64 ((sumAtN y.proto : Nat) : Int)]) ∧ OwnB w' wk.heap.size v (partB y M) ∧ Below wk.heap.size wk w' := by
        have hM := HMn.out
        subst hM
        exact part_any y hyf none 0 [] wk (OwnB.rb HOk.out (by have := HMl.out; omega)) (by have := HMl.out; omega)
       have HPt := Lib.hid hpart
       clear hpart
       go_wp2_with (refine wpList_load_row rfl 45 (.tmp 4) rfl P rfl 45 (y.pv (.slice none 0 0)).cells (0, 0) _ HSy.out.p Try.underlying45 rfl (by kernel_rfl) ?_)
       refine HPt.out.mono ?_
       rintro e w5 ⟨v5, rfl, hO5, hB5⟩
       have HS5 := Lib.hid (HSy.out.later hB5)
       have HO5 := Lib.hid hO5
       have HB5 := Lib.hid hB5
       have hsz5 := hB5.size
       clear hO5 hB5 HPt
       go_wp2_with fail
       refine (cloneB_rb HS5.out.rb (by rw [Hd.out]; omega)).mono ?_
       rintro e w6 ⟨v6, rfl, hO6, hB6⟩
       have HS6 := Lib.hid (HS5.out.later hB6)
       have HB6 := Lib.hid (HB5.out.trans (hB6.mono hsz5))
       have HR5 : Hid (Rb w5.heap.size w6 v5 (partB y M)) := Lib.hid ((HO5.out.rb (by have := Hpl.out; omega)).below hB6)
       have hsz6 := hB6.size
       obtain ⟨g6, c6, rfl, hg6, hl6, hd6, hm6⟩ := hO6.slice1 (by rw [Hd.out]; omega)
       have HO6 : Hid (OwnB w6 w5.heap.size (.slice (some ⟨g6, 0, none⟩) D.length c6) D) := Lib.hid hO6
       clear hO6 hB6
       have hf := HO6.out.frozen
       have hcl := HO6.out.get
       have HO8 := Lib.hid (show OwnB ((w6.setCell ⟨g6, 16, none⟩ (.int .u8 0)).setCell ⟨g6, 17, none⟩ (.int .u8 0)) w5.heap.size (.slice (some ⟨g6, 0, none⟩) D.length c6) (setSum D 16 0) from HO6.out.zero2 16 (by rw [Hd.out]; omega))
       rw [show D.length = nd from Hd.out] at hcl HO8 hd6
       rw [show D.length = nd from Hd.out]
       obtain ⟨y1, hc1'⟩ : ∃ y, w6.cell? ⟨g6, 16, none⟩ = some (encB y) := ⟨_, hcl 16 (by omega)⟩
       obtain ⟨y2, hc2'⟩ : ∃ y, w6.cell? ⟨g6, 17, none⟩ = some (encB y) := ⟨_, hcl 17 (by omega)⟩
       clear hcl
       go_upto_region 29 with fail
       have HB8 : Hid (Below w5.heap.size w6 ((w6.setCell ⟨g6, 16, none⟩ (.int .u8 0)).setCell ⟨g6, 17, none⟩ (.int .u8 0))) := Lib.hid (((Below.refl _ _).setCell hg6 _).setCell hg6 _)
       generalize (w6.setCell ⟨g6, 16, none⟩ (.int .u8 0)).setCell ⟨g6, 17, none⟩ (.int .u8 0) = w8 at *
       have hsz8 := HB8.out.size
       have HBk8 := Lib.hid (HB6.out.trans (HB8.out.mono hsz5))
       have HR8 := Lib.hid (HR5.out.below HB8.out)
       clear HB6 HB5 HS6 HO6 hf hc1' hc2' HR5
       go_wp2_with fail
       refine (equal_rb HR8.out (HO8.out.rb (by rw [setSum_len, Hd.out]; omega))).mono ?_
       rintro e w9 ⟨rfl, hB9⟩
       have HBk9 := Lib.hid (HBk8.out.trans (hB9.mono (by omega)))
       have HS9 := Lib.hid (HSy.out.later HBk9.out)
       have HO9 := Lib.hid (own_later HOk.out HBk9.out)
       obtain ⟨z, hz⟩ : ∃ z, decide (partB y M = setSum D 16 0) = z := ⟨_, rfl⟩
       rw [hz]
       have HZz := Lib.hid hz
       clear hz hB9 HO8 HR8 HBk8 HO5 HS5
       cases z with
       | false =>
        have hno : ¬ prtOk x D := fun h => of_decide_eq_false HZz.out (Hk.out.1 h)
        have Hno := Lib.hid hno
        clear hno
        have HAr := Lib.hid (grown_blk HS9.out.g HA3.out (by omega))
        go_wp2_with (refine wpList_store_row rfl 45 (.tmp 2) (.tmp 153) rfl w.heap.size PV.zero.cells rfl rfl 45 PV.zero.cells HAr.out (by kernel_rfl) rfl (PV.zero.one rfl) ?_)
        refine bodyPost_ret (v := .tuple #[.agg PV.zero.cells, .int .i64 3]) (results_cr2 Try.results30 _ _ w.heap.size 45 PV.zero.cells (0, 0) _ rfl (setRow_heap _ _ _ _ _ _ HAr.out) Try.underlying45 rfl (by kernel_rfl) rfl) rfl ?_
        exact PktR.bad (k := 3) (below_setRow (grown_to_below HB3.out HS9.out.g (by omega) (by omega)) (Nat.le_refl _) _) (rdE_part He.out (by rw [HX.out, HD.out]; exact Hno.out)) (by decide) rfl
       | true =>
        have Hok : Hid (prtOk (headX L) (rdBody L)) := Lib.hid (by rw [HX.out, HD.out]; exact Hk.out.2 (of_decide_eq_true HZz.out))
        have Hag : Hid (pktB y M = L ↔ sumOk L) := Lib.hid (by
         have h := again L 3 15 4 (by decide) (by decide) (by decide) He.out Hok.out
         rwa [HZ.out, HW.out] at h)
        obtain ⟨-, -, -, -, -, -, -, -, -, -, -, -, -, -, -, -, -, -, c18, f0⟩ := PBlk.cells HS9.out.p
        replace c18 : w9.cell? ⟨P, 18, none⟩ = some (.slice none 0 0) := c18
        have hml : ¬ ((1400 : Int) < (M.length : Int)) := by have := HMl.out; omega
        have hpb : Calls Try.prog 24 #[.agg (y.pv (.slice none 0 0)).cells] w9 fun e w' => ∃ v, e = .returned v ∧ OwnB w' w9.heap.size v (pktB y M) ∧ Below w9.heap.size w9 w' := by
         have hM := HMn.out
         subst hM
         exact pktBytes_any y hyf none 0 [] w9 (OwnB.rb HO9.out (by have := HMl.out; omega)) (by have := HMl.out; omega)
        have HPb := Lib.hid hpb
        clear hpb
        go_wp2_with (refine wpList_load_row rfl 45 (.tmp 4) rfl P rfl 45 (y.pv (.slice none 0 0)).cells (0, 0) _ HS9.out.p Try.underlying45 rfl (by kernel_rfl) ?_)
        refine HPb.out.mono ?_
        rintro e w10 ⟨v10, rfl, hO10, hB10⟩
        have HS10 := Lib.hid (HS9.out.later hB10)
        have HO10 := Lib.hid hO10
        have HOv := Lib.hid (own_later HO9.out hB10)
        have HRb : Hid (Rb w.heap.size w10 (.slice (some ⟨g, o, none⟩) nb c) L) := Lib.hid (HR.out.below (grown_to_below HB3.out HS10.out.g (by omega) (by omega)))
        clear hO10 hB10 HPb c18 f0
        go_wp2_with fail
        refine (equal_rb (HO10.out.rb (pktB_len hyf HMl.out)) HRb.out).mono ?_
        rintro e w11 ⟨rfl, hB11⟩
        have HS11 := Lib.hid (HS10.out.later hB11)
        have HOw := Lib.hid (own_later HOv.out hB11)
        have HA11 := Lib.hid (grown_blk HS11.out.g HA3.out (by omega))
        obtain ⟨z, hz⟩ : ∃ z, decide (pktB y M = L) = z := ⟨_, rfl⟩
        rw [hz]
        have HZ2 := Lib.hid hz
        clear hz hB11 HS10 HO10 HOv HRb
        cases z with
        | false =>
         have Hns : Hid (¬ sumOk L) := Lib.hid fun h => of_decide_eq_false HZ2.out (Hag.out.2 h)
         have HAr := Lib.hid (grown_blk HS11.out.g HA3.out (by omega))
         go_wp2_with (refine wpList_store_row rfl 45 (.tmp 2) (.tmp 166) rfl w.heap.size PV.zero.cells rfl rfl 45 PV.zero.cells HAr.out (by kernel_rfl) rfl (PV.zero.one rfl) ?_)
         refine bodyPost_ret (v := .tuple #[.agg PV.zero.cells, .int .i64 15]) (results_cr2 Try.results30 _ _ w.heap.size 45 PV.zero.cells (0, 0) _ rfl (setRow_heap _ _ _ _ _ _ HAr.out) Try.underlying45 rfl (by kernel_rfl) rfl) rfl ?_
         exact PktR.bad (k := 15) (below_setRow (grown_to_below HB3.out HS11.out.g (by omega) (by omega)) (Nat.le_refl _) _) (rdE_sum He.out Hok.out Hns.out) (by decide) rfl
        | true =>
         have hone : (y.pv (.slice none 0 0)).cells.all (·.oneCell') = true := PV.one _ rfl
         go_wp2_with (first | (refine wpList_load_row rfl 45 (.tmp 4) rfl P rfl 45 (y.pv (.slice none 0 0)).cells (0, 0) _ HS11.out.p Try.underlying45 rfl (by kernel_rfl) ?_) | (refine wpList_store_row rfl 45 (.tmp 2) (.tmp 167) rfl w.heap.size (y.pv (.slice none 0 0)).cells rfl rfl 45 PV.zero.cells HA11.out (by kernel_rfl) rfl hone ?_))
         refine bodyPost_ret (v := .tuple #[.agg (y.pv (.slice none 0 0)).cells, .int .i64 0]) (results_cr2 Try.results30 _ _ w.heap.size 45 (y.pv (.slice none 0 0)).cells (0, 0) _ rfl (setRow_heap _ _ _ _ _ _ HA11.out) Try.underlying45 rfl (by kernel_rfl) rfl) rfl ?_
         refine ⟨below_setRow (grown_to_below HB3.out HS11.out.g (by omega) (by omega)) (Nat.le_refl _) _, .inl ⟨rdE_ok He.out Hok.out (Hag.out.1 (of_decide_eq_true HZ2.out)), _, by rw [HZ.out], ?_⟩⟩
         rw [HW.out]
         have HOx : OwnB w11 w7.heap.size (.slice none 0 0) M := HOw.out
         exact (HOx.setRow HA11.out _).rb (by have := HMl.out; omega)
     ·have H4 : Hid ((((num (sb D 8 4) : Nat) : Int) != 0) = true) := Lib.hid (by rw [bne_iff_ne]; intro e; exact hk (Int.ofNat.inj e))
      have Hk0 := Lib.hid hk
      clear hk
      refine Lm.wp_region_seq 13 0 (fun p vv nn ww => (List.getD ((.val (.pointer (some ⟨P, 7, none⟩))) :: (.val (.int .i64 (((x.proto : Nat) : Int)))) :: (.val (.bool true)) :: (.val (.bool true)) :: (.val (.pointer (some ⟨P, 13, none⟩))) :: (.val (.bool false)) :: (.val (.bool true)) :: (.val (.bool true)) :: (.val (.bool true)) :: (.val (.pointer (some ⟨P, 15, none⟩))) :: (.val (.int .i64 (((num (sb D 8 4) : Nat) : Int)))) :: (.val (.bool true)) :: (.val (.bool true)) :: [] : List Vd) p .any).R vv nn ww) (fun _ ww => RS w3 P w.heap.size (.slice (some ⟨g, o2, none⟩) nd cd) D ({ (x.pv (.slice none 0 0)) with fp := ((num (sb D 0 2) : Nat) : Int), tp := ((num (sb D 2 2) : Nat) : Int), seq := ((num (sb D 4 4) : Nat) : Int), ack := ((num (sb D 8 4) : Nat) : Int), fin := (flz D 13 1), syn := (flz D 13 2), rst := (flz D 13 4), has := (flz D 13 16) }) ww ∧ Below w7.heap.size w7 ww) SS (fun _ => 0) (fun _ => 0)
       (by kernel_rfl) (by kernel_rfl) (by decide) (by kernel_rfl) (fun p vv nn ww n' w' h hs => Vd.keep _ h hs) (⟨HS7.out, Below.refl _ _⟩) ?hXv0
      case' hXv0 => (apply Exists.intro; refine ⟨fun T => ?hAv0, ?hobv0, ?hendv0⟩)
      case hAv0 =>
       simp only [setAll, List.take_succ_cons, List.take_zero, Act.put, List.setIfInBounds_toArray, List.set_cons_succ, List.set_cons_zero, Nat.reduceAdd]
       exact rfl
      case hobv0 =>
       refine ⟨?_, ?_, ?_, ?_, ?_, ?_, ?_, ?_, ?_, ?_, ?_, ?_, ?_, trivial⟩
       ·intro T wx n hC hn hp
        refine Op1.g fun _ Z => ?_; go_simp; exact Z _ _ ⟨rfl, hC, sR⟩
       ·intro T wx n hC hn hp
        obtain ⟨(d0 : T 0 = .pointer (some ⟨P, 7, none⟩)), -⟩ := hp
        have hk := hC.1
        obtain ⟨-, -, -, -, -, -, -, c7, -, -, -, -, -, -, -, -, -, -, -, f0⟩ := PBlk.cells hk.p
        refine Op1.g fun _ Z => ?_; go_simp; exact Z _ _ ⟨rfl, hC, sR⟩
       ·intro T wx n hC hn hp
        obtain ⟨(d1 : T 1 = .int .i64 (((x.proto : Nat) : Int))), -⟩ := hp
        refine Op1.g fun _ Z => ?_; go_simp; first | exact Z _ _ ⟨congrArg Value.bool (H2.out), hC, sR⟩ | exact Z _ _ ⟨rfl, hC, sR⟩ | (refine Z _ _ ⟨congrArg Value.bool ?_, hC, sR⟩; simpa using H2.out)
       ·intro T wx n hC hn hp
        obtain ⟨(d2 : T 2 = .bool true), -⟩ := hp
        refine Op1.g fun _ Z => ?_; go_simp; exact Z _ _ ⟨rfl, hC, sR⟩
       ·intro T wx n hC hn hp
        obtain ⟨(d3 : T 3 = .bool true), -⟩ := hp
        refine ⟨fun hT => ?_, fun hT => absurd d3 hT⟩
        refine Op1.g fun _ Z => ?_; go_simp; exact Z _ _ ⟨rfl, hC, sR⟩
       ·intro T wx n hC hn hp
        obtain ⟨(d4 : T 4 = .pointer (some ⟨P, 13, none⟩)), (d3 : T 3 = .bool true), -⟩ := hp
        refine ⟨fun hT => ?_, fun hT => absurd d3 hT⟩
        have hk := hC.1
        obtain ⟨-, -, -, -, -, -, -, -, -, -, -, -, -, c13, -, -, -, -, -, f0⟩ := PBlk.cells hk.p
        refine Op1.g fun _ Z => ?_; go_simp; first | exact Z _ _ ⟨congrArg Value.bool (H9.out), hC, sR⟩ | exact Z _ _ ⟨rfl, hC, sR⟩ | (refine Z _ _ ⟨congrArg Value.bool ?_, hC, sR⟩; simpa using H9.out)
       ·intro T wx n hC hn hp
        obtain ⟨(d5 : T 5 = .bool false), (d3 : T 3 = .bool true), -⟩ := hp
        refine ⟨fun hT => ?_, fun hT => absurd d3 hT⟩
        refine Op1.g fun _ Z => ?_; go_simp; exact Z _ _ ⟨rfl, hC, sR⟩
       ·intro T wx n hC hn hp
        obtain ⟨(d3 : T 3 = .bool true), (d6 : T 6 = .bool true), -⟩ := hp
        refine Op1.g fun _ Z => ?_; go_simp; exact Z _ _ ⟨rfl, hC, sR⟩
       ·intro T wx n hC hn hp
        obtain ⟨(d7 : T 7 = .bool true), -⟩ := hp
        refine Op1.g fun _ Z => ?_; go_simp; exact Z _ _ ⟨rfl, hC, sR⟩
       ·intro T wx n hC hn hp
        obtain ⟨(d8 : T 8 = .bool true), -⟩ := hp
        refine ⟨fun hT => ?_, fun hT => absurd d8 hT⟩
        refine Op1.g fun _ Z => ?_; go_simp; exact Z _ _ ⟨rfl, hC, sR⟩
       ·intro T wx n hC hn hp
        obtain ⟨(d9 : T 9 = .pointer (some ⟨P, 15, none⟩)), (d8 : T 8 = .bool true), -⟩ := hp
        refine ⟨fun hT => ?_, fun hT => absurd d8 hT⟩
        have hk := hC.1
        obtain ⟨-, -, -, -, -, -, -, -, -, -, -, -, -, -, -, c15, -, -, -, f0⟩ := PBlk.cells hk.p
        refine Op1.g fun _ Z => ?_; go_simp; exact Z _ _ ⟨rfl, hC, sR⟩
       ·intro T wx n hC hn hp
        obtain ⟨(d10 : T 10 = .int .i64 (((num (sb D 8 4) : Nat) : Int))), (d8 : T 8 = .bool true), -⟩ := hp
        refine ⟨fun hT => ?_, fun hT => absurd d8 hT⟩
        refine Op1.g fun _ Z => ?_; go_simp; first | exact Z _ _ ⟨congrArg Value.bool (H4.out), hC, sR⟩ | exact Z _ _ ⟨rfl, hC, sR⟩ | (refine Z _ _ ⟨congrArg Value.bool ?_, hC, sR⟩; simpa using H4.out)
       ·intro T wx n hC hn hp
        obtain ⟨(d8 : T 8 = .bool true), (d11 : T 11 = .bool true), -⟩ := hp
        refine Op1.g fun _ Z => ?_; go_simp; exact Z _ _ ⟨rfl, hC, sR⟩
      case hendv0 =>
       intro T wx ⟨n, hn, hC, hR⟩
       have HSv0 := Lib.hid hC.1
       have HBv0 := Lib.hid hC.2
       have r132 : T 12 = .bool true := hR 12 (by omega)
       rw [r132]
       clear r132
       clear hR hC
       simp only [List.drop_succ_cons, List.drop_zero]
       unfold wpList
       have HAr := Lib.hid (grown_blk HSv0.out.g HA3.out (by omega))
       go_wp2_with (refine wpList_store_row rfl 45 (.tmp 2) (.tmp 133) rfl w.heap.size PV.zero.cells rfl rfl 45 PV.zero.cells HAr.out (by kernel_rfl) rfl (PV.zero.one rfl) ?_)
       refine bodyPost_ret (v := .tuple #[.agg PV.zero.cells, .int .i64 3]) (results_cr2 Try.results30 _ _ w.heap.size 45 PV.zero.cells (0, 0) _ rfl (setRow_heap _ _ _ _ _ _ HAr.out) Try.underlying45 rfl (by kernel_rfl) rfl) rfl ?_
       exact PktR.bad (k := 3) (below_setRow (grown_to_below HB3.out HSv0.out.g (by omega) (by omega)) (Nat.le_refl _) _) (rdE_part He.out (by rw [HX.out, HD.out]; exact fun h => h.2.1 ⟨hp, by rw [HAk.out.1]; exact Hk0.out, by rw [HAk.out.2]; exact H9.out⟩)) (by decide) rfl
   ·have Hnd := Lib.hid hq
    clear hq
    have c7 : (wa).cell? ⟨P, 7, none⟩ = some (.int .i64 6) := by
     obtain ⟨-, -, -, -, -, -, -, c7, -⟩ := PBlk.cells HSb.out.p
     refine c7.trans (congrArg (fun z => some (Value.int .i64 z)) ?_)
     show ((x.proto : Nat) : Int) = 6
     rw [hp]; rfl
    have hndy : ((nd : Int) > 20) := by have := Hnd.out; omega
    have hndw : (20 : Int) < (nd : Int) := by have := Hnd.out; omega
    obtain ⟨-, -, -, -, -, -, -, -, -, -, -, -, -, -, -, -, -, -, c18, f0⟩ := PBlk.cells HSb.out.p
    go_wp2_with (refine wpList_op1 rfl (Op1.slice_l (l := 20) (.tmp 115) (.tmp 116) rfl rfl rfl (by omega) ?_))
    refine (cloneSub HSb.out.rb (by omega) (by omega)).mono ?_
    rintro e w6 ⟨v6, rfl, hO, hB6⟩
    obtain ⟨M, hM⟩ : ∃ M, M = D.drop 20 := ⟨_, rfl⟩
    rw [← hM] at hO
    have HMl : Hid (M.length ≤ 1400) := Lib.hid (by rw [hM, List.length_drop, Hd.out]; omega)
    have HM := Lib.hid hM
    clear hM c18 f0
    obtain ⟨pa, pc, rfl, -⟩ := OwnB.rb hO (by have := HMl.out; omega)
    have HS6 := Lib.hid (HSb.out.later hB6)
    have HO6 := Lib.hid hO
    have hsz5 := HSb.out.g.size
    clear hO hB6 c7 HSb
    have HS7 : Hid (RS w3 P w.heap.size (.slice (some ⟨g, o2, none⟩) nd cd) D { (x.pv (.slice pa M.length pc)) with fp := ((num (sb D 0 2) : Nat) : Int), tp := ((num (sb D 2 2) : Nat) : Int), seq := ((num (sb D 4 4) : Nat) : Int), ack := ((num (sb D 8 4) : Nat) : Int), fin := (flz D 13 1), syn := (flz D 13 2), rst := (flz D 13 4), has := (flz D 13 16) } (w6.setCell ⟨P, 18, none⟩ (.slice pa M.length pc))) := Lib.hid (HS6.out.set (PBlk.set_pay HS6.out.p (.slice pa M.length pc)))
    have HO7 := Lib.hid (OwnB.setCell HO6.out HS6.out.p 18 (.slice pa M.length pc))
    obtain ⟨-, -, -, -, -, -, -, -, -, -, -, -, -, -, -, -, -, -, c18, f0⟩ := PBlk.cells HS6.out.p
    have c7 : (w6).cell? ⟨P, 7, none⟩ = some (.int .i64 6) := by
     obtain ⟨-, -, -, -, -, -, -, c7, -⟩ := PBlk.cells HS6.out.p
     refine c7.trans (congrArg (fun z => some (Value.int .i64 z)) ?_)
     show ((x.proto : Nat) : Int) = 6
     rw [hp]; rfl
    go_upto_region 24 with fail
    generalize w6.setCell ⟨P, 18, none⟩ (.slice pa M.length pc) = w7 at *
    clear HS6 HO6 c18 f0 c7
    have H2 : Hid (((((x.proto : Nat) : Int) == 6) = true)) := Lib.hid (by rw [hp]; rfl)
    have HAk : Hid ((prtX x D).ack = num (sb D 8 4) ∧ (prtX x D).has = flz D 13 16) := Lib.hid (by unfold prtX; rw [if_pos hp]; exact ⟨rfl, rfl⟩)
    rcases Bool.eq_false_or_eq_true ((flz D 13 16)) with hh | hh
    ·have H9 : Hid ((flz D 13 16) = true) := Lib.hid hh
     have HA : Hid (¬ (x.proto = 6 ∧ (prtX x D).ack ≠ 0 ∧ (prtX x D).has = false)) := Lib.hid fun h => by
      have h3 := h.2.2
      rw [HAk.out.2, hh] at h3
      cases h3
     clear hh
     refine Lm.wp_region_seq 13 0 (fun p vv nn ww => (List.getD ((.val (.pointer (some ⟨P, 7, none⟩))) :: (.val (.int .i64 (((x.proto : Nat) : Int)))) :: (.val (.bool true)) :: (.val (.bool true)) :: (.val (.pointer (some ⟨P, 13, none⟩))) :: (.val (.bool true)) :: (.val (.bool false)) :: (.val (.bool false)) :: (.val (.bool false)) :: (.val (undef)) :: (.val (undef)) :: (.val (undef)) :: (.val (.bool false)) :: [] : List Vd) p .any).R vv nn ww) (fun _ ww => RS w3 P w.heap.size (.slice (some ⟨g, o2, none⟩) nd cd) D ({ (x.pv (.slice pa M.length pc)) with fp := ((num (sb D 0 2) : Nat) : Int), tp := ((num (sb D 2 2) : Nat) : Int), seq := ((num (sb D 4 4) : Nat) : Int), ack := ((num (sb D 8 4) : Nat) : Int), fin := (flz D 13 1), syn := (flz D 13 2), rst := (flz D 13 4), has := (flz D 13 16) }) ww ∧ Below w7.heap.size w7 ww) SS (fun _ => 0) (fun _ => 0)
      (by kernel_rfl) (by kernel_rfl) (by decide) (by kernel_rfl) (fun p vv nn ww n' w' h hs => Vd.keep _ h hs) (⟨HS7.out, Below.refl _ _⟩) ?hXt1
     case' hXt1 => (apply Exists.intro; refine ⟨fun T => ?hAt1, ?hobt1, ?hendt1⟩)
     case hAt1 =>
      simp only [setAll, List.take_succ_cons, List.take_zero, Act.put, List.setIfInBounds_toArray, List.set_cons_succ, List.set_cons_zero, Nat.reduceAdd]
      exact rfl
     case hobt1 =>
      refine ⟨?_, ?_, ?_, ?_, ?_, ?_, ?_, ?_, ?_, ?_, ?_, ?_, ?_, trivial⟩
      ·intro T wx n hC hn hp
       refine Op1.g fun _ Z => ?_; go_simp; exact Z _ _ ⟨rfl, hC, sR⟩
      ·intro T wx n hC hn hp
       obtain ⟨(d0 : T 0 = .pointer (some ⟨P, 7, none⟩)), -⟩ := hp
       have hk := hC.1
       obtain ⟨-, -, -, -, -, -, -, c7, -, -, -, -, -, -, -, -, -, -, -, f0⟩ := PBlk.cells hk.p
       refine Op1.g fun _ Z => ?_; go_simp; exact Z _ _ ⟨rfl, hC, sR⟩
      ·intro T wx n hC hn hp
       obtain ⟨(d1 : T 1 = .int .i64 (((x.proto : Nat) : Int))), -⟩ := hp
       refine Op1.g fun _ Z => ?_; go_simp; first | exact Z _ _ ⟨congrArg Value.bool (H2.out), hC, sR⟩ | exact Z _ _ ⟨rfl, hC, sR⟩ | (refine Z _ _ ⟨congrArg Value.bool ?_, hC, sR⟩; simpa using H2.out)
      ·intro T wx n hC hn hp
       obtain ⟨(d2 : T 2 = .bool true), -⟩ := hp
       refine Op1.g fun _ Z => ?_; go_simp; exact Z _ _ ⟨rfl, hC, sR⟩
      ·intro T wx n hC hn hp
       obtain ⟨(d3 : T 3 = .bool true), -⟩ := hp
       refine ⟨fun hT => ?_, fun hT => absurd d3 hT⟩
       refine Op1.g fun _ Z => ?_; go_simp; exact Z _ _ ⟨rfl, hC, sR⟩
      ·intro T wx n hC hn hp
       obtain ⟨(d4 : T 4 = .pointer (some ⟨P, 13, none⟩)), (d3 : T 3 = .bool true), -⟩ := hp
       refine ⟨fun hT => ?_, fun hT => absurd d3 hT⟩
       have hk := hC.1
       obtain ⟨-, -, -, -, -, -, -, -, -, -, -, -, -, c13, -, -, -, -, -, f0⟩ := PBlk.cells hk.p
       refine Op1.g fun _ Z => ?_; go_simp; first | exact Z _ _ ⟨congrArg Value.bool (H9.out), hC, sR⟩ | exact Z _ _ ⟨rfl, hC, sR⟩ | (refine Z _ _ ⟨congrArg Value.bool ?_, hC, sR⟩; simpa using H9.out)
      ·intro T wx n hC hn hp
       obtain ⟨(d5 : T 5 = .bool true), (d3 : T 3 = .bool true), -⟩ := hp
       refine ⟨fun hT => ?_, fun hT => absurd d3 hT⟩
       refine Op1.g fun _ Z => ?_; go_simp; exact Z _ _ ⟨rfl, hC, sR⟩
      ·intro T wx n hC hn hp
       obtain ⟨(d3 : T 3 = .bool true), (d6 : T 6 = .bool false), -⟩ := hp
       refine Op1.g fun _ Z => ?_; go_simp; exact Z _ _ ⟨rfl, hC, sR⟩
      ·intro T wx n hC hn hp
       obtain ⟨(d7 : T 7 = .bool false), -⟩ := hp
       refine Op1.g fun _ Z => ?_; go_simp; exact Z _ _ ⟨rfl, hC, sR⟩
      ·intro T wx n hC hn hp
       obtain ⟨(d8 : T 8 = .bool false), -⟩ := hp
       refine ⟨fun hT => ?_, fun hT => ⟨rfl, hC, sR⟩⟩
       rw [d8] at hT
       cases hT
      ·intro T wx n hC hn hp
       obtain ⟨-, (d8 : T 8 = .bool false), -⟩ := hp
       refine ⟨fun hT => ?_, fun hT => ⟨rfl, hC, sR⟩⟩
       rw [d8] at hT
       cases hT
      ·intro T wx n hC hn hp
       obtain ⟨-, (d8 : T 8 = .bool false), -⟩ := hp
       refine ⟨fun hT => ?_, fun hT => ⟨rfl, hC, sR⟩⟩
       rw [d8] at hT
       cases hT
      ·intro T wx n hC hn hp
       obtain ⟨(d8 : T 8 = .bool false), -⟩ := hp
       refine Op1.g fun _ Z => ?_; go_simp; exact Z _ _ ⟨rfl, hC, sR⟩
     case hendt1 =>
      intro T wx ⟨n, hn, hC, hR⟩
      have HSt1 := Lib.hid hC.1
      have HBt1 := Lib.hid hC.2
      have r132 : T 12 = .bool false := hR 12 (by omega)
      rw [r132]
      clear r132
      clear hR hC
      simp only [List.drop_succ_cons, List.drop_zero]
      unfold wpList
      go_upto_region 26 with fail
      generalize hwk : wx = wk at *
      have HOk : Hid (OwnB wk wa.heap.size (.slice pa M.length pc) M) := Lib.hid (own_later HO7.out HBt1.out)
      have hszk := HBt1.out.size
      clear HO7 HS7 HBt1 H2 hwk
      have Hy : (prtX x D).pv (.slice pa M.length pc) = { (x.pv (.slice pa M.length pc)) with fp := ((num (sb D 0 2) : Nat) : Int), tp := ((num (sb D 2 2) : Nat) : Int), seq := ((num (sb D 4 4) : Nat) : Int), ack := ((num (sb D 8 4) : Nat) : Int), fin := (flz D 13 1), syn := (flz D 13 2), rst := (flz D 13 4), has := (flz D 13 16) } := by
       unfold prtX
       rw [if_pos hp]
       first | rfl | (simp only [NP.pv]; first | rfl | (rw [← Hr.out]))
      have HSy : Hid (RS w3 P w.heap.size (.slice (some ⟨g, o2, none⟩) nd cd) D ((prtX x D).pv (.slice pa M.length pc)) wk) := by rw [Hy]; exact HSt1
      have hyf : (prtX x D).fit := prtX_fit hxf D
      have hyp : (prtX x D).proto = 6 := by rw [prtX_proto]; exact hp
      have Hk : Hid (prtOk x D ↔ partB (prtX x D) M = setSum D 16 0) := Lib.hid (by
       unfold prtOk
       rw [show leastN x.proto = 20 by rw [hp]; rfl, show sumAtN x.proto = 16 by rw [hp]; rfl, ← HM.out]
       exact ⟨fun h => h.2.2, fun h => ⟨by rw [Hd.out]; omega, (HA.out), h⟩⟩)
      have HZ : Hid (rdX L = prtX x D) := Lib.hid (by unfold rdX; rw [HX.out, HD.out])
      have HW : Hid (rdPay L = M) := Lib.hid (by unfold rdPay; rw [HX.out, HD.out, hp, HM.out]; rfl)
      obtain ⟨y, hy⟩ : ∃ y, prtX x D = y := ⟨_, rfl⟩
      rw [hy] at HSy hyf hyp Hk HZ
      clear hy Hy HSt1 HAk
      have Hpl : Hid ((partB y M).length ≤ 1420) := Lib.hid (by have := HMl.out; rw [partB_len]; unfold leastN; split <;> omega)
      have hpart : Calls Try.prog 64 #[.agg (y.pv (.slice pa M.length pc)).cells] wk fun e w' => ∃ v, e = .returned (.tuple #[v, .int .i64 ((sumAtN y.proto : Nat) : Int)]) ∧ OwnB w' wk.heap.size v (partB y M) ∧ Below wk.heap.size wk w' := by
       exact part_any y hyf pa pc M wk (OwnB.rb HOk.out (by have := HMl.out; omega)) (by have := HMl.out; omega)
      have HPt := Lib.hid hpart
      clear hpart
      go_wp2_with (refine wpList_load_row rfl 45 (.tmp 4) rfl P rfl 45 (y.pv (.slice pa M.length pc)).cells (0, 0) _ HSy.out.p Try.underlying45 rfl (by kernel_rfl) ?_)
      refine HPt.out.mono ?_
      rintro e w5 ⟨v5, rfl, hO5, hB5⟩
      have HS5 := Lib.hid (HSy.out.later hB5)
      have HO5 := Lib.hid hO5
      have HB5 := Lib.hid hB5
      have hsz5 := hB5.size
      clear hO5 hB5 HPt
      go_wp2_with fail
      refine (cloneB_rb HS5.out.rb (by rw [Hd.out]; omega)).mono ?_
      rintro e w6 ⟨v6, rfl, hO6, hB6⟩
      have HS6 := Lib.hid (HS5.out.later hB6)
      have HB6 := Lib.hid (HB5.out.trans (hB6.mono hsz5))
      have HR5 : Hid (Rb w5.heap.size w6 v5 (partB y M)) := Lib.hid ((HO5.out.rb (by have := Hpl.out; omega)).below hB6)
      have hsz6 := hB6.size
      obtain ⟨g6, c6, rfl, hg6, hl6, hd6, hm6⟩ := hO6.slice1 (by rw [Hd.out]; omega)
      have HO6 : Hid (OwnB w6 w5.heap.size (.slice (some ⟨g6, 0, none⟩) D.length c6) D) := Lib.hid hO6
      clear hO6 hB6
      have hf := HO6.out.frozen
      have hcl := HO6.out.get
      have HO8 := Lib.hid (show OwnB ((w6.setCell ⟨g6, 16, none⟩ (.int .u8 0)).setCell ⟨g6, 17, none⟩ (.int .u8 0)) w5.heap.size (.slice (some ⟨g6, 0, none⟩) D.length c6) (setSum D 16 0) from HO6.out.zero2 16 (by rw [Hd.out]; omega))
      rw [show D.length = nd from Hd.out] at hcl HO8 hd6
      rw [show D.length = nd from Hd.out]
      obtain ⟨y1, hc1'⟩ : ∃ y, w6.cell? ⟨g6, 16, none⟩ = some (encB y) := ⟨_, hcl 16 (by omega)⟩
      obtain ⟨y2, hc2'⟩ : ∃ y, w6.cell? ⟨g6, 17, none⟩ = some (encB y) := ⟨_, hcl 17 (by omega)⟩
      clear hcl
      go_upto_region 29 with fail
      have HB8 : Hid (Below w5.heap.size w6 ((w6.setCell ⟨g6, 16, none⟩ (.int .u8 0)).setCell ⟨g6, 17, none⟩ (.int .u8 0))) := Lib.hid (((Below.refl _ _).setCell hg6 _).setCell hg6 _)
      generalize (w6.setCell ⟨g6, 16, none⟩ (.int .u8 0)).setCell ⟨g6, 17, none⟩ (.int .u8 0) = w8 at *
      have hsz8 := HB8.out.size
      have HBk8 := Lib.hid (HB6.out.trans (HB8.out.mono hsz5))
      have HR8 := Lib.hid (HR5.out.below HB8.out)
      clear HB6 HB5 HS6 HO6 hf hc1' hc2' HR5
      go_wp2_with fail
      refine (equal_rb HR8.out (HO8.out.rb (by rw [setSum_len, Hd.out]; omega))).mono ?_
      rintro e w9 ⟨rfl, hB9⟩
      have HBk9 := Lib.hid (HBk8.out.trans (hB9.mono (by omega)))
      have HS9 := Lib.hid (HSy.out.later HBk9.out)
      have HO9 := Lib.hid (own_later HOk.out HBk9.out)
      obtain ⟨z, hz⟩ : ∃ z, decide (partB y M = setSum D 16 0) = z := ⟨_, rfl⟩
      rw [hz]
      have HZz := Lib.hid hz
      clear hz hB9 HO8 HR8 HBk8 HO5 HS5
      cases z with
      | false =>
       have hno : ¬ prtOk x D := fun h => of_decide_eq_false HZz.out (Hk.out.1 h)
       have Hno := Lib.hid hno
       clear hno
       have HAr := Lib.hid (grown_blk HS9.out.g HA3.out (by omega))
       go_wp2_with (refine wpList_store_row rfl 45 (.tmp 2) (.tmp 153) rfl w.heap.size PV.zero.cells rfl rfl 45 PV.zero.cells HAr.out (by kernel_rfl) rfl (PV.zero.one rfl) ?_)
       refine bodyPost_ret (v := .tuple #[.agg PV.zero.cells, .int .i64 3]) (results_cr2 Try.results30 _ _ w.heap.size 45 PV.zero.cells (0, 0) _ rfl (setRow_heap _ _ _ _ _ _ HAr.out) Try.underlying45 rfl (by kernel_rfl) rfl) rfl ?_
       exact PktR.bad (k := 3) (below_setRow (grown_to_below HB3.out HS9.out.g (by omega) (by omega)) (Nat.le_refl _) _) (rdE_part He.out (by rw [HX.out, HD.out]; exact Hno.out)) (by decide) rfl
      | true =>
       have Hok : Hid (prtOk (headX L) (rdBody L)) := Lib.hid (by rw [HX.out, HD.out]; exact Hk.out.2 (of_decide_eq_true HZz.out))
       have Hag : Hid (pktB y M = L ↔ sumOk L) := Lib.hid (by
        have h := again L 3 15 4 (by decide) (by decide) (by decide) He.out Hok.out
        rwa [HZ.out, HW.out] at h)
       obtain ⟨-, -, -, -, -, -, -, -, -, -, -, -, -, -, -, -, -, -, c18, f0⟩ := PBlk.cells HS9.out.p
       replace c18 : w9.cell? ⟨P, 18, none⟩ = some (.slice pa M.length pc) := c18
       have hml : ¬ ((1400 : Int) < (M.length : Int)) := by have := HMl.out; omega
       have hpb : Calls Try.prog 24 #[.agg (y.pv (.slice pa M.length pc)).cells] w9 fun e w' => ∃ v, e = .returned v ∧ OwnB w' w9.heap.size v (pktB y M) ∧ Below w9.heap.size w9 w' := by
        exact pktBytes_any y hyf pa pc M w9 (OwnB.rb HO9.out (by have := HMl.out; omega)) (by have := HMl.out; omega)
       have HPb := Lib.hid hpb
       clear hpb
       go_wp2_with (refine wpList_load_row rfl 45 (.tmp 4) rfl P rfl 45 (y.pv (.slice pa M.length pc)).cells (0, 0) _ HS9.out.p Try.underlying45 rfl (by kernel_rfl) ?_)
       refine HPb.out.mono ?_
       rintro e w10 ⟨v10, rfl, hO10, hB10⟩
       have HS10 := Lib.hid (HS9.out.later hB10)
       have HO10 := Lib.hid hO10
       have HOv := Lib.hid (own_later HO9.out hB10)
       have HRb : Hid (Rb w.heap.size w10 (.slice (some ⟨g, o, none⟩) nb c) L) := Lib.hid (HR.out.below (grown_to_below HB3.out HS10.out.g (by omega) (by omega)))
       clear hO10 hB10 HPb c18 f0
       go_wp2_with fail
       refine (equal_rb (HO10.out.rb (pktB_len hyf HMl.out)) HRb.out).mono ?_
       rintro e w11 ⟨rfl, hB11⟩
       have HS11 := Lib.hid (HS10.out.later hB11)
       have HOw := Lib.hid (own_later HOv.out hB11)
       have HA11 := Lib.hid (grown_blk HS11.out.g HA3.out (by omega))
       obtain ⟨z, hz⟩ : ∃ z, decide (pktB y M = L) = z := ⟨_, rfl⟩
       rw [hz]
       have HZ2 := Lib.hid hz
       clear hz hB11 HS10 HO10 HOv HRb
       cases z with
       | false =>
        have Hns : Hid (¬ sumOk L) := Lib.hid fun h => of_decide_eq_false HZ2.out (Hag.out.2 h)
        have HAr := Lib.hid (grown_blk HS11.out.g HA3.out (by omega))
        go_wp2_with (refine wpList_store_row rfl 45 (.tmp 2) (.tmp 166) rfl w.heap.size PV.zero.cells rfl rfl 45 PV.zero.cells HAr.out (by kernel_rfl) rfl (PV.zero.one rfl) ?_)
        refine bodyPost_ret (v := .tuple #[.agg PV.zero.cells, .int .i64 15]) (results_cr2 Try.results30 _ _ w.heap.size 45 PV.zero.cells (0, 0) _ rfl (setRow_heap _ _ _ _ _ _ HAr.out) Try.underlying45 rfl (by kernel_rfl) rfl) rfl ?_
        exact PktR.bad (k := 15) (below_setRow (grown_to_below HB3.out HS11.out.g (by omega) (by omega)) (Nat.le_refl _) _) (rdE_sum He.out Hok.out Hns.out) (by decide) rfl
       | true =>
        have hone : (y.pv (.slice pa M.length pc)).cells.all (·.oneCell') = true := PV.one _ rfl
        go_wp2_with (first | (refine wpList_load_row rfl 45 (.tmp 4) rfl P rfl 45 (y.pv (.slice pa M.length pc)).cells (0, 0) _ HS11.out.p Try.underlying45 rfl (by kernel_rfl) ?_) | (refine wpList_store_row rfl 45 (.tmp 2) (.tmp 167) rfl w.heap.size (y.pv (.slice pa M.length pc)).cells rfl rfl 45 PV.zero.cells HA11.out (by kernel_rfl) rfl hone ?_))
        refine bodyPost_ret (v := .tuple #[.agg (y.pv (.slice pa M.length pc)).cells, .int .i64 0]) (results_cr2 Try.results30 _ _ w.heap.size 45 (y.pv (.slice pa M.length pc)).cells (0, 0) _ rfl (setRow_heap _ _ _ _ _ _ HA11.out) Try.underlying45 rfl (by kernel_rfl) rfl) rfl ?_
        refine ⟨below_setRow (grown_to_below HB3.out HS11.out.g (by omega) (by omega)) (Nat.le_refl _) _, .inl ⟨rdE_ok He.out Hok.out (Hag.out.1 (of_decide_eq_true HZ2.out)), _, by rw [HZ.out], ?_⟩⟩
        rw [HW.out]
        have HOx : OwnB w11 wa.heap.size (.slice pa M.length pc) M := HOw.out
        exact (HOx.setRow HA11.out _).rb (by have := HMl.out; omega)
    ·have H9 : Hid ((flz D 13 16) = false) := Lib.hid hh
     clear hh
     rcases Decidable.em (num (sb D 8 4) = 0) with hk | hk
     ·have H4 : Hid ((((num (sb D 8 4) : Nat) : Int) != 0) = false) := Lib.hid (by rw [hk]; rfl)
      have HA : Hid (¬ (x.proto = 6 ∧ (prtX x D).ack ≠ 0 ∧ (prtX x D).has = false)) := Lib.hid fun h => h.2.1 (by rw [HAk.out.1]; exact hk)
      clear hk
      refine Lm.wp_region_seq 13 0 (fun p vv nn ww => (List.getD ((.val (.pointer (some ⟨P, 7, none⟩))) :: (.val (.int .i64 (((x.proto : Nat) : Int)))) :: (.val (.bool true)) :: (.val (.bool true)) :: (.val (.pointer (some ⟨P, 13, none⟩))) :: (.val (.bool false)) :: (.val (.bool true)) :: (.val (.bool true)) :: (.val (.bool true)) :: (.val (.pointer (some ⟨P, 15, none⟩))) :: (.val (.int .i64 (((num (sb D 8 4) : Nat) : Int)))) :: (.val (.bool false)) :: (.val (.bool false)) :: [] : List Vd) p .any).R vv nn ww) (fun _ ww => RS w3 P w.heap.size (.slice (some ⟨g, o2, none⟩) nd cd) D ({ (x.pv (.slice pa M.length pc)) with fp := ((num (sb D 0 2) : Nat) : Int), tp := ((num (sb D 2 2) : Nat) : Int), seq := ((num (sb D 4 4) : Nat) : Int), ack := ((num (sb D 8 4) : Nat) : Int), fin := (flz D 13 1), syn := (flz D 13 2), rst := (flz D 13 4), has := (flz D 13 16) }) ww ∧ Below w7.heap.size w7 ww) SS (fun _ => 0) (fun _ => 0)
       (by kernel_rfl) (by kernel_rfl) (by decide) (by kernel_rfl) (fun p vv nn ww n' w' h hs => Vd.keep _ h hs) (⟨HS7.out, Below.refl _ _⟩) ?hXu1
      case' hXu1 => (apply Exists.intro; refine ⟨fun T => ?hAu1, ?hobu1, ?hendu1⟩)
      case hAu1 =>
       simp only [setAll, List.take_succ_cons, List.take_zero, Act.put, List.setIfInBounds_toArray, List.set_cons_succ, List.set_cons_zero, Nat.reduceAdd]
       exact rfl
      case hobu1 =>
       refine ⟨?_, ?_, ?_, ?_, ?_, ?_, ?_, ?_, ?_, ?_, ?_, ?_, ?_, trivial⟩
       ·intro T wx n hC hn hp
        refine Op1.g fun _ Z => ?_; go_simp; exact Z _ _ ⟨rfl, hC, sR⟩
       ·intro T wx n hC hn hp
        obtain ⟨(d0 : T 0 = .pointer (some ⟨P, 7, none⟩)), -⟩ := hp
        have hk := hC.1
        obtain ⟨-, -, -, -, -, -, -, c7, -, -, -, -, -, -, -, -, -, -, -, f0⟩ := PBlk.cells hk.p
        refine Op1.g fun _ Z => ?_; go_simp; exact Z _ _ ⟨rfl, hC, sR⟩
       ·intro T wx n hC hn hp
        obtain ⟨(d1 : T 1 = .int .i64 (((x.proto : Nat) : Int))), -⟩ := hp
        refine Op1.g fun _ Z => ?_; go_simp; first | exact Z _ _ ⟨congrArg Value.bool (H2.out), hC, sR⟩ | exact Z _ _ ⟨rfl, hC, sR⟩ | (refine Z _ _ ⟨congrArg Value.bool ?_, hC, sR⟩; simpa using H2.out)
       ·intro T wx n hC hn hp
        obtain ⟨(d2 : T 2 = .bool true), -⟩ := hp
        refine Op1.g fun _ Z => ?_; go_simp; exact Z _ _ ⟨rfl, hC, sR⟩
       ·intro T wx n hC hn hp
        obtain ⟨(d3 : T 3 = .bool true), -⟩ := hp
        refine ⟨fun hT => ?_, fun hT => absurd d3 hT⟩
        refine Op1.g fun _ Z => ?_; go_simp; exact Z _ _ ⟨rfl, hC, sR⟩
       ·intro T wx n hC hn hp
        obtain ⟨(d4 : T 4 = .pointer (some ⟨P, 13, none⟩)), (d3 : T 3 = .bool true), -⟩ := hp
        refine ⟨fun hT => ?_, fun hT => absurd d3 hT⟩
        have hk := hC.1
        obtain ⟨-, -, -, -, -, -, -, -, -, -, -, -, -, c13, -, -, -, -, -, f0⟩ := PBlk.cells hk.p
        refine Op1.g fun _ Z => ?_; go_simp; first | exact Z _ _ ⟨congrArg Value.bool (H9.out), hC, sR⟩ | exact Z _ _ ⟨rfl, hC, sR⟩ | (refine Z _ _ ⟨congrArg Value.bool ?_, hC, sR⟩; simpa using H9.out)
       ·intro T wx n hC hn hp
        obtain ⟨(d5 : T 5 = .bool false), (d3 : T 3 = .bool true), -⟩ := hp
        refine ⟨fun hT => ?_, fun hT => absurd d3 hT⟩
        refine Op1.g fun _ Z => ?_; go_simp; exact Z _ _ ⟨rfl, hC, sR⟩
       ·intro T wx n hC hn hp
        obtain ⟨(d3 : T 3 = .bool true), (d6 : T 6 = .bool true), -⟩ := hp
        refine Op1.g fun _ Z => ?_; go_simp; exact Z _ _ ⟨rfl, hC, sR⟩
       ·intro T wx n hC hn hp
        obtain ⟨(d7 : T 7 = .bool true), -⟩ := hp
        refine Op1.g fun _ Z => ?_; go_simp; exact Z _ _ ⟨rfl, hC, sR⟩
       ·intro T wx n hC hn hp
        obtain ⟨(d8 : T 8 = .bool true), -⟩ := hp
        refine ⟨fun hT => ?_, fun hT => absurd d8 hT⟩
        refine Op1.g fun _ Z => ?_; go_simp; exact Z _ _ ⟨rfl, hC, sR⟩
       ·intro T wx n hC hn hp
        obtain ⟨(d9 : T 9 = .pointer (some ⟨P, 15, none⟩)), (d8 : T 8 = .bool true), -⟩ := hp
        refine ⟨fun hT => ?_, fun hT => absurd d8 hT⟩
        have hk := hC.1
        obtain ⟨-, -, -, -, -, -, -, -, -, -, -, -, -, -, -, c15, -, -, -, f0⟩ := PBlk.cells hk.p
        refine Op1.g fun _ Z => ?_; go_simp; exact Z _ _ ⟨rfl, hC, sR⟩
       ·intro T wx n hC hn hp
        obtain ⟨(d10 : T 10 = .int .i64 (((num (sb D 8 4) : Nat) : Int))), (d8 : T 8 = .bool true), -⟩ := hp
        refine ⟨fun hT => ?_, fun hT => absurd d8 hT⟩
        refine Op1.g fun _ Z => ?_; go_simp; first | exact Z _ _ ⟨congrArg Value.bool (H4.out), hC, sR⟩ | exact Z _ _ ⟨rfl, hC, sR⟩ | (refine Z _ _ ⟨congrArg Value.bool ?_, hC, sR⟩; simpa using H4.out)
       ·intro T wx n hC hn hp
        obtain ⟨(d8 : T 8 = .bool true), (d11 : T 11 = .bool false), -⟩ := hp
        refine Op1.g fun _ Z => ?_; go_simp; exact Z _ _ ⟨rfl, hC, sR⟩
      case hendu1 =>
       intro T wx ⟨n, hn, hC, hR⟩
       have HSu1 := Lib.hid hC.1
       have HBu1 := Lib.hid hC.2
       have r132 : T 12 = .bool false := hR 12 (by omega)
       rw [r132]
       clear r132
       clear hR hC
       simp only [List.drop_succ_cons, List.drop_zero]
       unfold wpList
       go_upto_region 26 with fail
       generalize hwk : wx = wk at *
       have HOk : Hid (OwnB wk wa.heap.size (.slice pa M.length pc) M) := Lib.hid (own_later HO7.out HBu1.out)
       have hszk := HBu1.out.size
       clear HO7 HS7 HBu1 H2 hwk
       have Hy : (prtX x D).pv (.slice pa M.length pc) = { (x.pv (.slice pa M.length pc)) with fp := ((num (sb D 0 2) : Nat) : Int), tp := ((num (sb D 2 2) : Nat) : Int), seq := ((num (sb D 4 4) : Nat) : Int), ack := ((num (sb D 8 4) : Nat) : Int), fin := (flz D 13 1), syn := (flz D 13 2), rst := (flz D 13 4), has := (flz D 13 16) } := by
        unfold prtX
        rw [if_pos hp]
        first | rfl | (simp only [NP.pv]; first | rfl | (rw [← Hr.out]))
       have HSy : Hid (RS w3 P w.heap.size (.slice (some ⟨g, o2, none⟩) nd cd) D ((prtX x D).pv (.slice pa M.length pc)) wk) := by rw [Hy]; exact HSu1
       have hyf : (prtX x D).fit := prtX_fit hxf D
       have hyp : (prtX x D).proto = 6 := by rw [prtX_proto]; exact hp
       have Hk : Hid (prtOk x D ↔ partB (prtX x D) M = setSum D 16 0) := Lib.hid (by
        unfold prtOk
        rw [show leastN x.proto = 20 by rw [hp]; rfl, show sumAtN x.proto = 16 by rw [hp]; rfl, ← HM.out]
        exact ⟨fun h => h.2.2, fun h => ⟨by rw [Hd.out]; omega, (HA.out), h⟩⟩)
       have HZ : Hid (rdX L = prtX x D) := Lib.hid (by unfold rdX; rw [HX.out, HD.out])
       have HW : Hid (rdPay L = M) := Lib.hid (by unfold rdPay; rw [HX.out, HD.out, hp, HM.out]; rfl)
       obtain ⟨y, hy⟩ : ∃ y, prtX x D = y := ⟨_, rfl⟩
       rw [hy] at HSy hyf hyp Hk HZ
       clear hy Hy HSu1 HAk
       have Hpl : Hid ((partB y M).length ≤ 1420) := Lib.hid (by have := HMl.out; rw [partB_len]; unfold leastN; split <;> omega)
       have hpart : Calls Try.prog 64 #[.agg (y.pv (.slice pa M.length pc)).cells] wk fun e w' => ∃ v, e = .returned (.tuple #[v, .int .i64 ((sumAtN y.proto : Nat) : Int)]) ∧ OwnB w' wk.heap.size v (partB y M) ∧ Below wk.heap.size wk w' := by
        exact part_any y hyf pa pc M wk (OwnB.rb HOk.out (by have := HMl.out; omega)) (by have := HMl.out; omega)
       have HPt := Lib.hid hpart
       clear hpart
       go_wp2_with (refine wpList_load_row rfl 45 (.tmp 4) rfl P rfl 45 (y.pv (.slice pa M.length pc)).cells (0, 0) _ HSy.out.p Try.underlying45 rfl (by kernel_rfl) ?_)
       refine HPt.out.mono ?_
       rintro e w5 ⟨v5, rfl, hO5, hB5⟩
       have HS5 := Lib.hid (HSy.out.later hB5)
       have HO5 := Lib.hid hO5
       have HB5 := Lib.hid hB5
       have hsz5 := hB5.size
       clear hO5 hB5 HPt
       go_wp2_with fail
       refine (cloneB_rb HS5.out.rb (by rw [Hd.out]; omega)).mono ?_
       rintro e w6 ⟨v6, rfl, hO6, hB6⟩
       have HS6 := Lib.hid (HS5.out.later hB6)
       have HB6 := Lib.hid (HB5.out.trans (hB6.mono hsz5))
       have HR5 : Hid (Rb w5.heap.size w6 v5 (partB y M)) := Lib.hid ((HO5.out.rb (by have := Hpl.out; omega)).below hB6)
       have hsz6 := hB6.size
       obtain ⟨g6, c6, rfl, hg6, hl6, hd6, hm6⟩ := hO6.slice1 (by rw [Hd.out]; omega)
       have HO6 : Hid (OwnB w6 w5.heap.size (.slice (some ⟨g6, 0, none⟩) D.length c6) D) := Lib.hid hO6
       clear hO6 hB6
       have hf := HO6.out.frozen
       have hcl := HO6.out.get
       have HO8 := Lib.hid (show OwnB ((w6.setCell ⟨g6, 16, none⟩ (.int .u8 0)).setCell ⟨g6, 17, none⟩ (.int .u8 0)) w5.heap.size (.slice (some ⟨g6, 0, none⟩) D.length c6) (setSum D 16 0) from HO6.out.zero2 16 (by rw [Hd.out]; omega))
       rw [show D.length = nd from Hd.out] at hcl HO8 hd6
       rw [show D.length = nd from Hd.out]
       obtain ⟨y1, hc1'⟩ : ∃ y, w6.cell? ⟨g6, 16, none⟩ = some (encB y) := ⟨_, hcl 16 (by omega)⟩
       obtain ⟨y2, hc2'⟩ : ∃ y, w6.cell? ⟨g6, 17, none⟩ = some (encB y) := ⟨_, hcl 17 (by omega)⟩
       clear hcl
       go_upto_region 29 with fail
       have HB8 : Hid (Below w5.heap.size w6 ((w6.setCell ⟨g6, 16, none⟩ (.int .u8 0)).setCell ⟨g6, 17, none⟩ (.int .u8 0))) := Lib.hid (((Below.refl _ _).setCell hg6 _).setCell hg6 _)
       generalize (w6.setCell ⟨g6, 16, none⟩ (.int .u8 0)).setCell ⟨g6, 17, none⟩ (.int .u8 0) = w8 at *
       have hsz8 := HB8.out.size
       have HBk8 := Lib.hid (HB6.out.trans (HB8.out.mono hsz5))
       have HR8 := Lib.hid (HR5.out.below HB8.out)
       clear HB6 HB5 HS6 HO6 hf hc1' hc2' HR5
       go_wp2_with fail
       refine (equal_rb HR8.out (HO8.out.rb (by rw [setSum_len, Hd.out]; omega))).mono ?_
       rintro e w9 ⟨rfl, hB9⟩
       have HBk9 := Lib.hid (HBk8.out.trans (hB9.mono (by omega)))
       have HS9 := Lib.hid (HSy.out.later HBk9.out)
       have HO9 := Lib.hid (own_later HOk.out HBk9.out)
       obtain ⟨z, hz⟩ : ∃ z, decide (partB y M = setSum D 16 0) = z := ⟨_, rfl⟩
       rw [hz]
       have HZz := Lib.hid hz
       clear hz hB9 HO8 HR8 HBk8 HO5 HS5
       cases z with
       | false =>
        have hno : ¬ prtOk x D := fun h => of_decide_eq_false HZz.out (Hk.out.1 h)
        have Hno := Lib.hid hno
        clear hno
        have HAr := Lib.hid (grown_blk HS9.out.g HA3.out (by omega))
        go_wp2_with (refine wpList_store_row rfl 45 (.tmp 2) (.tmp 153) rfl w.heap.size PV.zero.cells rfl rfl 45 PV.zero.cells HAr.out (by kernel_rfl) rfl (PV.zero.one rfl) ?_)
        refine bodyPost_ret (v := .tuple #[.agg PV.zero.cells, .int .i64 3]) (results_cr2 Try.results30 _ _ w.heap.size 45 PV.zero.cells (0, 0) _ rfl (setRow_heap _ _ _ _ _ _ HAr.out) Try.underlying45 rfl (by kernel_rfl) rfl) rfl ?_
        exact PktR.bad (k := 3) (below_setRow (grown_to_below HB3.out HS9.out.g (by omega) (by omega)) (Nat.le_refl _) _) (rdE_part He.out (by rw [HX.out, HD.out]; exact Hno.out)) (by decide) rfl
       | true =>
        have Hok : Hid (prtOk (headX L) (rdBody L)) := Lib.hid (by rw [HX.out, HD.out]; exact Hk.out.2 (of_decide_eq_true HZz.out))
        have Hag : Hid (pktB y M = L ↔ sumOk L) := Lib.hid (by
         have h := again L 3 15 4 (by decide) (by decide) (by decide) He.out Hok.out
         rwa [HZ.out, HW.out] at h)
        obtain ⟨-, -, -, -, -, -, -, -, -, -, -, -, -, -, -, -, -, -, c18, f0⟩ := PBlk.cells HS9.out.p
        replace c18 : w9.cell? ⟨P, 18, none⟩ = some (.slice pa M.length pc) := c18
        have hml : ¬ ((1400 : Int) < (M.length : Int)) := by have := HMl.out; omega
        have hpb : Calls Try.prog 24 #[.agg (y.pv (.slice pa M.length pc)).cells] w9 fun e w' => ∃ v, e = .returned v ∧ OwnB w' w9.heap.size v (pktB y M) ∧ Below w9.heap.size w9 w' := by
         exact pktBytes_any y hyf pa pc M w9 (OwnB.rb HO9.out (by have := HMl.out; omega)) (by have := HMl.out; omega)
        have HPb := Lib.hid hpb
        clear hpb
        go_wp2_with (refine wpList_load_row rfl 45 (.tmp 4) rfl P rfl 45 (y.pv (.slice pa M.length pc)).cells (0, 0) _ HS9.out.p Try.underlying45 rfl (by kernel_rfl) ?_)
        refine HPb.out.mono ?_
        rintro e w10 ⟨v10, rfl, hO10, hB10⟩
        have HS10 := Lib.hid (HS9.out.later hB10)
        have HO10 := Lib.hid hO10
        have HOv := Lib.hid (own_later HO9.out hB10)
        have HRb : Hid (Rb w.heap.size w10 (.slice (some ⟨g, o, none⟩) nb c) L) := Lib.hid (HR.out.below (grown_to_below HB3.out HS10.out.g (by omega) (by omega)))
        clear hO10 hB10 HPb c18 f0
        go_wp2_with fail
        refine (equal_rb (HO10.out.rb (pktB_len hyf HMl.out)) HRb.out).mono ?_
        rintro e w11 ⟨rfl, hB11⟩
        have HS11 := Lib.hid (HS10.out.later hB11)
        have HOw := Lib.hid (own_later HOv.out hB11)
        have HA11 := Lib.hid (grown_blk HS11.out.g HA3.out (by omega))
        obtain ⟨z, hz⟩ : ∃ z, decide (pktB y M = L) = z := ⟨_, rfl⟩
        rw [hz]
        have HZ2 := Lib.hid hz
        clear hz hB11 HS10 HO10 HOv HRb
        cases z with
        | false =>
         have Hns : Hid (¬ sumOk L) := Lib.hid fun h => of_decide_eq_false HZ2.out (Hag.out.2 h)
         have HAr := Lib.hid (grown_blk HS11.out.g HA3.out (by omega))
         go_wp2_with (refine wpList_store_row rfl 45 (.tmp 2) (.tmp 166) rfl w.heap.size PV.zero.cells rfl rfl 45 PV.zero.cells HAr.out (by kernel_rfl) rfl (PV.zero.one rfl) ?_)
         refine bodyPost_ret (v := .tuple #[.agg PV.zero.cells, .int .i64 15]) (results_cr2 Try.results30 _ _ w.heap.size 45 PV.zero.cells (0, 0) _ rfl (setRow_heap _ _ _ _ _ _ HAr.out) Try.underlying45 rfl (by kernel_rfl) rfl) rfl ?_
         exact PktR.bad (k := 15) (below_setRow (grown_to_below HB3.out HS11.out.g (by omega) (by omega)) (Nat.le_refl _) _) (rdE_sum He.out Hok.out Hns.out) (by decide) rfl
        | true =>
         have hone : (y.pv (.slice pa M.length pc)).cells.all (·.oneCell') = true := PV.one _ rfl
         go_wp2_with (first | (refine wpList_load_row rfl 45 (.tmp 4) rfl P rfl 45 (y.pv (.slice pa M.length pc)).cells (0, 0) _ HS11.out.p Try.underlying45 rfl (by kernel_rfl) ?_) | (refine wpList_store_row rfl 45 (.tmp 2) (.tmp 167) rfl w.heap.size (y.pv (.slice pa M.length pc)).cells rfl rfl 45 PV.zero.cells HA11.out (by kernel_rfl) rfl hone ?_))
         refine bodyPost_ret (v := .tuple #[.agg (y.pv (.slice pa M.length pc)).cells, .int .i64 0]) (results_cr2 Try.results30 _ _ w.heap.size 45 (y.pv (.slice pa M.length pc)).cells (0, 0) _ rfl (setRow_heap _ _ _ _ _ _ HA11.out) Try.underlying45 rfl (by kernel_rfl) rfl) rfl ?_
         refine ⟨below_setRow (grown_to_below HB3.out HS11.out.g (by omega) (by omega)) (Nat.le_refl _) _, .inl ⟨rdE_ok He.out Hok.out (Hag.out.1 (of_decide_eq_true HZ2.out)), _, by rw [HZ.out], ?_⟩⟩
         rw [HW.out]
         have HOx : OwnB w11 wa.heap.size (.slice pa M.length pc) M := HOw.out
         exact (HOx.setRow HA11.out _).rb (by have := HMl.out; omega)
     ·have H4 : Hid ((((num (sb D 8 4) : Nat) : Int) != 0) = true) := Lib.hid (by rw [bne_iff_ne]; intro e; exact hk (Int.ofNat.inj e))
      have Hk0 := Lib.hid hk
      clear hk
      refine Lm.wp_region_seq 13 0 (fun p vv nn ww => (List.getD ((.val (.pointer (some ⟨P, 7, none⟩))) :: (.val (.int .i64 (((x.proto : Nat) : Int)))) :: (.val (.bool true)) :: (.val (.bool true)) :: (.val (.pointer (some ⟨P, 13, none⟩))) :: (.val (.bool false)) :: (.val (.bool true)) :: (.val (.bool true)) :: (.val (.bool true)) :: (.val (.pointer (some ⟨P, 15, none⟩))) :: (.val (.int .i64 (((num (sb D 8 4) : Nat) : Int)))) :: (.val (.bool true)) :: (.val (.bool true)) :: [] : List Vd) p .any).R vv nn ww) (fun _ ww => RS w3 P w.heap.size (.slice (some ⟨g, o2, none⟩) nd cd) D ({ (x.pv (.slice pa M.length pc)) with fp := ((num (sb D 0 2) : Nat) : Int), tp := ((num (sb D 2 2) : Nat) : Int), seq := ((num (sb D 4 4) : Nat) : Int), ack := ((num (sb D 8 4) : Nat) : Int), fin := (flz D 13 1), syn := (flz D 13 2), rst := (flz D 13 4), has := (flz D 13 16) }) ww ∧ Below w7.heap.size w7 ww) SS (fun _ => 0) (fun _ => 0)
       (by kernel_rfl) (by kernel_rfl) (by decide) (by kernel_rfl) (fun p vv nn ww n' w' h hs => Vd.keep _ h hs) (⟨HS7.out, Below.refl _ _⟩) ?hXv1
      case' hXv1 => (apply Exists.intro; refine ⟨fun T => ?hAv1, ?hobv1, ?hendv1⟩)
      case hAv1 =>
       simp only [setAll, List.take_succ_cons, List.take_zero, Act.put, List.setIfInBounds_toArray, List.set_cons_succ, List.set_cons_zero, Nat.reduceAdd]
       exact rfl
      case hobv1 =>
       refine ⟨?_, ?_, ?_, ?_, ?_, ?_, ?_, ?_, ?_, ?_, ?_, ?_, ?_, trivial⟩
       ·intro T wx n hC hn hp
        refine Op1.g fun _ Z => ?_; go_simp; exact Z _ _ ⟨rfl, hC, sR⟩
       ·intro T wx n hC hn hp
        obtain ⟨(d0 : T 0 = .pointer (some ⟨P, 7, none⟩)), -⟩ := hp
        have hk := hC.1
        obtain ⟨-, -, -, -, -, -, -, c7, -, -, -, -, -, -, -, -, -, -, -, f0⟩ := PBlk.cells hk.p
        refine Op1.g fun _ Z => ?_; go_simp; exact Z _ _ ⟨rfl, hC, sR⟩
       ·intro T wx n hC hn hp
        obtain ⟨(d1 : T 1 = .int .i64 (((x.proto : Nat) : Int))), -⟩ := hp
        refine Op1.g fun _ Z => ?_; go_simp; first | exact Z _ _ ⟨congrArg Value.bool (H2.out), hC, sR⟩ | exact Z _ _ ⟨rfl, hC, sR⟩ | (refine Z _ _ ⟨congrArg Value.bool ?_, hC, sR⟩; simpa using H2.out)
       ·intro T wx n hC hn hp
        obtain ⟨(d2 : T 2 = .bool true), -⟩ := hp
        refine Op1.g fun _ Z => ?_; go_simp; exact Z _ _ ⟨rfl, hC, sR⟩
       ·intro T wx n hC hn hp
        obtain ⟨(d3 : T 3 = .bool true), -⟩ := hp
        refine ⟨fun hT => ?_, fun hT => absurd d3 hT⟩
        refine Op1.g fun _ Z => ?_; go_simp; exact Z _ _ ⟨rfl, hC, sR⟩
       ·intro T wx n hC hn hp
        obtain ⟨(d4 : T 4 = .pointer (some ⟨P, 13, none⟩)), (d3 : T 3 = .bool true), -⟩ := hp
        refine ⟨fun hT => ?_, fun hT => absurd d3 hT⟩
        have hk := hC.1
        obtain ⟨-, -, -, -, -, -, -, -, -, -, -, -, -, c13, -, -, -, -, -, f0⟩ := PBlk.cells hk.p
        refine Op1.g fun _ Z => ?_; go_simp; first | exact Z _ _ ⟨congrArg Value.bool (H9.out), hC, sR⟩ | exact Z _ _ ⟨rfl, hC, sR⟩ | (refine Z _ _ ⟨congrArg Value.bool ?_, hC, sR⟩; simpa using H9.out)
       ·intro T wx n hC hn hp
        obtain ⟨(d5 : T 5 = .bool false), (d3 : T 3 = .bool true), -⟩ := hp
        refine ⟨fun hT => ?_, fun hT => absurd d3 hT⟩
        refine Op1.g fun _ Z => ?_; go_simp; exact Z _ _ ⟨rfl, hC, sR⟩
       ·intro T wx n hC hn hp
        obtain ⟨(d3 : T 3 = .bool true), (d6 : T 6 = .bool true), -⟩ := hp
        refine Op1.g fun _ Z => ?_; go_simp; exact Z _ _ ⟨rfl, hC, sR⟩
       ·intro T wx n hC hn hp
        obtain ⟨(d7 : T 7 = .bool true), -⟩ := hp
        refine Op1.g fun _ Z => ?_; go_simp; exact Z _ _ ⟨rfl, hC, sR⟩
       ·intro T wx n hC hn hp
        obtain ⟨(d8 : T 8 = .bool true), -⟩ := hp
        refine ⟨fun hT => ?_, fun hT => absurd d8 hT⟩
        refine Op1.g fun _ Z => ?_; go_simp; exact Z _ _ ⟨rfl, hC, sR⟩
       ·intro T wx n hC hn hp
        obtain ⟨(d9 : T 9 = .pointer (some ⟨P, 15, none⟩)), (d8 : T 8 = .bool true), -⟩ := hp
        refine ⟨fun hT => ?_, fun hT => absurd d8 hT⟩
        have hk := hC.1
        obtain ⟨-, -, -, -, -, -, -, -, -, -, -, -, -, -, -, c15, -, -, -, f0⟩ := PBlk.cells hk.p
        refine Op1.g fun _ Z => ?_; go_simp; exact Z _ _ ⟨rfl, hC, sR⟩
       ·intro T wx n hC hn hp
        obtain ⟨(d10 : T 10 = .int .i64 (((num (sb D 8 4) : Nat) : Int))), (d8 : T 8 = .bool true), -⟩ := hp
        refine ⟨fun hT => ?_, fun hT => absurd d8 hT⟩
        refine Op1.g fun _ Z => ?_; go_simp; first | exact Z _ _ ⟨congrArg Value.bool (H4.out), hC, sR⟩ | exact Z _ _ ⟨rfl, hC, sR⟩ | (refine Z _ _ ⟨congrArg Value.bool ?_, hC, sR⟩; simpa using H4.out)
       ·intro T wx n hC hn hp
        obtain ⟨(d8 : T 8 = .bool true), (d11 : T 11 = .bool true), -⟩ := hp
        refine Op1.g fun _ Z => ?_; go_simp; exact Z _ _ ⟨rfl, hC, sR⟩
      case hendv1 =>
       intro T wx ⟨n, hn, hC, hR⟩
       have HSv1 := Lib.hid hC.1
       have HBv1 := Lib.hid hC.2
       have r132 : T 12 = .bool true := hR 12 (by omega)
       rw [r132]
       clear r132
       clear hR hC
       simp only [List.drop_succ_cons, List.drop_zero]
       unfold wpList
       have HAr := Lib.hid (grown_blk HSv1.out.g HA3.out (by omega))
       go_wp2_with (refine wpList_store_row rfl 45 (.tmp 2) (.tmp 133) rfl w.heap.size PV.zero.cells rfl rfl 45 PV.zero.cells HAr.out (by kernel_rfl) rfl (PV.zero.one rfl) ?_)
       refine bodyPost_ret (v := .tuple #[.agg PV.zero.cells, .int .i64 3]) (results_cr2 Try.results30 _ _ w.heap.size 45 PV.zero.cells (0, 0) _ rfl (setRow_heap _ _ _ _ _ _ HAr.out) Try.underlying45 rfl (by kernel_rfl) rfl) rfl ?_
       exact PktR.bad (k := 3) (below_setRow (grown_to_below HB3.out HSv1.out.g (by omega) (by omega)) (Nat.le_refl _) _) (rdE_part He.out (by rw [HX.out, HD.out]; exact fun h => h.2.1 ⟨hp, by rw [HAk.out.1]; exact Hk0.out, by rw [HAk.out.2]; exact H9.out⟩)) (by decide) rfl
end Go.Proofs.Ytakjopbdkkcnlaa
