/-
  The generator of right packets: its fields are within their bounds.
-/
import Derived.Test.YtakjopbdkkcnlaaPR4
import Derived.Test.YtakjopbdkkcnlaaPR3
import Derived.Test.YtakjopbdkkcnlaaPR5
set_option linter.unusedVariables false
namespace Go.Proofs.Ytakjopbdkkcnlaa
open Go.RowKit Go
set_option linter.unusedVariables false

def PV.rt (x : PV) : Prop := (0 ≤ x.hops ∧ x.hops ≤ 255) ∧ (x.proto = 1 ∨ x.proto = 6 ∨ x.proto = 17) ∧ (0 ≤ x.fp ∧ x.fp ≤ 65535) ∧ (0 ≤ x.tp ∧ x.tp ≤ 65535) ∧ (0 ≤ x.seq ∧ x.seq ≤ 4294967295) ∧ (0 ≤ x.ack ∧ x.ack ≤ 4294967295) ∧ (0 ≤ x.id ∧ x.id ≤ 65535) ∧ x.s1 = x.s2
def isIn (hi : Int) : Value → Bool
 | .int .i64 k => decide (0 ≤ k) && decide (k ≤ hi)
 | _ => false
theorem isIn_all (hi : Int) : ∀ (l : List Value), l.all (isIn hi) = true → ∃ zs : List Int, l = zs.map (Value.int .i64) ∧ ∀ k ∈ zs, 0 ≤ k ∧ k ≤ hi
 | [], _ => ⟨[], rfl, by simp⟩
 | v :: l, h => by
  simp only [List.all_cons, Bool.and_eq_true] at h
  obtain ⟨zs, rfl, hz⟩ := isIn_all hi l h.2
  have h1 := h.1
  unfold isIn at h1
  split at h1
  ·rename_i k
   simp at h1
   refine ⟨k :: zs, rfl, ?_⟩
   intro k' hk
   rcases List.mem_cons.1 hk with rfl | hk
   ·exact h1
   ·exact hz k' hk
  ·cases h1
theorem pick_bd (b : Nat) (hi : Int) (m g n : Nat) (t : TypeId) (vs : Array Value) (w : World) (h : Strm w b m) (hg : w.heap.size = g) (hm : m < 1099511627776) (hn : vs.size = n) (hn1 : 1 ≤ n ∧ n ≤ 1000) (hv : vs.toList.all (isIn hi) = true) :
  Calls Try.prog 18 #[.pointer (some ⟨b, 0, none⟩), .slice (some ⟨g, 0, none⟩) n n] (w.alloc (.cells vs t (0, 0))) fun e w' => ∃ k : Int, e = .returned (.int .i64 k) ∧ (0 ≤ k ∧ k ≤ hi) ∧ Gen b w w' (m + 1) := by
 obtain ⟨zs, hz, hb⟩ := isIn_all hi _ hv
 have hz' : vs = (zs.map (Value.int .i64)).toArray := by rw [← hz]
 exact (pick_new b m g n t vs zs w h hg hm (by rw [← hn, hz']; simp) hn1 hz').mono fun _ _ ⟨k, h1, h2, h3⟩ => ⟨k, h1, hb k h2, h3⟩

def pktRR (b G : Nat) (f : FV) (p : Nat) (v : Value) (w : World) : Prop :=
 match p with
 | 0 => v = .pointer (some ⟨G, 1, none⟩)
 | 1 => v = .agg #[.bool f.s1, .int .u64 f.h1, .int .u64 f.l1]
 | 2 => v = .pointer (some ⟨G, 4, none⟩)
 | 3 => v = .agg #[.bool f.s2, .int .u64 f.h2, .int .u64 f.l2]
 | 4 => v = .pointer (some ⟨b, 0, none⟩)
 | 5 => NumsAt b 4 [0, 1, 64, 255] v w
 | 6 => ∃ k, v = .int .i64 k ∧ 0 ≤ k ∧ k ≤ 255
 | 7 => v = .pointer (some ⟨b, 0, none⟩)
 | 8 => NumsAt b 4 [6, 6, 17, 1] v w
 | 9 => ∃ k, v = .int .i64 k ∧ (k = 1 ∨ k = 6 ∨ k = 17)
 | 11 => ∃ F, v = .pointer (some ⟨F, 0, none⟩) ∧ G < F ∧ F ≠ b ∧ PBlk w F PV.zero
 | 10 => ∃ p q, (0 ≤ p ∧ p ≤ 255) ∧ (q = 1 ∨ q = 6 ∨ q = 17) ∧ v = .agg (PV.mk f.s1 f.h1 f.l1 f.s2 f.h2 f.l2 p q 0 0 false false false false 0 0 false 0 (.slice none 0 0)).cells
 | _ => False

set_option maxRecDepth 100000 in
set_option maxHeartbeats 2000000 in
theorem rightPacket_right (b m : Nat) (w : World) (h : Strm w b m) (hm : m + 3000 < 1099511627776) :
  Calls Try.prog 58 #[.pointer (some ⟨b, 0, none⟩)] w fun e w' => ∃ (x : PV) (L : List UInt8), e = .returned (.agg x.cells) ∧ x.ok ∧ x.rt ∧ OwnB w' w.heap.size x.pay L ∧ L.length ≤ 20 ∧ Gen b w w' (m + 2102) := by
 have hblt := h.lt
 go_enter Try.func58, Try.ntmps58
 go_wp2_with fail
 refine (rightFlow_right b m _ (h.alloc _) (by omega)).mono ?_
 rintro e w1 ⟨f, rfl, HO, hs12, hg⟩
 have HS := Lib.hid hs12
 clear hs12
 have HO := Lib.hid HO
 have HA1 : PBlk w1 w.heap.size PV.zero := Blk.keep (Blk.new w _ _) hg.g (by omega)
 have hG1 : Gen b w w1 (m + 11) := ((Gen.start h).alloc _).trans hg
 have HF1 : FBlk (w1.alloc (.cells #[.int .i64 f.p, .bool f.s1, .int .u64 f.h1, .int .u64 f.l1, .bool f.s2, .int .u64 f.h2, .int .u64 f.l2, .int .i64 f.fp, .int .i64 f.tp] 30 (0, 0))) w1.heap.size f := Blk.new w1 _ _
 have HA2 := HA1.alloc (.cells #[.int .i64 f.p, .bool f.s1, .int .u64 f.h1, .int .u64 f.l1, .bool f.s2, .int .u64 f.h2, .int .u64 f.l2, .int .i64 f.fp, .int .i64 f.tp] 30 (0, 0))
 have hG2 := hG1.alloc (.cells #[.int .i64 f.p, .bool f.s1, .int .u64 f.h1, .int .u64 f.l1, .bool f.s2, .int .u64 f.h2, .int .u64 f.l2, .int .i64 f.fp, .int .i64 f.tp] 30 (0, 0))
 have hltA : w.heap.size < w1.heap.size := HA1.lt
 have hs : w1.heap.size < (w1.alloc (.cells #[.int .i64 f.p, .bool f.s1, .int .u64 f.h1, .int .u64 f.l1, .bool f.s2, .int .u64 f.h2, .int .u64 f.l2, .int .i64 f.fp, .int .i64 f.tp] 30 (0, 0))).heap.size := HF1.lt
 have H2 := Lib.hid (And.intro HA2 (And.intro hG2 HF1))
 clear hg HA1 hG1 HF1 HA2 hG2
 unfold FV.cells
 go_wp2_with fail
 generalize (w1.alloc (.cells #[.int .i64 f.p, .bool f.s1, .int .u64 f.h1, .int .u64 f.l1, .bool f.s2, .int .u64 f.h2, .int .u64 f.l2, .int .i64 f.fp, .int .i64 f.tp] 30 (0, 0))) = w2 at *
 generalize w1.heap.size = G at *
 refine wp_region_inv 12 2 (pktRR b G f) (fun n w' => Gen b w w' (m + 11 + n) ∧ FBlk w' G f ∧ PBlk w' w.heap.size PV.zero) (fun u v => u.grownBy v (some b)) (fun i => if i = 6 ∨ i = 9 then 1 else 0)
  (by kernel_rfl) (by kernel_rfl) (by decide) ?hS ⟨H2.out.2.1.drew, H2.out.2.2.drewN 1, Blk.drewN H2.out.1 1⟩ ?hX
 case' hX => (apply Exists.intro; refine ⟨fun T => ?hA, ?hob, ?hend⟩)
 case hA =>
  simp only [setAll, List.take_succ_cons, List.take_zero, Act.put, List.setIfInBounds_toArray, List.set_cons_succ, List.set_cons_zero, Nat.reduceAdd]
  exact rfl
 case hS =>
  intro p v u u' hR hg
  rcases p with _ | _ | _ | _ | _ | _ | _ | _ | _ | _ | _ | _ | p
  all_goals first | exact NumsAt.keep hR hg | exact hR | (obtain ⟨F, h1, h2, h3, h4⟩ := hR; exact ⟨F, h1, h2, h3, Blk.keep h4 hg h3⟩)
 case hob =>
  refine ⟨?_, ?_, ?_, ?_, ?_, ?_, ?_, ?_, ?_, ?_, ?_, ?_, trivial⟩
  all_goals (intro T wx n hC hn hp; obtain ⟨hC, hF, hA⟩ := hC; dsimp only at hn ⊢; unfold Op1)
  ·go_simp
   first | exact ⟨rfl, World.grownBy.refl _ _⟩ | exact World.grownBy.refl _ _
  ·obtain ⟨h1, -⟩ := hp
   have h1 : T 0 = .pointer (some ⟨G, 1, none⟩) := h1
   obtain ⟨c0, c1, c2, c3, c4, c5, c6, c7, c8, f0⟩ := FBlk.cells hF
   go_simp
   first | exact ⟨rfl, World.grownBy.refl _ _⟩ | exact World.grownBy.refl _ _
  ·go_simp
   first | exact ⟨rfl, World.grownBy.refl _ _⟩ | exact World.grownBy.refl _ _
  ·obtain ⟨h1, -⟩ := hp
   have h1 : T 2 = .pointer (some ⟨G, 4, none⟩) := h1
   obtain ⟨c0, c1, c2, c3, c4, c5, c6, c7, c8, f0⟩ := FBlk.cells hF
   go_simp
   first | exact ⟨rfl, World.grownBy.refl _ _⟩ | exact World.grownBy.refl _ _
  ·go_simp
   first | exact ⟨rfl, World.grownBy.refl _ _⟩ | exact World.grownBy.refl _ _
  ·go_simp
   exact ⟨NumsAt.new wx _ _ 4 rfl hC.s.lt _ rfl, ⟨hC.alloc _, Blk.alloc hF _, Blk.alloc hA _⟩, World.grownBy_alloc _ _ _⟩
  ·obtain ⟨h1, h2, -⟩ := hp
   have h1 : T 4 = .pointer (some ⟨b, 0, none⟩) := h1
   go_simp
   refine (pick_at b (m + 11 + n) 4 _ _ _ hC.s (by simp at hn; omega) h2 (by omega)).mono ?_
   rintro e w2 ⟨k, rfl, hk, hg2⟩
   exact ⟨_, rfl, ⟨k, rfl, by simp at hk; omega⟩, ⟨hC.trans hg2, Blk.keep hF hg2.g (by omega), Blk.keep hA hg2.g (by omega)⟩, hg2.g⟩
  ·go_simp
   first | exact ⟨rfl, World.grownBy.refl _ _⟩ | exact World.grownBy.refl _ _
  ·go_simp
   exact ⟨NumsAt.new wx _ _ 4 rfl hC.s.lt _ rfl, ⟨hC.alloc _, Blk.alloc hF _, Blk.alloc hA _⟩, World.grownBy_alloc _ _ _⟩
  ·obtain ⟨h1, h2, -⟩ := hp
   have h1 : T 7 = .pointer (some ⟨b, 0, none⟩) := h1
   go_simp
   refine (pick_at b (m + 11 + n) 4 _ _ _ hC.s (by simp at hn; omega) h2 (by omega)).mono ?_
   rintro e w2 ⟨k, rfl, hk, hg2⟩
   exact ⟨_, rfl, ⟨k, rfl, by simp at hk; omega⟩, ⟨hC.trans hg2, Blk.keep hF hg2.g (by omega), Blk.keep hA hg2.g (by omega)⟩, hg2.g⟩
  ·obtain ⟨h1, h2, ⟨k1, h3, b1⟩, ⟨k2, h4, b2⟩, -⟩ := hp
   have h1 : T 1 = .agg #[.bool f.s1, .int .u64 f.h1, .int .u64 f.l1] := h1
   have h2 : T 3 = .agg #[.bool f.s2, .int .u64 f.h2, .int .u64 f.l2] := h2
   go_simp
   exact ⟨⟨k1, k2, b1, b2, rfl⟩, World.grownBy.refl _ _⟩
  ·go_simp
   exact ⟨⟨wx.heap.size, rfl, hF.lt, by have := hC.s.lt; omega, Blk.new wx _ _⟩, ⟨hC.alloc _, Blk.alloc hF _, Blk.alloc hA _⟩, World.grownBy_alloc _ _ _⟩
 case hend =>
  intro T wx ⟨n, hn, hC, hF, hA⟩ hR
  obtain ⟨p, q, hpb, hqb, hT⟩ := hR 10 (by omega)
  obtain ⟨F, hTF, hGF, hFb, hFz⟩ := hR 11 (by omega)
  clear hR
  have hok : (PV.mk f.s1 f.h1 f.l1 f.s2 f.h2 f.l2 p q 0 0 false false false false 0 0 false 0 (.slice none 0 0)).ok := ⟨HO.out.2.1, HO.out.2.2.1, HO.out.2.2.2.1, HO.out.2.2.2.2.1, rfl⟩
  have hPG : PG b w (m + 13) w.heap.size F PV.zero wx := ⟨hFz, hA, hC.mono (by omega), ⟨by simp [PV.zero, U64], by simp [PV.zero, U64], by simp [PV.zero, U64], by simp [PV.zero, U64], rfl⟩, hblt, by omega, by omega, Nat.le_refl _, by omega⟩
  have hrt : (PV.mk f.s1 f.h1 f.l1 f.s2 f.h2 f.l2 p q 0 0 false false false false 0 0 false 0 (.slice none 0 0)).rt := ⟨hpb, hqb, ⟨Int.le_refl _, (by decide : (0 : Int) ≤ 65535)⟩, ⟨Int.le_refl _, (by decide : (0 : Int) ≤ 65535)⟩, ⟨Int.le_refl _, (by decide : (0 : Int) ≤ 4294967295)⟩, ⟨Int.le_refl _, (by decide : (0 : Int) ≤ 4294967295)⟩, ⟨Int.le_refl _, (by decide : (0 : Int) ≤ 65535)⟩, HS.out⟩
  have hxp : (PV.mk f.s1 f.h1 f.l1 f.s2 f.h2 f.l2 p q 0 0 false false false false 0 0 false 0 (.slice none 0 0)).pay = .slice none 0 0 := rfl
  generalize PV.mk f.s1 f.h1 f.l1 f.s2 f.h2 f.l2 p q 0 0 false false false false 0 0 false 0 (.slice none 0 0) = x at *
  have HP := Lib.hid (hPG.store x hok)
  have Hxp := Lib.hid (And.intro hxp hrt)
  rw [hT, hTF]
  refine wpList_store_row rfl 45 (.tmp 4) (.tmp 17) rfl F x.cells rfl rfl 45 _ hPG.f (by kernel_rfl) rfl (x.one hok.2.2.2.2) ?_
  generalize wx.setRow F x.cells = w3 at *
  clear hPG hF hA hC hxp hrt hpb hqb hok hFz hT hTF hltA hs H2 hGF hFb
  go_upto_region 3 with fail
  have HP := HP
  obtain ⟨c0, c1, c2, c3, c4, c5, c6, c7, c8, c9, c10, c11, c12, c13, c14, c15, c16, c17, c18, f0⟩ := PBlk.cells HP.out.f
  go_upto_block 0 with fail
  clear c0 c1 c2 c3 c4 c5 c6 c7 c8 c9 c10 c11 c12 c13 c14 c15 c16 c17 c18 f0
  go_cut [] (fun wx => ∃ x : PV, PG b w (m + 21) w.heap.size F x wx ∧ x.pay = .slice none 0 0 ∧ x.rt)
  case first =>
   go_wp2_with fail
   ·refine (pick_bd b 65535 _ _ _ _ _ _ HP.out.g.s ?h1 ?h2 ?h3 ?h4 ?h5).mono ?_
    case h1 => first | rfl | simp
    case h2 => omega
    case h3 => rfl
    case h4 => decide
    case h5 => rfl
    rintro e w4 ⟨k4, rfl, hb, hg⟩
    replace Hxp := Lib.hid (And.intro Hxp.out hb)
    clear hb
    replace HP := Lib.hid (HP.out.step hg)
    clear hg
    go_wp2_with fail
    refine (pick_bd b 65535 _ _ _ _ _ _ HP.out.g.s ?h1 ?h2 ?h3 ?h4 ?h5).mono ?_
    case h1 => first | rfl | simp
    case h2 => omega
    case h3 => rfl
    case h4 => decide
    case h5 => rfl
    rintro e w5 ⟨k5, rfl, hb, hg⟩
    replace Hxp := Lib.hid (And.intro Hxp.out hb)
    clear hb
    replace HP := Lib.hid (HP.out.step hg)
    clear hg
    obtain ⟨c0, c1, c2, c3, c4, c5, c6, c7, c8, c9, c10, c11, c12, c13, c14, c15, c16, c17, c18, f0⟩ := PBlk.cells HP.out.f
    go_wp2_with fail
    clear c0 c1 c2 c3 c4 c5 c6 c7 c8 c9 c10 c11 c12 c13 c14 c15 c16 c17 c18 f0
    replace HP := Lib.hid (HP.out.set_fp k4 |>.set_tp k5)
    refine (flip_gen b _ _ _ HP.out.g.s (by omega) (by omega)).mono ?_
    rintro e w6 ⟨k6, rfl, hg⟩
    replace HP := Lib.hid (HP.out.step hg)
    clear hg
    go_wp2_with fail
    refine (flip_gen b _ _ _ HP.out.g.s (by omega) (by omega)).mono ?_
    rintro e w7 ⟨k7, rfl, hg⟩
    replace HP := Lib.hid (HP.out.step hg)
    clear hg
    go_wp2_with fail
    refine (flip_gen b _ _ _ HP.out.g.s (by omega) (by omega)).mono ?_
    rintro e w8 ⟨k8, rfl, hg⟩
    replace HP := Lib.hid (HP.out.step hg)
    clear hg
    go_wp2_with fail
    refine (flip_gen b _ _ _ HP.out.g.s (by omega) (by omega)).mono ?_
    rintro e w9 ⟨k9, rfl, hg⟩
    replace HP := Lib.hid (HP.out.step hg)
    clear hg
    obtain ⟨c0, c1, c2, c3, c4, c5, c6, c7, c8, c9, c10, c11, c12, c13, c14, c15, c16, c17, c18, f0⟩ := PBlk.cells HP.out.f
    go_wp2_with fail
    clear c0 c1 c2 c3 c4 c5 c6 c7 c8 c9 c10 c11 c12 c13 c14 c15 c16 c17 c18 f0
    replace HP := Lib.hid (HP.out.set_syn k6 |>.set_fin k7 |>.set_rst k8 |>.set_has k9)
    refine (pick_bd b 4294967295 _ _ _ _ _ _ HP.out.g.s ?h1 ?h2 ?h3 ?h4 ?h5).mono ?_
    case h1 => first | rfl | simp
    case h2 => omega
    case h3 => rfl
    case h4 => decide
    case h5 => rfl
    rintro e w10 ⟨k10, rfl, hb, hg⟩
    replace Hxp := Lib.hid (And.intro Hxp.out hb)
    clear hb
    replace HP := Lib.hid (HP.out.step hg)
    clear hg
    obtain ⟨c0, c1, c2, c3, c4, c5, c6, c7, c8, c9, c10, c11, c12, c13, c14, c15, c16, c17, c18, f0⟩ := PBlk.cells HP.out.f
    cases k9
    ·go_wp2_with fail
     clear c0 c1 c2 c3 c4 c5 c6 c7 c8 c9 c10 c11 c12 c13 c14 c15 c16 c17 c18 f0
     replace HP := Lib.hid (HP.out.set_seq k10)
     go_meet
     case rel => exact ⟨_, HP.out.mono (by omega), Hxp.out.1.1.1.1, by have h1 := Hxp.out.1.1.1.2; have h2 := Hxp.out; simp only [PV.rt] at h1 h2 ⊢; refine ⟨h1.1, h1.2.1, ?_, ?_, ?_, ?_, ?_, h1.2.2.2.2.2.2.2⟩ <;> omega⟩
    ·go_wp2_with fail
     clear c0 c1 c2 c3 c4 c5 c6 c7 c8 c9 c10 c11 c12 c13 c14 c15 c16 c17 c18 f0
     replace HP := Lib.hid (HP.out.set_seq k10)
     refine (pick_bd b 4294967295 _ _ _ _ _ _ HP.out.g.s ?h1 ?h2 ?h3 ?h4 ?h5).mono ?_
     case h1 => first | rfl | simp
     case h2 => omega
     case h3 => rfl
     case h4 => decide
     case h5 => rfl
     rintro e w11 ⟨k11, rfl, hb, hg⟩
     replace Hxp := Lib.hid (And.intro Hxp.out hb)
     clear hb
     replace HP := Lib.hid (HP.out.step hg)
     clear hg
     obtain ⟨c0, c1, c2, c3, c4, c5, c6, c7, c8, c9, c10, c11, c12, c13, c14, c15, c16, c17, c18, f0⟩ := PBlk.cells HP.out.f
     go_wp2_with fail
     clear c0 c1 c2 c3 c4 c5 c6 c7 c8 c9 c10 c11 c12 c13 c14 c15 c16 c17 c18 f0
     replace HP := Lib.hid (HP.out.set_ack k11)
     go_meet
     case rel => exact ⟨_, HP.out.mono (by omega), Hxp.out.1.1.1.1.1, by have h1 := Hxp.out.1.1.1.1.2; have h2 := Hxp.out; simp only [PV.rt] at h1 h2 ⊢; refine ⟨h1.1, h1.2.1, ?_, ?_, ?_, ?_, ?_, h1.2.2.2.2.2.2.2⟩ <;> omega⟩
   ·refine (pick_bd b 65535 _ _ _ _ _ _ HP.out.g.s ?h1 ?h2 ?h3 ?h4 ?h5).mono ?_
    case h1 => first | rfl | simp
    case h2 => omega
    case h3 => rfl
    case h4 => decide
    case h5 => rfl
    rintro e w4 ⟨k4, rfl, hb, hg⟩
    replace Hxp := Lib.hid (And.intro Hxp.out hb)
    clear hb
    replace HP := Lib.hid (HP.out.step hg)
    clear hg
    go_wp2_with fail
    refine (pick_bd b 65535 _ _ _ _ _ _ HP.out.g.s ?h1 ?h2 ?h3 ?h4 ?h5).mono ?_
    case h1 => first | rfl | simp
    case h2 => omega
    case h3 => rfl
    case h4 => decide
    case h5 => rfl
    rintro e w5 ⟨k5, rfl, hb, hg⟩
    replace Hxp := Lib.hid (And.intro Hxp.out hb)
    clear hb
    replace HP := Lib.hid (HP.out.step hg)
    clear hg
    obtain ⟨c0, c1, c2, c3, c4, c5, c6, c7, c8, c9, c10, c11, c12, c13, c14, c15, c16, c17, c18, f0⟩ := PBlk.cells HP.out.f
    go_wp2_with fail
    clear c0 c1 c2 c3 c4 c5 c6 c7 c8 c9 c10 c11 c12 c13 c14 c15 c16 c17 c18 f0
    replace HP := Lib.hid (HP.out.set_fp k4 |>.set_tp k5)
    go_meet
    case rel => exact ⟨_, HP.out.mono (by omega), Hxp.out.1.1.1, by have h1 := Hxp.out.1.1.2; have h2 := Hxp.out; simp only [PV.rt] at h1 h2 ⊢; refine ⟨h1.1, h1.2.1, ?_, ?_, ?_, ?_, ?_, h1.2.2.2.2.2.2.2⟩ <;> omega⟩
   ·refine (flip_gen b _ _ _ HP.out.g.s (by omega) (by omega)).mono ?_
    rintro e w4 ⟨k4, rfl, hg⟩
    replace HP := Lib.hid (HP.out.step hg)
    clear hg
    go_wp2_with fail
    refine (pick_bd b 65535 _ _ _ _ _ _ HP.out.g.s ?h1 ?h2 ?h3 ?h4 ?h5).mono ?_
    case h1 => first | rfl | simp
    case h2 => omega
    case h3 => rfl
    case h4 => decide
    case h5 => rfl
    rintro e w5 ⟨k5, rfl, hb, hg⟩
    replace Hxp := Lib.hid (And.intro Hxp.out hb)
    clear hb
    replace HP := Lib.hid (HP.out.step hg)
    clear hg
    go_wp2_with fail
    refine (pick_bd b 65535 _ _ _ _ _ _ HP.out.g.s ?h1 ?h2 ?h3 ?h4 ?h5).mono ?_
    case h1 => first | rfl | simp
    case h2 => omega
    case h3 => rfl
    case h4 => decide
    case h5 => rfl
    rintro e w6 ⟨k6, rfl, hb, hg⟩
    replace Hxp := Lib.hid (And.intro Hxp.out hb)
    clear hb
    replace HP := Lib.hid (HP.out.step hg)
    clear hg
    obtain ⟨c0, c1, c2, c3, c4, c5, c6, c7, c8, c9, c10, c11, c12, c13, c14, c15, c16, c17, c18, f0⟩ := PBlk.cells HP.out.f
    go_wp2_with fail
    clear c0 c1 c2 c3 c4 c5 c6 c7 c8 c9 c10 c11 c12 c13 c14 c15 c16 c17 c18 f0
    replace HP := Lib.hid (HP.out.set_reply k4 |>.set_id k5 |>.set_seq k6)
    go_meet
    case rel => exact ⟨_, HP.out.mono (by omega), Hxp.out.1.1.1, by have h1 := Hxp.out.1.1.2; have h2 := Hxp.out; simp only [PV.rt] at h1 h2 ⊢; refine ⟨h1.1, h1.2.1, ?_, ?_, ?_, ?_, ?_, h1.2.2.2.2.2.2.2⟩ <;> omega⟩
  case rest =>
   clear HP Hxp
   obtain ⟨x1, HP, hxp, hrt⟩ := hcut
   have HT := Lib.hid hrt
   clear hrt
   have HP := Lib.hid HP
   have Hxp := Lib.hid hxp
   clear hxp
   go_wp2_with fail
   refine (pick_new b _ _ _ _ _ [0, 0, 1, 2, 3, 20] _ HP.out.g.s rfl (by omega) rfl (by decide) rfl).mono ?_
   rintro e w4 ⟨K0, rfl, hK, hg⟩
   replace HP := Lib.hid (HP.out.step hg)
   have hK' : 0 ≤ K0 ∧ K0 ≤ 20 := by simp at hK; omega
   clear hg hK
   obtain ⟨K, rfl⟩ := Int.eq_ofNat_of_zero_le hK'.1
   have hK20 : K ≤ 20 := by omega
   clear hK'
   go_wp2
   go_loopw [76] (fun i wr => ∃ (k : Nat) (x2 : PV) (L : List UInt8), k ≤ K ∧ i = .int .i64 k ∧ L.length = k ∧ Hid (PG b w (m + 22 + 104 * k) w.heap.size F x2 wr) ∧ Hid (OwnB wr w.heap.size x2.pay L) ∧ Hid x2.rt) (fun i _ => K - (intOf i).toNat)
   case atStart => exact ⟨0, x1, [], Nat.zero_le _, rfl, rfl, Lib.hid (HP.out.mono (by omega)), Lib.hid (by rw [Hxp.out]; exact OwnB.nil _ _), HT⟩
   case round =>
    obtain ⟨k, x2, L, hk, rfl, hL, HP, HO, HT2⟩ := hrel
    have HL := Lib.hid hL
    clear hL
    by_cases hlt : k < K
    ·go_upto_region 15 with fail
     refine Ph.wp_region_ph 11 104 (payR b w.heap.size F L x2.pay) (fun n w' => PG b w (m + 22 + 104 * k + n) w.heap.size F x2 w' ∧ (n < 100 → OwnB w' w.heap.size x2.pay L)) (payS b) (fun i => if i = 4 ∨ i = 5 ∨ i = 6 ∨ i = 8 then 1 else if i = 9 then 100 else 0)
      (by kernel_rfl) (by kernel_rfl) (by decide) ?hS2 ⟨HP.out.drewN 1, fun _ => HO.out⟩ ?hX2
     case' hX2 => (apply Exists.intro; refine ⟨fun T => ?hA2, ?hob2, ?hend2⟩)
     case hA2 =>
      simp only [setAll, List.take_succ_cons, List.take_zero, Act.put, List.setIfInBounds_toArray, List.set_cons_succ, List.set_cons_zero, Nat.reduceAdd]
      exact rfl
     case hS2 => exact payR_keep hblt
     case hob2 =>
      refine ⟨?_, ?_, ?_, ?_, ?_, ?_, ?_, ?_, ?_, ?_, ?_, trivial⟩
      all_goals (intro T wx n hC hn hp; obtain ⟨hC, hO⟩ := hC; dsimp only at hn ⊢; try simp at hn)
      ·unfold Op1; go_simp; exact ⟨rfl, hO, payS_refl _ _ _⟩
      ·obtain ⟨h1, -⟩ := hp
       have h1 : T 0 = .pointer (some ⟨F, 18, none⟩) := h1
       obtain ⟨-, -, -, -, -, -, -, -, -, -, -, -, -, -, -, -, -, -, c18, f0⟩ := PBlk.cells hC.f
       unfold Op1; go_simp; exact ⟨rfl, hO, payS_refl _ _ _⟩
      ·unfold Op1; go_simp; exact ⟨rfl, hO, payS_refl _ _ _⟩
      ·unfold Op1; go_simp; exact ⟨rfl, hO, payS_refl _ _ _⟩
      ·obtain ⟨h1, -⟩ := hp
       have h1 : T 3 = .pointer (some ⟨b, 0, none⟩) := h1
       unfold Op1
       go_simp
       refine (range_gen b _ 0 255 wx hC.g.s (by omega) (by omega) (by omega)).mono ?_
       rintro e w2 ⟨kr, rfl, -, hg2⟩
       exact ⟨_, rfl, ⟨⟨kr, rfl⟩, by omega⟩, ⟨hC.step hg2, fun h => (hO (by omega)).gen hg2 hblt⟩, payS_grown (by omega) hg2.g⟩
      ·obtain ⟨⟨⟨kr, h1⟩, hn1⟩, -⟩ := hp
       unfold Op1
       go_simp
       exact ⟨⟨by omega, kr, wx.heap.size, rfl, by have := hC.g.s.lt; omega, heap_alloc_new wx _⟩, ⟨(hC.alloc _).mono (by omega), fun h => (hO (by omega)).alloc _⟩, payS_grown (by omega) (World.grownBy_alloc _ _ _)⟩
      ·obtain ⟨h1, ⟨hn1, kr, B5, h2, h3, h4⟩, -⟩ := hp
       have h1 : T 2 = .pointer (some ⟨b, 0, none⟩) := h1
       have h5 : NumsAt b 4 [0, 255, 65, kr] (T 5) wx := ⟨B5, h2, h3, rdInts_at h4⟩
       clear h2
       unfold Op1
       go_simp
       refine (pick_at b _ 4 _ _ wx hC.g.s (by omega) h5 (by omega)).mono ?_
       rintro e w2 ⟨kp, rfl, -, hg2⟩
       exact ⟨_, rfl, ⟨⟨kp, rfl⟩, by omega⟩, ⟨hC.step hg2, fun h => (hO (by omega)).gen hg2 hblt⟩, payS_grown (by omega) hg2.g⟩
      ·obtain ⟨⟨⟨kp, h1⟩, hn1⟩, -⟩ := hp
       unfold Op1
       go_simp
       exact ⟨⟨u8_wrap kp, hn1⟩, hO, payS_refl _ _ _⟩
      ·obtain ⟨⟨⟨cc, h1⟩, hn1⟩, -⟩ := hp
       unfold encB at h1
       unfold Op1
       go_simp
       exact ⟨⟨by omega, fun _ => ⟨wx.heap.size, cc, rfl, by have := hC.g.s.lt; omega, heap_alloc_new wx _⟩⟩, ⟨(hC.alloc _).mono (by omega), fun h => (hO (by omega)).alloc _⟩, payS_grown (by omega) (World.grownBy_alloc _ _ _)⟩
      ·obtain ⟨h1, ⟨hn1, h2⟩, -⟩ := hp
       have h1 : T 1 = x2.pay := h1
       obtain ⟨g, cc, e1, e2, e3⟩ := h2 (by omega)
       have hOO := hO (by omega)
       simp only [Nat.reduceAdd, Nat.reduceEqDiff, reduceIte, or_self] at hn ⊢
       refine Op1.app byteE rfl h1 hOO (e1 : _ = _) (src_one wx g (encB cc) _ e3) (by intro u hu; simp at hu; subst hu; rfl) ?_ ?_ ?_ ?_
       ·have := HL.out; simp only [maxLen]; omega
       ·have := HL.out; omega
       ·exact hC.g.g.size
       intro v' w' hO' hG
       have hO2 : OwnB w' w.heap.size v' (L ++ [cc]) := by
        show w'.ownsRow _ _ _ _ _ _
        rw [List.length_append, encBs, List.map_append]
        exact hO'
       exact ⟨⟨by omega, hO2.one, cc, hO2⟩, ⟨(hC.grew hOO hG hblt).mono (by omega), fun h => absurd h (by omega)⟩, ⟨by omega, fun h => absurd h (by omega), fun i cs _ hi => (hG.g.block i (lt_of_block hi) (fun e => hOO.notInt hi e.symm)).trans hi⟩⟩
      ·unfold Op1; go_simp; exact ⟨rfl, hO, payS_refl _ _ _⟩
     case hend2 =>
      intro T wx ⟨n, hn, ⟨hC, hO⟩, hR⟩
      obtain ⟨h9, h9b, cc, h9c⟩ := hR 9 (by omega)
      have h10 : T 10 = .pointer (some ⟨F, 18, none⟩) := hR 10 (by omega)
      have hP2 := Lib.hid (hC.set_pay (T 9) h9b)
      have hO2 := Lib.hid (h9c.setCell hC.f 18 (T 9))
      obtain ⟨-, -, -, -, -, -, -, -, -, -, -, -, -, -, -, -, -, -, c18, f0⟩ := PBlk.cells hC.f
      obtain ⟨ad9, c9, hv9, -⟩ := own_form h9c
      clear hR hO h9 hC h9c
      simp only [List.drop_succ_cons, List.drop_zero]
      generalize T 9 = v9 at *
      generalize (L ++ [cc]).length = ln at hv9
      subst hv9
      rw [h10]
      go_wp2_with fail
      refine ⟨⟨k + 1, _, L ++ [cc], by omega, by go_num, by simp; exact HL.out, Lib.hid (hP2.out.mono (by omega)), hO2, Lib.hid HT2.out⟩, by simp [intOf]; omega⟩
    ·obtain rfl : k = K := by omega
     go_wp2_with (first | (refine wpList_load_row rfl 45 (.tmp 4) rfl F rfl 45 x2.cells (0, 0) _ HP.out.f Try.underlying45 rfl (by kernel_rfl) ?_) | (refine wpList_store_row rfl 45 (.tmp 2) (.tmp 90) rfl w.heap.size x2.cells rfl rfl 45 _ HP.out.a (by kernel_rfl) rfl (x2.one HP.out.ok.2.2.2.2) ?_))
     refine bodyPost_ret (v := .agg x2.cells) (results_cell_row Try.results58 _ _ w.heap.size 45 x2.cells (0, 0) _ rfl (setRow_heap _ _ _ _ _ _ HP.out.a) Try.underlying45 rfl (by kernel_rfl)) rfl ⟨x2, L, rfl, HP.out.ok, HT2.out, ?_, by have := HL.out; omega, Gen.setRow (HP.out.g.mono (by omega)) (Nat.le_refl _) hblt _⟩
     exact HO.out.setRow HP.out.a _

theorem pv_of_rt (x : PV) (hx : x.ok) (h : x.rt) : ∃ y : NP, x = y.pv x.pay ∧ y.fit := by
 obtain ⟨s1, h1, l1, s2, h2, l2, hops, proto, fp, tp, syn, fin, rst, has, seq, ack, reply, id, pay⟩ := x
 simp only [PV.ok, U64] at hx
 simp only [PV.rt] at h
 obtain ⟨⟨a1, a2⟩, b, ⟨c1, c2⟩, ⟨d1, d2⟩, ⟨e1, e2⟩, ⟨f1, f2⟩, ⟨g1, g2⟩, hs⟩ := h
 obtain ⟨u1, u2, u3, u4, -⟩ := hx
 refine ⟨⟨s1, h1.toNat, l1.toNat, s2, h2.toNat, l2.toNat, hops.toNat, proto.toNat, fp.toNat, tp.toNat, syn, fin, rst, has, seq.toNat, ack.toNat, reply, id.toNat⟩, ?_, ?_⟩
 ·simp only [NP.pv, PV.mk.injEq, true_and, and_true]
  omega
 ·refine ⟨?_, ?_, ?_, ?_, ?_, ?_, ?_, ?_, ?_, ?_, ?_, hs⟩ <;> simp only <;> omega
end Go.Proofs.Ytakjopbdkkcnlaa
