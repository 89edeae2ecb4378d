/-
  The bytes of a right packet, as the reference writes them, whatever the packet.
  The generator PacketBytes: a packet's bytes, perhaps edited: an own row of at most 1300 bytes.
  The last of the law's marks: filtered is true.
  A region that draws its order, by an invariant that may speak of the values that its operations have yielded.
  Small laws for the readers of a packet's part: slices to the end, a part cloned, two rows compared.
  Where a number stands among three.
-/
import Derived.Test.YtakjopbdkkcnlaaPR13
import Derived.Test.YtakjopbdkkcnlaaPR14
import Derived.Test.YtakjopbdkkcnlaaPR15
import Derived.Test.YtakjopbdkkcnlaaPR4
import Derived.Test.YtakjopbdkkcnlaaPR6
import Derived.Test.YtakjopbdkkcnlaaPR3
import Derived.Test.YtakjopbdkkcnlaaPR2
import Derived.Test.YtakjopbdkkcnlaaPR17
import Derived.Test.YtakjopbdkkcnlaaPR18
set_option linter.unusedVariables false
namespace Go.Proofs.Ytakjopbdkkcnlaa
open Go.RowKit Go
set_option linter.unusedVariables false

theorem pktBytes_any (x : NP) (hx : x.fit) (pa : Option Addr) (pc : Nat) (pay : List UInt8) (w : World) (hr : Rb w.heap.size w (.slice pa pay.length pc) pay) (hpl : pay.length ≤ 1400) :
  Calls Try.prog 24 #[.agg (x.pv (.slice pa pay.length pc)).cells] w fun e w' => ∃ v, e = .returned v ∧ OwnB w' w.heap.size v (pktB x pay) ∧ Below w.heap.size w w' := by
 rcases hs : x.s1 with _ | _
 ·by_cases hq : x.proto = 1
  ·exact pktBytes_icmp x hx pa pc pay w hr hpl hs hq
  ·exact pktBytes_four x hx pa pc pay w hr hpl hs hq
 ·exact pktBytes_six x hx pa pc pay w hr hpl hs
theorem pktB_len {y : NP} (hy : y.fit) {pay : List UInt8} (h : pay.length ≤ 1400) : (pktB y pay).length ≤ 1000000 := by
 have h1 := bodyB_len y pay
 have h2 := headB_len y (bodyB y pay).length
 have h3 : leastN y.proto ≤ 20 := by unfold leastN; split <;> omega
 unfold pktB
 split
 ·simp [be_len, addrB_len]
  (repeat' split) <;> omega
 ·simp [setSum_len]
  omega
end Go.Proofs.Ytakjopbdkkcnlaa

namespace Go.Proofs.Ytakjopbdkkcnlaa
open Go.RowKit Go
set_option linter.unusedVariables false

theorem pktB_len2 {y : NP} {pay : List UInt8} (h : pay.length ≤ 20) : (pktB y pay).length ≤ 200 := by
 have h1 := bodyB_len y pay
 have h2 := headB_len y (bodyB y pay).length
 have h3 : leastN y.proto ≤ 20 := by unfold leastN; split <;> omega
 unfold pktB
 split
 ·simp [be_len, addrB_len]
  (repeat' split) <;> omega
 ·simp [setSum_len]
  omega
def pbR (g c nn b : Nat) (p : Nat) (v : Value) (w : World) : Prop :=
 match p with
 | 0 => v = .slice (some ⟨g, 0, none⟩) nn c
 | 1 => v = .pointer (some ⟨b, 0, none⟩)
 | 2 => v = .slice (some ⟨g, 0, none⟩) nn c
 | 3 => v = .int .i64 ((nn : Nat) : Int)
 | 4 => ∃ k : Nat, v = .int .i64 ((k : Nat) : Int) ∧ 1 ≤ k ∧ k ≤ nn
 | 5 => ∃ k : Nat, v = .int .i64 ((k : Nat) : Int) ∧ k < nn
 | 6 => v = .pointer (some ⟨b, 0, none⟩)
 | 7 => NumsAt b 6 [0, 69, 96, 58, 1, 255] v w
 | 8 => ∃ k : Int, v = .int .i64 k ∧ 0 ≤ k ∧ k ≤ 255
 | 9 => ∃ y : UInt8, v = encB y
 | _ => True
theorem pbR.keep {g c nn b p : Nat} {v : Value} {w w' : World} (h : pbR g c nn b p v w) (hs : w.grownBy w' (some b)) : pbR g c nn b p v w' := by
 unfold pbR at *
 split <;> simp only at h ⊢
 all_goals first | exact h | exact NumsAt.keep h hs
set_option maxRecDepth 100000 in
set_option maxHeartbeats 8000000 in
theorem packetBytes_gen (b m : Nat) (w : World) (h : Strm w b m) (hm : m + 5000 < 1099511627776) :
  Calls Try.prog 28 #[.pointer (some ⟨b, 0, none⟩)] w fun e w' => ∃ v L, e = .returned v ∧ OwnB w' w.heap.size v L ∧ L.length ≤ 1300 ∧ Gen b w w' (m + 2120) := by
 have hblt := h.lt
 go_enter Try.func28, Try.ntmps28
 go_wp2_with fail
 refine (rightPacket_right b m w h (by omega)).mono ?_
 rintro e w1 ⟨x, P0, rfl, hok, hrt, hO, hPl, hg⟩
 obtain ⟨y, hy, hyf⟩ := pv_of_rt x hok hrt
 have hrb := OwnB.rb hO (by omega)
 obtain ⟨pa, pc, hpay, -⟩ := id hrb
 have hpb : Calls Try.prog 24 #[.agg x.cells] w1 fun e w' => ∃ v, e = .returned v ∧ OwnB w' w1.heap.size v (pktB y P0) ∧ Below w1.heap.size w1 w' := by
  rw [hpay] at hrb hy
  rw [hy]
  exact pktBytes_any y hyf pa pc P0 w1 hrb (by omega)
 have HPb := Lib.hid hpb
 have HG1 := Lib.hid hg
 have hsz1 := hg.g.size
 have HPl := Lib.hid hPl
 clear hpb hg hO hrb hpay hy hyf hok hrt hPl
 go_wp2_with fail
 refine HPb.out.mono ?_
 rintro e w2 ⟨v2, rfl, hO2, hb2⟩
 have HO2 : Hid (OwnB w2 w.heap.size v2 (pktB y P0)) := Lib.hid (own_weak hO2 hsz1)
 have HG2 := Lib.hid (HG1.out.below hb2 hsz1 (by omega))
 have HL2 : Hid ((pktB y P0).length ≤ 200) := Lib.hid (pktB_len2 HPl.out)
 have hsz2 := hb2.size
 clear hO2 hb2 HG1 HPb HPl
 generalize pktB y P0 = L2 at *
 go_wp2_with fail
 refine (flip_gen b (m + 2102) _ _ HG2.out.s (by omega) (by omega)).mono ?_
 rintro e w3 ⟨k1, rfl, hgf⟩
 have HG3a := Lib.hid (HG2.out.trans hgf)
 have HO3a : Hid (OwnB w3 w.heap.size v2 L2) := Lib.hid (HO2.out.gen hgf hblt)
 clear hgf HG2 HO2
 cases k1 with
 | true =>
  go_wp2_with fail
  refine (bytes_gen b (m + 2103) w3 HG3a.out.s (by omega) v2 L2 (OwnB.rb HO3a.out (by have := HL2.out; omega)) (by have := HL2.out; omega)).mono ?_
  rintro e w4 ⟨v4, L4, rfl, hO4, hl4, hg4⟩
  have HO3 : Hid (OwnB w4 w.heap.size v4 L4) := Lib.hid (own_weak hO4 HG3a.out.g.size)
  have HL3 : Hid (L4.length ≤ 1300) := Lib.hid (by have := HL2.out; omega)
  have HG3 : Hid (Gen b w w4 (m + 2114)) := Lib.hid ((HG3a.out.trans hg4).mono (by omega))
  clear hO4 hl4 hg4 HG3a HO3a HL2
  obtain ⟨ad, c, rfl, -⟩ := own_form HO3.out
  by_cases hz : L4.length = 0
  ·have HLz := Lib.hid hz
   rw [hz]
   go_wp2_with fail
   go_ret
   have hO9 := HO3.out
   rw [hz] at hO9
   exact ⟨_, L4, rfl, hO9, HL3.out, HG3.out.mono (by omega)⟩
  ·have hO9 : OwnB w4 w.heap.size (.slice ad L4.length c) L4 := HO3.out
   obtain ⟨g, c9, e9, hg1, hg2, hc1, hc2⟩ := hO9.slice1 (by omega)
   injection e9 with e9 _ e10
   subst e9 e10
   obtain ⟨nn, hnn⟩ : ∃ nn, L4.length = nn := ⟨_, rfl⟩
   have HO4 : Hid (OwnB w4 w.heap.size (.slice (some ⟨g, 0, none⟩) nn c) L4) := Lib.hid (by rw [← hnn]; exact hO9)
   have HLn := Lib.hid hnn
   have HL4 : Hid (nn ≤ 1300) := Lib.hid (by rw [← hnn]; exact HL3.out)
   have hnb : nn ≤ 1300 := HL4.out
   rw [hnn] at hz hc1
   rw [hnn]
   clear hnn hO9 HO3 HL3
   have hblg : b < g := by omega
   have hzi : (nn : Int) > 0 := by omega
   have hzj : (0 : Int) < (nn : Int) := by omega
   go_wp2_with fail
   refine (flip_gen b (m + 2114) _ _ HG3.out.s (by omega) (by omega)).mono ?_
   rintro e w5 ⟨k2, rfl, hgf⟩
   have HG5 := Lib.hid (HG3.out.trans hgf)
   have HO5 : Hid (OwnB w5 w.heap.size (.slice (some ⟨g, 0, none⟩) nn c) L4) := Lib.hid (HO4.out.gen hgf hblt)
   clear hgf HG3 HO4
   cases k2 with
   | false =>
    go_wp2_with fail
    go_ret
    exact ⟨_, L4, rfl, HO5.out, by rw [HLn.out]; exact hnb, HG5.out.mono (by omega)⟩
   | true =>
    go_upto_region 5 with fail
    refine Lm.wp_region_seq 10 2 (fun p vv nq ww => pbR g c nn b p vv ww) (fun nq ww => Gen b w ww (m + 2114 + 1 + nq) ∧ OwnB ww w.heap.size (.slice (some ⟨g, 0, none⟩) nn c) L4) (fun _ ww _ w' => ww.grownBy w' (some b)) (fun q => if q = 5 ∨ q = 8 then 1 else 0) (fun _ => 2)
     (by kernel_rfl) (by kernel_rfl) (by decide) (by kernel_rfl) (fun p vv nq ww n' w' h hs => pbR.keep h hs) ⟨HG5.out, HO5.out⟩ ?hXa
    case' hXa => (apply Exists.intro; refine ⟨fun T => ?hAa, ?hoba, ?henda⟩)
    case hAa =>
     simp only [setAll, List.take_succ_cons, List.take_zero, Act.put, List.setIfInBounds_toArray, List.set_cons_succ, List.set_cons_zero, Nat.reduceAdd]
     exact rfl
    case hoba =>
     refine ⟨?_, ?_, ?_, ?_, ?_, ?_, ?_, ?_, ?_, ?_, trivial⟩
     ·intro T wx nq hC hn hp
      refine Op1.g fun _ Z => ?_; go_simp; exact Z _ _ ⟨rfl, hC, World.grownBy.refl _ _⟩
     ·intro T wx nq hC hn hp
      refine Op1.g fun _ Z => ?_; go_simp; exact Z _ _ ⟨rfl, hC, World.grownBy.refl _ _⟩
     ·intro T wx nq hC hn hp
      refine Op1.g fun _ Z => ?_; go_simp; exact Z _ _ ⟨rfl, hC, World.grownBy.refl _ _⟩
     ·intro T wx nq hC hn hp
      obtain ⟨(d2 : T 2 = .slice (some ⟨g, 0, none⟩) nn c), -⟩ := hp
      refine Op1.g fun _ Z => ?_; go_simp; exact Z _ _ ⟨rfl, hC, World.grownBy.refl _ _⟩
     ·intro T wx nq hC hn hp
      obtain ⟨(d3 : T 3 = .int .i64 ((nn : Nat) : Int)), -⟩ := hp
      rcases Nat.lt_or_ge nn 13 with h12 | h12
      ·have h12i : (nn : Int) ≤ 12 := by omega
       refine Op1.g fun _ Z => ?_; go_simp; first | exact Z _ _ ⟨⟨nn, rfl, by omega, by omega⟩, hC, World.grownBy.refl _ _⟩ | (refine Z _ _ ⟨⟨nn, congrArg (Value.int _) ?_, by omega, by omega⟩, hC, World.grownBy.refl _ _⟩; omega)
      ·have h12i : ¬ ((nn : Int) ≤ 12) := by omega
       refine Op1.g fun _ Z => ?_; go_simp; first | exact Z _ _ ⟨⟨12, rfl, by omega, by omega⟩, hC, World.grownBy.refl _ _⟩ | (refine Z _ _ ⟨⟨12, congrArg (Value.int _) ?_, by omega, by omega⟩, hC, World.grownBy.refl _ _⟩; omega)
     ·intro T wx nq hC hn hp
      have hn2 : nq ≤ 2 := hn
      obtain ⟨e0, e1, -⟩ := hp
      have d1 : T 1 = .pointer (some ⟨b, 0, none⟩) := e0
      obtain ⟨k4, d4, hk1, hk2⟩ : ∃ k : Nat, T 4 = .int .i64 ((k : Nat) : Int) ∧ 1 ≤ k ∧ k ≤ nn := e1
      clear e0
      refine Op1.g fun _ Z => ?_; go_simp
      refine (next_gen b (m + 2114 + 1 + nq) _ _ hC.1.s (by omega) (by omega)).mono ?_
      rintro e w' ⟨z, rfl, ⟨hz0, hz1⟩, hg⟩
      obtain ⟨zk, rfl⟩ := Int.eq_ofNat_of_zero_le hz0
      exact ⟨_, rfl, Z _ _ ⟨⟨zk, rfl, by omega⟩, ⟨hC.1.trans hg, hC.2.gen hg hblt⟩, hg.g⟩⟩
     ·intro T wx nq hC hn hp
      refine Op1.g fun _ Z => ?_; go_simp; exact Z _ _ ⟨rfl, hC, World.grownBy.refl _ _⟩
     ·intro T wx nq hC hn hp
      refine Op1.g fun _ Z => ?_; go_simp
      exact Z _ _ ⟨NumsAt.new wx _ _ 6 rfl hC.1.s.lt _ rfl, ⟨hC.1.alloc _, OwnB.alloc hC.2 _⟩, World.grownBy_alloc _ _ _⟩
     ·intro T wx nq hC hn hp
      have hn2 : nq ≤ 2 := hn
      obtain ⟨(d6 : T 6 = .pointer (some ⟨b, 0, none⟩)), (d7 : NumsAt b 6 [0, 69, 96, 58, 1, 255] (T 7) wx), -⟩ := hp
      refine Op1.g fun _ Z => ?_; go_simp
      refine (pick_at b (m + 2114 + 1 + nq) 6 [0, 69, 96, 58, 1, 255] (T 7) wx hC.1.s (by omega) d7 (by omega)).mono ?_
      rintro e w' ⟨z, rfl, hz, hg⟩
      exact ⟨_, rfl, Z _ _ ⟨⟨z, rfl, by simp at hz; omega⟩, ⟨hC.1.trans hg, hC.2.gen hg hblt⟩, hg.g⟩⟩
     ·intro T wx nq hC hn hp
      obtain ⟨e0, -⟩ := hp
      obtain ⟨z, d8, hz1, hz2⟩ : ∃ k : Int, T 8 = .int .i64 k ∧ 0 ≤ k ∧ k ≤ 255 := e0
      obtain ⟨zk, rfl⟩ := Int.eq_ofNat_of_zero_le hz1
      have hzm : (zk : Int) % 256 = zk := by omega
      refine Op1.g fun _ Z => ?_; go_simp
      first | exact Z _ _ ⟨⟨_, u8_nat zk⟩, hC, World.grownBy.refl _ _⟩ | (refine Z _ _ ⟨⟨UInt8.ofNat zk, ?_⟩, hC, World.grownBy.refl _ _⟩; rw [← u8_nat, IntKind.wrap_u8]; try rw [hzm])
    case henda =>
     intro T wx ⟨nq, hn, hC, hR⟩
     have r0 : T 0 = .slice (some ⟨g, 0, none⟩) nn c := hR 0 (by omega)
     obtain ⟨i, r5, hi⟩ : ∃ k : Nat, T 5 = .int .i64 ((k : Nat) : Int) ∧ k < nn := hR 5 (by omega)
     obtain ⟨y, r9⟩ : ∃ y : UInt8, T 9 = encB y := hR 9 (by omega)
     rw [r0, r5, r9]
     have HOx : Hid (OwnB wx w.heap.size (.slice (some ⟨g, 0, none⟩) nn c) L4) := Lib.hid hC.2
     have HGx := Lib.hid (hC.1.mono (show _ ≤ m + 2114 + 1 + 2 by omega))
     clear hR hC r0 r5 r9
     have hf := HOx.out.frozen i
     obtain ⟨y0, hcy⟩ : ∃ y, wx.cell? ⟨g, i, none⟩ = some (encB y) := ⟨_, by
       have h9 := HOx.out
       rw [show nn = L4.length from HLn.out.symm] at h9
       exact OwnB.get h9 i (by rw [HLn.out]; exact hi)⟩
     have HOs : Hid (OwnB (wx.setCell ⟨g, i, none⟩ (encB y)) w.heap.size (.slice (some ⟨g, 0, none⟩) nn c) (L4.set i y)) := Lib.hid (by
       have h9 := HOx.out
       rw [show nn = L4.length from HLn.out.symm] at h9 ⊢
       exact OwnB.set h9 i (by rw [HLn.out]; exact hi) y)
     have HGs := Lib.hid (HGx.out.setCell ⟨g, i, none⟩ (encB y) hg1 hblg)
     simp only [List.drop_succ_cons, List.drop_zero]
     unfold encB at hcy HOs HGs ⊢
     go_wp2_with fail
     go_ret
     exact ⟨_, L4.set i y, rfl, HOs.out, by rw [List.length_set, HLn.out]; exact hnb, HGs.out.mono (by omega)⟩
 | false =>
  have HO3 := HO3a
  have HL3 : Hid (L2.length ≤ 1300) := Lib.hid (by have := HL2.out; omega)
  have HG3 : Hid (Gen b w w3 (m + 2114)) := Lib.hid (HG3a.out.mono (by omega))
  clear HG3a HO3a HL2
  obtain ⟨ad, c, rfl, -⟩ := own_form HO3.out
  by_cases hz : L2.length = 0
  ·have HLz := Lib.hid hz
   rw [hz]
   go_wp2_with fail
   go_ret
   have hO9 := HO3.out
   rw [hz] at hO9
   exact ⟨_, L2, rfl, hO9, HL3.out, HG3.out.mono (by omega)⟩
  ·have hO9 : OwnB w3 w.heap.size (.slice ad L2.length c) L2 := HO3.out
   obtain ⟨g, c9, e9, hg1, hg2, hc1, hc2⟩ := hO9.slice1 (by omega)
   injection e9 with e9 _ e10
   subst e9 e10
   obtain ⟨nn, hnn⟩ : ∃ nn, L2.length = nn := ⟨_, rfl⟩
   have HO4 : Hid (OwnB w3 w.heap.size (.slice (some ⟨g, 0, none⟩) nn c) L2) := Lib.hid (by rw [← hnn]; exact hO9)
   have HLn := Lib.hid hnn
   have HL4 : Hid (nn ≤ 1300) := Lib.hid (by rw [← hnn]; exact HL3.out)
   have hnb : nn ≤ 1300 := HL4.out
   rw [hnn] at hz hc1
   rw [hnn]
   clear hnn hO9 HO3 HL3
   have hblg : b < g := by omega
   have hzi : (nn : Int) > 0 := by omega
   have hzj : (0 : Int) < (nn : Int) := by omega
   go_wp2_with fail
   refine (flip_gen b (m + 2114) _ _ HG3.out.s (by omega) (by omega)).mono ?_
   rintro e w5 ⟨k2, rfl, hgf⟩
   have HG5 := Lib.hid (HG3.out.trans hgf)
   have HO5 : Hid (OwnB w5 w.heap.size (.slice (some ⟨g, 0, none⟩) nn c) L2) := Lib.hid (HO4.out.gen hgf hblt)
   clear hgf HG3 HO4
   cases k2 with
   | false =>
    go_wp2_with fail
    go_ret
    exact ⟨_, L2, rfl, HO5.out, by rw [HLn.out]; exact hnb, HG5.out.mono (by omega)⟩
   | true =>
    go_upto_region 5 with fail
    refine Lm.wp_region_seq 10 2 (fun p vv nq ww => pbR g c nn b p vv ww) (fun nq ww => Gen b w ww (m + 2114 + 1 + nq) ∧ OwnB ww w.heap.size (.slice (some ⟨g, 0, none⟩) nn c) L2) (fun _ ww _ w' => ww.grownBy w' (some b)) (fun q => if q = 5 ∨ q = 8 then 1 else 0) (fun _ => 2)
     (by kernel_rfl) (by kernel_rfl) (by decide) (by kernel_rfl) (fun p vv nq ww n' w' h hs => pbR.keep h hs) ⟨HG5.out, HO5.out⟩ ?hXb
    case' hXb => (apply Exists.intro; refine ⟨fun T => ?hAb, ?hobb, ?hendb⟩)
    case hAb =>
     simp only [setAll, List.take_succ_cons, List.take_zero, Act.put, List.setIfInBounds_toArray, List.set_cons_succ, List.set_cons_zero, Nat.reduceAdd]
     exact rfl
    case hobb =>
     refine ⟨?_, ?_, ?_, ?_, ?_, ?_, ?_, ?_, ?_, ?_, trivial⟩
     ·intro T wx nq hC hn hp
      refine Op1.g fun _ Z => ?_; go_simp; exact Z _ _ ⟨rfl, hC, World.grownBy.refl _ _⟩
     ·intro T wx nq hC hn hp
      refine Op1.g fun _ Z => ?_; go_simp; exact Z _ _ ⟨rfl, hC, World.grownBy.refl _ _⟩
     ·intro T wx nq hC hn hp
      refine Op1.g fun _ Z => ?_; go_simp; exact Z _ _ ⟨rfl, hC, World.grownBy.refl _ _⟩
     ·intro T wx nq hC hn hp
      obtain ⟨(d2 : T 2 = .slice (some ⟨g, 0, none⟩) nn c), -⟩ := hp
      refine Op1.g fun _ Z => ?_; go_simp; exact Z _ _ ⟨rfl, hC, World.grownBy.refl _ _⟩
     ·intro T wx nq hC hn hp
      obtain ⟨(d3 : T 3 = .int .i64 ((nn : Nat) : Int)), -⟩ := hp
      rcases Nat.lt_or_ge nn 13 with h12 | h12
      ·have h12i : (nn : Int) ≤ 12 := by omega
       refine Op1.g fun _ Z => ?_; go_simp; first | exact Z _ _ ⟨⟨nn, rfl, by omega, by omega⟩, hC, World.grownBy.refl _ _⟩ | (refine Z _ _ ⟨⟨nn, congrArg (Value.int _) ?_, by omega, by omega⟩, hC, World.grownBy.refl _ _⟩; omega)
      ·have h12i : ¬ ((nn : Int) ≤ 12) := by omega
       refine Op1.g fun _ Z => ?_; go_simp; first | exact Z _ _ ⟨⟨12, rfl, by omega, by omega⟩, hC, World.grownBy.refl _ _⟩ | (refine Z _ _ ⟨⟨12, congrArg (Value.int _) ?_, by omega, by omega⟩, hC, World.grownBy.refl _ _⟩; omega)
     ·intro T wx nq hC hn hp
      have hn2 : nq ≤ 2 := hn
      obtain ⟨e0, e1, -⟩ := hp
      have d1 : T 1 = .pointer (some ⟨b, 0, none⟩) := e0
      obtain ⟨k4, d4, hk1, hk2⟩ : ∃ k : Nat, T 4 = .int .i64 ((k : Nat) : Int) ∧ 1 ≤ k ∧ k ≤ nn := e1
      clear e0
      refine Op1.g fun _ Z => ?_; go_simp
      refine (next_gen b (m + 2114 + 1 + nq) _ _ hC.1.s (by omega) (by omega)).mono ?_
      rintro e w' ⟨z, rfl, ⟨hz0, hz1⟩, hg⟩
      obtain ⟨zk, rfl⟩ := Int.eq_ofNat_of_zero_le hz0
      exact ⟨_, rfl, Z _ _ ⟨⟨zk, rfl, by omega⟩, ⟨hC.1.trans hg, hC.2.gen hg hblt⟩, hg.g⟩⟩
     ·intro T wx nq hC hn hp
      refine Op1.g fun _ Z => ?_; go_simp; exact Z _ _ ⟨rfl, hC, World.grownBy.refl _ _⟩
     ·intro T wx nq hC hn hp
      refine Op1.g fun _ Z => ?_; go_simp
      exact Z _ _ ⟨NumsAt.new wx _ _ 6 rfl hC.1.s.lt _ rfl, ⟨hC.1.alloc _, OwnB.alloc hC.2 _⟩, World.grownBy_alloc _ _ _⟩
     ·intro T wx nq hC hn hp
      have hn2 : nq ≤ 2 := hn
      obtain ⟨(d6 : T 6 = .pointer (some ⟨b, 0, none⟩)), (d7 : NumsAt b 6 [0, 69, 96, 58, 1, 255] (T 7) wx), -⟩ := hp
      refine Op1.g fun _ Z => ?_; go_simp
      refine (pick_at b (m + 2114 + 1 + nq) 6 [0, 69, 96, 58, 1, 255] (T 7) wx hC.1.s (by omega) d7 (by omega)).mono ?_
      rintro e w' ⟨z, rfl, hz, hg⟩
      exact ⟨_, rfl, Z _ _ ⟨⟨z, rfl, by simp at hz; omega⟩, ⟨hC.1.trans hg, hC.2.gen hg hblt⟩, hg.g⟩⟩
     ·intro T wx nq hC hn hp
      obtain ⟨e0, -⟩ := hp
      obtain ⟨z, d8, hz1, hz2⟩ : ∃ k : Int, T 8 = .int .i64 k ∧ 0 ≤ k ∧ k ≤ 255 := e0
      obtain ⟨zk, rfl⟩ := Int.eq_ofNat_of_zero_le hz1
      have hzm : (zk : Int) % 256 = zk := by omega
      refine Op1.g fun _ Z => ?_; go_simp
      first | exact Z _ _ ⟨⟨_, u8_nat zk⟩, hC, World.grownBy.refl _ _⟩ | (refine Z _ _ ⟨⟨UInt8.ofNat zk, ?_⟩, hC, World.grownBy.refl _ _⟩; rw [← u8_nat, IntKind.wrap_u8]; try rw [hzm])
    case hendb =>
     intro T wx ⟨nq, hn, hC, hR⟩
     have r0 : T 0 = .slice (some ⟨g, 0, none⟩) nn c := hR 0 (by omega)
     obtain ⟨i, r5, hi⟩ : ∃ k : Nat, T 5 = .int .i64 ((k : Nat) : Int) ∧ k < nn := hR 5 (by omega)
     obtain ⟨y, r9⟩ : ∃ y : UInt8, T 9 = encB y := hR 9 (by omega)
     rw [r0, r5, r9]
     have HOx : Hid (OwnB wx w.heap.size (.slice (some ⟨g, 0, none⟩) nn c) L2) := Lib.hid hC.2
     have HGx := Lib.hid (hC.1.mono (show _ ≤ m + 2114 + 1 + 2 by omega))
     clear hR hC r0 r5 r9
     have hf := HOx.out.frozen i
     obtain ⟨y0, hcy⟩ : ∃ y, wx.cell? ⟨g, i, none⟩ = some (encB y) := ⟨_, by
       have h9 := HOx.out
       rw [show nn = L2.length from HLn.out.symm] at h9
       exact OwnB.get h9 i (by rw [HLn.out]; exact hi)⟩
     have HOs : Hid (OwnB (wx.setCell ⟨g, i, none⟩ (encB y)) w.heap.size (.slice (some ⟨g, 0, none⟩) nn c) (L2.set i y)) := Lib.hid (by
       have h9 := HOx.out
       rw [show nn = L2.length from HLn.out.symm] at h9 ⊢
       exact OwnB.set h9 i (by rw [HLn.out]; exact hi) y)
     have HGs := Lib.hid (HGx.out.setCell ⟨g, i, none⟩ (encB y) hg1 hblg)
     simp only [List.drop_succ_cons, List.drop_zero]
     unfold encB at hcy HOs HGs ⊢
     go_wp2_with fail
     go_ret
     exact ⟨_, L2.set i y, rfl, HOs.out, by rw [List.length_set, HLn.out]; exact hnb, HGs.out.mono (by omega)⟩
end Go.Proofs.Ytakjopbdkkcnlaa

namespace Go.Proofs.Ytakjopbdkkcnlaa
open Go.RowKit Go
set_option linter.unusedVariables false

theorem filtered_any (w : World) : Calls Try.prog 15 #[] w (Ret (.bool true) w) := by
 have hr : RdB (w.alloc (.cells #[.int .u8 0, .int .u8 1] 5 (0, 0))) (some ⟨w.heap.size, 0, none⟩) [0, 1] := by
  refine ⟨by decide, fun i hi => ⟨w.heap.size, 0, rfl, by simp, ?_⟩⟩
  have hb := Blk.new w 5 #[.int .u8 0, .int .u8 1]
  have hi : i < 2 := hi
  rw [Blk.cell hb]
  match i, hi with
  | 0, _ => rfl
  | 1, _ => rfl
 have hs : foldSum (sumB [0, 1] true) = 1 := by decide
 go_enter Try.func15, Try.ntmps15
 go_wp2_with fail
 refine (sum_any _ 2 [0, 1] _ hr).mono ?_
 rintro e w1 ⟨rfl, rfl⟩
 rw [hs]
 go_wp2_with fail
 go_ret
 exact ⟨rfl, below_alloc (Below.refl _ _) _⟩
end Go.Proofs.Ytakjopbdkkcnlaa

namespace Go.Proofs.Ytakjopbdkkcnlaa.Lt
open Go Go.Proofs.Ytakjopbdkkcnlaa

section
variable {P : Program} {ops : Array Oper} {Q : Exit → Act → World → Prop} {N total : Nat} {a0 : Act}
variable {R : Nat → Value → Nat → World → Prop} {C : (Nat → Value) → Nat → World → Prop} {S : Nat → World → Nat → World → Prop} {cost lim : Nat → Nat}

/-- i and what depends on it -/
def msk (ops : Array Oper) (i : Nat) : Array Bool := (Array.range ops.size).map fun j => j == i || bef ops j i
theorem msk_get (ops : Array Oper) (i j : Nat) (hj : j < ops.size) : (msk ops i).getD j false = (j == i || bef ops j i) := by
 simp [msk, Array.getD, hj]
def limB (ops : Array Oper) (N total : Nat) (cost lim : Nat → Nat) : Bool := (List.range N).all fun i => decide (total ≤ lim i + sumCost cost (msk ops i) ops.size)

theorem limB_spec {ops : Array Oper} {N total : Nat} {cost lim : Nat → Nat} (h : limB ops N total cost lim = true) : ∀ i, i < N → total ≤ lim i + sumCost cost (msk ops i) ops.size := by
 simpa [limB] using h
theorem sumCost_disj {cost : Nat → Nat} {listed mask : Array Bool} : ∀ k, (∀ j, j < k → listed.getD j false = true → mask.getD j false = false) → sumCost cost listed k + sumCost cost mask k ≤ sumCost cost (Array.replicate k true) k
 | 0, _ => by simp [sumCost]
 | k + 1, h => by
  have ih := sumCost_disj (cost := cost) (listed := listed) (mask := mask) k fun j hj => h j (by omega)
  have hk := h k (by omega)
  have hfull : ∀ m, m ≤ k → sumCost cost (Array.replicate (k + 1) true) m = sumCost cost (Array.replicate k true) m := by
   intro m
   induction m with
   | zero => intro _; rfl
   | succ m ihm =>
    intro hm
    simp only [sumCost, ihm (by omega)]
    simp [Array.getD, show m < k by omega, show m < k + 1 by omega]
  simp only [sumCost, hfull k (Nat.le_refl _)]
  have h1 : (Array.replicate (k + 1) true).getD k false = true := by simp [Array.getD]
  simp only [h1, if_true]
  cases hl : listed.getD k false
  ·simp only [Bool.false_eq_true, if_false]
   cases hm : mask.getD k false <;> simp <;> omega
  ·simp only [hk hl, if_true, Bool.false_eq_true, if_false]
   omega

def on (T : Nat → Value) (i : Nat) (v : Value) : Nat → Value := fun j => if j = i then v else T j
/-- What is asked of operation i. -/
def Ob (P : Program) (ops : Array Oper) (a0 : Act) (R : Nat → Value → Nat → World → Prop) (C : (Nat → Value) → Nat → World → Prop) (S : Nat → World → Nat → World → Prop) (cost lim : Nat → Nat) (N : Nat) (i : Nat) (o : Oper) : Prop :=
 ∀ (T : Nat → Value) (w : World) (n : Nat), T i = undef → C T n w → n ≤ lim i → (∀ p, p < ops.size → bef ops i p = true → R p (T p) n w) →
  if Region.wanted o (yielded ops (setAll (ops.toList.take N) 0 T a0).tmps) then
   Op1 P o (setAll (ops.toList.take N) 0 T a0).eval w fun v w' => R i v (n + cost i) w' ∧ C (on T i v) (n + cost i) w' ∧ S n w (n + cost i) w'
  else R i undef (n + cost i) w ∧ C (on T i undef) (n + cost i) w ∧ S n w (n + cost i) w

theorem region_any (hB : InvB ops N a0.tmps.size) (hS : ∀ p v n w n' w', R p v n w → S n w n' w' → R p v n' w')
  (htot : sumCost cost (Array.replicate ops.size true) ops.size ≤ total) (hlm : ∀ i, i < N → total ≤ lim i + sumCost cost (msk ops i) ops.size)
  (hob : ∀ (i : Nat) (o : Oper), ops[i]? = some o → i < N → Ob P ops a0 R C S cost lim N i o)
  (hend : ∀ T w, (∃ n, n ≤ total ∧ C T n w ∧ ∀ p, p < N → R p (T p) n w) → wpList P ops Q (ops.toList.drop N) (setAll (ops.toList.take N) 0 T a0) w) :
  ∀ (fuel : Nat) (listed : Array Bool) (a : Act) (w : World), listed.size = ops.size → fuel + cnt listed ops.size = ops.size →
   (∀ j, j < ops.size → listed.getD j false = true → ∀ p, p < ops.size → bef ops j p = true → listed.getD p false = true) →
   ((∃ T, ((∀ j, N ≤ j → listed.getD j false = false) ∧ ∀ j, listed.getD j false = false → T j = undef) ∧ Fits ops a0 listed T a ∧ C T (sumCost cost listed ops.size) w ∧ ∀ j, j < ops.size → listed.getD j false = true → R j (T j) (sumCost cost listed ops.size) w) ∨
    (∃ k, N ≤ k ∧ k ≤ ops.size ∧ (∀ j, j < ops.size → (listed.getD j false = true ↔ j < k)) ∧ wpList P ops Q (ops.toList.drop k) a w)) →
   wpAny P .any ops Q fuel listed a w := by
 -- the whole head is there: the two frames are one
 have whole : ∀ (listed : Array Bool) (T : Nat → Value) (a : Act), (∀ j, N ≤ j → listed.getD j false = false) → (∀ j, j < N → listed.getD j false = true) → Fits ops a0 listed T a → a = setAll (ops.toList.take N) 0 T a0 := by
  intro listed T a ht hh hF
  have h1 : a.defers = (setAll (ops.toList.take N) 0 T a0).defers := by rw [setAll_defers, hF.defers]
  have h2 : a.tmps = (setAll (ops.toList.take N) 0 T a0).tmps := by
   refine Array.ext_getElem? fun t => ?_
   rcases Nat.lt_or_ge t a0.tmps.size with hts | hts
   ·rw [setAll_get T t _ 0 a0 hts]
    cases hw : lastW t (ops.toList.take N) 0 with
    | some j =>
     obtain ⟨_, o', ho', hd⟩ := lastW_some _ _ hw
     simp only [Nat.sub_zero, List.getElem?_take] at ho'
     split at ho'
     ·rename_i hjN
      exact hF.set j o' t (by simpa using ho') (hh j hjN) hd
     ·cases ho'
    | none =>
     refine hF.rest t fun j o' hj hlj hd => ?_
     have hjN : j < N := by
      rcases Nat.lt_or_ge j N with h | h
      ·exact h
      ·rw [ht j h] at hlj; cases hlj
     exact lastW_none _ _ hw j o' (by rw [List.getElem?_take, if_pos hjN]; simpa using hj) hd
   ·rw [Array.getElem?_eq_none (by rw [hF.size]; exact hts), Array.getElem?_eq_none (by rw [setAll_size]; exact hts)]
  cases a; cases hb : setAll (ops.toList.take N) 0 T a0; simp_all
 -- nothing ready: all is listed
 have allListed : ∀ (listed : Array Bool), listed.size = ops.size → Region.ready .any ops listed = [] → ∀ j, j < ops.size → listed.getD j false = true := by
  intro listed hsz hr j
  induction j using Nat.strongRecOn with
  | _ j ih =>
   intro hj
   cases hlj : listed.getD j false with
   | true => rfl
   | false =>
    exfalso
    obtain ⟨o, ho⟩ : ∃ o, ops[j]? = some o := ⟨ops[j], Array.getElem?_eq_getElem hj⟩
    have : j ∈ Region.ready .any ops listed := mem_ready.2 ⟨by simpa [Array.getD, hsz, hj] using hlj, o, ho, fun e he hb => ih e.on (hB.back j o e ho he hb) (by have := hB.back j o e ho he hb; omega)⟩
    rw [hr] at this; cases this
 -- the end
 have fin : ∀ (listed : Array Bool) (a : Act) (w : World), (∀ j, j < ops.size → listed.getD j false = true) →
   ((∃ T, ((∀ j, N ≤ j → listed.getD j false = false) ∧ ∀ j, listed.getD j false = false → T j = undef) ∧ Fits ops a0 listed T a ∧ C T (sumCost cost listed ops.size) w ∧ ∀ j, j < ops.size → listed.getD j false = true → R j (T j) (sumCost cost listed ops.size) w) ∨
    (∃ k, N ≤ k ∧ k ≤ ops.size ∧ (∀ j, j < ops.size → (listed.getD j false = true ↔ j < k)) ∧ wpList P ops Q (ops.toList.drop k) a w)) → Q .normal a w := by
  intro listed a w hall h
  rcases h with ⟨T, ht, hF, hC, hR⟩ | ⟨k, hk1, hk2, hk3, hk4⟩
  ·have hN : N = ops.size := by
    rcases Nat.lt_or_ge N ops.size with h | h
    ·have h1 := ht.1 N (Nat.le_refl _)
     rw [hall N h] at h1; cases h1
    ·have := hB.le; omega
   have ha := whole listed T a ht.1 (fun j hj => hall j (by omega)) hF
   have := hend T w ⟨_, Nat.le_trans (sumCost_le _) htot, hC, fun p hp => hR p (by omega) (hall p (by omega))⟩
   rw [← ha, List.drop_eq_nil_of_le (by simp; omega)] at this
   exact this
  ·have : k = ops.size := by
    rcases Nat.lt_or_ge k ops.size with h | h
    ·have := (hk3 k h).1 (hall k h); omega
    ·omega
   rw [List.drop_eq_nil_of_le (by simp; omega)] at hk4
   exact hk4
 intro fuel
 induction fuel with
 | zero =>
  intro listed a w hsz hf hd h
  have hall := cnt_full ops.size (by omega : cnt listed ops.size = ops.size)
  refine ⟨?_, fin listed a w hall h⟩
  refine List.eq_nil_iff_forall_not_mem.2 fun i hi => ?_
  obtain ⟨h1, o, ho, _⟩ := mem_ready.1 hi
  have := hall i (Array.getElem?_eq_some_iff.1 ho).1
  rw [(getD_false h1).2] at this; cases this
 | succ fuel ih =>
  intro listed a w hsz hf hd h
  refine ⟨fun hr => fin listed a w (allListed listed hsz hr) h, fun i hi => ?_⟩
  obtain ⟨h1, o, ho, hafter⟩ := mem_ready.1 hi
  have hilt : i < ops.size := (Array.getElem?_eq_some_iff.1 ho).1
  have hset : ∀ j, (listed.setIfInBounds i true).getD j false = true ↔ (j = i ∨ listed.getD j false = true) := fun j => by
   by_cases hj : i = j
   ·subst hj; simp [Array.getD, hsz, hilt]
   ·rw [getD_set_ne false hj]; simp [Ne.symm hj]
  have hbef : ∀ p, p < ops.size → bef ops i p = true → listed.getD p false = true := fun p hp hb => by
   obtain ⟨e, he, hbi, hor⟩ := hB.clos i p o ho hp hb
   have h2 := hafter e he hbi
   rcases hor with rfl | hor
   ·exact h2
   ·exact hd e.on (by have := hB.back i o e ho he hbi; omega) h2 p hp hor
  have hsz' : (listed.setIfInBounds i true).size = ops.size := by simpa using hsz
  have hf' : fuel + cnt (listed.setIfInBounds i true) ops.size = ops.size := by
   have := sumCost_set (cost := fun _ => 1) h1 ops.size
   simp only [cnt, hilt, if_true] at this hf ⊢
   omega
  have hd' : ∀ j, j < ops.size → (listed.setIfInBounds i true).getD j false = true → ∀ p, p < ops.size → bef ops j p = true → (listed.setIfInBounds i true).getD p false = true := by
   intro j hj hl p hp hb
   rcases (hset j).1 hl with rfl | hl'
   ·exact (hset p).2 (.inr (hbef p hp hb))
   ·exact (hset p).2 (.inr (hd j hj hl' p hp hb))
  rcases h with ⟨T, ht, hF, hC, hR⟩ | ⟨k, hk1, hk2, hk3, hk4⟩
  ·rcases Nat.lt_or_ge i N with hiN | hiN
   ·-- a step of the head
    have hpN : ∀ p, bef ops i p = true → p < ops.size → listed.getD p false = true ∧ p < N := fun p hb hp => by
     have := hbef p hp hb
     refine ⟨this, ?_⟩
     rcases Nat.lt_or_ge p N with h | h
     ·exact h
     ·rw [ht.1 p h] at this; cases this
    have hag := hF.agree hB ht.1 ho hpN
    have hsum := sumCost_set (cost := cost) h1 ops.size
    simp only [hilt, if_true] at hsum
    have hlim : sumCost cost listed ops.size ≤ lim i := by
     have h5 := sumCost_disj (cost := cost) (listed := listed) (mask := msk ops i) ops.size fun j hj hl => by
      rw [msk_get ops i j hj]
      cases hji : j == i
      ·cases hbf : bef ops j i
       ·rfl
       ·have := hd j hj hl i hilt hbf
        rw [(getD_false h1).2] at this; cases this
      ·obtain rfl : j = i := by simpa using hji
       rw [(getD_false h1).2] at hl; cases hl
     have h6 := hlm i hiN
     omega
    have hO := hob i o ho hiN T w _ (ht.2 i (getD_false h1).2) hC hlim fun p hp hb => hR p hp (hbef p hp hb)
    have next : ∀ v w', R i v (sumCost cost listed ops.size + cost i) w' ∧ C (on T i v) (sumCost cost listed ops.size + cost i) w' ∧ S (sumCost cost listed ops.size) w (sumCost cost listed ops.size + cost i) w' → wpAny P .any ops Q fuel (listed.setIfInBounds i true) (a.put o.dst v) w' := fun v w' ⟨q1, q2, q3⟩ =>
     ih _ _ _ hsz' hf' hd' (.inl ⟨fun j => if j = i then v else T j, ⟨fun j hj => by
       rw [getD_set_ne false (by omega)]; exact ht.1 j hj, fun j hj => by
       by_cases hji : j = i
       ·subst hji
        have := (hset j).2 (.inl rfl)
        rw [hj] at this; cases this
       ·simp only [hji, if_false]
        exact ht.2 j ((getD_set_ne false (fun e => hji e.symm)).symm.trans hj)⟩, hF.put hB ho h1 v, by rw [hsum]; exact q2, fun j hj hl => by
       by_cases hji : j = i
       ·subst hji; rw [hsum]; simpa using q1
       ·simp only [hji, if_false]
        rw [hsum]; exact hS j _ _ _ _ _ (hR j hj (((hset j).1 hl).resolve_left hji)) q3⟩)
    unfold wpOp
    simp only [ho]
    rw [wanted_of_get (a := a) (b := setAll (ops.toList.take N) 0 T a0) o hag]
    split
    ·rename_i hw
     rw [if_pos hw] at hO
     refine .inl (Op1.wp (post := fun v w' => R i v (sumCost cost listed ops.size + cost i) w' ∧ C (on T i v) (sumCost cost listed ops.size + cost i) w' ∧ S (sumCost cost listed ops.size) w (sumCost cost listed ops.size + cost i) w') ?_ next)
     unfold Op1 at hO ⊢
     rw [execOp_congr o (Region.noSelect_spec hB.sel i o · · ho) (eval_of_get o hag)]
     exact hO
    ·rename_i hw
     rw [if_neg hw] at hO
     exact next undef w hO
   ·-- the tail begins
    have hall : ∀ j, j < i → listed.getD j false = true := fun j hj => hbef j (by omega) (hB.tail i j hiN hilt hj)
    have hiN' : i = N := by
     rcases Nat.lt_or_ge N i with h | h
     ·have h2 := ht.1 N (Nat.le_refl _)
      rw [hall N h] at h2; cases h2
     ·omega
    subst hiN'
    have ha := whole listed T a ht.1 hall hF
    have hw := hend T w ⟨_, Nat.le_trans (sumCost_le _) htot, hC, fun p hp => hR p (by omega) (hall p hp)⟩
    rw [← ha] at hw
    have hdr : ops.toList.drop i = o :: ops.toList.drop (i + 1) := by
     rw [List.drop_eq_getElem_cons (by simpa using hilt)]
     congr 1
     have := (Array.getElem?_eq_some_iff.1 ho).2
     simpa using this
    rw [hdr] at hw
    have hwop : wpOp P ops Q i (wpList P ops Q (ops.toList.drop (i + 1))) a w := by unfold wpOp; simp only [ho]; exact hw
    refine wpOp_mono (fun a' w' h' => ih _ _ _ hsz' hf' hd' (.inr ⟨i + 1, by omega, by omega, fun j hj => ?_, h'⟩)) hwop
    rw [hset j]
    constructor
    ·rintro (rfl | hl)
     ·omega
     ·rcases Nat.lt_or_ge j i with h | h
      ·omega
      ·rw [ht.1 j h] at hl; cases hl
    ·intro hj'
     by_cases hji : j = i
     ·exact .inl hji
     ·exact .inr (hall j (by omega))
  ·-- a step of the tail
   have hik : i = k := by
    have hnl := (getD_false h1).2
    have h2 : ¬ i < k := fun hlt => by rw [(hk3 i hilt).2 hlt] at hnl; cases hnl
    rcases Nat.lt_or_ge k i with h | h
    ·have h3 := hbef k (by omega) (hB.tail i k (by omega) hilt h)
     have := (hk3 k (by omega)).1 h3; omega
    ·omega
   subst hik
   have hdr : ops.toList.drop i = o :: ops.toList.drop (i + 1) := by
    rw [List.drop_eq_getElem_cons (by simpa using hilt)]
    congr 1
    have := (Array.getElem?_eq_some_iff.1 ho).2
    simpa using this
   rw [hdr] at hk4
   have hwop : wpOp P ops Q i (wpList P ops Q (ops.toList.drop (i + 1))) a w := by unfold wpOp; simp only [ho]; exact hk4
   refine wpOp_mono (fun a' w' h' => ih _ _ _ hsz' hf' hd' (.inr ⟨i + 1, by omega, by omega, fun j hj => ?_, h'⟩)) hwop
   rw [hset j, hk3 j hj]
   omega

/-- what the forerunners have left -/
def AfterAll (R : Nat → Value → Nat → World → Prop) (T : Nat → Value) (n : Nat) (w : World) : List Edge → Prop
 | [] => True
 | e :: l => match Region.binds .any e with
  | true => R e.on (T e.on) n w ∧ AfterAll R T n w l
  | false => AfterAll R T n w l

theorem afterAll_of {R : Nat → Value → Nat → World → Prop} {T : Nat → Value} {n : Nat} {w : World} : ∀ (l : List Edge), (∀ e ∈ l, Region.binds .any e = true → R e.on (T e.on) n w) → AfterAll R T n w l
 | [], _ => trivial
 | e :: l, h => by
  have ih := afterAll_of l fun e' he' => h e' (List.mem_cons_of_mem _ he')
  unfold AfterAll
  cases hb : Region.binds .any e with
  | true => exact ⟨h e (List.mem_cons_self ..) hb, ih⟩
  | false => exact ih

/-- what is asked of operation i, put plainly -/
def Ob' (P : Program) (A : (Nat → Value) → Act) (R : Nat → Value → Nat → World → Prop) (C : (Nat → Value) → Nat → World → Prop) (S : Nat → World → Nat → World → Prop) (cost lim : Nat → Nat) (i : Nat) (o : Oper) : Prop :=
 ∀ (T : Nat → Value) (w : World) (n : Nat), T i = undef → C T n w → n ≤ lim i → AfterAll R T n w o.after.toList →
  match o.guard with
  | none => Op1 P o (A T).eval w fun v w' => R i v (n + cost i) w' ∧ C (on T i v) (n + cost i) w' ∧ S n w (n + cost i) w'
  | some (g, want) => (T g = .bool want → Op1 P o (A T).eval w fun v w' => R i v (n + cost i) w' ∧ C (on T i v) (n + cost i) w' ∧ S n w (n + cost i) w') ∧
    (T g ≠ .bool want → R i undef (n + cost i) w ∧ C (on T i undef) (n + cost i) w ∧ S n w (n + cost i) w)

/-- what is asked of each operation of the head -/
def ObAll (P : Program) (A : (Nat → Value) → Act) (R : Nat → Value → Nat → World → Prop) (C : (Nat → Value) → Nat → World → Prop) (S : Nat → World → Nat → World → Prop) (cost lim : Nat → Nat) : List Oper → Nat → Prop
 | [], _ => True
 | o :: l, k => Ob' P A R C S cost lim k o ∧ ObAll P A R C S cost lim l (k + 1)

theorem ObAll.get {A : (Nat → Value) → Act} : ∀ (l : List Oper) (k : Nat), ObAll P A R C S cost lim l k → ∀ (i : Nat) (o : Oper), l[i]? = some o → Ob' P A R C S cost lim (k + i) o
 | [], _, _, i, o, ho => by simp at ho
 | o' :: l, k, h, i, o, ho => by
  cases i with
  | zero => simp at ho; subst ho; exact h.1
  | succ i =>
   have := ObAll.get l (k + 1) h.2 i o (by simpa using ho)
   rwa [show k + (i + 1) = k + 1 + i by omega]

theorem ob_of {A : (Nat → Value) → Act} (hB : InvB ops N a0.tmps.size) (hE : edgeB ops = true) {i : Nat} {o : Oper} (ho : ops[i]? = some o) (hi : i < N) (hA : ∀ T, setAll (ops.toList.take N) 0 T a0 = A T) (h : Ob' P A R C S cost lim i o) : Ob P ops a0 R C S cost lim N i o := by
 intro T w n hU hC hn hp
 have hlt := (Array.getElem?_eq_some_iff.1 ho).1
 have hE' := hE
 simp only [edgeB, List.all_eq_true, List.mem_range] at hE'
 have hEi := hE' i hlt
 simp only [ho, Bool.and_eq_true] at hEi
 obtain ⟨he1, he2⟩ := hEi
 rw [Array.all_eq_true_iff_forall_mem] at he1
 have hAft : AfterAll R T n w o.after.toList := afterAll_of _ fun e he hb => by
  have hm : e ∈ o.after := by simpa using he
  have h1 := he1 e hm
  simp only [hb, Bool.not_true, Bool.false_or] at h1
  exact hp e.on (by have := hB.back i o e ho hm hb; omega) h1
 have h0 := h T w n hU hC hn hAft
 unfold Region.wanted
 cases hg : o.guard with
 | none =>
  simp only [hg] at h0
  rw [hA T]
  exact h0
 | some gw =>
  obtain ⟨g, want⟩ := gw
  simp only [hg] at h0 he2
  obtain ⟨hbg, hgs⟩ := hB.guard i o g want ho hg
  obtain ⟨og, hog⟩ : ∃ og, ops[g]? = some og := ⟨ops[g], Array.getElem?_eq_getElem hgs⟩
  simp only [hog, Option.bind_some] at he2
  obtain ⟨d, hd⟩ := Option.isSome_iff_exists.1 he2
  have hgi : g < i := by
   have : ∀ k, ∀ (i : Nat) (o : Oper), i < k → ops[i]? = some o → ∀ p, p < ops.size → bef ops i p = true → p < i := by
    intro k
    induction k with
    | zero => intro i o hk; omega
    | succ k ih =>
     intro i o hk hio p hps hb
     obtain ⟨e, he, hbi, hor⟩ := hB.clos i p o hio hps hb
     have h5 := hB.back i o e hio he hbi
     rcases hor with rfl | hor
     ·exact h5
     ·obtain ⟨o', ho'⟩ : ∃ o', ops[e.on]? = some o' := ⟨ops[e.on]'(by have := (Array.getElem?_eq_some_iff.1 hio).1; omega), Array.getElem?_eq_getElem _⟩
      have := ih e.on o' (by omega) ho' p hps hor
      omega
   exact this (i + 1) i o (by omega) ho g hgs hbg
  have hts : d < a0.tmps.size := hB.size g og d hog hd
  have hget : (setAll (ops.toList.take N) 0 T a0).tmps[d]? = some (T g) := by
   rw [setAll_get T d _ 0 a0 hts]
   cases hw : lastW d (ops.toList.take N) 0 with
   | some j =>
    obtain ⟨_, o', ho', hd'⟩ := lastW_some _ _ hw
    simp only [Nat.sub_zero, List.getElem?_take] at ho'
    split at ho'
    ·have hj : ops[j]? = some o' := by simpa using ho'
     have := hB.uniq j g o' og d hj hog hd' hd
     simp [this]
    ·cases ho'
   | none =>
    exfalso
    exact lastW_none _ _ hw g og (by rw [List.getElem?_take, if_pos (by omega)]; simpa using hog) hd
  have hy : yielded ops (setAll (ops.toList.take N) 0 T a0).tmps g = match T g with | .bool b => some b | _ => none := by
   unfold yielded
   simp only [hog, Option.bind_some, hd, hget]
   cases T g <;> rfl
  simp only [hy]
  by_cases hT : T g = .bool want
  ·simp only [hT]
   simp only [beq_self_eq_true, if_true]
   rw [hA T]
   exact h0.1 hT
  ·have hf : ((match T g with | .bool b => some b | _ => none) == some want) = false := by
    cases hv : T g <;> simp
    intro e
    exact hT (by rw [hv, e])
   simp only [hf]
   exact h0.2 hT
end

/-- A REGION THAT DRAWS ITS ORDER, BY AN INVARIANT. N: the operations of the head; the others wait for all before them. -/
theorem wp_region_lim {P : Program} {Q : Exit → Act → World → Prop} {id : Nat} {l : List Oper} {a0 : Act} {w : World} (N total : Nat) (R : Nat → Value → Nat → World → Prop) (C : (Nat → Value) → Nat → World → Prop) (S : Nat → World → Nat → World → Prop) (cost lim : Nat → Nat)
  (hm : P.follows .mixedOrders = true) (hB : (invB l.toArray N a0.tmps.size && edgeB l.toArray) = true) (htot : sumCost cost (Array.replicate l.toArray.size true) l.toArray.size ≤ total) (hlm : limB l.toArray N total cost lim = true)
  (hS : ∀ p v n w n' w', R p v n w → S n w n' w' → R p v n' w') (hC : ∀ T, C T 0 w.drew)
  (h : ∃ A : (Nat → Value) → Act, (∀ T, setAll (l.take N) 0 T a0 = A T) ∧ ObAll P A R C S cost lim (l.take N) 0 ∧
   ∀ T w', (∃ n, n ≤ total ∧ C T n w' ∧ ∀ p, p < N → R p (T p) n w') → wpList P l.toArray Q (l.drop N) (A T) w') :
  (Code.region id l.toArray true).wp P Q a0 w := by
 obtain ⟨A, hA, hob, hend⟩ := h
 simp only [Bool.and_eq_true] at hB
 refine wp_region_any hm ?_
 have key := region_any (P := P) (Q := Q) (ops := l.toArray) (a0 := a0) (R := R) (C := C) (S := S) (cost := cost) (lim := lim) (total := total) (invB_spec hB.1) hS htot (limB_spec hlm)
  (fun i o ho hi => ob_of (invB_spec hB.1) hB.2 ho hi (fun T => by simpa using hA T) (by
   have := ObAll.get _ _ hob i o (by rw [List.getElem?_take, if_pos hi]; simpa using ho)
   simpa using this))
  (fun T w' hc => by
   have := hend T w' hc
   rw [← hA T] at this
   simpa using this)
  l.toArray.size (Array.replicate l.toArray.size false) a0 w.drew (by simp)
 have h0 : ∀ j, (Array.replicate l.toArray.size false).getD j false = false := fun j => getD_replicate_false _ _
 have hz : ∀ (c : Nat → Nat) k, sumCost c (Array.replicate l.toArray.size false) k = 0 := by
  intro c k
  induction k with
  | zero => rfl
  | succ k ih => simp only [sumCost, ih, h0]; rfl
 have hF : Fits l.toArray a0 (Array.replicate l.toArray.size false) (fun _ => undef) a0 := by
  refine ⟨rfl, rfl, ?_, fun t _ => rfl⟩
  intro j o d _ hl
  rw [h0] at hl
  cases hl
 refine key (by simp only [cnt, hz]; omega) ?_ (.inl ⟨fun _ => undef, ⟨fun j _ => h0 j, fun _ _ => rfl⟩, hF, by rw [hz]; exact hC _, ?_⟩)
 ·intro j _ hl
  rw [h0] at hl
  cases hl
 ·intro j _ hl
  rw [h0] at hl
  cases hl
end Go.Proofs.Ytakjopbdkkcnlaa.Lt

namespace Go.Proofs.Ytakjopbdkkcnlaa
open Go.RowKit Go
set_option linter.unusedVariables false

theorem wpList_op1 {P : Program} {ops : Array Oper} {rest : List Oper} {o : Oper} {a : Act} {w : World} {Q : Exit → Act → World → Prop} (hg : o.guard = none) (h : Op1 P o a.eval w fun v w' => wpList P ops Q rest (a.put o.dst v) w') : wpList P ops Q (o :: rest) a w :=
 wpList_plain hg fun _ hK => Op1.wp h fun v w' hq => hK _ _ hq
theorem subV_some (a : Addr) (c l h : Nat) : ∃ a', subV (some a) c l h = .slice (some a') (h - l) (c - l) := by
 unfold subV
 by_cases e : c = l
 ·exact ⟨a, by rw [if_pos e]⟩
 ·exact ⟨a.add l, by rw [if_neg e]; rfl⟩
theorem cloneSub {B : Nat} {w : World} {a : Addr} {n c l : Nat} {L : List UInt8} (hR : Rb B w (.slice (some a) n c) L) (hl : l ≤ n) (hn : n ≤ 1000000) :
  Calls Try.prog 79 #[subV (some a) c l n] w fun e w' => ∃ v, e = .returned v ∧ OwnB w' w.heap.size v (L.drop l) ∧ Below w.heap.size w w' := by
 obtain ⟨h1, h2, h3⟩ := hR.len
 have h := hR.sub l (n - l) (by omega)
 rw [show l + (n - l) = n by omega] at h
 rw [show sb L l (n - l) = L.drop l by rw [h1]; exact sb_all L l] at h
 obtain ⟨a', e⟩ := subV_some a c l n
 rw [e] at h ⊢
 exact cloneB_rb h (by rw [List.length_drop]; omega)
theorem equal_rb {B1 B2 : Nat} {w : World} {u v : Value} {L M : List UInt8} (h1 : Rb B1 w u L) (h2 : Rb B2 w v M) :
  Calls Try.prog 23 #[u, v] w (Ret (.bool (decide (L = M))) w) := by
 obtain ⟨a1, c1, rfl, r1, -⟩ := h1
 obtain ⟨a2, c2, rfl, r2, -⟩ := h2
 refine (equalB_any a1 a2 c1 c2 L M w r1 r2).mono ?_
 rintro e w' ⟨rfl, k, rfl⟩
 exact ⟨rfl, below_drewN (Below.refl _ _) k⟩
/-- a block set as a whole -/
theorem RS.later2 {w0 : World} {P B : Nat} {b : Value} {L : List UInt8} {x : PV} {w w' : World} (h : RS w0 P B b L x w) (hg : w.grownBy w' (some P)) {x' : PV} (hp : PBlk w' P x') : RS w0 P B b L x' w' :=
 ⟨grown_trans h.g hg, hp, h.rb.below ⟨hg.os, hg.tape, hg.output, hg.size, fun i hi => hg.block i (by have := h.bs; have := h.g.size; omega) (by have := h.bp; intro e; injection e; omega)⟩, h.bp, h.bs⟩
theorem rb_kept {B P : Nat} {w w' : World} {v : Value} {L : List UInt8} (h : OwnB w B v L) (hl : L.length ≤ 1000000) {x x' : PV} (hp : PBlk w P x) (i : Nat) (u : Value) (hw : w' = w.setCell ⟨P, i, none⟩ u) : Rb w'.heap.size w' v L := by
 subst hw
 exact (h.setCell hp i u).rb hl
theorem results_cr2 {P : Program} {fn : Func} {p u : Tmp} {ty : TypeId} (h : fn.results = #[.cell p ty, .tmp u]) (tmps : Array Value) (w : World) (g : Nat) (t : TypeId) (cs : Array Value) (fr : Nat × Nat) (d : TypeDesc)
  (hp : tmps.getD p undef = .pointer (some ⟨g, 0, none⟩)) (hg : w.heap[g]? = some (.cells cs t fr))
  (hu : P.underlying ty = some d) (hd : (match d with | .struct _ | .array _ _ => true | _ => false) = true) (hi : (P.info? ty).map (·.size) = some cs.size) {y : Value} (hy : tmps.getD u undef = y) :
  (results fn tmps).run P w = .ok (.tuple #[.agg cs, y]) w := by
 have hp' : tmps[p]?.getD undef = .pointer (some ⟨g, 0, none⟩) := by simpa using hp
 have hy' : tmps[u]?.getD undef = y := by simpa using hy
 simp [results, h, hp', hy', asAddr, run_loadVar_row w g t ty cs fr d hg hu hd hi]
theorem results_cr3 {P : Program} {fn : Func} {p u u2 : Tmp} {ty : TypeId} (h : fn.results = #[.cell p ty, .tmp u, .tmp u2]) (tmps : Array Value) (w : World) (g : Nat) (t : TypeId) (cs : Array Value) (fr : Nat × Nat) (d : TypeDesc)
  (hp : tmps.getD p undef = .pointer (some ⟨g, 0, none⟩)) (hg : w.heap[g]? = some (.cells cs t fr))
  (hu : P.underlying ty = some d) (hd : (match d with | .struct _ | .array _ _ => true | _ => false) = true) (hi : (P.info? ty).map (·.size) = some cs.size) {y z : Value} (hy : tmps.getD u undef = y) (hz : tmps.getD u2 undef = z) :
  (results fn tmps).run P w = .ok (.tuple #[.agg cs, y, z]) w := by
 have hp' : tmps[p]?.getD undef = .pointer (some ⟨g, 0, none⟩) := by simpa using hp
 have hy' : tmps[u]?.getD undef = y := by simpa using hy
 have hz' : tmps[u2]?.getD undef = z := by simpa using hz
 simp [results, h, hp', hy', hz', asAddr, run_loadVar_row w g t ty cs fr d hg hu hd hi]
theorem subV_go (g o c l h : Nat) : ∃ o', subV (some ⟨g, o, none⟩) c l h = .slice (some ⟨g, o', none⟩) (h - l) (c - l) := by
 unfold subV
 by_cases e : c = l
 ·exact ⟨o, by rw [if_pos e]⟩
 ·exact ⟨o + l, by rw [if_neg e]; simp [Addr.add]⟩
theorem grown_to_below {B P : Nat} {w w1 w2 : World} (h : Below B w w1) (k : w1.grownBy w2 (some P)) (hP : B ≤ P) (hB : B ≤ w1.heap.size) : Below B w w2 :=
 h.trans ⟨k.os, k.tape, k.output, k.size, fun i hi => k.block i (by omega) (by intro e; injection e; omega)⟩
theorem grown_blk {P A : Nat} {w1 w2 : World} {x : PV} (k : w1.grownBy w2 (some P)) (hA : PBlk w1 A x) (hne : A ≠ P) : PBlk w2 A x :=
 (k.block A (Blk.lt hA) (by intro e; injection e with e; exact hne e)).trans hA
/-- what reading a packet leaves -/
def PktR (L : List UInt8) (w : World) (e : Ending) (w' : World) : Prop :=
 Below w.heap.size w w' ∧ ((rdE L 3 15 4 = 0 ∧ ∃ v, e = .returned (.tuple #[.agg ((rdX L).pv v).cells, .int .i64 0]) ∧ Rb w'.heap.size w' v (rdPay L)) ∨
  (rdE L 3 15 4 ≠ 0 ∧ e = .returned (.tuple #[.agg PV.zero.cells, .int .i64 ((rdE L 3 15 4 : Nat) : Int)])))
theorem PktR.bad {L : List UInt8} {w w' : World} {e : Ending} {k : Nat} (hb : Below w.heap.size w w') (hk : rdE L 3 15 4 = k) (h0 : k ≠ 0) (he : e = .returned (.tuple #[.agg PV.zero.cells, .int .i64 ((k : Nat) : Int)])) : PktR L w e w' :=
 ⟨hb, .inr ⟨by rw [hk]; exact h0, by rw [hk]; exact he⟩⟩
/-- what reading a part leaves -/
def PartR (x : NP) (D : List UInt8) (w : World) (P B : Nat) (b : Value) (e : Ending) (w' : World) : Prop :=
 (prtOk x D ∧ e = .returned (.bool true) ∧ ∃ v, RS w P B b D ((prtX x D).pv v) w' ∧ OwnB w' w.heap.size v (D.drop (leastN x.proto))) ∨ (¬ prtOk x D ∧ e = .returned (.bool false) ∧ w.grownBy w' (some P))
theorem readPart_post {x : NP} {D : List UInt8} {w : World} {P B : Nat} {b : Value} {e : Ending} {w' : World} (h : PartR x D w P B b e w') : ∃ bb : Bool, e = .returned (.bool bb) ∧ ((bb = true ∧ prtOk x D ∧ ∃ v, RS w P B b D ((prtX x D).pv v) w' ∧ OwnB w' w.heap.size v (D.drop (leastN x.proto))) ∨ (bb = false ∧ ¬ prtOk x D ∧ w.grownBy w' (some P))) := by
 rcases h with ⟨h1, h2, h3⟩ | ⟨h1, h2, h3⟩
 ·exact ⟨true, h2, .inl ⟨rfl, h1, h3⟩⟩
 ·exact ⟨false, h2, .inr ⟨rfl, h1, h3⟩⟩
theorem headE4 (L : List UInt8) (h20 : 20 ≤ L.length) (h0 : ub L 0 = 69) : headE L 3 15 4 = if ¬ sum4 L then 15 else if ¬ form4 L then 3 else if known (x4 L).proto then 0 else 4 := by
 unfold headE
 rw [if_neg (by omega), if_pos (show L.getD 0 0 = 69 from h0)]
theorem headE6 (L : List UInt8) (h20 : 20 ≤ L.length) (h0 : ub L 0 = 96) : headE L 3 15 4 = if ¬ form6 L then 3 else if known (x6 L).proto then 0 else 4 := by
 unfold headE
 rw [if_neg (by omega), if_neg (by rw [show L.getD 0 0 = 96 from h0]; decide), if_pos (show L.getD 0 0 = 96 from h0)]
theorem headIs4 (L : List UInt8) (h0 : ub L 0 = 69) : headX L = x4 L ∧ headAt L = 20 ∧ rdBody L = L.drop 20 := by
 have h : L.getD 0 0 = 69 := h0
 refine ⟨by unfold headX; rw [if_pos h], by unfold headAt; rw [if_pos h], by unfold rdBody headAt; rw [if_pos h]⟩
theorem headIs6 (L : List UInt8) (h0 : ub L 0 = 96) : headX L = x6 L ∧ headAt L = 40 ∧ rdBody L = L.drop 40 := by
 have h : ¬ L.getD 0 0 = 69 := by rw [show L.getD 0 0 = 96 from h0]; decide
 refine ⟨by unfold headX; rw [if_neg h], by unfold headAt; rw [if_neg h], by unfold rdBody headAt; rw [if_neg h]⟩
theorem rdE_head {L : List UInt8} {k : Nat} (h : headE L 3 15 4 = k) (hk : k ≠ 0) : rdE L 3 15 4 = k := by
 unfold rdE; rw [if_pos (by rw [h]; exact hk)]; exact h
theorem rdE_part {L : List UInt8} (h : headE L 3 15 4 = 0) (hp : ¬ prtOk (headX L) (rdBody L)) : rdE L 3 15 4 = 3 := by
 unfold rdE; rw [if_neg (by rw [h]; decide), if_pos hp]
theorem rdE_sum {L : List UInt8} (h : headE L 3 15 4 = 0) (hp : prtOk (headX L) (rdBody L)) (hs : ¬ sumOk L) : rdE L 3 15 4 = 15 := by
 unfold rdE; rw [if_neg (by rw [h]; decide), if_neg (not_not_intro hp), if_pos hs]
theorem rdE_ok {L : List UInt8} (h : headE L 3 15 4 = 0) (hp : prtOk (headX L) (rdBody L)) (hs : sumOk L) : rdE L 3 15 4 = 0 := by
 unfold rdE; rw [if_neg (by rw [h]; decide), if_neg (not_not_intro hp), if_neg (not_not_intro hs)]
theorem known_ports (p : Nat) : ((p : Int) == 1 || hasPorts (p : Int)) = decide (known p) := by
 unfold hasPorts
 by_cases h1 : p = 1
 ·subst h1; rfl
 by_cases h6 : p = 6
 ·subst h6; rfl
 by_cases h17 : p = 17
 ·subst h17; rfl
 rw [beq_eq_false_iff_ne.2 (show (p : Int) ≠ 1 by omega), beq_eq_false_iff_ne.2 (show (p : Int) ≠ 6 by omega), beq_eq_false_iff_ne.2 (show (p : Int) ≠ 17 by omega), decide_eq_false (fun h => by unfold known at h; omega)]
 rfl
end Go.Proofs.Ytakjopbdkkcnlaa

namespace Go.Proofs.Ytakjopbdkkcnlaa
open Go.RowKit Go
set_option linter.unusedVariables false

set_option maxRecDepth 100000 in
set_option maxHeartbeats 1000000 in
theorem index3 (g : Nat) (a0 a1 a2 k : Int) (w : World) (h0 : w.cell? ⟨g, 0, none⟩ = some (.int .i64 a0)) (h1 : w.cell? ⟨g, 1, none⟩ = some (.int .i64 a1)) (h2 : w.cell? ⟨g, 2, none⟩ = some (.int .i64 a2)) (r : Int)
  (hr : (k = a0 ∧ r = 0) ∨ (k ≠ a0 ∧ k = a1 ∧ r = 1) ∨ (k ≠ a0 ∧ k ≠ a1 ∧ k = a2 ∧ r = 2) ∨ (k ≠ a0 ∧ k ≠ a1 ∧ k ≠ a2 ∧ r = -1)) :
  Calls Try.prog 105 #[.slice (some ⟨g, 0, none⟩) 3 3, .int .i64 k] w fun e w' => e = .returned (.int .i64 r) ∧ ∃ n, w' = w.drewN n := by
 go_enter Try.func105, Try.ntmps105
 go_wp2_with fail
 rcases hr with ⟨rfl, rfl⟩ | ⟨e0, rfl, rfl⟩ | ⟨e0, e1, rfl, rfl⟩ | ⟨e0, e1, e2, rfl⟩
 all_goals
  refine wp_loop_rounds 4 ?_
  rw [rounds_succ]
  go_wp2_with (rw [rounds_succ])
  go_ret
  exact ⟨rfl, 0, rfl⟩
set_option maxRecDepth 100000 in
theorem contains3 (g : Nat) (a0 a1 a2 k : Int) (w : World) (h0 : w.cell? ⟨g, 0, none⟩ = some (.int .i64 a0)) (h1 : w.cell? ⟨g, 1, none⟩ = some (.int .i64 a1)) (h2 : w.cell? ⟨g, 2, none⟩ = some (.int .i64 a2)) :
  Calls Try.prog 104 #[.slice (some ⟨g, 0, none⟩) 3 3, .int .i64 k] w (Ret (.bool (decide (k = a0 ∨ k = a1 ∨ k = a2))) w) := by
 by_cases e0 : k = a0
 ·have Hx := Lib.hid (index3 g a0 a1 a2 k w h0 h1 h2 0 (.inl ⟨e0, rfl⟩))
  have Hd : Hid (decide (k = a0 ∨ k = a1 ∨ k = a2) = true) := Lib.hid (decide_eq_true (.inl e0))
  generalize decide (k = a0 ∨ k = a1 ∨ k = a2) = z at *
  clear h0 h1 h2 e0
  go_enter Try.func104, Try.ntmps104
  go_wp2_with fail
  refine Hx.out.mono ?_
  rintro e w' ⟨rfl, n, rfl⟩
  go_wp2_with fail
  go_ret
  exact ⟨by rw [Hd.out]; rfl, below_drewN (Below.refl _ _) n⟩
 by_cases e1 : k = a1
 ·have Hx := Lib.hid (index3 g a0 a1 a2 k w h0 h1 h2 1 (.inr (.inl ⟨e0, e1, rfl⟩)))
  have Hd : Hid (decide (k = a0 ∨ k = a1 ∨ k = a2) = true) := Lib.hid (decide_eq_true (.inr (.inl e1)))
  generalize decide (k = a0 ∨ k = a1 ∨ k = a2) = z at *
  clear h0 h1 h2 e0 e1
  go_enter Try.func104, Try.ntmps104
  go_wp2_with fail
  refine Hx.out.mono ?_
  rintro e w' ⟨rfl, n, rfl⟩
  go_wp2_with fail
  go_ret
  exact ⟨by rw [Hd.out]; rfl, below_drewN (Below.refl _ _) n⟩
 by_cases e2 : k = a2
 ·have Hx := Lib.hid (index3 g a0 a1 a2 k w h0 h1 h2 2 (.inr (.inr (.inl ⟨e0, e1, e2, rfl⟩))))
  have Hd : Hid (decide (k = a0 ∨ k = a1 ∨ k = a2) = true) := Lib.hid (decide_eq_true (.inr (.inr e2)))
  generalize decide (k = a0 ∨ k = a1 ∨ k = a2) = z at *
  clear h0 h1 h2 e0 e1 e2
  go_enter Try.func104, Try.ntmps104
  go_wp2_with fail
  refine Hx.out.mono ?_
  rintro e w' ⟨rfl, n, rfl⟩
  go_wp2_with fail
  go_ret
  exact ⟨by rw [Hd.out]; rfl, below_drewN (Below.refl _ _) n⟩
 ·have Hx := Lib.hid (index3 g a0 a1 a2 k w h0 h1 h2 (-1) (.inr (.inr (.inr ⟨e0, e1, e2, rfl⟩))))
  have Hd : Hid (decide (k = a0 ∨ k = a1 ∨ k = a2) = false) := Lib.hid (decide_eq_false (by rintro (h | h | h) <;> contradiction))
  generalize decide (k = a0 ∨ k = a1 ∨ k = a2) = z at *
  clear h0 h1 h2 e0 e1 e2
  go_enter Try.func104, Try.ntmps104
  go_wp2_with fail
  refine Hx.out.mono ?_
  rintro e w' ⟨rfl, n, rfl⟩
  go_wp2_with fail
  go_ret
  exact ⟨by rw [Hd.out]; rfl, below_drewN (Below.refl _ _) n⟩
/-- what reading a head leaves, in the reference -/
def HeadR (L : List UInt8) (w : World) (e : Ending) (w' : World) : Prop :=
 Below w.heap.size w w' ∧ ((headE L 3 15 4 = 0 ∧ e = .returned (.tuple #[.agg ((headX L).pv (.slice none 0 0)).cells, .int .i64 ((headAt L : Nat) : Int), .int .i64 0])) ∨
  (headE L 3 15 4 ≠ 0 ∧ ∃ x : PV, x.pay = .slice none 0 0 ∧ e = .returned (.tuple #[.agg x.cells, .int .i64 0, .int .i64 ((headE L 3 15 4 : Nat) : Int)])))
theorem HeadR.bad {L : List UInt8} {w w' : World} {e : Ending} {k : Nat} (hb : Below w.heap.size w w') (hk : headE L 3 15 4 = k) (h0 : k ≠ 0) (x : PV) (hx : x.pay = .slice none 0 0) (he : e = .returned (.tuple #[.agg x.cells, .int .i64 0, .int .i64 ((k : Nat) : Int)])) : HeadR L w e w' :=
 ⟨hb, .inr ⟨by rw [hk]; exact h0, x, hx, by rw [hk]; exact he⟩⟩
theorem HeadR.good {L : List UInt8} {w w' : World} {x : NP} {k : Nat} (hb : Below w.heap.size w w') (hk : headE L 3 15 4 = 0) (hx : (headX L).pv (.slice none 0 0) = x.pv (.slice none 0 0)) (ha : headAt L = k) :
  HeadR L w (.returned (.tuple #[.agg (x.pv (.slice none 0 0)).cells, .int .i64 ((k : Nat) : Int), .int .i64 0])) w' :=
 ⟨hb, .inl ⟨hk, by rw [hx, ha]⟩⟩
theorem num4_zero (L : List UInt8) (h : 8 ≤ L.length) : num (sb L 4 4) = 0 ↔ ub L 4 = 0 ∧ ub L 5 = 0 ∧ ub L 6 = 0 ∧ ub L 7 = 0 := by
 rw [sb_cut L 4 1 3 5 4 rfl rfl, sb_cut L 5 1 2 6 3 rfl rfl, sb_cut L 6 1 1 7 2 rfl rfl, sb_one L 4 (by omega), sb_one L 5 (by omega), sb_one L 6 (by omega), sb_one L 7 (by omega)]
 change num [ub L 4, ub L 5, ub L 6, ub L 7] = 0 ↔ _
 rw [num_cons, num_cons, num_cons, num_cons, ← UInt8.toNat_inj, ← UInt8.toNat_inj, ← UInt8.toNat_inj, ← UInt8.toNat_inj]
 simp [num]
 omega
theorem num3_zero (L : List UInt8) (h : 4 ≤ L.length) : num (sb L 1 3) = 0 ↔ ub L 1 = 0 ∧ ub L 2 = 0 ∧ ub L 3 = 0 := by
 rw [sb_cut L 1 1 2 2 3 rfl rfl, sb_cut L 2 1 1 3 2 rfl rfl, sb_one L 1 (by omega), sb_one L 2 (by omega), sb_one L 3 (by omega)]
 change num [ub L 1, ub L 2, ub L 3] = 0 ↔ _
 rw [num_cons, num_cons, num_cons, ← UInt8.toNat_inj, ← UInt8.toNat_inj, ← UInt8.toNat_inj]
 simp [num]
 omega
end Go.Proofs.Ytakjopbdkkcnlaa
