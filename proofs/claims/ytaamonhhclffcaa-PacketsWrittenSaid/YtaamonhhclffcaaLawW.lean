/-
  The law PacketsWritten: walked.
-/
import Derived.Test.YtaamonhhclffcaaPktGenB
import Derived.Test.YtaamonhhclffcaaPktE
import Derived.Test.YtaamonhhclffcaaPktFr
import Derived.Test.YtaamonhhclffcaaQBsix
import Derived.Test.YtaamonhhclffcaaQBfour
import Derived.Test.YtaamonhhclffcaaQBicmp
import Derived.Test.YtaamonhhclffcaaLawTurned
import Derived.OwnWalk
namespace Go.Proofs.Ytaamonhhclffcaa
open Go.RowKit Go
set_option linter.unusedVariables false

theorem pktBytes_any (x : NP) (hx : x.fit) (pa : Option Addr) (pc : Nat) (pay : List UInt8) (w : World) (hr : Rb w.heap.size w (.slice pa pay.length pc) pay) (hpl : pay.length ≤ 1400) :
    Calls Try.prog 24 #[.agg (x.pv (.slice pa pay.length pc)).cells] w fun e w' => ∃ v, e = .returned v ∧ OwnB w' w.heap.size v (pktB x pay) ∧ Below w.heap.size w w' := by
  rcases hs : x.s1 with _ | _
  · by_cases hq : x.proto = 1
    · exact pktBytes_icmp x hx pa pc pay w hr hpl hs hq
    · exact pktBytes_four x hx pa pc pay w hr hpl hs hq
  · exact pktBytes_six x hx pa pc pay w hr hpl hs
theorem pktB_len {y : NP} (hy : y.fit) {pay : List UInt8} (h : pay.length ≤ 1400) : (pktB y pay).length ≤ 1000000 := by
  have h1 := bodyB_len y pay
  have h2 := headB_len y (bodyB y pay).length
  have h3 : leastN y.proto ≤ 20 := by unfold leastN; split <;> omega
  unfold pktB
  split
  · simp [be_len, addrB_len]
    (repeat' split) <;> omega
  · simp [setSum_len]
    omega
theorem flow_ob {c : RC} (hB : c.fine) {n : Nat} {w : World} (hC : c.C n w) (x : PV) (fl : FV) (h : x.flow = fl) :
    Calls Try.prog 25 #[.agg x.cells] w fun e w' => ∃ v', e = .returned v' ∧ Ds.R c (.val (.agg fl.cells)) v' n w' ∧ c.C n w' ∧ c.S n w n w' := by
  subst h
  exact ret_ob hB hC (flowFrom_any x w)
theorem equal_ob {c : RC} (hB : c.fine) {n : Nat} {w : World} (hC : c.C n w) {B1 B2 : Nat} {u v : Value} {L : List UInt8} (h1 : Rb B1 w u L) (h2 : Rb B2 w v L) :
    Calls Try.prog 23 #[u, v] w fun e w' => ∃ v', e = .returned v' ∧ Ds.R c (.val (.bool true)) v' n w' ∧ c.C n w' ∧ c.S n w n w' := by
  obtain ⟨a1, c1, rfl, r1, -⟩ := h1
  obtain ⟨a2, c2, rfl, r2, -⟩ := h2
  refine (equalB_any a1 a2 c1 c2 L L w r1 r2).mono ?_
  rintro e w' ⟨rfl, k, rfl⟩
  have hb : Below w.heap.size w (w.drewN k) := below_drewN (Below.refl _ _) k
  exact ⟨_, rfl, by simp [Ds.R], hC.later hB hb, RC.S.later hB hC hb⟩
theorem made_zero (n : Nat) : (madeCells #[.int .u8 0] n).toList = encBs (List.replicate n 0) := by
  simp only [madeCells, encBs, List.map_replicate]
  refine List.eq_replicate_iff.2 ⟨by simp, fun b hb => ?_⟩
  simp [Nat.mod_one] at hb
  rw [← hb.2]
  rfl

/-- what the law's second half wants of its packet -/
structure LS (w : World) (F : Nat) (x : PV) (pa : Option Addr) (pc : Nat) (pay : List UInt8) (w0 : World) : Prop where
  p : PBlk w F x
  ok : x.ok
  ph : x.pay = .slice pa pay.length pc
  rb : Rb w.heap.size w (.slice pa pay.length pc) pay
  len : pay.length ≤ 1401
  bl : Below w0.heap.size w0 w
  lt : F < w.heap.size
theorem LS.later {w w' : World} {F : Nat} {x : PV} {pa : Option Addr} {pc : Nat} {pay : List UInt8} {w0 : World} (h : LS w F x pa pc pay w0) (hb : Below w.heap.size w w') : LS w' F x pa pc pay w0 :=
  ⟨Blk.below h.p hb h.lt, h.ok, h.ph, (h.rb.below hb).mono hb.size, h.len, h.bl.trans (hb.mono h.bl.size), Nat.lt_of_lt_of_le h.lt hb.size⟩
theorem LS.ofOwn {w : World} {F B : Nat} {x : PV} {pay : List UInt8} {w0 : World} (p : PBlk w F x) (ok : x.ok) (hO : OwnB w B x.pay pay) (hl : pay.length ≤ 1401) (bl : Below w0.heap.size w0 w) : ∃ pa pc, LS w F x pa pc pay w0 := by
  have hr := hO.rb (by omega)
  obtain ⟨ad, c, e, hr'⟩ := id hr
  exact ⟨ad, c, p, ok, e, e ▸ hr, hl, bl, Blk.lt p⟩

set_option maxRecDepth 100000 in
set_option maxHeartbeats 8000000 in
theorem law_PacketsWritten (ad : Option Addr) (n c : Nat) (w : World) (h : LawArg w ad n) :
    Calls Try.prog 4 #[.slice ad n c] w (Ret (.bool true) w) := by
  have hS := LawArg.strm (c := c) h
  go_enter Try.func4, Try.ntmps4
  go_wp2_with fail
  refine (packet_gen w.heap.size 0 _ hS (by omega)).mono ?_
  rintro e w1 ⟨x, L, rfl, hok, hO, hL, hg⟩
  have HL := Lib.hid hL
  have HG1 := Lib.hid (hg.alloc (.cells PV.zero.cells 45 (0, 0)))
  have HO := Lib.hid (hO.alloc (.cells PV.zero.cells 45 (0, 0)))
  have hs1 := hg.s.lt
  have hF0 : PBlk (w1.alloc (.cells PV.zero.cells 45 (0, 0))) w1.heap.size PV.zero := Blk.new w1 _ _
  have HF0 := Lib.hid hF0
  have Hok := Lib.hid hok
  have HB0 := Lib.hid ((below_alloc (Below.refl w.heap.size w) (.cells #[.slice ad n c, .int .i64 0] 25 (0, 0))))
  clear hO hL hF0 hok h hS
  go_wp2_with (refine wpList_store_row rfl 45 (.tmp 4) (.tmp 14) rfl w1.heap.size x.cells rfl rfl 45 _ HF0.out (by kernel_rfl) rfl (x.one Hok.out.2.2.2.2) ?_)
  have hsz1 : w.heap.size < w1.heap.size := hs1
  have HG2 := Lib.hid (Gen.setRow HG1.out (by have := hg.g.size; exact this) hs1 x.cells)
  have HF2 := Lib.hid (PBlk.store HF0.out x)
  have HO2 := Lib.hid (HO.out.setRow HF0.out x.cells)
  clear hg HG1 HO HF0
  generalize w1.heap.size = F at *
  generalize hw3 : (w1.alloc (.cells PV.zero.cells 45 (0, 0))).setRow F x.cells = w3 at *
  have hw3' : (w1.alloc (.cells #[.bool false, .int .u64 0, .int .u64 0, .bool false, .int .u64 0, .int .u64 0, .int .i64 0, .int .i64 0, .int .i64 0, .int .i64 0, .bool false, .bool false, .bool false, .bool false, .int .i64 0, .int .i64 0, .bool false, .int .i64 0, .slice none 0 0] 45 (0, 0))).setRow F x.cells = w3 := hw3
  rw [hw3']
  clear hw3 hw3'
  go_wp2_with fail
  refine (flip_gen w.heap.size _ _ _ HG2.out.s (by omega) (by omega)).mono ?_
  rintro e w4 ⟨k, rfl, hg⟩
  have HG4 := Lib.hid (HG2.out.trans hg)
  have HF4 : Hid (PBlk w4 F x) := Lib.hid (Blk.keep HF2.out hg.g (by omega))
  have HO4 := Lib.hid (HO2.out.gen hg (by simp))
  clear hg HG2 HF2 HO2
  go_upto_if 16 with fail
  go_cut [] (fun wx => ∃ x pa pc pay, LS wx F x pa pc pay w)
  case first =>
    cases k
    · go_wp2_with fail
      go_meet
      case rel =>
        have := LS.ofOwn (w0 := w) HF4.out Hok.out HO4.out (by have := HL.out; omega) (HG4.out.toBelow HB0.out (Nat.le_refl _))
        obtain ⟨pa, pc, h⟩ := this
        exact ⟨_, _, _, _, h⟩
    · go_wp2_with fail
      refine (pick_new w.heap.size _ _ _ _ _ [1400, 1401] _ HG4.out.s rfl (by omega) rfl (by decide) rfl).mono ?_
      rintro e w5 ⟨kk, rfl, hk, hg⟩
      obtain ⟨kn, rfl, hkn⟩ : ∃ kn : Nat, kk = (kn : Int) ∧ kn ≤ 1401 := ⟨kk.toNat, by simp at hk; omega, by simp at hk; omega⟩
      have HG5 := Lib.hid (HG4.out.trans hg)
      have HF5 : Hid (PBlk w5 F x) := Lib.hid (Blk.keep HF4.out hg.g (by omega))
      clear hk hg HG4 HF4 HO4
      obtain ⟨i, hi0, hi1, hi2, hi3⟩ := info_parts (show (Try.prog.info? 5).map (fun i => (i.zero, i.size, i.bytes)) = some (some (.int .u8 0), 1, 1) by kernel_rfl)
      go_wp2_with (at_make; refine wpList_make_full _ rfl (.tmp 19) (.tmp 19) 43 rfl 0 5 i (.int .u8 0) 1 Try.underlying43 hi0 hi1 hi2 .i64 .i64 _ _ kn rfl rfl rfl rfl (by rw [hi3]; omega) (by unfold maxLen; omega) (Nat.zero_le _) ?_)
      intro w6 hO6 hg6
      have hb6 : Below w5.heap.size w5 w6 := ⟨hg6.os, hg6.tape, hg6.output, hg6.size, fun j hj => hg6.block j hj (by simp)⟩
      have HO6 : Hid (OwnB w6 0 (.slice (some ⟨w5.heap.size, 0, none⟩) kn kn) (List.replicate kn 0)) := Lib.hid (by
        rw [made_zero] at hO6
        show w6.ownsRow _ _ _ _ _ _
        rw [List.length_replicate]
        exact hO6)
      have HF6 : Hid (PBlk w6 F x) := Lib.hid (Blk.below HF5.out hb6 (Blk.lt HF5.out))
      have HB6 : Hid (Below w.heap.size w w6) := Lib.hid ((HG5.out.toBelow HB0.out (Nat.le_refl _)).trans (hb6.mono (HG5.out.toBelow HB0.out (Nat.le_refl _)).size))
      clear hO6 hg6 hb6 HG5
      obtain ⟨-, -, -, -, -, -, -, -, -, -, -, -, -, -, -, -, -, -, c18, f0⟩ := PBlk.cells HF6.out
      go_wp2_with fail
      clear c18 f0
      go_meet
      case rel =>
        have hp := PBlk.set_pay HF6.out (.slice (some ⟨w5.heap.size, 0, none⟩) kn kn)
        have := LS.ofOwn (w0 := w) (x := { x with pay := .slice (some ⟨w5.heap.size, 0, none⟩) kn kn }) hp ⟨Hok.out.1, Hok.out.2.1, Hok.out.2.2.1, Hok.out.2.2.2.1, rfl⟩ (HO6.out.setCell HF6.out 18 _) (by simp; omega) (HB6.out.setCell (by show w.heap.size ≤ F; omega) _)
        obtain ⟨pa, pc, h⟩ := this
        exact ⟨_, _, _, _, h⟩
  case rest =>
    clear HG4 HF4 HO4 Hok HL HB0
    obtain ⟨x, pa, pc, pay, HS⟩ := hcut
    replace HS := Lib.hid HS
    by_cases hf : pktFault x pay.length = 0
    · obtain ⟨y, hy, fit, hle⟩ := pv_of_ok x pay.length HS.out.ok hf
      rw [HS.out.ph] at hy
      subst hy
      replace hf := Lib.hid hf
      replace fit := Lib.hid fit
      go_wp2_with (refine wpList_load_row rfl 45 (.tmp 4) rfl F rfl 45 (y.pv (.slice pa pay.length pc)).cells (0, 0) _ HS.out.p Try.underlying45 rfl (by kernel_rfl) ?_)
      refine (write_good y fit.out pa pc pay _ HS.out.ok HS.out.rb hf.out hle).mono ?_
      rintro e w7 ⟨v1, rfl, hO, hb⟩
      have HO7 := Lib.hid hO
      have HS7 := Lib.hid (HS.out.later hb)
      clear hO hb HS
      go_wp2_with (refine wpList_load_row rfl 45 (.tmp 4) rfl F rfl 45 (y.pv (.slice pa pay.length pc)).cells (0, 0) _ HS7.out.p Try.underlying45 rfl (by kernel_rfl) ?_)
      refine (flowOf_ext _ pa pay.length pc _ HS7.out.ok rfl).mono ?_
      rintro e w8 ⟨rfl, hb⟩
      rw [hf.out, if_pos rfl]
      have HO8 := Lib.hid (HO7.out.later hb (Nat.le_refl _))
      have HS8 := Lib.hid (HS7.out.later hb)
      clear hb HO7 HS7
      have HR9 : Hid (FBlk (w8.alloc (.cells (y.pv (.slice pa pay.length pc)).flow.cells 30 (0, 0))) w8.heap.size (y.pv (.slice pa pay.length pc)).flow) := Lib.hid (Blk.new w8 _ _)
      have HS9 := Lib.hid (HS8.out.later (below_alloc (Below.refl _ _) (.cells (y.pv (.slice pa pay.length pc)).flow.cells 30 (0, 0))))
      have HO9 := Lib.hid (HO8.out.alloc (.cells (y.pv (.slice pa pay.length pc)).flow.cells 30 (0, 0)))
      have hlt8 : w8.heap.size < (w8.alloc (.cells (y.pv (.slice pa pay.length pc)).flow.cells 30 (0, 0))).heap.size := by simp
      generalize hfl : (y.pv (.slice pa pay.length pc)).flow = fl at *
      replace hfl := Lib.hid hfl
      obtain ⟨fp0, fs1, fh1, fl1, fs2, fh2, fl2, ffp, ftp⟩ := fl
      simp only [FV.cells] at HR9 HS9 HO9 hlt8 ⊢
      go_upto_region 7 with fail
      generalize w8.heap.size = R at *
      generalize (w8.alloc (.cells #[.int .i64 fp0, .bool fs1, .int .u64 fh1, .int .u64 fl1, .bool fs2, .int .u64 fh2, .int .u64 fl2, .int .i64 ffp, .int .i64 ftp] 30 (0, 0))) = w9 at *
      go_wp2_with (refine wpList_load_row rfl 45 (.tmp 4) rfl F rfl 45 (y.pv (.slice pa pay.length pc)).cells (0, 0) _ HS9.out.p Try.underlying45 rfl (by kernel_rfl) ?_)
      refine (packetFault_any _ pa pay.length pc _ HS9.out.ok rfl).mono ?_
      rintro e wa ⟨rfl, hb⟩
      rw [hf.out]
      have HOa := Lib.hid (HO9.out.later hb (Nat.le_refl _))
      have HSa := Lib.hid (HS9.out.later hb)
      have HRa := Lib.hid (Blk.below HR9.out hb hlt8)
      have hla := Nat.lt_of_lt_of_le hlt8 hb.size
      clear hb HO9 HS9 HR9 hlt8 HO8 HS8
      go_wp2_with (refine wpList_load_row rfl 45 (.tmp 4) rfl F rfl 45 (y.pv (.slice pa pay.length pc)).cells (0, 0) _ HSa.out.p Try.underlying45 rfl (by kernel_rfl) ?_)
      refine (checkPacket_any _ pa pay.length pc _ HSa.out.ok rfl).mono ?_
      rintro e wb ⟨rfl, hb⟩
      rw [hf.out]
      have HOb := Lib.hid (HOa.out.later hb (Nat.le_refl _))
      have HSb := Lib.hid (HSa.out.later hb)
      have HRb := Lib.hid (Blk.below HRa.out hb hla)
      have hlb := Nat.lt_of_lt_of_le hla hb.size
      clear hb HOa HSa HRa hla
      go_upto_region 12 with fail
      obtain ⟨ad1, cc1, hv1, hR1⟩ : ∃ ad1 cc1, v1 = .slice ad1 (pktB y pay).length cc1 ∧ Hid (Rb wb.heap.size wb (.slice ad1 (pktB y pay).length cc1) (pktB y pay)) := by
        have := HOb.out.rb (pktB_len fit.out hle)
        obtain ⟨a1, c1, e, -⟩ := id this
        exact ⟨a1, c1, e, e ▸ this⟩
      have HRp := HSb.out.rb
      replace HRp := Lib.hid HRp
      clear HOb
      generalize hPL : (pktB y pay).length = pl at *
      subst hv1
      replace hPL := Lib.hid hPL
      have HFb : Hid (FS wb.heap.size wb F (y.pv (.slice pa pay.length pc)) pay wb) := Lib.hid ⟨Below.refl _ _, Nat.le_refl _, HSb.out.p, HSb.out.lt, HSb.out.rb⟩
      have hB : RC.fine (⟨wb.heap.size, wb, (.slice none 0 0), false, F⟩ : RC) := HFb.out.fine (fun k hk => by cases hk)
      refine Lm.wp_region_lim 22 0 (fun p vv nn ww => (List.getD ((.rd (pktB y pay)) :: (.val (.agg (y.pv (.slice pa pay.length pc)).cells)) :: (.own 0 (pktB y pay)) :: (.val (.bool true)) :: (.val (.bool true)) :: (.val (.agg #[.int .i64 fp0, .bool fs1, .int .u64 fh1, .int .u64 fl1, .bool fs2, .int .u64 fh2, .int .u64 fl2, .int .i64 ffp, .int .i64 ftp])) :: (.val (.agg (y.pv (.slice pa pay.length pc)).cells)) :: (.val (.agg #[.int .i64 fp0, .bool fs1, .int .u64 fh1, .int .u64 fl1, .bool fs2, .int .u64 fh2, .int .u64 fl2, .int .i64 ffp, .int .i64 ftp])) :: (.val (.bool true)) :: (.val (.bool true)) :: (.val (.bool true)) :: (.val (.pointer (some ⟨F, 18, none⟩))) :: (.rd (pay)) :: (.val (.int .i64 ((sumN (pay) : Nat) : Int))) :: (.val (.pointer (some ⟨F, 18, none⟩))) :: (.rd (pay)) :: (.val (.int .i64 ((sumN (pay) : Nat) : Int))) :: (.val (.bool true)) :: (.val (.bool true)) :: (.val (.bool true)) :: (.val (.bool true)) :: (.val (.bool true)) :: [] : List Ds) p .any).R (⟨wb.heap.size, wb, (.slice none 0 0), false, F⟩ : RC) vv nn ww) (RC.C (⟨wb.heap.size, wb, (.slice none 0 0), false, F⟩ : RC)) (RC.S (⟨wb.heap.size, wb, (.slice none 0 0), false, F⟩ : RC)) (fun _ => 0) (fun _ => 0)
        (by kernel_rfl) (by kernel_rfl) (by decide) (by kernel_rfl) (fun p vv nn ww n' w' h hs => ds_keep hB _ rfl p vv nn ww n' w' h hs) RC.start ?hX1
      case' hX1 => (apply Exists.intro; refine ⟨fun T => ?hA1, ?hob1, ?hend1⟩)
      case hA1 =>
        simp only [setAll, List.take_succ_cons, List.take_zero, Act.put, List.setIfInBounds_toArray, List.set_cons_succ, List.set_cons_zero, Nat.reduceAdd]
        exact rfl
      case hob1 =>
        refine ⟨?_, ?_, ?_, ?_, ?_, ?_, ?_, ?_, ?_, ?_, ?_, ?_, ?_, ?_, ?_, ?_, ?_, ?_, ?_, ?_, ?_, ?_, trivial⟩
        · intro T wc n hC hn hp
          have hn : n ≤ 0 := hn
          refine Op1.gen fun post hpost => ?_; unfold Op1; go_simp; exact hpost _ _ ⟨hR1.out, hC, RC.S.refl⟩
        · intro T wc n hC hn hp
          have hn : n ≤ 0 := hn
          exact Op1.load_row 45 (.tmp 4) rfl F rfl 45 (y.pv (.slice pa pay.length pc)).cells (0, 0) _ (hC.2.2.trans HFb.out.p) Try.underlying45 rfl (by kernel_rfl) ⟨rfl, hC, RC.S.refl⟩
        · intro T wc n hC hn hp
          have hn : n ≤ 0 := hn
          obtain ⟨e0, -⟩ := hp
          have d1 : T 1 = .agg (y.pv (.slice pa pay.length pc)).cells := e0
          clear e0
          refine Op1.gen fun post hpost => ?_; unfold Op1; go_simp
          refine (pktBytes_any y fit.out pa pc pay wc ((HFb.out.rb.below hC.1).mono (Nat.le_trans hB.le hC.size)) hle).mono ?_
          rintro e w9 ⟨v9, rfl, hO, hb⟩
          have hz : n = 0 := by omega
          exact ⟨v9, rfl, hpost _ _ (fresh_ok hB hC hz rfl hO hb)⟩
        · intro T wc n hC hn hp
          have hn : n ≤ 0 := hn
          obtain ⟨e0, e1, e2, -⟩ := hp
          have d0 : Ds.R (⟨wb.heap.size, wb, (.slice none 0 0), false, F⟩ : RC) (.rd (pktB y pay)) (T 0) n wc := e0
          have d2 : Ds.R (⟨wb.heap.size, wb, (.slice none 0 0), false, F⟩ : RC) (.own 0 (pktB y pay)) (T 2) n wc := e1
          clear e0 e1 e2
          obtain ⟨hO, -⟩ := d2.2 (by omega)
          refine Op1.gen fun post hpost => ?_; unfold Op1; go_simp; exact calls_post (equal_ob (c := (⟨wb.heap.size, wb, (.slice none 0 0), false, F⟩ : RC)) hB hC (Rb.below d0 hC.1) (hO.rb (pktB_len fit.out hle))) hpost
        · intro T wc n hC hn hp
          have hn : n ≤ 0 := hn
          obtain ⟨e0, e1, -⟩ := hp
          have d3 : T 3 = .bool true := e0
          clear e0 e1
          refine Op1.gen fun post hpost => ?_; unfold Op1; go_simp; exact hpost _ _ ⟨rfl, hC, RC.S.refl⟩
        · intro T wc n hC hn hp
          have hn : n ≤ 0 := hn
          obtain ⟨e0, -⟩ := hp
          have d4 : T 4 = .bool true := e0
          clear e0
          refine ⟨fun _ => ?_, fun hT => absurd d4 hT⟩
          exact Op1.load_row 30 (.tmp 7) rfl R rfl 30 #[.int .i64 fp0, .bool fs1, .int .u64 fh1, .int .u64 fl1, .bool fs2, .int .u64 fh2, .int .u64 fl2, .int .i64 ffp, .int .i64 ftp] (0, 0) _ (Blk.below HRb.out hC.1 hlb) Try.underlying30 rfl (by kernel_rfl) ⟨rfl, hC, RC.S.refl⟩
        · intro T wc n hC hn hp
          have hn : n ≤ 0 := hn
          obtain ⟨e0, -⟩ := hp
          have d4 : T 4 = .bool true := e0
          clear e0
          refine ⟨fun _ => ?_, fun hT => absurd d4 hT⟩
          exact Op1.load_row 45 (.tmp 4) rfl F rfl 45 (y.pv (.slice pa pay.length pc)).cells (0, 0) _ (hC.2.2.trans HFb.out.p) Try.underlying45 rfl (by kernel_rfl) ⟨rfl, hC, RC.S.refl⟩
        · intro T wc n hC hn hp
          have hn : n ≤ 0 := hn
          obtain ⟨e0, e1, e2, -⟩ := hp
          have d4 : T 4 = .bool true := e1
          have d6 : T 6 = .agg (y.pv (.slice pa pay.length pc)).cells := e0
          clear e0 e1 e2
          refine ⟨fun _ => ?_, fun hT => absurd d4 hT⟩
          refine Op1.gen fun post hpost => ?_; unfold Op1; go_simp; exact calls_post (flow_ob (c := (⟨wb.heap.size, wb, (.slice none 0 0), false, F⟩ : RC)) hB hC (y.pv (.slice pa pay.length pc)) ⟨fp0, fs1, fh1, fl1, fs2, fh2, fl2, ffp, ftp⟩ hfl.out) hpost
        · intro T wc n hC hn hp
          have hn : n ≤ 0 := hn
          obtain ⟨e0, e1, e2, -⟩ := hp
          have d4 : T 4 = .bool true := e2
          have d5 : T 5 = .agg #[.int .i64 fp0, .bool fs1, .int .u64 fh1, .int .u64 fl1, .bool fs2, .int .u64 fh2, .int .u64 fl2, .int .i64 ffp, .int .i64 ftp] := e0
          have d7 : T 7 = .agg #[.int .i64 fp0, .bool fs1, .int .u64 fh1, .int .u64 fl1, .bool fs2, .int .u64 fh2, .int .u64 fl2, .int .i64 ffp, .int .i64 ftp] := e1
          clear e0 e1 e2
          refine ⟨fun _ => ?_, fun hT => absurd d4 hT⟩
          refine Op1.gen fun post hpost => ?_; unfold Op1; go_simp; exact hpost _ _ ⟨rfl, hC, RC.S.refl⟩
        · intro T wc n hC hn hp
          have hn : n ≤ 0 := hn
          obtain ⟨e0, e1, -⟩ := hp
          have d4 : T 4 = .bool true := e0
          have d8 : T 8 = .bool true := e1
          clear e0 e1
          refine Op1.gen fun post hpost => ?_; unfold Op1; go_simp; exact hpost _ _ ⟨rfl, hC, RC.S.refl⟩
        · intro T wc n hC hn hp
          have hn : n ≤ 0 := hn
          obtain ⟨e0, e1, -⟩ := hp
          have d9 : T 9 = .bool true := e0
          clear e0 e1
          refine Op1.gen fun post hpost => ?_; unfold Op1; go_simp; exact hpost _ _ ⟨rfl, hC, RC.S.refl⟩
        · intro T wc n hC hn hp
          have hn : n ≤ 0 := hn
          obtain ⟨e0, -⟩ := hp
          have d10 : T 10 = .bool true := e0
          clear e0
          refine ⟨fun _ => ?_, fun hT => absurd d10 hT⟩
          refine Op1.gen fun post hpost => ?_; unfold Op1; go_simp; exact hpost _ _ ⟨rfl, hC, RC.S.refl⟩
        · intro T wc n hC hn hp
          have hn : n ≤ 0 := hn
          obtain ⟨e0, e1, -⟩ := hp
          have d10 : T 10 = .bool true := e1
          have d11 : T 11 = .pointer (some ⟨F, 18, none⟩) := e0
          clear e0 e1
          refine ⟨fun _ => ?_, fun hT => absurd d10 hT⟩
          obtain ⟨-, -, -, -, -, -, -, -, -, -, -, -, -, -, -, -, -, -, c18, f0⟩ := np_cells (show PBlk wc F (y.pv (.slice pa pay.length pc)) from hC.2.2.trans HFb.out.p)
          refine Op1.gen fun post hpost => ?_; unfold Op1; go_simp; exact hpost _ _ ⟨HFb.out.rb, hC, RC.S.refl⟩
        · intro T wc n hC hn hp
          have hn : n ≤ 0 := hn
          obtain ⟨e0, e1, e2, -⟩ := hp
          have d10 : T 10 = .bool true := e1
          have d12 : Ds.R (⟨wb.heap.size, wb, (.slice none 0 0), false, F⟩ : RC) (.rd (pay)) (T 12) n wc := e0
          clear e0 e1 e2
          refine ⟨fun _ => ?_, fun hT => absurd d10 hT⟩
          refine Op1.gen fun post hpost => ?_; unfold Op1; go_simp; exact calls_post (same_ob (c := (⟨wb.heap.size, wb, (.slice none 0 0), false, F⟩ : RC)) hC (sum_rb (Rb.below d12 hC.1))) hpost
        · intro T wc n hC hn hp
          have hn : n ≤ 0 := hn
          obtain ⟨e0, -⟩ := hp
          have d10 : T 10 = .bool true := e0
          clear e0
          refine ⟨fun _ => ?_, fun hT => absurd d10 hT⟩
          refine Op1.gen fun post hpost => ?_; unfold Op1; go_simp; exact hpost _ _ ⟨rfl, hC, RC.S.refl⟩
        · intro T wc n hC hn hp
          have hn : n ≤ 0 := hn
          obtain ⟨e0, e1, -⟩ := hp
          have d10 : T 10 = .bool true := e1
          have d14 : T 14 = .pointer (some ⟨F, 18, none⟩) := e0
          clear e0 e1
          refine ⟨fun _ => ?_, fun hT => absurd d10 hT⟩
          obtain ⟨-, -, -, -, -, -, -, -, -, -, -, -, -, -, -, -, -, -, c18, f0⟩ := np_cells (show PBlk wc F (y.pv (.slice pa pay.length pc)) from hC.2.2.trans HFb.out.p)
          refine Op1.gen fun post hpost => ?_; unfold Op1; go_simp; exact hpost _ _ ⟨HFb.out.rb, hC, RC.S.refl⟩
        · intro T wc n hC hn hp
          have hn : n ≤ 0 := hn
          obtain ⟨e0, e1, e2, -⟩ := hp
          have d10 : T 10 = .bool true := e2
          have d15 : Ds.R (⟨wb.heap.size, wb, (.slice none 0 0), false, F⟩ : RC) (.rd (pay)) (T 15) n wc := e0
          clear e0 e1 e2
          refine ⟨fun _ => ?_, fun hT => absurd d10 hT⟩
          refine Op1.gen fun post hpost => ?_; unfold Op1; go_simp; exact calls_post (same_ob (c := (⟨wb.heap.size, wb, (.slice none 0 0), false, F⟩ : RC)) hC (checkSum_rb (Rb.below d15 hC.1))) hpost
        · intro T wc n hC hn hp
          have hn : n ≤ 0 := hn
          obtain ⟨e0, e1, e2, -⟩ := hp
          have d10 : T 10 = .bool true := e2
          have d13 : T 13 = .int .i64 ((sumN (pay) : Nat) : Int) := e0
          have d16 : T 16 = .int .i64 ((sumN (pay) : Nat) : Int) := e1
          clear e0 e1 e2
          refine ⟨fun _ => ?_, fun hT => absurd d10 hT⟩
          refine Op1.gen fun post hpost => ?_; unfold Op1; go_simp; exact hpost _ _ ⟨rfl, hC, RC.S.refl⟩
        · intro T wc n hC hn hp
          have hn : n ≤ 0 := hn
          obtain ⟨e0, e1, -⟩ := hp
          have d10 : T 10 = .bool true := e0
          have d17 : T 17 = .bool true := e1
          clear e0 e1
          refine Op1.gen fun post hpost => ?_; unfold Op1; go_simp; exact hpost _ _ ⟨rfl, hC, RC.S.refl⟩
        · intro T wc n hC hn hp
          have hn : n ≤ 0 := hn
          obtain ⟨e0, e1, -⟩ := hp
          have d18 : T 18 = .bool true := e0
          clear e0 e1
          refine Op1.gen fun post hpost => ?_; unfold Op1; go_simp; exact hpost _ _ ⟨rfl, hC, RC.S.refl⟩
        · intro T wc n hC hn hp
          have hn : n ≤ 0 := hn
          obtain ⟨e0, e1, -⟩ := hp
          have d19 : T 19 = .bool true := e0
          clear e0 e1
          refine ⟨fun _ => ?_, fun hT => absurd d19 hT⟩
          refine Op1.gen fun post hpost => ?_; unfold Op1; go_simp; exact calls_post (ret_ob (c := (⟨wb.heap.size, wb, (.slice none 0 0), false, F⟩ : RC)) hB hC (filtered_any wc)) hpost
        · intro T wc n hC hn hp
          have hn : n ≤ 0 := hn
          obtain ⟨e0, e1, -⟩ := hp
          have d19 : T 19 = .bool true := e0
          have d20 : T 20 = .bool true := e1
          clear e0 e1
          refine Op1.gen fun post hpost => ?_; unfold Op1; go_simp; exact hpost _ _ ⟨rfl, hC, RC.S.refl⟩
      case hend1 =>
        intro T wc ⟨n, hn, hC, hR⟩
        have r2 : T 21 = .bool true := hR 21 (by omega)
        rw [r2]
        clear r2
        have HC := Lib.hid hC.1
        have hB2 := hC.size
        clear hR hC
        go_wp2_with fail
        go_ret
        exact ⟨rfl, HSb.out.bl.trans (HC.out.mono HSb.out.bl.size)⟩
    · have hpx := HS.out.ph
      have hcw := fun wx => write_bad x pa pay.length pc wx HS.out.ok hpx hf
      have hcf := fun wx => flowOf_ext x pa pay.length pc wx HS.out.ok hpx
      have hcp := fun wx => packetFault_any x pa pay.length pc wx HS.out.ok hpx
      have hcc := fun wx => checkPacket_any x pa pay.length pc wx HS.out.ok hpx
      rw [if_neg hf] at hcf
      generalize pktFault x pay.length = ff at *
      have hcw := Lib.hid hcw
      have hcf := Lib.hid hcf
      have hcp := Lib.hid hcp
      have hcc := Lib.hid hcc
      go_wp2_with (refine wpList_load_row rfl 45 (.tmp 4) rfl F rfl 45 x.cells (0, 0) _ HS.out.p Try.underlying45 rfl (by kernel_rfl) ?_)
      refine (hcw.out _).mono ?_
      rintro e w7 ⟨rfl, hb⟩
      have HS7 := Lib.hid (HS.out.later hb)
      clear hb HS
      go_wp2_with (refine wpList_load_row rfl 45 (.tmp 4) rfl F rfl 45 x.cells (0, 0) _ HS7.out.p Try.underlying45 rfl (by kernel_rfl) ?_)
      refine (hcf.out _).mono ?_
      rintro e w8 ⟨rfl, hb⟩
      have HS8 := Lib.hid (HS7.out.later hb)
      clear hb HS7
      have HR9 : Hid (FBlk (w8.alloc (.cells FV.zero.cells 30 (0, 0))) w8.heap.size FV.zero) := Lib.hid (Blk.new w8 _ _)
      have HS9 := Lib.hid (HS8.out.later (below_alloc (Below.refl _ _) (.cells FV.zero.cells 30 (0, 0))))
      have hlt8 : w8.heap.size < (w8.alloc (.cells FV.zero.cells 30 (0, 0))).heap.size := by simp
      simp only [FV.cells, FV.zero] at HR9 HS9 hlt8 ⊢
      go_upto_region 7 with fail
      generalize w8.heap.size = R at *
      generalize (w8.alloc (.cells #[.int .i64 0, .bool false, .int .u64 0, .int .u64 0, .bool false, .int .u64 0, .int .u64 0, .int .i64 0, .int .i64 0] 30 (0, 0))) = w9 at *
      go_wp2_with (refine wpList_load_row rfl 45 (.tmp 4) rfl F rfl 45 x.cells (0, 0) _ HS9.out.p Try.underlying45 rfl (by kernel_rfl) ?_)
      refine (hcp.out _).mono ?_
      rintro e wa ⟨rfl, hb⟩
      have HSa := Lib.hid (HS9.out.later hb)
      have HRa := Lib.hid (Blk.below HR9.out hb hlt8)
      have hla := Nat.lt_of_lt_of_le hlt8 hb.size
      clear hb HS9 HR9 hlt8 HS8
      go_wp2_with (refine wpList_load_row rfl 45 (.tmp 4) rfl F rfl 45 x.cells (0, 0) _ HSa.out.p Try.underlying45 rfl (by kernel_rfl) ?_)
      refine (hcc.out _).mono ?_
      rintro e wb ⟨rfl, hb⟩
      have HSb := Lib.hid (HSa.out.later hb)
      have HRb := Lib.hid (Blk.below HRa.out hb hla)
      clear hb HSa HRa
      have e1 : (ff != 0) = true := by simpa using hf
      go_upto_region 11 with fail
      obtain ⟨d0, d1, d2, d3, d4, d5, d6, d7, d8, g0⟩ := FBlk.cells (f := FV.zero) HRb.out
      simp only [FV.zero] at d0 d1 d2 d3 d4 d5 d6 d7 d8
      go_wp2_with fail
      refine (filtered_any _).mono ?_
      rintro e wc ⟨rfl, hb⟩
      have HBc := Lib.hid (HSb.out.bl.trans (hb.mono HSb.out.bl.size))
      clear hb
      go_wp2_with fail
      go_ret
      exact ⟨rfl, HBc.out⟩
end Go.Proofs.Ytaamonhhclffcaa
