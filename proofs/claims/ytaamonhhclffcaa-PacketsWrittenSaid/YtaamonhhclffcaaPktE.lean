/-
  Packets: Write and FlowOf of the program, FlowFrom of the reference.
-/
import Derived.Test.YtaamonhhclffcaaWrite
import Derived.Test.YtaamonhhclffcaaPktFc
import Derived.Test.YtaamonhhclffcaaTurned
namespace Go.Proofs.Ytaamonhhclffcaa
open Go.RowKit Go
set_option linter.unusedVariables false

def PV.flow (x : PV) : FV := ⟨x.proto, x.s1, x.h1, x.l1, x.s2, x.h2, x.l2, x.fp, x.tp⟩
set_option maxRecDepth 100000 in
set_option maxHeartbeats 1000000 in
theorem flowOf_any (x : PV) (w : World) : Calls Try.prog 60 #[.agg x.cells] w (Ret (.agg x.flow.cells) w) := by
  have HP : Hid (PBlk (w.alloc (.cells x.cells 45 (0, 0))) w.heap.size x) := Lib.hid (Blk.new w _ _)
  have HB : Hid (Below w.heap.size w (w.alloc (.cells x.cells 45 (0, 0)))) := Lib.hid (below_alloc (Below.refl _ _) _)
  go_enter Try.func60, Try.ntmps60
  go_upto_region 1 with fail
  have HP2 : Hid (PBlk ((w.alloc (.cells x.cells 45 (0, 0))).alloc (.cells #[.int .i64 0, .bool false, .int .u64 0, .int .u64 0, .bool false, .int .u64 0, .int .u64 0, .int .i64 0, .int .i64 0] 30 (0, 0))) w.heap.size x) := Lib.hid (HP.out.alloc _)
  have HZ : Hid (FBlk ((w.alloc (.cells x.cells 45 (0, 0))).alloc (.cells #[.int .i64 0, .bool false, .int .u64 0, .int .u64 0, .bool false, .int .u64 0, .int .u64 0, .int .i64 0, .int .i64 0] 30 (0, 0))) (w.heap.size + 1) FV.zero) := Lib.hid (by have := Blk.new (w.alloc (.cells x.cells 45 (0, 0))) 30 FV.zero.cells; rw [World.size_alloc] at this; exact this)
  have HB2 := Lib.hid (below_alloc HB.out (.cells #[.int .i64 0, .bool false, .int .u64 0, .int .u64 0, .bool false, .int .u64 0, .int .u64 0, .int .i64 0, .int .i64 0] 30 (0, 0)))
  generalize (w.alloc (.cells x.cells 45 (0, 0))).alloc (.cells #[.int .i64 0, .bool false, .int .u64 0, .int .u64 0, .bool false, .int .u64 0, .int .u64 0, .int .i64 0, .int .i64 0] 30 (0, 0)) = w1 at *
  clear HP HB
  obtain ⟨c0, c1, c2, c3, c4, c5, -, c7, c8, c9, -, -, -, -, -, -, -, -, -, f0⟩ := PBlk.cells HP2.out
  obtain ⟨d0, d1, d2, d3, d4, d5, d6, d7, d8, g0⟩ := FBlk.cells HZ.out
  go_wp2_with fail
  refine bodyPost_ret (v := .agg x.flow.cells) (by simp [results, Try.results60, go_sem, d0, d1, d2, d3, d4, d5, d6, d7, d8, PV.flow, FV.cells]) rfl ⟨rfl, ?_⟩
  repeat refine Below.setCell ?_ (by simp) _
  exact HB2.out
set_option maxRecDepth 100000 in
set_option maxHeartbeats 1000000 in
theorem flowFrom_any (x : PV) (w : World) : Calls Try.prog 25 #[.agg x.cells] w (Ret (.agg x.flow.cells) w) := by
  have HP : Hid (PBlk (w.alloc (.cells x.cells 45 (0, 0))) w.heap.size x) := Lib.hid (Blk.new w _ _)
  have HB : Hid (Below w.heap.size w (w.alloc (.cells x.cells 45 (0, 0)))) := Lib.hid (below_alloc (Below.refl _ _) _)
  go_enter Try.func25, Try.ntmps25
  go_upto_region 1 with fail
  have HP2 : Hid (PBlk ((w.alloc (.cells x.cells 45 (0, 0))).alloc (.cells #[.int .i64 0, .bool false, .int .u64 0, .int .u64 0, .bool false, .int .u64 0, .int .u64 0, .int .i64 0, .int .i64 0] 30 (0, 0))) w.heap.size x) := Lib.hid (HP.out.alloc _)
  have HZ : Hid (FBlk ((w.alloc (.cells x.cells 45 (0, 0))).alloc (.cells #[.int .i64 0, .bool false, .int .u64 0, .int .u64 0, .bool false, .int .u64 0, .int .u64 0, .int .i64 0, .int .i64 0] 30 (0, 0))) (w.heap.size + 1) FV.zero) := Lib.hid (by have := Blk.new (w.alloc (.cells x.cells 45 (0, 0))) 30 FV.zero.cells; rw [World.size_alloc] at this; exact this)
  have HB2 := Lib.hid (below_alloc HB.out (.cells #[.int .i64 0, .bool false, .int .u64 0, .int .u64 0, .bool false, .int .u64 0, .int .u64 0, .int .i64 0, .int .i64 0] 30 (0, 0)))
  generalize (w.alloc (.cells x.cells 45 (0, 0))).alloc (.cells #[.int .i64 0, .bool false, .int .u64 0, .int .u64 0, .bool false, .int .u64 0, .int .u64 0, .int .i64 0, .int .i64 0] 30 (0, 0)) = w1 at *
  clear HP HB
  obtain ⟨c0, c1, c2, c3, c4, c5, -, c7, c8, c9, -, -, -, -, -, -, -, -, -, f0⟩ := PBlk.cells HP2.out
  obtain ⟨d0, d1, d2, d3, d4, d5, d6, d7, d8, g0⟩ := FBlk.cells HZ.out
  go_wp2_with fail
  refine bodyPost_ret (v := .agg x.flow.cells) (by simp [results, Try.results25, go_sem, d0, d1, d2, d3, d4, d5, d6, d7, d8, PV.flow, FV.cells]) rfl ⟨rfl, ?_⟩
  repeat refine Below.setCell ?_ (by simp) _
  exact HB2.out
theorem pv_of_ok (x : PV) (n : Nat) (hx : x.ok) (h : pktFault x n = 0) : ∃ y : NP, x = y.pv x.pay ∧ y.fit ∧ n ≤ 1400 := by
  unfold pktFault at h
  obtain ⟨⟨a1, a2⟩, ⟨a3, a4⟩, ⟨a5, a6⟩, ⟨a7, a8⟩, -⟩ := hx
  have h1 := aFault_vals x.s1 x.h1 x.l1
  have h2 := aFault_vals x.s2 x.h2 x.l2
  split at h
  · omega
  · split at h
    · omega
    · split at h
      · omega
      · split at h
        · omega
        · split at h
          · omega
          · split at h
            · omega
            · split at h
              · omega
              · split at h
                · omega
                · split at h
                  · omega
                  · rename_i k1 k2 k3 k4 k5 k6 k7 k8 k9
                    simp only [outB, Bool.or_eq_true, decide_eq_true_eq, not_or, Int.not_lt, hasPorts, beq_iff_eq, Bool.not_eq_false] at k4 k5 k6 k7
                    obtain ⟨⟨b1, b2⟩, b3, b4⟩ := k6
                    obtain ⟨⟨d1, d2⟩, ⟨d3, d4⟩, ⟨d5, d6⟩, d7⟩ := k7
                    have hpr : x.proto = 1 ∨ x.proto = 6 ∨ x.proto = 17 := by simpa [Bool.or_eq_true] using k5
                    refine ⟨⟨x.s1, x.h1.toNat, x.l1.toNat, x.s2, x.h2.toNat, x.l2.toNat, x.hops.toNat, x.proto.toNat, x.fp.toNat, x.tp.toNat, x.syn, x.fin, x.rst, x.has, x.seq.toNat, x.ack.toNat, x.reply, x.id.toNat⟩, ?_, ?_, by omega⟩
                    · cases x
                      simp only [NP.pv, PV.mk.injEq, true_and, and_true] at *
                      omega
                    · exact ⟨by simp only; omega, by simp only; omega, by simp only; omega, by simp only; omega, by simp only; omega, by simp only; omega, by simp only; omega, by simp only; omega, by simp only; omega, by simp only; omega, by simp only; omega, by simpa using k3⟩
set_option maxRecDepth 100000 in
set_option maxHeartbeats 1000000 in
theorem write_good (y : NP) (hy : y.fit) (pa : Option Addr) (pc : Nat) (pay : List UInt8) (w : World) (hok : (y.pv (.slice pa pay.length pc)).ok) (hr : Rb w.heap.size w (.slice pa pay.length pc) pay) (hf : pktFault (y.pv (.slice pa pay.length pc)) pay.length = 0) (hpl : pay.length ≤ 1400) :
    Calls Try.prog 19 #[.agg (y.pv (.slice pa pay.length pc)).cells] w fun e w' => ∃ v, e = .returned (.tuple #[v, .int .i64 0]) ∧ OwnB w' w.heap.size v (pktB y pay) ∧ Below w.heap.size w w' := by
  have HF := Lib.hid (FS.start (x := y.pv (.slice pa pay.length pc)) hr)
  have hsz : w.heap.size ≤ (w.alloc (.cells (y.pv (.slice pa pay.length pc)).cells 45 (0, 0))).heap.size := by simp
  have HB0 : Hid (Below w.heap.size w (w.alloc (.cells (y.pv (.slice pa pay.length pc)).cells 45 (0, 0)))) := Lib.hid (below_alloc (Below.refl _ _) _)
  have Hf := Lib.hid hf
  have Hok := Lib.hid hok
  clear hr hf hok
  go_enter Try.func19, Try.ntmps19
  go_upto_region 1 with fail
  generalize w.alloc (.cells (y.pv (.slice pa pay.length pc)).cells 45 (0, 0)) = w1 at *
  generalize hP0 : w.heap.size = P0 at *
  have HP0 := Lib.hid hP0
  clear hP0
  go_wp2_with (refine wpList_load_row rfl 45 (.tmp 1) rfl P0 rfl 45 (y.pv (.slice pa pay.length pc)).cells (0, 0) _ HF.out.p Try.underlying45 rfl (by kernel_rfl) ?_)
  refine (checkPacket_any _ pa pay.length pc w1 Hok.out rfl).mono ?_
  rintro e w2 ⟨rfl, hb⟩
  rw [Hf.out]
  have HF2 := Lib.hid (HF.out.later hb)
  have HB2 := Lib.hid (HB0.out.trans (hb.mono hsz))
  have hs2 : P0 ≤ w2.heap.size := Nat.le_trans hsz hb.size
  clear hb
  go_wp2_with (refine wpList_load_row rfl 45 (.tmp 1) rfl P0 rfl 45 (y.pv (.slice pa pay.length pc)).cells (0, 0) _ HF2.out.p Try.underlying45 rfl (by kernel_rfl) ?_)
  refine (write_any y hy pa pc pay w2 (HF2.out.rb.mono HF2.out.sz) hpl).mono ?_
  rintro e w3 ⟨v3, rfl, hO, hb⟩
  have HO := Lib.hid hO
  have HB3 := Lib.hid (HB2.out.trans (hb.mono hs2))
  clear hO hb
  go_wp2_with fail
  have hP0 := HP0.out
  subst hP0
  go_ret2
  exact ⟨_, rfl, OwnB.weak HO.out hs2, HB3.out⟩
set_option maxRecDepth 100000 in
set_option maxHeartbeats 1000000 in
theorem write_bad (x : PV) (pa : Option Addr) (n pc : Nat) (w : World) (hok : x.ok) (hp : x.pay = .slice pa n pc) (hf : pktFault x n ≠ 0) :
    Calls Try.prog 19 #[.agg x.cells] w (Ret (.tuple #[.slice none 0 0, .int .i64 (pktFault x n)]) w) := by
  have HP : Hid (PBlk (w.alloc (.cells x.cells 45 (0, 0))) w.heap.size x) := Lib.hid (Blk.new w _ _)
  have HB : Hid (Below w.heap.size w (w.alloc (.cells x.cells 45 (0, 0)))) := Lib.hid (below_alloc (Below.refl _ _) _)
  have hsz : w.heap.size ≤ (w.alloc (.cells x.cells 45 (0, 0))).heap.size := by simp
  have HC := fun w => checkPacket_any x pa n pc w hok hp
  generalize pktFault x n = ff at *
  go_enter Try.func19, Try.ntmps19
  go_upto_region 1 with fail
  generalize w.alloc (.cells x.cells 45 (0, 0)) = w1 at *
  generalize hP0 : w.heap.size = P0 at *
  have HP0 := Lib.hid hP0
  clear hP0
  go_wp2_with (refine wpList_load_row rfl 45 (.tmp 1) rfl P0 rfl 45 x.cells (0, 0) _ HP.out Try.underlying45 rfl (by kernel_rfl) ?_)
  refine (HC w1).mono ?_
  rintro e w2 ⟨rfl, hb⟩
  have HB2 := Lib.hid (HB.out.trans (hb.mono hsz))
  clear hb HC
  go_wp2_with fail
  have hP0 := HP0.out
  subst hP0
  go_ret2
  exact ⟨rfl, HB2.out⟩
set_option maxRecDepth 100000 in
set_option maxHeartbeats 1000000 in
theorem flowOf_ext (x : PV) (pa : Option Addr) (n pc : Nat) (w : World) (hok : x.ok) (hp : x.pay = .slice pa n pc) :
    Calls Try.prog 20 #[.agg x.cells] w (Ret (.tuple #[.agg (if pktFault x n = 0 then x.flow else FV.zero).cells, .int .i64 (pktFault x n)]) w) := by
  have HP : Hid (PBlk (w.alloc (.cells x.cells 45 (0, 0))) w.heap.size x) := Lib.hid (Blk.new w _ _)
  have HB : Hid (Below w.heap.size w (w.alloc (.cells x.cells 45 (0, 0)))) := Lib.hid (below_alloc (Below.refl _ _) _)
  have HC := fun w => checkPacket_any x pa n pc w hok hp
  have HW := flowOf_any x
  generalize pktFault x n = ff at *
  generalize x.flow = fl at *
  obtain ⟨rf, hrf⟩ : ∃ rf, (if ff = 0 then fl else FV.zero) = rf := ⟨_, rfl⟩
  rw [hrf]
  replace hrf := Lib.hid hrf
  go_enter Try.func20, Try.ntmps20
  go_upto_region 1 with fail
  have HP2 : Hid (PBlk ((w.alloc (.cells x.cells 45 (0, 0))).alloc (.cells #[.int .i64 0, .bool false, .int .u64 0, .int .u64 0, .bool false, .int .u64 0, .int .u64 0, .int .i64 0, .int .i64 0] 30 (0, 0))) w.heap.size x) := Lib.hid (HP.out.alloc _)
  have HZ : Hid (FBlk ((w.alloc (.cells x.cells 45 (0, 0))).alloc (.cells #[.int .i64 0, .bool false, .int .u64 0, .int .u64 0, .bool false, .int .u64 0, .int .u64 0, .int .i64 0, .int .i64 0] 30 (0, 0))) (w.heap.size + 1) FV.zero) := Lib.hid (by have := Blk.new (w.alloc (.cells x.cells 45 (0, 0))) 30 FV.zero.cells; rw [World.size_alloc] at this; exact this)
  have HB2 := Lib.hid (below_alloc HB.out (.cells #[.int .i64 0, .bool false, .int .u64 0, .int .u64 0, .bool false, .int .u64 0, .int .u64 0, .int .i64 0, .int .i64 0] 30 (0, 0)))
  have hlt1 : w.heap.size + 1 < ((w.alloc (.cells x.cells 45 (0, 0))).alloc (.cells #[.int .i64 0, .bool false, .int .u64 0, .int .u64 0, .bool false, .int .u64 0, .int .u64 0, .int .i64 0, .int .i64 0] 30 (0, 0))).heap.size := by simp
  generalize (w.alloc (.cells x.cells 45 (0, 0))).alloc (.cells #[.int .i64 0, .bool false, .int .u64 0, .int .u64 0, .bool false, .int .u64 0, .int .u64 0, .int .i64 0, .int .i64 0] 30 (0, 0)) = w1 at *
  clear HP HB
  go_wp2_with (refine wpList_load_row rfl 45 (.tmp 1) rfl w.heap.size rfl 45 x.cells (0, 0) _ HP2.out Try.underlying45 rfl (by kernel_rfl) ?_)
  refine (HC w1).mono ?_
  rintro e w2 ⟨rfl, hb⟩
  have HP3 := Lib.hid (Blk.below HP2.out hb (by omega))
  have HZ3 := Lib.hid (Blk.below HZ.out hb (by omega))
  have HB3 := Lib.hid (HB2.out.trans (hb.mono (by omega)))
  have hs3 := hb.size
  clear hb HC HP2 HZ HB2
  by_cases h0 : ff = 0
  · subst h0
    go_wp2_with (refine wpList_load_row rfl 45 (.tmp 1) rfl w.heap.size rfl 45 x.cells (0, 0) _ HP3.out Try.underlying45 rfl (by kernel_rfl) ?_)
    refine (HW w2).mono ?_
    rintro e w4 ⟨rfl, hb⟩
    have HZ4 := Blk.below HZ3.out hb (by omega)
    have HB4 := Lib.hid (HB3.out.trans (hb.mono (by omega)))
    clear hb HW HP3 HZ3 HB3
    obtain rfl : fl = rf := by have := hrf.out; simpa using this
    obtain ⟨p, s1, h1, l1, s2, h2, l2, fp, tp⟩ := fl
    obtain ⟨d0, d1, d2, d3, d4, d5, d6, d7, d8, g0⟩ := FBlk.cells (f := FV.zero) HZ4
    clear HZ4
    unfold FV.cells
    go_wp2_with fail
    refine bodyPost_ret (v := .tuple #[.agg #[.int .i64 p, .bool s1, .int .u64 h1, .int .u64 l1, .bool s2, .int .u64 h2, .int .u64 l2, .int .i64 fp, .int .i64 tp], .int .i64 0]) (by simp [results, Try.results20, go_sem, d0, d1, d2, d3, d4, d5, d6, d7, d8]) rfl ⟨rfl, ?_⟩
    repeat refine Below.setCell ?_ (by simp) _
    exact HB4.out
  · obtain ⟨d0, d1, d2, d3, d4, d5, d6, d7, d8, g0⟩ := FBlk.cells HZ3.out
    go_wp2_with fail
    refine bodyPost_ret (v := .tuple #[.agg #[.int .i64 0, .bool false, .int .u64 0, .int .u64 0, .bool false, .int .u64 0, .int .u64 0, .int .i64 0, .int .i64 0], .int .i64 ff]) (by simp [results, Try.results20, go_sem, d0, d1, d2, d3, d4, d5, d6, d7, d8]) rfl ⟨by rw [← hrf.out, if_neg h0]; rfl, ?_⟩
    repeat refine Below.setCell ?_ (by simp) _
    exact HB3.out
end Go.Proofs.Ytaamonhhclffcaa
