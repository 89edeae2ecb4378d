/-
  The law FlowsTurned: walked.
-/
import Derived.Test.YtaamonhhclffcaaTurned
namespace Go.Proofs.Ytaamonhhclffcaa
open Go.RowKit
set_option linter.unusedVariables false

theorem Gen.toBelow {b m : Nat} {w u v : World} (h : Gen b u v m) (hw : Below w.heap.size w u) (hb : w.heap.size ≤ b) : Below w.heap.size w v :=
  hw.trans ⟨h.g.os, h.g.tape, h.g.output, h.g.size, fun k hk => h.g.block k (Nat.lt_of_lt_of_le hk hw.size) (by intro e; injection e with e; omega)⟩

set_option maxRecDepth 100000 in
set_option maxHeartbeats 2000000 in
theorem law_FlowsTurned (ad : Option Addr) (n c : Nat) (w : World) (h : LawArg w ad n) :
    Calls Try.prog 3 #[.slice ad n c] w (Ret (.bool true) w) := by
  have hS := LawArg.strm (c := c) h
  go_enter Try.func3, Try.ntmps3
  go_wp2_with fail
  refine (flow_gen w.heap.size 0 _ hS (by omega)).mono ?_
  rintro e w1 ⟨f, rfl, HO, hg⟩
  have HO := Lib.hid HO
  have HG1 := Lib.hid hg
  clear hg
  go_wp2_with fail
  refine (times_gen w.heap.size (0 + 19) _ HG1.out.s (by omega)).mono ?_
  rintro e w2 ⟨x, rfl, HX, hg⟩
  have HX := Lib.hid HX
  have HG2 := Lib.hid (HG1.out.trans hg)
  have HB2 := Lib.hid (HG2.out.toBelow (w := w) ((Below.refl _ w).alloc (Nat.le_refl _) _) (Nat.le_refl _))
  clear hg HG1 HG2 hS h
  unfold FV.cells TV.cells
  go_wp2_with fail
  have hF0 : FBlk ((w2.alloc (.cells #[.int .i64 f.p, .bool f.s1, .int .u64 f.h1, .int .u64 f.l1, .bool f.s2, .int .u64 f.h2, .int .u64 f.l2, .int .i64 f.fp, .int .i64 f.tp] 30 (0, 0))).alloc (.cells #[.int .i64 x.y, .int .i64 x.t, .int .i64 x.d, .int .i64 x.o] 33 (0, 0))) w2.heap.size f := (Blk.new w2 _ _).alloc _
  have hT0 : TBlk ((w2.alloc (.cells #[.int .i64 f.p, .bool f.s1, .int .u64 f.h1, .int .u64 f.l1, .bool f.s2, .int .u64 f.h2, .int .u64 f.l2, .int .i64 f.fp, .int .i64 f.tp] 30 (0, 0))).alloc (.cells #[.int .i64 x.y, .int .i64 x.t, .int .i64 x.d, .int .i64 x.o] 33 (0, 0))) (w2.heap.size + 1) x := by
    have := Blk.new (w2.alloc (.cells #[.int .i64 f.p, .bool f.s1, .int .u64 f.h1, .int .u64 f.l1, .bool f.s2, .int .u64 f.h2, .int .u64 f.l2, .int .i64 f.fp, .int .i64 f.tp] 30 (0, 0))) 33 #[.int .i64 x.y, .int .i64 x.t, .int .i64 x.d, .int .i64 x.o]
    simp only [World.size_alloc] at this
    exact this
  refine (back_any f _ HO.out).mono ?_
  rintro e w3 ⟨⟨r, rfl, hr⟩, hb⟩
  have hs3 := hb.size
  simp only [World.size_alloc] at hs3
  have HF3 := Lib.hid (hF0.below hb (by simp <;> omega))
  have HT3 := Lib.hid (hT0.below hb (by simp))
  have HB3 : Hid (Below w.heap.size w w3) := (HB2.out.trans ((Below.refl _ w2).mono (Nat.le_refl _) |>.mono HB2.out.size |>.alloc HB2.out.size _ |>.alloc (by simp; have := HB2.out.size; omega) _)).trans (hb.mono (by simp; have := HB2.out.size; omega))
  have hlt2 := HB2.out.size
  have Hr := Lib.hid hr
  clear hr hF0 hT0 HB2 hb
  obtain ⟨ff, hff⟩ : ∃ ff, ff = flowFault f := ⟨_, rfl⟩
  rw [← hff]
  have Hff := Lib.hid hff
  clear hff
  generalize w2.heap.size = F at *
  obtain ⟨c0, c1, c2, c3, c4, c5, c6, c7, c8, f0⟩ := FBlk.cells HF3.out
  have hF3 : F < w3.heap.size := by omega
  have hF3' : F ≠ w3.heap.size := by omega
  unfold FV.cells
  go_wp2_with fail
  refine (qFlowFault_any f _ HO.out).mono ?_
  rintro e w4 ⟨rfl, hb⟩
  have hs4 := hb.size
  simp only [World.size_alloc] at hs4
  have HF4 := Lib.hid ((Blk.alloc HF3.out _).below hb (by simp <;> omega))
  have HT4 := Lib.hid ((Blk.alloc HT3.out _).below hb (by simp <;> omega))
  have HR4 : Hid (FBlk w4 w3.heap.size r) := (Blk.new w3 _ _).below hb (by simp)
  have hlt3 := HB3.out.size
  have HB4 : Hid (Below w.heap.size w w4) := (below_alloc HB3.out _).trans (hb.mono (by simp; omega))
  rw [← Hff.out]
  clear hb HF3 HT3 HB3 c0 c1 c2 c3 c4 c5 c6 c7 c8 f0 hF3 hF3'
  generalize w3.heap.size = R at *
  obtain ⟨c0, c1, c2, c3, c4, c5, c6, c7, c8, f0⟩ := FBlk.cells HF4.out
  obtain ⟨d0, d1, d2, d3, d4, d5, d6, d7, d8, g0⟩ := FBlk.cells HR4.out
  go_upto_region 5 with fail
  go_cut [44] (fun s44 wx => s44 = .bool false ∧ Below w4.heap.size w4 wx)
  case rest =>
    clear c0 c1 c2 c3 c4 c5 c6 c7 c8 f0 d0 d1 d2 d3 d4 d5 d6 d7 d8 g0
    obtain ⟨rfl, hb⟩ := hcut
    have hT := TBlk.cells (HT4.out.below hb (by omega))
    obtain ⟨c0, c1, c2, c3, f0⟩ := hT
    have l0 := Later.cell_of c0
    have l1 := Later.cell_of c1
    have l2 := Later.cell_of c2
    have l3 := Later.cell_of c3
    have h1 := fun n : Later wc => Calls.later n (checkTimes_any x n.1)
    have h2 := fun n : Later wc => Calls.later n (timesFault_any x n.1)
    have h3 := fun n : Later wc => Calls.later n (filtered_any n.1)
    unfold TV.cells at h1 h2
    have HB5 := Lib.hid (HB4.out.trans (hb.mono HB4.out.size))
    clear hb
    go_wp2_with fail
    refine wp_region_later (by kernel_rfl) (by kernel_rfl) ?_
    repeat (go_big_quiet_step (first | (go_at_call 13; exact h1 _) | (go_at_call 14; exact h2 _) | (go_at_call 15; exact h3 _)))
    refine wpQuiet_nil ?_
    rintro w5 ⟨n5, rfl⟩
    go_wp2_with fail
    go_ret
    exact ⟨rfl, HB5.out.trans (n5.2.mono HB5.out.size)⟩
  case first =>
  by_cases h0 : ff = 0
  · have hr : r = f.back := by rw [Hr.out, if_pos (by rw [← Hff.out]; exact h0)]
    subst hr
    subst h0
    have l0 := Later.cell_of c0
    have l1 := Later.cell_of c1
    have l2 := Later.cell_of c2
    have l3 := Later.cell_of c3
    have l4 := Later.cell_of c4
    have l5 := Later.cell_of c5
    have l6 := Later.cell_of c6
    have l7 := Later.cell_of c7
    have l8 := Later.cell_of c8
    have k0 := Later.cell_of d0
    have k1 := Later.cell_of d1
    have k2 := Later.cell_of d2
    have k3 := Later.cell_of d3
    have k4 := Later.cell_of d4
    have k5 := Later.cell_of d5
    have k6 := Later.cell_of d6
    have k7 := Later.cell_of d7
    have k8 := Later.cell_of d8
    have hB := fun n : Later w4 => Calls.later n (backOf_any f n.1)
    unfold FV.cells at hB
    refine wp_region_later (by kernel_rfl) (by kernel_rfl) ?_
    repeat (go_big_quiet_step ((go_at_call 12; exact hB _)))
    refine wpQuiet_nil ?_
    rintro w5 ⟨n5, rfl⟩
    go_wp2_with fail
    go_meet
    case rel => exact ⟨rfl, n5.2⟩
  · have hr : r = FV.zero := by rw [Hr.out, if_neg (by rw [← Hff.out]; exact h0)]
    subst hr
    have e1 : (ff == 0) = false := by simpa using h0
    have e2 : (ff != 0) = true := by simpa using h0
    simp only [FV.zero] at d0 d1 d2 d3 d4 d5 d6 d7 d8
    refine wp_region_quiet_lit (by kernel_rfl) (by kernel_rfl) ?_
    repeat (go_big_quiet_step (fail))
    refine wpQuiet_nil ?_
    rintro w5 ⟨n5, rfl⟩
    go_wp2_with fail
    go_meet
    case rel => exact ⟨rfl, below_drewN (Below.refl _ _) _⟩
end Go.Proofs.Ytaamonhhclffcaa
