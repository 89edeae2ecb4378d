/-
  The generator of a range of ports.
-/
import Derived.Test.YtaamonhhclffcaaPorts
namespace Go.Proofs.Ytaamonhhclffcaa
open Go.RowKit Go
set_option linter.unusedVariables false

set_option maxRecDepth 100000 in
set_option maxHeartbeats 2000000 in
theorem portRange_gen (b m : Nat) (w : World) (h : Strm w b m) (hm : m + 5 < 1099511627776) :
    Calls Try.prog 33 #[.pointer (some ⟨b, 0, none⟩)] w fun e w' => ∃ f t : Int, e = .returned (.agg #[.int .i64 f, .int .i64 t]) ∧ (0 ≤ f ∧ f ≤ 65535) ∧ (0 ≤ t ∧ t ≤ 65535) ∧ Gen b w w' (m + 3) := by
  have hblt := h.lt
  have HG0 : Hid (Gen b w (w.alloc (.cells #[.int .i64 0, .int .i64 0] 64 (0, 0))) m) := Lib.hid ((Gen.start h).alloc _)
  have HA0 : Hid (Blk (w.alloc (.cells #[.int .i64 0, .int .i64 0] 64 (0, 0))) w.heap.size 64 #[.int .i64 0, .int .i64 0]) := Lib.hid (Blk.new w _ _)
  clear h
  go_enter Try.func33, Try.ntmps33
  go_wp2_with fail
  refine (next_gen b m _ _ HG0.out.s (by omega) (by omega)).mono ?_
  rintro e w1 ⟨q, rfl, ⟨hq0, hq1⟩, hg⟩
  have HG1 := Lib.hid (HG0.out.trans hg)
  have HA1 : Hid (Blk w1 w.heap.size 64 #[.int .i64 0, .int .i64 0]) := Lib.hid (Blk.keep HA0.out hg.g (by omega))
  clear hg HG0 HA0
  have a0 := HA1.out.cell 0
  have a1 := HA1.out.cell 1
  have f0 := Blk.free HA1.out
  simp at a0 a1
  obtain rfl | rfl | rfl | rfl | rfl : q = 0 ∨ q = 1 ∨ q = 2 ∨ q = 3 ∨ q = 4 := by omega
  · go_wp2_with fail
    refine bodyPost_ret (v := .agg #[.int .i64 0, .int .i64 65535]) (by simp [results, Try.results33, go_sem, a0, a1]) rfl ⟨_, _, rfl, by omega, by omega, ?_⟩
    repeat refine Gen.setCell ?_ _ _ (Nat.le_refl _) hblt
    exact HG1.out.mono (by omega)
  · go_wp2_with fail
    refine bodyPost_ret (v := .agg #[.int .i64 0, .int .i64 65535]) (by simp [results, Try.results33, go_sem, a0, a1]) rfl ⟨_, _, rfl, by omega, by omega, ?_⟩
    repeat refine Gen.setCell ?_ _ _ (Nat.le_refl _) hblt
    exact HG1.out.mono (by omega)
  · go_wp2_with fail
    refine (pick_new b (m + 1) _ _ _ _ [80, 90, 443] _ HG1.out.s rfl (by omega) rfl (by decide) rfl).mono ?_
    rintro e w2 ⟨x, rfl, hx, hg⟩
    have HG2 := Lib.hid (HG1.out.trans hg)
    have HA2 : Hid (Blk w2 w.heap.size 64 #[.int .i64 0, .int .i64 0]) := Lib.hid (Blk.keep HA1.out hg.g (by omega))
    have hxb : 0 ≤ x ∧ x ≤ 65535 := by simp at hx; omega
    clear hg a0 a1 f0 hx HG1 HA1
    have a0 := HA2.out.cell 0
    have a1 := HA2.out.cell 1
    have f0 := Blk.free HA2.out
    simp at a0 a1
    go_wp2_with fail
    refine bodyPost_ret (v := .agg #[.int .i64 80, .int .i64 x]) (by simp [results, Try.results33, go_sem, a0, a1]) rfl ⟨_, _, rfl, by omega, hxb, ?_⟩
    repeat refine Gen.setCell ?_ _ _ (Nat.le_refl _) hblt
    exact HG2.out.mono (by omega)
  · go_wp2_with fail
    refine (pick_new b (m + 1) _ _ _ _ [22, 443, 65535, 0] _ HG1.out.s rfl (by omega) rfl (by decide) rfl).mono ?_
    rintro e w2 ⟨x, rfl, hx, hg⟩
    have HG2 := Lib.hid (HG1.out.trans hg)
    have HA2 : Hid (Blk w2 w.heap.size 64 #[.int .i64 0, .int .i64 0]) := Lib.hid (Blk.keep HA1.out hg.g (by omega))
    have hxb : 0 ≤ x ∧ x ≤ 65535 := by simp at hx; omega
    clear hg a0 a1 f0 hx HG1 HA1
    have a0 := HA2.out.cell 0
    have a1 := HA2.out.cell 1
    have f0 := Blk.free HA2.out
    simp at a0 a1
    go_wp2_with fail
    refine bodyPost_ret (v := .agg #[.int .i64 x, .int .i64 x]) (by simp [results, Try.results33, go_sem, a0, a1]) rfl ⟨_, _, rfl, hxb, hxb, ?_⟩
    repeat refine Gen.setCell ?_ _ _ (Nat.le_refl _) hblt
    exact HG2.out.mono (by omega)
  · go_wp2_with fail
    refine (pick_new b (m + 1) _ _ _ _ [0, 81, 100] _ HG1.out.s rfl (by omega) rfl (by decide) rfl).mono ?_
    rintro e w2 ⟨x, rfl, hx, hg⟩
    have HG2 := Lib.hid (HG1.out.trans hg)
    have HA2 : Hid (Blk w2 w.heap.size 64 #[.int .i64 0, .int .i64 0]) := Lib.hid (Blk.keep HA1.out hg.g (by omega))
    have hxb : 0 ≤ x ∧ x ≤ 100 := by simp at hx; omega
    clear hg a0 a1 f0 hx HG1 HA1
    go_wp2_with fail
    refine (range_gen b (m + 1 + 1) _ _ _ HG2.out.s (by omega) (by omega) (by omega)).mono ?_
    rintro e w3 ⟨y, rfl, ⟨hy0, hy1⟩, hg⟩
    have HG3 := Lib.hid (HG2.out.trans hg)
    have HA3 : Hid (Blk w3 w.heap.size 64 #[.int .i64 0, .int .i64 0]) := Lib.hid (Blk.keep HA2.out hg.g (by omega))
    clear hg HG2 HA2
    have a0 := HA3.out.cell 0
    have a1 := HA3.out.cell 1
    have f0 := Blk.free HA3.out
    simp at a0 a1
    go_wp2_with fail
    refine bodyPost_ret (v := .agg #[.int .i64 x, .int .i64 y]) (by simp [results, Try.results33, go_sem, a0, a1]) rfl ⟨_, _, rfl, by omega, by omega, ?_⟩
    repeat refine Gen.setCell ?_ _ _ (Nat.le_refl _) hblt
    exact HG3.out.mono (by omega)
end Go.Proofs.Ytaamonhhclffcaa
