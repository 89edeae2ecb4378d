/-
  Generators of flows and times: contracts of Flow, Times.
-/
import Derived.Test.YtaamonhhclffcaaGenC
namespace Go.Proofs.Ytaamonhhclffcaa
open Go.RowKit
set_option linter.unusedVariables false

set_option maxHeartbeats 1000000 in
set_option maxRecDepth 100000 in
theorem flow_gen (b m : Nat) (w : World) (h : Strm w b m) (hm : m + 20 < 1099511627776) :
    Calls Try.prog 8 #[.pointer (some ⟨b, 0, none⟩)] w fun e w' => ∃ f : FV, e = .returned (.agg f.cells) ∧ f.ok ∧ Gen b w w' (m + 19) := by
  have hblt := h.lt
  go_enter Try.func8, Try.ntmps8
  go_wp2_with fail
  refine (rightFlow_gen b m _ (h.alloc _) (by omega)).mono ?_
  rintro e w1 ⟨f, rfl, HO, hg⟩
  have HO := Lib.hid HO
  have HA1 : Hid (FBlk w1 w.heap.size FV.zero) := (Blk.new w _ _).keep hg.g (by omega)
  have HG1 := Lib.hid (((Gen.start h).alloc _).trans hg)
  clear hg
  unfold FV.cells
  go_wp2_with fail
  have hlt : w.heap.size < w1.heap.size := Blk.lt HA1.out
  refine (flip_gen b (m + 11) _ _ (HG1.out.s.alloc _) (by omega) (by omega)).mono ?_
  rintro e w2 ⟨kk, rfl, hg⟩
  have HF2 : Hid (FBlk w2 w1.heap.size f) := (Blk.new w1 _ _).keep hg.g (by have := HG1.out.s.lt; omega)
  have HA2 : Hid (FBlk w2 w.heap.size FV.zero) := (Blk.alloc HA1.out _).keep hg.g (by omega)
  have HG2 := Lib.hid ((HG1.out.alloc _).trans hg)
  clear hg HA1 HG1
  generalize w1.heap.size = F at *
  go_upto_if 7 with fail
  go_cut [] (fun wx => ∃ f : FV, FBlk wx F f ∧ f.ok ∧ FBlk wx w.heap.size FV.zero ∧ Gen b w wx (m + 19))
  case rest =>
    clear HF2 HA2 HG2 HO
    obtain ⟨f, HF, HO, HA, HG⟩ := hcut
    obtain ⟨c0, c1, c2, c3, c4, c5, c6, c7, c8, f0⟩ := FBlk.cells HF
    obtain ⟨d0, d1, d2, d3, d4, d5, d6, d7, d8, g0⟩ := FBlk.cells HA
    have HG := Lib.hid HG
    have hne : w.heap.size ≠ F := by omega
    clear HF HA hlt
    go_wp2_with fail
    refine bodyPost_ret (v := .agg f.cells) (by simp [results, Try.results8, go_sem, d0, d1, d2, d3, d4, d5, d6, d7, d8, FV.cells]) rfl ⟨f, rfl, HO, ?_⟩
    exact Gen.setB HG.out (Nat.le_refl _) hblt _ _ _ _ _ _ _ _ _ _ _ _ _ _ _ _ _ _
  case first =>
    go_wp2_with fail
    rotate_right
    · go_meet
      case rel => exact ⟨f, HF2.out, HO.out, HA2.out, HG2.out.mono (by omega)⟩
    · refine (next_gen b (m + 12) _ _ HG2.out.s (by omega) (by omega)).mono ?_
      rintro e w3 ⟨k3, rfl, ⟨hk0, hk1⟩, hg⟩
      have HF3 := Lib.hid (HF2.out.keep hg.g (by have := HG2.out.s.lt; omega))
      have HA3 := Lib.hid (HA2.out.keep hg.g (by omega))
      have HG3 := Lib.hid (HG2.out.trans hg)
      clear hg HF2 HA2 HG2
      go_wp2_with fail
      all_goals first
        | (refine (odd_gen b (m + 12 + 1) _ _ _ HG3.out.s (by omega) (by omega) (by omega)).mono ?_
           rintro e w4 ⟨k4, rfl, ⟨hk40, hk41⟩, hg⟩
           have HF4 := HF3.out.keep hg.g (by omega)
           obtain ⟨c0, -, -, -, -, -, -, c7, c8, f0⟩ := FBlk.cells (f := f) HF4
           have HF4 := Lib.hid HF4
           have HA4 := Lib.hid (HA3.out.keep hg.g (by omega))
           have HG4 := Lib.hid (HG3.out.trans hg)
           clear hg HF3 HA3 HG3
           go_wp2_with fail
           go_meet
           case rel =>
             refine ⟨_, by first | exact FBlk.setP (f := f) HF4.out k4 | exact FBlk.setFp (f := f) HF4.out k4 | exact FBlk.setTp (f := f) HF4.out k4, ?_, Blk.far HA4.out (by omega) _ _, Gen.setCell (HG4.out.mono (by omega)) ⟨F, _, none⟩ _ (Nat.le_of_lt hlt) (by simp only; omega)⟩
             have := HO.out
             simp only [FV.ok, I41, U64] at this ⊢
             omega)
        | (refine (raw_gen b (m + 12 + 1) _ HG3.out.s (by omega)).mono ?_
           rintro e w4 ⟨six, hi, lo, rfl, ⟨hu1, hu2⟩, hg⟩
           have HF4 := HF3.out.keep hg.g (by omega)
           obtain ⟨-, c1, c2, c3, -, -, -, -, -, f0⟩ := FBlk.cells (f := f) HF4
           have HF4 := Lib.hid HF4
           have HA4 := Lib.hid (HA3.out.keep hg.g (by omega))
           have HG4 := Lib.hid (HG3.out.trans hg)
           clear hg HF3 HA3 HG3
           unfold vAddr
           go_wp2_with fail
           go_meet
           case rel =>
             refine ⟨_, FBlk.setFrom (f := f) HF4.out six hi lo, ?_, Blk.far (Blk.far (Blk.far HA4.out (by omega) 1 _) (by omega) 2 _) (by omega) 3 _, Gen.setCell (Gen.setCell (Gen.setCell (HG4.out.mono (by omega)) ⟨F, 1, none⟩ _ (Nat.le_of_lt hlt) (by simp only; omega)) ⟨F, 2, none⟩ _ (Nat.le_of_lt hlt) (by simp only; omega)) ⟨F, 3, none⟩ _ (Nat.le_of_lt hlt) (by simp only; omega)⟩
             have := HO.out
             simp only [FV.ok, I41, U64] at this hu1 hu2 ⊢
             omega)
end Go.Proofs.Ytaamonhhclffcaa
