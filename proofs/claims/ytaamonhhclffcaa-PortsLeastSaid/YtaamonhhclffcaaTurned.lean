/-
  Flows turned round, and times: back, Back, BackOf, CheckTimes, TimesFault, Times, filtered.
-/
import Derived.Test.YtaamonhhclffcaaFlow
import Derived.Test.YtaamonhhclffcaaFilt
import Derived.Test.YtaamonhhclffcaaSum
import Derived.Test.YtaamonhhclffcaaGenD
namespace Go.Proofs.Ytaamonhhclffcaa
open Go.RowKit
set_option linter.unusedVariables false

def FV.back (f : FV) : FV := ⟨f.p, f.s2, f.h2, f.l2, f.s1, f.h1, f.l1, f.tp, f.fp⟩

set_option maxRecDepth 100000 in
theorem fback_any (f : FV) (w : World) : Calls Try.prog 52 #[.agg f.cells] w (Ret (.agg f.back.cells) w) := by
  obtain ⟨p, s1, h1, l1, s2, h2, l2, fp, tp⟩ := f
  simp only [FV.cells, FV.back]
  go_enter Try.func52, Try.ntmps52
  go_wp2
  exact bodyPost_ret (v := .agg #[.int .i64 p, .bool s2, .int .u64 h2, .int .u64 l2, .bool s1, .int .u64 h1, .int .u64 l1, .int .i64 tp, .int .i64 fp]) (by simp [results, Try.results52, go_sem]) rfl ⟨rfl, by repeat (first | exact Below.refl _ _ | apply below_alloc | apply below_drewN | (refine below_set ?_ (by simp) _ _))⟩
set_option maxRecDepth 100000 in
theorem backOf_any (f : FV) (w : World) : Calls Try.prog 12 #[.agg f.cells] w (Ret (.agg f.back.cells) w) := by
  obtain ⟨p, s1, h1, l1, s2, h2, l2, fp, tp⟩ := f
  simp only [FV.cells, FV.back]
  go_enter Try.func12, Try.ntmps12
  go_wp2
  exact bodyPost_ret (v := .agg #[.int .i64 p, .bool s2, .int .u64 h2, .int .u64 l2, .bool s1, .int .u64 h1, .int .u64 l1, .int .i64 tp, .int .i64 fp]) (by simp [results, Try.results12, go_sem]) rfl ⟨rfl, by repeat (first | exact Below.refl _ _ | apply below_alloc | apply below_drewN | (refine below_set ?_ (by simp) _ _))⟩

set_option maxRecDepth 100000 in
set_option maxHeartbeats 1000000 in
theorem back_any (f : FV) (w : World) (h : f.ok) : Calls Try.prog 10 #[.agg f.cells] w fun e w' => (∃ r : FV, e = .returned (.tuple #[.agg r.cells, .int .i64 (flowFault f)]) ∧ r = if flowFault f = 0 then f.back else FV.zero) ∧ Below w.heap.size w w' := by
  have HF := fun w => vFlowFault_any f w h
  have HB := fback_any f
  have hz : FV.zero.cells = #[.int .i64 0, .bool false, .int .u64 0, .int .u64 0, .bool false, .int .u64 0, .int .u64 0, .int .i64 0, .int .i64 0] := rfl
  generalize hff : flowFault f = ff at HF ⊢
  generalize f.back = g at HB ⊢
  have HH := Lib.hid h
  clear h hff
  obtain ⟨p, s1, h1, l1, s2, h2, l2, fp, tp⟩ := f
  obtain ⟨q, s3, h3, l3, s4, h4, l4, fq, tq⟩ := g
  simp only [FV.cells] at HF HB ⊢
  go_enter Try.func10, Try.ntmps10
  go_wp2_with fail
  refine (HF _).mono ?_
  rintro e w1 ⟨rfl, hb⟩
  have hs1 := hb.size
  simp only [World.size_alloc] at hs1
  have hF : FBlk w1 w.heap.size ⟨p, s1, h1, l1, s2, h2, l2, fp, tp⟩ := Blk.below ((Blk.new w _ _).alloc _) hb (by simp <;> omega)
  have hZ : FBlk w1 (w.heap.size + 1) FV.zero := by
    have := Blk.new (w.alloc (.cells #[.int .i64 p, .bool s1, .int .u64 h1, .int .u64 l1, .bool s2, .int .u64 h2, .int .u64 l2, .int .i64 fp, .int .i64 tp] 30 (0, 0))) 30 #[.int .i64 0, .bool false, .int .u64 0, .int .u64 0, .bool false, .int .u64 0, .int .u64 0, .int .i64 0, .int .i64 0]
    simp only [World.size_alloc] at this
    exact Blk.below this hb (by simp)
  have hB1 : Below w.heap.size w w1 := (below_alloc (below_alloc (Below.refl _ _) _) _).trans (hb.mono (by simp <;> omega))
  have HB1 := Lib.hid hB1
  obtain ⟨c0, c1, c2, c3, c4, c5, c6, c7, c8, f0⟩ := FBlk.cells hF
  obtain ⟨d0, d1, d2, d3, d4, d5, d6, d7, d8, g0⟩ := FBlk.cells hZ
  have HZ := Lib.hid hZ
  clear hb hB1 hF hZ HF hz
  by_cases h0 : ff = 0
  · subst h0
    go_wp2_with fail
    refine (HB _).mono ?_
    rintro e w2 ⟨rfl, hb⟩
    have hZ := Blk.below HZ.out hb (by omega)
    have hs2 := hb.size
    have hB2 : Below w.heap.size w w2 := HB1.out.trans (hb.mono (by omega))
    have HB2 := Lib.hid hB2
    clear d0 d1 d2 d3 d4 d5 d6 d7 d8 g0 hb hB2 c0 c1 c2 c3 c4 c5 c6 c7 c8 f0
    obtain ⟨d0, d1, d2, d3, d4, d5, d6, d7, d8, g0⟩ := FBlk.cells (f := FV.zero) hZ
    clear hZ HB
    go_wp2_with fail
    refine bodyPost_ret (v := .tuple #[.agg #[.int .i64 q, .bool s3, .int .u64 h3, .int .u64 l3, .bool s4, .int .u64 h4, .int .u64 l4, .int .i64 fq, .int .i64 tq], .int .i64 0]) (by simp [results, Try.results10, go_sem, d0, d1, d2, d3, d4, d5, d6, d7, d8]) rfl ⟨rfl, ?_⟩
    repeat refine Below.setCell ?_ (by simp) _
    exact HB2.out
  · go_wp2_with fail
    refine bodyPost_ret (v := .tuple #[.agg #[.int .i64 0, .bool false, .int .u64 0, .int .u64 0, .bool false, .int .u64 0, .int .u64 0, .int .i64 0, .int .i64 0], .int .i64 ff]) (by simp [results, Try.results10, go_sem, d0, d1, d2, d3, d4, d5, d6, d7, d8]) rfl ⟨rfl, ?_⟩
    repeat refine Below.setCell ?_ (by simp) _
    exact HB1.out

/-! times -/
structure TV where
  y : Int
  t : Int
  d : Int
  o : Int
def TV.cells (x : TV) : Array Value := #[.int .i64 x.y, .int .i64 x.t, .int .i64 x.d, .int .i64 x.o]
def TV.ok (x : TV) : Prop := I41 x.y ∧ I41 x.t ∧ I41 x.d ∧ I41 x.o
def timesFault (x : TV) : Int := if outB x.y 1 86400 = true ∨ outB x.t 1 86400 = true ∨ outB x.d 1 86400 = true ∨ outB x.o 1 86400 = true then 1 else 0

theorem timesFault_bad {x : TV} (h : min (min (min x.y x.t) x.d) x.o < 1 ∨ 86400 < max (max (max x.y x.t) x.d) x.o) : timesFault x = 1 := by
  unfold timesFault outB
  refine if_pos ?_
  simp only [Bool.or_eq_true, decide_eq_true_eq]
  omega
theorem timesFault_good {x : TV} (h : ¬ min (min (min x.y x.t) x.d) x.o < 1) (h2 : ¬ 86400 < max (max (max x.y x.t) x.d) x.o) : timesFault x = 0 := by
  unfold timesFault outB
  refine if_neg ?_
  simp only [Bool.or_eq_true, decide_eq_true_eq]
  omega
theorem idx4_0 (a b c d : Int) (w : World) : (Instr.index 83 (.agg #[.int .i64 a, .int .i64 b, .int .i64 c, .int .i64 d]) (.int .i64 0)).run Try.prog w = .ok (.int .i64 a) w := by kernel_rfl
theorem idx4_1 (a b c d : Int) (w : World) : (Instr.index 83 (.agg #[.int .i64 a, .int .i64 b, .int .i64 c, .int .i64 d]) (.int .i64 1)).run Try.prog w = .ok (.int .i64 b) w := by kernel_rfl
theorem idx4_2 (a b c d : Int) (w : World) : (Instr.index 83 (.agg #[.int .i64 a, .int .i64 b, .int .i64 c, .int .i64 d]) (.int .i64 2)).run Try.prog w = .ok (.int .i64 c) w := by kernel_rfl
theorem idx4_3 (a b c d : Int) (w : World) : (Instr.index 83 (.agg #[.int .i64 a, .int .i64 b, .int .i64 c, .int .i64 d]) (.int .i64 3)).run Try.prog w = .ok (.int .i64 d) w := by kernel_rfl

set_option maxRecDepth 100000 in
set_option maxHeartbeats 1000000 in
theorem checkTimes_any (x : TV) (w : World) : Calls Try.prog 13 #[.agg x.cells] w (Ret (.int .i64 (timesFault x)) w) := by
  obtain ⟨y, t, d, o⟩ := x
  simp only [TV.cells]
  have i0 := idx4_0
  have i1 := idx4_1
  have i2 := idx4_2
  have i3 := idx4_3
  go_enter Try.func13, Try.ntmps13
  go_wp2
  refine wp_loop_rounds 5 ?_
  rw [rounds_succ]
  go_wp2_with (first | rw [rounds_succ] | (go_at_call 55; refine (outside_any _ _ _ _).mono ?_; rintro e w' ⟨rfl, rfl⟩))
  all_goals (go_ret; clear i0 i1 i2 i3; refine ⟨?_, by repeat (first | exact Below.refl _ _ | apply below_alloc | apply below_drewN)⟩)
  all_goals (simp_all [timesFault])

set_option maxRecDepth 100000 in
set_option maxHeartbeats 1000000 in
theorem min4_any (a b c d : Int) (w : World) (B : Nat) (h : Blk w B 3 #[.int .i64 a, .int .i64 b, .int .i64 c, .int .i64 d]) :
    Calls Try.prog 56 #[.slice (some ⟨B, 0, none⟩) 4 4] w fun e w' => e = .returned (.int .i64 (min (min (min a b) c) d)) ∧ w = w' := by
  have c0 := h.cell 0
  have c1 := h.cell 1
  have c2 := h.cell 2
  have c3 := h.cell 3
  simp at c0 c1 c2 c3
  clear h
  go_enter Try.func56, Try.ntmps56
  go_wp2
  refine wp_loop_rounds 5 ?_
  rw [rounds_succ]
  go_wp2_with (rw [rounds_succ])
  all_goals (go_ret; refine ⟨ret_int ?_, rfl⟩; omega)
set_option maxRecDepth 100000 in
set_option maxHeartbeats 1000000 in
theorem max4_any (a b c d : Int) (w : World) (B : Nat) (h : Blk w B 3 #[.int .i64 a, .int .i64 b, .int .i64 c, .int .i64 d]) :
    Calls Try.prog 57 #[.slice (some ⟨B, 0, none⟩) 4 4] w fun e w' => e = .returned (.int .i64 (max (max (max a b) c) d)) ∧ w = w' := by
  have c0 := h.cell 0
  have c1 := h.cell 1
  have c2 := h.cell 2
  have c3 := h.cell 3
  simp at c0 c1 c2 c3
  clear h
  go_enter Try.func57, Try.ntmps57
  go_wp2
  refine wp_loop_rounds 5 ?_
  rw [rounds_succ]
  go_wp2_with (rw [rounds_succ])
  all_goals (go_ret; refine ⟨ret_int ?_, rfl⟩; omega)

set_option maxRecDepth 100000 in
set_option maxHeartbeats 1000000 in
theorem timesFault_any (x : TV) (w : World) : Calls Try.prog 14 #[.agg x.cells] w (Ret (.int .i64 (timesFault x)) w) := by
  obtain ⟨y, t, d, o⟩ := x
  simp only [TV.cells]
  go_enter Try.func14, Try.ntmps14
  go_wp2_with fail
  refine (min4_any y t d o _ (w.heap.size + 1) ?_).mono ?_
  · have := Blk.new (w.alloc (.cells #[.int .i64 y, .int .i64 t, .int .i64 d, .int .i64 o] 33 (0, 0))) 3 #[.int .i64 y, .int .i64 t, .int .i64 d, .int .i64 o]
    simpa using this
  rintro e w1 ⟨rfl, rfl⟩
  by_cases hmin : min (min (min y t) d) o < 1
  · have hf := Lib.hid (timesFault_bad (x := ⟨y, t, d, o⟩) (.inl hmin))
    go_wp2_with fail
    go_ret
    exact ⟨ret_int hf.out.symm, below_alloc (below_alloc (Below.refl _ _) _) _⟩
  · go_wp2_with fail
    refine (max4_any y t d o _ (w.heap.size + 1) ?_).mono ?_
    · have := Blk.new (w.alloc (.cells #[.int .i64 y, .int .i64 t, .int .i64 d, .int .i64 o] 33 (0, 0))) 3 #[.int .i64 y, .int .i64 t, .int .i64 d, .int .i64 o]
      simpa using this
    rintro e w1 ⟨rfl, rfl⟩
    by_cases hmax : 86400 < max (max (max y t) d) o
    · have hf := Lib.hid (timesFault_bad (x := ⟨y, t, d, o⟩) (.inr hmax))
      go_wp2_with fail
      go_ret
      exact ⟨ret_int hf.out.symm, below_alloc (below_alloc (Below.refl _ _) _) _⟩
    · have hf := Lib.hid (timesFault_good (x := ⟨y, t, d, o⟩) (by simp only; omega) (by simp only; omega))
      go_wp2_with fail
      go_ret
      exact ⟨ret_int hf.out.symm, below_alloc (below_alloc (Below.refl _ _) _) _⟩

def TBlk (w : World) (B : Nat) (x : TV) : Prop := Blk w B 33 #[.int .i64 x.y, .int .i64 x.t, .int .i64 x.d, .int .i64 x.o]
def TV.zero : TV := ⟨0, 0, 0, 0⟩
theorem TBlk.cells {w : World} {B : Nat} {x : TV} (h : TBlk w B x) : w.cell? ⟨B, 0, none⟩ = some (.int .i64 x.y) ∧ w.cell? ⟨B, 1, none⟩ = some (.int .i64 x.t) ∧ w.cell? ⟨B, 2, none⟩ = some (.int .i64 x.d) ∧ w.cell? ⟨B, 3, none⟩ = some (.int .i64 x.o) ∧ ∀ i, w.frozen? ⟨B, i, none⟩ = false :=
  ⟨Blk.cell h 0, Blk.cell h 1, Blk.cell h 2, Blk.cell h 3, Blk.free h⟩

set_option maxHeartbeats 1000000 in
set_option maxRecDepth 100000 in
theorem times_gen (b m : Nat) (w : World) (h : Strm w b m) (hm : m + 20 < 1099511627776) :
    Calls Try.prog 9 #[.pointer (some ⟨b, 0, none⟩)] w fun e w' => ∃ x : TV, e = .returned (.agg x.cells) ∧ x.ok ∧ Gen b w w' (m + 9) := by
  have hblt := h.lt
  go_enter Try.func9, Try.ntmps9
  go_wp2_with fail
  refine (pick_new b m _ _ _ _ [1, 5, 10] _ (h.alloc _) (by simp) (by omega) rfl (by decide) rfl).mono ?_
  rintro e w1 ⟨x1, rfl, hp, hg⟩
  have hx1 : 1 ≤ x1 ∧ x1 ≤ 100 := by simp at hp; omega
  have HG1 := Lib.hid (((Gen.start h).alloc _).trans hg)
  have HA1 : Hid (TBlk w1 w.heap.size TV.zero) := (Blk.new w _ _).keep hg.g (by omega)
  clear hp hg
  go_wp2_with fail
  refine (pick_new b (m + 1) _ _ _ _ [1, 20, 100] _ HG1.out.s rfl (by omega) rfl (by decide) rfl).mono ?_
  rintro e w2 ⟨x2, rfl, hp, hg⟩
  have hx2 : 1 ≤ x2 ∧ x2 ≤ 100 := by simp at hp; omega
  have HG2 := Lib.hid (HG1.out.trans hg)
  have HA2 : Hid (TBlk w2 w.heap.size TV.zero) := Blk.keep HA1.out hg.g (by omega)
  clear hp hg HG1 HA1
  go_wp2_with fail
  refine (pick_new b (m + 1 + 1) _ _ _ _ [1, 3] _ HG2.out.s rfl (by omega) rfl (by decide) rfl).mono ?_
  rintro e w3 ⟨x3, rfl, hp, hg⟩
  have hx3 : 1 ≤ x3 ∧ x3 ≤ 100 := by simp at hp; omega
  have HG3 := Lib.hid (HG2.out.trans hg)
  have HA3 : Hid (TBlk w3 w.heap.size TV.zero) := Blk.keep HA2.out hg.g (by omega)
  clear hp hg HG2 HA2
  go_wp2_with fail
  refine (pick_new b (m + 1 + 1 + 1) _ _ _ _ [1, 15] _ HG3.out.s rfl (by omega) rfl (by decide) rfl).mono ?_
  rintro e w4 ⟨x4, rfl, hp, hg⟩
  have hx4 : 1 ≤ x4 ∧ x4 ≤ 100 := by simp at hp; omega
  have HG4 := Lib.hid (HG3.out.trans hg)
  have HA4 : Hid (TBlk w4 w.heap.size TV.zero) := Blk.keep HA3.out hg.g (by omega)
  clear hp hg HG3 HA3
  go_wp2_with fail
  have hlt : w.heap.size < w4.heap.size := Blk.lt HA4.out
  refine (flip_gen b (m + 1 + 1 + 1 + 1) _ _ (HG4.out.s.alloc _) (by omega) (by omega)).mono ?_
  rintro e w5 ⟨kk, rfl, hg⟩
  have HF5 : Hid (TBlk w5 w4.heap.size ⟨x1, x2, x3, x4⟩) := (Blk.new w4 _ _).keep hg.g (by have := HG4.out.s.lt; omega)
  have HA5 : Hid (TBlk w5 w.heap.size TV.zero) := (Blk.alloc HA4.out _).keep hg.g (by omega)
  have HG5 := Lib.hid ((HG4.out.alloc _).trans hg)
  clear hg HG4 HA4
  generalize w4.heap.size = F at *
  go_upto_if 18 with fail
  go_cut [] (fun wx => ∃ x : TV, TBlk wx F x ∧ x.ok ∧ TBlk wx w.heap.size TV.zero ∧ Gen b w wx (m + 9))
  case rest =>
    clear HF5 HA5 HG5 hx1 hx2 hx3 hx4
    obtain ⟨x, HF, HO, HA, HG⟩ := hcut
    obtain ⟨c0, c1, c2, c3, f0⟩ := TBlk.cells HF
    obtain ⟨d0, d1, d2, d3, g0⟩ := TBlk.cells HA
    have HG := Lib.hid HG
    have hne : w.heap.size ≠ F := by omega
    clear HF HA hlt
    go_wp2_with fail
    refine bodyPost_ret (v := .agg x.cells) (by simp [results, Try.results9, go_sem, d0, d1, d2, d3, TV.cells]) rfl ⟨x, rfl, HO, ?_⟩
    exact Gen.setCell (Gen.set3 HG.out (Nat.le_refl _) hblt _ _ _) ⟨w.heap.size, 3, none⟩ _ (Nat.le_refl _) hblt
  case first =>
    go_wp2_with fail
    · refine (odd_gen b (m + 1 + 1 + 1 + 1 + 1) _ _ _ HG5.out.s (by omega) (by omega) (by omega)).mono ?_
      rintro e w6 ⟨y1, rfl, ⟨hy10, hy11⟩, hg⟩
      have HF6 : Hid (TBlk w6 F ⟨x1, x2, x3, x4⟩) := Blk.keep HF5.out hg.g (by omega)
      have HA6 : Hid (TBlk w6 w.heap.size TV.zero) := Blk.keep HA5.out hg.g (by omega)
      have HG6 := Lib.hid (HG5.out.trans hg)
      clear hg HF5 HA5 HG5
      go_wp2_with fail
      refine (odd_gen b (m + 1 + 1 + 1 + 1 + 1 + 2) _ _ _ HG6.out.s (by omega) (by omega) (by omega)).mono ?_
      rintro e w7 ⟨y2, rfl, ⟨hy20, hy21⟩, hg⟩
      have HF7 : Hid (TBlk w7 F ⟨x1, x2, x3, x4⟩) := Blk.keep HF6.out hg.g (by omega)
      have HA7 : Hid (TBlk w7 w.heap.size TV.zero) := Blk.keep HA6.out hg.g (by omega)
      have HG7 := Lib.hid (HG6.out.trans hg)
      obtain ⟨c0, c1, c2, c3, f0⟩ := TBlk.cells HF7.out
      clear hg HF6 HA6 HG6
      go_wp2_with fail
      go_meet
      case rel =>
        exact ⟨⟨y1, x2, y2, x4⟩, Blk.set (Blk.set HF7.out 0 (.int .i64 y1)) 2 (.int .i64 y2), by simp only [TV.ok, I41]; omega, Blk.far (Blk.far HA7.out (by omega) 0 _) (by omega) 2 _,
          Gen.setCell (Gen.setCell (HG7.out.mono (by omega)) ⟨F, 0, none⟩ _ (Nat.le_of_lt hlt) (by simp only; omega)) ⟨F, 2, none⟩ _ (Nat.le_of_lt hlt) (by simp only; omega)⟩
    · go_meet
      case rel => exact ⟨⟨x1, x2, x3, x4⟩, HF5.out, by simp only [TV.ok, I41]; omega, HA5.out, HG5.out.mono (by omega)⟩

end Go.Proofs.Ytaamonhhclffcaa
