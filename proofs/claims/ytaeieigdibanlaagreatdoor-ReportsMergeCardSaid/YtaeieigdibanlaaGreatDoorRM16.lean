/-
  The law ReportsMerge: walked. No condition.
-/
import Derived.Test.YtaeieigdibanlaaGreatDoorRM11
import Derived.Test.YtaeieigdibanlaaGreatDoorRM12
import Derived.Test.YtaeieigdibanlaaGreatDoorRM14
import Derived.Test.YtaeieigdibanlaaGreatDoorRM13
import Derived.Test.YtaeieigdibanlaaGreatDoorRM15
import Derived.Test.YtaeieigdibanlaaGreatDoorRM9
set_option linter.unusedVariables false
namespace Go.Proofs.YtaeieigdibanlaaGreatDoor
open Go.RowKit Go
set_option linter.unusedVariables false

theorem Gen.toBelowM {b m : Nat} {w u v : World} (h : Gen b u v m) (hw : Below w.heap.size w u) (hb : w.heap.size ≤ b) : Below w.heap.size w v :=
  ⟨h.g.os.trans hw.os, h.g.tape.trans hw.tape, h.g.output.trans hw.output, Nat.le_trans hw.size h.g.size, fun i hi => (h.g.block i (Nat.lt_of_lt_of_le hi hw.size) (by intro e; injection e; omega)).trans (hw.block i hi)⟩
theorem OwnK.rdDrop {α : Type} {E : Lay α} {w : World} {B g n c : Nat} {L : List α} (h : OwnK E w B (.slice (some ⟨g, 0, none⟩) n c) L) (k : Nat) : RdK E w (some ⟨g, k * E.K, none⟩) (L.drop k) := fun i x hx => by
  rw [List.getElem?_drop] at hx
  refine ⟨g, k * E.K, rfl, ?_, fun j v hv => ?_⟩
  · obtain ⟨_, _, _, _, cur, hg, _⟩ := h.block
    exact lt_of_block hg
  · have := h.get hx hv
    rw [Nat.add_mul] at this
    rw [← Nat.add_assoc]
    exact this
theorem mergeP_zero {A B : List RB} (h : firstE [repF A, repF B] = 0) : mergeP A B = mergeV A B ∧ repF A = 0 ∧ repF B = 0 := by
  have h1 : repF A = 0 := by
    by_cases h1 : repF A = 0
    · exact h1
    · rw [firstE, if_pos h1] at h; exact absurd h h1
  have h2 : repF B = 0 := by
    rw [firstE, if_neg (by simp [h1]), firstE_one] at h; exact h
  unfold mergeP
  rw [if_neg (by simp [h1]), if_neg (by simp [h2])]
  exact ⟨rfl, h1, h2⟩
theorem mergeP_bad {A B : List RB} (h : firstE [repF A, repF B] ≠ 0) : mergeP A B = ([], firstE [repF A, repF B]) := by
  unfold mergeP
  by_cases h1 : repF A = 0
  · by_cases h2 : repF B = 0
    · exact absurd (by simp [firstE, h1, h2]) h
    · simp [firstE, h1, h2]
  · simp [firstE, h1]
set_option maxRecDepth 100000 in
set_option maxHeartbeats 8000000 in
theorem law_ReportsMerge (ad : Option Addr) (n c : Nat) (w : World) (h : LawArg w ad n) :
    Calls Tryz.prog 3 #[.slice ad n c] w (Ret (.bool true) w) := by
  have hS := LawArg.strm (c := c) h
  have HB0 : Hid (Below w.heap.size w (w.alloc (.cells #[.slice ad n c, .int .i64 0] 25 (0, 0)))) := Lib.hid (below_alloc (Below.refl _ _) _)
  have hblt : w.heap.size < (w.alloc (.cells #[.slice ad n c, .int .i64 0] 25 (0, 0))).heap.size := hS.lt
  have HS := Lib.hid hS
  clear h hS
  go_enter Tryz.func3, Tryz.ntmps3
  go_wp2_with fail
  generalize w.alloc (.cells #[.slice ad n c, .int .i64 0] 25 (0, 0)) = w0 at *
  obtain ⟨b, hbw⟩ : ∃ b, w.heap.size = b := ⟨_, rfl⟩
  rw [hbw] at hblt HS HB0 ⊢
  have Hbw := Lib.hid hbw
  clear hbw
  refine (range_gen b 0 _ _ _ HS.out (by omega) (by omega) (by omega)).mono ?_
  rintro e w1 ⟨k, rfl, ⟨hk0, hk1⟩, hg⟩
  obtain ⟨K1, rfl⟩ := Int.eq_ofNat_of_zero_le hk0
  have hK1 : K1 ≤ 5 := by omega
  have HG1 : Hid (Gen b w0 w1 1) := Lib.hid hg
  clear hg hk0 hk1 HS
  go_wp2_with fail
  refine (reports_gen b 1 K1 _ HG1.out.s (by omega) (by omega)).mono ?_
  rintro e w2 ⟨v, X, rfl, hO, hl, hg⟩
  have HG2 : Hid (Gen b w0 w2 300) := Lib.hid ((HG1.out.trans hg).mono (by omega))
  obtain ⟨xa, xc, rfl, -⟩ := hO.form
  obtain ⟨nx, hnx⟩ : ∃ q, X.length = q := ⟨_, rfl⟩
  rw [hnx] at hO hl ⊢
  have HX2 := Lib.hid (hO.weak HG1.out.g.size)
  have Hnx := Lib.hid hnx
  have hx10 : nx ≤ 10 := by omega
  clear hO hl hg hnx HG1
  go_wp2_with fail
  refine (range_gen b 300 _ _ _ HG2.out.s (by omega) (by omega) (by omega)).mono ?_
  rintro e w3 ⟨k, rfl, ⟨hk0, hk1⟩, hg⟩
  obtain ⟨K2, rfl⟩ := Int.eq_ofNat_of_zero_le hk0
  have hK2 : K2 ≤ 4 := by omega
  have HG3 : Hid (Gen b w0 w3 301) := Lib.hid (HG2.out.trans hg)
  have HX3 := Lib.hid (HX2.out.gen hg hblt)
  clear hg hk0 hk1 HG2 HX2
  go_wp2_with fail
  refine (reports_gen b 301 K2 _ HG3.out.s (by omega) (by omega)).mono ?_
  rintro e w4 ⟨v, Y, rfl, hO, hl, hg⟩
  have HG4 : Hid (Gen b w0 w4 600) := Lib.hid ((HG3.out.trans hg).mono (by omega))
  have HX4 := Lib.hid (HX3.out.gen hg hblt)
  obtain ⟨ya, yc, rfl, -⟩ := hO.form
  obtain ⟨ny, hny⟩ : ∃ q, Y.length = q := ⟨_, rfl⟩
  rw [hny] at hO hl ⊢
  have HY4 := Lib.hid (hO.weak HG3.out.g.size)
  have Hny := Lib.hid hny
  have hy10 : ny ≤ 10 := by omega
  clear hO hl hg hny HG3 HX3
  go_upto_region 3 with fail
  go_cut [27] (fun s wx => ∃ kb : Bool, s = .bool kb ∧ (kb = true → 0 < nx) ∧ Gen b w0 wx 601 ∧ OwnK layRb wx w0.heap.size (.slice xa nx xc) X ∧ OwnK layRb wx w0.heap.size (.slice ya ny yc) Y)
  case first =>
    rcases Nat.eq_zero_or_pos nx with h0 | h0
    · subst h0
      go_wp2_with fail
      go_meet
      case rel => exact ⟨false, rfl, (fun h => by cases h), HG4.out.mono (by omega), HX4.out, HY4.out⟩
    · have h1 : (0 : Int) < (nx : Int) := by omega
      go_wp2_with fail
      refine (flip_gen b 600 _ _ HG4.out.s (by omega) (by omega)).mono ?_
      rintro e w5 ⟨kk, rfl, hg⟩
      have HG5 := Lib.hid (HG4.out.trans hg)
      have HX5 := Lib.hid (HX4.out.gen hg hblt)
      have HY5 := Lib.hid (HY4.out.gen hg hblt)
      clear hg HG4 HX4 HY4
      go_wp2_with fail
      go_meet
      case rel => exact ⟨kk, rfl, fun _ => h0, HG5.out, HX5.out, HY5.out⟩
  case rest =>
    clear HG4 HX4 HY4
    obtain ⟨kb, rfl, hkb, hg, hX, hY⟩ := hcut
    have HKb := Lib.hid hkb
    have HG5 := Lib.hid hg
    have HX5 := Lib.hid hX
    have HY5 := Lib.hid hY
    clear hkb hg hX hY
    go_upto_if 27 with fail
    go_cut [5] (fun s5 wx => ∃ (ya : Option Addr) (ny yc : Nat) (Y : List RB), s5 = .slice ya ny yc ∧ Y.length = ny ∧ ny ≤ 10 ∧ Gen b w0 wx 610 ∧ OwnK layRb wx w0.heap.size (.slice xa nx xc) X ∧ OwnK layRb wx w0.heap.size (.slice ya ny yc) Y)
    case first =>
      cases kb
      · go_wp2_with fail
        go_meet
        case rel => exact ⟨ya, ny, yc, Y, rfl, Hny.out, hy10, HG5.out.mono (by omega), HX5.out, HY5.out⟩
      · have h0 := HKb.out rfl
        obtain ⟨g, c', hv, hgB, hglt, hnc, -⟩ := HX5.out.one (by rw [Hnx.out]; exact h0)
        injection hv with hv q1 q2
        subst hv
        rw [← q2, Hnx.out] at hnc
        clear q1 q2 HKb HY5
        go_wp2_with fail
        refine (next_gen b 601 _ _ HG5.out.s (by omega) (by omega)).mono ?_
        rintro e w6 ⟨k, rfl, ⟨hk0, hk1⟩, hg⟩
        obtain ⟨q, rfl⟩ := Int.eq_ofNat_of_zero_le hk0
        have hq : q < nx := by omega
        have HG6 := Lib.hid (HG5.out.trans hg)
        have HX6 := Lib.hid (HX5.out.gen hg hblt)
        clear hg HG5 HX5 hk0 hk1
        have hck : ¬ xc = q := by omega
        have b1 : (q : Int) ≤ (nx : Int) := by omega
        have b2 : (nx : Int) ≤ (xc : Int) := by omega
        have b3 : (q : Int) ≤ (xc : Int) := by omega
        have HCl := Lib.hid (cloneRb_any (some ⟨g, q * 14, none⟩) (nx - q) (xc - q) (X.drop q) w6 (HX6.out.rdDrop q) (by rw [List.length_drop, Hnx.out]) (by omega))
        go_wp2_with fail
        refine HCl.out.mono ?_
        rintro e w7 ⟨v7, rfl, hO7, hb7⟩
        have HG7 : Hid (Gen b w0 w7 602) := Lib.hid (HG6.out.below0 hb7 HG6.out.s.lt)
        have HX7 := Lib.hid (HX6.out.later hb7)
        have HY7 := Lib.hid (hO7.weak HG6.out.g.size)
        have hfr : ∀ k, v7.ownBlock = some k → g < k := fun k hk => Nat.lt_of_lt_of_le (own_lt HX6.out g rfl) (own_base hO7 k hk)
        obtain ⟨ya7, yc7, hv7, -⟩ := hO7.form
        subst hv7
        have Hfr := Lib.hid hfr
        clear hfr
        have hl7 : (X.drop q).length = nx - q := by rw [List.length_drop, Hnx.out]
        rw [hl7] at HY7 ⊢
        have Hl7 := Lib.hid hl7
        clear hO7 hb7 HCl HG6 HX6 hl7
        generalize X.drop q = Z at *
        obtain ⟨nz, hnz⟩ : ∃ z, nx - q = z := ⟨_, rfl⟩
        have hz1 : 1 ≤ nz := by omega
        have hz10 : nz ≤ 10 := by omega
        rw [hnz] at HY7 Hl7 ⊢
        clear hnz b1 b2 b3 hck
        go_wp2_with fail
        refine (flip_gen b 602 _ _ HG7.out.s (by omega) (by omega)).mono ?_
        rintro e w8 ⟨kk, rfl, hg⟩
        have HG8 := Lib.hid (HG7.out.trans hg)
        have HX8 := Lib.hid (HX7.out.gen hg hblt)
        have HY8 := Lib.hid (HY7.out.gen hg hblt)
        clear hg HG7 HX7 HY7
        cases kk
        · go_wp2_with fail
          go_meet
          case rel => exact ⟨ya7, nz, yc7, Z, rfl, Hl7.out, hz10, HG8.out.mono (by omega), HX8.out, HY8.out⟩
        · obtain ⟨g2, c2, hv, hg2B, hg2lt, -⟩ := HY8.out.one (by rw [Hl7.out]; exact hz1)
          injection hv with hv q1 q2
          subst hv
          clear q1 q2
          obtain ⟨x, hx⟩ : ∃ x, Z[0]? = some x := ⟨_, List.getElem?_eq_getElem (by rw [Hl7.out]; exact hz1)⟩
          have e0 : w8.cell? ⟨g2, 13, none⟩ = some (.int .i64 x.1.sz) := by
            have := HY8.out.get (i := 0) (j := 13) hx rfl
            rwa [Nat.zero_mul, Nat.zero_add] at this
          have ef := HY8.out.frozen
          have HE : Hid (OwnK layRb (w8.setCell ⟨g2, 13, none⟩ (.int .i64 (wrap64 (x.1.sz + 1)))) w0.heap.size (.slice (some ⟨g2, 0, none⟩) nz yc7) (Z.set 0 ⟨{ x.1 with sz := wrap64 (x.1.sz + 1) }, x.2⟩)) := Lib.hid (by
            have := HY8.out.setTo (i := 0) (j := 13) (v := .int .i64 (wrap64 (x.1.sz + 1))) (y := ⟨{ x.1 with sz := wrap64 (x.1.sz + 1) }, x.2⟩) hx (by decide) rfl
            rwa [Nat.zero_mul, Nat.zero_add] at this)
          have hbg2 : b < g2 := by omega
          have hgg : g < g2 := Hfr.out g2 rfl
          have HXe : Hid (OwnK layRb (w8.setCell ⟨g2, 13, none⟩ (.int .i64 (wrap64 (x.1.sz + 1)))) w0.heap.size (.slice (some ⟨g, 0, none⟩) nx xc) X) := Lib.hid (World.ownsRow.kept HX8.out (grown_setCells g2 [.int .i64 (wrap64 (x.1.sz + 1))] 13 w8) (.inr (by simp [Value.ownBlock]; omega)))
          have HGe : Hid (Gen b w0 (w8.setCell ⟨g2, 13, none⟩ (.int .i64 (wrap64 (x.1.sz + 1)))) 610) := Lib.hid ((HG8.out.setCell ⟨g2, 13, none⟩ _ hg2B hbg2).mono (by omega))
          go_wp2_with fail
          go_meet
          case rel => exact ⟨some ⟨g2, 0, none⟩, nz, yc7, _, rfl, List.length_set.trans Hl7.out, hz10, HGe.out, HXe.out, HE.out⟩
    case rest =>
      clear HG5 HX5 HY5 HKb Hny hy10
      obtain ⟨ya, ny, yc, Y, rfl, hny, hy10, hg, hX, hY⟩ := hcut
      have Hny := Lib.hid hny
      have HG := Lib.hid hg
      have HX := Lib.hid hX
      have HY := Lib.hid hY
      clear hny hg hX hY
      have HFx := Lib.hid fun wx (h : RdK layRb wx xa X) => reportsFault_any xa nx xc X wx h Hnx.out (by omega)
      have HFy := Lib.hid fun wx (h : RdK layRb wx ya Y) => reportsFault_any ya ny yc Y wx h Hny.out (by omega)
      have HCx := Lib.hid fun wx (h : RdK layRb wx xa X) => flCheckR_any xa nx xc X wx h Hnx.out (by omega)
      have HM := Lib.hid (merge_any xa ya nx xc ny yc X Y wc HX.out.rd HY.out.rd Hnx.out Hny.out (by omega))
      have HV := Lib.hid fun wx (h1 : RdK layRb wx xa X) (h2 : RdK layRb wx ya Y) => reportsOf_any xa ya nx xc ny yc X Y wx h1 h2 Hnx.out Hny.out (by omega)
      have HP0 := Lib.hid (mergeP_zero (A := X) (B := Y))
      have HP1 := Lib.hid (mergeP_bad (A := X) (B := Y))
      have hml : (mergeP X Y).1.length ≤ 20 := by
        unfold mergeP mergeV
        split
        · simp
        · split
          · simp
          · split
            · simp
            · have := mergeL_len X Y
              rw [Hnx.out, Hny.out] at this
              show (mergeL X Y).length ≤ 20
              omega
      generalize mergeP X Y = MP at *
      generalize mergeV X Y = MV at *
      generalize repF X = FX at *
      generalize repF Y = FY at *
      obtain ⟨FF, hFF⟩ : ∃ q, firstE [FX, FY] = q := ⟨_, rfl⟩
      have HFF := Lib.hid hFF
      rw [hFF] at HP0 HP1
      clear hFF
      go_wp2_with fail
      refine HM.out.mono ?_
      rintro e w1 ⟨v1, rfl, hO, hb⟩
      have HG1 : Hid (Gen b w0 w1 610) := Lib.hid (HG.out.below0 hb HG.out.s.lt)
      have HX1 := Lib.hid (HX.out.later hb)
      have HY1 := Lib.hid (HY.out.later hb)
      have HM1 := Lib.hid (hO.weak HG.out.g.size)
      clear hO hb HM HG HX HY
      obtain ⟨ma, mc, hvm, -⟩ := HM1.out.form
      subst hvm
      obtain ⟨mn, hmn⟩ : ∃ q, MP.1.length = q := ⟨_, rfl⟩
      rw [hmn] at HM1 hml ⊢
      have Hmn := Lib.hid hmn
      clear hmn
      go_wp2_with fail
      refine (HFx.out _ HX1.out.rd).mono ?_
      rintro e w2 ⟨rfl, hb⟩
      have HG2 := Lib.hid (HG1.out.below0 hb HG1.out.s.lt)
      have HX2 := Lib.hid (HX1.out.later hb)
      have HY2 := Lib.hid (HY1.out.later hb)
      have HM2 := Lib.hid (HM1.out.later hb)
      clear hb HFx HG1 HX1 HY1 HM1
      go_wp2_with fail
      refine (HCx.out _ HX2.out.rd).mono ?_
      rintro e w3 ⟨rfl, hb⟩
      have HG3 := Lib.hid (HG2.out.below0 hb HG2.out.s.lt)
      have HX3 := Lib.hid (HX2.out.later hb)
      have HY3 := Lib.hid (HY2.out.later hb)
      have HM3 := Lib.hid (HM2.out.later hb)
      clear hb HCx HG2 HX2 HY2 HM2
      go_wp2_with fail
      refine (HFy.out _ HY3.out.rd).mono ?_
      rintro e w4 ⟨rfl, hb⟩
      have HG4 := Lib.hid (HG3.out.below0 hb HG3.out.s.lt)
      have HX4 := Lib.hid (HX3.out.later hb)
      have HY4 := Lib.hid (HY3.out.later hb)
      have HM4 := Lib.hid (HM3.out.later hb)
      clear hb HFy HG3 HX3 HY3 HM3
      go_wp2_with fail
      refine (errs_any _ 2 2 [FX, FY] _ (rdInts_new _ _ [FX, FY] _ rfl) (by omega)).mono ?_
      rintro e w5 ⟨rfl, rfl⟩
      rw [HFF.out]
      have HG5 := Lib.hid (HG4.out.alloc (.cells #[.int .i64 FX, .int .i64 FY] 39 (0, 0)))
      have HX5 := Lib.hid (HX4.out.alloc (.cells #[.int .i64 FX, .int .i64 FY] 39 (0, 0)))
      have HY5 := Lib.hid (HY4.out.alloc (.cells #[.int .i64 FX, .int .i64 FY] 39 (0, 0)))
      have HM5 := Lib.hid (HM4.out.alloc (.cells #[.int .i64 FX, .int .i64 FY] 39 (0, 0)))
      clear HG4 HX4 HY4 HM4 HFF
      go_upto_region 13 with fail
      generalize w4.alloc (.cells #[.int .i64 FX, .int .i64 FY] 39 (0, 0)) = w5 at *
      by_cases hz : FF = 0
      · obtain ⟨hMP, -, -⟩ := HP0.out hz
        subst hz
        subst hMP
        clear HP0 HP1
        have HVv := Lib.hid (HV.out w5 HX5.out.rd HY5.out.rd)
        go_wp2_with fail
        refine HVv.out.mono ?_
        rintro e w6 ⟨v6, rfl, hO, hb⟩
        have HG6 := Lib.hid (HG5.out.below0 hb HG5.out.s.lt)
        have HM6 := Lib.hid (HM5.out.later hb)
        obtain ⟨va, vc, hvv, -⟩ := hO.form
        subst hvv
        have HV6 := Lib.hid hO
        rw [Hmn.out] at HV6 ⊢
        have HEq := Lib.hid fun wx (h1 : RdK layRb wx ma MP.1) (h2 : RdK layRb wx va MP.1) => equalRb_any ma va mn mc vc MP.1 wx h1 h2 Hmn.out (by omega)
        clear hO hb HVv HV HG5 HX5 HY5 HM5
        go_wp2_with fail
        refine (HEq.out _ HM6.out.rd HV6.out.rd).mono ?_
        rintro e w7 ⟨rfl, hb⟩
        have HG7 := Lib.hid (HG6.out.below0 hb HG6.out.s.lt)
        clear hb HG6 HM6 HV6 HEq
        go_wp2_with fail
        refine (flowing_any _).mono ?_
        rintro e w8 ⟨rfl, hb⟩
        have HG8 := Lib.hid (HG7.out.below0 hb HG7.out.s.lt)
        clear hb HG7
        go_wp2_with fail
        go_ret
        exact ⟨rfl, Gen.toBelowM HG8.out (by rw [Hbw.out]; exact HB0.out) (by rw [Hbw.out]; exact Nat.le_refl _)⟩
      · have hMP := HP1.out hz
        subst hMP
        have hne : (FF == 0) = false := beq_eq_false_iff_ne.2 hz
        have hmn0 : mn = 0 := by rw [← Hmn.out]; rfl
        subst hmn0
        have HEq := Lib.hid fun wx (h1 : RdK layRb wx ma []) => equalRb_any ma none 0 mc 0 [] wx h1 (RdK.nil _ _) rfl (by omega)
        clear HP0 HP1 HV HX5 HY5
        go_wp2_with fail
        refine (HEq.out _ HM5.out.rd).mono ?_
        rintro e w7 ⟨rfl, hb⟩
        have HG7 := Lib.hid (HG5.out.below0 hb HG5.out.s.lt)
        clear hb HG5 HM5 HEq
        go_wp2_with fail
        refine (flowing_any _).mono ?_
        rintro e w8 ⟨rfl, hb⟩
        have HG8 := Lib.hid (HG7.out.below0 hb HG7.out.s.lt)
        clear hb HG7
        go_wp2_with fail
        go_ret
        exact ⟨rfl, Gen.toBelowM HG8.out (by rw [Hbw.out]; exact HB0.out) (by rw [Hbw.out]; exact Nat.le_refl _)⟩
end Go.Proofs.YtaeieigdibanlaaGreatDoor
