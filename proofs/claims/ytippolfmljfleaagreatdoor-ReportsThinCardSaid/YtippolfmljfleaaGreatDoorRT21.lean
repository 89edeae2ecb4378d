/-
  The law ReportsThin: walked. No condition.
-/
import Derived.Test.YtippolfmljfleaaGreatDoorRT10
import Derived.Test.YtippolfmljfleaaGreatDoorRT11
import Derived.Test.YtippolfmljfleaaGreatDoorRT12
import Derived.Test.YtippolfmljfleaaGreatDoorRT9
import Derived.Test.YtippolfmljfleaaGreatDoorRT17
import Derived.Test.YtippolfmljfleaaGreatDoorRT20
set_option linter.unusedVariables false
namespace Go.Proofs.YtippolfmljfleaaGreatDoor
open Go.RowKit Go
set_option linter.unusedVariables false

theorem Gen.toBelowT {b m : Nat} {w u v : World} (h : Gen b u v m) (hw : Below w.heap.size w u) (hb : w.heap.size ≤ b) : Below w.heap.size w v :=
  ⟨h.g.os.trans hw.os, h.g.tape.trans hw.tape, h.g.output.trans hw.output, Nat.le_trans hw.size h.g.size, fun i hi => (h.g.block i (Nat.lt_of_lt_of_le hi hw.size) (by intro e; injection e; omega)).trans (hw.block i hi)⟩
theorem thinF_errs (X : List RB) (d : Int) : firstE [repF X, if outB d 0 4001 = true then 1 else 0] = thinF X d := by
  unfold thinF
  by_cases h : repF X = 0
  · rw [if_neg (show ¬ repF X ≠ 0 by simp [h]), firstE, if_neg (show ¬ repF X ≠ 0 by simp [h]), firstE_one]
  · rw [firstE, if_pos h, if_pos h]
theorem hidF_errs (X : List RB) (b4 b6 : Int) : firstE [repF X, if (outB b4 0 32 || outB b6 0 128) = true then 1 else 0] = hidF X b4 b6 := by
  unfold hidF
  by_cases h : repF X = 0
  · rw [if_neg (show ¬ repF X ≠ 0 by simp [h]), firstE, if_neg (show ¬ repF X ≠ 0 by simp [h]), firstE_one]
  · rw [firstE, if_pos h, if_pos h]
theorem thinF_zero {X : List RB} {d : Int} (h : thinF X d = 0) : repF X = 0 ∧ 0 ≤ d ∧ d ≤ 4001 := by
  unfold thinF at h
  by_cases h1 : repF X = 0
  · rw [if_neg (by simp [h1])] at h
    by_cases h2 : outB d 0 4001 = true
    · rw [if_pos h2] at h; cases h
    · unfold outB at h2
      simp at h2
      exact ⟨h1, by omega, by omega⟩
  · rw [if_pos h1] at h; exact absurd h h1
theorem hidF_zero {X : List RB} {b4 b6 : Int} (h : hidF X b4 b6 = 0) : (0 ≤ b4 ∧ b4 ≤ 32) ∧ (0 ≤ b6 ∧ b6 ≤ 128) := by
  unfold hidF at h
  by_cases h1 : repF X = 0
  · rw [if_neg (by simp [h1])] at h
    by_cases h2 : (outB b4 0 32 || outB b6 0 128) = true
    · rw [if_pos h2] at h; cases h
    · unfold outB at h2
      simp at h2
      exact ⟨⟨by omega, by omega⟩, by omega, by omega⟩
  · rw [if_pos h1] at h; exact absurd h h1
theorem thinP_len (d : Int) (X : List RB) : (thinP d X).length ≤ X.length := by
  unfold thinP
  have := togL_len (X.map (thinR d))
  rwa [List.length_map] at this
theorem hidP_len (b4 b6 : Int) (X : List RB) : (hidP b4 b6 X).length ≤ X.length := by
  unfold hidP
  have := togL_len (X.map (hideR b4.toNat b6.toNat))
  rwa [List.length_map] at this
set_option maxRecDepth 100000 in
set_option maxHeartbeats 8000000 in
theorem law_ReportsThin (ad : Option Addr) (n c : Nat) (w : World) (h : LawArg w ad n) :
    Calls Tryz.prog 3 #[.slice ad n c] w (Ret (.bool true) w) := by
  have hS := LawArg.strm (c := c) h
  have HB0 : Hid (Below w.heap.size w (w.alloc (.cells #[.slice ad n c, .int .i64 0] 25 (0, 0)))) := Lib.hid (below_alloc (Below.refl _ _) _)
  have hblt : w.heap.size < (w.alloc (.cells #[.slice ad n c, .int .i64 0] 25 (0, 0))).heap.size := hS.lt
  have HS := Lib.hid hS
  clear h hS
  go_enter Tryz.func3, Tryz.ntmps3
  go_wp2_with fail
  generalize w.alloc (.cells #[.slice ad n c, .int .i64 0] 25 (0, 0)) = w0 at *
  obtain ⟨b, hbw⟩ : ∃ b, w.heap.size = b := ⟨_, rfl⟩
  rw [hbw] at hblt HS HB0 ⊢
  have Hbw := Lib.hid hbw
  clear hbw
  refine (range_gen b 0 _ _ _ HS.out (by omega) (by omega) (by omega)).mono ?_
  rintro e w1 ⟨k, rfl, ⟨hk0, hk1⟩, hg⟩
  obtain ⟨K1, rfl⟩ := Int.eq_ofNat_of_zero_le hk0
  have hK1 : K1 ≤ 10 := by omega
  have HG1 : Hid (Gen b w0 w1 1) := Lib.hid hg
  clear hg hk0 hk1 HS
  go_wp2_with fail
  refine (reports_gen b 1 K1 _ HG1.out.s (by omega) (by omega)).mono ?_
  rintro e w2 ⟨v, X, rfl, hO, hl, hg⟩
  have HG2 : Hid (Gen b w0 w2 261) := Lib.hid ((HG1.out.trans hg).mono (by omega))
  obtain ⟨xa, xc, rfl, -⟩ := hO.form
  obtain ⟨nx, hnx⟩ : ∃ q, X.length = q := ⟨_, rfl⟩
  rw [hnx] at hO hl ⊢
  have HX2 := Lib.hid (hO.weak HG1.out.g.size)
  have Hnx := Lib.hid hnx
  have hx20 : nx ≤ 20 := by omega
  clear hO hl hg hnx HG1
  go_wp2_with fail
  refine (odd_gen b 261 _ _ _ HG2.out.s (by omega) (by omega) (by omega)).mono ?_
  rintro e w3 ⟨d, rfl, hd, hg⟩
  have Hd := Lib.hid hd
  have HG3 : Hid (Gen b w0 w3 263) := Lib.hid (HG2.out.trans hg)
  have HX3 := Lib.hid (HX2.out.gen hg hblt)
  clear hg hd HG2 HX2
  go_wp2_with fail
  refine (odd_gen b 263 _ _ _ HG3.out.s (by omega) (by omega) (by omega)).mono ?_
  rintro e w4 ⟨c4, rfl, -, hg⟩
  have HG4 : Hid (Gen b w0 w4 265) := Lib.hid (HG3.out.trans hg)
  have HX4 := Lib.hid (HX3.out.gen hg hblt)
  clear hg HG3 HX3
  go_wp2_with fail
  refine (odd_gen b 265 _ _ _ HG4.out.s (by omega) (by omega) (by omega)).mono ?_
  rintro e w5 ⟨b6, rfl, -, hg⟩
  have HG5 : Hid (Gen b w0 w5 267) := Lib.hid (HG4.out.trans hg)
  have HX5 := Lib.hid (HX4.out.gen hg hblt)
  clear hg HG4 HX4
  go_wp2_with fail
  refine (flip_gen b 267 _ _ HG5.out.s (by omega) (by omega)).mono ?_
  rintro e w6 ⟨kk, rfl, hg⟩
  have HG6 : Hid (Gen b w0 w6 268) := Lib.hid (HG5.out.trans hg)
  have HX6 := Lib.hid (HX5.out.gen hg hblt)
  clear hg HG5 HX5
  go_upto_if 29 with fail
  go_cut [6] (fun s6 wx => ∃ b4 : Int, s6 = .int .i64 b4 ∧ Gen b w0 wx 270 ∧ OwnK layRb wx w0.heap.size (.slice xa nx xc) X)
  case first =>
    cases kk
    · go_wp2_with fail
      go_meet
      case rel => exact ⟨_, rfl, HG6.out.mono (by omega), HX6.out⟩
    · go_wp2_with fail
      refine (pick_gen b 268 w6.heap.size 0 3 3 [24, 30, 31] _ (HG6.out.s.alloc _) (by omega) (by omega) (rdInts_new w6 _ _ _ rfl) (by have := HG6.out.s.lt; omega)).mono ?_
      rintro e w7 ⟨k7, rfl, -, hg⟩
      have HG7 : Hid (Gen b w0 w7 269) := Lib.hid ((HG6.out.alloc _).trans hg)
      have HX7 := Lib.hid ((HX6.out.alloc _).gen hg hblt)
      clear hg HG6 HX6
      go_wp2_with fail
      go_meet
      case rel => exact ⟨_, rfl, HG7.out.mono (by omega), HX7.out⟩
  case rest =>
    clear HG6 HX6
    obtain ⟨b4, rfl, hg, hX⟩ := hcut
    have HG := Lib.hid hg
    have HX := Lib.hid hX
    clear hg hX
    have HFx := Lib.hid fun wx (h : RdK layRb wx xa X) => reportsFault_any xa nx xc X wx h Hnx.out (by omega)
    have HTh := Lib.hid (thin_any xa nx xc X d wc HX.out.rd Hnx.out hx20 (by have := Hd.out; omega))
    have HHi := Lib.hid fun wx (h : RdK layRb wx xa X) => hide_any xa nx xc X b4 b6 wx h Hnx.out hx20
    have HTe := Lib.hid (thinF_errs X d)
    have HHe := Lib.hid (hidF_errs X b4 b6)
    have HT0 : Hid (thinF X d = 0 → ∀ wx, RdK layRb wx xa X → Calls Tryz.prog 17 #[.slice xa nx xc, .int .i64 d] wx fun e w' => ∃ v, e = .returned v ∧ OwnK layRb w' wx.heap.size v (thinP d X) ∧ Below wx.heap.size wx w') := Lib.hid fun hz wx h => by
      rw [thin_same (thinF_zero hz).1 (thinF_zero hz).2.1]
      exact thinOf_any xa nx xc X d wx h Hnx.out hx20 (thinF_zero hz).2
    have HH0 := Lib.hid fun (hz : hidF X b4 b6 = 0) wx (h : RdK layRb wx xa X) => hideOf_any xa nx xc X b4 b6 wx h Hnx.out hx20 (hidF_zero hz).1 (hidF_zero hz).2
    have HTl := Lib.hid (thinP_len d X)
    have HHl := Lib.hid (hidP_len b4 b6 X)
    rw [Hnx.out] at HTl HHl
    generalize thinF X d = TF at *
    generalize hidF X b4 b6 = HF at *
    generalize thinP d X = TP at *
    generalize hidP b4 b6 X = HPl at *
    generalize repF X = FX at *
    go_wp2_with fail
    refine HTh.out.mono ?_
    rintro e w1 ⟨v1, rfl, hO, hb⟩
    have HG1 : Hid (Gen b w0 w1 270) := Lib.hid (HG.out.below0 hb HG.out.s.lt)
    have HX1 := Lib.hid (HX.out.later hb)
    have HA1 := Lib.hid (hO.weak HG.out.g.size)
    clear hO hb HTh HG HX
    have HHx := Lib.hid (HHi.out _ HX1.out.rd)
    go_wp2_with fail
    refine HHx.out.mono ?_
    rintro e w2 ⟨v2, rfl, hO, hb⟩
    have HG2 : Hid (Gen b w0 w2 270) := Lib.hid (HG1.out.below0 hb HG1.out.s.lt)
    have HX2 := Lib.hid (HX1.out.later hb)
    have HA2 := Lib.hid (HA1.out.later hb)
    have HC2 := Lib.hid (hO.weak HG1.out.g.size)
    clear hO hb HHx HHi HG1 HX1 HA1
    go_wp2_with fail
    refine (HFx.out _ HX2.out.rd).mono ?_
    rintro e w3 ⟨rfl, hb⟩
    have HG3 : Hid (Gen b w0 w3 270) := Lib.hid (HG2.out.below0 hb HG2.out.s.lt)
    have HX3 := Lib.hid (HX2.out.later hb)
    have HA3 := Lib.hid (HA2.out.later hb)
    have HC3 := Lib.hid (HC2.out.later hb)
    clear hb HFx HG2 HX2 HA2 HC2
    go_upto_region 8 with fail
    go_cut [13] (fun s wx => s = .int .i64 TF ∧ Gen b w0 wx 270 ∧ OwnK layRb wx w0.heap.size (.slice xa nx xc) X ∧ OwnK layRb wx w0.heap.size v1 (if TF = 0 then TP else []) ∧ OwnK layRb wx w0.heap.size v2 (if HF = 0 then HPl else []))
    case first =>
      have hob : outB d 0 4001 = (decide (d < 0) || decide (4001 < d)) := by unfold outB; rfl
      rw [hob] at HTe
      clear hob
      rcases (show d < 0 ∨ ¬ d < 0 by omega) with h0 | h0
      · have h0' : (d < 0) = True := eq_true h0
        rw [decide_eq_true h0, Bool.true_or, if_pos rfl] at HTe
        go_wp2_with fail
        refine (when_any true 1 _).mono ?_
        rintro e w4 ⟨rfl, rfl⟩
        rw [if_pos rfl]
        go_wp2_with fail
        refine (errs_any _ 2 2 [FX, 1] _ (rdInts_new _ _ [FX, 1] _ rfl) (by omega)).mono ?_
        rintro e w5 ⟨rfl, rfl⟩
        rw [HTe.out]
        go_wp2_with fail
        go_meet
        case rel => exact ⟨rfl, HG3.out.alloc _, HX3.out.alloc _, HA3.out.alloc _, HC3.out.alloc _⟩
      · have h0' : (d < 0) = False := eq_false h0
        rw [decide_eq_false h0, Bool.false_or] at HTe
        obtain ⟨bb, hbb⟩ : ∃ q, decide (4001 < d) = q := ⟨_, rfl⟩
        rw [hbb] at HTe
        go_wp2_with fail
        refine (when_any bb 1 _).mono ?_
        rintro e w4 ⟨rfl, rfl⟩
        obtain ⟨zz, hzz⟩ : ∃ q : Int, (if bb = true then 1 else 0) = q := ⟨_, rfl⟩
        rw [hzz] at HTe ⊢
        clear hzz
        go_wp2_with fail
        refine (errs_any _ 2 2 [FX, zz] _ (rdInts_new _ _ [FX, zz] _ rfl) (by omega)).mono ?_
        rintro e w5 ⟨rfl, rfl⟩
        rw [HTe.out]
        go_wp2_with fail
        go_meet
        case rel => exact ⟨rfl, HG3.out.alloc _, HX3.out.alloc _, HA3.out.alloc _, HC3.out.alloc _⟩
    case rest =>
      clear HG3 HX3 HA3 HC3 HTe
      obtain ⟨rfl, hg, hX, hA, hC⟩ := hcut
      have HG3 := Lib.hid hg
      have HX3 := Lib.hid hX
      have HA3 := Lib.hid hA
      have HC3 := Lib.hid hC
      clear hg hX hA hC
      go_upto_region 9 with fail
      go_cut [14] (fun s wx => s = .int .i64 HF ∧ Gen b w0 wx 270 ∧ OwnK layRb wx w0.heap.size (.slice xa nx xc) X ∧ OwnK layRb wx w0.heap.size v1 (if TF = 0 then TP else []) ∧ OwnK layRb wx w0.heap.size v2 (if HF = 0 then HPl else []))
      case first =>
        have hob : (outB b4 0 32 || outB b6 0 128) = (decide (b4 < 0) || (decide (32 < b4) || (decide (b6 < 0) || decide (128 < b6)))) := by unfold outB; rw [Bool.or_assoc]
        rw [hob] at HHe
        clear hob
        rcases (show b4 < 0 ∨ ¬ b4 < 0 by omega) with g0 | g0
        · have g0' : (b4 < 0) = True := eq_true g0
          rw [decide_eq_true g0, Bool.true_or, if_pos rfl] at HHe
          go_wp2_with fail
          refine (when_any true 1 _).mono ?_
          rintro e w4 ⟨rfl, rfl⟩
          rw [if_pos rfl]
          go_wp2_with fail
          refine (errs_any _ 2 2 [FX, 1] _ (rdInts_new _ _ [FX, 1] _ rfl) (by omega)).mono ?_
          rintro e w5 ⟨rfl, rfl⟩
          rw [HHe.out]
          go_wp2_with fail
          go_meet
          case rel => exact ⟨rfl, HG3.out.alloc _, HX3.out.alloc _, HA3.out.alloc _, HC3.out.alloc _⟩
        · have g0' : (b4 < 0) = False := eq_false g0
          rw [decide_eq_false g0, Bool.false_or] at HHe
          rcases (show 32 < b4 ∨ ¬ 32 < b4 by omega) with g1 | g1
          · have g1' : (32 < b4) = True := eq_true g1
            rw [decide_eq_true g1, Bool.true_or, if_pos rfl] at HHe
            go_wp2_with fail
            refine (when_any true 1 _).mono ?_
            rintro e w4 ⟨rfl, rfl⟩
            rw [if_pos rfl]
            go_wp2_with fail
            refine (errs_any _ 2 2 [FX, 1] _ (rdInts_new _ _ [FX, 1] _ rfl) (by omega)).mono ?_
            rintro e w5 ⟨rfl, rfl⟩
            rw [HHe.out]
            go_wp2_with fail
            go_meet
            case rel => exact ⟨rfl, HG3.out.alloc _, HX3.out.alloc _, HA3.out.alloc _, HC3.out.alloc _⟩
          · have g1' : (32 < b4) = False := eq_false g1
            rw [decide_eq_false g1, Bool.false_or] at HHe
            rcases (show b6 < 0 ∨ ¬ b6 < 0 by omega) with g2 | g2
            · have g2' : (b6 < 0) = True := eq_true g2
              rw [decide_eq_true g2, Bool.true_or, if_pos rfl] at HHe
              go_wp2_with fail
              refine (when_any true 1 _).mono ?_
              rintro e w4 ⟨rfl, rfl⟩
              rw [if_pos rfl]
              go_wp2_with fail
              refine (errs_any _ 2 2 [FX, 1] _ (rdInts_new _ _ [FX, 1] _ rfl) (by omega)).mono ?_
              rintro e w5 ⟨rfl, rfl⟩
              rw [HHe.out]
              go_wp2_with fail
              go_meet
              case rel => exact ⟨rfl, HG3.out.alloc _, HX3.out.alloc _, HA3.out.alloc _, HC3.out.alloc _⟩
            · have g2' : (b6 < 0) = False := eq_false g2
              rw [decide_eq_false g2, Bool.false_or] at HHe
              obtain ⟨bb, hbb⟩ : ∃ q, decide (128 < b6) = q := ⟨_, rfl⟩
              rw [hbb] at HHe
              go_wp2_with fail
              refine (when_any bb 1 _).mono ?_
              rintro e w4 ⟨rfl, rfl⟩
              obtain ⟨zz, hzz⟩ : ∃ q : Int, (if bb = true then 1 else 0) = q := ⟨_, rfl⟩
              rw [hzz] at HHe ⊢
              clear hzz
              go_wp2_with fail
              refine (errs_any _ 2 2 [FX, zz] _ (rdInts_new _ _ [FX, zz] _ rfl) (by omega)).mono ?_
              rintro e w5 ⟨rfl, rfl⟩
              rw [HHe.out]
              go_wp2_with fail
              go_meet
              case rel => exact ⟨rfl, HG3.out.alloc _, HX3.out.alloc _, HA3.out.alloc _, HC3.out.alloc _⟩
      case rest =>
        clear HG3 HX3 HA3 HC3 HHe
        obtain ⟨rfl, hg, hX, hA, hC⟩ := hcut
        have HG4 := Lib.hid hg
        have HX4 := Lib.hid hX
        clear hg hX
        by_cases hz : TF = 0
        · subst hz
          replace HT0 := Lib.hid (HT0.out rfl)
          rw [if_pos rfl] at hA
          obtain ⟨pa, pc, hvp, -⟩ := hA.form
          subst hvp
          obtain ⟨pn, hnp⟩ : ∃ q, TP.length = q := ⟨_, rfl⟩
          have Hnp := Lib.hid hnp
          rw [hnp] at hA ⊢
          have lp : pn ≤ 20 := by rw [← hnp]; have := HTl.out; omega
          have HhA := Lib.hid hA
          clear hA hnp
          by_cases hy : HF = 0
          · subst hy
            replace HH0 := Lib.hid (HH0.out rfl)
            rw [if_pos rfl] at hC
            obtain ⟨qa, qc, hvq, -⟩ := hC.form
            subst hvq
            obtain ⟨qn, hnq⟩ : ∃ q, HPl.length = q := ⟨_, rfl⟩
            have Hnq := Lib.hid hnq
            rw [hnq] at hC ⊢
            have lq : qn ≤ 20 := by rw [← hnq]; have := HHl.out; omega
            have HhC := Lib.hid hC
            clear hC hnq
            have HTx := Lib.hid (HT0.out _ HX4.out.rd)
            go_wp2_with fail
            refine HTx.out.mono ?_
            rintro e w5 ⟨up, rfl, hO, hb⟩
            have HG5 := Lib.hid (HG4.out.below0 hb HG4.out.s.lt)
            have HX5 := Lib.hid (HX4.out.later hb)
            have HhA5 := Lib.hid (HhA.out.later hb)
            have HhC5 := Lib.hid (HhC.out.later hb)
            obtain ⟨pua, puc, hvu, -⟩ := hO.form
            subst hvu
            have HU := Lib.hid hO
            rw [Hnp.out] at HU ⊢
            have HEq := Lib.hid fun wx (h1 : RdK layRb wx pa TP) (h2 : RdK layRb wx pua TP) => equalRb_any pa pua pn pc puc TP wx h1 h2 Hnp.out (by omega)
            clear hO hb HTx HG4 HX4 HhA HhC
            go_wp2_with fail
            refine (HEq.out _ HhA5.out.rd HU.out.rd).mono ?_
            rintro e w6 ⟨rfl, hb⟩
            have HG6 := Lib.hid (HG5.out.below0 hb HG5.out.s.lt)
            have HX6 := Lib.hid (HX5.out.later hb)
            have HhC := Lib.hid (HhC5.out.later hb)
            clear hb HEq HU HG5 HX5 HhA5 HhC5
            have HHx := Lib.hid (HH0.out _ HX6.out.rd)
            go_wp2_with fail
            refine HHx.out.mono ?_
            rintro e w7 ⟨uq, rfl, hO, hb⟩
            have HG7 := Lib.hid (HG6.out.below0 hb HG6.out.s.lt)
            have HX7 := Lib.hid (HX6.out.later hb)
            have HhC7 := Lib.hid (HhC.out.later hb)
            obtain ⟨qua, quc, hvu, -⟩ := hO.form
            subst hvu
            have HU := Lib.hid hO
            rw [Hnq.out] at HU ⊢
            have HEq := Lib.hid fun wx (h1 : RdK layRb wx qa HPl) (h2 : RdK layRb wx qua HPl) => equalRb_any qa qua qn qc quc HPl wx h1 h2 Hnq.out (by omega)
            clear hO hb HHx HG6 HX6 HhC
            go_wp2_with fail
            refine (HEq.out _ HhC7.out.rd HU.out.rd).mono ?_
            rintro e w8 ⟨rfl, hb⟩
            have HG8 := Lib.hid (HG7.out.below0 hb HG7.out.s.lt)
            have HX8 := Lib.hid (HX7.out.later hb)
            clear hb HEq HU HG7 HX7 HhC7
            go_wp2_with fail
            refine (flowing_any _).mono ?_
            rintro e w9 ⟨rfl, hb⟩
            have HG9 := Lib.hid (HG8.out.below0 hb HG8.out.s.lt)
            clear hb HG8
            go_wp2_with fail
            go_ret
            exact ⟨rfl, Gen.toBelowT HG9.out (by rw [Hbw.out]; exact HB0.out) (by rw [Hbw.out]; exact Nat.le_refl _)⟩
          · clear HH0
            rw [if_neg hy] at hC
            obtain ⟨qa, qc, hvq, -⟩ := hC.form
            subst hvq
            rw [List.length_nil] at hC ⊢
            have nq1 : (HF == 0) = false := beq_eq_false_iff_ne.2 hy
            have nq2 : (HF != 0) = true := bne_iff_ne.2 hy
            clear hC
            have HTx := Lib.hid (HT0.out _ HX4.out.rd)
            go_wp2_with fail
            refine HTx.out.mono ?_
            rintro e w5 ⟨up, rfl, hO, hb⟩
            have HG5 := Lib.hid (HG4.out.below0 hb HG4.out.s.lt)
            have HX5 := Lib.hid (HX4.out.later hb)
            have HhA5 := Lib.hid (HhA.out.later hb)
            obtain ⟨pua, puc, hvu, -⟩ := hO.form
            subst hvu
            have HU := Lib.hid hO
            rw [Hnp.out] at HU ⊢
            have HEq := Lib.hid fun wx (h1 : RdK layRb wx pa TP) (h2 : RdK layRb wx pua TP) => equalRb_any pa pua pn pc puc TP wx h1 h2 Hnp.out (by omega)
            clear hO hb HTx HG4 HX4 HhA
            go_wp2_with fail
            refine (HEq.out _ HhA5.out.rd HU.out.rd).mono ?_
            rintro e w6 ⟨rfl, hb⟩
            have HG6 := Lib.hid (HG5.out.below0 hb HG5.out.s.lt)
            have HX6 := Lib.hid (HX5.out.later hb)
            clear hb HEq HU HG5 HX5 HhA5
            go_wp2_with fail
            refine (flowing_any _).mono ?_
            rintro e w7 ⟨rfl, hb⟩
            have HG7 := Lib.hid (HG6.out.below0 hb HG6.out.s.lt)
            clear hb HG6
            go_wp2_with fail
            go_ret
            exact ⟨rfl, Gen.toBelowT HG7.out (by rw [Hbw.out]; exact HB0.out) (by rw [Hbw.out]; exact Nat.le_refl _)⟩
        · clear HT0
          rw [if_neg hz] at hA
          obtain ⟨pa, pc, hvp, -⟩ := hA.form
          subst hvp
          rw [List.length_nil] at hA ⊢
          have np1 : (TF == 0) = false := beq_eq_false_iff_ne.2 hz
          have np2 : (TF != 0) = true := bne_iff_ne.2 hz
          clear hA
          by_cases hy : HF = 0
          · subst hy
            replace HH0 := Lib.hid (HH0.out rfl)
            rw [if_pos rfl] at hC
            obtain ⟨qa, qc, hvq, -⟩ := hC.form
            subst hvq
            obtain ⟨qn, hnq⟩ : ∃ q, HPl.length = q := ⟨_, rfl⟩
            have Hnq := Lib.hid hnq
            rw [hnq] at hC ⊢
            have lq : qn ≤ 20 := by rw [← hnq]; have := HHl.out; omega
            have HhC := Lib.hid hC
            clear hC hnq
            have HHx := Lib.hid (HH0.out _ HX4.out.rd)
            go_wp2_with fail
            refine HHx.out.mono ?_
            rintro e w5 ⟨uq, rfl, hO, hb⟩
            have HG5 := Lib.hid (HG4.out.below0 hb HG4.out.s.lt)
            have HX5 := Lib.hid (HX4.out.later hb)
            have HhC5 := Lib.hid (HhC.out.later hb)
            obtain ⟨qua, quc, hvu, -⟩ := hO.form
            subst hvu
            have HU := Lib.hid hO
            rw [Hnq.out] at HU ⊢
            have HEq := Lib.hid fun wx (h1 : RdK layRb wx qa HPl) (h2 : RdK layRb wx qua HPl) => equalRb_any qa qua qn qc quc HPl wx h1 h2 Hnq.out (by omega)
            clear hO hb HHx HG4 HX4 HhC
            go_wp2_with fail
            refine (HEq.out _ HhC5.out.rd HU.out.rd).mono ?_
            rintro e w6 ⟨rfl, hb⟩
            have HG6 := Lib.hid (HG5.out.below0 hb HG5.out.s.lt)
            have HX6 := Lib.hid (HX5.out.later hb)
            clear hb HEq HU HG5 HX5 HhC5
            go_wp2_with fail
            refine (flowing_any _).mono ?_
            rintro e w7 ⟨rfl, hb⟩
            have HG7 := Lib.hid (HG6.out.below0 hb HG6.out.s.lt)
            clear hb HG6
            go_wp2_with fail
            go_ret
            exact ⟨rfl, Gen.toBelowT HG7.out (by rw [Hbw.out]; exact HB0.out) (by rw [Hbw.out]; exact Nat.le_refl _)⟩
          · clear HH0
            rw [if_neg hy] at hC
            obtain ⟨qa, qc, hvq, -⟩ := hC.form
            subst hvq
            rw [List.length_nil] at hC ⊢
            have nq1 : (HF == 0) = false := beq_eq_false_iff_ne.2 hy
            have nq2 : (HF != 0) = true := bne_iff_ne.2 hy
            clear hC
            go_wp2_with fail
            refine (flowing_any _).mono ?_
            rintro e w5 ⟨rfl, hb⟩
            have HG5 := Lib.hid (HG4.out.below0 hb HG4.out.s.lt)
            clear hb HG4
            go_wp2_with fail
            go_ret
            exact ⟨rfl, Gen.toBelowT HG5.out (by rw [Hbw.out]; exact HB0.out) (by rw [Hbw.out]; exact Nat.le_refl _)⟩
end Go.Proofs.YtippolfmljfleaaGreatDoor
