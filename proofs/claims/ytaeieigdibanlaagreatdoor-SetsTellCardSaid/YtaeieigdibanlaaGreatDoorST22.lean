/-
  The law SetsTell: walked. The table of powers of ten reads as the program's text lays it.
-/
import Derived.Test.YtaeieigdibanlaaGreatDoorST21
set_option linter.unusedVariables false
namespace Go.Proofs.YtaeieigdibanlaaGreatDoor
open Go.RowKit Go
set_option linter.unusedVariables false

theorem Gen.toBelowT {b m : Nat} {w u v : World} (h : Gen b u v m) (hw : Below w.heap.size w u) (hb : w.heap.size ≤ b) : Below w.heap.size w v :=
  ⟨h.g.os.trans hw.os, h.g.tape.trans hw.tape, h.g.output.trans hw.output, Nat.le_trans hw.size h.g.size, fun i hi => (h.g.block i (Nat.lt_of_lt_of_le hi hw.size) (by intro e; injection e; omega)).trans (hw.block i hi)⟩
set_option maxRecDepth 100000 in
set_option maxHeartbeats 16000000 in
theorem law_SetsTell (ad : Option Addr) (n c : Nat) (w : World) (h : LawArg w ad n) (ht : Lib.TabIs Tryz.prog w "internal/strconv.uint64pow10" .u64 Lib.pow10Tab) :
    Calls Tryz.prog 5 #[.slice ad n c] w (Ret (.bool true) w) := by
  have hS := LawArg.strm (c := c) h
  have HB0 : Hid (Below w.heap.size w (w.alloc (.cells #[.slice ad n c, .int .i64 0] 25 (0, 0)))) := Lib.hid (below_alloc (Below.refl _ _) _)
  have hblt : w.heap.size < (w.alloc (.cells #[.slice ad n c, .int .i64 0] 25 (0, 0))).heap.size := hS.lt
  have HS := Lib.hid hS
  have HT := Lib.hid ht
  clear h hS ht
  go_enter Tryz.func5, Tryz.ntmps5
  go_wp2_with fail
  generalize w.alloc (.cells #[.slice ad n c, .int .i64 0] 25 (0, 0)) = w0 at *
  obtain ⟨b, hbw⟩ : ∃ b, w.heap.size = b := ⟨_, rfl⟩
  rw [hbw] at hblt HS HB0 ⊢
  have Hbw := Lib.hid hbw
  clear hbw
  refine (set_gen b 0 _ HS.out (by omega)).mono ?_
  rintro e w1 ⟨v, X, rfl, hO, hl, hux, hg⟩
  have HG1 : Hid (Gen b w0 w1 50) := Lib.hid (hg.mono (by omega))
  obtain ⟨xa, xc, rfl, -⟩ := hO.form
  have HXu := Lib.hid hux
  obtain ⟨nx, hnx⟩ : ∃ nx, X.length = nx := ⟨_, rfl⟩
  have Hnx := Lib.hid hnx
  rw [hnx] at hO hl ⊢
  have HX1 := Lib.hid hO
  clear hg HS hux hO hnx
  go_wp2_with fail
  refine (set_gen b 50 _ HG1.out.s (by omega)).mono ?_
  rintro e w2 ⟨v, Y, rfl, hO, hly, huy, hg⟩
  have HG2 : Hid (Gen b w0 w2 100) := Lib.hid ((HG1.out.trans hg).mono (by omega))
  have HX2 := Lib.hid (HX1.out.gen hg hblt)
  obtain ⟨ya, yc, rfl, -⟩ := hO.form
  have HYu := Lib.hid huy
  obtain ⟨ny, hny⟩ : ∃ ny, Y.length = ny := ⟨_, rfl⟩
  have Hny := Lib.hid hny
  rw [hny] at hO hly ⊢
  have HY2 := Lib.hid (hO.weak HG1.out.g.size)
  clear hg huy hO hny HG1 HX1
  go_wp2_with fail
  refine (raw_gen b 100 _ HG2.out.s (by omega)).mono ?_
  rintro e w3 ⟨six, hi', lo', rfl, ⟨u1, u2⟩, hg⟩
  obtain ⟨hi, rfl⟩ : ∃ k : Nat, hi' = (k : Int) := ⟨hi'.toNat, by unfold U64 at u1; omega⟩
  obtain ⟨lo, rfl⟩ : ∃ k : Nat, lo' = (k : Int) := ⟨lo'.toNat, by unfold U64 at u2; omega⟩
  have hn1 : U64N hi := by unfold U64 at u1; unfold U64N; omega
  have hn2 : U64N lo := by unfold U64 at u2; unfold U64N; omega
  have HU := Lib.hid (And.intro hn1 hn2)
  have HG3 : Hid (Gen b w0 w3 106) := Lib.hid ((HG2.out.trans hg).mono (by omega))
  have HX3 := Lib.hid (HX2.out.gen hg hblt)
  have HY3 := Lib.hid (HY2.out.gen hg hblt)
  clear hg u1 u2 hn1 hn2 HG2 HX2 HY2
  unfold vAddr
  have HS4 : Hid (TellS b 106 w0 xa nx xc X w3.heap.size #[.bool six, .int .u64 (hi : Int), .int .u64 (lo : Int)] (w3.alloc (.cells #[.bool six, .int .u64 (hi : Int), .int .u64 (lo : Int)] 33 (0, 0)))) := Lib.hid ⟨HG3.out.alloc _, HX3.out.alloc _, Blk.new w3 _ _, hblt, HG3.out.g.size⟩
  have HY4 : Hid (OwnK layPf (w3.alloc (.cells #[.bool six, .int .u64 (hi : Int), .int .u64 (lo : Int)] 33 (0, 0))) w0.heap.size (.slice ya ny yc) Y) := Lib.hid (HY3.out.alloc _)
  clear HG3 HX3 HY3
  go_upto_region 3 with fail
  generalize (w3.alloc (.cells #[.bool six, .int .u64 (hi : Int), .int .u64 (lo : Int)] 33 (0, 0))) = w4 at *
  generalize w3.heap.size = pa at *
  have HSx := Lib.hid fun wx (hr : RdK layPf wx xa X) => setFault_any xa nx xc X wx hr Hnx.out (by omega) HXu.out
  have HOkx : Hid (setF X = 0 → ∀ p ∈ X, OkPf p) := Lib.hid fun e => setF_okS e HXu.out
  go_cut [31] (fun s31 wx => ∃ kb : Bool, s31 = .bool kb ∧ (kb = true → setF X = 0) ∧ TellS b 107 w0 xa nx xc X pa #[.bool six, .int .u64 (hi : Int), .int .u64 (lo : Int)] wx ∧ OwnK layPf wx w0.heap.size (.slice ya ny yc) Y)
  case first =>
    as_aux_lemma =>
      go_wp2_with fail
      refine (flip_gen b _ 2 _ HS4.out.g.s (by omega) (by omega)).mono ?_
      rintro e w5 ⟨kf, rfl, hg⟩
      have HS5 := Lib.hid (HS4.out.step hg)
      have HY5 := Lib.hid (HY4.out.gen hg hblt)
      clear hg HS4 HY4
      cases kf
      · go_wp2_with fail
        go_meet
        case rel => exact ⟨false, rfl, (fun h => by cases h), HS5.out.mono (by omega), HY5.out⟩
      · go_wp2_with fail
        refine (HSx.out _ HS5.out.x.rd).mono ?_
        rintro e w6 ⟨rfl, hb⟩
        have HS6 := Lib.hid (HS5.out.below hb)
        have HY6 := Lib.hid (HY5.out.later hb)
        clear hb HS5 HY5
        by_cases hF : setF X = 0
        · have HF := Lib.hid hF
          rw [hF]
          clear hF
          go_wp2_with fail
          go_meet
          case rel => exact ⟨true, rfl, fun _ => HF.out, HS6.out.mono (by omega), HY6.out⟩
        · have hF2 : (setF X == 0) = false := by simpa using hF
          generalize setF X = SF at *
          clear hF
          go_wp2_with fail
          go_meet
          case rel => exact ⟨false, rfl, (fun h => by cases h), HS6.out.mono (by omega), HY6.out⟩
  case rest =>
    obtain ⟨kb, rfl, hkb, hS, hY⟩ := hcut
    have HKB := Lib.hid hkb
    have HS5 := Lib.hid hS
    have HY5 := Lib.hid hY
    clear hkb hS hY HS4 HY4
    go_upto_if 31 with fail
    go_cut [5] (fun s5 wx => ∃ (ya : Option Addr) (ny yc : Nat) (Y : List Pf), s5 = .slice ya ny yc ∧ Y.length = ny ∧ ny ≤ 1000 ∧ U4 Y ∧ TellS b 140 w0 xa nx xc X pa #[.bool six, .int .u64 (hi : Int), .int .u64 (lo : Int)] wx ∧ OwnK layPf wx w0.heap.size (.slice ya ny yc) Y)
    case first =>
      as_aux_lemma =>
        cases kb
        · go_wp2_with fail
          go_meet
          case rel => exact ⟨ya, ny, yc, Y, rfl, Hny.out, by omega, HYu.out, HS5.out.mono (by omega), HY5.out⟩
        · have HOx := Lib.hid (HOkx.out (HKB.out rfl))
          go_wp2_with fail
          refine (prefixes_gen b _ 3 _ HS5.out.g.s (by omega) (by omega)).mono ?_
          rintro e w6 ⟨v, Z, rfl, hO, hz, hzo, hg⟩
          have HS6 := Lib.hid (HS5.out.step hg)
          obtain ⟨za, zc, rfl, -⟩ := hO.form
          rw [hz] at hO ⊢
          have HLe := Lib.hid (leastOf_any za 3 zc Z w6 hO.rd hz (by omega) hzo)
          have HLo := Lib.hid (ok_lst hzo)
          have hll := lst_lenT hzo
          rw [hz] at hll
          have hrl := rest_len (ok_lst hzo)
          have hrx := rest_len HOx.out
          rw [Hnx.out] at hrx
          have hbl := both_len HOx.out (ok_lst hzo)
          rw [Hnx.out] at hbl
          have hbe := both_eq HOx.out (ok_lst hzo)
          rw [← hbe] at hbl
          have hbk : ∀ p ∈ bothR X (lst Z), OkPf p := ok_restR (ok_unionR (ok_restR HOx.out) (ok_restR (ok_lst hzo)))
          have HBk := Lib.hid hbk
          clear hg hO hz hzo hbe hbk HS5
          generalize lst Z = LZ at *
          have HBo := Lib.hid fun (a2 : Option Addr) (c2 : Nat) wx (r1 : RdK layPf wx xa X) (r2 : RdK layPf wx a2 LZ) => bothOf_any xa a2 nx xc LZ.length c2 X LZ wx r1 r2 Hnx.out rfl (by omega) (by omega) (by unfold restR; omega) (by unfold restR; omega) HOx.out HLo.out
          have hbl2 : (bothR X LZ).length ≤ 1000 := by omega
          clear hll hrl hrx hbl
          generalize bothR X LZ = BZ at *
          go_wp2_with fail
          refine HLe.out.mono ?_
          rintro e w7 ⟨v, rfl, hO, hb⟩
          have HS7 := Lib.hid (HS6.out.below hb)
          obtain ⟨la, lc, rfl, -⟩ := hO.form
          have HB7 := Lib.hid (HBo.out la lc w7 HS7.out.x.rd hO.rd)
          clear hO hb HLe HBo HS6
          generalize LZ.length = zl at *
          go_wp2_with fail
          refine HB7.out.mono ?_
          rintro e w8 ⟨v, rfl, hO, hb⟩
          have HS8 := Lib.hid (HS7.out.below hb)
          obtain ⟨ba, bc, rfl, -⟩ := hO.form
          have HO8 := Lib.hid (hO.weak HS7.out.g.g.size)
          have HU8 : Hid (U4 BZ) := Lib.hid fun p hp => by
            have := (HBk.out p hp).ok.1
            exact ⟨this.1, this.2.1⟩
          clear hO hb HB7 HS7
          obtain ⟨bl, hbl3⟩ : ∃ q, BZ.length = q := ⟨_, rfl⟩
          have Hbl := Lib.hid hbl3
          rw [hbl3] at HO8 hbl2 ⊢
          clear hbl3
          go_wp2_with fail
          go_meet
          case rel => exact ⟨ba, bl, bc, BZ, rfl, Hbl.out, hbl2, HU8.out, HS8.out.mono (by omega), HO8.out⟩
    case rest =>
      clear HS5 HY5 HKB HYu Hny hly
      obtain ⟨ya, ny, yc, Y, rfl, hny, hly, huy, hS, hY⟩ := hcut
      have HS5 := Lib.hid hS
      have HY5 := Lib.hid hY
      have HYu := Lib.hid huy
      have Hny := Lib.hid hny
      clear hny huy hS hY
      have HSy := Lib.hid fun wx (hr : RdK layPf wx ya Y) => setFault_any ya ny yc Y wx hr Hny.out (by omega) HYu.out
      have HHa := Lib.hid fun wx (hr : RdK layPf wx xa X) => ahas_any xa nx xc X six hi lo wx hr Hnx.out (by omega) HXu.out HU.out.1 HU.out.2
      have HCo := Lib.hid fun wx (h1 : RdK layPf wx xa X) (h2 : RdK layPf wx ya Y) => acovers_any xa ya nx xc ny yc X Y wx h1 h2 Hnx.out Hny.out (by omega) (by omega) HXu.out HYu.out
      have HSz := Lib.hid fun wx (hr : RdK layPf wx xa X) ht => aSize_any xa nx xc X wx hr Hnx.out (by omega) HXu.out ht
      have HAF := Lib.hid fun wx => addrFault_any six (hi : Int) (lo : Int) wx (by have := HU.out.1; unfold U64N at this; unfold U64; omega) (by have := HU.out.2; unfold U64N at this; unfold U64; omega)
      have HHo : Hid (setF X = 0 → aFault six (hi : Int) (lo : Int) = 0 → ∀ wx, RdK layPf wx xa X → Calls Tryz.prog 35 #[.slice xa nx xc, .agg #[.bool six, .int .u64 (hi : Int), .int .u64 (lo : Int)]] wx (Ret (.bool (X.any fun p => inP p (numA six hi lo))) wx)) := Lib.hid fun h1 h2 wx hr => by
        obtain ⟨k1, k2, k3, k4⟩ := aN_num (aOK_ofN HU.out.1 HU.out.2 h2)
        have := hasOf_any xa nx xc X (numA six hi lo) wx hr Hnx.out (by omega) (HOkx.out h1) k1
        unfold aN at this
        rw [k2, k3, k4] at this
        exact this
      have HCf : Hid (setF X = 0 → setF Y = 0 → ∀ wx, RdK layPf wx xa X → RdK layPf wx ya Y → Calls Tryz.prog 36 #[.slice xa nx xc, .slice ya ny yc] wx (Ret (.bool (decide (jn (both (spn Y) (gaps (spn X))) = []))) wx)) := Lib.hid fun h1 h2 wx r1 r2 => by
        have := coversOf_any xa ya nx xc ny yc X Y wx r1 r2 Hnx.out Hny.out (by omega) (by omega) (HOkx.out h1) (setF_okS h2 HYu.out)
        rw [decide_eq_decide.2 (covers_eq (HOkx.out h1) (setF_okS h2 HYu.out) (lst_same h1))]
        exact this
      have HSf : Hid (setF X = 0 → ∀ wx, RdK layPf wx xa X → Calls Tryz.prog 37 #[.slice xa nx xc] wx (Ret (.string (dS (sizeL X))) wx)) := Lib.hid fun h1 wx r1 => sizeOf_any xa nx xc X wx r1 Hnx.out (by omega) (HOkx.out h1)
      have e1 : hasF X six hi lo = firstE [setF X, aFault six (hi : Int) (lo : Int)] := by unfold hasF; rw [firstE_two]
      rw [e1] at HHa
      obtain ⟨F1, hF1⟩ : ∃ F, firstE [setF X, aFault six (hi : Int) (lo : Int)] = F := ⟨_, rfl⟩
      obtain ⟨F2, hF2⟩ : ∃ F, firstE [setF X, setF Y] = F := ⟨_, rfl⟩
      rw [hF1] at HHa
      rw [hF2] at HCo
      have HZ1 : Hid (F1 = 0 → setF X = 0 ∧ aFault six (hi : Int) (lo : Int) = 0) := Lib.hid fun h => by
        rw [← hF1, firstE_two] at h
        by_cases hz : setF X = 0
        · rw [if_neg (by simp [hz])] at h; exact ⟨hz, h⟩
        · rw [if_pos hz] at h; exact absurd h hz
      have HZ2 : Hid (F2 = 0 → setF X = 0 ∧ setF Y = 0) := Lib.hid fun h => by
        rw [← hF2, firstE_two] at h
        by_cases hz : setF X = 0
        · rw [if_neg (by simp [hz])] at h; exact ⟨hz, h⟩
        · rw [if_pos hz] at h; exact absurd h hz
      obtain ⟨HV, hHV⟩ : ∃ v, (decide (F1 = 0) && X.any fun p => inP p (numA six hi lo)) = v := ⟨_, rfl⟩
      obtain ⟨CV, hCV⟩ : ∃ v, decide (F2 = 0 ∧ jn (both (spn Y) (gaps (spn X))) = []) = v := ⟨_, rfl⟩
      rw [hHV] at HHa
      rw [hCV] at HCo
      have HH0 : Hid (F1 ≠ 0 → HV = false) := Lib.hid fun h => by rw [← hHV]; simp [h]
      have HH1 : Hid (F1 = 0 → HV = (X.any fun p => inP p (numA six hi lo))) := Lib.hid fun h => by rw [← hHV]; simp [h]
      have HC0 : Hid (F2 ≠ 0 → CV = false) := Lib.hid fun h => by rw [← hCV]; simp [h]
      have HC1 : Hid (F2 = 0 → CV = decide (jn (both (spn Y) (gaps (spn X))) = [])) := Lib.hid fun h => by rw [← hCV]; simp [h]
      have HF1 := Lib.hid hF1
      have HF2 := Lib.hid hF2
      clear hHV hCV hF1 hF2 e1 HOkx HU
      generalize setF X = SX at *
      generalize setF Y = SY at *
      generalize aFault six (hi : Int) (lo : Int) = AF at *
      generalize (X.any fun p => inP p (numA six hi lo)) = BA at *
      generalize decide (jn (both (spn Y) (gaps (spn X))) = []) = BC at *
      generalize dS (sizeL X) = Z at *
      have a0 := HS5.out.p.cell 0
      have a1 := HS5.out.p.cell 1
      have a2 := HS5.out.p.cell 2
      simp at a0 a1 a2
      go_wp2_with fail
      refine (HHa.out _ HS5.out.x.rd).mono ?_
      rintro e w6 ⟨rfl, hb⟩
      have HS6 := Lib.hid (HS5.out.below hb)
      have HY6 := Lib.hid (HY5.out.later hb)
      clear hb HHa HS5 HY5 a0 a1 a2
      go_wp2_with fail
      refine (HCo.out _ HS6.out.x.rd HY6.out.rd).mono ?_
      rintro e w7 ⟨rfl, hb⟩
      have HS7 := Lib.hid (HS6.out.below hb)
      have HY7 := Lib.hid (HY6.out.later hb)
      clear hb HCo HS6 HY6
      have hB7 : Below w.heap.size w w7 := Gen.toBelowT HS7.out.g (by rw [Hbw.out]; exact HB0.out) (by rw [Hbw.out]; exact Nat.le_refl _)
      have HSz7 := Lib.hid (HSz.out _ HS7.out.x.rd (tab_below HT.out hB7))
      clear hB7 HSz HT
      generalize hZ0 : (if SX = 0 then Z else ⟨#[]⟩ : ByteArray) = Z0 at HSz7
      have HZ0 := Lib.hid hZ0
      clear hZ0
      go_wp2_with fail
      refine HSz7.out.mono ?_
      rintro e w8 ⟨rfl, hb⟩
      have HS8 := Lib.hid (HS7.out.below hb)
      have HY8 := Lib.hid (HY7.out.later hb)
      clear hb HSz7 HS7 HY7
      go_wp2_with fail
      refine (HSx.out _ HS8.out.x.rd).mono ?_
      rintro e w9 ⟨rfl, hb⟩
      have HS9 := Lib.hid (HS8.out.below hb)
      have HY9 := Lib.hid (HY8.out.later hb)
      clear hb HS8 HY8
      go_wp2_with fail
      refine (HSx.out _ HS9.out.x.rd).mono ?_
      rintro e w10 ⟨rfl, hb⟩
      have HS10 := Lib.hid (HS9.out.below hb)
      have HY10 := Lib.hid (HY9.out.later hb)
      clear hb HS9 HY9 HSx
      go_wp2_with fail
      refine (HSy.out _ HY10.out.rd).mono ?_
      rintro e w11 ⟨rfl, hb⟩
      have HS11 := Lib.hid (HS10.out.below hb)
      have HY11 := Lib.hid (HY10.out.later hb)
      clear hb HS10 HY10 HSy
      go_wp2_with fail
      refine (errs_any _ 2 2 [SX, SY] _ (rdInts_new _ _ [SX, SY] _ rfl) (by omega)).mono ?_
      rintro e w12 ⟨rfl, rfl⟩
      rw [HF2.out]
      have HS12 := Lib.hid (HS11.out.below (below_alloc (Below.refl _ _) (.cells #[.int .i64 SX, .int .i64 SY] 39 (0, 0))))
      have HY12 := Lib.hid (HY11.out.alloc (.cells #[.int .i64 SX, .int .i64 SY] 39 (0, 0)))
      clear HS11 HY11 HF2
      go_upto_region 9 with fail
      generalize w11.alloc (.cells #[.int .i64 SX, .int .i64 SY] 39 (0, 0)) = w12 at *
      have a0 := HS12.out.p.cell 0
      have a1 := HS12.out.p.cell 1
      have a2 := HS12.out.p.cell 2
      simp at a0 a1 a2
      unfold vAddr at HAF
      go_wp2_with fail
      refine (HAF.out _).mono ?_
      rintro e w13 ⟨rfl, o, rfl⟩
      have HS13 := Lib.hid (HS12.out.below (below_alloc (Below.refl _ _) o))
      have HY13 := Lib.hid (HY12.out.alloc o)
      clear HS12 HY12 a0 a1 a2 HAF
      generalize w12.alloc o = w13 at *
      go_wp2_with fail
      refine (errs_any _ 2 2 [SX, AF] _ (rdInts_new _ _ [SX, AF] _ rfl) (by omega)).mono ?_
      rintro e w14 ⟨rfl, rfl⟩
      rw [HF1.out]
      have HS14 := Lib.hid (HS13.out.below (below_alloc (Below.refl _ _) (.cells #[.int .i64 SX, .int .i64 AF] 39 (0, 0))))
      have HY14 := Lib.hid (HY13.out.alloc (.cells #[.int .i64 SX, .int .i64 AF] 39 (0, 0)))
      clear HS13 HY13 HF1
      go_upto_region 10 with fail
      generalize w13.alloc (.cells #[.int .i64 SX, .int .i64 AF] 39 (0, 0)) = w14 at *
      have a0 := HS14.out.p.cell 0
      have a1 := HS14.out.p.cell 1
      have a2 := HS14.out.p.cell 2
      simp at a0 a1 a2
      have HEnd : Hid (∀ wx, Below w14.heap.size w14 wx → Below w.heap.size w wx) := Lib.hid fun wx hb => Gen.toBelowT (HS14.out.below hb).g (by rw [Hbw.out]; exact HB0.out) (by rw [Hbw.out]; exact Nat.le_refl _)
      by_cases h1 : F1 = 0
      · obtain ⟨z1, z2⟩ := HZ1.out h1
        have e2 := HH1.out h1
        subst h1 z1 z2 e2
        by_cases h2 : F2 = 0
        · obtain ⟨-, z3⟩ := HZ2.out h2
          have e3 := HC1.out h2
          subst h2 z3 e3
          have hHo := Lib.hid (HHo.out rfl rfl _ HS14.out.x.rd)
          have hCf := Lib.hid (HCf.out rfl rfl)
          have hSF := Lib.hid (HSf.out rfl)
          have hz0 := HZ0.out
          rw [if_pos rfl] at hz0
          subst hz0
          clear HHo HCf HSf HZ0 HZ1 HZ2 HH0 HH1 HC0 HC1
          go_wp2_with fail
          refine hHo.out.mono ?_
          rintro e w15 ⟨rfl, hb⟩
          have HS15 := Lib.hid (HS14.out.below hb)
          have HY15 := Lib.hid (HY14.out.later hb)
          have HB15 : Hid (Below w14.heap.size w14 w15) := Lib.hid hb
          clear hb HS14 HY14 hHo a0 a1 a2
          have hCo := Lib.hid (hCf.out _ HS15.out.x.rd HY15.out.rd)
          go_wp2_with fail
          refine hCo.out.mono ?_
          rintro e w16 ⟨rfl, hb⟩
          have HS16 := Lib.hid (HS15.out.below hb)
          have HB16 : Hid (Below w14.heap.size w14 w16) := Lib.hid (HB15.out.trans (hb.mono HB15.out.size))
          have hSf := Lib.hid (hSF.out _ HS16.out.x.rd)
          clear hb HS15 HY15 hCo hCf HB15
          go_wp2_with fail
          refine hSf.out.mono ?_
          rintro e w17 ⟨rfl, hb⟩
          have HB17 : Hid (Below w14.heap.size w14 w17) := Lib.hid (HB16.out.trans (hb.mono HB16.out.size))
          clear hb hSf HS16 HB16
          go_wp2_with fail
          refine (addressed_any _).mono ?_
          rintro e w18 ⟨rfl, hb⟩
          have HB18 : Hid (Below w14.heap.size w14 w18) := Lib.hid (HB17.out.trans (hb.mono HB17.out.size))
          clear hb HB17
          go_wp2_with fail
          go_ret
          exact ⟨rfl, HEnd.out _ HB18.out⟩
        · have e3 := HC0.out h2
          subst e3
          have hHo := Lib.hid (HHo.out rfl rfl _ HS14.out.x.rd)
          have hne : (F2 != 0) = true := by simpa using h2
          have hSF := Lib.hid (HSf.out rfl)
          have hz0 := HZ0.out
          rw [if_pos rfl] at hz0
          subst hz0
          clear HHo HCf HSf HZ0 HZ1 HZ2 HH0 HH1 HC0 HC1
          go_wp2_with fail
          refine hHo.out.mono ?_
          rintro e w16 ⟨rfl, hb⟩
          have HS16 := Lib.hid (HS14.out.below hb)
          have HB16 : Hid (Below w14.heap.size w14 w16) := Lib.hid hb
          have hSf := Lib.hid (hSF.out _ HS16.out.x.rd)
          clear hb HS14 HY14 hHo a0 a1 a2
          go_wp2_with fail
          refine hSf.out.mono ?_
          rintro e w17 ⟨rfl, hb⟩
          have HB17 : Hid (Below w14.heap.size w14 w17) := Lib.hid (HB16.out.trans (hb.mono HB16.out.size))
          clear hb hSf HS16 HB16
          go_wp2_with fail
          refine (addressed_any _).mono ?_
          rintro e w18 ⟨rfl, hb⟩
          have HB18 : Hid (Below w14.heap.size w14 w18) := Lib.hid (HB17.out.trans (hb.mono HB17.out.size))
          clear hb HB17
          go_wp2_with fail
          go_ret
          exact ⟨rfl, HEnd.out _ HB18.out⟩
      · have e2 := HH0.out h1
        subst e2
        have hne1 : (F1 != 0) = true := by simpa using h1
        by_cases h2 : F2 = 0
        · obtain ⟨z1, z3⟩ := HZ2.out h2
          have e3 := HC1.out h2
          subst h2 z1 z3 e3
          have hCo := Lib.hid (HCf.out rfl rfl _ HS14.out.x.rd HY14.out.rd)
          have hSF := Lib.hid (HSf.out rfl)
          have hz0 := HZ0.out
          rw [if_pos rfl] at hz0
          subst hz0
          clear HHo HCf HSf HZ0 HZ1 HZ2 HH0 HH1 HC0 HC1
          go_wp2_with fail
          refine hCo.out.mono ?_
          rintro e w16 ⟨rfl, hb⟩
          have HS16 := Lib.hid (HS14.out.below hb)
          have HB16 : Hid (Below w14.heap.size w14 w16) := Lib.hid hb
          have hSf := Lib.hid (hSF.out _ HS16.out.x.rd)
          clear hb HS14 HY14 hCo a0 a1 a2
          go_wp2_with fail
          refine hSf.out.mono ?_
          rintro e w17 ⟨rfl, hb⟩
          have HB17 : Hid (Below w14.heap.size w14 w17) := Lib.hid (HB16.out.trans (hb.mono HB16.out.size))
          clear hb hSf HS16 HB16
          go_wp2_with fail
          refine (addressed_any _).mono ?_
          rintro e w18 ⟨rfl, hb⟩
          have HB18 : Hid (Below w14.heap.size w14 w18) := Lib.hid (HB17.out.trans (hb.mono HB17.out.size))
          clear hb HB17
          go_wp2_with fail
          go_ret
          exact ⟨rfl, HEnd.out _ HB18.out⟩
        · have e3 := HC0.out h2
          subst e3
          have hne2 : (F2 != 0) = true := by simpa using h2
          by_cases h3 : SX = 0
          · have hSf := Lib.hid (HSf.out h3 _ HS14.out.x.rd)
            rw [if_pos h3] at HZ0
            have hz0 := HZ0.out
            subst hz0
            subst h3
            clear HCf HHo a0 a1 a2
            go_wp2_with fail
            refine hSf.out.mono ?_
            rintro e w17 ⟨rfl, hb⟩
            have HB17 : Hid (Below w14.heap.size w14 w17) := Lib.hid hb
            clear hb hSf HS14 HY14
            go_wp2_with fail
            refine (addressed_any _).mono ?_
            rintro e w18 ⟨rfl, hb⟩
            have HB18 : Hid (Below w14.heap.size w14 w18) := Lib.hid (HB17.out.trans (hb.mono HB17.out.size))
            clear hb HB17
            go_wp2_with fail
            go_ret
            exact ⟨rfl, HEnd.out _ HB18.out⟩
          · have hne3 : (SX != 0) = true := by simpa using h3
            have hne4 : (SX == 0) = false := by simpa using h3
            rw [if_neg h3] at HZ0
            have hz0 := HZ0.out
            subst hz0
            clear HCf HHo HSf a0 a1 a2
            go_wp2_with fail
            refine (addressed_any _).mono ?_
            rintro e w18 ⟨rfl, hb⟩
            have HB18 : Hid (Below w14.heap.size w14 w18) := Lib.hid hb
            clear hb
            go_wp2_with fail
            go_ret
            exact ⟨rfl, HEnd.out _ HB18.out⟩
end Go.Proofs.YtaeieigdibanlaaGreatDoor
