/-
  The law SetsJoin is true for every slice of ints.
-/
import Derived.Test.YtjkicehhfapohaaGreatDoorSJ13
import Derived.Test.YtjkicehhfapohaaGreatDoorSJ17
set_option linter.unusedVariables false
namespace Go.Proofs.YtjkicehhfapohaaGreatDoor
open Go.RowKit Go
set_option linter.unusedVariables false

theorem Gen.toBelowJ {b m : Nat} {w u v : World} (h : Gen b u v m) (hw : Below w.heap.size w u) (hb : w.heap.size ≤ b) : Below w.heap.size w v :=
  ⟨h.g.os.trans hw.os, h.g.tape.trans hw.tape, h.g.output.trans hw.output, Nat.le_trans hw.size h.g.size, fun i hi => (h.g.block i (Nat.lt_of_lt_of_le hi hw.size) (by intro e; injection e; omega)).trans (hw.block i hi)⟩
theorem firstE_zero {a b : Int} (h : firstE [a, b] = 0) : a = 0 ∧ b = 0 := by
  by_cases e1 : a = 0
  · by_cases e2 : b = 0
    · exact ⟨e1, e2⟩
    · simp [firstE, e1, e2] at h
  · simp [firstE, e1] at h
/-- what the reference gives for sets without a fault -/
def wU (X Y : List Pf) : List Pf := if firstE [setF X, setF Y] = 0 then pfs (jn (spn X ++ spn Y)) else []
def wB (X Y : List Pf) : List Pf := if firstE [setF X, setF Y] = 0 then pfs (jn (both (spn X) (spn Y))) else []
def wW (X Y : List Pf) : List Pf := if firstE [setF X, setF Y] = 0 then pfs (jn (both (spn X) (gaps (spn Y)))) else []
def wR (X : List Pf) : List Pf := if setF X = 0 then pfs (gaps (spn X)) else []
/-- a row of prefixes that stays as long as no block below B is touched -/
def RdB (B : Nat) (w : World) (ad : Option Addr) (L : List Pf) : Prop := ∀ w', Below B w w' → RdK layPf w' ad L
theorem RdB.nil (B : Nat) (w : World) (ad : Option Addr) : RdB B w ad [] := fun _ _ => RdK.nil _ _
theorem RdB.of {w : World} {ad : Option Addr} {L : List Pf} (h : RdK layPf w ad L) : RdB w.heap.size w ad L := fun _ hb => h.below hb
theorem RdB.step {B : Nat} {w w' : World} {ad : Option Addr} {L : List Pf} (h : RdB B w ad L) (hb : Below B w w') : RdB B w' ad L := fun _ h2 => h _ (hb.trans h2)
set_option maxRecDepth 100000 in
set_option maxHeartbeats 16000000 in
theorem law_SetsJoin (ad : Option Addr) (n c : Nat) (w : World) (h : LawArg w ad n) :
    Calls Tryz.prog 4 #[.slice ad n c] w (Ret (.bool true) w) := by
  have hS := LawArg.strm (c := c) h
  have HB0 : Hid (Below w.heap.size w (w.alloc (.cells #[.slice ad n c, .int .i64 0] 25 (0, 0)))) := Lib.hid (below_alloc (Below.refl _ _) _)
  have hblt : w.heap.size < (w.alloc (.cells #[.slice ad n c, .int .i64 0] 25 (0, 0))).heap.size := hS.lt
  have HS := Lib.hid hS
  clear h hS
  go_enter Tryz.func4, Tryz.ntmps4
  go_wp2_with fail
  generalize w.alloc (.cells #[.slice ad n c, .int .i64 0] 25 (0, 0)) = w0 at *
  obtain ⟨b, hbw⟩ : ∃ b, w.heap.size = b := ⟨_, rfl⟩
  rw [hbw] at hblt HS HB0 ⊢
  have Hbw := Lib.hid hbw
  clear hbw
  refine (set_gen b 0 _ HS.out (by omega)).mono ?_
  rintro e w1 ⟨v, X, rfl, hO, hl, hux, hg⟩
  have HG1 : Hid (Gen b w0 w1 50) := Lib.hid (hg.mono (by omega))
  obtain ⟨xa, xc, rfl, _⟩ := hO.form
  have HX1 := Lib.hid hO
  have HXu := Lib.hid hux
  have hw1 : w0.heap.size ≤ w1.heap.size := HG1.out.g.size
  obtain ⟨nx, hnx⟩ : ∃ nx, X.length = nx := ⟨_, rfl⟩
  rw [hnx] at HX1 hl ⊢
  have hnx6 : nx ≤ 6 := hl
  clear hg HS hl hux hO
  go_wp2_with fail
  refine (set_gen b 50 _ HG1.out.s (by omega)).mono ?_
  rintro e wb ⟨v, Y, rfl, hO, hl, huy, hg⟩
  have HGb : Hid (Gen b w0 wb 100) := Lib.hid ((HG1.out.trans hg).mono (by omega))
  obtain ⟨ya, yc, rfl, _⟩ := hO.form
  have HX := Lib.hid (HX1.out.gen hg hblt).rd
  have HY := Lib.hid hO.rd
  obtain ⟨ny, hny⟩ : ∃ ny, Y.length = ny := ⟨_, rfl⟩
  rw [hny] at hl ⊢
  have hny6 : ny ≤ 6 := hl
  have HBw : Hid (Below w.heap.size w wb) := Lib.hid (HGb.out.toBelowJ (w := w) (by rw [Hbw.out]; exact HB0.out) (by rw [Hbw.out]; exact Nat.le_refl _))
  have hux := HXu.out
  have hok1 : setF X = 0 → ∀ p ∈ X, OkPf p := fun h => setF_okS h hux
  have hok2 : firstE [setF X, setF Y] = 0 → (∀ p ∈ X, OkPf p) ∧ ∀ p ∈ Y, OkPf p := fun h => ⟨setF_okS (firstE_zero h).1 hux, setF_okS (firstE_zero h).2 huy⟩
  have HSx := Lib.hid fun wx (hr : RdK layPf wx xa X) => setFault_any xa nx xc X wx hr hnx (by omega) hux
  have HSy := Lib.hid fun wx (hr : RdK layPf wx ya Y) => setFault_any ya ny yc Y wx hr hny (by omega) huy
  have HU0 : Hid (firstE [setF X, setF Y] = 0 → ∀ wx, RdK layPf wx xa X → RdK layPf wx ya Y → Calls Tryz.prog 27 #[.slice xa nx xc, .slice ya ny yc] wx fun e w' => ∃ v, e = .returned v ∧ OwnK layPf w' wx.heap.size v (wU X Y) ∧ Below wx.heap.size wx w') := Lib.hid fun h wx r1 r2 => by
    have := unionOf_any xa ya nx xc ny yc X Y wx r1 r2 hnx hny (by omega) (hok2 h).1 (hok2 h).2
    rw [show wU X Y = unionR X Y by unfold wU unionR; rw [if_pos h, ← union_eq (hok2 h).1 (hok2 h).2]; rfl]
    exact this
  have HU1 : Hid (firstE [setF X, setF Y] = 0 → ∀ wx, RdK layPf wx xa X → RdK layPf wx ya Y → Calls Tryz.prog 28 #[.slice xa nx xc, .slice ya ny yc] wx fun e w' => ∃ v, e = .returned v ∧ OwnK layPf w' wx.heap.size v (wB X Y) ∧ Below wx.heap.size wx w') := Lib.hid fun h wx r1 r2 => by
    have l1 := rest_len (hok2 h).1
    have l2 := rest_len (hok2 h).2
    have := bothOf_any xa ya nx xc ny yc X Y wx r1 r2 hnx hny (by omega) (by omega) (by unfold restR; omega) (by unfold restR; omega) (hok2 h).1 (hok2 h).2
    rw [show wB X Y = bothR X Y by unfold wB; rw [if_pos h, both_eq (hok2 h).1 (hok2 h).2]]
    exact this
  have HU2 : Hid (firstE [setF X, setF Y] = 0 → ∀ wx, RdK layPf wx xa X → RdK layPf wx ya Y → Calls Tryz.prog 29 #[.slice xa nx xc, .slice ya ny yc] wx fun e w' => ∃ v, e = .returned v ∧ OwnK layPf w' wx.heap.size v (wW X Y) ∧ Below wx.heap.size wx w') := Lib.hid fun h wx r1 r2 => by
    have l1 := rest_len (hok2 h).1
    have l2 := rest_len (hok2 h).2
    have l3 := rest2_len (hok2 h).2
    have := withoutOf_any xa ya nx xc ny yc X Y wx r1 r2 hnx hny (by omega) (by omega) (by unfold restR; omega) (by unfold restR; omega) (by omega) (hok2 h).1 (hok2 h).2
    rw [show wW X Y = withoutR X Y by unfold wW; rw [if_pos h, without_eq (hok2 h).1 (hok2 h).2]]
    exact this
  have HU3 : Hid (setF X = 0 → ∀ wx, RdK layPf wx xa X → Calls Tryz.prog 30 #[.slice xa nx xc] wx fun e w' => ∃ v, e = .returned v ∧ OwnK layPf w' wx.heap.size v (wR X) ∧ Below wx.heap.size wx w') := Lib.hid fun h wx r1 => by
    have := restOf_any xa nx xc X wx r1 hnx (by omega) (hok1 h)
    rw [show wR X = restR X by unfold wR restR; rw [if_pos h]]
    exact this
  have HA0 := Lib.hid fun wx (r1 : RdK layPf wx xa X) (r2 : RdK layPf wx ya Y) => aunion_any xa ya nx xc ny yc X Y wx r1 r2 hnx hny (by omega) (by omega) hux huy (fun h => by have := union_len (hok2 h).1 (hok2 h).2; omega)
  have HA1 := Lib.hid fun wx (r1 : RdK layPf wx xa X) (r2 : RdK layPf wx ya Y) => aboth_any xa ya nx xc ny yc X Y wx r1 r2 hnx hny (by omega) (by omega) hux huy (fun h => by have := both_len (hok2 h).1 (hok2 h).2; omega)
  have HA2 := Lib.hid fun wx (r1 : RdK layPf wx xa X) (r2 : RdK layPf wx ya Y) => awithout_any xa ya nx xc ny yc X Y wx r1 r2 hnx hny (by omega) (by omega) hux huy (fun h => by have := without_len (hok2 h).1 (hok2 h).2; omega)
  have HA3 := Lib.hid fun wx (r1 : RdK layPf wx xa X) => arest_any xa nx xc X wx r1 hnx (by omega) hux (fun h => by have := rest_len (hok1 h); omega)
  have eU : (if firstE [setF X, setF Y] = 0 then pfs (jn (spn X ++ spn Y)) else []) = wU X Y := rfl
  have eB : (if firstE [setF X, setF Y] = 0 then pfs (jn (both (spn X) (spn Y))) else []) = wB X Y := rfl
  have eW : (if firstE [setF X, setF Y] = 0 then pfs (jn (both (spn X) (gaps (spn Y)))) else []) = wW X Y := rfl
  have eR : (if setF X = 0 then pfs (gaps (spn X)) else []) = wR X := rfl
  rw [eU] at HA0
  rw [eB] at HA1
  rw [eW] at HA2
  rw [eR] at HA3
  have HNo : Hid (firstE [setF X, setF Y] ≠ 0 → wU X Y = [] ∧ wB X Y = [] ∧ wW X Y = []) := Lib.hid fun h => ⟨if_neg h, if_neg h, if_neg h⟩
  have HNr : Hid (setF X ≠ 0 → wR X = []) := Lib.hid fun h => if_neg h
  have HLn : Hid ((wU X Y).length ≤ 1000000000 ∧ (wB X Y).length ≤ 1000000000 ∧ (wW X Y).length ≤ 1000000000 ∧ (wR X).length ≤ 1000000000) := Lib.hid (by
    unfold wU wB wW wR
    refine ⟨?_, ?_, ?_, ?_⟩
    · split
      · rename_i h; have := union_len (hok2 h).1 (hok2 h).2; omega
      · simp
    · split
      · rename_i h; have := both_len (hok2 h).1 (hok2 h).2; omega
      · simp
    · split
      · rename_i h; have := without_len (hok2 h).1 (hok2 h).2; omega
      · simp
    · split
      · rename_i h; have := rest_len (hok1 h); omega
      · simp)
  clear hok1 hok2 eU eB eW eR hux huy hnx hny hl hg hO HG1 HX1 HXu HGb HB0
  generalize wU X Y = W0 at *
  generalize wB X Y = W1 at *
  generalize wW X Y = W2 at *
  generalize wR X = W3 at *
  obtain ⟨FB, hFB⟩ : ∃ FB, firstE [setF X, setF Y] = FB := ⟨_, rfl⟩
  rw [hFB] at HU0 HU1 HU2 HA0 HA1 HA2 HNo
  generalize setF Y = F2 at *
  generalize setF X = F1 at *
  have HFB := Lib.hid hFB
  clear hFB
  go_wp2_with fail
  refine (HSx.out _ HX.out).mono ?_
  rintro e w2 ⟨rfl, hb2⟩
  have HC2 := Lib.hid hb2
  clear hb2
  go_wp2_with fail
  refine (HSx.out _ (HX.out.below HC2.out)).mono ?_
  rintro e w3 ⟨rfl, hb⟩
  have HC3 := Lib.hid (HC2.out.trans (hb.mono HC2.out.size))
  clear hb HC2
  go_wp2_with fail
  refine (HSy.out _ (HY.out.below HC3.out)).mono ?_
  rintro e w4 ⟨rfl, hb⟩
  have HC4 := Lib.hid (HC3.out.trans (hb.mono HC3.out.size))
  clear hb HC3 HSx HSy
  go_wp2_with fail
  refine (errs_any _ 2 2 [F1, F2] _ (rdInts_new _ _ [F1, F2] _ rfl) (by omega)).mono ?_
  rintro e w5 ⟨rfl, rfl⟩
  rw [HFB.out]
  have HC5 : Hid (Below wb.heap.size wb ((w4.alloc (.cells #[.int .i64 F1, .int .i64 F2] 41 (0, 0))).alloc (.cells #[.slice none 0 0, .slice none 0 0, .slice none 0 0, .slice none 0 0] 26 (0, 0)))) := Lib.hid (Below.alloc (Below.alloc HC4.out HC4.out.size _) (by have := HC4.out.size; simp; omega) _)
  have HK5 : Hid (Blk ((w4.alloc (.cells #[.int .i64 F1, .int .i64 F2] 41 (0, 0))).alloc (.cells #[.slice none 0 0, .slice none 0 0, .slice none 0 0, .slice none 0 0] 26 (0, 0))) (w4.heap.size + 1) 26 #[.slice none 0 0, .slice none 0 0, .slice none 0 0, .slice none 0 0]) := Lib.hid (by
    have := Blk.new (w4.alloc (.cells #[.int .i64 F1, .int .i64 F2] 41 (0, 0))) 26 #[.slice none 0 0, .slice none 0 0, .slice none 0 0, .slice none 0 0]
    rw [World.size_alloc] at this
    exact this)
  have hwb5 : wb.heap.size ≤ w4.heap.size + 1 := Nat.le_succ_of_le HC4.out.size
  clear HC4
  go_upto_region 5 with fail
  generalize ((w4.alloc (.cells #[.int .i64 F1, .int .i64 F2] 41 (0, 0))).alloc (.cells #[.slice none 0 0, .slice none 0 0, .slice none 0 0, .slice none 0 0] 26 (0, 0))) = w6 at *
  generalize w4.heap.size + 1 = B0 at *
  go_upto_if 36 with fail
  go_cut [8] (fun s wx => ∃ (B : Nat) (q0 q1 q2 : Option Addr) (c0 c1 c2 : Nat), s = .slice (some ⟨B, 0, none⟩) 4 4 ∧ wb.heap.size ≤ B ∧ Blk wx B 26 #[.slice q0 W0.length c0, .slice q1 W1.length c1, .slice q2 W2.length c2, .slice none 0 0] ∧ RdB B wx q0 W0 ∧ RdB B wx q1 W1 ∧ RdB B wx q2 W2 ∧ Below wb.heap.size wb wx)
  case first =>
    as_aux_lemma =>
      by_cases hz : FB = 0
      · have HV0 := Lib.hid (HU0.out hz)
        have HV1 := Lib.hid (HU1.out hz)
        have HV2 := Lib.hid (HU2.out hz)
        subst hz
        clear HU0 HU1 HU2 HU3 HA0 HA1 HA2 HA3 HNo HNr HLn HFB HK5
        go_wp2_with fail
        refine (HV0.out _ (HX.out.below HC5.out) (HY.out.below HC5.out)).mono ?_
        rintro e w7 ⟨v, rfl, hO, hb⟩
        obtain ⟨q0, c0, rfl, _⟩ := hO.form
        have HC7 := Lib.hid (HC5.out.trans (hb.mono HC5.out.size))
        have HR0 := Lib.hid hO.rd
        clear hO hb HC5 HV0
        generalize hl0 : W0.length = l0 at *
        go_wp2_with fail
        refine (HV1.out _ (HX.out.below HC7.out) (HY.out.below HC7.out)).mono ?_
        rintro e w8 ⟨v, rfl, hO, hb⟩
        obtain ⟨q1, c1, rfl, _⟩ := hO.form
        have HC8 := Lib.hid (HC7.out.trans (hb.mono HC7.out.size))
        have HR1 := Lib.hid hO.rd
        have HR08 := Lib.hid (HR0.out.below hb)
        clear hO hb HC7 HV1 HR0
        generalize hl1 : W1.length = l1 at *
        go_wp2_with fail
        refine (HV2.out _ (HX.out.below HC8.out) (HY.out.below HC8.out)).mono ?_
        rintro e w9 ⟨v, rfl, hO, hb⟩
        obtain ⟨q2, c2, rfl, _⟩ := hO.form
        have HC9 := Lib.hid (HC8.out.trans (hb.mono HC8.out.size))
        have HR2 := Lib.hid hO.rd
        have HR09 := Lib.hid (HR08.out.below hb)
        have HR19 := Lib.hid (HR1.out.below hb)
        clear hO hb HC8 HV2 HR08 HR1
        generalize hl2 : W2.length = l2 at *
        go_wp2_with fail
        go_meet
        case rel =>
          have ha : Below w9.heap.size w9 (w9.alloc (.cells #[.slice q0 l0 c0, .slice q1 l1 c1, .slice q2 l2 c2, .slice none 0 0] 26 (0, 0))) := below_alloc (Below.refl _ _) _
          exact ⟨w9.heap.size, q0, q1, q2, c0, c1, c2, rfl, HC9.out.size, Blk.new w9 _ _, (RdB.of HR09.out).step ha, (RdB.of HR19.out).step ha, (RdB.of HR2.out).step ha, Below.alloc HC9.out HC9.out.size _⟩
      · obtain ⟨e0, e1, e2⟩ := HNo.out hz
        have n1 : (FB == 0) = false := by simpa using hz
        have n2 : decide (FB = 0) = false := decide_eq_false hz
        clear HU0 HU1 HU2 HU3 HA0 HA1 HA2 HA3 HNo HNr HLn HFB
        subst e0 e1 e2
        go_wp2_with fail
        go_meet
        case rel => exact ⟨B0, none, none, none, 0, 0, 0, rfl, hwb5, HK5.out, RdB.nil _ _ _, RdB.nil _ _ _, RdB.nil _ _ _, HC5.out⟩
  case rest =>
    clear HK5 HC5 hwb5 HU0 HU1 HU2 HNo
    obtain ⟨B, q0, q1, q2, c0, c1, c2, rfl, hwB, hK, hR0, hR1, hR2, hC⟩ := hcut
    have HK := Lib.hid hK
    have HR0 := Lib.hid hR0
    have HR1 := Lib.hid hR1
    have HR2 := Lib.hid hR2
    have HC := Lib.hid hC
    clear hK hR0 hR1 hR2 hC
    go_upto_if 48 with fail
    go_cut [] (fun wx => ∃ (q3 : Option Addr) (c3 : Nat), Blk wx B 26 #[.slice q0 W0.length c0, .slice q1 W1.length c1, .slice q2 W2.length c2, .slice q3 W3.length c3] ∧ RdK layPf wx q0 W0 ∧ RdK layPf wx q1 W1 ∧ RdK layPf wx q2 W2 ∧ RdK layPf wx q3 W3 ∧ Below wb.heap.size wb wx)
    case first =>
      as_aux_lemma =>
        by_cases hz : F1 = 0
        · have HV3 := Lib.hid (HU3.out hz)
          subst hz
          clear HU3 HA0 HA1 HA2 HA3 HNr HLn HFB
          go_wp2_with fail
          refine (HV3.out _ (HX.out.below HC.out)).mono ?_
          rintro e w7 ⟨v, rfl, hO, hb⟩
          obtain ⟨q3, c3, rfl, _⟩ := hO.form
          have hBlt := HK.out.lt
          have HK7 := Lib.hid (HK.out.below hb hBlt)
          have hbB : Below B wc w7 := hb.mono (Nat.le_of_lt hBlt)
          have HO3 := Lib.hid hO
          have HC7 := Lib.hid (HC.out.trans (hb.mono HC.out.size))
          have HS0 := Lib.hid (HR0.out.step hbB)
          have HS1 := Lib.hid (HR1.out.step hbB)
          have HS2 := Lib.hid (HR2.out.step hbB)
          clear hO hb hbB HV3 HK HR0 HR1 HR2 HC
          generalize hl3 : W3.length = l3 at *
          have e0 := HK7.out.cell 3
          have ef := HK7.out.free
          simp at e0
          go_wp2_with fail
          go_meet
          case rel =>
            have hs : ∀ v : Value, Below B w7 (w7.setCell ⟨B, 3, none⟩ v) := fun v => (Below.refl B w7).setCell (Nat.le_refl B) v
            refine ⟨q3, c3, HK7.out.set 3 _, HS0.out _ (hs _), HS1.out _ (hs _), HS2.out _ (hs _), (HO3.out.far HK7.out (by decide) 3 _).rd, HC7.out.setCell hwB _⟩
        · have e3 := HNr.out hz
          have n1 : (F1 == 0) = false := by simpa using hz
          have n2 : decide (F1 = 0) = false := decide_eq_false hz
          clear HU3 HA0 HA1 HA2 HA3 HNr HLn HFB
          subst e3
          go_wp2_with fail
          go_meet
          case rel => exact ⟨none, 0, HK.out, HR0.out _ (Below.refl _ _), HR1.out _ (Below.refl _ _), HR2.out _ (Below.refl _ _), RdK.nil _ _, HC.out⟩
    case rest =>
      as_aux_lemma =>
        clear HK HR0 HR1 HR2 HC HU3 HNr
        obtain ⟨q3, c3, hK, hR0, hR1, hR2, hR3, hC⟩ := hcut
        have HK := Lib.hid hK
        have HQ0 := Lib.hid hR0
        have HQ1 := Lib.hid hR1
        have HQ2 := Lib.hid hR2
        have HQ3 := Lib.hid hR3
        have HC := Lib.hid hC
        have HD0 : Hid (Below wc.heap.size wc wc) := Lib.hid (Below.refl _ _)
        clear hK hR0 hR1 hR2 hR3 hC
        obtain ⟨l0, hl0⟩ : ∃ l, W0.length = l := ⟨_, rfl⟩
        obtain ⟨l1, hl1⟩ : ∃ l, W1.length = l := ⟨_, rfl⟩
        obtain ⟨l2, hl2⟩ : ∃ l, W2.length = l := ⟨_, rfl⟩
        obtain ⟨l3, hl3⟩ : ∃ l, W3.length = l := ⟨_, rfl⟩
        have HL0 := Lib.hid hl0
        have HL1 := Lib.hid hl1
        have HL2 := Lib.hid hl2
        have HL3 := Lib.hid hl3
        rw [hl0, hl1, hl2, hl3] at HK
        clear hl0 hl1 hl2 hl3
        go_wp2_with fail
        refine (HA0.out _ (HX.out.below (HC.out.trans (HD0.out.mono HC.out.size))) (HY.out.below (HC.out.trans (HD0.out.mono HC.out.size)))).mono ?_
        rintro e v0 ⟨v, rfl, hO, hb⟩
        obtain ⟨a0, b0, hv, _⟩ := hO.form
        subst hv
        have HZ0 := Lib.hid hO.rd
        have HD1 := Lib.hid (HD0.out.trans (hb.mono HD0.out.size))
        clear hO hb HA0 HD0 
        rw [HL0.out]
        go_wp2_with fail
        refine (HA1.out _ (HX.out.below (HC.out.trans (HD1.out.mono HC.out.size))) (HY.out.below (HC.out.trans (HD1.out.mono HC.out.size)))).mono ?_
        rintro e v1 ⟨v, rfl, hO, hb⟩
        obtain ⟨a1, b1, hv, _⟩ := hO.form
        subst hv
        have HZ1 := Lib.hid hO.rd
        have HD2 := Lib.hid (HD1.out.trans (hb.mono HD1.out.size))
        have HZ0_1 := Lib.hid (HZ0.out.below hb)
        clear hO hb HA1 HD1 HZ0
        rw [HL1.out]
        go_wp2_with fail
        refine (HA2.out _ (HX.out.below (HC.out.trans (HD2.out.mono HC.out.size))) (HY.out.below (HC.out.trans (HD2.out.mono HC.out.size)))).mono ?_
        rintro e v2 ⟨v, rfl, hO, hb⟩
        obtain ⟨a2, b2, hv, _⟩ := hO.form
        subst hv
        have HZ2 := Lib.hid hO.rd
        have HD3 := Lib.hid (HD2.out.trans (hb.mono HD2.out.size))
        have HZ0_2 := Lib.hid (HZ0_1.out.below hb)
        have HZ1_2 := Lib.hid (HZ1.out.below hb)
        clear hO hb HA2 HD2 HZ0_1 HZ1
        rw [HL2.out]
        go_wp2_with fail
        refine (HA3.out _ (HX.out.below (HC.out.trans (HD3.out.mono HC.out.size)))).mono ?_
        rintro e v3 ⟨v, rfl, hO, hb⟩
        obtain ⟨a3, b3, hv, _⟩ := hO.form
        subst hv
        have HZ3 := Lib.hid hO.rd
        have HD4 := Lib.hid (HD3.out.trans (hb.mono HD3.out.size))
        have HZ0_3 := Lib.hid (HZ0_2.out.below hb)
        have HZ1_3 := Lib.hid (HZ1_2.out.below hb)
        have HZ2_3 := Lib.hid (HZ2.out.below hb)
        clear hO hb HA3 HD3 HZ0_2 HZ1_2 HZ2
        rw [HL3.out]
        have HWe : Hid (Blk (v3.alloc (.cells #[.slice a0 l0 b0, .slice a1 l1 b1, .slice a2 l2 b2, .slice a3 l3 b3] 26 (0, 0))) v3.heap.size 26 #[.slice a0 l0 b0, .slice a1 l1 b1, .slice a2 l2 b2, .slice a3 l3 b3]) := Lib.hid (Blk.new v3 _ _)
        have ha : Below v3.heap.size v3 (v3.alloc (.cells #[.slice a0 l0 b0, .slice a1 l1 b1, .slice a2 l2 b2, .slice a3 l3 b3] 26 (0, 0))) := below_alloc (Below.refl _ _) _
        have HDe := Lib.hid (HD4.out.trans (ha.mono HD4.out.size))
        have HKe := Lib.hid (HK.out.below HDe.out HK.out.lt)
        have HT0 := Lib.hid (HQ0.out.below HDe.out)
        have HE0 := Lib.hid (HZ0_3.out.below ha)
        have HT1 := Lib.hid (HQ1.out.below HDe.out)
        have HE1 := Lib.hid (HZ1_3.out.below ha)
        have HT2 := Lib.hid (HQ2.out.below HDe.out)
        have HE2 := Lib.hid (HZ2_3.out.below ha)
        have HT3 := Lib.hid (HQ3.out.below HDe.out)
        have HE3 := Lib.hid (HZ3.out.below ha)
        have HCe := Lib.hid (HC.out.trans (HDe.out.mono HC.out.size))
        clear ha HD4 HK HQ0 HQ1 HQ2 HQ3 HC HDe HZ0_3 HZ1_3 HZ2_3 HZ3
        go_upto_block 0 with fail
        generalize (v3.alloc (.cells #[.slice a0 l0 b0, .slice a1 l1 b1, .slice a2 l2 b2, .slice a3 l3 b3] 26 (0, 0))) = we at *
        generalize v3.heap.size = G at *
        have HP0 := Lib.hid fun wx (hb : Below we.heap.size we wx) => equal_pf a0 q0 b0 c0 W0 W0 wx (HE0.out.below hb) (HT0.out.below hb) (by have := HLn.out; omega)
        rw [HL0.out, decide_eq_true (rfl : W0 = W0)] at HP0
        have HP1 := Lib.hid fun wx (hb : Below we.heap.size we wx) => equal_pf a1 q1 b1 c1 W1 W1 wx (HE1.out.below hb) (HT1.out.below hb) (by have := HLn.out; omega)
        rw [HL1.out, decide_eq_true (rfl : W1 = W1)] at HP1
        have HP2 := Lib.hid fun wx (hb : Below we.heap.size we wx) => equal_pf a2 q2 b2 c2 W2 W2 wx (HE2.out.below hb) (HT2.out.below hb) (by have := HLn.out; omega)
        rw [HL2.out, decide_eq_true (rfl : W2 = W2)] at HP2
        have HP3 := Lib.hid fun wx (hb : Below we.heap.size we wx) => equal_pf a3 q3 b3 c3 W3 W3 wx (HE3.out.below hb) (HT3.out.below hb) (by have := HLn.out; omega)
        rw [HL3.out, decide_eq_true (rfl : W3 = W3)] at HP3
        clear HE0 HE1 HE2 HE3 HT0 HT1 HT2 HT3 HLn
        go_cut [17, 18] (fun s17 s18 wx => Below we.heap.size we wx)
        case first =>
          as_aux_lemma =>
            go_wp2_with fail
            go_loopw [17, 18, 82] (fun s17 s18 i wr => ∃ k : Nat, k ≤ 4 ∧ i = .int .i64 (k : Int) ∧ Hid (Below we.heap.size we wr)) (fun _ _ i _ => 4 - (intOf i).toNat)
            case atStart => exact ⟨0, by omega, rfl, Lib.hid (Below.refl _ _)⟩
            case round =>
              obtain ⟨k, hk, rfl, HB⟩ := hrel
              have HWx := HWe.out.below HB.out HWe.out.lt
              have HKx := HKe.out.below HB.out HKe.out.lt
              have hk3 : k = 0 ∨ k = 1 ∨ k = 2 ∨ k = 3 ∨ k = 4 := by omega
              rcases hk3 with rfl | rfl | rfl | rfl | rfl
              · have e0 := HWx.cell 0
                have e1 := HKx.cell 0
                simp at e0 e1
                clear HWx HKx
                go_wp2_with fail
                refine (HP0.out _ HB.out).mono ?_
                rintro e w3 ⟨rfl, q, rfl⟩
                have HB3 := Lib.hid (below_drewN HB.out q)
                clear HP0 HP1 HP2 HP3 HB e0 e1
                go_wp2_with fail
                exact ⟨⟨1, by omega, rfl, HB3⟩, by simp [intOf]⟩
              · have e0 := HWx.cell 1
                have e1 := HKx.cell 1
                simp at e0 e1
                clear HWx HKx
                go_wp2_with fail
                refine (HP1.out _ HB.out).mono ?_
                rintro e w3 ⟨rfl, q, rfl⟩
                have HB3 := Lib.hid (below_drewN HB.out q)
                clear HP0 HP1 HP2 HP3 HB e0 e1
                go_wp2_with fail
                exact ⟨⟨2, by omega, rfl, HB3⟩, by simp [intOf]⟩
              · have e0 := HWx.cell 2
                have e1 := HKx.cell 2
                simp at e0 e1
                clear HWx HKx
                go_wp2_with fail
                refine (HP2.out _ HB.out).mono ?_
                rintro e w3 ⟨rfl, q, rfl⟩
                have HB3 := Lib.hid (below_drewN HB.out q)
                clear HP0 HP1 HP2 HP3 HB e0 e1
                go_wp2_with fail
                exact ⟨⟨3, by omega, rfl, HB3⟩, by simp [intOf]⟩
              · have e0 := HWx.cell 3
                have e1 := HKx.cell 3
                simp at e0 e1
                clear HWx HKx
                go_wp2_with fail
                refine (HP3.out _ HB.out).mono ?_
                rintro e w3 ⟨rfl, q, rfl⟩
                have HB3 := Lib.hid (below_drewN HB.out q)
                clear HP0 HP1 HP2 HP3 HB e0 e1
                go_wp2_with fail
                exact ⟨⟨4, by omega, rfl, HB3⟩, by simp [intOf]⟩
              · clear HWx HKx HP0 HP1 HP2 HP3
                go_wp2_with fail
                go_meet
                case rel => exact HB.out
        case rest =>
          as_aux_lemma =>
            have HB := Lib.hid (HCe.out.trans (hcut.mono HCe.out.size))
            have HBf := Lib.hid (HBw.out.trans (HB.out.mono HBw.out.size))
            have HAd := Lib.hid fun wx => addressed_any wx
            clear hcut HP0 HP1 HP2 HP3 HCe HB HBw
            go_wp2_with fail
            refine (HAd.out _).mono ?_
            rintro e wz ⟨rfl, hb⟩
            have HBz := Lib.hid (HBf.out.trans (hb.mono HBf.out.size))
            clear hb
            go_wp2_with fail
            go_ret
            exact ⟨rfl, HBz.out⟩
end Go.Proofs.YtjkicehhfapohaaGreatDoor
