/-
  The law PrefixTexts: walked. Condition: the variables that the functions read.
-/
import Derived.Test.YteccghdegckjhaaGreatDoorPT39
import Derived.Test.YteccghdegckjhaaGreatDoorPT40
import Derived.Test.YteccghdegckjhaaGreatDoorPT41
import Derived.Test.YteccghdegckjhaaGreatDoorPT5
set_option linter.unusedVariables false
namespace Go.Proofs.YteccghdegckjhaaGreatDoor
open Go.RowKit Go Go.Sort
set_option linter.unusedVariables false

theorem psV_form (R : Option (Bool × Nat × Nat × Nat)) : ∃ (x : Bool) (h l n e : Int), psV R = .tuple #[.agg #[.bool x, .int .u64 h, .int .u64 l, .int .i64 n], .int .i64 e] := by
  rcases R with _ | ⟨x, h, l, n⟩
  · exact ⟨false, 0, 0, 0, 9, rfl⟩
  · exact ⟨x, h, l, n, 0, rfl⟩
theorem eqlP_self (a : Bool) (b c d : Int) (w : World) : (binOp .eql 30 (.agg #[.bool a, .int .u64 b, .int .u64 c, .int .i64 d]) (.agg #[.bool a, .int .u64 b, .int .u64 c, .int .i64 d])).run Tryz.prog w = .ok (.bool true) w := by
  rw [pfx_eql]
  simp
set_option maxRecDepth 100000 in
set_option maxHeartbeats 8000000 in
theorem law_PrefixTexts (ad : Option Addr) (n c : Nat) (w : World) (h : LawArg w ad n) (hv : Vr w) :
    Calls Tryz.prog 3 #[.slice ad n c] w (Ret (.bool true) w) := by
  have hS := LawArg.strm (c := c) h
  have HB0 : Hid (Below w.heap.size w (w.alloc (.cells #[.slice ad n c, .int .i64 0] 25 (0, 0)))) := Lib.hid (below_alloc (Below.refl _ _) _)
  have hblt : w.heap.size < (w.alloc (.cells #[.slice ad n c, .int .i64 0] 25 (0, 0))).heap.size := hS.lt
  have HS := Lib.hid hS
  have HVw : Hid (∀ wx, Below w.heap.size w wx → Vr wx) := Lib.hid fun wx hb => hv.below hb
  clear h hS hv
  go_enter Tryz.func3, Tryz.ntmps3
  go_wp2_with fail
  generalize w.alloc (.cells #[.slice ad n c, .int .i64 0] 25 (0, 0)) = w0 at *
  obtain ⟨b, hbw⟩ : ∃ b, w.heap.size = b := ⟨_, rfl⟩
  rw [hbw] at hblt HS HB0 HVw ⊢
  have Hbw := Lib.hid hbw
  clear hbw
  have HTb : Hid (∀ w', (∃ k, Gen b w0 w' k) → Tabs w') := Lib.hid fun w' ⟨k, hg⟩ => (HVw.out w' (by
    have := Gen.toBelowR (w := w) hg (by rw [Hbw.out]; exact HB0.out) (by rw [Hbw.out]; exact Nat.le_refl _)
    rwa [Hbw.out] at this)).tb
  refine (prefix_gen b 0 _ HS.out (by omega)).mono ?_
  rintro e w1 ⟨six, hi, lo, bits, rfl, h1, h2, -, hg⟩
  have HG1 := Lib.hid hg
  have HU := Lib.hid (And.intro h1 h2)
  clear h1 h2 hg
  have HTb1 : Hid (∀ w', (∃ k, Gen b w1 w' k) → Tabs w') := Lib.hid fun w' ⟨k, hg2⟩ => HTb.out w' ⟨_, HG1.out.trans hg2⟩
  unfold vP
  go_wp2_with fail
  refine (prefixString_gen b _ _ HG1.out.s (by omega) HTb1.out).mono ?_
  rintro e w2 ⟨S, rfl, hS, hg⟩
  have hsl : S.data.toList.length ≤ 1000000 := by
    have : S.data.toList.length = S.size := by rw [Array.length_toList]; rfl
    omega
  have hss : strL S.data.toList = S := strL_of S
  obtain ⟨s, hs⟩ : ∃ q, S.data.toList = q := ⟨_, rfl⟩
  rw [hs] at hsl hss
  subst hss
  have HB1 : Hid (Below b w w2) := Lib.hid (by
    have := Gen.toBelowR (w := w) (HG1.out.trans hg) (by rw [Hbw.out]; exact HB0.out) (by rw [Hbw.out]; exact Nat.le_refl _)
    rwa [Hbw.out] at this)
  have hbw2 : b ≤ w2.heap.size := by have := hg.s.lt; omega
  clear hg HG1 HS HB0 hs hS HTb HTb1
  obtain ⟨p0, p1, p2, p3, pe, hp⟩ := psV_form (parsePF s)
  have HC1 := Lib.hid fun wx (hv : Vr wx) => prefixText_all six hi lo bits wx HU.out.1 HU.out.2 hv.tb
  have HC2 := Lib.hid fun wx => prefixFault_any six hi lo bits wx HU.out.1 HU.out.2
  have HC3 : Hid (pFault six hi lo bits = 0 → ∀ wx, Vr wx → Calls Tryz.prog 9 #[.agg #[.bool six, .int .u64 (hi : Int), .int .u64 (lo : Int), .int .i64 bits]] wx (Ret (.string (pfxO six hi lo bits)) wx)) := Lib.hid fun hf wx hv => by
    obtain ⟨g1, n, g2, rfl⟩ := pFault_ok hf
    unfold pfxO
    rw [if_pos hf]
    exact prefixLine_any six hi lo n wx HU.out.1 HU.out.2 g1 g2 hv.tb
  have HO : Hid (pFault six hi lo bits ≠ 0 → pfxO six hi lo bits = ⟨#[]⟩) := Lib.hid fun h => if_neg h
  have HC4 := Lib.hid fun wx (hv : Vr wx) => parsePrefix_any s wx hv hsl
  have HC5 := Lib.hid fun wx (hv : Vr wx) => prefixParse_any s wx hv hsl
  rw [hp] at HC4 HC5
  generalize strL s = S at *
  generalize pFault six hi lo bits = pf at *
  generalize pfxO six hi lo bits = PO at *
  clear hp hsl HU
  have HK0 : Hid (Blk (w2.alloc (.cells #[.bool six, .int .u64 (hi : Int), .int .u64 (lo : Int), .int .i64 bits] 30 (0, 0))) w2.heap.size 30 #[.bool six, .int .u64 (hi : Int), .int .u64 (lo : Int), .int .i64 bits]) := Lib.hid (Blk.new w2 _ _)
  have HB2 : Hid (Below b w (w2.alloc (.cells #[.bool six, .int .u64 (hi : Int), .int .u64 (lo : Int), .int .i64 bits] 30 (0, 0)))) := Lib.hid (HB1.out.alloc hbw2 _)
  have hbu0 : b ≤ (w2.alloc (.cells #[.bool six, .int .u64 (hi : Int), .int .u64 (lo : Int), .int .i64 bits] 30 (0, 0))).heap.size := HB2.out.size |> fun h => by have := hbw2; simp; omega
  clear HB1 hbw2
  go_upto_region 3 with fail
  generalize w2.alloc (.cells #[.bool six, .int .u64 (hi : Int), .int .u64 (lo : Int), .int .i64 bits] 30 (0, 0)) = u0 at *
  generalize w2.heap.size = k0 at *
  have c0 := HK0.out.cell 0
  have c1 := HK0.out.cell 1
  have c2 := HK0.out.cell 2
  have c3 := HK0.out.cell 3
  simp at c0 c1 c2 c3
  have HCx := Lib.hid (HC1.out _ (HVw.out _ HB2.out))
  clear HC1
  go_wp2_with fail
  refine HCx.out.mono ?_
  rintro e u1 ⟨rfl, hb⟩
  have HB3 : Hid (Below b w u1) := Lib.hid (HB2.out.trans (hb.mono hbu0))
  have hbu1 : b ≤ u1.heap.size := Nat.le_trans hbu0 hb.size
  have HK1 := Lib.hid (HK0.out.below hb HK0.out.lt)
  clear hb HCx HB2 HK0 c0 c1 c2 c3 hbu0
  have c0 := HK1.out.cell 0
  have c1 := HK1.out.cell 1
  have c2 := HK1.out.cell 2
  have c3 := HK1.out.cell 3
  simp at c0 c1 c2 c3
  go_wp2_with fail
  refine (HC2.out _).mono ?_
  rintro e u2 ⟨rfl, hb⟩
  have HB4 : Hid (Below b w u2) := Lib.hid (HB3.out.trans (hb.mono hbu1))
  have hbu2 : b ≤ u2.heap.size := Nat.le_trans hbu1 hb.size
  have HK2 := Lib.hid (HK1.out.below hb HK1.out.lt)
  clear hb HC2 HB3 HK1 c0 c1 c2 c3 hbu1
  by_cases hz : pf = 0
  · subst hz
    have HCz := Lib.hid (HC3.out rfl _ (HVw.out _ HB4.out))
    clear HC3 HO
    have c0 := HK2.out.cell 0
    have c1 := HK2.out.cell 1
    have c2 := HK2.out.cell 2
    have c3 := HK2.out.cell 3
    simp at c0 c1 c2 c3
    go_wp2_with fail
    refine HCz.out.mono ?_
    rintro e u3 ⟨rfl, hb⟩
    have HB5 : Hid (Below b w u3) := Lib.hid (HB4.out.trans (hb.mono hbu2))
    have hbu3 : b ≤ u3.heap.size := Nat.le_trans hbu2 hb.size
    clear hb HCz HB4 HK2 c0 c1 c2 c3 hbu2
    have HCx := Lib.hid (HC4.out _ (HVw.out _ HB5.out))
    clear HC4
    go_wp2_with fail
    refine HCx.out.mono ?_
    rintro e v0 ⟨rfl, hb⟩
    have HA0 : Hid (Below b w v0) := Lib.hid (HB5.out.trans (hb.mono hbu3))
    have hbv0 : b ≤ v0.heap.size := Nat.le_trans hbu3 hb.size
    clear hb HCx HB5 hbu3
    have HM0 : Hid (Blk (v0.alloc (.cells #[.bool p0, .int .u64 p1, .int .u64 p2, .int .i64 p3] 30 (0, 0))) v0.heap.size 30 #[.bool p0, .int .u64 p1, .int .u64 p2, .int .i64 p3]) := Lib.hid (Blk.new v0 _ _)
    have HA1 : Hid (Below b w (v0.alloc (.cells #[.bool p0, .int .u64 p1, .int .u64 p2, .int .i64 p3] 30 (0, 0)))) := Lib.hid (HA0.out.alloc hbv0 _)
    have hbv1 : b ≤ (v0.alloc (.cells #[.bool p0, .int .u64 p1, .int .u64 p2, .int .i64 p3] 30 (0, 0))).heap.size := HA1.out.size |> fun h => by have := hbv0; simp; omega
    clear HA0 hbv0
    go_upto_region 8 with fail
    generalize v0.alloc (.cells #[.bool p0, .int .u64 p1, .int .u64 p2, .int .i64 p3] 30 (0, 0)) = v1 at *
    generalize v0.heap.size = k1 at *
    have HCx := Lib.hid (HC5.out _ (HVw.out _ HA1.out))
    clear HC5
    go_wp2_with fail
    refine HCx.out.mono ?_
    rintro e v2 ⟨rfl, hb⟩
    have HA2 : Hid (Below b w v2) := Lib.hid (HA1.out.trans (hb.mono hbv1))
    have hbv2 : b ≤ v2.heap.size := Nat.le_trans hbv1 hb.size
    have HM1 := Lib.hid ((HM0.out.below hb HM0.out.lt).alloc (.cells #[.bool p0, .int .u64 p1, .int .u64 p2, .int .i64 p3] 30 (0, 0)))
    clear hb HCx HA1 hbv1 HM0
    have HN1 : Hid (Blk (v2.alloc (.cells #[.bool p0, .int .u64 p1, .int .u64 p2, .int .i64 p3] 30 (0, 0))) v2.heap.size 30 #[.bool p0, .int .u64 p1, .int .u64 p2, .int .i64 p3]) := Lib.hid (Blk.new v2 _ _)
    have HA3 : Hid (Below b w (v2.alloc (.cells #[.bool p0, .int .u64 p1, .int .u64 p2, .int .i64 p3] 30 (0, 0)))) := Lib.hid (HA2.out.alloc hbv2 _)
    have hbv3 : b ≤ (v2.alloc (.cells #[.bool p0, .int .u64 p1, .int .u64 p2, .int .i64 p3] 30 (0, 0))).heap.size := HA3.out.size |> fun h => by have := hbv2; simp; omega
    clear HA2 hbv2
    go_upto_region 9 with fail
    generalize v2.alloc (.cells #[.bool p0, .int .u64 p1, .int .u64 p2, .int .i64 p3] 30 (0, 0)) = v3 at *
    generalize v2.heap.size = k2 at *
    have d0 := HM1.out.cell 0
    have d1 := HM1.out.cell 1
    have d2 := HM1.out.cell 2
    have d3 := HM1.out.cell 3
    simp at d0 d1 d2 d3
    have f0 := HN1.out.cell 0
    have f1 := HN1.out.cell 1
    have f2 := HN1.out.cell 2
    have f3 := HN1.out.cell 3
    simp at f0 f1 f2 f3
    have hAd := Lib.hid fun wx => addressed_any wx
    have e1 := eqlP_self
    have e2 := pfx_guard
    go_wp2_with fail
    refine (hAd.out _).mono ?_
    rintro e z ⟨rfl, hb⟩
    have HE : Hid (Below b w z) := Lib.hid (HA3.out.trans (hb.mono hbv3))
    clear hb
    go_wp2_with fail
    go_ret
    exact ⟨rfl, by rw [Hbw.out]; exact HE.out⟩
  · obtain rfl : PO = ⟨#[]⟩ := HO.out hz
    have hb1 : (pf != 0) = true := by simpa using hz
    have hb2 : (pf == 0) = false := by simpa using hz
    clear HC3 HO HK2
    have HCx := Lib.hid (HC4.out _ (HVw.out _ HB4.out))
    clear HC4
    go_wp2_with fail
    refine HCx.out.mono ?_
    rintro e v0 ⟨rfl, hb⟩
    have HA0 : Hid (Below b w v0) := Lib.hid (HB4.out.trans (hb.mono hbu2))
    have hbv0 : b ≤ v0.heap.size := Nat.le_trans hbu2 hb.size
    clear hb HCx HB4 hbu2
    have HM0 : Hid (Blk (v0.alloc (.cells #[.bool p0, .int .u64 p1, .int .u64 p2, .int .i64 p3] 30 (0, 0))) v0.heap.size 30 #[.bool p0, .int .u64 p1, .int .u64 p2, .int .i64 p3]) := Lib.hid (Blk.new v0 _ _)
    have HA1 : Hid (Below b w (v0.alloc (.cells #[.bool p0, .int .u64 p1, .int .u64 p2, .int .i64 p3] 30 (0, 0)))) := Lib.hid (HA0.out.alloc hbv0 _)
    have hbv1 : b ≤ (v0.alloc (.cells #[.bool p0, .int .u64 p1, .int .u64 p2, .int .i64 p3] 30 (0, 0))).heap.size := HA1.out.size |> fun h => by have := hbv0; simp; omega
    clear HA0 hbv0
    go_upto_region 8 with fail
    generalize v0.alloc (.cells #[.bool p0, .int .u64 p1, .int .u64 p2, .int .i64 p3] 30 (0, 0)) = v1 at *
    generalize v0.heap.size = k1 at *
    have HCx := Lib.hid (HC5.out _ (HVw.out _ HA1.out))
    clear HC5
    go_wp2_with fail
    refine HCx.out.mono ?_
    rintro e v2 ⟨rfl, hb⟩
    have HA2 : Hid (Below b w v2) := Lib.hid (HA1.out.trans (hb.mono hbv1))
    have hbv2 : b ≤ v2.heap.size := Nat.le_trans hbv1 hb.size
    have HM1 := Lib.hid ((HM0.out.below hb HM0.out.lt).alloc (.cells #[.bool p0, .int .u64 p1, .int .u64 p2, .int .i64 p3] 30 (0, 0)))
    clear hb HCx HA1 hbv1 HM0
    have HN1 : Hid (Blk (v2.alloc (.cells #[.bool p0, .int .u64 p1, .int .u64 p2, .int .i64 p3] 30 (0, 0))) v2.heap.size 30 #[.bool p0, .int .u64 p1, .int .u64 p2, .int .i64 p3]) := Lib.hid (Blk.new v2 _ _)
    have HA3 : Hid (Below b w (v2.alloc (.cells #[.bool p0, .int .u64 p1, .int .u64 p2, .int .i64 p3] 30 (0, 0)))) := Lib.hid (HA2.out.alloc hbv2 _)
    have hbv3 : b ≤ (v2.alloc (.cells #[.bool p0, .int .u64 p1, .int .u64 p2, .int .i64 p3] 30 (0, 0))).heap.size := HA3.out.size |> fun h => by have := hbv2; simp; omega
    clear HA2 hbv2
    go_upto_region 9 with fail
    generalize v2.alloc (.cells #[.bool p0, .int .u64 p1, .int .u64 p2, .int .i64 p3] 30 (0, 0)) = v3 at *
    generalize v2.heap.size = k2 at *
    have d0 := HM1.out.cell 0
    have d1 := HM1.out.cell 1
    have d2 := HM1.out.cell 2
    have d3 := HM1.out.cell 3
    simp at d0 d1 d2 d3
    have f0 := HN1.out.cell 0
    have f1 := HN1.out.cell 1
    have f2 := HN1.out.cell 2
    have f3 := HN1.out.cell 3
    simp at f0 f1 f2 f3
    have hAd := Lib.hid fun wx => addressed_any wx
    have e1 := eqlP_self
    have e2 := pfx_guard
    go_wp2_with fail
    refine (hAd.out _).mono ?_
    rintro e z ⟨rfl, hb⟩
    have HE : Hid (Below b w z) := Lib.hid (HA3.out.trans (hb.mono hbv3))
    clear hb
    go_wp2_with fail
    go_ret
    exact ⟨rfl, by rw [Hbw.out]; exact HE.out⟩
end Go.Proofs.YteccghdegckjhaaGreatDoor
