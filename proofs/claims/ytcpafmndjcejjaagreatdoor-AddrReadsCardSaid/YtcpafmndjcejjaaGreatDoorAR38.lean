/-
  The law AddrReads: walked. Condition: the variables that the functions read.
-/
import Derived.Test.YtcpafmndjcejjaaGreatDoorAR36
import Derived.Test.YtcpafmndjcejjaaGreatDoorAR37
import Derived.Test.YtcpafmndjcejjaaGreatDoorAR4
import Derived.Laws.StructEq
set_option linter.unusedVariables false
namespace Go.Proofs.YtcpafmndjcejjaaGreatDoor
open Go.RowKit Go Go.Sort
set_option linter.unusedVariables false

theorem Gen.toBelowR {b m : Nat} {w u v : World} (h : Gen b u v m) (hw : Below w.heap.size w u) (hb : w.heap.size ≤ b) : Below w.heap.size w v :=
  ⟨h.g.os.trans hw.os, h.g.tape.trans hw.tape, h.g.output.trans hw.output, Nat.le_trans hw.size h.g.size, fun i hi => (h.g.block i (Nat.lt_of_lt_of_le hi hw.size) (by intro e; injection e; omega)).trans (hw.block i hi)⟩
theorem lsV_form (R : Option (Bool × Nat × Nat)) : ∃ (x : Bool) (h l e : Int), lsV R = .tuple #[.agg #[.bool x, .int .u64 h, .int .u64 l], .int .i64 e] := by
  rcases R with _ | ⟨x, h, l⟩
  · exact ⟨false, 0, 0, 9, rfl⟩
  · exact ⟨x, h, l, 0, rfl⟩
theorem equalIn_addrQ (d : Nat) (w : World) (a : Bool) (b c : Int) (a2 : Bool) (b2 c2 : Int) : (Op.equalIn (d + 2) 29 (.agg #[.bool a, .int .u64 b, .int .u64 c]) (.agg #[.bool a2, .int .u64 b2, .int .u64 c2])).run Tryz.prog w = .ok (a == a2 && (b == b2 && c == c2)) w := by
  have u2 := Tryz.underlying4
  have a2' := Tryz.isAgg4
  have z2 := Tryz.sizeOf4
  have u3 := Tryz.underlying27
  have a3 := Tryz.isAgg27
  have z3 := Tryz.sizeOf27
  have hS5 : Tryz.prog.underlying 29 = some (.struct (Tryz.prog.fieldsOf 29)) := by kernel_rfl
  have hp5 : Tryz.prog.stoodInHeld 29 = false := by kernel_rfl
  rw [run_equalIn_agg w (d + 1) 29 _ _ hS5 hp5]
  simp only [Program.fieldsOf, Tryz.underlying29]
  go_simp
  cases h1 : (a == a2) <;> cases h2 : (b == b2) <;> cases h3 : (c == c2) <;> simp_all
theorem eqlA_self (a : Bool) (b c : Int) (w : World) : (binOp .eql 29 (.agg #[.bool a, .int .u64 b, .int .u64 c]) (.agg #[.bool a, .int .u64 b, .int .u64 c])).run Tryz.prog w = .ok (.bool true) w := by
  have h := equalIn_addrQ 9998 w a b c a b c
  simp only [binOp]
  simp [Op.equal, Op.maxDepth, h]
set_option maxRecDepth 100000 in
set_option maxHeartbeats 4000000 in
theorem law_AddrReads (ad : Option Addr) (n c : Nat) (w : World) (h : LawArg w ad n) (hv : Vr w) :
    Calls Tryz.prog 3 #[.slice ad n c] w (Ret (.bool true) w) := by
  have hS := LawArg.strm (c := c) h
  have HB0 : Hid (Below w.heap.size w (w.alloc (.cells #[.slice ad n c, .int .i64 0] 25 (0, 0)))) := Lib.hid (below_alloc (Below.refl _ _) _)
  have hblt : w.heap.size < (w.alloc (.cells #[.slice ad n c, .int .i64 0] 25 (0, 0))).heap.size := hS.lt
  have HS := Lib.hid hS
  have HVw : Hid (∀ wx, Below w.heap.size w wx → Vr wx) := Lib.hid fun wx hb => hv.below hb
  clear h hS hv
  go_enter Tryz.func3, Tryz.ntmps3
  go_wp2_with fail
  generalize w.alloc (.cells #[.slice ad n c, .int .i64 0] 25 (0, 0)) = w0 at *
  obtain ⟨b, hbw⟩ : ∃ b, w.heap.size = b := ⟨_, rfl⟩
  rw [hbw] at hblt HS HB0 HVw ⊢
  have Hbw := Lib.hid hbw
  clear hbw
  have HTb : Hid (∀ w', (∃ k, Gen b w0 w' k) → Tabs w') := Lib.hid fun w' ⟨k, hg⟩ => (HVw.out w' (by
    have := Gen.toBelowR (w := w) hg (by rw [Hbw.out]; exact HB0.out) (by rw [Hbw.out]; exact Nat.le_refl _)
    rwa [Hbw.out] at this)).tb
  refine (addrString_gen b 0 _ HS.out (by omega) (HTb.out _ ⟨0, Gen.start HS.out⟩) HTb.out).mono ?_
  rintro e w1 ⟨S, rfl, hS, hg⟩
  have HG1 := Lib.hid hg
  have hsl : S.data.toList.length ≤ 1000000 := by
    have : S.data.toList.length = S.size := by rw [Array.length_toList]; rfl
    omega
  have hss : strL S.data.toList = S := strL_of S
  obtain ⟨s, hs⟩ : ∃ q, S.data.toList = q := ⟨_, rfl⟩
  rw [hs] at hsl hss
  subst hss
  have HB1 : Hid (Below b w w1) := Lib.hid (by
    have := Gen.toBelowR (w := w) hg (by rw [Hbw.out]; exact HB0.out) (by rw [Hbw.out]; exact Nat.le_refl _)
    rwa [Hbw.out] at this)
  have hbw1 : b ≤ w1.heap.size := by have := hg.s.lt; omega
  clear hg HG1 HS HB0 hs hS HTb
  obtain ⟨p0, p1, p2, pe, hp⟩ := lsV_form (parseF s)
  obtain ⟨l0, l1, l2, le, hl⟩ := lsV_form (looseF s)
  have HC1 := Lib.hid fun wx hv => parse_any s wx hv hsl
  have HC2 := Lib.hid fun wx hv => loose_any s wx hv hsl
  have HC3 := Lib.hid fun wx hv => addrParse_any s wx hv hsl
  have HC4 := Lib.hid fun wx hv => addrLoose_any s wx hv hsl
  simp only [hp] at HC1 HC3
  simp only [hl] at HC2 HC4
  generalize strL s = S at *
  clear hp hl hsl
  have HCx := Lib.hid (HC1.out _ (HVw.out _ HB1.out))
  go_wp2_with fail
  refine HCx.out.mono ?_
  rintro e v0 ⟨rfl, hb⟩
  have HA0 : Hid (Below b w v0) := Lib.hid (HB1.out.trans (hb.mono hbw1))
  have hbx0 : b ≤ v0.heap.size := Nat.le_trans hbw1 hb.size
  clear hb HCx HB1
  have HK0 : Hid (Blk (v0.alloc (.cells #[.bool p0, .int .u64 p1, .int .u64 p2] 29 (0, 0))) v0.heap.size 29 #[.bool p0, .int .u64 p1, .int .u64 p2]) := Lib.hid (Blk.new v0 _ _)
  have HB2 : Hid (Below b w (v0.alloc (.cells #[.bool p0, .int .u64 p1, .int .u64 p2] 29 (0, 0)))) := Lib.hid (HA0.out.alloc hbx0 _)
  have hbu0 : b ≤ (v0.alloc (.cells #[.bool p0, .int .u64 p1, .int .u64 p2] 29 (0, 0))).heap.size := HB2.out.size |> fun h => by have := hbx0; simp; omega
  go_upto_region 4 with fail
  generalize v0.alloc (.cells #[.bool p0, .int .u64 p1, .int .u64 p2] 29 (0, 0)) = u0 at *
  generalize v0.heap.size = k0 at *
  clear HA0
  have HCx := Lib.hid (HC2.out _ (HVw.out _ HB2.out))
  go_wp2_with fail
  refine HCx.out.mono ?_
  rintro e v1 ⟨rfl, hb⟩
  have HA1 : Hid (Below b w v1) := Lib.hid (HB2.out.trans (hb.mono hbu0))
  have hbx1 : b ≤ v1.heap.size := Nat.le_trans hbu0 hb.size
  have HK0 := Lib.hid (HK0.out.below hb HK0.out.lt)
  clear hb HCx HB2
  have HK1 : Hid (Blk (v1.alloc (.cells #[.bool l0, .int .u64 l1, .int .u64 l2] 29 (0, 0))) v1.heap.size 29 #[.bool l0, .int .u64 l1, .int .u64 l2]) := Lib.hid (Blk.new v1 _ _)
  have HB3 : Hid (Below b w (v1.alloc (.cells #[.bool l0, .int .u64 l1, .int .u64 l2] 29 (0, 0)))) := Lib.hid (HA1.out.alloc hbx1 _)
  have HK0 := Lib.hid (HK0.out.alloc (.cells #[.bool l0, .int .u64 l1, .int .u64 l2] 29 (0, 0)))
  have hbu1 : b ≤ (v1.alloc (.cells #[.bool l0, .int .u64 l1, .int .u64 l2] 29 (0, 0))).heap.size := HB3.out.size |> fun h => by have := hbx1; simp; omega
  go_upto_region 5 with fail
  generalize v1.alloc (.cells #[.bool l0, .int .u64 l1, .int .u64 l2] 29 (0, 0)) = u1 at *
  generalize v1.heap.size = k1 at *
  clear HA1
  have HCx := Lib.hid (HC3.out _ (HVw.out _ HB3.out))
  go_wp2_with fail
  refine HCx.out.mono ?_
  rintro e v2 ⟨rfl, hb⟩
  have HA2 : Hid (Below b w v2) := Lib.hid (HB3.out.trans (hb.mono hbu1))
  have hbx2 : b ≤ v2.heap.size := Nat.le_trans hbu1 hb.size
  have HK0 := Lib.hid (HK0.out.below hb HK0.out.lt)
  have HK1 := Lib.hid (HK1.out.below hb HK1.out.lt)
  clear hb HCx HB3
  have HK2 : Hid (Blk (v2.alloc (.cells #[.bool p0, .int .u64 p1, .int .u64 p2] 29 (0, 0))) v2.heap.size 29 #[.bool p0, .int .u64 p1, .int .u64 p2]) := Lib.hid (Blk.new v2 _ _)
  have HB4 : Hid (Below b w (v2.alloc (.cells #[.bool p0, .int .u64 p1, .int .u64 p2] 29 (0, 0)))) := Lib.hid (HA2.out.alloc hbx2 _)
  have HK0 := Lib.hid (HK0.out.alloc (.cells #[.bool p0, .int .u64 p1, .int .u64 p2] 29 (0, 0)))
  have HK1 := Lib.hid (HK1.out.alloc (.cells #[.bool p0, .int .u64 p1, .int .u64 p2] 29 (0, 0)))
  have hbu2 : b ≤ (v2.alloc (.cells #[.bool p0, .int .u64 p1, .int .u64 p2] 29 (0, 0))).heap.size := HB4.out.size |> fun h => by have := hbx2; simp; omega
  go_upto_region 6 with fail
  generalize v2.alloc (.cells #[.bool p0, .int .u64 p1, .int .u64 p2] 29 (0, 0)) = u2 at *
  generalize v2.heap.size = k2 at *
  clear HA2
  have HCx := Lib.hid (HC4.out _ (HVw.out _ HB4.out))
  go_wp2_with fail
  refine HCx.out.mono ?_
  rintro e v3 ⟨rfl, hb⟩
  have HA3 : Hid (Below b w v3) := Lib.hid (HB4.out.trans (hb.mono hbu2))
  have hbx3 : b ≤ v3.heap.size := Nat.le_trans hbu2 hb.size
  have HK0 := Lib.hid (HK0.out.below hb HK0.out.lt)
  have HK1 := Lib.hid (HK1.out.below hb HK1.out.lt)
  have HK2 := Lib.hid (HK2.out.below hb HK2.out.lt)
  clear hb HCx HB4
  have HK3 : Hid (Blk (v3.alloc (.cells #[.bool l0, .int .u64 l1, .int .u64 l2] 29 (0, 0))) v3.heap.size 29 #[.bool l0, .int .u64 l1, .int .u64 l2]) := Lib.hid (Blk.new v3 _ _)
  have HB5 : Hid (Below b w (v3.alloc (.cells #[.bool l0, .int .u64 l1, .int .u64 l2] 29 (0, 0)))) := Lib.hid (HA3.out.alloc hbx3 _)
  have HK0 := Lib.hid (HK0.out.alloc (.cells #[.bool l0, .int .u64 l1, .int .u64 l2] 29 (0, 0)))
  have HK1 := Lib.hid (HK1.out.alloc (.cells #[.bool l0, .int .u64 l1, .int .u64 l2] 29 (0, 0)))
  have HK2 := Lib.hid (HK2.out.alloc (.cells #[.bool l0, .int .u64 l1, .int .u64 l2] 29 (0, 0)))
  have hbu3 : b ≤ (v3.alloc (.cells #[.bool l0, .int .u64 l1, .int .u64 l2] 29 (0, 0))).heap.size := HB5.out.size |> fun h => by have := hbx3; simp; omega
  go_upto_region 7 with fail
  generalize v3.alloc (.cells #[.bool l0, .int .u64 l1, .int .u64 l2] 29 (0, 0)) = u3 at *
  generalize v3.heap.size = k3 at *
  clear HA3
  have a0 := HK0.out.cell 0
  have b0 := HK0.out.cell 1
  have c0 := HK0.out.cell 2
  simp at a0 b0 c0
  have a1 := HK1.out.cell 0
  have b1 := HK1.out.cell 1
  have c1 := HK1.out.cell 2
  simp at a1 b1 c1
  have a2 := HK2.out.cell 0
  have b2 := HK2.out.cell 1
  have c2 := HK2.out.cell 2
  simp at a2 b2 c2
  have a3 := HK3.out.cell 0
  have b3 := HK3.out.cell 1
  have c3 := HK3.out.cell 2
  simp at a3 b3 c3
  have hAd := Lib.hid fun wx => addressed_any wx
  have e1 := eqlA_self
  go_wp2_with fail
  refine (hAd.out _).mono ?_
  rintro e z ⟨rfl, hb⟩
  have HE : Hid (Below b w z) := Lib.hid (HB5.out.trans (hb.mono hbu3))
  clear hb
  go_wp2_with fail
  go_ret
  exact ⟨rfl, by rw [Hbw.out]; exact HE.out⟩
end Go.Proofs.YtcpafmndjcejjaaGreatDoor
