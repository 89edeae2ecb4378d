/-
  Prefixes of the program: addr.Last, Contains, Inside, Common, checkPrefixes.
-/
import Derived.Test.YtaamonhhclffcaaDoorPB1
import Derived.Test.YtaamonhhclffcaaDoorSite
namespace Go.Proofs.YtaamonhhclffcaaDoor
open Go.RowKit Go
set_option linter.unusedVariables false

theorem pFault_nat {six : Bool} {hi lo : Nat} {bits : Int} (h : pFault six hi lo bits = 0) : ∃ n : Nat, bits = (n : Int) ∧ n ≤ lenN six := by
  obtain ⟨_, h1, h2⟩ := pFault_zero h
  obtain ⟨n, rfl⟩ := Int.eq_ofNat_of_zero_le h1
  exact ⟨n, rfl, by omega⟩
theorem pFault_pok {six : Bool} {hi lo n : Nat} (h : pFault six hi lo (n : Int) = 0) (h1 : U64N hi) (h2 : U64N lo) : POK six hi lo n := by
  obtain ⟨ha, _, hb⟩ := pFault_zero h
  refine ⟨⟨h1, h2, fun e => ?_⟩, by omega, ?_⟩
  · subst e
    obtain ⟨h3, h4⟩ := aFault_four ha
    exact ⟨h3, h4⟩
  · unfold pFault at h
    rw [if_neg (by rw [ha]; decide)] at h
    by_cases h3 : outB (n : Int) 0 (lenN six : Nat) = true
    · rw [if_pos h3] at h; cases h
    · rw [if_neg h3, Int.toNat_natCast] at h
      by_cases h4 : mHi six hi n ≠ hi ∨ mLo six lo n ≠ lo
      · rw [if_pos h4] at h; cases h
      · omega
theorem aFault_ok {six : Bool} {hi lo : Nat} (h : aFault six (hi : Int) (lo : Int) = 0) (h1 : U64N hi) (h2 : U64N lo) : AOK six hi lo :=
  ⟨h1, h2, fun e => by subst e; exact aFault_four h⟩

def lastR (six : Bool) (hi lo : Nat) (bits : Int) : Array Value := if pFault six hi lo bits = 0 then #[.bool six, .int .u64 ((fHi six hi bits.toNat : Nat) : Int), .int .u64 ((fLo six lo bits.toNat : Nat) : Int)] else #[.bool false, .int .u64 0, .int .u64 0]
set_option maxRecDepth 100000 in
set_option maxHeartbeats 1000000 in
theorem aLast_any (six : Bool) (hi lo : Nat) (bits : Int) (w : World) (h1 : U64N hi) (h2 : U64N lo) :
    Calls Tryd.prog 28 #[vP six hi lo bits] w (Ret (.tuple #[.agg (lastR six hi lo bits), .int .i64 (pFault six hi lo bits)]) w) := by
  have HC := Lib.hid fun wx => checkPrefix_any six hi lo bits wx h1 h2
  have HN := Lib.hid (@pFault_nat six hi lo bits)
  have HL := Lib.hid fun (n : Nat) wx (hn : n ≤ lenN six) => spanLast_any six hi lo n wx h1 h2 hn
  have HV : Hid (lastR six hi lo bits = if pFault six hi lo bits = 0 then #[.bool six, .int .u64 ((fHi six hi bits.toNat : Nat) : Int), .int .u64 ((fLo six lo bits.toNat : Nat) : Int)] else #[.bool false, .int .u64 0, .int .u64 0]) := Lib.hid rfl
  generalize lastR six hi lo bits = R at *
  generalize pFault six hi lo bits = pf at *
  unfold vP at HL ⊢
  unfold vA at HL
  have HP' : Blk ((w.alloc (.cells #[.bool six, .int .u64 (hi : Int), .int .u64 (lo : Int), .int .i64 bits] 31 (0, 0))).alloc (.cells #[.bool false, .int .u64 0, .int .u64 0] 29 (0, 0))) (w.heap.size) 31 #[.bool six, .int .u64 (hi : Int), .int .u64 (lo : Int), .int .i64 bits] := by
    have this := Blk.new w 31 #[.bool six, .int .u64 (hi : Int), .int .u64 (lo : Int), .int .i64 bits]
    exact (this.alloc _)
  have HP := Lib.hid HP'
  clear HP'
  have HR' : Blk ((w.alloc (.cells #[.bool six, .int .u64 (hi : Int), .int .u64 (lo : Int), .int .i64 bits] 31 (0, 0))).alloc (.cells #[.bool false, .int .u64 0, .int .u64 0] 29 (0, 0))) (w.heap.size + 1) 29 #[.bool false, .int .u64 0, .int .u64 0] := by
    have this := Blk.new (w.alloc (.cells #[.bool six, .int .u64 (hi : Int), .int .u64 (lo : Int), .int .i64 bits] 31 (0, 0))) 29 #[.bool false, .int .u64 0, .int .u64 0]
    rw [World.size_alloc] at this
    exact this
  have HR := Lib.hid HR'
  clear HR'
  have HB : Hid (Below w.heap.size w ((w.alloc (.cells #[.bool six, .int .u64 (hi : Int), .int .u64 (lo : Int), .int .i64 bits] 31 (0, 0))).alloc (.cells #[.bool false, .int .u64 0, .int .u64 0] 29 (0, 0)))) := Lib.hid (below_alloc (below_alloc (Below.refl _ _) _) _)
  go_enter Tryd.func28, Tryd.ntmps28
  go_upto_region 1 with fail
  generalize ((w.alloc (.cells #[.bool six, .int .u64 (hi : Int), .int .u64 (lo : Int), .int .i64 bits] 31 (0, 0))).alloc (.cells #[.bool false, .int .u64 0, .int .u64 0] 29 (0, 0))) = w1 at *
  have p0 := HP.out.cell 0
  have p1 := HP.out.cell 1
  have p2 := HP.out.cell 2
  have p3 := HP.out.cell 3
  simp at p0 p1 p2 p3
  go_wp2_with fail
  refine (HC.out _).mono ?_
  rintro e w2 ⟨rfl, hb⟩
  have HP2 := Lib.hid (HP.out.below hb HP.out.lt)
  have HR2 := Lib.hid (HR.out.below hb HR.out.lt)
  have HB2 := Lib.hid (HB.out.trans (hb.mono HB.out.size))
  clear hb HP HR HB
  clear p0 p1 p2 p3 HC
  have p0 := HP2.out.cell 0
  have p1 := HP2.out.cell 1
  have p2 := HP2.out.cell 2
  have p3 := HP2.out.cell 3
  simp at p0 p1 p2 p3
  have r0 := HR2.out.cell 0
  have r1 := HR2.out.cell 1
  have r2 := HR2.out.cell 2
  have rf := HR2.out.free
  simp at r0 r1 r2
  by_cases hz : pf = 0
  · obtain ⟨n, rfl, hn⟩ := HN.out hz
    have hV := HV.out
    rw [if_pos hz, Int.toNat_natCast] at hV
    have HL2 := Lib.hid fun wx => HL.out n wx hn
    clear HV HN HL hn
    generalize fHi six hi n = mh at *
    generalize fLo six lo n = ml at *
    subst hz hV
    go_wp2_with fail
    refine (HL2.out _).mono ?_
    rintro e w3 ⟨rfl, hb⟩
    have HR3 := Lib.hid (HR2.out.below hb HR2.out.lt)
    have HB3 := Lib.hid (HB2.out.trans (hb.mono HB2.out.size))
    clear hb HR2 HB2
    clear p0 p1 p2 p3 r0 r1 r2 rf HL2 HP2
    have r0 := HR3.out.cell 0
    have r1 := HR3.out.cell 1
    have r2 := HR3.out.cell 2
    have rf := HR3.out.free
    simp at r0 r1 r2
    go_wp2_with fail
    refine bodyPost_ret (v := .tuple #[.agg #[.bool six, .int .u64 (mh : Int), .int .u64 (ml : Int)], .int .i64 0]) (by simp [results, Tryd.results28, go_sem, r0, r1, r2]) rfl ⟨rfl, ?_⟩
    repeat refine Below.setCell ?_ (by first | (simp; omega) | simp) _
    exact HB3.out
  · have hV := HV.out
    rw [if_neg hz] at hV
    subst hV
    have hz2 : (pf != 0) = true := by simpa using hz
    clear HP2 HN HL HV
    go_wp2_with fail
    refine bodyPost_ret (v := .tuple #[.agg #[.bool false, .int .u64 0, .int .u64 0], .int .i64 pf]) (by simp [results, Tryd.results28, go_sem, r0, r1, r2]) rfl ⟨rfl, ?_⟩
    repeat refine Below.setCell ?_ (by first | (simp; omega) | simp) _
    exact HB2.out

def conF (six : Bool) (hi lo : Nat) (bits : Int) (s2 : Bool) (h2 l2 : Nat) : Int := if pFault six hi lo bits ≠ 0 then pFault six hi lo bits else aFault s2 h2 l2
def conR (six : Bool) (hi lo : Nat) (bits : Int) (s2 : Bool) (h2 l2 : Nat) : Bool := if conF six hi lo bits s2 h2 l2 = 0 then conB six hi lo bits.toNat s2 h2 l2 else false
set_option maxRecDepth 100000 in
set_option maxHeartbeats 1000000 in
theorem aContains_any (six : Bool) (hi lo : Nat) (bits : Int) (s2 : Bool) (h2 l2 : Nat) (w : World) (b1 : U64N hi) (b2 : U64N lo) (b3 : U64N h2) (b4 : U64N l2) :
    Calls Tryd.prog 29 #[vP six hi lo bits, vA s2 h2 l2] w (Ret (.tuple #[.bool (conR six hi lo bits s2 h2 l2), .int .i64 (conF six hi lo bits s2 h2 l2)]) w) := by
  have HC := Lib.hid fun wx => checkPrefix_any six hi lo bits wx b1 b2
  have HK := Lib.hid fun wx => checkAddr_any s2 h2 l2 wx ⟨by omega, by unfold U64N at b3; omega⟩ ⟨by omega, by unfold U64N at b4; omega⟩
  have HN := Lib.hid (@pFault_nat six hi lo bits)
  have HL := Lib.hid fun (n : Nat) wx (hn : n ≤ lenN six) => spanContains_any six hi lo n s2 h2 l2 wx b3 b4 hn
  have HF : Hid (conF six hi lo bits s2 h2 l2 = if pFault six hi lo bits ≠ 0 then pFault six hi lo bits else aFault s2 h2 l2) := Lib.hid rfl
  have HV : Hid (conR six hi lo bits s2 h2 l2 = if conF six hi lo bits s2 h2 l2 = 0 then conB six hi lo bits.toNat s2 h2 l2 else false) := Lib.hid rfl
  generalize conR six hi lo bits s2 h2 l2 = R at *
  generalize conF six hi lo bits s2 h2 l2 = F at *
  generalize pFault six hi lo bits = pf at *
  generalize aFault s2 (h2 : Int) (l2 : Int) = af at *
  unfold vP at HL ⊢
  unfold vA at HL ⊢
  unfold vAddr at HK
  have HP' : Blk ((w.alloc (.cells #[.bool six, .int .u64 (hi : Int), .int .u64 (lo : Int), .int .i64 bits] 31 (0, 0))).alloc (.cells #[.bool s2, .int .u64 (h2 : Int), .int .u64 (l2 : Int)] 29 (0, 0))) (w.heap.size) 31 #[.bool six, .int .u64 (hi : Int), .int .u64 (lo : Int), .int .i64 bits] := by
    have this := Blk.new w 31 #[.bool six, .int .u64 (hi : Int), .int .u64 (lo : Int), .int .i64 bits]
    exact (this.alloc _)
  have HP := Lib.hid HP'
  clear HP'
  have HA' : Blk ((w.alloc (.cells #[.bool six, .int .u64 (hi : Int), .int .u64 (lo : Int), .int .i64 bits] 31 (0, 0))).alloc (.cells #[.bool s2, .int .u64 (h2 : Int), .int .u64 (l2 : Int)] 29 (0, 0))) (w.heap.size + 1) 29 #[.bool s2, .int .u64 (h2 : Int), .int .u64 (l2 : Int)] := by
    have this := Blk.new (w.alloc (.cells #[.bool six, .int .u64 (hi : Int), .int .u64 (lo : Int), .int .i64 bits] 31 (0, 0))) 29 #[.bool s2, .int .u64 (h2 : Int), .int .u64 (l2 : Int)]
    rw [World.size_alloc] at this
    exact this
  have HA := Lib.hid HA'
  clear HA'
  have HB : Hid (Below w.heap.size w ((w.alloc (.cells #[.bool six, .int .u64 (hi : Int), .int .u64 (lo : Int), .int .i64 bits] 31 (0, 0))).alloc (.cells #[.bool s2, .int .u64 (h2 : Int), .int .u64 (l2 : Int)] 29 (0, 0)))) := Lib.hid (below_alloc (below_alloc (Below.refl _ _) _) _)
  go_enter Tryd.func29, Tryd.ntmps29
  go_upto_region 1 with fail
  generalize ((w.alloc (.cells #[.bool six, .int .u64 (hi : Int), .int .u64 (lo : Int), .int .i64 bits] 31 (0, 0))).alloc (.cells #[.bool s2, .int .u64 (h2 : Int), .int .u64 (l2 : Int)] 29 (0, 0))) = w1 at *
  have p0 := HP.out.cell 0
  have p1 := HP.out.cell 1
  have p2 := HP.out.cell 2
  have p3 := HP.out.cell 3
  simp at p0 p1 p2 p3
  go_wp2_with fail
  refine (HC.out _).mono ?_
  rintro e w2 ⟨rfl, hb⟩
  have HP2 := Lib.hid (HP.out.below hb HP.out.lt)
  have HA2 := Lib.hid (HA.out.below hb HA.out.lt)
  have HB2 := Lib.hid (HB.out.trans (hb.mono HB.out.size))
  clear hb HP HA HB
  clear p0 p1 p2 p3 HC
  have p0 := HP2.out.cell 0
  have p1 := HP2.out.cell 1
  have p2 := HP2.out.cell 2
  have p3 := HP2.out.cell 3
  simp at p0 p1 p2 p3
  have a0 := HA2.out.cell 0
  have a1 := HA2.out.cell 1
  have a2 := HA2.out.cell 2
  simp at a0 a1 a2
  by_cases hz : pf = 0
  · obtain ⟨n, rfl, hn⟩ := HN.out hz
    have hF := HF.out
    rw [if_neg (by omega)] at hF
    subst hz
    have HL2 := Lib.hid fun wx => HL.out n wx hn
    have HV2 : Hid (R = if af = 0 then conB six hi lo n s2 h2 l2 else false) := Lib.hid (by rw [← hF]; have := HV.out; rwa [Int.toNat_natCast] at this)
    subst hF
    clear HV HN HL hn
    go_wp2_with fail
    refine (HK.out _).mono ?_
    rintro e w3 ⟨rfl, o, rfl⟩
    have HP3 := Lib.hid (HP2.out.alloc o)
    have HA3 := Lib.hid (HA2.out.alloc o)
    have HB3 := Lib.hid (below_alloc HB2.out o)
    clear p0 p1 p2 p3 a0 a1 a2 HP2 HA2 HB2
    generalize w2.alloc o = w3 at *
    have p0 := HP3.out.cell 0
    have p1 := HP3.out.cell 1
    have p2 := HP3.out.cell 2
    have p3 := HP3.out.cell 3
    simp at p0 p1 p2 p3
    have a0 := HA3.out.cell 0
    have a1 := HA3.out.cell 1
    have a2 := HA3.out.cell 2
    simp at a0 a1 a2
    by_cases hz2 : F = 0
    · have hV := HV2.out
      rw [if_pos hz2] at hV
      subst hz2
      rw [← hV] at HL2
      clear hV HV2 HF
      go_wp2_with fail
      refine (HL2.out _).mono ?_
      rintro e w4 ⟨rfl, hb⟩
      have HB4 := Lib.hid (HB3.out.trans (hb.mono HB3.out.size))
      clear hb HB3
      go_wp2_with fail
      go_ret2
      exact ⟨rfl, HB4.out⟩
    · have hV := HV2.out
      rw [if_neg hz2] at hV
      subst hV
      have hz3 : (F != 0) = true := by simpa using hz2
      clear HV2 HF HL2
      go_wp2_with fail
      go_ret2
      exact ⟨rfl, HB3.out⟩
  · have hF := HF.out
    rw [if_pos hz] at hF
    have hV := HV.out
    rw [if_neg (by omega)] at hV
    subst hF hV
    have hz2 : (F != 0) = true := by simpa using hz
    clear HN HL HV HF
    go_wp2_with fail
    go_ret2
    exact ⟨rfl, HB2.out⟩

/-- a row of two prefixes in memory -/
def RdTwo (w : World) (g : Nat) (X Y : Array Value) : Prop := Blk w g 31 (X ++ Y)
def twoF (a b : Int) : Int := if a ≠ 0 then a else b
set_option maxRecDepth 100000 in
set_option maxHeartbeats 1000000 in
theorem checkTwo_any (s1 : Bool) (h1 l1 : Nat) (n1 : Int) (s2 : Bool) (h2 l2 : Nat) (n2 : Int) (g c : Nat) (w : World) (b1 : U64N h1) (b2 : U64N l1) (b3 : U64N h2) (b4 : U64N l2)
    (hr : Blk w g 31 #[.bool s1, .int .u64 (h1 : Int), .int .u64 (l1 : Int), .int .i64 n1, .bool s2, .int .u64 (h2 : Int), .int .u64 (l2 : Int), .int .i64 n2]) :
    Calls Tryd.prog 59 #[.slice (some ⟨g, 0, none⟩) 2 c] w (Ret (.int .i64 (twoF (pFault s1 h1 l1 n1) (pFault s2 h2 l2 n2))) w) := by
  have HC1 := Lib.hid fun wx => checkPrefix_any s1 h1 l1 n1 wx b1 b2
  have HC2 := Lib.hid fun wx => checkPrefix_any s2 h2 l2 n2 wx b3 b4
  generalize pFault s1 h1 l1 n1 = f1 at *
  generalize pFault s2 h2 l2 n2 = f2 at *
  have HR := Lib.hid hr
  have hlt := hr.lt
  clear hr
  have r0 := HR.out.cell 0
  have r1 := HR.out.cell 1
  have r2 := HR.out.cell 2
  have r3 := HR.out.cell 3
  have r4 := HR.out.cell 4
  have r5 := HR.out.cell 5
  have r6 := HR.out.cell 6
  have r7 := HR.out.cell 7
  simp at r0 r1 r2 r3 r4 r5 r6 r7
  have hF : ∃ F, twoF f1 f2 = F := ⟨_, rfl⟩
  obtain ⟨F, hF⟩ := hF
  rw [hF]
  have HF := Lib.hid hF
  clear hF
  go_enter Tryd.func59, Tryd.ntmps59
  go_wp2
  refine wp_loop_rounds 3 ?_
  rw [rounds_succ]
  go_wp2_with fail
  refine (HC1.out _).mono ?_
  rintro e w2 ⟨rfl, hb⟩
  have HB2 : Hid (Below w.heap.size w w2) := Lib.hid ((below_alloc (Below.refl _ _) _).trans (hb.mono (by simp)))
  have HR2 := Lib.hid (HR.out.below HB2.out hlt)
  clear hb r0 r1 r2 r3 r4 r5 r6 r7 HC1
  have r0 := HR2.out.cell 0
  have r1 := HR2.out.cell 1
  have r2 := HR2.out.cell 2
  have r3 := HR2.out.cell 3
  have r4 := HR2.out.cell 4
  have r5 := HR2.out.cell 5
  have r6 := HR2.out.cell 6
  have r7 := HR2.out.cell 7
  simp at r0 r1 r2 r3 r4 r5 r6 r7
  by_cases hz : f1 = 0
  · have hF2 : f2 = F := by have := HF.out; unfold twoF at this; rw [if_neg (by omega)] at this; exact this
    subst hz hF2
    clear HF
    go_wp2_with (rw [rounds_succ])
    refine (HC2.out _).mono ?_
    rintro e w3 ⟨rfl, hb⟩
    have HB3 : Hid (Below w.heap.size w w3) := Lib.hid ((below_alloc HB2.out _).trans (hb.mono (by have := HB2.out.size; simp; omega)))
    clear hb r0 r1 r2 r3 r4 r5 r6 r7 HR2
    by_cases hz2 : f2 = 0
    · subst hz2
      go_wp2_with (rw [rounds_succ])
      go_ret
      exact ⟨rfl, HB3.out⟩
    · have hz3 : (f2 != 0) = true := by simpa using hz2
      go_wp2_with (rw [rounds_succ])
      go_ret
      exact ⟨rfl, HB3.out⟩
  · have hF2 : f1 = F := by have := HF.out; unfold twoF at this; rw [if_pos hz] at this; exact this
    subst hF2
    have hz3 : (f1 != 0) = true := by simpa using hz
    clear HF
    go_wp2_with (rw [rounds_succ])
    go_ret
    exact ⟨rfl, HB2.out⟩
end Go.Proofs.YtaamonhhclffcaaDoor
