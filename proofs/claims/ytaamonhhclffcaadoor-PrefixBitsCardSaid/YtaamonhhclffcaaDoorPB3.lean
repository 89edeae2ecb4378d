/-
  Prefixes of the program: addr.Inside, Common.
-/
import Derived.Test.YtaamonhhclffcaaDoorPB2
namespace Go.Proofs.YtaamonhhclffcaaDoor
open Go.RowKit Go
set_option linter.unusedVariables false

theorem blk_two (w : World) (cs : Array Value) : Blk (w.alloc (.cells cs 31 (0, 0))) w.heap.size 31 cs := Blk.new w _ _

def insF (six : Bool) (hi lo : Nat) (bits : Int) (s2 : Bool) (h2 l2 : Nat) (b2 : Int) : Int := twoF (pFault six hi lo bits) (pFault s2 h2 l2 b2)
def insR (six : Bool) (hi lo : Nat) (bits : Int) (s2 : Bool) (h2 l2 : Nat) (b2 : Int) : Bool := if insF six hi lo bits s2 h2 l2 b2 = 0 then insB six hi lo bits.toNat s2 h2 l2 b2.toNat else false
theorem twoF_zero {a b : Int} (h : twoF a b = 0) : a = 0 ∧ b = 0 := by
  unfold twoF at h
  by_cases h1 : a ≠ 0
  · rw [if_pos h1] at h; exact absurd h h1
  · rw [if_neg h1] at h; exact ⟨by simpa using h1, h⟩
set_option maxRecDepth 100000 in
set_option maxHeartbeats 1000000 in
theorem aInside_any (six : Bool) (hi lo : Nat) (bits : Int) (s2 : Bool) (h2 l2 : Nat) (b2 : Int) (w : World) (a1 : U64N hi) (a2 : U64N lo) (a3 : U64N h2) (a4 : U64N l2) :
    Calls Tryd.prog 30 #[vP six hi lo bits, vP s2 h2 l2 b2] w (Ret (.tuple #[.bool (insR six hi lo bits s2 h2 l2 b2), .int .i64 (insF six hi lo bits s2 h2 l2 b2)]) w) := by
  have HV : Hid (insR six hi lo bits s2 h2 l2 b2 = if insF six hi lo bits s2 h2 l2 b2 = 0 then insB six hi lo bits.toNat s2 h2 l2 b2.toNat else false) := Lib.hid rfl
  have HZ : Hid (insF six hi lo bits s2 h2 l2 b2 = 0 → (∃ n : Nat, bits = (n : Int)) ∧ ∃ m : Nat, b2 = (m : Int) ∧ m ≤ lenN s2) := Lib.hid fun h => by
    obtain ⟨e1, e2⟩ := twoF_zero h
    obtain ⟨n, hn, _⟩ := pFault_nat e1
    obtain ⟨m, hm, hm2⟩ := pFault_nat e2
    exact ⟨⟨n, hn⟩, m, hm, hm2⟩
  have HL := Lib.hid fun (n m : Nat) wx (hm : m ≤ lenN s2) => spanInside_any six hi lo n s2 h2 l2 m wx a1 a2 hm
  obtain ⟨F, hT⟩ : ∃ F, twoF (pFault six hi lo bits) (pFault s2 h2 l2 b2) = F := ⟨_, rfl⟩
  unfold insF at *
  rw [hT] at HV HZ ⊢
  generalize insR six hi lo bits s2 h2 l2 b2 = R at *
  unfold vP at HL ⊢
  have HP' : Blk ((w.alloc (.cells #[.bool six, .int .u64 (hi : Int), .int .u64 (lo : Int), .int .i64 bits] 31 (0, 0))).alloc (.cells #[.bool s2, .int .u64 (h2 : Int), .int .u64 (l2 : Int), .int .i64 b2] 31 (0, 0))) (w.heap.size) 31 #[.bool six, .int .u64 (hi : Int), .int .u64 (lo : Int), .int .i64 bits] := by
    have this := Blk.new w 31 #[.bool six, .int .u64 (hi : Int), .int .u64 (lo : Int), .int .i64 bits]
    exact (this.alloc _)
  have HP := Lib.hid HP'
  clear HP'
  have HQ' : Blk ((w.alloc (.cells #[.bool six, .int .u64 (hi : Int), .int .u64 (lo : Int), .int .i64 bits] 31 (0, 0))).alloc (.cells #[.bool s2, .int .u64 (h2 : Int), .int .u64 (l2 : Int), .int .i64 b2] 31 (0, 0))) (w.heap.size + 1) 31 #[.bool s2, .int .u64 (h2 : Int), .int .u64 (l2 : Int), .int .i64 b2] := by
    have this := Blk.new (w.alloc (.cells #[.bool six, .int .u64 (hi : Int), .int .u64 (lo : Int), .int .i64 bits] 31 (0, 0))) 31 #[.bool s2, .int .u64 (h2 : Int), .int .u64 (l2 : Int), .int .i64 b2]
    rw [World.size_alloc] at this
    exact this
  have HQ := Lib.hid HQ'
  clear HQ'
  have HB : Hid (Below w.heap.size w ((w.alloc (.cells #[.bool six, .int .u64 (hi : Int), .int .u64 (lo : Int), .int .i64 bits] 31 (0, 0))).alloc (.cells #[.bool s2, .int .u64 (h2 : Int), .int .u64 (l2 : Int), .int .i64 b2] 31 (0, 0)))) := Lib.hid (below_alloc (below_alloc (Below.refl _ _) _) _)
  go_enter Tryd.func30, Tryd.ntmps30
  go_upto_region 1 with fail
  generalize ((w.alloc (.cells #[.bool six, .int .u64 (hi : Int), .int .u64 (lo : Int), .int .i64 bits] 31 (0, 0))).alloc (.cells #[.bool s2, .int .u64 (h2 : Int), .int .u64 (l2 : Int), .int .i64 b2] 31 (0, 0))) = w1 at *
  have p0 := HP.out.cell 0
  have p1 := HP.out.cell 1
  have p2 := HP.out.cell 2
  have p3 := HP.out.cell 3
  simp at p0 p1 p2 p3
  have q0 := HQ.out.cell 0
  have q1 := HQ.out.cell 1
  have q2 := HQ.out.cell 2
  have q3 := HQ.out.cell 3
  simp at q0 q1 q2 q3
  have HC := Lib.hid fun wx g (hr : Blk wx g 31 #[.bool six, .int .u64 (hi : Int), .int .u64 (lo : Int), .int .i64 bits, .bool s2, .int .u64 (h2 : Int), .int .u64 (l2 : Int), .int .i64 b2]) => checkTwo_any six hi lo bits s2 h2 l2 b2 g 2 wx a1 a2 a3 a4 hr
  rw [hT] at HC
  clear hT
  go_wp2_with fail
  refine (HC.out _ _ (blk_two w1 _)).mono ?_
  rintro e w2 ⟨rfl, hb⟩
  have HP2 := Lib.hid ((HP.out.alloc (.cells #[.bool six, .int .u64 (hi : Int), .int .u64 (lo : Int), .int .i64 bits, .bool s2, .int .u64 (h2 : Int), .int .u64 (l2 : Int), .int .i64 b2] 31 (0, 0))).below hb (HP.out.alloc _).lt)
  have HQ2 := Lib.hid ((HQ.out.alloc (.cells #[.bool six, .int .u64 (hi : Int), .int .u64 (lo : Int), .int .i64 bits, .bool s2, .int .u64 (h2 : Int), .int .u64 (l2 : Int), .int .i64 b2] 31 (0, 0))).below hb (HQ.out.alloc _).lt)
  have HB2 : Hid (Below w.heap.size w w2) := Lib.hid ((below_alloc HB.out _).trans (hb.mono (by have := HB.out.size; simp; omega)))
  clear hb HP HQ HB p0 p1 p2 p3 q0 q1 q2 q3 HC
  have p0 := HP2.out.cell 0
  have p1 := HP2.out.cell 1
  have p2 := HP2.out.cell 2
  have p3 := HP2.out.cell 3
  simp at p0 p1 p2 p3
  have q0 := HQ2.out.cell 0
  have q1 := HQ2.out.cell 1
  have q2 := HQ2.out.cell 2
  have q3 := HQ2.out.cell 3
  simp at q0 q1 q2 q3
  by_cases hz : F = 0
  · obtain ⟨⟨n, rfl⟩, m, rfl, hm⟩ := HZ.out hz
    have hV := HV.out
    rw [if_pos hz, Int.toNat_natCast, Int.toNat_natCast] at hV
    have HL2 := Lib.hid fun wx => HL.out n m wx hm
    rw [← hV] at HL2
    subst hz
    clear hV HV HZ HL hm
    go_wp2_with fail
    refine (HL2.out _).mono ?_
    rintro e w3 ⟨rfl, hb⟩
    go_wp2_with fail
    go_ret2
    exact ⟨rfl, HB2.out.trans (hb.mono HB2.out.size)⟩
  · have hV := HV.out
    rw [if_neg hz] at hV
    subst hV
    have hz2 : (F != 0) = true := by simpa using hz
    clear HV HZ HL
    go_wp2_with fail
    go_ret2
    exact ⟨rfl, HB2.out⟩

def comF (six : Bool) (hi lo : Nat) (bits : Int) (s2 : Bool) (h2 l2 : Nat) (b2 : Int) : Int := if twoF (pFault six hi lo bits) (pFault s2 h2 l2 b2) ≠ 0 then twoF (pFault six hi lo bits) (pFault s2 h2 l2 b2) else if six ≠ s2 then 10 else 0
def comN (six : Bool) (hi lo : Nat) (bits : Int) (h2 l2 : Nat) (b2 : Int) : Nat := down (sameN six hi lo h2 l2) (min bits.toNat b2.toNat)
def comC (six : Bool) (hi lo : Nat) (N : Nat) : Array Value := #[.bool six, .int .u64 ((mHi six hi N : Nat) : Int), .int .u64 ((mLo six lo N : Nat) : Int), .int .i64 (N : Int)]
def comR (six : Bool) (hi lo : Nat) (bits : Int) (s2 : Bool) (h2 l2 : Nat) (b2 : Int) : Array Value := if comF six hi lo bits s2 h2 l2 b2 = 0 then comC six hi lo (comN six hi lo bits h2 l2 b2) else #[.bool false, .int .u64 0, .int .u64 0, .int .i64 0]
set_option maxRecDepth 100000 in
set_option maxHeartbeats 2000000 in
theorem aCommon_any (six : Bool) (hi lo : Nat) (bits : Int) (s2 : Bool) (h2 l2 : Nat) (b2 : Int) (w : World) (a1 : U64N hi) (a2 : U64N lo) (a3 : U64N h2) (a4 : U64N l2) :
    Calls Tryd.prog 31 #[vP six hi lo bits, vP s2 h2 l2 b2] w (Ret (.tuple #[.agg (comR six hi lo bits s2 h2 l2 b2), .int .i64 (comF six hi lo bits s2 h2 l2 b2)]) w) := by
  have HV : Hid (comR six hi lo bits s2 h2 l2 b2 = if comF six hi lo bits s2 h2 l2 b2 = 0 then comC six hi lo (comN six hi lo bits h2 l2 b2) else #[.bool false, .int .u64 0, .int .u64 0, .int .i64 0]) := Lib.hid rfl
  have HZ : Hid (twoF (pFault six hi lo bits) (pFault s2 h2 l2 b2) = 0 → (∃ n : Nat, bits = (n : Int) ∧ n ≤ lenN six ∧ POK six hi lo n) ∧ ∃ m : Nat, b2 = (m : Int) ∧ m ≤ lenN s2 ∧ POK s2 h2 l2 m) := Lib.hid fun h => by
    obtain ⟨e1, e2⟩ := twoF_zero h
    obtain ⟨n, rfl, hn⟩ := pFault_nat e1
    obtain ⟨m, rfl, hm⟩ := pFault_nat e2
    exact ⟨⟨n, rfl, hn, pFault_pok e1 a1 a2⟩, m, rfl, hm, pFault_pok e2 a3 a4⟩
  have HM1 := Lib.hid fun (n : Nat) wx (hn : n ≤ lenN six) => masked_any six hi lo n wx a1 a2 hn
  have HM2 := Lib.hid fun (n : Nat) wx (hn : n ≤ lenN six) => masked_any six h2 l2 n wx a3 a4 hn
  have HF : Hid (comF six hi lo bits s2 h2 l2 b2 = if twoF (pFault six hi lo bits) (pFault s2 h2 l2 b2) ≠ 0 then twoF (pFault six hi lo bits) (pFault s2 h2 l2 b2) else if six ≠ s2 then 10 else 0) := Lib.hid rfl
  obtain ⟨F, hT⟩ : ∃ F, twoF (pFault six hi lo bits) (pFault s2 h2 l2 b2) = F := ⟨_, rfl⟩
  rw [hT] at HZ HF
  generalize comR six hi lo bits s2 h2 l2 b2 = R at *
  generalize comF six hi lo bits s2 h2 l2 b2 = G at *
  unfold vA at HM1 HM2
  unfold vP
  have HP' : Blk (((w.alloc (.cells #[.bool six, .int .u64 (hi : Int), .int .u64 (lo : Int), .int .i64 bits] 31 (0, 0))).alloc (.cells #[.bool s2, .int .u64 (h2 : Int), .int .u64 (l2 : Int), .int .i64 b2] 31 (0, 0))).alloc (.cells #[.bool false, .int .u64 0, .int .u64 0, .int .i64 0] 31 (0, 0))) (w.heap.size) 31 #[.bool six, .int .u64 (hi : Int), .int .u64 (lo : Int), .int .i64 bits] := by
    have this := Blk.new w 31 #[.bool six, .int .u64 (hi : Int), .int .u64 (lo : Int), .int .i64 bits]
    exact ((this.alloc _).alloc _)
  have HP := Lib.hid HP'
  clear HP'
  have HQ' : Blk (((w.alloc (.cells #[.bool six, .int .u64 (hi : Int), .int .u64 (lo : Int), .int .i64 bits] 31 (0, 0))).alloc (.cells #[.bool s2, .int .u64 (h2 : Int), .int .u64 (l2 : Int), .int .i64 b2] 31 (0, 0))).alloc (.cells #[.bool false, .int .u64 0, .int .u64 0, .int .i64 0] 31 (0, 0))) (w.heap.size + 1) 31 #[.bool s2, .int .u64 (h2 : Int), .int .u64 (l2 : Int), .int .i64 b2] := by
    have this := Blk.new (w.alloc (.cells #[.bool six, .int .u64 (hi : Int), .int .u64 (lo : Int), .int .i64 bits] 31 (0, 0))) 31 #[.bool s2, .int .u64 (h2 : Int), .int .u64 (l2 : Int), .int .i64 b2]
    rw [World.size_alloc] at this
    exact (this.alloc _)
  have HQ := Lib.hid HQ'
  clear HQ'
  have HR' : Blk (((w.alloc (.cells #[.bool six, .int .u64 (hi : Int), .int .u64 (lo : Int), .int .i64 bits] 31 (0, 0))).alloc (.cells #[.bool s2, .int .u64 (h2 : Int), .int .u64 (l2 : Int), .int .i64 b2] 31 (0, 0))).alloc (.cells #[.bool false, .int .u64 0, .int .u64 0, .int .i64 0] 31 (0, 0))) (w.heap.size + 1 + 1) 31 #[.bool false, .int .u64 0, .int .u64 0, .int .i64 0] := by
    have this := Blk.new ((w.alloc (.cells #[.bool six, .int .u64 (hi : Int), .int .u64 (lo : Int), .int .i64 bits] 31 (0, 0))).alloc (.cells #[.bool s2, .int .u64 (h2 : Int), .int .u64 (l2 : Int), .int .i64 b2] 31 (0, 0))) 31 #[.bool false, .int .u64 0, .int .u64 0, .int .i64 0]
    rw [World.size_alloc, World.size_alloc] at this
    exact this
  have HR := Lib.hid HR'
  clear HR'
  have HB : Hid (Below w.heap.size w (((w.alloc (.cells #[.bool six, .int .u64 (hi : Int), .int .u64 (lo : Int), .int .i64 bits] 31 (0, 0))).alloc (.cells #[.bool s2, .int .u64 (h2 : Int), .int .u64 (l2 : Int), .int .i64 b2] 31 (0, 0))).alloc (.cells #[.bool false, .int .u64 0, .int .u64 0, .int .i64 0] 31 (0, 0)))) := Lib.hid (below_alloc (below_alloc (below_alloc (Below.refl _ _) _) _) _)
  go_enter Tryd.func31, Tryd.ntmps31
  go_upto_region 1 with fail
  generalize (((w.alloc (.cells #[.bool six, .int .u64 (hi : Int), .int .u64 (lo : Int), .int .i64 bits] 31 (0, 0))).alloc (.cells #[.bool s2, .int .u64 (h2 : Int), .int .u64 (l2 : Int), .int .i64 b2] 31 (0, 0))).alloc (.cells #[.bool false, .int .u64 0, .int .u64 0, .int .i64 0] 31 (0, 0))) = w1 at *
  have p0 := HP.out.cell 0
  have p1 := HP.out.cell 1
  have p2 := HP.out.cell 2
  have p3 := HP.out.cell 3
  simp at p0 p1 p2 p3
  have q0 := HQ.out.cell 0
  have q1 := HQ.out.cell 1
  have q2 := HQ.out.cell 2
  have q3 := HQ.out.cell 3
  simp at q0 q1 q2 q3
  have HC := Lib.hid fun wx g (hr : Blk wx g 31 #[.bool six, .int .u64 (hi : Int), .int .u64 (lo : Int), .int .i64 bits, .bool s2, .int .u64 (h2 : Int), .int .u64 (l2 : Int), .int .i64 b2]) => checkTwo_any six hi lo bits s2 h2 l2 b2 g 2 wx a1 a2 a3 a4 hr
  rw [hT] at HC
  clear hT
  have r0 := HR.out.cell 0
  have r1 := HR.out.cell 1
  have r2 := HR.out.cell 2
  have r3 := HR.out.cell 3
  have rf := HR.out.free
  simp at r0 r1 r2 r3
  go_wp2_with fail
  refine (HC.out _ _ (blk_two w1 _)).mono ?_
  rintro e w2 ⟨rfl, hb⟩
  have HP2 := Lib.hid ((HP.out.alloc (.cells #[.bool six, .int .u64 (hi : Int), .int .u64 (lo : Int), .int .i64 bits, .bool s2, .int .u64 (h2 : Int), .int .u64 (l2 : Int), .int .i64 b2] 31 (0, 0))).below hb (HP.out.alloc _).lt)
  have HQ2 := Lib.hid ((HQ.out.alloc (.cells #[.bool six, .int .u64 (hi : Int), .int .u64 (lo : Int), .int .i64 bits, .bool s2, .int .u64 (h2 : Int), .int .u64 (l2 : Int), .int .i64 b2] 31 (0, 0))).below hb (HQ.out.alloc _).lt)
  have HR2 := Lib.hid ((HR.out.alloc (.cells #[.bool six, .int .u64 (hi : Int), .int .u64 (lo : Int), .int .i64 bits, .bool s2, .int .u64 (h2 : Int), .int .u64 (l2 : Int), .int .i64 b2] 31 (0, 0))).below hb (HR.out.alloc _).lt)
  have HB2 : Hid (Below w.heap.size w w2) := Lib.hid ((below_alloc HB.out _).trans (hb.mono (by have := HB.out.size; simp; omega)))
  clear hb HP HQ HR HB p0 p1 p2 p3 q0 q1 q2 q3 r0 r1 r2 r3 rf HC
  have p0 := HP2.out.cell 0
  have p1 := HP2.out.cell 1
  have p2 := HP2.out.cell 2
  have p3 := HP2.out.cell 3
  simp at p0 p1 p2 p3
  have q0 := HQ2.out.cell 0
  have q1 := HQ2.out.cell 1
  have q2 := HQ2.out.cell 2
  have q3 := HQ2.out.cell 3
  simp at q0 q1 q2 q3
  have r0 := HR2.out.cell 0
  have r1 := HR2.out.cell 1
  have r2 := HR2.out.cell 2
  have r3 := HR2.out.cell 3
  have rf := HR2.out.free
  simp at r0 r1 r2 r3
  by_cases hz : F = 0
  · obtain ⟨⟨n, rfl, hn, hp⟩, m, rfl, hm, hq⟩ := HZ.out hz
    have hF := HF.out
    rw [if_neg (by omega)] at hF
    by_cases hs : six = s2
    · subst hs
      rw [if_neg (by simp)] at hF
      have hV := HV.out
      rw [if_pos hF] at hV
      have hcn : comN six hi lo (n : Int) h2 l2 (m : Int) = down (sameN six hi lo h2 l2) (min n m) := by unfold comN; rw [Int.toNat_natCast, Int.toNat_natCast]
      rw [hcn] at hV
      obtain ⟨N, hN⟩ : ∃ N, down (sameN six hi lo h2 l2) (min n m) = N := ⟨_, rfl⟩
      rw [hN] at hV
      have HN := Lib.hid hN
      have HE0 : Hid (sameN six hi lo h2 l2 0 = true) := Lib.hid (same_zero hp.1 hq.1)
      unfold comC at hV
      subst hz hF
      have HV2 := Lib.hid hV
      clear hV
      have hmn : min n m ≤ lenN six := by omega
      have hmn2 : lenN six ≤ 128 := lenN_le six
      have hmin : ∀ x y : Nat, (if (x : Int) < (y : Int) then (x : Int) else (y : Int)) = ((min x y : Nat) : Int) := fun x y => by split <;> omega
      have hmin2 : min (n : Int) (m : Int) = ((min n m : Nat) : Int) := by omega
      have Hmin := Lib.hid (And.intro (hmin n m) hmin2)
      clear HV HF HZ hN hcn hp hq hmin hmin2
      go_wp2_with fail
      all_goals
        go_loopw [7] (fun i wr => ∃ k : Nat, k ≤ min n m ∧ i = .int .i64 (k : Int) ∧ Hid (down (sameN six hi lo h2 l2) k = N) ∧ Hid (Blk wr (w.heap.size) 31 #[.bool six, .int .u64 (hi : Int), .int .u64 (lo : Int), .int .i64 (n : Int)]) ∧ Hid (Blk wr (w.heap.size + 1) 31 #[.bool six, .int .u64 (h2 : Int), .int .u64 (l2 : Int), .int .i64 (m : Int)]) ∧ Hid (Blk wr (w.heap.size + 1 + 1) 31 #[.bool false, .int .u64 0, .int .u64 0, .int .i64 0]) ∧ Hid (Below w.heap.size w wr)) (fun i _ => (intOf i).toNat)
        case atStart => exact ⟨min n m, Nat.le_refl _, congrArg _ (by first | rfl | exact Hmin.out.1 | exact Hmin.out.2 | omega), HN, HP2, HQ2, HR2, HB2⟩
        case round =>
          clear p0 p1 p2 p3 q0 q1 q2 q3 r0 r1 r2 r3 rf HP2 HQ2 HR2 HB2 HN
          obtain ⟨k, hk, rfl, HD, HPk, HQk, HRk, HBk⟩ := hrel
          have p0 := HPk.out.cell 0
          have p1 := HPk.out.cell 1
          have p2 := HPk.out.cell 2
          have p3 := HPk.out.cell 3
          simp at p0 p1 p2 p3
          have q0 := HQk.out.cell 0
          have q1 := HQk.out.cell 1
          have q2 := HQk.out.cell 2
          have q3 := HQk.out.cell 3
          simp at q0 q1 q2 q3
          have HM1k := Lib.hid fun wx => HM1.out k wx (by omega)
          have HM2k := Lib.hid fun wx => HM2.out k wx (by omega)
          obtain ⟨E, hE⟩ : ∃ E, sameN six hi lo h2 l2 k = E := ⟨_, rfl⟩
          have HE := Lib.hid hE
          unfold sameN at hE
          have hq := fun w => addr_neq six six (mHi six hi k) (mHi six h2 k) (mLo six lo k) (mLo six l2 k) w
          rw [eq3_nat, hE] at hq
          have Hq := Lib.hid hq
          clear hq hE HM1 HM2
          obtain ⟨mh, hmh⟩ : ∃ mh, mHi six hi k = mh := ⟨_, rfl⟩
          obtain ⟨ml, hml⟩ : ∃ ml, mLo six lo k = ml := ⟨_, rfl⟩
          rw [hmh, hml] at HM1k Hq
          have HH := Lib.hid (And.intro hmh hml)
          clear hmh hml
          generalize mHi six h2 k = nh at *
          generalize mLo six l2 k = nl at *
          have u0 := Later.cell_of p0
          have u1 := Later.cell_of p1
          have u2 := Later.cell_of p2
          have u3 := Later.cell_of p3
          have v0 := Later.cell_of q0
          have v1 := Later.cell_of q1
          have v2 := Later.cell_of q2
          have v3 := Later.cell_of q3
          have hM1 := fun m : Later wr => Calls.later m (HM1k.out m.1)
          have hM2 := fun m : Later wr => Calls.later m (HM2k.out m.1)
          have hq := Hq.out
          have hg := addr_guard .neq
          go_upto_region 7 with fail
          refine wp_region_later (by kernel_rfl) (by kernel_rfl) ?_
          iterate 3 (go_big_quiet_step (fail))
          go_big_quiet_step ((go_at_call 56; exact hM1 _))
          iterate 3 (go_big_quiet_step (fail))
          go_big_quiet_step ((go_at_call 56; exact hM2 _))
          go_big_quiet_step (fail)
          refine wpQuiet_nil ?_
          rintro w3 ⟨m2, hm2⟩
          have hb : Below wr.heap.size wr w3 := by rw [hm2]; exact m2.2
          clear hm2 m2 hq hg hM1 hM2 u0 u1 u2 u3 v0 v1 v2 v3 p0 p1 p2 p3 q0 q1 q2 q3 HM2k Hq
          have HP3 := Lib.hid (HPk.out.below hb HPk.out.lt)
          have HQ3 := Lib.hid (HQk.out.below hb HQk.out.lt)
          have HR3 := Lib.hid (HRk.out.below hb HRk.out.lt)
          have HB3 := Lib.hid (HBk.out.trans (hb.mono HBk.out.size))
          clear hb HPk HQk HRk HBk
          cases E
          · have hk0 : 1 ≤ k := by
              rcases Nat.eq_zero_or_pos k with e | e
              · subst e; exact absurd (HE0.out.symm.trans HE.out) (by decide)
              · exact e
            obtain ⟨j, rfl⟩ : ∃ j, k = j + 1 := ⟨k - 1, by omega⟩
            have HDj : Hid (down (sameN six hi lo h2 l2) j = N) := Lib.hid ((down_miss HE.out).symm.trans HD.out)
            go_wp2_with fail
            exact ⟨⟨j, by omega, by go_num, HDj, HP3, HQ3, HR3, HB3⟩, by simp [intOf]⟩
          · obtain rfl : k = N := (down_hit HE.out).symm.trans HD.out
            have hV := HV2.out
            rw [HH.out.1, HH.out.2] at hV
            clear HV2 HH HE HD HE0 Hmin
            subst hV
            have p0 := HP3.out.cell 0
            have p1 := HP3.out.cell 1
            have p2 := HP3.out.cell 2
            have p3 := HP3.out.cell 3
            simp at p0 p1 p2 p3
            go_wp2_with fail
            refine (HM1k.out _).mono ?_
            rintro e w4 ⟨rfl, hb⟩
            have HR4 := Lib.hid (HR3.out.below hb HR3.out.lt)
            have HB4 := Lib.hid (HB3.out.trans (hb.mono HB3.out.size))
            clear hb HR3 HB3 HP3 HQ3
            have r0 := HR4.out.cell 0
            have r1 := HR4.out.cell 1
            have r2 := HR4.out.cell 2
            have r3 := HR4.out.cell 3
            have rf := HR4.out.free
            simp at r0 r1 r2 r3
            go_wp2_with fail
            refine bodyPost_ret (v := .tuple #[.agg #[.bool six, .int .u64 (mh : Int), .int .u64 (ml : Int), .int .i64 (k : Int)], .int .i64 0]) (by simp [results, Tryd.results31, go_sem, r0, r1, r2, r3]) rfl ⟨rfl, ?_⟩
            repeat refine Below.setCell ?_ (by first | (simp; omega) | simp) _
            exact HB4.out

    · rw [if_pos hs] at hF
      have hV := HV.out
      rw [if_neg (by omega)] at hV
      subst hz hF hV
      have hs2 : decide (six = s2) = false := decide_eq_false hs
      have hs3 : (six == s2) = false := by simpa using hs
      clear HV HF HZ HM1 HM2 hp hq
      cases six <;> cases s2
      all_goals first | exact absurd rfl hs | skip
      all_goals
        go_wp2_with fail
        refine bodyPost_ret (v := .tuple #[.agg #[.bool false, .int .u64 0, .int .u64 0, .int .i64 0], .int .i64 10]) (by simp [results, Tryd.results31, go_sem, r0, r1, r2, r3]) rfl ⟨rfl, ?_⟩
        repeat refine Below.setCell ?_ (by first | (simp; omega) | simp) _
        exact HB2.out
  · have hF := HF.out
    rw [if_pos hz] at hF
    have hV := HV.out
    rw [if_neg (by omega)] at hV
    subst hF hV
    have hz2 : (G != 0) = true := by simpa using hz
    clear HV HF HZ HM1 HM2 HP2 HQ2
    go_wp2_with fail
    refine bodyPost_ret (v := .tuple #[.agg #[.bool false, .int .u64 0, .int .u64 0, .int .i64 0], .int .i64 G]) (by simp [results, Tryd.results31, go_sem, r0, r1, r2, r3]) rfl ⟨rfl, ?_⟩
    repeat refine Below.setCell ?_ (by first | (simp; omega) | simp) _
    exact HB2.out
end Go.Proofs.YtaamonhhclffcaaDoor
