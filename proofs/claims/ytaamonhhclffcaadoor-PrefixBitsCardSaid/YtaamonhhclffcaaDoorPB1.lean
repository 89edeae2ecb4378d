/-
  Prefixes of the program: span.Last, Contains, Inside; addr.Mask, Last, Contains, Inside.
-/
import Derived.Test.YtaamonhhclffcaaDoorPEq
import Derived.Test.YtaamonhhclffcaaDoorNumB
import Derived.Test.YtaamonhhclffcaaDoorGenP
namespace Go.Proofs.YtaamonhhclffcaaDoor
open Go.RowKit Go
set_option linter.unusedVariables false

theorem addr_eql (s1 s2 : Bool) (h1 h2 l1 l2 : Int) (w : World) : (binOp .eql 29 (.agg #[.bool s1, .int .u64 h1, .int .u64 l1]) (.agg #[.bool s2, .int .u64 h2, .int .u64 l2])).run Tryd.prog w = .ok (.bool (decide ((s1, h1, l1) = (s2, h2, l2)))) w := by
  rw [run_eql_struct, show (10000 : Nat) = 9998 + 2 from rfl, addrEq]; rfl
theorem addr_neq (s1 s2 : Bool) (h1 h2 l1 l2 : Int) (w : World) : (binOp .neq 29 (.agg #[.bool s1, .int .u64 h1, .int .u64 l1]) (.agg #[.bool s2, .int .u64 h2, .int .u64 l2])).run Tryd.prog w = .ok (.bool (!decide ((s1, h1, l1) = (s2, h2, l2)))) w := by
  rw [run_neq_struct, show (10000 : Nat) = 9998 + 2 from rfl, addrEq]; rfl
theorem addr_guard (op : BinOp) (x y : Operand) (xs ys : Array Value) (w : World) : (eqGuard op 29 x y (.agg xs) (.agg ys)).run Tryd.prog w = .ok () w :=
  run_eqGuard_agg w _ _ _ _ _ _ (by kernel_rfl)
theorem eq3_nat (s : Bool) (h l h2 l2 : Nat) : decide (((s, (h : Int), (l : Int)) : Bool × Int × Int) = (s, (h2 : Int), (l2 : Int))) = decide (h = h2 ∧ l = l2) := by
  rw [decide_eq_decide]; simp only [Prod.mk.injEq, true_and]; omega

set_option maxRecDepth 100000 in
set_option maxHeartbeats 1000000 in
theorem spanLast_any (six : Bool) (hi lo n : Nat) (w : World) (h1 : U64N hi) (h2 : U64N lo) (hn : n ≤ lenN six) :
    Calls Tryd.prog 57 #[vP six hi lo (n : Int)] w (Ret (vA six (fHi six hi n) (fLo six lo n)) w) := by
  have HF := Lib.hid fun wx => filled_any six hi lo n wx h1 h2 hn
  generalize fHi six hi n = rh at *
  generalize fLo six lo n = rl at *
  unfold vA at HF ⊢
  unfold vP
  have HP' : Blk ((w.alloc (.cells #[.bool six, .int .u64 (hi : Int), .int .u64 (lo : Int), .int .i64 (n : Int)] 31 (0, 0))).alloc (.cells #[.bool false, .int .u64 0, .int .u64 0] 29 (0, 0))) (w.heap.size) 31 #[.bool six, .int .u64 (hi : Int), .int .u64 (lo : Int), .int .i64 (n : Int)] := by
    have this := Blk.new w 31 #[.bool six, .int .u64 (hi : Int), .int .u64 (lo : Int), .int .i64 (n : Int)]
    exact (this.alloc _)
  have HP := Lib.hid HP'
  clear HP'
  have HR' : Blk ((w.alloc (.cells #[.bool six, .int .u64 (hi : Int), .int .u64 (lo : Int), .int .i64 (n : Int)] 31 (0, 0))).alloc (.cells #[.bool false, .int .u64 0, .int .u64 0] 29 (0, 0))) (w.heap.size + 1) 29 #[.bool false, .int .u64 0, .int .u64 0] := by
    have this := Blk.new (w.alloc (.cells #[.bool six, .int .u64 (hi : Int), .int .u64 (lo : Int), .int .i64 (n : Int)] 31 (0, 0))) 29 #[.bool false, .int .u64 0, .int .u64 0]
    rw [World.size_alloc] at this
    exact this
  have HR := Lib.hid HR'
  clear HR'
  have HB : Hid (Below w.heap.size w ((w.alloc (.cells #[.bool six, .int .u64 (hi : Int), .int .u64 (lo : Int), .int .i64 (n : Int)] 31 (0, 0))).alloc (.cells #[.bool false, .int .u64 0, .int .u64 0] 29 (0, 0)))) := Lib.hid (below_alloc (below_alloc (Below.refl _ _) _) _)
  go_enter Tryd.func57, Tryd.ntmps57
  go_upto_region 1 with fail
  generalize ((w.alloc (.cells #[.bool six, .int .u64 (hi : Int), .int .u64 (lo : Int), .int .i64 (n : Int)] 31 (0, 0))).alloc (.cells #[.bool false, .int .u64 0, .int .u64 0] 29 (0, 0))) = w1 at *
  have p0 := HP.out.cell 0
  have p1 := HP.out.cell 1
  have p2 := HP.out.cell 2
  have p3 := HP.out.cell 3
  simp at p0 p1 p2 p3
  go_wp2_with fail
  refine (HF.out _).mono ?_
  rintro e w2 ⟨rfl, hb⟩
  have HP2 := Lib.hid (HP.out.below hb HP.out.lt)
  have HR2 := Lib.hid (HR.out.below hb HR.out.lt)
  have HB2 := Lib.hid (HB.out.trans (hb.mono HB.out.size))
  clear hb HP HR HB
  clear p0 p1 p2 p3 HF
  have r0 := HR2.out.cell 0
  have r1 := HR2.out.cell 1
  have r2 := HR2.out.cell 2
  have rf := HR2.out.free
  simp at r0 r1 r2
  go_wp2_with fail
  refine bodyPost_ret (v := .agg #[.bool six, .int .u64 (rh : Int), .int .u64 (rl : Int)]) (by simp [results, Tryd.results57, go_sem, r0, r1, r2]) rfl ⟨rfl, ?_⟩
  repeat refine Below.setCell ?_ (by first | (simp; omega) | simp) _
  exact HB2.out

set_option maxRecDepth 100000 in
set_option maxHeartbeats 1000000 in
theorem spanContains_any (six : Bool) (hi lo n : Nat) (s2 : Bool) (h2 l2 : Nat) (w : World) (a1 : U64N h2) (a2 : U64N l2) (hn : n ≤ lenN six) :
    Calls Tryd.prog 58 #[vP six hi lo (n : Int), vA s2 h2 l2] w (Ret (.bool (conB six hi lo n s2 h2 l2)) w) := by
  by_cases e : six = s2
  · subst e
    have HM := Lib.hid fun wx => masked_any six h2 l2 n wx a1 a2 hn
    have hq := fun w => addr_eql six six (mHi six h2 n) hi (mLo six l2 n) lo w
    rw [eq3_nat] at hq
    unfold conB
    rw [decide_eq_true (rfl : six = six), Bool.true_and]
    generalize decide (mHi six h2 n = hi ∧ mLo six l2 n = lo) = z at *
    generalize mHi six h2 n = mh at *
    generalize mLo six l2 n = ml at *
    unfold vA at HM ⊢
    unfold vP
    have Hq := Lib.hid hq
    clear hq
    have HP' : Blk ((w.alloc (.cells #[.bool six, .int .u64 (hi : Int), .int .u64 (lo : Int), .int .i64 (n : Int)] 31 (0, 0))).alloc (.cells #[.bool six, .int .u64 (h2 : Int), .int .u64 (l2 : Int)] 29 (0, 0))) (w.heap.size) 31 #[.bool six, .int .u64 (hi : Int), .int .u64 (lo : Int), .int .i64 (n : Int)] := by
      have this := Blk.new w 31 #[.bool six, .int .u64 (hi : Int), .int .u64 (lo : Int), .int .i64 (n : Int)]
      exact (this.alloc _)
    have HP := Lib.hid HP'
    clear HP'
    have HA' : Blk ((w.alloc (.cells #[.bool six, .int .u64 (hi : Int), .int .u64 (lo : Int), .int .i64 (n : Int)] 31 (0, 0))).alloc (.cells #[.bool six, .int .u64 (h2 : Int), .int .u64 (l2 : Int)] 29 (0, 0))) (w.heap.size + 1) 29 #[.bool six, .int .u64 (h2 : Int), .int .u64 (l2 : Int)] := by
      have this := Blk.new (w.alloc (.cells #[.bool six, .int .u64 (hi : Int), .int .u64 (lo : Int), .int .i64 (n : Int)] 31 (0, 0))) 29 #[.bool six, .int .u64 (h2 : Int), .int .u64 (l2 : Int)]
      rw [World.size_alloc] at this
      exact this
    have HA := Lib.hid HA'
    clear HA'
    have HB : Hid (Below w.heap.size w ((w.alloc (.cells #[.bool six, .int .u64 (hi : Int), .int .u64 (lo : Int), .int .i64 (n : Int)] 31 (0, 0))).alloc (.cells #[.bool six, .int .u64 (h2 : Int), .int .u64 (l2 : Int)] 29 (0, 0)))) := Lib.hid (below_alloc (below_alloc (Below.refl _ _) _) _)
    go_enter Tryd.func58, Tryd.ntmps58
    go_upto_region 1 with fail
    generalize ((w.alloc (.cells #[.bool six, .int .u64 (hi : Int), .int .u64 (lo : Int), .int .i64 (n : Int)] 31 (0, 0))).alloc (.cells #[.bool six, .int .u64 (h2 : Int), .int .u64 (l2 : Int)] 29 (0, 0))) = w1 at *
    have p0 := HP.out.cell 0
    have p1 := HP.out.cell 1
    have p2 := HP.out.cell 2
    have p3 := HP.out.cell 3
    simp at p0 p1 p2 p3
    have a0 := HA.out.cell 0
    have a1 := HA.out.cell 1
    have a2 := HA.out.cell 2
    simp at a0 a1 a2
    have l0 := Later.cell_of p0
    have l1 := Later.cell_of p1
    have l2 := Later.cell_of p2
    have l3 := Later.cell_of p3
    have k0 := Later.cell_of a0
    have k1 := Later.cell_of a1
    have k2 := Later.cell_of a2
    have hM := fun m : Later w1 => Calls.later m (HM.out m.1)
    have hq := Hq.out
    have hg := addr_guard .eql
    refine wp_region_later (by kernel_rfl) (by kernel_rfl) ?_
    repeat (go_big_quiet_step ((go_at_call 56; exact hM _)))
    refine wpQuiet_nil ?_
    rintro w2 ⟨m2, hm2⟩
    have hb : Below w1.heap.size w1 w2 := by rw [hm2]; exact m2.2
    clear hm2 m2
    go_wp2_with fail
    go_ret
    exact ⟨rfl, HB.out.trans (hb.mono HB.out.size)⟩
  · have hz : conB six hi lo n s2 h2 l2 = false := by unfold conB; rw [decide_eq_false e]; rfl
    rw [hz]
    have he : decide (six = s2) = false := decide_eq_false e
    have he2 : (six == s2) = false := by simpa using e
    clear hz e
    unfold vA vP
    have HP' : Blk ((w.alloc (.cells #[.bool six, .int .u64 (hi : Int), .int .u64 (lo : Int), .int .i64 (n : Int)] 31 (0, 0))).alloc (.cells #[.bool s2, .int .u64 (h2 : Int), .int .u64 (l2 : Int)] 29 (0, 0))) (w.heap.size) 31 #[.bool six, .int .u64 (hi : Int), .int .u64 (lo : Int), .int .i64 (n : Int)] := by
      have this := Blk.new w 31 #[.bool six, .int .u64 (hi : Int), .int .u64 (lo : Int), .int .i64 (n : Int)]
      exact (this.alloc _)
    have HP := Lib.hid HP'
    clear HP'
    have HA' : Blk ((w.alloc (.cells #[.bool six, .int .u64 (hi : Int), .int .u64 (lo : Int), .int .i64 (n : Int)] 31 (0, 0))).alloc (.cells #[.bool s2, .int .u64 (h2 : Int), .int .u64 (l2 : Int)] 29 (0, 0))) (w.heap.size + 1) 29 #[.bool s2, .int .u64 (h2 : Int), .int .u64 (l2 : Int)] := by
      have this := Blk.new (w.alloc (.cells #[.bool six, .int .u64 (hi : Int), .int .u64 (lo : Int), .int .i64 (n : Int)] 31 (0, 0))) 29 #[.bool s2, .int .u64 (h2 : Int), .int .u64 (l2 : Int)]
      rw [World.size_alloc] at this
      exact this
    have HA := Lib.hid HA'
    clear HA'
    have HB : Hid (Below w.heap.size w ((w.alloc (.cells #[.bool six, .int .u64 (hi : Int), .int .u64 (lo : Int), .int .i64 (n : Int)] 31 (0, 0))).alloc (.cells #[.bool s2, .int .u64 (h2 : Int), .int .u64 (l2 : Int)] 29 (0, 0)))) := Lib.hid (below_alloc (below_alloc (Below.refl _ _) _) _)
    go_enter Tryd.func58, Tryd.ntmps58
    go_upto_region 1 with fail
    generalize ((w.alloc (.cells #[.bool six, .int .u64 (hi : Int), .int .u64 (lo : Int), .int .i64 (n : Int)] 31 (0, 0))).alloc (.cells #[.bool s2, .int .u64 (h2 : Int), .int .u64 (l2 : Int)] 29 (0, 0))) = w1 at *
    have p0 := HP.out.cell 0
    have p1 := HP.out.cell 1
    have p2 := HP.out.cell 2
    have p3 := HP.out.cell 3
    simp at p0 p1 p2 p3
    have a0 := HA.out.cell 0
    have a1 := HA.out.cell 1
    have a2 := HA.out.cell 2
    simp at a0 a1 a2
    have l0 := Later.cell_of p0
    have l1 := Later.cell_of p1
    have l2 := Later.cell_of p2
    have l3 := Later.cell_of p3
    have k0 := Later.cell_of a0
    have k1 := Later.cell_of a1
    have k2 := Later.cell_of a2
    refine wp_region_later (by kernel_rfl) (by kernel_rfl) ?_
    repeat (go_big_quiet_step (fail))
    refine wpQuiet_nil ?_
    rintro w2 ⟨m2, hm2⟩
    have hb : Below w1.heap.size w1 w2 := by rw [hm2]; exact m2.2
    clear hm2 m2
    go_wp2_with fail
    go_ret
    exact ⟨rfl, HB.out.trans (hb.mono HB.out.size)⟩

set_option maxRecDepth 100000 in
set_option maxHeartbeats 1000000 in
theorem spanInside_any (six : Bool) (hi lo n : Nat) (s2 : Bool) (h2 l2 n2 : Nat) (w : World) (a1 : U64N hi) (a2 : U64N lo) (hn : n2 ≤ lenN s2) :
    Calls Tryd.prog 60 #[vP six hi lo (n : Int), vP s2 h2 l2 (n2 : Int)] w (Ret (.bool (insB six hi lo n s2 h2 l2 n2)) w) := by
  have HC := Lib.hid fun wx => spanContains_any s2 h2 l2 n2 six hi lo wx a1 a2 hn
  unfold insB
  generalize conB s2 h2 l2 n2 six hi lo = z at *
  by_cases hle : n2 ≤ n
  · rw [decide_eq_true hle, Bool.true_and]
    unfold vA at HC
    unfold vP at HC ⊢
    have hi1 : (n : Int) ≥ (n2 : Int) := by omega
    have HP' : Blk ((w.alloc (.cells #[.bool six, .int .u64 (hi : Int), .int .u64 (lo : Int), .int .i64 (n : Int)] 31 (0, 0))).alloc (.cells #[.bool s2, .int .u64 (h2 : Int), .int .u64 (l2 : Int), .int .i64 (n2 : Int)] 31 (0, 0))) (w.heap.size) 31 #[.bool six, .int .u64 (hi : Int), .int .u64 (lo : Int), .int .i64 (n : Int)] := by
      have this := Blk.new w 31 #[.bool six, .int .u64 (hi : Int), .int .u64 (lo : Int), .int .i64 (n : Int)]
      exact (this.alloc _)
    have HP := Lib.hid HP'
    clear HP'
    have HQ' : Blk ((w.alloc (.cells #[.bool six, .int .u64 (hi : Int), .int .u64 (lo : Int), .int .i64 (n : Int)] 31 (0, 0))).alloc (.cells #[.bool s2, .int .u64 (h2 : Int), .int .u64 (l2 : Int), .int .i64 (n2 : Int)] 31 (0, 0))) (w.heap.size + 1) 31 #[.bool s2, .int .u64 (h2 : Int), .int .u64 (l2 : Int), .int .i64 (n2 : Int)] := by
      have this := Blk.new (w.alloc (.cells #[.bool six, .int .u64 (hi : Int), .int .u64 (lo : Int), .int .i64 (n : Int)] 31 (0, 0))) 31 #[.bool s2, .int .u64 (h2 : Int), .int .u64 (l2 : Int), .int .i64 (n2 : Int)]
      rw [World.size_alloc] at this
      exact this
    have HQ := Lib.hid HQ'
    clear HQ'
    have HB : Hid (Below w.heap.size w ((w.alloc (.cells #[.bool six, .int .u64 (hi : Int), .int .u64 (lo : Int), .int .i64 (n : Int)] 31 (0, 0))).alloc (.cells #[.bool s2, .int .u64 (h2 : Int), .int .u64 (l2 : Int), .int .i64 (n2 : Int)] 31 (0, 0)))) := Lib.hid (below_alloc (below_alloc (Below.refl _ _) _) _)
    go_enter Tryd.func60, Tryd.ntmps60
    go_upto_region 1 with fail
    generalize ((w.alloc (.cells #[.bool six, .int .u64 (hi : Int), .int .u64 (lo : Int), .int .i64 (n : Int)] 31 (0, 0))).alloc (.cells #[.bool s2, .int .u64 (h2 : Int), .int .u64 (l2 : Int), .int .i64 (n2 : Int)] 31 (0, 0))) = w1 at *
    have p0 := HP.out.cell 0
    have p1 := HP.out.cell 1
    have p2 := HP.out.cell 2
    have p3 := HP.out.cell 3
    simp at p0 p1 p2 p3
    have q0 := HQ.out.cell 0
    have q1 := HQ.out.cell 1
    have q2 := HQ.out.cell 2
    have q3 := HQ.out.cell 3
    simp at q0 q1 q2 q3
    go_wp2_with fail
    refine (HC.out _).mono ?_
    rintro e w2 ⟨rfl, hb⟩
    go_wp2_with fail
    go_ret
    exact ⟨rfl, HB.out.trans (hb.mono HB.out.size)⟩
  · rw [decide_eq_false hle, Bool.false_and]
    unfold vP
    have hi1 : ¬ (n : Int) ≥ (n2 : Int) := by omega
    clear HC
    have HP' : Blk ((w.alloc (.cells #[.bool six, .int .u64 (hi : Int), .int .u64 (lo : Int), .int .i64 (n : Int)] 31 (0, 0))).alloc (.cells #[.bool s2, .int .u64 (h2 : Int), .int .u64 (l2 : Int), .int .i64 (n2 : Int)] 31 (0, 0))) (w.heap.size) 31 #[.bool six, .int .u64 (hi : Int), .int .u64 (lo : Int), .int .i64 (n : Int)] := by
      have this := Blk.new w 31 #[.bool six, .int .u64 (hi : Int), .int .u64 (lo : Int), .int .i64 (n : Int)]
      exact (this.alloc _)
    have HP := Lib.hid HP'
    clear HP'
    have HQ' : Blk ((w.alloc (.cells #[.bool six, .int .u64 (hi : Int), .int .u64 (lo : Int), .int .i64 (n : Int)] 31 (0, 0))).alloc (.cells #[.bool s2, .int .u64 (h2 : Int), .int .u64 (l2 : Int), .int .i64 (n2 : Int)] 31 (0, 0))) (w.heap.size + 1) 31 #[.bool s2, .int .u64 (h2 : Int), .int .u64 (l2 : Int), .int .i64 (n2 : Int)] := by
      have this := Blk.new (w.alloc (.cells #[.bool six, .int .u64 (hi : Int), .int .u64 (lo : Int), .int .i64 (n : Int)] 31 (0, 0))) 31 #[.bool s2, .int .u64 (h2 : Int), .int .u64 (l2 : Int), .int .i64 (n2 : Int)]
      rw [World.size_alloc] at this
      exact this
    have HQ := Lib.hid HQ'
    clear HQ'
    have HB : Hid (Below w.heap.size w ((w.alloc (.cells #[.bool six, .int .u64 (hi : Int), .int .u64 (lo : Int), .int .i64 (n : Int)] 31 (0, 0))).alloc (.cells #[.bool s2, .int .u64 (h2 : Int), .int .u64 (l2 : Int), .int .i64 (n2 : Int)] 31 (0, 0)))) := Lib.hid (below_alloc (below_alloc (Below.refl _ _) _) _)
    go_enter Tryd.func60, Tryd.ntmps60
    go_upto_region 1 with fail
    generalize ((w.alloc (.cells #[.bool six, .int .u64 (hi : Int), .int .u64 (lo : Int), .int .i64 (n : Int)] 31 (0, 0))).alloc (.cells #[.bool s2, .int .u64 (h2 : Int), .int .u64 (l2 : Int), .int .i64 (n2 : Int)] 31 (0, 0))) = w1 at *
    have p0 := HP.out.cell 0
    have p1 := HP.out.cell 1
    have p2 := HP.out.cell 2
    have p3 := HP.out.cell 3
    simp at p0 p1 p2 p3
    have q0 := HQ.out.cell 0
    have q1 := HQ.out.cell 1
    have q2 := HQ.out.cell 2
    have q3 := HQ.out.cell 3
    simp at q0 q1 q2 q3
    go_wp2_with fail
    go_ret
    exact ⟨rfl, HB.out⟩

def maskF (six : Bool) (hi lo : Nat) (bits : Int) : Int := if aFault six hi lo ≠ 0 then aFault six hi lo else if outB bits 0 (lenN six : Nat) = true then 1 else 0
def maskR (six : Bool) (hi lo : Nat) (bits : Int) : Array Value := if maskF six hi lo bits = 0 then #[.bool six, .int .u64 ((mHi six hi bits.toNat : Nat) : Int), .int .u64 ((mLo six lo bits.toNat : Nat) : Int), .int .i64 bits] else #[.bool false, .int .u64 0, .int .u64 0, .int .i64 0]
set_option maxRecDepth 100000 in
set_option maxHeartbeats 1000000 in
theorem aMask_any (six : Bool) (hi lo : Nat) (bits : Int) (w : World) (h1 : U64N hi) (h2 : U64N lo) :
    Calls Tryd.prog 27 #[vA six hi lo, .int .i64 bits] w (Ret (.tuple #[.agg (maskR six hi lo bits), .int .i64 (maskF six hi lo bits)]) w) := by
  have HC := Lib.hid fun wx => checkAddr_any six hi lo wx ⟨by omega, by unfold U64N at h1; omega⟩ ⟨by omega, by unfold U64N at h2; omega⟩
  have HL := Lib.hid fun wx => length_any six hi lo wx
  have HO := Lib.hid fun wx => outside_any bits 0 (lenN six : Nat) wx
  have HM := Lib.hid fun (n : Nat) wx (hn : n ≤ lenN six) => masked_any six hi lo n wx h1 h2 hn
  have HF : Hid (maskF six hi lo bits = if aFault six hi lo ≠ 0 then aFault six hi lo else if outB bits 0 (lenN six : Nat) = true then 1 else 0) := Lib.hid rfl
  have HV : Hid (maskR six hi lo bits = if maskF six hi lo bits = 0 then #[.bool six, .int .u64 ((mHi six hi bits.toNat : Nat) : Int), .int .u64 ((mLo six lo bits.toNat : Nat) : Int), .int .i64 bits] else #[.bool false, .int .u64 0, .int .u64 0, .int .i64 0]) := Lib.hid rfl
  generalize maskR six hi lo bits = R at *
  generalize maskF six hi lo bits = F at *
  generalize aFault six (hi : Int) (lo : Int) = af at *
  obtain ⟨ob, hob⟩ : ∃ z, outB bits 0 (lenN six : Nat) = z := ⟨_, rfl⟩
  rw [hob] at HO HF
  have Hob := Lib.hid hob
  clear hob
  generalize hln : lenN six = ln at *
  replace hln := Lib.hid hln
  unfold vA at HL HM ⊢
  unfold vAddr at HC
  have HA' : Blk ((w.alloc (.cells #[.bool six, .int .u64 (hi : Int), .int .u64 (lo : Int)] 29 (0, 0))).alloc (.cells #[.bool false, .int .u64 0, .int .u64 0, .int .i64 0] 31 (0, 0))) (w.heap.size) 29 #[.bool six, .int .u64 (hi : Int), .int .u64 (lo : Int)] := by
    have this := Blk.new w 29 #[.bool six, .int .u64 (hi : Int), .int .u64 (lo : Int)]
    exact (this.alloc _)
  have HA := Lib.hid HA'
  clear HA'
  have HR' : Blk ((w.alloc (.cells #[.bool six, .int .u64 (hi : Int), .int .u64 (lo : Int)] 29 (0, 0))).alloc (.cells #[.bool false, .int .u64 0, .int .u64 0, .int .i64 0] 31 (0, 0))) (w.heap.size + 1) 31 #[.bool false, .int .u64 0, .int .u64 0, .int .i64 0] := by
    have this := Blk.new (w.alloc (.cells #[.bool six, .int .u64 (hi : Int), .int .u64 (lo : Int)] 29 (0, 0))) 31 #[.bool false, .int .u64 0, .int .u64 0, .int .i64 0]
    rw [World.size_alloc] at this
    exact this
  have HR := Lib.hid HR'
  clear HR'
  have HB : Hid (Below w.heap.size w ((w.alloc (.cells #[.bool six, .int .u64 (hi : Int), .int .u64 (lo : Int)] 29 (0, 0))).alloc (.cells #[.bool false, .int .u64 0, .int .u64 0, .int .i64 0] 31 (0, 0)))) := Lib.hid (below_alloc (below_alloc (Below.refl _ _) _) _)
  go_enter Tryd.func27, Tryd.ntmps27
  go_upto_region 1 with fail
  generalize ((w.alloc (.cells #[.bool six, .int .u64 (hi : Int), .int .u64 (lo : Int)] 29 (0, 0))).alloc (.cells #[.bool false, .int .u64 0, .int .u64 0, .int .i64 0] 31 (0, 0))) = w1 at *
  have a0 := HA.out.cell 0
  have a1 := HA.out.cell 1
  have a2 := HA.out.cell 2
  simp at a0 a1 a2
  go_wp2_with fail
  refine (HC.out _).mono ?_
  rintro e w2 ⟨rfl, o, rfl⟩
  have HA2 := Lib.hid (HA.out.alloc o)
  have HR2 := Lib.hid (HR.out.alloc o)
  have HB2 := Lib.hid (below_alloc HB.out o)
  clear a0 a1 a2 HA HR HB HC
  generalize w1.alloc o = w2 at *
  have a0 := HA2.out.cell 0
  have a1 := HA2.out.cell 1
  have a2 := HA2.out.cell 2
  simp at a0 a1 a2
  have r0 := HR2.out.cell 0
  have r1 := HR2.out.cell 1
  have r2 := HR2.out.cell 2
  have r3 := HR2.out.cell 3
  have rf := HR2.out.free
  simp at r0 r1 r2 r3
  by_cases hz : af = 0
  · subst hz
    have hF2 : Hid (F = if ob = true then 1 else 0) := Lib.hid (by have h := HF.out; rwa [if_neg (by decide)] at h)
    go_wp2_with fail
    refine (HL.out _).mono ?_
    rintro e w3 ⟨rfl, hb⟩
    have HA3 := Lib.hid (HA2.out.below hb HA2.out.lt)
    have HR3 := Lib.hid (HR2.out.below hb HR2.out.lt)
    have HB3 := Lib.hid (HB2.out.trans (hb.mono HB2.out.size))
    clear hb HA2 HR2 HB2
    clear a0 a1 a2 r0 r1 r2 r3 rf HL
    have a0 := HA3.out.cell 0
    have a1 := HA3.out.cell 1
    have a2 := HA3.out.cell 2
    simp at a0 a1 a2
    have r0 := HR3.out.cell 0
    have r1 := HR3.out.cell 1
    have r2 := HR3.out.cell 2
    have r3 := HR3.out.cell 3
    have rf := HR3.out.free
    simp at r0 r1 r2 r3
    go_wp2_with fail
    refine (HO.out _).mono ?_
    rintro e w' ⟨rfl, rfl⟩
    cases ob
    · have hb : 0 ≤ bits ∧ bits ≤ (ln : Nat) := by
        have := Hob.out
        unfold outB at this
        simp at this
        omega
      obtain ⟨n, rfl⟩ := Int.eq_ofNat_of_zero_le hb.1
      have HM2 := Lib.hid fun wx => HM.out n wx (by omega)
      have hF := hF2.out
      rw [if_neg (by decide)] at hF
      have hV := HV.out
      rw [if_pos hF, Int.toNat_natCast] at hV
      clear HV HF hF2 HM hb
      generalize mHi six hi n = mh at *
      generalize mLo six lo n = ml at *
      subst hF hV
      go_wp2_with fail
      refine (HM2.out _).mono ?_
      rintro e w4 ⟨rfl, hb⟩
      have HR4 := Lib.hid (HR3.out.below hb HR3.out.lt)
      have HB4 := Lib.hid (HB3.out.trans (hb.mono HB3.out.size))
      clear hb HR3 HB3
      clear a0 a1 a2 r0 r1 r2 r3 rf HM2 HA3
      have r0 := HR4.out.cell 0
      have r1 := HR4.out.cell 1
      have r2 := HR4.out.cell 2
      have r3 := HR4.out.cell 3
      have rf := HR4.out.free
      simp at r0 r1 r2 r3
      go_wp2_with fail
      refine bodyPost_ret (v := .tuple #[.agg #[.bool six, .int .u64 (mh : Int), .int .u64 (ml : Int), .int .i64 (n : Int)], .int .i64 0]) (by simp [results, Tryd.results27, go_sem, r0, r1, r2, r3]) rfl ⟨rfl, ?_⟩
      repeat refine Below.setCell ?_ (by first | (simp; omega) | simp) _
      exact HB4.out
    · have hF := hF2.out
      rw [if_pos rfl] at hF
      have hV := HV.out
      rw [if_neg (by omega)] at hV
      subst hF hV
      go_wp2_with fail
      refine bodyPost_ret (v := .tuple #[.agg #[.bool false, .int .u64 0, .int .u64 0, .int .i64 0], .int .i64 1]) (by simp [results, Tryd.results27, go_sem, r0, r1, r2, r3]) rfl ⟨rfl, ?_⟩
      repeat refine Below.setCell ?_ (by first | (simp; omega) | simp) _
      exact HB3.out
  · have hF := HF.out
    rw [if_pos hz] at hF
    have hV := HV.out
    rw [if_neg (by omega)] at hV
    subst hF hV
    have hz2 : (F != 0) = true := by simpa using hz
    clear HA2
    go_wp2_with fail
    refine bodyPost_ret (v := .tuple #[.agg #[.bool false, .int .u64 0, .int .u64 0, .int .i64 0], .int .i64 F]) (by simp [results, Tryd.results27, go_sem, r0, r1, r2, r3]) rfl ⟨rfl, ?_⟩
    repeat refine Below.setCell ?_ (by first | (simp; omega) | simp) _
    exact HB2.out
end Go.Proofs.YtaamonhhclffcaaDoor
