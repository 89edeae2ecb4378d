/-
  Orders of addresses: cmp.Compare, cmp.Or, span.Compare, addr.Compare of the program; Order of the reference: both compare the addresses' numbers.
-/
import Derived.Test.YtofjlpnebfijoaaDoorPB4
namespace Go.Proofs.YtofjlpnebfijoaaDoor
open Go.RowKit Go
set_option linter.unusedVariables false

theorem u64_le {x : Nat} (h : U64N x) : 0 ≤ (x : Int) ∧ (x : Int) ≤ 18446744073709551615 := by
  unfold U64N at h
  exact ⟨by omega, by omega⟩
theorem isNaNU_any (x : Int) (w : World) : Calls Tryd.prog 47 #[.int .u64 x] w fun e w' => e = .returned (.bool false) ∧ w' = w := by
  go_enter Tryd.func47, Tryd.ntmps47
  go_wp2
  go_ret
  exact ⟨by simp, rfl⟩
set_option maxHeartbeats 1000000 in
theorem cmpU64_any (a b : Nat) (w : World) (ha : U64N a) (hb : U64N b) : Calls Tryd.prog 38 #[.int .u64 (a : Int), .int .u64 (b : Int)] w fun e w' => e = .returned (.int .i64 (cN a b)) ∧ w' = w := by
  have a1 := u64_le ha
  have b1 := u64_le hb
  clear ha hb
  have HN := Lib.hid fun x wx => isNaNU_any x wx
  by_cases h1 : a < b
  · have e : cN a b = -1 := by unfold cN; rw [if_pos h1]
    rw [e]
    clear e
    go_enter Tryd.func38, Tryd.ntmps38
    go_wp2_with fail
    refine (HN.out _ _).mono ?_
    rintro e w' ⟨rfl, rfl⟩
    go_wp2_with fail
    refine (HN.out _ _).mono ?_
    rintro e w' ⟨rfl, rfl⟩
    go_wp2_with fail
    go_ret
    exact ⟨rfl, rfl⟩
  · by_cases h2 : b < a
    · have e : cN a b = 1 := by unfold cN; rw [if_neg h1, if_pos h2]
      rw [e]
      clear e
      go_enter Tryd.func38, Tryd.ntmps38
      go_wp2_with fail
      refine (HN.out _ _).mono ?_
      rintro e w' ⟨rfl, rfl⟩
      go_wp2_with fail
      refine (HN.out _ _).mono ?_
      rintro e w' ⟨rfl, rfl⟩
      go_wp2_with fail
      go_ret
      exact ⟨rfl, rfl⟩
    · obtain rfl : a = b := by omega
      rw [cN_same]
      clear h1 h2
      go_enter Tryd.func38, Tryd.ntmps38
      go_wp2_with fail
      refine (HN.out _ _).mono ?_
      rintro e w' ⟨rfl, rfl⟩
      go_wp2_with fail
      refine (HN.out _ _).mono ?_
      rintro e w' ⟨rfl, rfl⟩
      go_wp2_with fail
      go_ret
      exact ⟨rfl, rfl⟩
def orI (x y : Int) : Int := if x = 0 then y else x
set_option maxHeartbeats 1000000 in
theorem cmpOr_any (x y : Int) (g c : Nat) (w : World) (h0 : w.cell? ⟨g, 0, none⟩ = some (.int .i64 x)) (h1 : w.cell? ⟨g, 1, none⟩ = some (.int .i64 y)) :
    Calls Tryd.prog 37 #[.slice (some ⟨g, 0, none⟩) 2 c] w fun e w' => e = .returned (.int .i64 (orI x y)) ∧ w' = w := by
  by_cases hx : x = 0
  · subst hx
    have e : orI 0 y = y := if_pos rfl
    rw [e]
    clear e
    by_cases hy : y = 0
    · subst hy
      go_enter Tryd.func37, Tryd.ntmps37
      go_wp2_with fail
      refine wp_loop_rounds 3 ?_
      rw [rounds_succ]
      go_wp2_with fail
      rw [rounds_succ]
      go_wp2_with fail
      rw [rounds_succ]
      go_wp2_with fail
      go_ret
      exact ⟨rfl, rfl⟩
    · have hy2 : (y != 0) = true := by simpa using hy
      go_enter Tryd.func37, Tryd.ntmps37
      go_wp2_with fail
      refine wp_loop_rounds 2 ?_
      rw [rounds_succ]
      go_wp2_with fail
      rw [rounds_succ]
      go_wp2_with fail
      go_ret
      exact ⟨rfl, rfl⟩
  · have e : orI x y = x := if_neg hx
    rw [e]
    clear e
    have hx2 : (x != 0) = true := by simpa using hx
    go_enter Tryd.func37, Tryd.ntmps37
    go_wp2_with fail
    refine wp_loop_rounds 1 ?_
    rw [rounds_succ]
    go_wp2_with fail
    go_ret
    exact ⟨rfl, rfl⟩
theorem cN_lt {a b : Nat} (h : a < b) : cN a b = -1 := by unfold cN; rw [if_pos h]
theorem cN_gt {a b : Nat} (h : b < a) : cN a b = 1 := by unfold cN; rw [if_neg (by omega), if_pos h]
theorem cN_lex (T M h l h2 l2 : Nat) (a : l < M) (b : l2 < M) : cN (T + h * M + l) (T + h2 * M + l2) = orI (cN h h2) (cN l l2) := by
  rcases Nat.lt_trichotomy h h2 with k | rfl | k
  · have := Nat.mul_le_mul_right M (Nat.succ_le_of_lt k)
    rw [Nat.succ_eq_add_one, Nat.add_mul, Nat.one_mul] at this
    rw [cN_lt (show T + h * M + l < T + h2 * M + l2 by omega), cN_lt k]
    rfl
  · rw [cN_same]
    unfold orI
    rw [if_pos rfl]
    unfold cN
    by_cases h1 : l < l2
    · rw [if_pos h1, if_pos (by omega)]
    · by_cases h2 : l2 < l
      · rw [if_neg h1, if_pos h2, if_neg (by omega), if_pos (by omega)]
      · rw [if_neg h1, if_neg h2, if_neg (by omega), if_neg (by omega)]
  · have := Nat.mul_le_mul_right M (Nat.succ_le_of_lt k)
    rw [Nat.succ_eq_add_one, Nat.add_mul, Nat.one_mul] at this
    rw [cN_gt (show T + h2 * M + l2 < T + h * M + l by omega), cN_gt k]
    rfl
theorem cN_num {s : Bool} {h l h2 l2 : Nat} (a2 : U64N l) (a4 : U64N l2) : cN (numA s h l) (numA s h2 l2) = orI (cN h h2) (cN l l2) := by
  unfold numA
  exact cN_lex _ _ _ _ _ _ a2 a4
theorem cN_six {h l h2 l2 : Nat} (a1 : U64N h) (a2 : U64N l) : cN (numA false h l) (numA true h2 l2) = -1 := by
  unfold U64N at a1 a2
  unfold cN numA
  rw [if_pos]
  simp
  omega
theorem cN_six' {h l h2 l2 : Nat} (a3 : U64N h2) (a4 : U64N l2) : cN (numA true h l) (numA false h2 l2) = 1 := by
  unfold U64N at a3 a4
  unfold cN numA
  rw [if_neg, if_pos]
  · simp; omega
  · simp; omega
set_option maxRecDepth 100000 in
set_option maxHeartbeats 1000000 in
theorem spanCompare_any (s1 : Bool) (h1 l1 : Nat) (s2 : Bool) (h2 l2 : Nat) (w : World) (a1 : U64N h1) (a2 : U64N l1) (a3 : U64N h2) (a4 : U64N l2) :
    Calls Tryd.prog 24 #[.agg #[.bool s1, .int .u64 (h1 : Int), .int .u64 (l1 : Int)], .agg #[.bool s2, .int .u64 (h2 : Int), .int .u64 (l2 : Int)]] w (Ret (.int .i64 (cN (numA s1 h1 l1) (numA s2 h2 l2))) w) := by
  have HP' : Blk ((w.alloc (.cells #[.bool s1, .int .u64 (h1 : Int), .int .u64 (l1 : Int)] 28 (0, 0))).alloc (.cells #[.bool s2, .int .u64 (h2 : Int), .int .u64 (l2 : Int)] 28 (0, 0))) (w.heap.size) 28 #[.bool s1, .int .u64 (h1 : Int), .int .u64 (l1 : Int)] :=
    (Blk.new w 28 #[.bool s1, .int .u64 (h1 : Int), .int .u64 (l1 : Int)]).alloc _
  have HP := Lib.hid HP'
  clear HP'
  have HQ' : Blk ((w.alloc (.cells #[.bool s1, .int .u64 (h1 : Int), .int .u64 (l1 : Int)] 28 (0, 0))).alloc (.cells #[.bool s2, .int .u64 (h2 : Int), .int .u64 (l2 : Int)] 28 (0, 0))) (w.heap.size + 1) 28 #[.bool s2, .int .u64 (h2 : Int), .int .u64 (l2 : Int)] := by
    have this := Blk.new (w.alloc (.cells #[.bool s1, .int .u64 (h1 : Int), .int .u64 (l1 : Int)] 28 (0, 0))) 28 #[.bool s2, .int .u64 (h2 : Int), .int .u64 (l2 : Int)]
    rw [World.size_alloc] at this
    exact this
  have HQ := Lib.hid HQ'
  clear HQ'
  have HB : Hid (Below w.heap.size w ((w.alloc (.cells #[.bool s1, .int .u64 (h1 : Int), .int .u64 (l1 : Int)] 28 (0, 0))).alloc (.cells #[.bool s2, .int .u64 (h2 : Int), .int .u64 (l2 : Int)] 28 (0, 0)))) := Lib.hid (below_alloc (below_alloc (Below.refl _ _) _) _)
  by_cases hs : s1 = s2
  · subst hs
    have hC := cN_num (s := s1) (h := h1) (h2 := h2) a2 a4
    rw [hC]
    clear hC
    have HC1 := Lib.hid fun wx => cmpU64_any h1 h2 wx a1 a3
    have HC2 := Lib.hid fun wx => cmpU64_any l1 l2 wx a2 a4
    generalize cN h1 h2 = X at *
    generalize cN l1 l2 = Y at *
    go_enter Tryd.func24, Tryd.ntmps24
    go_upto_region 1 with fail
    generalize ((w.alloc (.cells #[.bool s1, .int .u64 (h1 : Int), .int .u64 (l1 : Int)] 28 (0, 0))).alloc (.cells #[.bool s1, .int .u64 (h2 : Int), .int .u64 (l2 : Int)] 28 (0, 0))) = w1 at *
    have p0 := HP.out.cell 0
    have p1 := HP.out.cell 1
    have p2 := HP.out.cell 2
    simp at p0 p1 p2
    have q0 := HQ.out.cell 0
    have q1 := HQ.out.cell 1
    have q2 := HQ.out.cell 2
    simp at q0 q1 q2
    have hsz : w.heap.size + 1 < w1.heap.size := HQ.out.lt
    go_upto_region 5 with fail
    have k1 := fun (m : Later w1) => m.cell (i := 1) (Nat.lt_of_succ_lt hsz)
    have k2 := fun (m : Later w1) => m.cell (i := 2) (Nat.lt_of_succ_lt hsz)
    have k3 := fun (m : Later w1) => m.cell (i := 1) hsz
    have k4 := fun (m : Later w1) => m.cell (i := 2) hsz
    refine wp_region_later_tail 10 (by kernel_rfl) (by kernel_rfl) ?_
    simp only [List.take_succ_cons, List.take_zero, List.drop_succ_cons, List.drop_zero]
    repeat (go_big_quiet_step (fail))
    go_big_quiet_step ((go_at_call 38; exact Calls.later_same _ ((HC1.out _).mono fun _ _ h => ⟨h.1, h.2.symm⟩)))
    repeat (go_big_quiet_step (fail))
    go_big_quiet_step ((go_at_call 38; exact Calls.later_same _ ((HC2.out _).mono fun _ _ h => ⟨h.1, h.2.symm⟩)))
    refine wpQuiet_nil ?_
    rintro w2 ⟨n2, hn2⟩
    subst hn2
    have HB2 := Lib.hid (HB.out.trans (n2.2.mono HB.out.size))
    obtain ⟨w2, hw2⟩ : ∃ w2, w2 = n2.1 := ⟨_, rfl⟩
    rw [← hw2] at HB2 ⊢
    clear hw2 k1 k2 k3 k4 p0 p1 p2 q0 q1 q2 HC1 HC2
    have HO := Lib.hid fun wx g (h : Blk wx g 3 #[.int .i64 X, .int .i64 Y]) => cmpOr_any X Y g 2 wx ((h.cell 0).trans rfl) ((h.cell 1).trans rfl)
    go_wp2_with fail
    refine (HO.out _ _ (Blk.new w2 _ _)).mono ?_
    rintro e w3 ⟨rfl, rfl⟩
    go_wp2_with fail
    go_ret
    exact ⟨rfl, below_alloc HB2.out _⟩
  · cases s1
    · obtain rfl : s2 = true := by cases s2 with | true => rfl | false => exact absurd rfl hs
      rw [cN_six a1 a2]
      go_enter Tryd.func24, Tryd.ntmps24
      go_upto_region 1 with fail
      generalize ((w.alloc (.cells #[.bool false, .int .u64 (h1 : Int), .int .u64 (l1 : Int)] 28 (0, 0))).alloc (.cells #[.bool true, .int .u64 (h2 : Int), .int .u64 (l2 : Int)] 28 (0, 0))) = w1 at *
      have p0 := HP.out.cell 0
      simp at p0
      have q0 := HQ.out.cell 0
      simp at q0
      go_wp2_with fail
      go_ret
      exact ⟨rfl, HB.out⟩
    · obtain rfl : s2 = false := by cases s2 with | false => rfl | true => exact absurd rfl hs
      rw [cN_six' a3 a4]
      go_enter Tryd.func24, Tryd.ntmps24
      go_upto_region 1 with fail
      generalize ((w.alloc (.cells #[.bool true, .int .u64 (h1 : Int), .int .u64 (l1 : Int)] 28 (0, 0))).alloc (.cells #[.bool false, .int .u64 (h2 : Int), .int .u64 (l2 : Int)] 28 (0, 0))) = w1 at *
      have p0 := HP.out.cell 0
      simp at p0
      have q0 := HQ.out.cell 0
      simp at q0
      go_wp2_with fail
      go_ret
      exact ⟨rfl, HB.out⟩
set_option maxRecDepth 100000 in
set_option maxHeartbeats 1000000 in
theorem aCompare_any (s1 : Bool) (h1 l1 : Nat) (s2 : Bool) (h2 l2 : Nat) (w : World) (a1 : U64N h1) (a2 : U64N l1) (a3 : U64N h2) (a4 : U64N l2) :
    Calls Tryd.prog 11 #[.agg #[.bool s1, .int .u64 (h1 : Int), .int .u64 (l1 : Int)], .agg #[.bool s2, .int .u64 (h2 : Int), .int .u64 (l2 : Int)]] w (Ret (.int .i64 (cN (numA s1 h1 l1) (numA s2 h2 l2))) w) := by
  have HP' : Blk ((w.alloc (.cells #[.bool s1, .int .u64 (h1 : Int), .int .u64 (l1 : Int)] 28 (0, 0))).alloc (.cells #[.bool s2, .int .u64 (h2 : Int), .int .u64 (l2 : Int)] 28 (0, 0))) (w.heap.size) 28 #[.bool s1, .int .u64 (h1 : Int), .int .u64 (l1 : Int)] :=
    (Blk.new w 28 #[.bool s1, .int .u64 (h1 : Int), .int .u64 (l1 : Int)]).alloc _
  have HP := Lib.hid HP'
  clear HP'
  have HQ' : Blk ((w.alloc (.cells #[.bool s1, .int .u64 (h1 : Int), .int .u64 (l1 : Int)] 28 (0, 0))).alloc (.cells #[.bool s2, .int .u64 (h2 : Int), .int .u64 (l2 : Int)] 28 (0, 0))) (w.heap.size + 1) 28 #[.bool s2, .int .u64 (h2 : Int), .int .u64 (l2 : Int)] := by
    have this := Blk.new (w.alloc (.cells #[.bool s1, .int .u64 (h1 : Int), .int .u64 (l1 : Int)] 28 (0, 0))) 28 #[.bool s2, .int .u64 (h2 : Int), .int .u64 (l2 : Int)]
    rw [World.size_alloc] at this
    exact this
  have HQ := Lib.hid HQ'
  clear HQ'
  have HB : Hid (Below w.heap.size w ((w.alloc (.cells #[.bool s1, .int .u64 (h1 : Int), .int .u64 (l1 : Int)] 28 (0, 0))).alloc (.cells #[.bool s2, .int .u64 (h2 : Int), .int .u64 (l2 : Int)] 28 (0, 0)))) := Lib.hid (below_alloc (below_alloc (Below.refl _ _) _) _)
  have HC := Lib.hid fun wx => spanCompare_any s1 h1 l1 s2 h2 l2 wx a1 a2 a3 a4
  generalize cN (numA s1 h1 l1) (numA s2 h2 l2) = C at *
  go_enter Tryd.func11, Tryd.ntmps11
  go_upto_region 1 with fail
  generalize ((w.alloc (.cells #[.bool s1, .int .u64 (h1 : Int), .int .u64 (l1 : Int)] 28 (0, 0))).alloc (.cells #[.bool s2, .int .u64 (h2 : Int), .int .u64 (l2 : Int)] 28 (0, 0))) = w1 at *
  have p0 := HP.out.cell 0
  have p1 := HP.out.cell 1
  have p2 := HP.out.cell 2
  simp at p0 p1 p2
  have q0 := HQ.out.cell 0
  have q1 := HQ.out.cell 1
  have q2 := HQ.out.cell 2
  simp at q0 q1 q2
  go_wp2_with fail
  refine (HC.out _).mono ?_
  rintro e w2 ⟨rfl, hb⟩
  go_wp2_with fail
  go_ret
  exact ⟨rfl, HB.out.trans (hb.mono HB.out.size)⟩
theorem PW_numA (six : Bool) (hi lo : Nat) (h1 : U64N hi) (h2 : U64N lo) : PW (dv six (dg hi lo)) 9 = numA six hi lo := by
  rw [PW_num, PS_dg_hi _ _ h1, PS_dg_lo _ _ h2]
set_option maxRecDepth 100000 in
set_option maxHeartbeats 1000000 in
theorem order_any (s1 : Bool) (h1 l1 : Nat) (s2 : Bool) (h2 l2 : Nat) (w : World) (a1 : U64N h1) (a2 : U64N l1) (a3 : U64N h2) (a4 : U64N l2) :
    Calls Tryd.prog 12 #[.agg #[.bool s1, .int .u64 (h1 : Int), .int .u64 (l1 : Int)], .agg #[.bool s2, .int .u64 (h2 : Int), .int .u64 (l2 : Int)]] w (Ret (.int .i64 (cN (numA s1 h1 l1) (numA s2 h2 l2))) w) := by
  have HP' : Blk ((w.alloc (.cells #[.bool s1, .int .u64 (h1 : Int), .int .u64 (l1 : Int)] 28 (0, 0))).alloc (.cells #[.bool s2, .int .u64 (h2 : Int), .int .u64 (l2 : Int)] 28 (0, 0))) (w.heap.size) 28 #[.bool s1, .int .u64 (h1 : Int), .int .u64 (l1 : Int)] :=
    (Blk.new w 28 #[.bool s1, .int .u64 (h1 : Int), .int .u64 (l1 : Int)]).alloc _
  have HP := Lib.hid HP'
  clear HP'
  have HQ' : Blk ((w.alloc (.cells #[.bool s1, .int .u64 (h1 : Int), .int .u64 (l1 : Int)] 28 (0, 0))).alloc (.cells #[.bool s2, .int .u64 (h2 : Int), .int .u64 (l2 : Int)] 28 (0, 0))) (w.heap.size + 1) 28 #[.bool s2, .int .u64 (h2 : Int), .int .u64 (l2 : Int)] := by
    have this := Blk.new (w.alloc (.cells #[.bool s1, .int .u64 (h1 : Int), .int .u64 (l1 : Int)] 28 (0, 0))) 28 #[.bool s2, .int .u64 (h2 : Int), .int .u64 (l2 : Int)]
    rw [World.size_alloc] at this
    exact this
  have HQ := Lib.hid HQ'
  clear HQ'
  have HB : Hid (Below w.heap.size w ((w.alloc (.cells #[.bool s1, .int .u64 (h1 : Int), .int .u64 (l1 : Int)] 28 (0, 0))).alloc (.cells #[.bool s2, .int .u64 (h2 : Int), .int .u64 (l2 : Int)] 28 (0, 0)))) := Lib.hid (below_alloc (below_alloc (Below.refl _ _) _) _)
  have HO1 := Lib.hid fun wx => of_any s1 h1 l1 wx a1 a2
  have HO2 := Lib.hid fun wx => of_any s2 h2 l2 wx a3 a4
  have HC := Lib.hid fun wx => wideCmp_any s1 s2 (dg h1 l1) (dg h2 l2) wx (dg_lt _ _) (dg_lt _ _)
  rw [PW_numA _ _ _ a1 a2, PW_numA _ _ _ a3 a4] at HC
  rw [wCells_wv] at HO1 HO2
  unfold vA at HO1 HO2
  generalize cN (numA s1 h1 l1) (numA s2 h2 l2) = C at *
  generalize wv s1 (dg h1 l1) = V1 at *
  generalize wv s2 (dg h2 l2) = V2 at *
  go_enter Tryd.func12, Tryd.ntmps12
  go_upto_region 1 with fail
  generalize ((w.alloc (.cells #[.bool s1, .int .u64 (h1 : Int), .int .u64 (l1 : Int)] 28 (0, 0))).alloc (.cells #[.bool s2, .int .u64 (h2 : Int), .int .u64 (l2 : Int)] 28 (0, 0))) = w1 at *
  have p0 := HP.out.cell 0
  have p1 := HP.out.cell 1
  have p2 := HP.out.cell 2
  simp at p0 p1 p2
  have q0 := HQ.out.cell 0
  have q1 := HQ.out.cell 1
  have q2 := HQ.out.cell 2
  simp at q0 q1 q2
  have hsz : w.heap.size + 1 < w1.heap.size := HQ.out.lt
  have k1 := fun (m : Later w1) => m.cell (i := 0) (Nat.lt_of_succ_lt hsz)
  have k2 := fun (m : Later w1) => m.cell (i := 1) (Nat.lt_of_succ_lt hsz)
  have k3 := fun (m : Later w1) => m.cell (i := 2) (Nat.lt_of_succ_lt hsz)
  have k4 := fun (m : Later w1) => m.cell (i := 0) hsz
  have k5 := fun (m : Later w1) => m.cell (i := 1) hsz
  have k6 := fun (m : Later w1) => m.cell (i := 2) hsz
  have hO1 := fun m : Later w1 => Calls.later m (HO1.out m.1)
  have hO2 := fun m : Later w1 => Calls.later m (HO2.out m.1)
  have hC := fun m : Later w1 => Calls.later m (HC.out m.1)
  refine wp_region_later (by kernel_rfl) (by kernel_rfl) ?_
  repeat (go_big_quiet_step (fail))
  go_big_quiet_step ((go_at_call 17; exact hO1 _))
  repeat (go_big_quiet_step (fail))
  go_big_quiet_step ((go_at_call 17; exact hO2 _))
  repeat (go_big_quiet_step (fail))
  go_big_quiet_step ((go_at_call 25; exact hC _))
  repeat (go_big_quiet_step (fail))
  refine wpQuiet_nil ?_
  rintro w2 ⟨n2, hn2⟩
  have hb : Below w1.heap.size w1 w2 := by rw [hn2]; exact n2.2
  clear hn2 n2 hO1 hO2 hC k1 k2 k3 k4 k5 k6
  have HB2 := Lib.hid (HB.out.trans (hb.mono HB.out.size))
  clear hb
  go_wp2_with fail
  go_ret
  exact ⟨rfl, HB2.out⟩
end Go.Proofs.YtofjlpnebfijoaaDoor
