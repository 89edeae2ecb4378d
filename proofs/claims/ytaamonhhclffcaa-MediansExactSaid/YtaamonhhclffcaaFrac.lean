/-
  Gcd and Lowest of the program, Lowest of the reference: the same fraction. Conditions: the numerator is not below 0, the denominator above 0.
-/
import Derived.Test.YtaamonhhclffcaaInts
import Derived.Test.YtaamonhhclffcaaGenC
import Derived.StillTailTactics
namespace Go.Proofs.Ytaamonhhclffcaa
open Go.RowKit Go
set_option linter.unusedVariables false

def I62 (x : Int) : Prop := 0 ≤ x ∧ x ≤ 2305843009213693952
theorem gcd_step {x y : Int} (h : 0 ≤ x) (hy : 0 ≤ y) : Int.gcd y (x.tmod y) = Int.gcd x y := by
  obtain ⟨m, rfl⟩ := Int.eq_ofNat_of_zero_le h
  obtain ⟨n, rfl⟩ := Int.eq_ofNat_of_zero_le hy
  rw [← Int.ofNat_tmod]
  simp only [Int.gcd, Int.natAbs_natCast]
  rw [Nat.gcd_comm m n, Nat.gcd_rec n m, Nat.gcd_comm]
theorem gcd_zero {x : Int} (h : 0 ≤ x) : ((Int.gcd x 0 : Nat) : Int) = x := by
  simp only [Int.gcd_zero]; omega
def fracN (a b : Int) : Int := a / (Int.gcd a b : Nat)
def fracD (a b : Int) : Int := b / (Int.gcd a b : Nat)

theorem tmod_lt {x y : Int} (h : 0 ≤ x) (hy : 0 < y) : 0 ≤ x.tmod y ∧ x.tmod y < y := by
  rw [Int.tmod_eq_emod_of_nonneg h]
  exact ⟨Int.emod_nonneg _ (by omega), Int.emod_lt_of_pos _ hy⟩

set_option maxRecDepth 100000 in
set_option maxHeartbeats 1000000 in
theorem gcd_any (a b : Int) (w : World) (ha : I62 a) (hb : I62 b) :
    Calls Try.prog 111 #[.int .i64 a, .int .i64 b] w fun e w' => e = .returned (.int .i64 (Int.gcd a b : Nat)) ∧ ∃ n, w' = w.drewN n := by
  obtain ⟨g, hg⟩ : ∃ g, g = Int.gcd a b := ⟨_, rfl⟩
  rw [← hg]
  have Hg := Lib.hid hg
  clear hg
  go_enter Try.func111, Try.ntmps111
  go_wp2
  go_loopw [0, 1] (fun s0 s1 wr => ∃ (x y : Int) (q : Nat), s0 = .int .i64 x ∧ s1 = .int .i64 y ∧ I62 x ∧ I62 y ∧ Hid (Int.gcd x y = g) ∧ wr = w.drewN q) (fun _ s1 _ => (intOf s1).toNat)
  case atStart => exact ⟨a, b, 0, rfl, rfl, ha, hb, Lib.hid Hg.out.symm, rfl⟩
  case round =>
    obtain ⟨x, y, q, rfl, rfl, hx, hy, HG, rfl⟩ := hrel
    obtain ⟨hx0, hx1⟩ := hx
    obtain ⟨hy0, hy1⟩ := hy
    by_cases h0 : y = 0
    · subst h0
      have hG := HG.out
      have Hx := Lib.hid (gcd_zero hx0)
      rw [hG] at Hx
      clear hG
      go_wp2
      go_ret
      exact ⟨ret_int (by have := Hx.out; omega), _, rfl⟩
    · have Hm := Lib.hid (tmod_lt hx0 (show 0 < y by omega))
      have Hs := Lib.hid (gcd_step hx0 hy0)
      obtain ⟨r, hr⟩ : ∃ r, r = x.tmod y := ⟨_, rfl⟩
      rw [← hr] at Hm Hs
      have hr' := hr.symm
      clear hr
      go_wp2_with fail
      go_quiet (fail)
      go_wp2_with fail
      have := Hm.out
      refine ⟨⟨y, r, q + nq, ?_, ?_, ⟨hy0, hy1⟩, ⟨this.1, by omega⟩, Lib.hid (Hs.out.trans HG.out), ?_⟩, ?_⟩
      all_goals first | rfl | trivial | exact World.drewN_drewN .. | (simp [intOf]; omega)

theorem gcd_pos {a b : Int} (hb : 0 < b) : 0 < ((Int.gcd a b : Nat) : Int) := by
  have : Int.gcd a b ≠ 0 := fun h => by have := (Int.gcd_eq_zero_iff.1 h).2; omega
  omega
theorem gcd_le {a b : Int} (hb : 0 < b) : ((Int.gcd a b : Nat) : Int) ≤ b := Int.le_of_dvd hb (Int.gcd_dvd_right ..)
theorem tdiv_ok {x y : Int} (h : I62 x) (hy : 0 < y) : x.tdiv y = x / y ∧ 0 ≤ x / y ∧ x / y ≤ 2305843009213693952 :=
  ⟨Int.tdiv_eq_ediv_of_nonneg h.1, Int.ediv_nonneg h.1 (by omega), Int.le_trans (Int.ediv_le_self _ h.1) h.2⟩

set_option maxRecDepth 100000 in
set_option maxHeartbeats 1000000 in
theorem lowest_any (a b : Int) (w : World) (ha : I62 a) (hb : I62 b) (h0 : 0 < b) :
    Calls Try.prog 83 #[.int .i64 a, .int .i64 b] w (Ret (.agg #[.int .i64 (fracN a b), .int .i64 (fracD a b)]) w) := by
  have Hp := Lib.hid (gcd_pos (a := a) h0)
  obtain ⟨hN, hN0, hN1⟩ := tdiv_ok ha Hp.out
  obtain ⟨hD, hD0, hD1⟩ := tdiv_ok hb Hp.out
  have HI := Lib.hid (And.intro ha hb)
  unfold fracN fracD
  have hb0 : ¬ b < 0 := by omega
  go_enter Try.func83, Try.ntmps83
  go_wp2_with fail
  refine (gcd_any a b _ HI.out.1 HI.out.2).mono ?_
  rintro e w1 ⟨rfl, n, rfl⟩
  generalize ((Int.gcd a b : Nat) : Int) = g at *
  have hg0 := Hp.out
  have hg1 : ¬ g = 0 := by omega
  have hg2 : ¬ g = -1 := by omega
  clear hg0
  generalize a / g = x at *
  generalize b / g = y at *
  have HB : Hid (Blk (((w.alloc (.cells #[.int .i64 0, .int .i64 0] 73 (0, 0))).drewN n).drew) w.heap.size 73 #[.int .i64 0, .int .i64 0]) := Lib.hid (Blk.new w _ _)
  have HW : Hid (Below w.heap.size w (((w.alloc (.cells #[.int .i64 0, .int .i64 0] 73 (0, 0))).drewN n).drew)) := Lib.hid (below_drew (below_drewN (below_alloc (Below.refl _ _) _) _))
  go_wp2_with fail
  go_still_tail 7, (by kernel_rfl)
  rw [IntWalk.i64_in x (by omega), IntWalk.i64_in y (by omega)]
  change wpList _ _ _ _ _ (((w.alloc (.cells #[.int .i64 0, .int .i64 0] 73 (0, 0))).drewN n).drew)
  generalize (((w.alloc (.cells #[.int .i64 0, .int .i64 0] 73 (0, 0))).drewN n).drew) = w2 at *
  have c0 := HB.out.cell 0
  have c1 := HB.out.cell 1
  have f0 := HB.out.free
  simp at c0 c1
  go_wp2
  refine bodyPost_ret (v := .agg #[.int .i64 x, .int .i64 y]) (by simp [results, Try.results83, go_sem, c0, c1]) rfl ⟨rfl, ?_⟩
  exact below_set (below_set HW.out (Nat.le_refl _) _ _) (Nat.le_refl _) _ _
set_option maxRecDepth 100000 in
set_option maxHeartbeats 1000000 in
theorem qlowest_any (a b : Int) (w : World) (ha : I62 a) (hb : I62 b) (h0 : 0 < b) :
    Calls Try.prog 86 #[.int .i64 a, .int .i64 b] w (Ret (.agg #[.int .i64 (fracN a b), .int .i64 (fracD a b)]) w) := by
  have Hp := Lib.hid (gcd_pos (a := a) h0)
  obtain ⟨hN, hN0, hN1⟩ := tdiv_ok ha Hp.out
  obtain ⟨hD, hD0, hD1⟩ := tdiv_ok hb Hp.out
  have HI := Lib.hid (And.intro ha hb)
  unfold fracN fracD
  have hg : ∃ g, g = Int.gcd a b := ⟨_, rfl⟩
  obtain ⟨g0, hg⟩ := hg
  rw [← hg] at hN hD hN0 hN1 hD0 hD1 Hp ⊢
  have Hg := Lib.hid hg
  clear hg
  go_enter Try.func86, Try.ntmps86
  go_wp2
  go_loopw [5, 6] (fun s0 s1 wr => ∃ (x y : Int) (q : Nat), s0 = .int .i64 x ∧ s1 = .int .i64 y ∧ I62 x ∧ I62 y ∧ Hid (Int.gcd x y = g0) ∧ wr = (w.alloc (.cells #[.int .i64 0, .int .i64 0] 73 (0, 0))).drewN q) (fun _ s1 _ => (intOf s1).toNat)
  case atStart => exact ⟨a, b, 0, rfl, rfl, HI.out.1, HI.out.2, Lib.hid Hg.out.symm, rfl⟩
  case round =>
    obtain ⟨x, y, q, rfl, rfl, hx, hy, HG, rfl⟩ := hrel
    obtain ⟨hx0, hx1⟩ := hx
    obtain ⟨hy0, hy1⟩ := hy
    by_cases h0 : y = 0
    · subst h0
      have hG := HG.out
      have hx := gcd_zero hx0
      rw [hG] at hx
      clear hG HG Hg
      generalize (g0 : Int) = g at *
      subst hx
      have hg0 := Hp.out
      have hg1 : ¬ g = 0 := by omega
      have hg2 : ¬ g = -1 := by omega
      have hg3 : ¬ g < 0 := by omega
      clear hg0 HI h0
      generalize a / g = X at *
      generalize b / g = Y at *
      have HB : Hid (Blk (((w.alloc (.cells #[.int .i64 0, .int .i64 0] 73 (0, 0))).drewN q).drew) w.heap.size 73 #[.int .i64 0, .int .i64 0]) := Lib.hid (Blk.new w _ _)
      have HW : Hid (Below w.heap.size w (((w.alloc (.cells #[.int .i64 0, .int .i64 0] 73 (0, 0))).drewN q).drew)) := Lib.hid (below_drew (below_drewN (below_alloc (Below.refl _ _) _) _))
      go_wp2_with fail
      go_still_tail 7, (by kernel_rfl)
      rw [IntWalk.i64_in X (by omega), IntWalk.i64_in Y (by omega)]
      change wpList _ _ _ _ _ (((w.alloc (.cells #[.int .i64 0, .int .i64 0] 73 (0, 0))).drewN q).drew)
      generalize (((w.alloc (.cells #[.int .i64 0, .int .i64 0] 73 (0, 0))).drewN q).drew) = w2 at *
      have c0 := HB.out.cell 0
      have c1 := HB.out.cell 1
      have f0 := HB.out.free
      simp at c0 c1
      go_wp2
      refine bodyPost_ret (v := .agg #[.int .i64 X, .int .i64 Y]) (by simp [results, Try.results86, go_sem, c0, c1]) rfl ⟨rfl, ?_⟩
      exact below_set (below_set HW.out (Nat.le_refl _) _ _) (Nat.le_refl _) _ _
    · have Hm := Lib.hid (tmod_lt hx0 (show 0 < y by omega))
      have Hs := Lib.hid (gcd_step hx0 hy0)
      obtain ⟨r, hr⟩ : ∃ r, r = x.tmod y := ⟨_, rfl⟩
      rw [← hr] at Hm Hs
      have hr' := hr.symm
      clear hr
      go_wp2_with fail
      go_quiet (fail)
      go_wp2_with fail
      have := Hm.out
      refine ⟨⟨y, r, q + nq, ?_, ?_, ⟨hy0, hy1⟩, ⟨this.1, by omega⟩, Lib.hid (Hs.out.trans HG.out), ?_⟩, ?_⟩
      all_goals first | rfl | trivial | exact World.drewN_drewN .. | (simp [intOf]; omega)
end Go.Proofs.Ytaamonhhclffcaa
