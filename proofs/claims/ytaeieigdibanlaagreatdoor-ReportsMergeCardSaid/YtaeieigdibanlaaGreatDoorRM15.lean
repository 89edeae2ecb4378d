/-
  The error of Median and Spread: the program's and the reference's.
  Gcd and Lowest of the program, Lowest of the reference: the same fraction. Conditions: the numerator is not below 0, the denominator above 0.
  Median and Spread of the program, MedianOf and SpreadOf of the reference, flowing: of at most 3000 numbers.
  The reference's stream of numbers (Numbers), and flowing.
-/
import Derived.Test.YtaeieigdibanlaaGreatDoorRM13
import Derived.Test.YtaeieigdibanlaaGreatDoorRM1
import Derived.StillTailTactics
set_option linter.unusedVariables false
namespace Go.Proofs.YtaeieigdibanlaaGreatDoor
open Go.RowKit Go
set_option linter.unusedVariables false

def badN (z : Int) : Bool := outB z 0 2000000000000
/-- the error of numbers, not more than 3000 -/
def nFault (zs : List Int) : Int := if zs.length = 0 then 8 else if zs.any badN = true then 1 else 0
theorem nFault_small {zs : List Int} (h : nFault zs = 0) : Small zs ∧ 1 ≤ zs.length := by
  unfold nFault at h
  split at h
  · cases h
  · split at h
    · cases h
    · rename_i h1 h2
      refine ⟨fun z hz => ?_, by omega⟩
      have : badN z = false := by
        cases hb : badN z
        · rfl
        · exact absurd (List.any_eq_true.2 ⟨z, hz, hb⟩) h2
      simp [badN, outB] at this
      omega

set_option maxRecDepth 100000 in
set_option maxHeartbeats 1000000 in
theorem bad_any (z : Int) (w : World) : Calls Tryz.prog 141 #[.int .i64 z] w fun e w' => e = .returned (.bool (badN z)) ∧ w' = w := by
  unfold badN
  go_enter Tryz.func141, Tryz.ntmps141
  go_wp2_with (go_at_call 53; refine (outside_any _ _ _ _).mono ?_; rintro e w' ⟨rfl, rfl⟩)
  go_ret
  exact ⟨rfl, rfl⟩

set_option maxRecDepth 100000 in
set_option maxHeartbeats 1000000 in
theorem index_bad (g o n c : Nat) (zs : List Int) (w : World) (h : RdInts w g o n zs) (hn : n ≤ 1000000) :
    Calls Tryz.prog 176 #[.slice (some ⟨g, o, none⟩) n c, .func (.func 141) #[] #[]] w fun e w' => ∃ k : Int, e = .returned (.int .i64 k) ∧ decide (0 ≤ k) = zs.any badN ∧ w' = w := by
  obtain ⟨hl, hg, hc⟩ := h
  have Hc := Lib.hid hc
  have Hl := Lib.hid hl
  clear hc hl
  go_enter Tryz.func176, Tryz.ntmps176
  go_wp2
  go_loopw [8] (fun i wr => ∃ (k : Nat), k ≤ n ∧ i = .int .i64 k ∧ Hid (∀ j, j < k → badN (zs.getD j 0) = false) ∧ wr = w) (fun i _ => n - (intOf i).toNat)
  case atStart => exact ⟨0, Nat.zero_le _, rfl, Lib.hid fun j hj => absurd hj (Nat.not_lt_zero _), rfl⟩
  case round =>
    obtain ⟨k, hk, rfl, HX, rfl⟩ := hrel
    by_cases hlt : k < n
    · have ck := Hc.out k hlt
      have Hmem := Lib.hid (getD_mem (zs := zs) (i := k) (by have := Hl.out; omega))
      obtain ⟨z, hz⟩ : ∃ z, z = zs.getD k 0 := ⟨_, rfl⟩
      rw [← hz] at ck Hmem
      have Hz := Lib.hid hz
      clear hz
      cases hb : badN z with
      | true =>
        have Hb := Lib.hid hb
        clear hb
        go_wp2_with fail
        refine (bad_any _ _).mono ?_
        rintro e w' ⟨rfl, rfl⟩
        rw [Hb.out]
        go_wp2_with fail
        go_ret
        refine ⟨k, rfl, ?_, rfl⟩
        rw [List.any_eq_true.2 ⟨z, Hmem.out, Hb.out⟩]
        simp
      | false =>
        have Hb := Lib.hid hb
        clear hb
        go_wp2_with fail
        refine (bad_any _ _).mono ?_
        rintro e w' ⟨rfl, rfl⟩
        rw [Hb.out]
        go_wp2_with fail
        refine ⟨⟨k + 1, by omega, by go_num, Lib.hid fun j hj => ?_, by first | rfl | trivial⟩, by simp [intOf]; omega⟩
        rcases Nat.lt_or_ge j k with h | h
        · exact HX.out j h
        · obtain rfl : j = k := by omega
          rw [← Hz.out]; exact Hb.out
    · obtain rfl : k = n := by omega
      go_wp2
      go_ret
      refine ⟨-1, rfl, ?_, rfl⟩
      have : zs.any badN = false := by
        rw [Bool.eq_false_iff]
        intro hh
        obtain ⟨z, hz, hb⟩ := List.any_eq_true.1 hh
        obtain ⟨j, hj, rfl⟩ := List.getElem_of_mem hz
        have := HX.out j (by have := Hl.out; omega)
        rw [List.getD_eq_getElem?_getD, List.getElem?_eq_getElem hj] at this
        simp at this
        rw [this] at hb
        cases hb
      rw [this]
      rfl

set_option maxRecDepth 100000 in
set_option maxHeartbeats 1000000 in
theorem contains_bad (g o n c : Nat) (zs : List Int) (w : World) (h : RdInts w g o n zs) (hn : n ≤ 1000000) :
    Calls Tryz.prog 140 #[.slice (some ⟨g, o, none⟩) n c, .func (.func 141) #[] #[]] w fun e w' => e = .returned (.bool (zs.any badN)) ∧ w' = w := by
  have Hi := Lib.hid (index_bad g o n c zs w h hn)
  generalize zs.any badN = b at *
  clear h
  go_enter Tryz.func140, Tryz.ntmps140
  go_wp2_with fail
  refine Hi.out.mono ?_
  rintro e w' ⟨k, rfl, hk, rfl⟩
  subst hk
  go_wp2
  go_ret
  exact ⟨rfl, rfl⟩

set_option maxRecDepth 100000 in
set_option maxHeartbeats 1000000 in
theorem numbersFault_any (g o n c : Nat) (zs : List Int) (w : World) (h : RdInts w g o n zs) (hn : 1 ≤ n ∧ n ≤ 3000) :
    Calls Tryz.prog 101 #[.slice (some ⟨g, o, none⟩) n c] w fun e w' => e = .returned (.int .i64 (nFault zs)) ∧ w' = w := by
  have hf : nFault zs = if zs.any badN = true then 1 else 0 := by unfold nFault; rw [if_neg (by have := h.1; omega)]
  rw [hf]
  have Hi := Lib.hid (contains_bad g o n c zs w h (by omega))
  have h0 : ¬ (n : Int) = 0 := by omega
  have h1 : ¬ 3000 < (n : Int) := by omega
  clear h hf
  generalize zs.any badN = b at *
  cases b
  all_goals
    go_enter Tryz.func101, Tryz.ntmps101
    go_wp2_with fail
    refine Hi.out.mono ?_
    rintro e w' ⟨rfl, rfl⟩
    go_wp2_with fail
    go_ret
    exact ⟨rfl, rfl⟩

end Go.Proofs.YtaeieigdibanlaaGreatDoor

namespace Go.Proofs.YtaeieigdibanlaaGreatDoor
open Go.RowKit Go
set_option linter.unusedVariables false

def I62 (x : Int) : Prop := 0 ≤ x ∧ x ≤ 2305843009213693952
theorem gcd_step {x y : Int} (h : 0 ≤ x) (hy : 0 ≤ y) : Int.gcd y (x.tmod y) = Int.gcd x y := by
  obtain ⟨m, rfl⟩ := Int.eq_ofNat_of_zero_le h
  obtain ⟨n, rfl⟩ := Int.eq_ofNat_of_zero_le hy
  rw [← Int.ofNat_tmod]
  simp only [Int.gcd, Int.natAbs_natCast]
  rw [Nat.gcd_comm m n, Nat.gcd_rec n m, Nat.gcd_comm]
theorem gcd_zero {x : Int} (h : 0 ≤ x) : ((Int.gcd x 0 : Nat) : Int) = x := by
  simp only [Int.gcd_zero]; omega
def fracN (a b : Int) : Int := a / (Int.gcd a b : Nat)
def fracD (a b : Int) : Int := b / (Int.gcd a b : Nat)

theorem tmod_lt {x y : Int} (h : 0 ≤ x) (hy : 0 < y) : 0 ≤ x.tmod y ∧ x.tmod y < y := by
  rw [Int.tmod_eq_emod_of_nonneg h]
  exact ⟨Int.emod_nonneg _ (by omega), Int.emod_lt_of_pos _ hy⟩

set_option maxRecDepth 100000 in
set_option maxHeartbeats 1000000 in
theorem gcd_any (a b : Int) (w : World) (ha : I62 a) (hb : I62 b) :
    Calls Tryz.prog 142 #[.int .i64 a, .int .i64 b] w fun e w' => e = .returned (.int .i64 (Int.gcd a b : Nat)) ∧ ∃ n, w' = w.drewN n := by
  obtain ⟨g, hg⟩ : ∃ g, g = Int.gcd a b := ⟨_, rfl⟩
  rw [← hg]
  have Hg := Lib.hid hg
  clear hg
  go_enter Tryz.func142, Tryz.ntmps142
  go_wp2
  go_loopw [0, 1] (fun s0 s1 wr => ∃ (x y : Int) (q : Nat), s0 = .int .i64 x ∧ s1 = .int .i64 y ∧ I62 x ∧ I62 y ∧ Hid (Int.gcd x y = g) ∧ wr = w.drewN q) (fun _ s1 _ => (intOf s1).toNat)
  case atStart => exact ⟨a, b, 0, rfl, rfl, ha, hb, Lib.hid Hg.out.symm, rfl⟩
  case round =>
    obtain ⟨x, y, q, rfl, rfl, hx, hy, HG, rfl⟩ := hrel
    obtain ⟨hx0, hx1⟩ := hx
    obtain ⟨hy0, hy1⟩ := hy
    by_cases h0 : y = 0
    · subst h0
      have hG := HG.out
      have Hx := Lib.hid (gcd_zero hx0)
      rw [hG] at Hx
      clear hG
      go_wp2
      go_ret
      exact ⟨ret_int (by have := Hx.out; omega), _, rfl⟩
    · have Hm := Lib.hid (tmod_lt hx0 (show 0 < y by omega))
      have Hs := Lib.hid (gcd_step hx0 hy0)
      obtain ⟨r, hr⟩ : ∃ r, r = x.tmod y := ⟨_, rfl⟩
      rw [← hr] at Hm Hs
      have hr' := hr.symm
      clear hr
      go_wp2_with fail
      go_quiet (fail)
      go_wp2_with fail
      have := Hm.out
      refine ⟨⟨y, r, q + nq, ?_, ?_, ⟨hy0, hy1⟩, ⟨this.1, by omega⟩, Lib.hid (Hs.out.trans HG.out), ?_⟩, ?_⟩
      all_goals first | rfl | trivial | exact World.drewN_drewN .. | (simp [intOf]; omega)

theorem gcd_pos {a b : Int} (hb : 0 < b) : 0 < ((Int.gcd a b : Nat) : Int) := by
  have : Int.gcd a b ≠ 0 := fun h => by have := (Int.gcd_eq_zero_iff.1 h).2; omega
  omega
theorem tdiv_ok {x y : Int} (h : I62 x) (hy : 0 < y) : x.tdiv y = x / y ∧ 0 ≤ x / y ∧ x / y ≤ 2305843009213693952 :=
  ⟨Int.tdiv_eq_ediv_of_nonneg h.1, Int.ediv_nonneg h.1 (by omega), Int.le_trans (Int.ediv_le_self _ h.1) h.2⟩

set_option maxRecDepth 100000 in
set_option maxHeartbeats 1000000 in
theorem lowest_any (a b : Int) (w : World) (ha : I62 a) (hb : I62 b) (h0 : 0 < b) :
    Calls Tryz.prog 102 #[.int .i64 a, .int .i64 b] w (Ret (.agg #[.int .i64 (fracN a b), .int .i64 (fracD a b)]) w) := by
  have Hp := Lib.hid (gcd_pos (a := a) h0)
  obtain ⟨hN, hN0, hN1⟩ := tdiv_ok ha Hp.out
  obtain ⟨hD, hD0, hD1⟩ := tdiv_ok hb Hp.out
  have HI := Lib.hid (And.intro ha hb)
  unfold fracN fracD
  have hb0 : ¬ b < 0 := by omega
  go_enter Tryz.func102, Tryz.ntmps102
  go_wp2_with fail
  refine (gcd_any a b _ HI.out.1 HI.out.2).mono ?_
  rintro e w1 ⟨rfl, n, rfl⟩
  generalize ((Int.gcd a b : Nat) : Int) = g at *
  have hg0 := Hp.out
  have hg1 : ¬ g = 0 := by omega
  have hg2 : ¬ g = -1 := by omega
  clear hg0
  generalize a / g = x at *
  generalize b / g = y at *
  have HB : Hid (Blk (((w.alloc (.cells #[.int .i64 0, .int .i64 0] 85 (0, 0))).drewN n).drew) w.heap.size 85 #[.int .i64 0, .int .i64 0]) := Lib.hid (Blk.new w _ _)
  have HW : Hid (Below w.heap.size w (((w.alloc (.cells #[.int .i64 0, .int .i64 0] 85 (0, 0))).drewN n).drew)) := Lib.hid (below_drew (below_drewN (below_alloc (Below.refl _ _) _) _))
  go_wp2_with fail
  go_still_tail 7, (by kernel_rfl)
  rw [IntWalk.i64_in x (by omega), IntWalk.i64_in y (by omega)]
  change wpList _ _ _ _ _ (((w.alloc (.cells #[.int .i64 0, .int .i64 0] 85 (0, 0))).drewN n).drew)
  generalize (((w.alloc (.cells #[.int .i64 0, .int .i64 0] 85 (0, 0))).drewN n).drew) = w2 at *
  have c0 := HB.out.cell 0
  have c1 := HB.out.cell 1
  have f0 := HB.out.free
  simp at c0 c1
  go_wp2
  refine bodyPost_ret (v := .agg #[.int .i64 x, .int .i64 y]) (by simp [results, Tryz.results102, go_sem, c0, c1]) rfl ⟨rfl, ?_⟩
  exact below_set (below_set HW.out (Nat.le_refl _) _ _) (Nat.le_refl _) _ _
end Go.Proofs.YtaeieigdibanlaaGreatDoor

namespace Go.Proofs.YtaeieigdibanlaaGreatDoor
open Go.RowKit Go
set_option linter.unusedVariables false

def FrBlk (w : World) (B : Nat) (a b : Int) : Prop := Blk w B 85 #[.int .i64 a, .int .i64 b]
theorem FrBlk.cells {w : World} {B : Nat} {a b : Int} (h : FrBlk w B a b) : w.cell? ⟨B, 0, none⟩ = some (.int .i64 a) ∧ w.cell? ⟨B, 1, none⟩ = some (.int .i64 b) ∧ ∀ i, w.frozen? ⟨B, i, none⟩ = false := ⟨Blk.cell h 0, Blk.cell h 1, Blk.free h⟩

set_option maxRecDepth 100000 in
set_option maxHeartbeats 1000000 in
theorem median_good (g o n c : Nat) (zs : List Int) (w : World) (h : RdInts w g o n zs) (hn : 1 ≤ n ∧ n ≤ 3000) (hf : nFault zs = 0) :
    Calls Tryz.prog 56 #[.slice (some ⟨g, o, none⟩) n c] w (Ret (.tuple #[.agg #[.int .i64 (fracN (mid zs) 2), .int .i64 (fracD (mid zs) 2)], .int .i64 0]) w) := by
  have Hc := Lib.hid fun (w : World) h => numbersFault_any g o n c zs w h hn
  obtain ⟨hsm, h1⟩ := nFault_small hf
  have HI : Hid (I62 (mid zs)) := Lib.hid (by have := mid_I62 hsm h1; exact ⟨by omega, by omega⟩)
  have HA : FrBlk (w.alloc (.cells #[.int .i64 0, .int .i64 0] 85 (0, 0))) w.heap.size 0 0 := Blk.new w _ _
  have HB := Lib.hid (below_alloc (Below.refl w.heap.size w) (.cells #[.int .i64 0, .int .i64 0] 85 (0, 0)))
  have HR := Lib.hid (h.alloc (.cells #[.int .i64 0, .int .i64 0] 85 (0, 0)))
  have HS := Lib.hid hsm
  have HL := Lib.hid fun w => lowest_any (mid zs) 2 w HI.out ⟨by omega, by omega⟩ (by omega)
  generalize fracN (mid zs) 2 = p at *
  generalize fracD (mid zs) 2 = q at *
  rw [hf] at Hc
  have Hn := Lib.hid hn
  have hlt : w.heap.size < (w.alloc (.cells #[.int .i64 0, .int .i64 0] 85 (0, 0))).heap.size := HA.lt
  clear h hsm h1 hn hf
  go_enter Tryz.func56, Tryz.ntmps56
  go_wp2_with fail
  refine (Hc.out _ HR.out).mono ?_
  rintro e w1 ⟨rfl, rfl⟩
  generalize (w.alloc (.cells #[.int .i64 0, .int .i64 0] 85 (0, 0))) = w1 at *
  go_wp2_with fail
  refine (middle_any g o n c zs _ HR.out ⟨Hn.out.1, by have := Hn.out; omega⟩ HS.out.sized).mono ?_
  rintro e w2 ⟨rfl, hB2⟩
  have HA2 : FrBlk w2 w.heap.size 0 0 := Blk.below HA hB2 hlt
  have HB2 := Lib.hid (HB.out.trans (hB2.mono (by omega)))
  have hlt2 := HA2.lt
  clear hB2 HA hlt
  go_wp2_with fail
  refine (HL.out _).mono ?_
  rintro e w3 ⟨rfl, hB3⟩
  have HA3 : FrBlk w3 w.heap.size 0 0 := Blk.below HA2 hB3 hlt2
  have HB3 := Lib.hid (HB2.out.trans (hB3.mono (by omega)))
  obtain ⟨c0, c1, f0⟩ := HA3.cells
  clear hB3 HA2 hlt2 HA3
  go_wp2_with fail
  refine bodyPost_ret (v := .tuple #[.agg #[.int .i64 p, .int .i64 q], .int .i64 0]) (by simp [results, Tryz.results56, go_sem, c0, c1]) rfl ⟨rfl, ?_⟩
  repeat refine Below.setCell ?_ (by simp) _
  exact HB3.out

end Go.Proofs.YtaeieigdibanlaaGreatDoor

namespace Go.Proofs.YtaeieigdibanlaaGreatDoor
open Go.RowKit Go
set_option linter.unusedVariables false

theorem OwnI.gen {w w' : World} {b B m : Nat} {v : Value} {zs : List Int} (h : OwnI w B v zs) (hg : Gen b w w' m) (hb : b < B) : OwnI w' B v zs :=
  World.ownsRow.kept h hg.g (by
    cases hv : v.ownBlock with
    | none => exact .inl rfl
    | some k => exact .inr (by have := own_base h k hv; simp; omega))
theorem OwnI.set {w : World} {B g c : Nat} {zs : List Int} (h : OwnI w B (.slice (some ⟨g, 0, none⟩) zs.length c) zs) (i : Nat) (hi : i < zs.length) (x : Int) :
    OwnI (w.setCell ⟨g, i, none⟩ (.int .i64 x)) B (.slice (some ⟨g, 0, none⟩) zs.length c) (zs.set i x) := by
  rcases h.2 with ⟨hv, _⟩ | ⟨g2, c2, cur, hv, hb, hg, hc, hm, hs, ht⟩
  · cases hv
  · simp at hv
    obtain ⟨rfl, rfl⟩ := hv
    refine ⟨by simp [encIs], .inr ⟨g, c, cur.setIfInBounds i (.int .i64 x), by simp, hb, heap_setCell_same w g i cur _ _ hg, by simpa using hc, hm, by simpa using hs, ?_⟩⟩
    rw [Array.toList_setIfInBounds, List.take_set, List.length_set, ht]
    simp [encIs, List.map_set]
theorem OwnI.frozen {w : World} {B g c n : Nat} {zs : List Int} (h : OwnI w B (.slice (some ⟨g, 0, none⟩) n c) zs) (i : Nat) : w.frozen? ⟨g, i, none⟩ = false := by
  rcases h.2 with ⟨hv, _⟩ | ⟨g2, c2, cur, hv, hb, hg, hc, hm, hs, ht⟩
  · cases hv
  · simp at hv
    obtain ⟨rfl, _⟩ := hv
    exact frozen_of_row w g i cur _ hg

theorem nFault_three : nFault [1, 2, 9] = 0 := by decide
theorem mid_three : fracN (mid [1, 2, 9]) 2 = 2 ∧ fracD (mid [1, 2, 9]) 2 = 1 := by
  have : mid [1, 2, 9] = 4 := by
    unfold mid sortI
    rw [List.mergeSort_of_pairwise (by decide)]
    rfl
  rw [this]
  decide

set_option maxRecDepth 100000 in
set_option maxHeartbeats 1000000 in
theorem flowing_any (w : World) : Calls Tryz.prog 17 #[] w (Ret (.bool true) w) := by
  have HR := Lib.hid (rdInts_new w 3 [1, 2, 9] #[.int .i64 1, .int .i64 2, .int .i64 9] rfl)
  have HB := Lib.hid (below_alloc (Below.refl w.heap.size w) (.cells #[.int .i64 1, .int .i64 2, .int .i64 9] 3 (0, 0)))
  go_enter Tryz.func17, Tryz.ntmps17
  go_wp2_with fail
  refine (median_good w.heap.size 0 3 3 _ _ HR.out (by omega) nFault_three).mono ?_
  rintro e w2 ⟨rfl, hB⟩
  rw [mid_three.1, mid_three.2]
  have HB2 := Lib.hid (HB.out.trans (hB.mono (by simp)))
  clear hB HB HR
  go_wp2
  go_ret
  exact ⟨rfl, by repeat (first | exact HB2.out | apply below_alloc | apply below_drewN | refine below_set ?_ (HB2.out.size) _ _)⟩
end Go.Proofs.YtaeieigdibanlaaGreatDoor
