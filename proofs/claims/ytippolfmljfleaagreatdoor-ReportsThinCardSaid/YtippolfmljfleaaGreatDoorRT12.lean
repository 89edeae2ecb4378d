/-
  Sorting an own row of ints, in the words of an own row.
  Twice the median, four times the spread: the program and the reference.
  Four times the spread: the program and the reference give the same number.
  The error of Median and Spread: the program's and the reference's.
  Gcd and Lowest of the program, Lowest of the reference: the same fraction. Conditions: the numerator is not below 0, the denominator above 0.
  Median and Spread of the program, MedianOf and SpreadOf of the reference, flowing: of at most 3000 numbers.
  The reference's stream of numbers (Numbers), and flowing.
  The insertion sort of a list whose last part stands right already, in plain words.
-/
import Derived.Test.YtippolfmljfleaaGreatDoorRT11
import Derived.Test.YtippolfmljfleaaGreatDoorRT1
import Derived.StillTailTactics
import Derived.Test.YtippolfmljfleaaGreatDoorRT9
set_option linter.unusedVariables false
namespace Go.Proofs.YtippolfmljfleaaGreatDoor
open Go.RowKit Go Go.Sort
set_option linter.unusedVariables false

def sortI (zs : List Int) : List Int := zs.mergeSort fun x y => decide (x ≤ y)
theorem sortI_len (zs : List Int) : (sortI zs).length = zs.length := List.length_mergeSort _
theorem sortI_mem {zs : List Int} {z : Int} : z ∈ sortI zs ↔ z ∈ zs := List.mem_mergeSort

theorem putCells_take (enc : Int → Value) (ys : List Int) (cur : Array Value) (h : ys.length ≤ cur.size) :
    (putCells enc 0 ys.toArray cur).size = cur.size ∧ (putCells enc 0 ys.toArray cur).toList.take ys.length = ys.map enc := by
  refine ⟨by simp [putCells], List.ext_getElem? fun i => ?_⟩
  rcases Nat.lt_or_ge i ys.length with hi | hi
  · rw [List.getElem?_take, if_pos hi, Array.getElem?_toList]
    simp only [putCells, Array.getElem?_mapIdx]
    rw [Array.getElem?_eq_getElem (by omega)]
    simp [hi]
  · rw [List.getElem?_eq_none (by simp; omega), List.getElem?_eq_none (by simpa using hi)]

theorem sort_ints (B g n c : Nat) (zs : List Int) (w : World) (h : OwnI w B (.slice (some ⟨g, 0, none⟩) n c) zs) (hn : zs.length = n) (hn1 : 1 ≤ n ∧ n ≤ 1000000) (hB : B ≤ w.heap.size) :
    Calls Tryz.prog 125 #[.slice (some ⟨g, 0, none⟩) n c] w fun e w' => e = .returned (.tuple #[]) ∧ OwnI w' B (.slice (some ⟨g, 0, none⟩) n c) (sortI zs) ∧ Below B w w' := by
  subst hn
  obtain ⟨g', c', cur, hv, hb, hg, hR, hc, hm⟩ := h.slice hn1.1
  obtain ⟨rfl, rfl⟩ : g' = g ∧ c' = c := by simp at hv; exact ⟨hv.1.symm, hv.2.symm⟩
  have hsz : cur.size = c' * 1 := by
    rcases h.2 with ⟨hv, _⟩ | ⟨g2, c2, cur2, hv2, _, hg2, _, _, hs2, _⟩
    · cases hv
    · simp at hv2
      obtain ⟨rfl, rfl⟩ := hv2
      rw [hg] at hg2
      simp at hg2
      rw [hg2]; exact hs2
  have hH : Holds (Value.int .i64) w g' 0 zs.toArray := by
    intro j hj
    have hj' : j < zs.length := by simpa using hj
    refine ⟨?_, ?_⟩
    · rw [hR.2.2 j hj']
      simp [List.getD, hj']
    · exact frozen_of_row w g' (0 + j) cur _ hg
  refine (Tryz.slices_Sort_int g' 0 c' zs w hH (lt_of_block hg) (by omega)).mono ?_
  rintro e w' ⟨rfl, n, os, rfl⟩
  have hys : (sortI zs).length = zs.length := sortI_len zs
  show _ ∧ OwnI (grow (putRow (Value.int .i64) (Sort.ahead w n) g' 0 (sortI zs).toArray) os) B _ (sortI zs) ∧ Below B w (grow (putRow (Value.int .i64) (Sort.ahead w n) g' 0 (sortI zs).toArray) os)
  generalize sortI zs = ys at hys ⊢
  have hlt : g' < w.heap.size := lt_of_block hg
  have hheap : ∀ i, i < w.heap.size → (grow (putRow (Value.int .i64) (Sort.ahead w n) g' 0 ys.toArray) os).heap[i]? = if g' = i then some (.cells (putCells (Value.int .i64) 0 ys.toArray cur) 3 (0, 0)) else w.heap[i]? := by
    intro i hi
    simp only [grow, putRow, mapBlock, Sort.ahead]
    rw [Array.getElem?_append_left (by simpa using hi), Array.getElem?_modify]
    by_cases e : g' = i
    · subst e
      rw [if_pos rfl, if_pos rfl, hg]
      rfl
    · rw [if_neg e, if_neg e]
  obtain ⟨p1, p2⟩ := putCells_take (Value.int .i64) ys cur (by omega)
  refine ⟨rfl, ⟨by simp [encIs], .inr ⟨g', c', _, by rw [hys], hb, by rw [hheap g' hlt, if_pos rfl], by omega, hm, by omega, by rw [Nat.mul_one]; exact p2⟩⟩, ?_⟩
  refine ⟨rfl, rfl, rfl, by simp [grow, putRow, mapBlock, Sort.ahead], fun i hi => ?_⟩
  rw [hheap i (by omega), if_neg (by omega)]
end Go.Proofs.YtippolfmljfleaaGreatDoor

namespace Go.Proofs.YtippolfmljfleaaGreatDoor
open Go.RowKit Go
set_option linter.unusedVariables false

/-- the numbers are of a size that nothing wraps -/
def Sized (zs : List Int) : Prop := ∀ z ∈ zs, -1099511627776000 ≤ z ∧ z ≤ 1099511627776000
def mid (zs : List Int) : Int := (sortI zs).getD ((zs.length - 1) / 2) 0 + (sortI zs).getD (zs.length / 2) 0

theorem mid_bd {zs : List Int} {a b : Int} (h : ∀ z ∈ zs, a ≤ z ∧ z ≤ b) (hn : 1 ≤ zs.length) : 2 * a ≤ mid zs ∧ mid zs ≤ 2 * b := by
  unfold mid
  have h1 := h _ (sortI_mem.1 (getD_mem (zs := sortI zs) (i := (zs.length - 1) / 2) (by rw [sortI_len]; omega)))
  have h2 := h _ (sortI_mem.1 (getD_mem (zs := sortI zs) (i := zs.length / 2) (by rw [sortI_len]; omega)))
  omega
theorem Sized.sort {zs : List Int} (h : Sized zs) : Sized (sortI zs) := fun z hz => h z (sortI_mem.1 hz)
theorem Sized.at {zs : List Int} (h : Sized zs) (i : Nat) : -1099511627776000 ≤ zs.getD i 0 ∧ zs.getD i 0 ≤ 1099511627776000 := by
  rcases Nat.lt_or_ge i zs.length with hi | hi
  · exact h _ (getD_mem hi)
  · rw [List.getD_eq_getElem?_getD, List.getElem?_eq_none hi]; simp

set_option maxRecDepth 100000 in
set_option maxHeartbeats 1000000 in
theorem middle_any (g o n c : Nat) (zs : List Int) (w : World) (h : RdInts w g o n zs) (hn : 1 ≤ n ∧ n ≤ 1000000) (hs : Sized zs) :
    Calls Tryz.prog 89 #[.slice (some ⟨g, o, none⟩) n c] w (Ret (.int .i64 (mid zs)) w) := by
  have hl := h.1
  have HS := Lib.hid hs.sort
  have H := Lib.hid h
  obtain ⟨M, hM⟩ : ∃ M, M = mid zs := ⟨_, rfl⟩
  rw [← hM]
  unfold mid at hM
  rw [hl] at hM
  have HM := Lib.hid hM
  clear h hs hM
  go_enter Tryz.func89, Tryz.ntmps89
  go_wp2_with fail
  refine (clone_ints g o n c zs w H.out hn.2).mono ?_
  rintro e w1 ⟨v, rfl, hO, hB⟩
  obtain ⟨g1, c1, cur, rfl, hb1, _, _, hc1, hm1⟩ := hO.slice (by omega)
  rw [hl] at hO hc1 ⊢
  have HB1 := Lib.hid hB
  have HO1 := Lib.hid hO
  clear hB hO
  go_wp2_with fail
  refine (sort_ints w.heap.size g1 n c1 zs w1 HO1.out hl hn HB1.out.size).mono ?_
  rintro e w2 ⟨rfl, hO, hB⟩
  have HB2 := Lib.hid (HB1.out.trans hB)
  have hys : (sortI zs).length = n := (sortI_len zs).trans hl
  generalize sortI zs = ys at *
  obtain ⟨g2, c2, cur2, hv, _, hg2, hR, _, _⟩ := hO.slice (by omega)
  obtain ⟨rfl, rfl⟩ : g1 = g2 ∧ c1 = c2 := by simp at hv; exact ⟨hv.1, hv.2.2⟩
  obtain ⟨_, hgl, hc⟩ := hR
  have e1 := hc ((n - 1) / 2) (by omega)
  have e2 := hc (n / 2) (by omega)
  have b1 := HS.out.at ((n - 1) / 2)
  have b2 := HS.out.at (n / 2)
  rw [Nat.zero_add] at e1 e2
  generalize ys.getD ((n - 1) / 2) 0 = y1 at *
  generalize ys.getD (n / 2) 0 = y2 at *
  have HH := Lib.hid (And.intro hg2 hv)
  clear hc hg2 hv hO hB HO1 hys hl HS
  have t1 : ((n : Int) - 1).tdiv 2 = (((n - 1) / 2 : Nat) : Int) := by rw [Int.tdiv_eq_ediv_of_nonneg (by omega)]; omega
  have t2 : (n : Int).tdiv 2 = ((n / 2 : Nat) : Int) := by rw [Int.tdiv_eq_ediv_of_nonneg (by omega)]; omega
  have k1 : (n - 1) / 2 < n := by omega
  have k2 : n / 2 < n := by omega
  have k3 : 1 ≤ n := hn.1
  generalize (n - 1) / 2 = i1 at *
  generalize n / 2 = i2 at *
  go_wp2_with fail
  go_quiet (fail)
  go_wp2
  go_ret
  exact ⟨ret_int HM.out.symm, below_drewN HB2.out _⟩

end Go.Proofs.YtippolfmljfleaaGreatDoor

namespace Go.Proofs.YtippolfmljfleaaGreatDoor
open Go.RowKit Go
set_option linter.unusedVariables false

def Small (zs : List Int) : Prop := ∀ z ∈ zs, 0 ≤ z ∧ z ≤ 2000000000000
theorem Small.sized {zs : List Int} (h : Small zs) : Sized zs := fun z hz => by have := h z hz; omega
theorem mid_I62 {zs : List Int} (h : Small zs) (hn : 1 ≤ zs.length) : 0 ≤ mid zs ∧ mid zs ≤ 4000000000000 := by have := mid_bd h hn; omega
end Go.Proofs.YtippolfmljfleaaGreatDoor

namespace Go.Proofs.YtippolfmljfleaaGreatDoor
open Go.RowKit Go
set_option linter.unusedVariables false

def badN (z : Int) : Bool := outB z 0 2000000000000
/-- the error of numbers, not more than 3000 -/
def nFault (zs : List Int) : Int := if zs.length = 0 then 8 else if zs.any badN = true then 1 else 0
theorem nFault_small {zs : List Int} (h : nFault zs = 0) : Small zs ∧ 1 ≤ zs.length := by
  unfold nFault at h
  split at h
  · cases h
  · split at h
    · cases h
    · rename_i h1 h2
      refine ⟨fun z hz => ?_, by omega⟩
      have : badN z = false := by
        cases hb : badN z
        · rfl
        · exact absurd (List.any_eq_true.2 ⟨z, hz, hb⟩) h2
      simp [badN, outB] at this
      omega

set_option maxRecDepth 100000 in
set_option maxHeartbeats 1000000 in
theorem bad_any (z : Int) (w : World) : Calls Tryz.prog 122 #[.int .i64 z] w fun e w' => e = .returned (.bool (badN z)) ∧ w' = w := by
  unfold badN
  go_enter Tryz.func122, Tryz.ntmps122
  go_wp2_with (go_at_call 42; refine (outside_any _ _ _ _).mono ?_; rintro e w' ⟨rfl, rfl⟩)
  go_ret
  exact ⟨rfl, rfl⟩

set_option maxRecDepth 100000 in
set_option maxHeartbeats 1000000 in
theorem index_bad (g o n c : Nat) (zs : List Int) (w : World) (h : RdInts w g o n zs) (hn : n ≤ 1000000) :
    Calls Tryz.prog 153 #[.slice (some ⟨g, o, none⟩) n c, .func (.func 122) #[] #[]] w fun e w' => ∃ k : Int, e = .returned (.int .i64 k) ∧ decide (0 ≤ k) = zs.any badN ∧ w' = w := by
  obtain ⟨hl, hg, hc⟩ := h
  have Hc := Lib.hid hc
  have Hl := Lib.hid hl
  clear hc hl
  go_enter Tryz.func153, Tryz.ntmps153
  go_wp2
  go_loopw [8] (fun i wr => ∃ (k : Nat), k ≤ n ∧ i = .int .i64 k ∧ Hid (∀ j, j < k → badN (zs.getD j 0) = false) ∧ wr = w) (fun i _ => n - (intOf i).toNat)
  case atStart => exact ⟨0, Nat.zero_le _, rfl, Lib.hid fun j hj => absurd hj (Nat.not_lt_zero _), rfl⟩
  case round =>
    obtain ⟨k, hk, rfl, HX, rfl⟩ := hrel
    by_cases hlt : k < n
    · have ck := Hc.out k hlt
      have Hmem := Lib.hid (getD_mem (zs := zs) (i := k) (by have := Hl.out; omega))
      obtain ⟨z, hz⟩ : ∃ z, z = zs.getD k 0 := ⟨_, rfl⟩
      rw [← hz] at ck Hmem
      have Hz := Lib.hid hz
      clear hz
      cases hb : badN z with
      | true =>
        have Hb := Lib.hid hb
        clear hb
        go_wp2_with fail
        refine (bad_any _ _).mono ?_
        rintro e w' ⟨rfl, rfl⟩
        rw [Hb.out]
        go_wp2_with fail
        go_ret
        refine ⟨k, rfl, ?_, rfl⟩
        rw [List.any_eq_true.2 ⟨z, Hmem.out, Hb.out⟩]
        simp
      | false =>
        have Hb := Lib.hid hb
        clear hb
        go_wp2_with fail
        refine (bad_any _ _).mono ?_
        rintro e w' ⟨rfl, rfl⟩
        rw [Hb.out]
        go_wp2_with fail
        refine ⟨⟨k + 1, by omega, by go_num, Lib.hid fun j hj => ?_, by first | rfl | trivial⟩, by simp [intOf]; omega⟩
        rcases Nat.lt_or_ge j k with h | h
        · exact HX.out j h
        · obtain rfl : j = k := by omega
          rw [← Hz.out]; exact Hb.out
    · obtain rfl : k = n := by omega
      go_wp2
      go_ret
      refine ⟨-1, rfl, ?_, rfl⟩
      have : zs.any badN = false := by
        rw [Bool.eq_false_iff]
        intro hh
        obtain ⟨z, hz, hb⟩ := List.any_eq_true.1 hh
        obtain ⟨j, hj, rfl⟩ := List.getElem_of_mem hz
        have := HX.out j (by have := Hl.out; omega)
        rw [List.getD_eq_getElem?_getD, List.getElem?_eq_getElem hj] at this
        simp at this
        rw [this] at hb
        cases hb
      rw [this]
      rfl

set_option maxRecDepth 100000 in
set_option maxHeartbeats 1000000 in
theorem contains_bad (g o n c : Nat) (zs : List Int) (w : World) (h : RdInts w g o n zs) (hn : n ≤ 1000000) :
    Calls Tryz.prog 121 #[.slice (some ⟨g, o, none⟩) n c, .func (.func 122) #[] #[]] w fun e w' => e = .returned (.bool (zs.any badN)) ∧ w' = w := by
  have Hi := Lib.hid (index_bad g o n c zs w h hn)
  generalize zs.any badN = b at *
  clear h
  go_enter Tryz.func121, Tryz.ntmps121
  go_wp2_with fail
  refine Hi.out.mono ?_
  rintro e w' ⟨k, rfl, hk, rfl⟩
  subst hk
  go_wp2
  go_ret
  exact ⟨rfl, rfl⟩

set_option maxRecDepth 100000 in
set_option maxHeartbeats 1000000 in
theorem numbersFault_any (g o n c : Nat) (zs : List Int) (w : World) (h : RdInts w g o n zs) (hn : 1 ≤ n ∧ n ≤ 3000) :
    Calls Tryz.prog 87 #[.slice (some ⟨g, o, none⟩) n c] w fun e w' => e = .returned (.int .i64 (nFault zs)) ∧ w' = w := by
  have hf : nFault zs = if zs.any badN = true then 1 else 0 := by unfold nFault; rw [if_neg (by have := h.1; omega)]
  rw [hf]
  have Hi := Lib.hid (contains_bad g o n c zs w h (by omega))
  have h0 : ¬ (n : Int) = 0 := by omega
  have h1 : ¬ 3000 < (n : Int) := by omega
  clear h hf
  generalize zs.any badN = b at *
  cases b
  all_goals
    go_enter Tryz.func87, Tryz.ntmps87
    go_wp2_with fail
    refine Hi.out.mono ?_
    rintro e w' ⟨rfl, rfl⟩
    go_wp2_with fail
    go_ret
    exact ⟨rfl, rfl⟩

end Go.Proofs.YtippolfmljfleaaGreatDoor

namespace Go.Proofs.YtippolfmljfleaaGreatDoor
open Go.RowKit Go
set_option linter.unusedVariables false

def I62 (x : Int) : Prop := 0 ≤ x ∧ x ≤ 2305843009213693952
theorem gcd_step {x y : Int} (h : 0 ≤ x) (hy : 0 ≤ y) : Int.gcd y (x.tmod y) = Int.gcd x y := by
  obtain ⟨m, rfl⟩ := Int.eq_ofNat_of_zero_le h
  obtain ⟨n, rfl⟩ := Int.eq_ofNat_of_zero_le hy
  rw [← Int.ofNat_tmod]
  simp only [Int.gcd, Int.natAbs_natCast]
  rw [Nat.gcd_comm m n, Nat.gcd_rec n m, Nat.gcd_comm]
theorem gcd_zero {x : Int} (h : 0 ≤ x) : ((Int.gcd x 0 : Nat) : Int) = x := by
  simp only [Int.gcd_zero]; omega
def fracN (a b : Int) : Int := a / (Int.gcd a b : Nat)
def fracD (a b : Int) : Int := b / (Int.gcd a b : Nat)

theorem tmod_lt {x y : Int} (h : 0 ≤ x) (hy : 0 < y) : 0 ≤ x.tmod y ∧ x.tmod y < y := by
  rw [Int.tmod_eq_emod_of_nonneg h]
  exact ⟨Int.emod_nonneg _ (by omega), Int.emod_lt_of_pos _ hy⟩

set_option maxRecDepth 100000 in
set_option maxHeartbeats 1000000 in
theorem gcd_any (a b : Int) (w : World) (ha : I62 a) (hb : I62 b) :
    Calls Tryz.prog 123 #[.int .i64 a, .int .i64 b] w fun e w' => e = .returned (.int .i64 (Int.gcd a b : Nat)) ∧ ∃ n, w' = w.drewN n := by
  obtain ⟨g, hg⟩ : ∃ g, g = Int.gcd a b := ⟨_, rfl⟩
  rw [← hg]
  have Hg := Lib.hid hg
  clear hg
  go_enter Tryz.func123, Tryz.ntmps123
  go_wp2
  go_loopw [0, 1] (fun s0 s1 wr => ∃ (x y : Int) (q : Nat), s0 = .int .i64 x ∧ s1 = .int .i64 y ∧ I62 x ∧ I62 y ∧ Hid (Int.gcd x y = g) ∧ wr = w.drewN q) (fun _ s1 _ => (intOf s1).toNat)
  case atStart => exact ⟨a, b, 0, rfl, rfl, ha, hb, Lib.hid Hg.out.symm, rfl⟩
  case round =>
    obtain ⟨x, y, q, rfl, rfl, hx, hy, HG, rfl⟩ := hrel
    obtain ⟨hx0, hx1⟩ := hx
    obtain ⟨hy0, hy1⟩ := hy
    by_cases h0 : y = 0
    · subst h0
      have hG := HG.out
      have Hx := Lib.hid (gcd_zero hx0)
      rw [hG] at Hx
      clear hG
      go_wp2
      go_ret
      exact ⟨ret_int (by have := Hx.out; omega), _, rfl⟩
    · have Hm := Lib.hid (tmod_lt hx0 (show 0 < y by omega))
      have Hs := Lib.hid (gcd_step hx0 hy0)
      obtain ⟨r, hr⟩ : ∃ r, r = x.tmod y := ⟨_, rfl⟩
      rw [← hr] at Hm Hs
      have hr' := hr.symm
      clear hr
      go_wp2_with fail
      go_quiet (fail)
      go_wp2_with fail
      have := Hm.out
      refine ⟨⟨y, r, q + nq, ?_, ?_, ⟨hy0, hy1⟩, ⟨this.1, by omega⟩, Lib.hid (Hs.out.trans HG.out), ?_⟩, ?_⟩
      all_goals first | rfl | trivial | exact World.drewN_drewN .. | (simp [intOf]; omega)

theorem gcd_pos {a b : Int} (hb : 0 < b) : 0 < ((Int.gcd a b : Nat) : Int) := by
  have : Int.gcd a b ≠ 0 := fun h => by have := (Int.gcd_eq_zero_iff.1 h).2; omega
  omega
theorem tdiv_ok {x y : Int} (h : I62 x) (hy : 0 < y) : x.tdiv y = x / y ∧ 0 ≤ x / y ∧ x / y ≤ 2305843009213693952 :=
  ⟨Int.tdiv_eq_ediv_of_nonneg h.1, Int.ediv_nonneg h.1 (by omega), Int.le_trans (Int.ediv_le_self _ h.1) h.2⟩

set_option maxRecDepth 100000 in
set_option maxHeartbeats 1000000 in
theorem lowest_any (a b : Int) (w : World) (ha : I62 a) (hb : I62 b) (h0 : 0 < b) :
    Calls Tryz.prog 88 #[.int .i64 a, .int .i64 b] w (Ret (.agg #[.int .i64 (fracN a b), .int .i64 (fracD a b)]) w) := by
  have Hp := Lib.hid (gcd_pos (a := a) h0)
  obtain ⟨hN, hN0, hN1⟩ := tdiv_ok ha Hp.out
  obtain ⟨hD, hD0, hD1⟩ := tdiv_ok hb Hp.out
  have HI := Lib.hid (And.intro ha hb)
  unfold fracN fracD
  have hb0 : ¬ b < 0 := by omega
  go_enter Tryz.func88, Tryz.ntmps88
  go_wp2_with fail
  refine (gcd_any a b _ HI.out.1 HI.out.2).mono ?_
  rintro e w1 ⟨rfl, n, rfl⟩
  generalize ((Int.gcd a b : Nat) : Int) = g at *
  have hg0 := Hp.out
  have hg1 : ¬ g = 0 := by omega
  have hg2 : ¬ g = -1 := by omega
  clear hg0
  generalize a / g = x at *
  generalize b / g = y at *
  have HB : Hid (Blk (((w.alloc (.cells #[.int .i64 0, .int .i64 0] 81 (0, 0))).drewN n).drew) w.heap.size 81 #[.int .i64 0, .int .i64 0]) := Lib.hid (Blk.new w _ _)
  have HW : Hid (Below w.heap.size w (((w.alloc (.cells #[.int .i64 0, .int .i64 0] 81 (0, 0))).drewN n).drew)) := Lib.hid (below_drew (below_drewN (below_alloc (Below.refl _ _) _) _))
  go_wp2_with fail
  go_still_tail 7, (by kernel_rfl)
  rw [IntWalk.i64_in x (by omega), IntWalk.i64_in y (by omega)]
  change wpList _ _ _ _ _ (((w.alloc (.cells #[.int .i64 0, .int .i64 0] 81 (0, 0))).drewN n).drew)
  generalize (((w.alloc (.cells #[.int .i64 0, .int .i64 0] 81 (0, 0))).drewN n).drew) = w2 at *
  have c0 := HB.out.cell 0
  have c1 := HB.out.cell 1
  have f0 := HB.out.free
  simp at c0 c1
  go_wp2
  refine bodyPost_ret (v := .agg #[.int .i64 x, .int .i64 y]) (by simp [results, Tryz.results88, go_sem, c0, c1]) rfl ⟨rfl, ?_⟩
  exact below_set (below_set HW.out (Nat.le_refl _) _ _) (Nat.le_refl _) _ _
end Go.Proofs.YtippolfmljfleaaGreatDoor

namespace Go.Proofs.YtippolfmljfleaaGreatDoor
open Go.RowKit Go
set_option linter.unusedVariables false

def FrBlk (w : World) (B : Nat) (a b : Int) : Prop := Blk w B 81 #[.int .i64 a, .int .i64 b]
theorem FrBlk.cells {w : World} {B : Nat} {a b : Int} (h : FrBlk w B a b) : w.cell? ⟨B, 0, none⟩ = some (.int .i64 a) ∧ w.cell? ⟨B, 1, none⟩ = some (.int .i64 b) ∧ ∀ i, w.frozen? ⟨B, i, none⟩ = false := ⟨Blk.cell h 0, Blk.cell h 1, Blk.free h⟩

set_option maxRecDepth 100000 in
set_option maxHeartbeats 1000000 in
theorem median_good (g o n c : Nat) (zs : List Int) (w : World) (h : RdInts w g o n zs) (hn : 1 ≤ n ∧ n ≤ 3000) (hf : nFault zs = 0) :
    Calls Tryz.prog 52 #[.slice (some ⟨g, o, none⟩) n c] w (Ret (.tuple #[.agg #[.int .i64 (fracN (mid zs) 2), .int .i64 (fracD (mid zs) 2)], .int .i64 0]) w) := by
  have Hc := Lib.hid fun (w : World) h => numbersFault_any g o n c zs w h hn
  obtain ⟨hsm, h1⟩ := nFault_small hf
  have HI : Hid (I62 (mid zs)) := Lib.hid (by have := mid_I62 hsm h1; exact ⟨by omega, by omega⟩)
  have HA : FrBlk (w.alloc (.cells #[.int .i64 0, .int .i64 0] 81 (0, 0))) w.heap.size 0 0 := Blk.new w _ _
  have HB := Lib.hid (below_alloc (Below.refl w.heap.size w) (.cells #[.int .i64 0, .int .i64 0] 81 (0, 0)))
  have HR := Lib.hid (h.alloc (.cells #[.int .i64 0, .int .i64 0] 81 (0, 0)))
  have HS := Lib.hid hsm
  have HL := Lib.hid fun w => lowest_any (mid zs) 2 w HI.out ⟨by omega, by omega⟩ (by omega)
  generalize fracN (mid zs) 2 = p at *
  generalize fracD (mid zs) 2 = q at *
  rw [hf] at Hc
  have Hn := Lib.hid hn
  have hlt : w.heap.size < (w.alloc (.cells #[.int .i64 0, .int .i64 0] 81 (0, 0))).heap.size := HA.lt
  clear h hsm h1 hn hf
  go_enter Tryz.func52, Tryz.ntmps52
  go_wp2_with fail
  refine (Hc.out _ HR.out).mono ?_
  rintro e w1 ⟨rfl, rfl⟩
  generalize (w.alloc (.cells #[.int .i64 0, .int .i64 0] 81 (0, 0))) = w1 at *
  go_wp2_with fail
  refine (middle_any g o n c zs _ HR.out ⟨Hn.out.1, by have := Hn.out; omega⟩ HS.out.sized).mono ?_
  rintro e w2 ⟨rfl, hB2⟩
  have HA2 : FrBlk w2 w.heap.size 0 0 := Blk.below HA hB2 hlt
  have HB2 := Lib.hid (HB.out.trans (hB2.mono (by omega)))
  have hlt2 := HA2.lt
  clear hB2 HA hlt
  go_wp2_with fail
  refine (HL.out _).mono ?_
  rintro e w3 ⟨rfl, hB3⟩
  have HA3 : FrBlk w3 w.heap.size 0 0 := Blk.below HA2 hB3 hlt2
  have HB3 := Lib.hid (HB2.out.trans (hB3.mono (by omega)))
  obtain ⟨c0, c1, f0⟩ := HA3.cells
  clear hB3 HA2 hlt2 HA3
  go_wp2_with fail
  refine bodyPost_ret (v := .tuple #[.agg #[.int .i64 p, .int .i64 q], .int .i64 0]) (by simp [results, Tryz.results52, go_sem, c0, c1]) rfl ⟨rfl, ?_⟩
  repeat refine Below.setCell ?_ (by simp) _
  exact HB3.out

end Go.Proofs.YtippolfmljfleaaGreatDoor

namespace Go.Proofs.YtippolfmljfleaaGreatDoor
open Go.RowKit Go
set_option linter.unusedVariables false

theorem OwnI.gen {w w' : World} {b B m : Nat} {v : Value} {zs : List Int} (h : OwnI w B v zs) (hg : Gen b w w' m) (hb : b < B) : OwnI w' B v zs :=
  World.ownsRow.kept h hg.g (by
    cases hv : v.ownBlock with
    | none => exact .inl rfl
    | some k => exact .inr (by have := own_base h k hv; simp; omega))
theorem OwnI.set {w : World} {B g c : Nat} {zs : List Int} (h : OwnI w B (.slice (some ⟨g, 0, none⟩) zs.length c) zs) (i : Nat) (hi : i < zs.length) (x : Int) :
    OwnI (w.setCell ⟨g, i, none⟩ (.int .i64 x)) B (.slice (some ⟨g, 0, none⟩) zs.length c) (zs.set i x) := by
  rcases h.2 with ⟨hv, _⟩ | ⟨g2, c2, cur, hv, hb, hg, hc, hm, hs, ht⟩
  · cases hv
  · simp at hv
    obtain ⟨rfl, rfl⟩ := hv
    refine ⟨by simp [encIs], .inr ⟨g, c, cur.setIfInBounds i (.int .i64 x), by simp, hb, heap_setCell_same w g i cur _ _ hg, by simpa using hc, hm, by simpa using hs, ?_⟩⟩
    rw [Array.toList_setIfInBounds, List.take_set, List.length_set, ht]
    simp [encIs, List.map_set]
theorem OwnI.frozen {w : World} {B g c n : Nat} {zs : List Int} (h : OwnI w B (.slice (some ⟨g, 0, none⟩) n c) zs) (i : Nat) : w.frozen? ⟨g, i, none⟩ = false := by
  rcases h.2 with ⟨hv, _⟩ | ⟨g2, c2, cur, hv, hb, hg, hc, hm, hs, ht⟩
  · cases hv
  · simp at hv
    obtain ⟨rfl, _⟩ := hv
    exact frozen_of_row w g i cur _ hg

theorem nFault_three : nFault [1, 2, 9] = 0 := by decide
theorem mid_three : fracN (mid [1, 2, 9]) 2 = 2 ∧ fracD (mid [1, 2, 9]) 2 = 1 := by
  have : mid [1, 2, 9] = 4 := by
    unfold mid sortI
    rw [List.mergeSort_of_pairwise (by decide)]
    rfl
  rw [this]
  decide

set_option maxRecDepth 100000 in
set_option maxHeartbeats 1000000 in
theorem flowing_any (w : World) : Calls Tryz.prog 19 #[] w (Ret (.bool true) w) := by
  have HR := Lib.hid (rdInts_new w 3 [1, 2, 9] #[.int .i64 1, .int .i64 2, .int .i64 9] rfl)
  have HB := Lib.hid (below_alloc (Below.refl w.heap.size w) (.cells #[.int .i64 1, .int .i64 2, .int .i64 9] 3 (0, 0)))
  go_enter Tryz.func19, Tryz.ntmps19
  go_wp2_with fail
  refine (median_good w.heap.size 0 3 3 _ _ HR.out (by omega) nFault_three).mono ?_
  rintro e w2 ⟨rfl, hB⟩
  rw [mid_three.1, mid_three.2]
  have HB2 := Lib.hid (HB.out.trans (hB.mono (by simp)))
  clear hB HB HR
  go_wp2
  go_ret
  exact ⟨rfl, by repeat (first | exact HB2.out | apply below_alloc | apply below_drewN | refine below_set ?_ (HB2.out.size) _ _)⟩
end Go.Proofs.YtippolfmljfleaaGreatDoor

namespace Go.Proofs.YtippolfmljfleaaGreatDoor
open Go.RowKit Go Go.Sort
set_option linter.unusedVariables false

section
variable {α : Type} [Inhabited α]
theorem getB_of {X : Array α} {i : Nat} (h : i < X.size) : X[i]! = X[i] := getElem!_pos X i h
theorem get_appP (X Y : Array α) (i : Nat) (h : i < X.size) : (X ++ Y)[i]! = X[i]! := by
  rw [getB_of (X := X ++ Y) (by rw [Array.size_append]; omega), getB_of h, Array.getElem_append_left h]
theorem swp_appP (X Y : Array α) (i j : Nat) (hi : i < X.size) (hj : j < X.size) : swp (X ++ Y) i j = swp X i j ++ Y := by
  unfold swp
  rw [get_appP X Y i hi, get_appP X Y j hj]
  rw [Array.setIfInBounds_append_left (by omega), Array.setIfInBounds_append_left (by simpa using hj)]
theorem insInner_appP (lt : α → α → Bool) (a : Nat) (Y : Array α) : ∀ (j : Nat) (X : Array α), j < X.size → insInner lt a j (X ++ Y) = insInner lt a j X ++ Y
  | 0, X, _ => rfl
  | j + 1, X, h => by
    unfold insInner
    rw [get_appP X Y (j + 1) h, get_appP X Y j (by omega)]
    by_cases hc : (decide (j + 1 > a) && lt X[j + 1]! X[j]!) = true
    · rw [if_pos hc, if_pos hc, swp_appP X Y (j + 1) j h (by omega)]
      exact insInner_appP lt a Y j _ (by rw [size_swp]; omega)
    · rw [if_neg hc, if_neg hc]
theorem insOuter_appP (lt : α → α → Bool) (a b : Nat) (Y : Array α) : ∀ (n i : Nat) (X : Array α), b - i = n → b ≤ X.size → insOuter lt a b i (X ++ Y) = insOuter lt a b i X ++ Y
  | 0, i, X, h, _ => by rw [insOuter_stop lt a b i (X ++ Y) (by omega), insOuter_stop lt a b i X (by omega)]
  | n + 1, i, X, h, hb => by
    rw [insOuter_go lt a b i (X ++ Y) (by omega), insOuter_go lt a b i X (by omega), insInner_appP lt a Y i X (by omega)]
    exact insOuter_appP lt a b Y n (i + 1) _ (by omega) (by rw [size_insInnerR]; exact hb)
theorem insOuter_split (lt : α → α → Bool) (a b c : Nat) (hbc : b ≤ c) : ∀ (n i : Nat) (d : Array α), b - i = n → i ≤ b → insOuter lt a c i d = insOuter lt a c b (insOuter lt a b i d)
  | 0, i, d, h, hi => by
    obtain rfl : i = b := by omega
    rw [insOuter_stop lt a i i d (by omega)]
  | n + 1, i, d, h, hi => by
    rw [insOuter_go lt a c i d (by omega), insOuter_go lt a b i d (by omega)]
    exact insOuter_split lt a b c hbc n (i + 1) _ (by omega) (by omega)
theorem insOuter_still (lt : α → α → Bool) (a b : Nat) : ∀ (n i : Nat) (d : Array α), b - i = n → (∀ k, i ≤ k → k < b → lt d[k]! d[k - 1]! = false) → insOuter lt a b i d = d
  | 0, i, d, h, _ => insOuter_stop lt a b i d (by omega)
  | n + 1, i, d, h, hk => by
    rw [insOuter_go lt a b i d (by omega), insInner_stop lt a i d (.inr (hk i (Nat.le_refl _) (by omega)))]
    exact insOuter_still lt a b n (i + 1) d (by omega) fun k h1 h2 => hk k (by omega) h2
theorem swp_allP (P : α → Prop) (d : Array α) (i j : Nat) (hi : i < d.size) (hj : j < d.size) (h : ∀ k, k < d.size → P d[k]!) : ∀ k, k < (swp d i j).size → P (swp d i j)[k]! := fun k hk => by
  rw [size_swp] at hk
  by_cases e1 : k = i
  · subst e1
    by_cases e2 : k = j
    · subst e2
      rw [swp_right d k k hk]
      exact h k hk
    · rw [swp_left d k j hk e2]
      exact h j hj
  · by_cases e2 : k = j
    · subst e2
      rw [swp_right d i k hk]
      exact h i hi
    · rw [swp_other d i j k e1 e2]
      exact h k hk
theorem insInner_allP (P : α → Prop) (lt : α → α → Bool) (a : Nat) : ∀ (j : Nat) (d : Array α), j < d.size → (∀ k, k < d.size → P d[k]!) → ∀ k, k < (insInner lt a j d).size → P (insInner lt a j d)[k]!
  | 0, d, _, h => h
  | j + 1, d, hj, h => by
    unfold insInner
    by_cases hc : (decide (j + 1 > a) && lt d[j + 1]! d[j]!) = true
    · rw [if_pos hc]
      exact insInner_allP P lt a j _ (by rw [size_swp]; omega) (swp_allP P d (j + 1) j hj (by omega) h)
    · rw [if_neg hc]
      exact h
theorem insOuter_allP (P : α → Prop) (lt : α → α → Bool) (a b : Nat) : ∀ (n i : Nat) (d : Array α), b - i = n → b ≤ d.size → (∀ k, k < d.size → P d[k]!) → ∀ k, k < (insOuter lt a b i d).size → P (insOuter lt a b i d)[k]!
  | 0, i, d, h, _, hP => by
    rw [insOuter_stop lt a b i d (by omega)]
    exact hP
  | n + 1, i, d, h, hb, hP => by
    rw [insOuter_go lt a b i d (by omega)]
    exact insOuter_allP P lt a b n (i + 1) _ (by omega) (by rw [size_insInnerR]; exact hb) (insInner_allP P lt a i d (by omega) hP)
/-- a list whose last part is in order, and behind all of the first part -/
theorem ins_app (lt : α → α → Bool) (A B : List α) (hB : ∀ (k : Nat) (x y : α), B[k]? = some x → B[k + 1]? = some y → lt y x = false) (hA : ∀ x ∈ A, ∀ y ∈ B, lt y x = false) :
    (insertionSort lt (A ++ B).toArray 0 (A ++ B).length).toList = (insertionSort lt A.toArray 0 A.length).toList ++ B := by
  have key : insertionSort lt (A ++ B).toArray 0 (A ++ B).length = insertionSort lt A.toArray 0 A.length ++ B.toArray := by
    unfold insertionSort
    have e0 : (A ++ B).toArray = A.toArray ++ B.toArray := by simp
    rw [e0, List.length_append]
    have hsz : (insOuter lt 0 A.length (0 + 1) A.toArray).size = A.length := by rw [size_insOuterR lt 0 A.length _ _ _ rfl]; rfl
    have hall := insOuter_allP (fun x => x ∈ A) lt 0 A.length _ (0 + 1) A.toArray rfl (Nat.le_refl _) (fun k hk => by
      rw [getB_of hk]
      exact List.getElem_mem _)
    have hst : insOuter lt 0 (A.length + B.length) (0 + 1) (A.toArray ++ B.toArray) = insOuter lt 0 (A.length + B.length) (max 1 A.length) (insOuter lt 0 A.length (0 + 1) A.toArray ++ B.toArray) := by
      rcases Nat.eq_zero_or_pos A.length with h0 | h0
      · have : A = [] := List.eq_nil_of_length_eq_zero h0
        subst this
        rw [insOuter_stop lt 0 ([] : List α).length (0 + 1) _ (by simp)]
        rfl
      · by_cases hb : A.length + B.length ≤ 1
        · rw [insOuter_stop lt 0 _ (0 + 1) _ (by omega), insOuter_stop lt 0 _ (max 1 A.length) _ (by omega), insOuter_stop lt 0 _ (0 + 1) _ (by omega)]
        · rw [insOuter_split lt 0 A.length (A.length + B.length) (by omega) _ (0 + 1) _ rfl (by omega), insOuter_appP lt 0 A.length B.toArray _ (0 + 1) A.toArray rfl (Nat.le_refl _), Nat.max_eq_right (by omega)]
    rw [hst]
    generalize insOuter lt 0 A.length (0 + 1) A.toArray = S at *
    refine insOuter_still lt 0 _ _ _ _ rfl fun k h1 h2 => ?_
    have hg : ∀ t, t < B.length → ∃ y, B[t]? = some y ∧ (S ++ B.toArray)[A.length + t]! = y := fun t ht => by
      refine ⟨B[t], List.getElem?_eq_getElem ht, ?_⟩
      rw [getB_of (by rw [Array.size_append, hsz]; simp; omega), Array.getElem_append_right (by omega)]
      simp [hsz]
    have hkA : A.length ≤ k := by omega
    obtain ⟨t, rfl⟩ : ∃ t, k = A.length + t := ⟨k - A.length, by omega⟩
    obtain ⟨y, hy, e1⟩ := hg t (by omega)
    rw [e1]
    rcases Nat.eq_zero_or_pos t with ht | ht
    · subst ht
      have hA1 : 1 ≤ A.length := by omega
      rw [Nat.add_zero, get_appP S B.toArray (A.length - 1) (by omega)]
      exact hA _ (hall (A.length - 1) (by omega)) y (List.mem_of_getElem? hy)
    · obtain ⟨u, rfl⟩ : ∃ u, t = u + 1 := ⟨t - 1, by omega⟩
      obtain ⟨x, hx, e2⟩ := hg u (by omega)
      rw [show A.length + (u + 1) - 1 = A.length + u by omega, e2]
      exact hB u x y hx hy
  rw [key]
  simp
end
end Go.Proofs.YtippolfmljfleaaGreatDoor
