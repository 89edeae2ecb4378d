/-
  addr.checkSets, Union, Both, Without, Rest.
  wide.plus of the reference, at -1: the number before.
  The reference's RangesOf.
  A region that draws its order, by an invariant with a phase, where each operation knows that what depends on it has not run: a bound on the phase.
  A region that draws its order, by an invariant that may speak of the values that its operations have yielded.
  slices.Grow of nil and slices.Concat of two slices of prefixes.
  Decimal numerals, in plain words: digits of a number in a row of so many places; sums digit by digit.
  The sum of bytes: filter.Sum and the reference's CheckSumOf are the same function of the bytes.
-/
import Derived.Test.YtaeieigdibanlaaGreatDoorST14
import Derived.Test.YtaeieigdibanlaaGreatDoorST13
import Derived.Test.YtaeieigdibanlaaGreatDoorST9
import Derived.Test.YtaeieigdibanlaaGreatDoorST11
import Derived.Test.YtaeieigdibanlaaGreatDoorST6
import Derived.Test.YtaeieigdibanlaaGreatDoorST1
import Derived.Lib.AppendZeros
import Derived.Lib.ItoaNum
import Derived.Lib.Repeat
set_option linter.unusedVariables false
namespace Go.Proofs.YtaeieigdibanlaaGreatDoor
open Go.RowKit Go
set_option linter.unusedVariables false

theorem setF_okS {L : List Pf} (h : setF L = 0) (hu : U4 L) : ∀ p ∈ L, OkPf p := fun p hp => by
  unfold setF at h
  by_cases h1 : 1000 < L.length
  · rw [if_pos h1] at h; cases h
  · rw [if_neg h1] at h
    by_cases h2 : scanF L ≠ 0
    · rw [if_pos h2] at h; exact absurd h h2
    · have h2 : scanF L = 0 := by simpa using h2
      obtain ⟨i, hi, rfl⟩ := List.getElem_of_mem hp
      have := fAt_zero (firstN_zero h2 i hi)
      simp only [List.getD, List.getElem?_eq_getElem hi, Option.getD_some] at this
      obtain ⟨u1, u2⟩ := hu _ (List.getElem_mem hi)
      exact okPf_of this u1 u2
set_option maxRecDepth 100000 in
set_option maxHeartbeats 2000000 in
theorem checkSets_any (g c : Nat) (ad1 ad2 : Option Addr) (n1 c1 n2 c2 : Nat) (L1 L2 : List Pf) (w : World) (hg : Blk w g 53 #[.slice ad1 n1 c1, .slice ad2 n2 c2]) (h1 : RdK layPf w ad1 L1) (h2 : RdK layPf w ad2 L2) (hn1 : L1.length = n1) (hn2 : L2.length = n2) (hs1 : n1 ≤ 1000) (hs2 : n2 ≤ 1000) (hu1 : U4 L1) (hu2 : U4 L2) :
    Calls Tryz.prog 77 #[.slice (some ⟨g, 0, none⟩) 2 c] w (Ret (.int .i64 (firstE [setF L1, setF L2])) w) := by
  have HG := Lib.hid hg
  have HC1 := Lib.hid fun wx (hr : RdK layPf wx ad1 L1) => checkSet_any ad1 n1 c1 L1 wx hr hn1 (by omega) hu1
  have HC2 := Lib.hid fun wx (hr : RdK layPf wx ad2 L2) => checkSet_any ad2 n2 c2 L2 wx hr hn2 (by omega) hu2
  have H1 := Lib.hid h1
  have H2 := Lib.hid h2
  clear hg h1 h2 hn1 hn2 hu1 hu2
  generalize setF L1 = F1 at *
  generalize setF L2 = F2 at *
  obtain ⟨F, hF⟩ : ∃ F, firstE [F1, F2] = F := ⟨_, rfl⟩
  have HF1 : Hid (F1 ≠ 0 → F = F1) := Lib.hid fun h => by rw [← hF]; simp [firstE, h]
  have HF2 : Hid (F1 = 0 → F = F2) := Lib.hid fun h => by
    rw [← hF]
    by_cases h2 : F2 = 0 <;> simp [firstE, h, h2]
  rw [hF]
  clear hF
  go_enter Tryz.func77, Tryz.ntmps77
  go_wp2_with fail
  go_loopw [4, 5, 8] (fun s4 s5 i wr => ∃ k : Nat, k ≤ 2 ∧ i = .int .i64 (k : Int) ∧ Hid (1 ≤ k → F1 = 0) ∧ Hid (2 ≤ k → F2 = 0) ∧ Hid (Below w.heap.size w wr)) (fun _ _ i _ => 2 - (intOf i).toNat)
  case atStart => exact ⟨0, by omega, rfl, Lib.hid (fun h => by omega), Lib.hid (fun h => by omega), Lib.hid (Below.refl _ _)⟩
  case round =>
    obtain ⟨k, hk, rfl, HA, HZ, HB⟩ := hrel
    have HG2 := HG.out.below HB.out HG.out.lt
    have e0 := HG2.cell 0
    have e1 := HG2.cell 1
    simp at e0 e1
    clear HG2
    have hk3 : k = 0 ∨ k = 1 ∨ k = 2 := by omega
    rcases hk3 with rfl | rfl | rfl
    · go_wp2_with fail
      refine (HC1.out _ (H1.out.below HB.out)).mono ?_
      rintro e w3 ⟨rfl, hb⟩
      have HB3 := Lib.hid (HB.out.trans (hb.mono HB.out.size))
      clear hb HB HC1 HC2 H1 H2 e0 e1
      by_cases h : F1 = 0
      · subst h
        clear HF1 HF2 HA HZ
        go_wp2_with fail
        exact ⟨⟨1, by omega, rfl, Lib.hid (by first | trivial | (intro _; rfl)), Lib.hid (by first | trivial | (intro h; omega)), HB3⟩, by simp [intOf]⟩
      · have hf := HF1.out h
        have h2 : (F1 != 0) = true := by simpa using h
        clear HF1 HF2 HA HZ
        subst hf
        go_wp2_with fail
        go_ret
        exact ⟨rfl, HB3.out⟩
    · have hz := HA.out (by omega)
      go_wp2_with fail
      refine (HC2.out _ (H2.out.below HB.out)).mono ?_
      rintro e w3 ⟨rfl, hb⟩
      have HB3 := Lib.hid (HB.out.trans (hb.mono HB.out.size))
      clear hb HB HC1 HC2 H1 H2 e0 e1
      have hf := HF2.out hz
      by_cases h : F2 = 0
      · subst h
        clear HF1 HF2 HA HZ
        go_wp2_with fail
        exact ⟨⟨2, by omega, rfl, Lib.hid (by first | trivial | exact fun _ => hz), Lib.hid (by first | trivial | (intro _; rfl)), HB3⟩, by simp [intOf]⟩
      · have h2 : (F2 != 0) = true := by simpa using h
        clear HF1 HF2 HA HZ
        subst hf
        go_wp2_with fail
        go_ret
        exact ⟨rfl, HB3.out⟩
    · have hf := HF2.out (HA.out (by omega))
      have hz := HZ.out (Nat.le_refl _)
      clear HF1 HF2 HA HZ HC1 HC2 H1 H2
      subst hf
      go_wp2_with fail
      go_ret
      exact ⟨by rw [hz]; rfl, HB.out⟩
end Go.Proofs.YtaeieigdibanlaaGreatDoor

namespace Go.Proofs.YtaeieigdibanlaaGreatDoor
open Go.RowKit Go
set_option linter.unusedVariables false

/-- what is borrowed from a digit -/
def borN (x k : Nat) : Nat := if x % 65536 ^ k = 0 then 1 else 0
theorem borN_zero (x : Nat) : borN x 0 = 1 := by simp [borN, Nat.mod_one]
theorem borN_le (x k : Nat) : borN x k ≤ 1 := by unfold borN; split <;> omega
theorem borN_dig (x k : Nat) (h : 0 < x) : digN (x - 1) k = (digN x k + 65536 - borN x k) % 65536 := by
  have hp : 0 < 65536 ^ k := Nat.pow_pos (by decide)
  unfold digN borN
  obtain ⟨P, hP⟩ : ∃ P, 65536 ^ k = P := ⟨_, rfl⟩
  rw [hP] at hp ⊢
  have hm := Nat.mod_add_div x P
  have hl := Nat.mod_lt x hp
  obtain ⟨q, hq⟩ : ∃ q, x / P = q := ⟨_, rfl⟩
  obtain ⟨r, hr⟩ : ∃ r, x % P = r := ⟨_, rfl⟩
  rw [hq, hr] at hm
  rw [hr] at hl
  rw [hq, hr]
  by_cases h0 : r = 0
  · subst h0
    rw [if_pos rfl]
    have hq1 : 1 ≤ q := by
      rcases Nat.eq_zero_or_pos q with h1 | h1
      · subst h1; omega
      · exact h1
    obtain ⟨q', rfl⟩ : ∃ q', q = q' + 1 := ⟨q - 1, by omega⟩
    have e : x - 1 = (P - 1) + P * q' := by rw [Nat.mul_add] at hm; omega
    rw [e, Nat.add_mul_div_left _ _ hp, Nat.div_eq_of_lt (by omega)]
    omega
  · rw [if_neg h0]
    have e : x - 1 = (r - 1) + P * q := by omega
    rw [e, Nat.add_mul_div_left _ _ hp, Nat.div_eq_of_lt (by omega)]
    omega
theorem borN_succ (x k : Nat) : borN x (k + 1) = if digN x k < borN x k then 1 else 0 := by
  have hp : 0 < 65536 ^ k := Nat.pow_pos (by decide)
  unfold digN borN
  rw [Nat.mod_pow_succ]
  obtain ⟨P, hP⟩ : ∃ P, 65536 ^ k = P := ⟨_, rfl⟩
  rw [hP] at hp ⊢
  obtain ⟨r, hr⟩ : ∃ r, x % P = r := ⟨_, rfl⟩
  obtain ⟨d, hd⟩ : ∃ d, x / P % 65536 = d := ⟨_, rfl⟩
  rw [hr, hd]
  by_cases h0 : r = 0
  · subst h0
    rw [if_pos rfl]
    by_cases h1 : d = 0
    · subst h1; simp
    · have : 0 < P * d := Nat.mul_pos hp (by omega)
      rw [if_neg (by omega), if_neg (by omega)]
  · rw [if_neg h0, if_neg (by omega), if_neg (by omega)]
def mixM (x k : Nat) (j : Nat) : Nat := if j < k then digN (x - 1) j else digN x j
theorem mixM_step (x k : Nat) (h : k < 9) (hx : 0 < x) : (wd (mixM x k)).setIfInBounds k (.int .i64 (((digN x k + 65536 - borN x k) % 65536 : Nat) : Int)) = wd (mixM x (k + 1)) := by
  rw [wd_set _ _ h]
  refine wd_congr fun d _ => ?_
  unfold mixM
  by_cases h1 : d = k
  · subst h1; rw [if_pos rfl, if_pos (by omega), borN_dig _ _ hx]
  · rw [if_neg h1]
    by_cases h2 : d < k
    · rw [if_pos h2, if_pos (by omega)]
    · rw [if_neg h2, if_neg (by omega)]
set_option maxRecDepth 100000 in
set_option maxHeartbeats 2000000 in
theorem minusN (x : Nat) (w : World) (hx0 : 0 < x) : Calls Tryz.prog 112 #[.agg (wN x), .int .i64 (-1)] w (Ret (.agg (wN (x - 1))) w) := by
  have HZ : Hid (mixM x 9 = mixM x 9 ∧ wd (mixM x 9) = wN (x - 1)) := Lib.hid ⟨rfl, wd_congr fun d hd => by unfold mixM; rw [if_pos hd]⟩
  have H0 : Hid (wN x = wd (mixM x 0)) := Lib.hid (wd_congr fun d _ => by unfold mixM; rw [if_neg (by omega)])
  rw [H0.out]
  have HP' : Blk ((w.alloc (.cells (wd (mixM x 0)) 131 (0, 0))).alloc (.cells #[.int .i64 0, .int .i64 0, .int .i64 0, .int .i64 0, .int .i64 0, .int .i64 0, .int .i64 0, .int .i64 0, .int .i64 0] 131 (0, 0))) (w.heap.size) 131 (wd (mixM x 0)) := (Blk.new w _ _).alloc _
  have HR' : Blk ((w.alloc (.cells (wd (mixM x 0)) 131 (0, 0))).alloc (.cells #[.int .i64 0, .int .i64 0, .int .i64 0, .int .i64 0, .int .i64 0, .int .i64 0, .int .i64 0, .int .i64 0, .int .i64 0] 131 (0, 0))) (w.heap.size + 1) 131 #[.int .i64 0, .int .i64 0, .int .i64 0, .int .i64 0, .int .i64 0, .int .i64 0, .int .i64 0, .int .i64 0, .int .i64 0] := by
    have this := Blk.new (w.alloc (.cells (wd (mixM x 0)) 131 (0, 0))) 131 #[.int .i64 0, .int .i64 0, .int .i64 0, .int .i64 0, .int .i64 0, .int .i64 0, .int .i64 0, .int .i64 0, .int .i64 0]
    rw [World.size_alloc] at this
    exact this
  have HP := Lib.hid HP'
  have HR := Lib.hid HR'
  have HB : Hid (Below w.heap.size w ((w.alloc (.cells (wd (mixM x 0)) 131 (0, 0))).alloc (.cells #[.int .i64 0, .int .i64 0, .int .i64 0, .int .i64 0, .int .i64 0, .int .i64 0, .int .i64 0, .int .i64 0, .int .i64 0] 131 (0, 0)))) := Lib.hid (below_alloc (below_alloc (Below.refl _ _) _) _)
  clear HP' HR'
  have hsz := Tryz.sizeOf131
  have Hc0 := Lib.hid (borN_zero x)
  have Hx0 := Lib.hid hx0
  clear hx0
  go_enter Tryz.func112, Tryz.ntmps112
  go_upto_region 1 with fail
  generalize ((w.alloc (.cells (wd (mixM x 0)) 131 (0, 0))).alloc (.cells #[.int .i64 0, .int .i64 0, .int .i64 0, .int .i64 0, .int .i64 0, .int .i64 0, .int .i64 0, .int .i64 0, .int .i64 0] 131 (0, 0))) = w1 at *
  go_wp2_with fail
  go_loopw [1, 5, 6] (fun nv iv i wr => ∃ k : Nat, k ≤ 9 ∧ i = .int .i64 (k : Int) ∧ nv = .int .i64 (-((borN x k : Nat) : Int)) ∧ Hid (Blk wr w.heap.size 131 (wd (mixM x k))) ∧ Hid (Blk wr (w.heap.size + 1) 131 #[.int .i64 0, .int .i64 0, .int .i64 0, .int .i64 0, .int .i64 0, .int .i64 0, .int .i64 0, .int .i64 0, .int .i64 0]) ∧ Hid (Below w.heap.size w wr)) (fun _ _ i _ => 9 - (intOf i).toNat)
  case atStart => exact ⟨0, by omega, rfl, by rw [Hc0.out]; rfl, HP, HR, HB⟩
  case round =>
    clear HP HR HB
    obtain ⟨k, hk, rfl, rfl, HP, HR, HB⟩ := hrel
    by_cases hlt : k < 9
    · have hc := borN_le x k
      have hd := digN_lt x k
      have hcell : wr.cell? ⟨w.heap.size, k, none⟩ = some (.int .i64 ((digN x k : Nat) : Int)) := by
        rw [HP.out.cell k, wd_get _ _ hlt]
        unfold mixM
        rw [if_neg (Nat.lt_irrefl k)]
      have hfr := HP.out.free k
      obtain ⟨v, hv⟩ : ∃ v, (digN x k + 65536 - borN x k) % 65536 = v := ⟨_, rfl⟩
      have HP2 : Hid (Blk (wr.setCell ⟨w.heap.size, k, none⟩ (.int .i64 (v : Int))) w.heap.size 131 (wd (mixM x (k + 1)))) := Lib.hid (by
        rw [← mixM_step x k hlt Hx0.out, hv]
        exact HP.out.set k _)
      have HR2 : Hid (Blk (wr.setCell ⟨w.heap.size, k, none⟩ (.int .i64 (v : Int))) (w.heap.size + 1) 131 #[.int .i64 0, .int .i64 0, .int .i64 0, .int .i64 0, .int .i64 0, .int .i64 0, .int .i64 0, .int .i64 0, .int .i64 0]) := Lib.hid (HR.out.far (by omega) _ _)
      have HB2 : Hid (Below w.heap.size w (wr.setCell ⟨w.heap.size, k, none⟩ (.int .i64 (v : Int)))) := Lib.hid (below_set HB.out (Nat.le_refl _) _ _)
      have Hs := Lib.hid (borN_succ x k)
      clear HP HR HB
      generalize borN x k = c1 at *
      generalize digN x k = d1 at *
      have b1 : (0 : Int) ≤ (k : Int) := by omega
      have b2 : (k : Int) < 9 := by omega
      rcases Nat.lt_or_ge d1 c1 with hdc | hdc
      · obtain rfl : c1 = 1 := by omega
        obtain rfl : d1 = 0 := by omega
        obtain rfl : v = 65535 := by omega
        have ha : bits .and .i64 (-1) 65535 = 65535 := by decide
        clear hc hd hv
        simp only [Int.cast_ofNat_Int] at *
        go_wp2_with fail
        exact ⟨⟨k + 1, by omega, by go_num, by rw [Hs.out]; rfl, HP2, HR2, HB2⟩, by simp [intOf]; omega⟩
      · obtain ⟨s, hs⟩ : ∃ s, d1 - c1 = s := ⟨_, rfl⟩
        have hs2 : -(c1 : Int) + (d1 : Int) = (s : Int) := by omega
        obtain rfl : v = s := by omega
        have ha := i64_and65535 v
        have hm : v % 65536 = v := by omega
        rw [hm] at ha
        have hv1 : v < 65536 := by omega
        have hv2 : ((v : Int) / 65536) = 0 := by omega
        have Hz : Hid (borN x (k + 1) = 0) := Lib.hid (by rw [Hs.out, if_neg (by omega)])
        clear hc hd hv hs hm hdc Hs
        go_wp2_with fail
        exact ⟨⟨k + 1, by omega, by go_num, by rw [Hz.out]; first | rfl | simp, HP2, HR2, HB2⟩, by simp [intOf]; omega⟩
    · obtain rfl : k = 9 := by omega
      rw [← HZ.out.2]
      go_wp2_with (first | refine wpList_load_row rfl 131 (.tmp 2) rfl w.heap.size rfl 131 (wd (mixM x 9)) (0, 0) _ HP.out Tryz.underlying131 rfl (by kernel_rfl) ?_ | refine wpList_store_row rfl 131 (.tmp 4) (.tmp 21) rfl (w.heap.size + 1) (wd (mixM x 9)) rfl rfl 131 #[.int .i64 0, .int .i64 0, .int .i64 0, .int .i64 0, .int .i64 0, .int .i64 0, .int .i64 0, .int .i64 0, .int .i64 0] HR.out (by kernel_rfl) rfl (wd_one _) ?_)
      refine bodyPost_ret (v := .agg (wd (mixM x 9))) (results_cell_row Tryz.results112 _ _ (w.heap.size + 1) 131 (wd (mixM x 9)) (0, 0) _ rfl (HR.out.row _) Tryz.underlying131 rfl (by kernel_rfl)) rfl ⟨by rw [HZ.out.2], belowRow HB.out (by omega) _⟩
end Go.Proofs.YtaeieigdibanlaaGreatDoor

namespace Go.Proofs.YtaeieigdibanlaaGreatDoor
open Go.RowKit Go
set_option linter.unusedVariables false

theorem exec_loadn {P : Program} {ρ : Operand → Value} {o : Oper} {w : World} (ty : TypeId) (x : Operand) (ho : o.op = .load ty x) (b off : Nat) (hx : ρ x = .pointer (some ⟨b, off, none⟩)) (X : Array Value) (hc : w.rangeAt b off X.toList) (d : TypeDesc) (hu : P.underlying ty = some d) (hd : d.isRow = true) (m : Nat) (hi : (P.info? ty).map (·.size) = some m) (hm : X.size = m) : (execOp ρ o).run P w = .ok (.value (.agg X)) w := by
  subst hm
  have := run_loadAt_mid w b off ty X.toList d hc hu hd (by simpa using hi)
  unfold execOp
  simp only [ho, hx, Sem.run_bind, this, Result.andThen_ok, Sem.run_pure]
end Go.Proofs.YtaeieigdibanlaaGreatDoor

namespace Go.Proofs.YtaeieigdibanlaaGreatDoor.Lm
open Go Go.Proofs.YtaeieigdibanlaaGreatDoor

section
variable {P : Program} {ops : Array Oper} {Q : Exit → Act → World → Prop} {N total : Nat} {a0 : Act}
variable {R : Nat → Value → Nat → World → Prop} {C : Nat → World → Prop} {S : Nat → World → Nat → World → Prop} {cost lim : Nat → Nat}

/-- i and what depends on it -/
def msk (ops : Array Oper) (i : Nat) : Array Bool := (Array.range ops.size).map fun j => j == i || bef ops j i
theorem msk_get (ops : Array Oper) (i j : Nat) (hj : j < ops.size) : (msk ops i).getD j false = (j == i || bef ops j i) := by
  simp [msk, Array.getD, hj]
def limB (ops : Array Oper) (N total : Nat) (cost lim : Nat → Nat) : Bool := (List.range N).all fun i => decide (total ≤ lim i + sumCost cost (msk ops i) ops.size)

theorem limB_spec {ops : Array Oper} {N total : Nat} {cost lim : Nat → Nat} (h : limB ops N total cost lim = true) : ∀ i, i < N → total ≤ lim i + sumCost cost (msk ops i) ops.size := by
  simpa [limB] using h
theorem sumCost_disj {cost : Nat → Nat} {listed mask : Array Bool} : ∀ k, (∀ j, j < k → listed.getD j false = true → mask.getD j false = false) → sumCost cost listed k + sumCost cost mask k ≤ sumCost cost (Array.replicate k true) k
  | 0, _ => by simp [sumCost]
  | k + 1, h => by
    have ih := sumCost_disj (cost := cost) (listed := listed) (mask := mask) k fun j hj => h j (by omega)
    have hk := h k (by omega)
    have hfull : ∀ m, m ≤ k → sumCost cost (Array.replicate (k + 1) true) m = sumCost cost (Array.replicate k true) m := by
      intro m
      induction m with
      | zero => intro _; rfl
      | succ m ihm =>
        intro hm
        simp only [sumCost, ihm (by omega)]
        simp [Array.getD, show m < k by omega, show m < k + 1 by omega]
    simp only [sumCost, hfull k (Nat.le_refl _)]
    have h1 : (Array.replicate (k + 1) true).getD k false = true := by simp [Array.getD]
    simp only [h1, if_true]
    cases hl : listed.getD k false
    · simp only [Bool.false_eq_true, if_false]
      cases hm : mask.getD k false <;> simp <;> omega
    · simp only [hk hl, if_true, Bool.false_eq_true, if_false]
      omega

/-- What is asked of operation i. -/
def Ob (P : Program) (ops : Array Oper) (a0 : Act) (R : Nat → Value → Nat → World → Prop) (C : Nat → World → Prop) (S : Nat → World → Nat → World → Prop) (cost lim : Nat → Nat) (N : Nat) (i : Nat) (o : Oper) : Prop :=
  ∀ (T : Nat → Value) (w : World) (n : Nat), C n w → n ≤ lim i → (∀ p, p < ops.size → bef ops i p = true → R p (T p) n w) →
    if Region.wanted o (yielded ops (setAll (ops.toList.take N) 0 T a0).tmps) then
      Op1 P o (setAll (ops.toList.take N) 0 T a0).eval w fun v w' => R i v (n + cost i) w' ∧ C (n + cost i) w' ∧ S n w (n + cost i) w'
    else R i undef (n + cost i) w ∧ C (n + cost i) w ∧ S n w (n + cost i) w

theorem region_any (hB : InvB ops N a0.tmps.size) (hS : ∀ p v n w n' w', R p v n w → S n w n' w' → R p v n' w')
    (htot : sumCost cost (Array.replicate ops.size true) ops.size ≤ total) (hlm : ∀ i, i < N → total ≤ lim i + sumCost cost (msk ops i) ops.size)
    (hob : ∀ (i : Nat) (o : Oper), ops[i]? = some o → i < N → Ob P ops a0 R C S cost lim N i o)
    (hend : ∀ T w, (∃ n, n ≤ total ∧ C n w ∧ ∀ p, p < N → R p (T p) n w) → wpList P ops Q (ops.toList.drop N) (setAll (ops.toList.take N) 0 T a0) w) :
    ∀ (fuel : Nat) (listed : Array Bool) (a : Act) (w : World), listed.size = ops.size → fuel + cnt listed ops.size = ops.size →
      (∀ j, j < ops.size → listed.getD j false = true → ∀ p, p < ops.size → bef ops j p = true → listed.getD p false = true) →
      ((∃ T, (∀ j, N ≤ j → listed.getD j false = false) ∧ Fits ops a0 listed T a ∧ C (sumCost cost listed ops.size) w ∧ ∀ j, j < ops.size → listed.getD j false = true → R j (T j) (sumCost cost listed ops.size) w) ∨
       (∃ k, N ≤ k ∧ k ≤ ops.size ∧ (∀ j, j < ops.size → (listed.getD j false = true ↔ j < k)) ∧ wpList P ops Q (ops.toList.drop k) a w)) →
      wpAny P .any ops Q fuel listed a w := by
  -- the whole head is there: the two frames are one
  have whole : ∀ (listed : Array Bool) (T : Nat → Value) (a : Act), (∀ j, N ≤ j → listed.getD j false = false) → (∀ j, j < N → listed.getD j false = true) → Fits ops a0 listed T a → a = setAll (ops.toList.take N) 0 T a0 := by
    intro listed T a ht hh hF
    have h1 : a.defers = (setAll (ops.toList.take N) 0 T a0).defers := by rw [setAll_defers, hF.defers]
    have h2 : a.tmps = (setAll (ops.toList.take N) 0 T a0).tmps := by
      refine Array.ext_getElem? fun t => ?_
      rcases Nat.lt_or_ge t a0.tmps.size with hts | hts
      · rw [setAll_get T t _ 0 a0 hts]
        cases hw : lastW t (ops.toList.take N) 0 with
        | some j =>
          obtain ⟨_, o', ho', hd⟩ := lastW_some _ _ hw
          simp only [Nat.sub_zero, List.getElem?_take] at ho'
          split at ho'
          · rename_i hjN
            exact hF.set j o' t (by simpa using ho') (hh j hjN) hd
          · cases ho'
        | none =>
          refine hF.rest t fun j o' hj hlj hd => ?_
          have hjN : j < N := by
            rcases Nat.lt_or_ge j N with h | h
            · exact h
            · rw [ht j h] at hlj; cases hlj
          exact lastW_none _ _ hw j o' (by rw [List.getElem?_take, if_pos hjN]; simpa using hj) hd
      · rw [Array.getElem?_eq_none (by rw [hF.size]; exact hts), Array.getElem?_eq_none (by rw [setAll_size]; exact hts)]
    cases a; cases hb : setAll (ops.toList.take N) 0 T a0; simp_all
  -- nothing ready: all is listed
  have allListed : ∀ (listed : Array Bool), listed.size = ops.size → Region.ready .any ops listed = [] → ∀ j, j < ops.size → listed.getD j false = true := by
    intro listed hsz hr j
    induction j using Nat.strongRecOn with
    | _ j ih =>
      intro hj
      cases hlj : listed.getD j false with
      | true => rfl
      | false =>
        exfalso
        obtain ⟨o, ho⟩ : ∃ o, ops[j]? = some o := ⟨ops[j], Array.getElem?_eq_getElem hj⟩
        have : j ∈ Region.ready .any ops listed := mem_ready.2 ⟨by simpa [Array.getD, hsz, hj] using hlj, o, ho, fun e he hb => ih e.on (hB.back j o e ho he hb) (by have := hB.back j o e ho he hb; omega)⟩
        rw [hr] at this; cases this
  -- the end
  have fin : ∀ (listed : Array Bool) (a : Act) (w : World), (∀ j, j < ops.size → listed.getD j false = true) →
      ((∃ T, (∀ j, N ≤ j → listed.getD j false = false) ∧ Fits ops a0 listed T a ∧ C (sumCost cost listed ops.size) w ∧ ∀ j, j < ops.size → listed.getD j false = true → R j (T j) (sumCost cost listed ops.size) w) ∨
       (∃ k, N ≤ k ∧ k ≤ ops.size ∧ (∀ j, j < ops.size → (listed.getD j false = true ↔ j < k)) ∧ wpList P ops Q (ops.toList.drop k) a w)) → Q .normal a w := by
    intro listed a w hall h
    rcases h with ⟨T, ht, hF, hC, hR⟩ | ⟨k, hk1, hk2, hk3, hk4⟩
    · have hN : N = ops.size := by
        rcases Nat.lt_or_ge N ops.size with h | h
        · have h1 := ht N (Nat.le_refl _)
          rw [hall N h] at h1; cases h1
        · have := hB.le; omega
      have ha := whole listed T a ht (fun j hj => hall j (by omega)) hF
      have := hend T w ⟨_, Nat.le_trans (sumCost_le _) htot, hC, fun p hp => hR p (by omega) (hall p (by omega))⟩
      rw [← ha, List.drop_eq_nil_of_le (by simp; omega)] at this
      exact this
    · have : k = ops.size := by
        rcases Nat.lt_or_ge k ops.size with h | h
        · have := (hk3 k h).1 (hall k h); omega
        · omega
      rw [List.drop_eq_nil_of_le (by simp; omega)] at hk4
      exact hk4
  intro fuel
  induction fuel with
  | zero =>
    intro listed a w hsz hf hd h
    have hall := cnt_full ops.size (by omega : cnt listed ops.size = ops.size)
    refine ⟨?_, fin listed a w hall h⟩
    refine List.eq_nil_iff_forall_not_mem.2 fun i hi => ?_
    obtain ⟨h1, o, ho, _⟩ := mem_ready.1 hi
    have := hall i (Array.getElem?_eq_some_iff.1 ho).1
    rw [(getD_false h1).2] at this; cases this
  | succ fuel ih =>
    intro listed a w hsz hf hd h
    refine ⟨fun hr => fin listed a w (allListed listed hsz hr) h, fun i hi => ?_⟩
    obtain ⟨h1, o, ho, hafter⟩ := mem_ready.1 hi
    have hilt : i < ops.size := (Array.getElem?_eq_some_iff.1 ho).1
    have hset : ∀ j, (listed.setIfInBounds i true).getD j false = true ↔ (j = i ∨ listed.getD j false = true) := fun j => by
      by_cases hj : i = j
      · subst hj; simp [Array.getD, hsz, hilt]
      · rw [getD_set_ne false hj]; simp [Ne.symm hj]
    have hbef : ∀ p, p < ops.size → bef ops i p = true → listed.getD p false = true := fun p hp hb => by
      obtain ⟨e, he, hbi, hor⟩ := hB.clos i p o ho hp hb
      have h2 := hafter e he hbi
      rcases hor with rfl | hor
      · exact h2
      · exact hd e.on (by have := hB.back i o e ho he hbi; omega) h2 p hp hor
    have hsz' : (listed.setIfInBounds i true).size = ops.size := by simpa using hsz
    have hf' : fuel + cnt (listed.setIfInBounds i true) ops.size = ops.size := by
      have := sumCost_set (cost := fun _ => 1) h1 ops.size
      simp only [cnt, hilt, if_true] at this hf ⊢
      omega
    have hd' : ∀ j, j < ops.size → (listed.setIfInBounds i true).getD j false = true → ∀ p, p < ops.size → bef ops j p = true → (listed.setIfInBounds i true).getD p false = true := by
      intro j hj hl p hp hb
      rcases (hset j).1 hl with rfl | hl'
      · exact (hset p).2 (.inr (hbef p hp hb))
      · exact (hset p).2 (.inr (hd j hj hl' p hp hb))
    rcases h with ⟨T, ht, hF, hC, hR⟩ | ⟨k, hk1, hk2, hk3, hk4⟩
    · rcases Nat.lt_or_ge i N with hiN | hiN
      · -- a step of the head
        have hpN : ∀ p, bef ops i p = true → p < ops.size → listed.getD p false = true ∧ p < N := fun p hb hp => by
          have := hbef p hp hb
          refine ⟨this, ?_⟩
          rcases Nat.lt_or_ge p N with h | h
          · exact h
          · rw [ht p h] at this; cases this
        have hag := hF.agree hB ht ho hpN
        have hsum := sumCost_set (cost := cost) h1 ops.size
        simp only [hilt, if_true] at hsum
        have hlim : sumCost cost listed ops.size ≤ lim i := by
          have h5 := sumCost_disj (cost := cost) (listed := listed) (mask := msk ops i) ops.size fun j hj hl => by
            rw [msk_get ops i j hj]
            cases hji : j == i
            · cases hbf : bef ops j i
              · rfl
              · have := hd j hj hl i hilt hbf
                rw [(getD_false h1).2] at this; cases this
            · obtain rfl : j = i := by simpa using hji
              rw [(getD_false h1).2] at hl; cases hl
          have h6 := hlm i hiN
          omega
        have hO := hob i o ho hiN T w _ hC hlim fun p hp hb => hR p hp (hbef p hp hb)
        have next : ∀ v w', R i v (sumCost cost listed ops.size + cost i) w' ∧ C (sumCost cost listed ops.size + cost i) w' ∧ S (sumCost cost listed ops.size) w (sumCost cost listed ops.size + cost i) w' → wpAny P .any ops Q fuel (listed.setIfInBounds i true) (a.put o.dst v) w' := fun v w' ⟨q1, q2, q3⟩ =>
          ih _ _ _ hsz' hf' hd' (.inl ⟨fun j => if j = i then v else T j, fun j hj => by
              rw [getD_set_ne false (by omega)]; exact ht j hj, hF.put hB ho h1 v, by rw [hsum]; exact q2, fun j hj hl => by
              by_cases hji : j = i
              · subst hji; rw [hsum]; simpa using q1
              · simp only [hji, if_false]
                rw [hsum]; exact hS j _ _ _ _ _ (hR j hj (((hset j).1 hl).resolve_left hji)) q3⟩)
        unfold wpOp
        simp only [ho]
        rw [wanted_of_get (a := a) (b := setAll (ops.toList.take N) 0 T a0) o hag]
        split
        · rename_i hw
          rw [if_pos hw] at hO
          refine .inl (Op1.wp (post := fun v w' => R i v (sumCost cost listed ops.size + cost i) w' ∧ C (sumCost cost listed ops.size + cost i) w' ∧ S (sumCost cost listed ops.size) w (sumCost cost listed ops.size + cost i) w') ?_ next)
          unfold Op1 at hO ⊢
          rw [execOp_congr o (Region.noSelect_spec hB.sel i o · · ho) (eval_of_get o hag)]
          exact hO
        · rename_i hw
          rw [if_neg hw] at hO
          exact next undef w hO
      · -- the tail begins
        have hall : ∀ j, j < i → listed.getD j false = true := fun j hj => hbef j (by omega) (hB.tail i j hiN hilt hj)
        have hiN' : i = N := by
          rcases Nat.lt_or_ge N i with h | h
          · have h2 := ht N (Nat.le_refl _)
            rw [hall N h] at h2; cases h2
          · omega
        subst hiN'
        have ha := whole listed T a ht hall hF
        have hw := hend T w ⟨_, Nat.le_trans (sumCost_le _) htot, hC, fun p hp => hR p (by omega) (hall p hp)⟩
        rw [← ha] at hw
        have hdr : ops.toList.drop i = o :: ops.toList.drop (i + 1) := by
          rw [List.drop_eq_getElem_cons (by simpa using hilt)]
          congr 1
          have := (Array.getElem?_eq_some_iff.1 ho).2
          simpa using this
        rw [hdr] at hw
        have hwop : wpOp P ops Q i (wpList P ops Q (ops.toList.drop (i + 1))) a w := by unfold wpOp; simp only [ho]; exact hw
        refine wpOp_mono (fun a' w' h' => ih _ _ _ hsz' hf' hd' (.inr ⟨i + 1, by omega, by omega, fun j hj => ?_, h'⟩)) hwop
        rw [hset j]
        constructor
        · rintro (rfl | hl)
          · omega
          · rcases Nat.lt_or_ge j i with h | h
            · omega
            · rw [ht j h] at hl; cases hl
        · intro hj'
          by_cases hji : j = i
          · exact .inl hji
          · exact .inr (hall j (by omega))
    · -- a step of the tail
      have hik : i = k := by
        have hnl := (getD_false h1).2
        have h2 : ¬ i < k := fun hlt => by rw [(hk3 i hilt).2 hlt] at hnl; cases hnl
        rcases Nat.lt_or_ge k i with h | h
        · have h3 := hbef k (by omega) (hB.tail i k (by omega) hilt h)
          have := (hk3 k (by omega)).1 h3; omega
        · omega
      subst hik
      have hdr : ops.toList.drop i = o :: ops.toList.drop (i + 1) := by
        rw [List.drop_eq_getElem_cons (by simpa using hilt)]
        congr 1
        have := (Array.getElem?_eq_some_iff.1 ho).2
        simpa using this
      rw [hdr] at hk4
      have hwop : wpOp P ops Q i (wpList P ops Q (ops.toList.drop (i + 1))) a w := by unfold wpOp; simp only [ho]; exact hk4
      refine wpOp_mono (fun a' w' h' => ih _ _ _ hsz' hf' hd' (.inr ⟨i + 1, by omega, by omega, fun j hj => ?_, h'⟩)) hwop
      rw [hset j, hk3 j hj]
      omega

/-- what the forerunners have left -/
def AfterAll (R : Nat → Value → Nat → World → Prop) (T : Nat → Value) (n : Nat) (w : World) : List Edge → Prop
  | [] => True
  | e :: l => match Region.binds .any e with
    | true => R e.on (T e.on) n w ∧ AfterAll R T n w l
    | false => AfterAll R T n w l

theorem afterAll_of {R : Nat → Value → Nat → World → Prop} {T : Nat → Value} {n : Nat} {w : World} : ∀ (l : List Edge), (∀ e ∈ l, Region.binds .any e = true → R e.on (T e.on) n w) → AfterAll R T n w l
  | [], _ => trivial
  | e :: l, h => by
    have ih := afterAll_of l fun e' he' => h e' (List.mem_cons_of_mem _ he')
    unfold AfterAll
    cases hb : Region.binds .any e with
    | true => exact ⟨h e (List.mem_cons_self ..) hb, ih⟩
    | false => exact ih

/-- what is asked of operation i, put plainly -/
def Ob' (P : Program) (A : (Nat → Value) → Act) (R : Nat → Value → Nat → World → Prop) (C : Nat → World → Prop) (S : Nat → World → Nat → World → Prop) (cost lim : Nat → Nat) (i : Nat) (o : Oper) : Prop :=
  ∀ (T : Nat → Value) (w : World) (n : Nat), C n w → n ≤ lim i → AfterAll R T n w o.after.toList →
    match o.guard with
    | none => Op1 P o (A T).eval w fun v w' => R i v (n + cost i) w' ∧ C (n + cost i) w' ∧ S n w (n + cost i) w'
    | some (g, want) => (T g = .bool want → Op1 P o (A T).eval w fun v w' => R i v (n + cost i) w' ∧ C (n + cost i) w' ∧ S n w (n + cost i) w') ∧
        (T g ≠ .bool want → R i undef (n + cost i) w ∧ C (n + cost i) w ∧ S n w (n + cost i) w)

/-- what is asked of each operation of the head -/
def ObAll (P : Program) (A : (Nat → Value) → Act) (R : Nat → Value → Nat → World → Prop) (C : Nat → World → Prop) (S : Nat → World → Nat → World → Prop) (cost lim : Nat → Nat) : List Oper → Nat → Prop
  | [], _ => True
  | o :: l, k => Ob' P A R C S cost lim k o ∧ ObAll P A R C S cost lim l (k + 1)

theorem ObAll.get {A : (Nat → Value) → Act} : ∀ (l : List Oper) (k : Nat), ObAll P A R C S cost lim l k → ∀ (i : Nat) (o : Oper), l[i]? = some o → Ob' P A R C S cost lim (k + i) o
  | [], _, _, i, o, ho => by simp at ho
  | o' :: l, k, h, i, o, ho => by
    cases i with
    | zero => simp at ho; subst ho; exact h.1
    | succ i =>
      have := ObAll.get l (k + 1) h.2 i o (by simpa using ho)
      rwa [show k + (i + 1) = k + 1 + i by omega]

theorem ob_of {A : (Nat → Value) → Act} (hB : InvB ops N a0.tmps.size) (hE : edgeB ops = true) {i : Nat} {o : Oper} (ho : ops[i]? = some o) (hi : i < N) (hA : ∀ T, setAll (ops.toList.take N) 0 T a0 = A T) (h : Ob' P A R C S cost lim i o) : Ob P ops a0 R C S cost lim N i o := by
  intro T w n hC hn hp
  have hlt := (Array.getElem?_eq_some_iff.1 ho).1
  have hE' := hE
  simp only [edgeB, List.all_eq_true, List.mem_range] at hE'
  have hEi := hE' i hlt
  simp only [ho, Bool.and_eq_true] at hEi
  obtain ⟨he1, he2⟩ := hEi
  rw [Array.all_eq_true_iff_forall_mem] at he1
  have hAft : AfterAll R T n w o.after.toList := afterAll_of _ fun e he hb => by
    have hm : e ∈ o.after := by simpa using he
    have h1 := he1 e hm
    simp only [hb, Bool.not_true, Bool.false_or] at h1
    exact hp e.on (by have := hB.back i o e ho hm hb; omega) h1
  have h0 := h T w n hC hn hAft
  unfold Region.wanted
  cases hg : o.guard with
  | none =>
    simp only [hg] at h0
    rw [hA T]
    exact h0
  | some gw =>
    obtain ⟨g, want⟩ := gw
    simp only [hg] at h0 he2
    obtain ⟨hbg, hgs⟩ := hB.guard i o g want ho hg
    obtain ⟨og, hog⟩ : ∃ og, ops[g]? = some og := ⟨ops[g], Array.getElem?_eq_getElem hgs⟩
    simp only [hog, Option.bind_some] at he2
    obtain ⟨d, hd⟩ := Option.isSome_iff_exists.1 he2
    have hgi : g < i := by
      have : ∀ k, ∀ (i : Nat) (o : Oper), i < k → ops[i]? = some o → ∀ p, p < ops.size → bef ops i p = true → p < i := by
        intro k
        induction k with
        | zero => intro i o hk; omega
        | succ k ih =>
          intro i o hk hio p hps hb
          obtain ⟨e, he, hbi, hor⟩ := hB.clos i p o hio hps hb
          have h5 := hB.back i o e hio he hbi
          rcases hor with rfl | hor
          · exact h5
          · obtain ⟨o', ho'⟩ : ∃ o', ops[e.on]? = some o' := ⟨ops[e.on]'(by have := (Array.getElem?_eq_some_iff.1 hio).1; omega), Array.getElem?_eq_getElem _⟩
            have := ih e.on o' (by omega) ho' p hps hor
            omega
      exact this (i + 1) i o (by omega) ho g hgs hbg
    have hts : d < a0.tmps.size := hB.size g og d hog hd
    have hget : (setAll (ops.toList.take N) 0 T a0).tmps[d]? = some (T g) := by
      rw [setAll_get T d _ 0 a0 hts]
      cases hw : lastW d (ops.toList.take N) 0 with
      | some j =>
        obtain ⟨_, o', ho', hd'⟩ := lastW_some _ _ hw
        simp only [Nat.sub_zero, List.getElem?_take] at ho'
        split at ho'
        · have hj : ops[j]? = some o' := by simpa using ho'
          have := hB.uniq j g o' og d hj hog hd' hd
          simp [this]
        · cases ho'
      | none =>
        exfalso
        exact lastW_none _ _ hw g og (by rw [List.getElem?_take, if_pos (by omega)]; simpa using hog) hd
    have hy : yielded ops (setAll (ops.toList.take N) 0 T a0).tmps g = match T g with | .bool b => some b | _ => none := by
      unfold yielded
      simp only [hog, Option.bind_some, hd, hget]
      cases T g <;> rfl
    simp only [hy]
    by_cases hT : T g = .bool want
    · simp only [hT]
      simp only [beq_self_eq_true, if_true]
      rw [hA T]
      exact h0.1 hT
    · have hf : ((match T g with | .bool b => some b | _ => none) == some want) = false := by
        cases hv : T g <;> simp
        intro e
        exact hT (by rw [hv, e])
      simp only [hf]
      exact h0.2 hT
end

/-- A REGION THAT DRAWS ITS ORDER, BY AN INVARIANT. N: the operations of the head; the others wait for all before them. -/
theorem wp_region_lim {P : Program} {Q : Exit → Act → World → Prop} {id : Nat} {l : List Oper} {a0 : Act} {w : World} (N total : Nat) (R : Nat → Value → Nat → World → Prop) (C : Nat → World → Prop) (S : Nat → World → Nat → World → Prop) (cost lim : Nat → Nat)
    (hm : P.follows .mixedOrders = true) (hB : (invB l.toArray N a0.tmps.size && edgeB l.toArray) = true) (htot : sumCost cost (Array.replicate l.toArray.size true) l.toArray.size ≤ total) (hlm : limB l.toArray N total cost lim = true)
    (hS : ∀ p v n w n' w', R p v n w → S n w n' w' → R p v n' w') (hC : C 0 w.drew)
    (h : ∃ A : (Nat → Value) → Act, (∀ T, setAll (l.take N) 0 T a0 = A T) ∧ ObAll P A R C S cost lim (l.take N) 0 ∧
      ∀ T w', (∃ n, n ≤ total ∧ C n w' ∧ ∀ p, p < N → R p (T p) n w') → wpList P l.toArray Q (l.drop N) (A T) w') :
    (Code.region id l.toArray true).wp P Q a0 w := by
  obtain ⟨A, hA, hob, hend⟩ := h
  simp only [Bool.and_eq_true] at hB
  refine wp_region_any hm ?_
  have key := region_any (P := P) (Q := Q) (ops := l.toArray) (a0 := a0) (R := R) (C := C) (S := S) (cost := cost) (lim := lim) (total := total) (invB_spec hB.1) hS htot (limB_spec hlm)
    (fun i o ho hi => ob_of (invB_spec hB.1) hB.2 ho hi (fun T => by simpa using hA T) (by
      have := ObAll.get _ _ hob i o (by rw [List.getElem?_take, if_pos hi]; simpa using ho)
      simpa using this))
    (fun T w' hc => by
      have := hend T w' hc
      rw [← hA T] at this
      simpa using this)
    l.toArray.size (Array.replicate l.toArray.size false) a0 w.drew (by simp)
  have h0 : ∀ j, (Array.replicate l.toArray.size false).getD j false = false := fun j => getD_replicate_false _ _
  have hz : ∀ (c : Nat → Nat) k, sumCost c (Array.replicate l.toArray.size false) k = 0 := by
    intro c k
    induction k with
    | zero => rfl
    | succ k ih => simp only [sumCost, ih, h0]; rfl
  have hF : Fits l.toArray a0 (Array.replicate l.toArray.size false) (fun _ => undef) a0 := by
    refine ⟨rfl, rfl, ?_, fun t _ => rfl⟩
    intro j o d _ hl
    rw [h0] at hl
    cases hl
  refine key (by simp only [cnt, hz]; omega) ?_ (.inl ⟨fun _ => undef, fun j _ => h0 j, hF, by rw [hz]; exact hC, ?_⟩)
  · intro j _ hl
    rw [h0] at hl
    cases hl
  · intro j _ hl
    rw [h0] at hl
    cases hl
theorem wpAny_seq {P : Program} {ops : Array Oper} {Q : Exit → Act → World → Prop} (hback : ∀ (i : Nat) (o : Oper) e, ops[i]? = some o → e ∈ o.after → Region.binds .any e = true → e.on < i) :
    ∀ (fuel k : Nat) (listed : Array Bool) (a : Act) (w : World), listed.size = ops.size → fuel + k = ops.size → (∀ j, j < ops.size → (listed.getD j false = true ↔ j < k)) → wpAny P .any ops Q fuel listed a w → wpList P ops Q (ops.toList.drop k) a w
  | 0, k, listed, a, w, hsz, hf, hl, h => by
    rw [List.drop_eq_nil_of_le (by simp; omega)]
    exact h.2
  | fuel + 1, k, listed, a, w, hsz, hf, hl, h => by
    have hk : k < ops.size := by omega
    have ho : ops[k]? = some ops[k] := Array.getElem?_eq_getElem hk
    have hkf : listed.getD k true = false := by
      have : ¬ listed.getD k false = true := fun e => by have := (hl k hk).1 e; omega
      simpa [Array.getD, hsz, hk] using this
    have hr : k ∈ Region.ready .any ops listed := mem_ready.2 ⟨hkf, _, ho, fun e he hb => (hl e.on (by have := hback k _ e ho he hb; omega)).2 (hback k _ e ho he hb)⟩
    have h1 := h.2 k hr
    have hdr : ops.toList.drop k = ops[k] :: ops.toList.drop (k + 1) := by
      rw [List.drop_eq_getElem_cons (by simpa using hk)]
      simp
    rw [hdr]
    have h2 := wpOp_mono (fun a' w' h' => wpAny_seq hback fuel (k + 1) (listed.setIfInBounds k true) a' w' (by simpa using hsz) (by omega) (fun j hj => by
      by_cases hjk : k = j
      · subst hjk; simp [Array.getD, hsz, hk]
      · rw [getD_set_ne false hjk, hl j hj]; omega) h') h1
    unfold wpOp at h2
    simp only [ho] at h2
    exact h2

/-- A REGION IN THE ORDER OF ITS TEXT, BY THE SAME INVARIANT. N: the operations of the head; the others wait for all before them. -/
theorem wp_region_seq {P : Program} {Q : Exit → Act → World → Prop} {id : Nat} {l : List Oper} {a0 : Act} {w : World} (N total : Nat) (R : Nat → Value → Nat → World → Prop) (C : Nat → World → Prop) (S : Nat → World → Nat → World → Prop) (cost lim : Nat → Nat)
    (hm : P.follows .mixedOrders = true) (hB : (invB l.toArray N a0.tmps.size && edgeB l.toArray) = true) (htot : sumCost cost (Array.replicate l.toArray.size true) l.toArray.size ≤ total) (hlm : limB l.toArray N total cost lim = true)
    (hS : ∀ p v n w n' w', R p v n w → S n w n' w' → R p v n' w') (hC : C 0 w)
    (h : ∃ A : (Nat → Value) → Act, (∀ T, setAll (l.take N) 0 T a0 = A T) ∧ ObAll P A R C S cost lim (l.take N) 0 ∧
      ∀ T w', (∃ n, n ≤ total ∧ C n w' ∧ ∀ p, p < N → R p (T p) n w') → wpList P l.toArray Q (l.drop N) (A T) w') :
    (Code.region id l.toArray false).wp P Q a0 w := by
  obtain ⟨A, hA, hob, hend⟩ := h
  simp only [Bool.and_eq_true] at hB
  have key := region_any (P := P) (Q := Q) (ops := l.toArray) (a0 := a0) (R := R) (C := C) (S := S) (cost := cost) (lim := lim) (total := total) (invB_spec hB.1) hS htot (limB_spec hlm)
    (fun i o ho hi => ob_of (invB_spec hB.1) hB.2 ho hi (fun T => by simpa using hA T) (by
      have := ObAll.get _ _ hob i o (by rw [List.getElem?_take, if_pos hi]; simpa using ho)
      simpa using this))
    (fun T w' hc => by
      have := hend T w' hc
      rw [← hA T] at this
      simpa using this)
    l.toArray.size (Array.replicate l.toArray.size false) a0 w (by simp)
  have h0 : ∀ j, (Array.replicate l.toArray.size false).getD j false = false := fun j => getD_replicate_false _ _
  have hz : ∀ (c : Nat → Nat) k, sumCost c (Array.replicate l.toArray.size false) k = 0 := by
    intro c k
    induction k with
    | zero => rfl
    | succ k ih => simp only [sumCost, ih, h0]; rfl
  have hF : Fits l.toArray a0 (Array.replicate l.toArray.size false) (fun _ => undef) a0 := by
    refine ⟨rfl, rfl, ?_, fun t _ => rfl⟩
    intro j o d _ hl
    rw [h0] at hl
    cases hl
  refine wp_region_lit ?_
  have hfin : wpAny P .any l.toArray Q l.toArray.size (Array.replicate l.toArray.size false) a0 w → wpList P l.toArray Q l a0 w := fun h => by
    have := wpAny_seq (invB_spec hB.1).back l.toArray.size 0 _ a0 w (by simp) (by omega) (fun j _ => by rw [h0]; simp) h
    simpa using this
  refine hfin (key (by simp only [cnt, hz]; omega) ?_ (.inl ⟨fun _ => undef, fun j _ => h0 j, hF, by rw [hz]; exact hC, ?_⟩))
  · intro j _ hl
    rw [h0] at hl
    cases hl
  · intro j _ hl
    rw [h0] at hl
    cases hl
end Go.Proofs.YtaeieigdibanlaaGreatDoor.Lm

namespace Go.Proofs.YtaeieigdibanlaaGreatDoor.Lt
open Go Go.Proofs.YtaeieigdibanlaaGreatDoor

section
variable {P : Program} {ops : Array Oper} {Q : Exit → Act → World → Prop} {N total : Nat} {a0 : Act}
variable {R : Nat → Value → Nat → World → Prop} {C : (Nat → Value) → Nat → World → Prop} {S : Nat → World → Nat → World → Prop} {cost lim : Nat → Nat}

/-- i and what depends on it -/
def msk (ops : Array Oper) (i : Nat) : Array Bool := (Array.range ops.size).map fun j => j == i || bef ops j i
theorem msk_get (ops : Array Oper) (i j : Nat) (hj : j < ops.size) : (msk ops i).getD j false = (j == i || bef ops j i) := by
  simp [msk, Array.getD, hj]
def limB (ops : Array Oper) (N total : Nat) (cost lim : Nat → Nat) : Bool := (List.range N).all fun i => decide (total ≤ lim i + sumCost cost (msk ops i) ops.size)

theorem limB_spec {ops : Array Oper} {N total : Nat} {cost lim : Nat → Nat} (h : limB ops N total cost lim = true) : ∀ i, i < N → total ≤ lim i + sumCost cost (msk ops i) ops.size := by
  simpa [limB] using h
theorem sumCost_disj {cost : Nat → Nat} {listed mask : Array Bool} : ∀ k, (∀ j, j < k → listed.getD j false = true → mask.getD j false = false) → sumCost cost listed k + sumCost cost mask k ≤ sumCost cost (Array.replicate k true) k
  | 0, _ => by simp [sumCost]
  | k + 1, h => by
    have ih := sumCost_disj (cost := cost) (listed := listed) (mask := mask) k fun j hj => h j (by omega)
    have hk := h k (by omega)
    have hfull : ∀ m, m ≤ k → sumCost cost (Array.replicate (k + 1) true) m = sumCost cost (Array.replicate k true) m := by
      intro m
      induction m with
      | zero => intro _; rfl
      | succ m ihm =>
        intro hm
        simp only [sumCost, ihm (by omega)]
        simp [Array.getD, show m < k by omega, show m < k + 1 by omega]
    simp only [sumCost, hfull k (Nat.le_refl _)]
    have h1 : (Array.replicate (k + 1) true).getD k false = true := by simp [Array.getD]
    simp only [h1, if_true]
    cases hl : listed.getD k false
    · simp only [Bool.false_eq_true, if_false]
      cases hm : mask.getD k false <;> simp <;> omega
    · simp only [hk hl, if_true, Bool.false_eq_true, if_false]
      omega

def on (T : Nat → Value) (i : Nat) (v : Value) : Nat → Value := fun j => if j = i then v else T j
/-- What is asked of operation i. -/
def Ob (P : Program) (ops : Array Oper) (a0 : Act) (R : Nat → Value → Nat → World → Prop) (C : (Nat → Value) → Nat → World → Prop) (S : Nat → World → Nat → World → Prop) (cost lim : Nat → Nat) (N : Nat) (i : Nat) (o : Oper) : Prop :=
  ∀ (T : Nat → Value) (w : World) (n : Nat), T i = undef → C T n w → n ≤ lim i → (∀ p, p < ops.size → bef ops i p = true → R p (T p) n w) →
    if Region.wanted o (yielded ops (setAll (ops.toList.take N) 0 T a0).tmps) then
      Op1 P o (setAll (ops.toList.take N) 0 T a0).eval w fun v w' => R i v (n + cost i) w' ∧ C (on T i v) (n + cost i) w' ∧ S n w (n + cost i) w'
    else R i undef (n + cost i) w ∧ C (on T i undef) (n + cost i) w ∧ S n w (n + cost i) w

theorem region_any (hB : InvB ops N a0.tmps.size) (hS : ∀ p v n w n' w', R p v n w → S n w n' w' → R p v n' w')
    (htot : sumCost cost (Array.replicate ops.size true) ops.size ≤ total) (hlm : ∀ i, i < N → total ≤ lim i + sumCost cost (msk ops i) ops.size)
    (hob : ∀ (i : Nat) (o : Oper), ops[i]? = some o → i < N → Ob P ops a0 R C S cost lim N i o)
    (hend : ∀ T w, (∃ n, n ≤ total ∧ C T n w ∧ ∀ p, p < N → R p (T p) n w) → wpList P ops Q (ops.toList.drop N) (setAll (ops.toList.take N) 0 T a0) w) :
    ∀ (fuel : Nat) (listed : Array Bool) (a : Act) (w : World), listed.size = ops.size → fuel + cnt listed ops.size = ops.size →
      (∀ j, j < ops.size → listed.getD j false = true → ∀ p, p < ops.size → bef ops j p = true → listed.getD p false = true) →
      ((∃ T, ((∀ j, N ≤ j → listed.getD j false = false) ∧ ∀ j, listed.getD j false = false → T j = undef) ∧ Fits ops a0 listed T a ∧ C T (sumCost cost listed ops.size) w ∧ ∀ j, j < ops.size → listed.getD j false = true → R j (T j) (sumCost cost listed ops.size) w) ∨
       (∃ k, N ≤ k ∧ k ≤ ops.size ∧ (∀ j, j < ops.size → (listed.getD j false = true ↔ j < k)) ∧ wpList P ops Q (ops.toList.drop k) a w)) →
      wpAny P .any ops Q fuel listed a w := by
  -- the whole head is there: the two frames are one
  have whole : ∀ (listed : Array Bool) (T : Nat → Value) (a : Act), (∀ j, N ≤ j → listed.getD j false = false) → (∀ j, j < N → listed.getD j false = true) → Fits ops a0 listed T a → a = setAll (ops.toList.take N) 0 T a0 := by
    intro listed T a ht hh hF
    have h1 : a.defers = (setAll (ops.toList.take N) 0 T a0).defers := by rw [setAll_defers, hF.defers]
    have h2 : a.tmps = (setAll (ops.toList.take N) 0 T a0).tmps := by
      refine Array.ext_getElem? fun t => ?_
      rcases Nat.lt_or_ge t a0.tmps.size with hts | hts
      · rw [setAll_get T t _ 0 a0 hts]
        cases hw : lastW t (ops.toList.take N) 0 with
        | some j =>
          obtain ⟨_, o', ho', hd⟩ := lastW_some _ _ hw
          simp only [Nat.sub_zero, List.getElem?_take] at ho'
          split at ho'
          · rename_i hjN
            exact hF.set j o' t (by simpa using ho') (hh j hjN) hd
          · cases ho'
        | none =>
          refine hF.rest t fun j o' hj hlj hd => ?_
          have hjN : j < N := by
            rcases Nat.lt_or_ge j N with h | h
            · exact h
            · rw [ht j h] at hlj; cases hlj
          exact lastW_none _ _ hw j o' (by rw [List.getElem?_take, if_pos hjN]; simpa using hj) hd
      · rw [Array.getElem?_eq_none (by rw [hF.size]; exact hts), Array.getElem?_eq_none (by rw [setAll_size]; exact hts)]
    cases a; cases hb : setAll (ops.toList.take N) 0 T a0; simp_all
  -- nothing ready: all is listed
  have allListed : ∀ (listed : Array Bool), listed.size = ops.size → Region.ready .any ops listed = [] → ∀ j, j < ops.size → listed.getD j false = true := by
    intro listed hsz hr j
    induction j using Nat.strongRecOn with
    | _ j ih =>
      intro hj
      cases hlj : listed.getD j false with
      | true => rfl
      | false =>
        exfalso
        obtain ⟨o, ho⟩ : ∃ o, ops[j]? = some o := ⟨ops[j], Array.getElem?_eq_getElem hj⟩
        have : j ∈ Region.ready .any ops listed := mem_ready.2 ⟨by simpa [Array.getD, hsz, hj] using hlj, o, ho, fun e he hb => ih e.on (hB.back j o e ho he hb) (by have := hB.back j o e ho he hb; omega)⟩
        rw [hr] at this; cases this
  -- the end
  have fin : ∀ (listed : Array Bool) (a : Act) (w : World), (∀ j, j < ops.size → listed.getD j false = true) →
      ((∃ T, ((∀ j, N ≤ j → listed.getD j false = false) ∧ ∀ j, listed.getD j false = false → T j = undef) ∧ Fits ops a0 listed T a ∧ C T (sumCost cost listed ops.size) w ∧ ∀ j, j < ops.size → listed.getD j false = true → R j (T j) (sumCost cost listed ops.size) w) ∨
       (∃ k, N ≤ k ∧ k ≤ ops.size ∧ (∀ j, j < ops.size → (listed.getD j false = true ↔ j < k)) ∧ wpList P ops Q (ops.toList.drop k) a w)) → Q .normal a w := by
    intro listed a w hall h
    rcases h with ⟨T, ht, hF, hC, hR⟩ | ⟨k, hk1, hk2, hk3, hk4⟩
    · have hN : N = ops.size := by
        rcases Nat.lt_or_ge N ops.size with h | h
        · have h1 := ht.1 N (Nat.le_refl _)
          rw [hall N h] at h1; cases h1
        · have := hB.le; omega
      have ha := whole listed T a ht.1 (fun j hj => hall j (by omega)) hF
      have := hend T w ⟨_, Nat.le_trans (sumCost_le _) htot, hC, fun p hp => hR p (by omega) (hall p (by omega))⟩
      rw [← ha, List.drop_eq_nil_of_le (by simp; omega)] at this
      exact this
    · have : k = ops.size := by
        rcases Nat.lt_or_ge k ops.size with h | h
        · have := (hk3 k h).1 (hall k h); omega
        · omega
      rw [List.drop_eq_nil_of_le (by simp; omega)] at hk4
      exact hk4
  intro fuel
  induction fuel with
  | zero =>
    intro listed a w hsz hf hd h
    have hall := cnt_full ops.size (by omega : cnt listed ops.size = ops.size)
    refine ⟨?_, fin listed a w hall h⟩
    refine List.eq_nil_iff_forall_not_mem.2 fun i hi => ?_
    obtain ⟨h1, o, ho, _⟩ := mem_ready.1 hi
    have := hall i (Array.getElem?_eq_some_iff.1 ho).1
    rw [(getD_false h1).2] at this; cases this
  | succ fuel ih =>
    intro listed a w hsz hf hd h
    refine ⟨fun hr => fin listed a w (allListed listed hsz hr) h, fun i hi => ?_⟩
    obtain ⟨h1, o, ho, hafter⟩ := mem_ready.1 hi
    have hilt : i < ops.size := (Array.getElem?_eq_some_iff.1 ho).1
    have hset : ∀ j, (listed.setIfInBounds i true).getD j false = true ↔ (j = i ∨ listed.getD j false = true) := fun j => by
      by_cases hj : i = j
      · subst hj; simp [Array.getD, hsz, hilt]
      · rw [getD_set_ne false hj]; simp [Ne.symm hj]
    have hbef : ∀ p, p < ops.size → bef ops i p = true → listed.getD p false = true := fun p hp hb => by
      obtain ⟨e, he, hbi, hor⟩ := hB.clos i p o ho hp hb
      have h2 := hafter e he hbi
      rcases hor with rfl | hor
      · exact h2
      · exact hd e.on (by have := hB.back i o e ho he hbi; omega) h2 p hp hor
    have hsz' : (listed.setIfInBounds i true).size = ops.size := by simpa using hsz
    have hf' : fuel + cnt (listed.setIfInBounds i true) ops.size = ops.size := by
      have := sumCost_set (cost := fun _ => 1) h1 ops.size
      simp only [cnt, hilt, if_true] at this hf ⊢
      omega
    have hd' : ∀ j, j < ops.size → (listed.setIfInBounds i true).getD j false = true → ∀ p, p < ops.size → bef ops j p = true → (listed.setIfInBounds i true).getD p false = true := by
      intro j hj hl p hp hb
      rcases (hset j).1 hl with rfl | hl'
      · exact (hset p).2 (.inr (hbef p hp hb))
      · exact (hset p).2 (.inr (hd j hj hl' p hp hb))
    rcases h with ⟨T, ht, hF, hC, hR⟩ | ⟨k, hk1, hk2, hk3, hk4⟩
    · rcases Nat.lt_or_ge i N with hiN | hiN
      · -- a step of the head
        have hpN : ∀ p, bef ops i p = true → p < ops.size → listed.getD p false = true ∧ p < N := fun p hb hp => by
          have := hbef p hp hb
          refine ⟨this, ?_⟩
          rcases Nat.lt_or_ge p N with h | h
          · exact h
          · rw [ht.1 p h] at this; cases this
        have hag := hF.agree hB ht.1 ho hpN
        have hsum := sumCost_set (cost := cost) h1 ops.size
        simp only [hilt, if_true] at hsum
        have hlim : sumCost cost listed ops.size ≤ lim i := by
          have h5 := sumCost_disj (cost := cost) (listed := listed) (mask := msk ops i) ops.size fun j hj hl => by
            rw [msk_get ops i j hj]
            cases hji : j == i
            · cases hbf : bef ops j i
              · rfl
              · have := hd j hj hl i hilt hbf
                rw [(getD_false h1).2] at this; cases this
            · obtain rfl : j = i := by simpa using hji
              rw [(getD_false h1).2] at hl; cases hl
          have h6 := hlm i hiN
          omega
        have hO := hob i o ho hiN T w _ (ht.2 i (getD_false h1).2) hC hlim fun p hp hb => hR p hp (hbef p hp hb)
        have next : ∀ v w', R i v (sumCost cost listed ops.size + cost i) w' ∧ C (on T i v) (sumCost cost listed ops.size + cost i) w' ∧ S (sumCost cost listed ops.size) w (sumCost cost listed ops.size + cost i) w' → wpAny P .any ops Q fuel (listed.setIfInBounds i true) (a.put o.dst v) w' := fun v w' ⟨q1, q2, q3⟩ =>
          ih _ _ _ hsz' hf' hd' (.inl ⟨fun j => if j = i then v else T j, ⟨fun j hj => by
              rw [getD_set_ne false (by omega)]; exact ht.1 j hj, fun j hj => by
              by_cases hji : j = i
              · subst hji
                have := (hset j).2 (.inl rfl)
                rw [hj] at this; cases this
              · simp only [hji, if_false]
                exact ht.2 j ((getD_set_ne false (fun e => hji e.symm)).symm.trans hj)⟩, hF.put hB ho h1 v, by rw [hsum]; exact q2, fun j hj hl => by
              by_cases hji : j = i
              · subst hji; rw [hsum]; simpa using q1
              · simp only [hji, if_false]
                rw [hsum]; exact hS j _ _ _ _ _ (hR j hj (((hset j).1 hl).resolve_left hji)) q3⟩)
        unfold wpOp
        simp only [ho]
        rw [wanted_of_get (a := a) (b := setAll (ops.toList.take N) 0 T a0) o hag]
        split
        · rename_i hw
          rw [if_pos hw] at hO
          refine .inl (Op1.wp (post := fun v w' => R i v (sumCost cost listed ops.size + cost i) w' ∧ C (on T i v) (sumCost cost listed ops.size + cost i) w' ∧ S (sumCost cost listed ops.size) w (sumCost cost listed ops.size + cost i) w') ?_ next)
          unfold Op1 at hO ⊢
          rw [execOp_congr o (Region.noSelect_spec hB.sel i o · · ho) (eval_of_get o hag)]
          exact hO
        · rename_i hw
          rw [if_neg hw] at hO
          exact next undef w hO
      · -- the tail begins
        have hall : ∀ j, j < i → listed.getD j false = true := fun j hj => hbef j (by omega) (hB.tail i j hiN hilt hj)
        have hiN' : i = N := by
          rcases Nat.lt_or_ge N i with h | h
          · have h2 := ht.1 N (Nat.le_refl _)
            rw [hall N h] at h2; cases h2
          · omega
        subst hiN'
        have ha := whole listed T a ht.1 hall hF
        have hw := hend T w ⟨_, Nat.le_trans (sumCost_le _) htot, hC, fun p hp => hR p (by omega) (hall p hp)⟩
        rw [← ha] at hw
        have hdr : ops.toList.drop i = o :: ops.toList.drop (i + 1) := by
          rw [List.drop_eq_getElem_cons (by simpa using hilt)]
          congr 1
          have := (Array.getElem?_eq_some_iff.1 ho).2
          simpa using this
        rw [hdr] at hw
        have hwop : wpOp P ops Q i (wpList P ops Q (ops.toList.drop (i + 1))) a w := by unfold wpOp; simp only [ho]; exact hw
        refine wpOp_mono (fun a' w' h' => ih _ _ _ hsz' hf' hd' (.inr ⟨i + 1, by omega, by omega, fun j hj => ?_, h'⟩)) hwop
        rw [hset j]
        constructor
        · rintro (rfl | hl)
          · omega
          · rcases Nat.lt_or_ge j i with h | h
            · omega
            · rw [ht.1 j h] at hl; cases hl
        · intro hj'
          by_cases hji : j = i
          · exact .inl hji
          · exact .inr (hall j (by omega))
    · -- a step of the tail
      have hik : i = k := by
        have hnl := (getD_false h1).2
        have h2 : ¬ i < k := fun hlt => by rw [(hk3 i hilt).2 hlt] at hnl; cases hnl
        rcases Nat.lt_or_ge k i with h | h
        · have h3 := hbef k (by omega) (hB.tail i k (by omega) hilt h)
          have := (hk3 k (by omega)).1 h3; omega
        · omega
      subst hik
      have hdr : ops.toList.drop i = o :: ops.toList.drop (i + 1) := by
        rw [List.drop_eq_getElem_cons (by simpa using hilt)]
        congr 1
        have := (Array.getElem?_eq_some_iff.1 ho).2
        simpa using this
      rw [hdr] at hk4
      have hwop : wpOp P ops Q i (wpList P ops Q (ops.toList.drop (i + 1))) a w := by unfold wpOp; simp only [ho]; exact hk4
      refine wpOp_mono (fun a' w' h' => ih _ _ _ hsz' hf' hd' (.inr ⟨i + 1, by omega, by omega, fun j hj => ?_, h'⟩)) hwop
      rw [hset j, hk3 j hj]
      omega

/-- what the forerunners have left -/
def AfterAll (R : Nat → Value → Nat → World → Prop) (T : Nat → Value) (n : Nat) (w : World) : List Edge → Prop
  | [] => True
  | e :: l => match Region.binds .any e with
    | true => R e.on (T e.on) n w ∧ AfterAll R T n w l
    | false => AfterAll R T n w l

theorem afterAll_of {R : Nat → Value → Nat → World → Prop} {T : Nat → Value} {n : Nat} {w : World} : ∀ (l : List Edge), (∀ e ∈ l, Region.binds .any e = true → R e.on (T e.on) n w) → AfterAll R T n w l
  | [], _ => trivial
  | e :: l, h => by
    have ih := afterAll_of l fun e' he' => h e' (List.mem_cons_of_mem _ he')
    unfold AfterAll
    cases hb : Region.binds .any e with
    | true => exact ⟨h e (List.mem_cons_self ..) hb, ih⟩
    | false => exact ih

/-- what is asked of operation i, put plainly -/
def Ob' (P : Program) (A : (Nat → Value) → Act) (R : Nat → Value → Nat → World → Prop) (C : (Nat → Value) → Nat → World → Prop) (S : Nat → World → Nat → World → Prop) (cost lim : Nat → Nat) (i : Nat) (o : Oper) : Prop :=
  ∀ (T : Nat → Value) (w : World) (n : Nat), T i = undef → C T n w → n ≤ lim i → AfterAll R T n w o.after.toList →
    match o.guard with
    | none => Op1 P o (A T).eval w fun v w' => R i v (n + cost i) w' ∧ C (on T i v) (n + cost i) w' ∧ S n w (n + cost i) w'
    | some (g, want) => (T g = .bool want → Op1 P o (A T).eval w fun v w' => R i v (n + cost i) w' ∧ C (on T i v) (n + cost i) w' ∧ S n w (n + cost i) w') ∧
        (T g ≠ .bool want → R i undef (n + cost i) w ∧ C (on T i undef) (n + cost i) w ∧ S n w (n + cost i) w)

/-- what is asked of each operation of the head -/
def ObAll (P : Program) (A : (Nat → Value) → Act) (R : Nat → Value → Nat → World → Prop) (C : (Nat → Value) → Nat → World → Prop) (S : Nat → World → Nat → World → Prop) (cost lim : Nat → Nat) : List Oper → Nat → Prop
  | [], _ => True
  | o :: l, k => Ob' P A R C S cost lim k o ∧ ObAll P A R C S cost lim l (k + 1)

theorem ObAll.get {A : (Nat → Value) → Act} : ∀ (l : List Oper) (k : Nat), ObAll P A R C S cost lim l k → ∀ (i : Nat) (o : Oper), l[i]? = some o → Ob' P A R C S cost lim (k + i) o
  | [], _, _, i, o, ho => by simp at ho
  | o' :: l, k, h, i, o, ho => by
    cases i with
    | zero => simp at ho; subst ho; exact h.1
    | succ i =>
      have := ObAll.get l (k + 1) h.2 i o (by simpa using ho)
      rwa [show k + (i + 1) = k + 1 + i by omega]

theorem ob_of {A : (Nat → Value) → Act} (hB : InvB ops N a0.tmps.size) (hE : edgeB ops = true) {i : Nat} {o : Oper} (ho : ops[i]? = some o) (hi : i < N) (hA : ∀ T, setAll (ops.toList.take N) 0 T a0 = A T) (h : Ob' P A R C S cost lim i o) : Ob P ops a0 R C S cost lim N i o := by
  intro T w n hU hC hn hp
  have hlt := (Array.getElem?_eq_some_iff.1 ho).1
  have hE' := hE
  simp only [edgeB, List.all_eq_true, List.mem_range] at hE'
  have hEi := hE' i hlt
  simp only [ho, Bool.and_eq_true] at hEi
  obtain ⟨he1, he2⟩ := hEi
  rw [Array.all_eq_true_iff_forall_mem] at he1
  have hAft : AfterAll R T n w o.after.toList := afterAll_of _ fun e he hb => by
    have hm : e ∈ o.after := by simpa using he
    have h1 := he1 e hm
    simp only [hb, Bool.not_true, Bool.false_or] at h1
    exact hp e.on (by have := hB.back i o e ho hm hb; omega) h1
  have h0 := h T w n hU hC hn hAft
  unfold Region.wanted
  cases hg : o.guard with
  | none =>
    simp only [hg] at h0
    rw [hA T]
    exact h0
  | some gw =>
    obtain ⟨g, want⟩ := gw
    simp only [hg] at h0 he2
    obtain ⟨hbg, hgs⟩ := hB.guard i o g want ho hg
    obtain ⟨og, hog⟩ : ∃ og, ops[g]? = some og := ⟨ops[g], Array.getElem?_eq_getElem hgs⟩
    simp only [hog, Option.bind_some] at he2
    obtain ⟨d, hd⟩ := Option.isSome_iff_exists.1 he2
    have hgi : g < i := by
      have : ∀ k, ∀ (i : Nat) (o : Oper), i < k → ops[i]? = some o → ∀ p, p < ops.size → bef ops i p = true → p < i := by
        intro k
        induction k with
        | zero => intro i o hk; omega
        | succ k ih =>
          intro i o hk hio p hps hb
          obtain ⟨e, he, hbi, hor⟩ := hB.clos i p o hio hps hb
          have h5 := hB.back i o e hio he hbi
          rcases hor with rfl | hor
          · exact h5
          · obtain ⟨o', ho'⟩ : ∃ o', ops[e.on]? = some o' := ⟨ops[e.on]'(by have := (Array.getElem?_eq_some_iff.1 hio).1; omega), Array.getElem?_eq_getElem _⟩
            have := ih e.on o' (by omega) ho' p hps hor
            omega
      exact this (i + 1) i o (by omega) ho g hgs hbg
    have hts : d < a0.tmps.size := hB.size g og d hog hd
    have hget : (setAll (ops.toList.take N) 0 T a0).tmps[d]? = some (T g) := by
      rw [setAll_get T d _ 0 a0 hts]
      cases hw : lastW d (ops.toList.take N) 0 with
      | some j =>
        obtain ⟨_, o', ho', hd'⟩ := lastW_some _ _ hw
        simp only [Nat.sub_zero, List.getElem?_take] at ho'
        split at ho'
        · have hj : ops[j]? = some o' := by simpa using ho'
          have := hB.uniq j g o' og d hj hog hd' hd
          simp [this]
        · cases ho'
      | none =>
        exfalso
        exact lastW_none _ _ hw g og (by rw [List.getElem?_take, if_pos (by omega)]; simpa using hog) hd
    have hy : yielded ops (setAll (ops.toList.take N) 0 T a0).tmps g = match T g with | .bool b => some b | _ => none := by
      unfold yielded
      simp only [hog, Option.bind_some, hd, hget]
      cases T g <;> rfl
    simp only [hy]
    by_cases hT : T g = .bool want
    · simp only [hT]
      simp only [beq_self_eq_true, if_true]
      rw [hA T]
      exact h0.1 hT
    · have hf : ((match T g with | .bool b => some b | _ => none) == some want) = false := by
        cases hv : T g <;> simp
        intro e
        exact hT (by rw [hv, e])
      simp only [hf]
      exact h0.2 hT
end

/-- A REGION THAT DRAWS ITS ORDER, BY AN INVARIANT. N: the operations of the head; the others wait for all before them. -/
theorem wp_region_lim {P : Program} {Q : Exit → Act → World → Prop} {id : Nat} {l : List Oper} {a0 : Act} {w : World} (N total : Nat) (R : Nat → Value → Nat → World → Prop) (C : (Nat → Value) → Nat → World → Prop) (S : Nat → World → Nat → World → Prop) (cost lim : Nat → Nat)
    (hm : P.follows .mixedOrders = true) (hB : (invB l.toArray N a0.tmps.size && edgeB l.toArray) = true) (htot : sumCost cost (Array.replicate l.toArray.size true) l.toArray.size ≤ total) (hlm : limB l.toArray N total cost lim = true)
    (hS : ∀ p v n w n' w', R p v n w → S n w n' w' → R p v n' w') (hC : ∀ T, C T 0 w.drew)
    (h : ∃ A : (Nat → Value) → Act, (∀ T, setAll (l.take N) 0 T a0 = A T) ∧ ObAll P A R C S cost lim (l.take N) 0 ∧
      ∀ T w', (∃ n, n ≤ total ∧ C T n w' ∧ ∀ p, p < N → R p (T p) n w') → wpList P l.toArray Q (l.drop N) (A T) w') :
    (Code.region id l.toArray true).wp P Q a0 w := by
  obtain ⟨A, hA, hob, hend⟩ := h
  simp only [Bool.and_eq_true] at hB
  refine wp_region_any hm ?_
  have key := region_any (P := P) (Q := Q) (ops := l.toArray) (a0 := a0) (R := R) (C := C) (S := S) (cost := cost) (lim := lim) (total := total) (invB_spec hB.1) hS htot (limB_spec hlm)
    (fun i o ho hi => ob_of (invB_spec hB.1) hB.2 ho hi (fun T => by simpa using hA T) (by
      have := ObAll.get _ _ hob i o (by rw [List.getElem?_take, if_pos hi]; simpa using ho)
      simpa using this))
    (fun T w' hc => by
      have := hend T w' hc
      rw [← hA T] at this
      simpa using this)
    l.toArray.size (Array.replicate l.toArray.size false) a0 w.drew (by simp)
  have h0 : ∀ j, (Array.replicate l.toArray.size false).getD j false = false := fun j => getD_replicate_false _ _
  have hz : ∀ (c : Nat → Nat) k, sumCost c (Array.replicate l.toArray.size false) k = 0 := by
    intro c k
    induction k with
    | zero => rfl
    | succ k ih => simp only [sumCost, ih, h0]; rfl
  have hF : Fits l.toArray a0 (Array.replicate l.toArray.size false) (fun _ => undef) a0 := by
    refine ⟨rfl, rfl, ?_, fun t _ => rfl⟩
    intro j o d _ hl
    rw [h0] at hl
    cases hl
  refine key (by simp only [cnt, hz]; omega) ?_ (.inl ⟨fun _ => undef, ⟨fun j _ => h0 j, fun _ _ => rfl⟩, hF, by rw [hz]; exact hC _, ?_⟩)
  · intro j _ hl
    rw [h0] at hl
    cases hl
  · intro j _ hl
    rw [h0] at hl
    cases hl
end Go.Proofs.YtaeieigdibanlaaGreatDoor.Lt

namespace Go.Proofs.YtaeieigdibanlaaGreatDoor
open Go.RowKit Go
set_option linter.unusedVariables false

theorem zeroCells_size (cs : Array Value) (n : Nat) : (Builtin.zeroCells cs n).size = n * cs.size := by
  first | simp [Builtin.zeroCells] | simp [Builtin.zeroCells]
theorem ownK_zero {α : Type} (E : Lay α) (w : World) (B : Nat) (hB : B ≤ w.heap.size) (cs : Array Value) (m : Nat) (hcs : cs.size = m * E.K) (hm : m ≤ maxLen) : OwnK E (w.alloc (.cells cs E.ty (0, 0))) B (.slice (some ⟨w.heap.size, 0, none⟩) 0 m) [] :=
  ⟨by simp [Lay.all], .inr ⟨w.heap.size, m, cs, rfl, hB, heap_alloc_new w _, Nat.zero_le _, hm, hcs, by simp [Lay.all]⟩⟩
set_option maxRecDepth 100000 in
set_option maxHeartbeats 1000000 in
theorem growPf_any (n : Nat) (w : World) (hn : n ≤ 1000000) : Calls Tryz.prog 146 #[.slice none 0 0, .int .i64 (n : Int)] w fun e w' => ∃ v, e = .returned v ∧ OwnK layPf w' w.heap.size v [] ∧ Below w.heap.size w w' := by
  by_cases h0 : n = 0
  · subst h0
    go_enter Tryz.func146, Tryz.ntmps146
    go_wp2
    go_ret
    exact ⟨_, rfl, OwnK.nil _ _ _, Below.refl _ _⟩
  · obtain ⟨i, hi0, hi1, hi2, hi3⟩ := info_parts (show (Tryz.prog.info? 90).map (fun i => (i.zero, i.size, i.bytes)) = some (some (.agg #[.bool false, .int .u64 0, .int .u64 0, .int .i64 0]), 4, 32) by kernel_rfl)
    have hrun := fun ty => Lib.run_append_nil_zeros (P := Tryz.prog) w 53 3 ty 90 i (.agg #[.bool false, .int .u64 0, .int .u64 0, .int .i64 0]) .i64 .i64 Tryz.underlying53 Tryz.underlying3 hi0 hi1 n (by omega) (by rw [hi2]; decide) (by omega) (by rw [hi3]; omega)
    go_enter Tryz.func146, Tryz.ntmps146
    go_wp2_with (at_builtin; refine Lib.wpList_append_run _ rfl _ _ _ _ rfl _ _ rfl rfl _ _ (hrun _) ?_)
    have hge := grownCap_ge w n 0 90
    have hle := grownCap_le_maxLen w n 0 90 (by unfold maxLen; omega)
    generalize grownCap w n 0 90 = m at *
    go_ret
    exact ⟨_, rfl, ownK_zero layPf w.drew w.heap.size (Nat.le_refl _) _ m (by rw [Array.size_append, zeroCells_size, zeroCells_size]; show n * 4 + (m - n) * 4 = m * 4; omega) hle, below_alloc (below_drew (Below.refl _ _)) _⟩
def tk (n1 n2 : Nat) : Nat → Nat
  | 0 => 0
  | 1 => n1
  | _ => n1 + n2
def tL (L1 L2 : List Pf) : Nat → List Pf
  | 0 => []
  | 1 => L1
  | _ => L1 ++ L2
set_option maxRecDepth 100000 in
set_option maxHeartbeats 2000000 in
theorem concatPf_any (g c : Nat) (ad1 ad2 : Option Addr) (n1 c1 n2 c2 : Nat) (L1 L2 : List Pf) (w : World) (hg : w.heap[g]? = some (.cells #[.slice ad1 n1 c1, .slice ad2 n2 c2] 53 (0, 0))) (h1 : RdK layPf w ad1 L1) (h2 : RdK layPf w ad2 L2) (hn1 : L1.length = n1) (hn2 : L2.length = n2) (hs1 : n1 ≤ 100000) (hs2 : n2 ≤ 100000) :
    Calls Tryz.prog 110 #[.slice (some ⟨g, 0, none⟩) 2 c] w fun e w' => ∃ v, e = .returned v ∧ OwnK layPf w' w.heap.size v (L1 ++ L2) ∧ Below w.heap.size w w' := by
  have HG : Hid (Blk w g 53 #[.slice ad1 n1 c1, .slice ad2 n2 c2]) := Lib.hid hg
  have H1 := Lib.hid h1
  have H2 := Lib.hid h2
  have Hn1 := Lib.hid hn1
  have Hn2 := Lib.hid hn2
  have hglt := HG.out.lt
  clear hg h1 h2 hn1 hn2
  have g0 := HG.out.cell 0
  have g1 := HG.out.cell 1
  simp at g0 g1
  go_enter Tryz.func110, Tryz.ntmps110
  go_wp2
  go_loop [3, 11] (fun t i => ∃ k : Nat, k ≤ 2 ∧ i = .int .i64 (k : Int) ∧ t = .int .i64 ((tk n1 n2 k : Nat) : Int)) (fun _ i => 2 - (intOf i).toNat)
  case atStart => exact ⟨0, Nat.zero_le _, rfl, rfl⟩
  case round =>
    obtain ⟨k, hk, rfl, rfl⟩ := hrel
    have hk3 : k = 0 ∨ k = 1 ∨ k = 2 := by omega
    rcases hk3 with rfl | rfl | rfl
    · simp only [tk, Int.cast_ofNat_Int] at *
      go_wp2
      exact ⟨⟨1, by omega, rfl, by show _ = Value.int .i64 (n1 : Int); first | rfl | simp⟩, by simp [intOf]⟩
    · simp only [tk, Int.cast_ofNat_Int] at *
      go_wp2
      exact ⟨⟨2, by omega, rfl, by show _ = Value.int .i64 ((n1 + n2 : Nat) : Int); first | rfl | (congr 1)⟩, by simp [intOf]⟩
    · simp only [tk] at *
      obtain ⟨tt, htt⟩ : ∃ tt, n1 + n2 = tt := ⟨_, rfl⟩
      rw [htt]
      have htb : tt ≤ 200000 := by omega
      go_wp2_with fail
      refine (growPf_any tt w (by omega)).mono ?_
      rintro e w1 ⟨v1, rfl, hO, hb⟩
      have HO := Lib.hid hO
      have HB := Lib.hid hb
      clear hO hb
      go_wp2
      go_loopw [6, 27] (fun s i wr => ∃ k' : Nat, k' ≤ 2 ∧ i = .int .i64 (k' : Int) ∧ Hid (OwnK layPf wr w.heap.size s (tL L1 L2 k')) ∧ Hid (Below w.heap.size w wr)) (fun _ i _ => 2 - (intOf i).toNat)
      case atStart => exact ⟨0, Nat.zero_le _, rfl, HO, HB⟩
      case round =>
        clear HO HB
        obtain ⟨k', hk', rfl, HO, HB⟩ := hrel
        have hwlt : g < wr.heap.size := Nat.lt_of_lt_of_le hglt HB.out.size
        have HG2 := HG.out.below HB.out hglt
        have e0 := HG2.cell 0
        have e1 := HG2.cell 1
        simp at e0 e1
        have hk3 : k' = 0 ∨ k' = 1 ∨ k' = 2 := by omega
        clear HG2
        rcases hk3 with rfl | rfl | rfl
        · have hsr := (H1.out.below HB.out).src
          rw [Hn1.out] at hsr
          have HS : Hid (Src wr ad1 n1 4 (layPf.all L1)) := Lib.hid hsr
          have HOr : Hid (wr.ownsRow w.heap.size 90 4 u6 0 []) := Lib.hid HO.out
          have HSo := Lib.hid (layPf.all_one L1)
          clear hsr HO
          go_wp2_with (at_builtin; refine wpList_app pfE rfl (.tmp 31) (.tmp 32) rfl rfl HOr.out rfl HS.out HSo.out ?h1 ?h2 ?h3 ?_)
          case h1 => unfold maxLen; omega
          case h2 => omega
          case h3 => exact HB.out.size
          intro v' w' hO' hG
          have HO' : Hid (OwnK layPf w' w.heap.size v' L1) := Lib.hid (by
            show w'.ownsRow _ _ _ _ L1.length (layPf.all L1)
            rw [Hn1.out]
            exact hO')
          have HB' := Lib.hid (HB.out.trans (hG.below HB.out.size (own_base HOr.out)))
          clear hO' hG HB HS HOr HSo
          go_wp2
          exact ⟨⟨1, by omega, rfl, HO', HB'⟩, by simp [intOf]⟩
        · have hsr := (H2.out.below HB.out).src
          rw [Hn2.out] at hsr
          have HS : Hid (Src wr ad2 n2 4 (layPf.all L2)) := Lib.hid hsr
          have HOr : Hid (wr.ownsRow w.heap.size 90 4 u6 n1 (layPf.all L1)) := Lib.hid (by
            have this : wr.ownsRow w.heap.size 90 4 u6 L1.length (layPf.all L1) := HO.out
            rw [Hn1.out] at this
            exact this)
          have HSo := Lib.hid (layPf.all_one L2)
          clear hsr HO
          go_wp2_with (at_builtin; refine wpList_app pfE rfl (.tmp 31) (.tmp 32) rfl rfl HOr.out rfl HS.out HSo.out ?h1b ?h2b ?h3b ?_)
          case h1b => unfold maxLen; omega
          case h2b => omega
          case h3b => exact HB.out.size
          intro v' w' hO' hG
          have HO' : Hid (OwnK layPf w' w.heap.size v' (L1 ++ L2)) := Lib.hid (OwnK.app (by rw [Hn1.out, Hn2.out, htt]; exact hO'))
          have HB' := Lib.hid (HB.out.trans (hG.below HB.out.size (own_base HOr.out)))
          clear hO' hG HB HS HOr HSo
          go_wp2
          exact ⟨⟨2, by omega, rfl, HO', HB'⟩, by simp [intOf]⟩
        · go_wp2
          go_ret
          exact ⟨_, rfl, HO.out, HB.out⟩
end Go.Proofs.YtaeieigdibanlaaGreatDoor

namespace Go.Proofs.YtaeieigdibanlaaGreatDoor
open Go Go.Lib
set_option linter.unusedVariables false

/-- the last n decimal digits of x, the first ahead -/
def dgs : Nat → Nat → List UInt8
  | 0, _ => []
  | n + 1, x => Lib.dg x n :: dgs n x
theorem dgs_len : ∀ n x, (dgs n x).length = n
  | 0, _ => rfl
  | n + 1, x => by simp [dgs, dgs_len n x]
theorem dgs_get : ∀ n x t, t < n → (dgs n x)[t]? = some (Lib.dg x (n - 1 - t))
  | 0, _, t, h => absurd h (Nat.not_lt_zero _)
  | n + 1, x, 0, _ => by simp [dgs]
  | n + 1, x, t + 1, h => by
    have := dgs_get n x t (by omega)
    simp only [dgs, List.getElem?_cons_succ, this]
    congr 2
    omega
theorem dgs_snoc : ∀ n x, dgs (n + 1) x = dgs n (x / 10) ++ [Lib.dg x 0]
  | 0, x => rfl
  | n + 1, x => by
    have h := dgs_snoc n x
    rw [dgs, h, dgs, dg_succ]
    rfl
theorem decDigits_dgs (u : Nat) : decDigits u = dgs (nDigits u) u := by
  induction u using Nat.strongRecOn with
  | _ u ih =>
    by_cases h : u < 10
    · rw [decDigits, dif_pos h, nDigits_small h]
      simp [dgs, Lib.dg, Nat.mod_eq_of_lt h]
    · rw [decDigits, dif_neg h, nDigits_big h, ih (u / 10) (by omega), dgs_snoc]
      simp [Lib.dg]
theorem dg_mod (x j k : Nat) (h : j < k) : Lib.dg (x % 10 ^ k) j = Lib.dg x j := by
  unfold Lib.dg
  congr 2
  have e : 10 ^ k = 10 ^ j * (10 * 10 ^ (k - j - 1)) := by
    rw [← Nat.mul_assoc, ← Nat.pow_succ, ← Nat.pow_add]
    congr 1
    omega
  rw [e, Nat.mod_mul_right_div_self, Nat.mod_mul_right_mod]
theorem dgs_mod : ∀ n k x, n ≤ k → dgs n (x % 10 ^ k) = dgs n x
  | 0, _, _, _ => rfl
  | n + 1, k, x, h => by rw [dgs, dgs, dg_mod x n k (by omega), dgs_mod n k x (by omega)]
theorem dg_div (x j k : Nat) : Lib.dg (x / 10 ^ k) j = Lib.dg x (j + k) := by
  unfold Lib.dg
  rw [Nat.div_div_eq_div_mul, ← Nat.pow_add, Nat.add_comm k j]
theorem dgs_add : ∀ a b x, dgs (a + b) x = dgs a (x / 10 ^ b) ++ dgs b x
  | 0, b, x => by simp [dgs]
  | a + 1, b, x => by
    rw [show a + 1 + b = (a + b) + 1 from by omega, dgs, dgs, dgs_add a b x, dg_div]
    rfl
theorem dg_lead {x j : Nat} (h : x < 10 ^ j) : Lib.dg x j = 48 := by
  unfold Lib.dg
  rw [Nat.div_eq_of_lt h]
  rfl
theorem dgs_lead : ∀ m n x, x < 10 ^ n → dgs (m + n) x = List.replicate m 48 ++ dgs n x
  | 0, n, x, h => by simp
  | m + 1, n, x, h => by
    rw [show m + 1 + n = (m + n) + 1 from by omega, dgs, dgs_lead m n x h, dg_lead (Nat.lt_of_lt_of_le h (Nat.pow_le_pow_right (by decide) (by omega)))]
    rfl
theorem pow_nDigits_le {u : Nat} (h : u ≠ 0) : 10 ^ (nDigits u - 1) ≤ u := by
  induction u using Nat.strongRecOn with
  | _ u ih =>
    by_cases h2 : u < 10
    · rw [nDigits_small h2]; simp; omega
    · rw [nDigits_big h2]
      have h3 := ih (u / 10) (by omega) (by omega)
      have h4 := nDigits_pos (u / 10)
      obtain ⟨q, hq⟩ : ∃ q, nDigits (u / 10) = q + 1 := ⟨nDigits (u / 10) - 1, by omega⟩
      rw [hq] at h3 ⊢
      simp only [Nat.add_sub_cancel] at h3 ⊢
      rw [Nat.pow_succ]
      omega
theorem nDigits_mono {x y : Nat} (h : x ≤ y) : nDigits x ≤ nDigits y := by
  by_cases h0 : x = 0
  · subst h0
    rw [nDigits_small (by decide)]
    exact nDigits_pos y
  · have h1 := pow_nDigits_le h0
    have h2 := lt_pow_nDigits y
    have h3 : 10 ^ (nDigits x - 1) < 10 ^ nDigits y := by omega
    have h4 := (Nat.pow_lt_pow_iff_right (by decide : 1 < 10)).1 h3
    have := nDigits_pos x
    omega
/-- decDigits by a row of places that holds the number -/
theorem dec_of_dgs {n x : Nat} (h1 : x < 10 ^ n) (h2 : nDigits x = n) : dgs n x = decDigits x := by rw [decDigits_dgs, h2]
theorem nDigits_lt {x n : Nat} (hn : 1 ≤ n) (h : x < 10 ^ n) : nDigits x ≤ n := by
  by_cases h0 : x = 0
  · subst h0; rw [nDigits_small (by decide)]; exact hn
  · have h1 := pow_nDigits_le h0
    have h3 : 10 ^ (nDigits x - 1) < 10 ^ n := by omega
    have h4 := (Nat.pow_lt_pow_iff_right (by decide : 1 < 10)).1 h3
    omega
/-- a number of more digits in front of k places -/
theorem dec_join {x k : Nat} (h : x / 10 ^ k ≠ 0) : decDigits (x / 10 ^ k) ++ dgs k x = decDigits x := by
  rw [decDigits_dgs, decDigits_dgs x, ← dgs_add]
  congr 1
  have h1 := pow_nDigits_le h
  have h2 := lt_pow_nDigits (x / 10 ^ k)
  have h3 := nDigits_pos (x / 10 ^ k)
  obtain ⟨q, hq⟩ : ∃ q, nDigits (x / 10 ^ k) = q + 1 := ⟨nDigits (x / 10 ^ k) - 1, by omega⟩
  rw [hq] at h1 h2 ⊢
  simp only [Nat.add_sub_cancel] at h1
  have hp : 0 < 10 ^ k := Nat.pow_pos (by decide)
  have a1 : 10 ^ (q + k) ≤ x := by
    rw [Nat.pow_add]
    exact (Nat.le_div_iff_mul_le hp).1 h1
  have a2 : x < 10 ^ (q + k + 1) := by
    rw [show q + k + 1 = (q + 1) + k from by omega, Nat.pow_add]
    exact (Nat.div_lt_iff_lt_mul hp).1 h2
  rw [nDigits_unique (q + k) x a1 a2]
  omega
/-- padded with zeros to n places -/
theorem dec_pad {x n : Nat} (h : nDigits x ≤ n) : List.replicate (n - nDigits x) 48 ++ decDigits x = dgs n x := by
  rw [decDigits_dgs, ← dgs_lead _ _ _ (lt_pow_nDigits x)]
  congr 1
  omega
/-- what is carried out of the last k places -/
def cryK (x y k : Nat) : Nat := (x % 10 ^ k + y % 10 ^ k) / 10 ^ k
theorem cryK_le (x y k : Nat) : cryK x y k ≤ 1 := by
  unfold cryK
  have hp : 0 < 10 ^ k := Nat.pow_pos (by decide)
  have h1 := Nat.mod_lt x hp
  have h2 := Nat.mod_lt y hp
  have : (x % 10 ^ k + y % 10 ^ k) / 10 ^ k < 2 := (Nat.div_lt_iff_lt_mul hp).2 (by omega)
  omega
theorem cryK_zero (x y : Nat) : cryK x y 0 = 0 := by simp [cryK, Nat.mod_one]
theorem mod_succ (x k : Nat) : x % 10 ^ (k + 1) = 10 ^ k * (x / 10 ^ k % 10) + x % 10 ^ k := by
  rw [Nat.pow_succ, Nat.mod_mul]
  omega
/-- one place: what is carried on -/
theorem cryK_succ (x y k : Nat) : cryK x y (k + 1) = (x / 10 ^ k % 10 + y / 10 ^ k % 10 + cryK x y k) / 10 := by
  unfold cryK
  have hp : 0 < 10 ^ k := Nat.pow_pos (by decide)
  rw [mod_succ x k, mod_succ y k, Nat.pow_succ, ← Nat.div_div_eq_div_mul]
  congr 1
  have e : 10 ^ k * (x / 10 ^ k % 10) + x % 10 ^ k + (10 ^ k * (y / 10 ^ k % 10) + y % 10 ^ k) = (x % 10 ^ k + y % 10 ^ k) + 10 ^ k * (x / 10 ^ k % 10 + y / 10 ^ k % 10) := by rw [Nat.mul_add]; omega
  rw [e, Nat.add_mul_div_left _ _ hp]
  omega
theorem div_sum (x y k : Nat) : (x + y) / 10 ^ k = x / 10 ^ k + y / 10 ^ k + cryK x y k := by
  unfold cryK
  have hp : 0 < 10 ^ k := Nat.pow_pos (by decide)
  have e : x + y = (x % 10 ^ k + y % 10 ^ k) + 10 ^ k * (x / 10 ^ k + y / 10 ^ k) := by
    rw [Nat.mul_add]
    have := Nat.div_add_mod x (10 ^ k)
    have := Nat.div_add_mod y (10 ^ k)
    omega
  conv => lhs; rw [e]
  rw [Nat.add_mul_div_left _ _ hp]
  omega
/-- one place: the digit -/
theorem dg_sum (x y k : Nat) : Lib.dg (x + y) k = UInt8.ofNat (48 + (x / 10 ^ k % 10 + y / 10 ^ k % 10 + cryK x y k) % 10) := by
  unfold Lib.dg
  rw [div_sum]
  congr 2
  omega
theorem dg_val (x k : Nat) : (Lib.dg x k).toNat = 48 + x / 10 ^ k % 10 := by
  unfold Lib.dg
  have : x / 10 ^ k % 10 < 10 := Nat.mod_lt _ (by decide)
  simp
  omega
/-- the sum, out of its places and what is carried out of them -/
theorem dec_sum {x y n : Nat} (hx : nDigits x ≤ n) (hy : nDigits y ≤ n) (hn : nDigits x = n ∨ nDigits y = n) : (if cryK x y n > 0 then 49 :: dgs n (x + y) else dgs n (x + y)) = decDigits (x + y) := by
  have h1 : x < 10 ^ n := Nat.lt_of_lt_of_le (lt_pow_nDigits x) (Nat.pow_le_pow_right (by decide) hx)
  have h2 : y < 10 ^ n := Nat.lt_of_lt_of_le (lt_pow_nDigits y) (Nat.pow_le_pow_right (by decide) hy)
  have hc := div_sum x y n
  rw [Nat.div_eq_of_lt h1, Nat.div_eq_of_lt h2] at hc
  have hle := cryK_le x y n
  have hge : n ≤ nDigits (x + y) := by
    rcases hn with h | h
    · rw [← h]; exact nDigits_mono (by omega)
    · rw [← h]; exact nDigits_mono (by omega)
  have hn1 : 1 ≤ n := by
    rcases hn with h | h
    · rw [← h]; exact nDigits_pos _
    · rw [← h]; exact nDigits_pos _
  by_cases h : cryK x y n > 0
  · rw [if_pos h]
    have h1 : (x + y) / 10 ^ n = 1 := by omega
    have := dec_join (x := x + y) (k := n) (by omega)
    rw [h1, decDigits_one (by decide)] at this
    rw [← this]
    rfl
  · rw [if_neg h]
    have h0 : (x + y) / 10 ^ n = 0 := by omega
    have hp : 0 < 10 ^ n := Nat.pow_pos (by decide)
    have hlt : x + y < 10 ^ n := by
      rcases (Nat.div_eq_zero_iff).1 h0 with h | h
      · omega
      · exact h
    have := nDigits_lt hn1 hlt
    exact dec_of_dgs hlt (by omega)
end Go.Proofs.YtaeieigdibanlaaGreatDoor

namespace Go.Proofs.YtaeieigdibanlaaGreatDoor
open Go.RowKit
set_option linter.unusedVariables false

/-- a slice of bytes that can be read -/
structure RdB (w : World) (ad : Option Addr) (bs : List UInt8) : Prop where
  small : bs.length ≤ 140737488351232
  cell : ∀ i, i < bs.length → ∃ g o, ad = some ⟨g, o, none⟩ ∧ g < w.heap.size ∧ w.cell? ⟨g, o + i, none⟩ = some (.int .u8 ((bs.getD i 0).toNat : Int))

end Go.Proofs.YtaeieigdibanlaaGreatDoor
