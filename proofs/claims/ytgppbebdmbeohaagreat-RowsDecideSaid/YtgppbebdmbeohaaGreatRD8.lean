/-
  How many blocks a span has at most, plain.
  wide.plus of the reference, at 1: the next number.
  The reference's wide numbers, said of one number: of, firstOf, lastOf, addr, cmp, ==.
-/
import Derived.Test.YtgppbebdmbeohaaGreatRD7
import Derived.Test.YtgppbebdmbeohaaGreatRD5
import Derived.Test.YtgppbebdmbeohaaGreatRD3
set_option linter.unusedVariables false
namespace Go.Proofs.YtgppbebdmbeohaaGreat
open Go
set_option linter.unusedVariables false

theorem blks_down {L y : Nat} : ∀ j x, j ≤ L → 2 ^ j ∣ x → y + 1 - x < 2 ^ j → (blks L x y).length ≤ j
  | 0, x, _, _, h => by
    rw [blks_stop (by simp at h; omega)]
    exact Nat.le_refl _
  | j + 1, x, hj, hd, h => by
    have hd' : 2 ^ j ∣ x := Nat.dvd_trans (Nat.pow_dvd_pow 2 (Nat.le_succ j)) hd
    rcases Nat.lt_or_ge (y + 1 - x) (2 ^ j) with hlt | hge
    · exact Nat.le_succ_of_le (blks_down j x (by omega) hd' hlt)
    · have hp := two_pos j
      have hxy : x ≤ y := by omega
      have hg := gB_ok (L := L) hxy
      have h1 := gB_top (L := L) (x := x) (y := y) (j := j) (by omega) hd' (by omega)
      have h2 : L - gB L x y < j + 1 := by
        rcases Nat.lt_or_ge (L - gB L x y) (j + 1) with h3 | h3
        · exact h3
        · have := Nat.pow_le_pow_right (n := 2) (by decide) h3
          have := hg.fits
          omega
      have hk : L - gB L x y = j := by omega
      rw [blks_step hxy, hk, List.length_cons]
      rw [Nat.pow_succ] at h
      exact Nat.succ_le_succ (blks_down j (x + 2 ^ j) (by omega) (Nat.dvd_add hd' (Nat.dvd_refl _)) (by omega))
theorem blks_up {L y F : Nat} (hF : y < F + 2 ^ L) : ∀ m j x, L - j = m → j ≤ L → F ≤ x → 2 ^ j ∣ x → (blks L x y).length ≤ (L - j) + L + 1 := by
  intro m
  induction m using Nat.strongRecOn with
  | _ m ih =>
    intro j x hm hj hx hd
    rcases Nat.lt_or_ge (y + 1 - x) (2 ^ j) with hlt | hge
    · have := blks_down j x hj hd hlt; omega
    · have hp := two_pos j
      have hxy : x ≤ y := by omega
      have hg := gB_ok (L := L) hxy
      have h1 := gB_top (L := L) (x := x) (y := y) (j := j) hj hd (by omega)
      have hd1 := hg.dvd
      have hf1 := hg.fits
      rw [blks_step hxy, List.length_cons]
      generalize hk : L - gB L x y = k at *
      have hkL : k ≤ L := by omega
      have hp2 := two_pos k
      rcases Nat.lt_or_ge k L with hkl | hkl
      · by_cases ha : 2 ^ (k + 1) ∣ x
        · have hnf : ¬ x + (2 ^ (k + 1) - 1) ≤ y := fun h => by
            have := gB_top (L := L) (x := x) (y := y) (j := k + 1) (by omega) ha h
            omega
          rw [Nat.pow_succ] at hnf
          have := blks_down (L := L) (y := y) k (x + 2 ^ k) hkL (Nat.dvd_add hd1 (Nat.dvd_refl _)) (by omega)
          omega
        · have hd2 : 2 ^ (k + 1) ∣ x + 2 ^ k := by
            obtain ⟨a, rfl⟩ := hd1
            rcases Nat.mod_two_eq_zero_or_one a with h0 | h0
            · exfalso
              obtain ⟨b, rfl⟩ := Nat.dvd_of_mod_eq_zero h0
              exact ha ⟨b, by rw [Nat.pow_succ, Nat.mul_assoc]⟩
            · refine ⟨(a + 1) / 2, ?_⟩
              have : a + 1 = 2 * ((a + 1) / 2) := by omega
              rw [Nat.pow_succ, Nat.mul_assoc, ← this, Nat.mul_add, Nat.mul_one]
          have := ih (L - (k + 1)) (by omega) (k + 1) (x + 2 ^ k) rfl (by omega) (by omega) hd2
          omega
      · obtain rfl : k = L := by omega
        rw [blks_stop (by omega)]
        simp
theorem blks_len {p : Sp} (h : VR p) : (blks (LN p.1) p.1 p.2).length ≤ 257 := by
  have key : ∀ L F, L ≤ 128 → p.2 < F + 2 ^ L → F ≤ p.1 → (blks L p.1 p.2).length ≤ 257 := fun L F hL h1 h2 => by
    have := blks_up h1 L 0 p.1 rfl (Nat.zero_le _) h2 (by rw [Nat.pow_zero]; exact Nat.one_dvd _)
    omega
  unfold LN
  rcases h.a.cases with ⟨a, _, _, d⟩ | ⟨a, b, _⟩
  · have hn : ¬ 2 ^ 128 ≤ p.1 := of_decide_eq_false a
    rw [if_neg hn]
    refine key 32 0 (by decide) ?_ (Nat.zero_le _)
    rcases h.b.cases with ⟨a', _, _, d'⟩ | ⟨a', _⟩
    · omega
    · rw [h.s, a'] at a; cases a
  · have hn : 2 ^ 128 ≤ p.1 := of_decide_eq_true a
    rw [if_pos hn]
    refine key 128 (2 ^ 128) (by decide) ?_ hn
    rcases h.b with hb | ⟨_, hb⟩
    · have := h.le
      have : (2 : Nat) ^ 32 ≤ 2 ^ 128 := by decide
      omega
    · have : (2 : Nat) ^ 129 = 2 ^ 128 + 2 ^ 128 := by decide
      omega
theorem allB_crude : ∀ {S : List Sp}, (∀ p ∈ S, VR p) → (allB S).length ≤ 257 * S.length
  | [], _ => Nat.zero_le _
  | p :: S, h => by
    have h1 := blks_len (h p (List.mem_cons_self ..))
    have h2 := allB_crude (S := S) fun q hq => h q (List.mem_cons_of_mem _ hq)
    unfold allB at h2 ⊢
    rw [List.flatMap_cons, List.length_append, List.length_cons]
    omega
/-- each block of a right range is a right prefix -/
theorem blk_vn {p : Sp} (h : VR p) {x : Nat} (h1 : p.1 ≤ x) (h2 : x ≤ p.2) : VN x ∧ LN x = LN p.1 ∧ sixN x = sixN p.1 := by
  have e32 : (2 : Nat) ^ 32 ≤ 2 ^ 128 := by decide
  rcases h.a.cases with ⟨a, _, _, d⟩ | ⟨a, b, _⟩
  · have hn : ¬ 2 ^ 128 ≤ p.1 := of_decide_eq_false a
    rcases h.b.cases with ⟨a', _, _, d'⟩ | ⟨a', _⟩
    · have hx : ¬ 2 ^ 128 ≤ x := by omega
      refine ⟨.inl (by omega), ?_, ?_⟩
      · unfold LN; rw [if_neg hx, if_neg hn]
      · rw [a]; exact decide_eq_false hx
    · rw [h.s, a'] at a; cases a
  · have hn : 2 ^ 128 ≤ p.1 := of_decide_eq_true a
    have hx : 2 ^ 128 ≤ x := by omega
    refine ⟨.inr ⟨hx, ?_⟩, ?_, ?_⟩
    · rcases h.b with hb | ⟨_, hb⟩ <;> omega
    · unfold LN; rw [if_pos hx, if_pos hn]
    · rw [a]; exact decide_eq_true hx
end Go.Proofs.YtgppbebdmbeohaaGreat

namespace Go.Proofs.YtgppbebdmbeohaaGreat
open Go.RowKit Go
set_option linter.unusedVariables false

/-- what is carried into a digit -/
def carN (x k : Nat) : Nat := (x % 65536 ^ k + 1) / 65536 ^ k
theorem carN_zero (x : Nat) : carN x 0 = 1 := by simp [carN, Nat.mod_one]
theorem carN_le (x k : Nat) : carN x k ≤ 1 := by
  unfold carN
  have hp : 0 < 65536 ^ k := Nat.pow_pos (by decide)
  have h := Nat.mod_lt x hp
  have : (x % 65536 ^ k + 1) / 65536 ^ k ≤ 65536 ^ k / 65536 ^ k := Nat.div_le_div_right (by omega)
  rwa [Nat.div_self hp] at this
theorem carN_dig (x k : Nat) : digN (x + 1) k = (carN x k + digN x k) % 65536 := by
  have hp : 0 < 65536 ^ k := Nat.pow_pos (by decide)
  unfold digN carN
  have e : x + 1 = (x % 65536 ^ k + 1) + 65536 ^ k * (x / 65536 ^ k) := by have := Nat.mod_add_div x (65536 ^ k); omega
  rw [e, Nat.add_mul_div_left _ _ hp, Nat.add_mod, Nat.add_mod ((x % 65536 ^ k + 1) / 65536 ^ k) (x / 65536 ^ k % 65536), Nat.mod_mod]
theorem carN_succ (x k : Nat) : carN x (k + 1) = (carN x k + digN x k) / 65536 := by
  have hp : 0 < 65536 ^ k := Nat.pow_pos (by decide)
  unfold carN digN
  rw [Nat.mod_pow_succ, Nat.pow_succ, ← Nat.div_div_eq_div_mul, show x % 65536 ^ k + 65536 ^ k * (x / 65536 ^ k % 65536) + 1 = x % 65536 ^ k + 1 + 65536 ^ k * (x / 65536 ^ k % 65536) by omega, Nat.add_mul_div_left _ _ hp]
def mixD (x k : Nat) (j : Nat) : Nat := if j < k then digN (x + 1) j else digN x j
theorem wd_set (f : Nat → Nat) (d : Nat) (h : d < 9) (v : Nat) : (wd f).setIfInBounds d (.int .i64 (v : Int)) = wd (fun j => if j = d then v else f j) := by
  have : d = 0 ∨ d = 1 ∨ d = 2 ∨ d = 3 ∨ d = 4 ∨ d = 5 ∨ d = 6 ∨ d = 7 ∨ d = 8 := by omega
  rcases this with rfl | rfl | rfl | rfl | rfl | rfl | rfl | rfl | rfl <;> rfl
theorem wd_one (f : Nat → Nat) : (wd f).all (·.oneCell') = true := by simp [wd, Value.oneCell']
theorem mix_step (x k : Nat) (h : k < 9) : (wd (mixD x k)).setIfInBounds k (.int .i64 (((carN x k + digN x k) % 65536 : Nat) : Int)) = wd (mixD x (k + 1)) := by
  rw [wd_set _ _ h]
  refine wd_congr fun d _ => ?_
  unfold mixD
  by_cases h1 : d = k
  · subst h1; rw [if_pos rfl, if_pos (by omega), carN_dig]
  · rw [if_neg h1]
    by_cases h2 : d < k
    · rw [if_pos h2, if_pos (by omega)]
    · rw [if_neg h2, if_neg (by omega)]
theorem i64_and65535 (n : Nat) : bits .and .i64 (n : Int) 65535 = ((n % 65536 : Nat) : Int) := by
  have h127 : (BitVec.ofInt 64 65535).toNat = 2 ^ 16 - 1 := by decide
  have key : (BitVec.ofInt 64 (n : Int) &&& BitVec.ofInt 64 65535).toNat = n % 65536 := by
    rw [BitVec.toNat_and, BitVec.toNat_ofInt, h127, Nat.and_two_pow_sub_one_eq_mod]
    omega
  show IntKind.i64.wrap ((BitVec.ofInt 64 (n : Int) &&& BitVec.ofInt 64 65535).toNat : Nat) = _
  rw [key, IntKind.wrap_i64]
  omega
set_option maxRecDepth 100000 in
set_option maxHeartbeats 2000000 in
theorem plusN (x : Nat) (w : World) : Calls Tryz.prog 148 #[.agg (wN x), .int .i64 1] w (Ret (.agg (wN (x + 1))) w) := by
  have HZ : Hid (mixD x 9 = mixD x 9 ∧ wd (mixD x 9) = wN (x + 1)) := Lib.hid ⟨rfl, wd_congr fun d hd => by unfold mixD; rw [if_pos hd]⟩
  have H0 : Hid (wN x = wd (mixD x 0)) := Lib.hid (wd_congr fun d _ => by unfold mixD; rw [if_neg (by omega)])
  rw [H0.out]
  have HP' : Blk ((w.alloc (.cells (wd (mixD x 0)) 152 (0, 0))).alloc (.cells #[.int .i64 0, .int .i64 0, .int .i64 0, .int .i64 0, .int .i64 0, .int .i64 0, .int .i64 0, .int .i64 0, .int .i64 0] 152 (0, 0))) (w.heap.size) 152 (wd (mixD x 0)) := (Blk.new w _ _).alloc _
  have HR' : Blk ((w.alloc (.cells (wd (mixD x 0)) 152 (0, 0))).alloc (.cells #[.int .i64 0, .int .i64 0, .int .i64 0, .int .i64 0, .int .i64 0, .int .i64 0, .int .i64 0, .int .i64 0, .int .i64 0] 152 (0, 0))) (w.heap.size + 1) 152 #[.int .i64 0, .int .i64 0, .int .i64 0, .int .i64 0, .int .i64 0, .int .i64 0, .int .i64 0, .int .i64 0, .int .i64 0] := by
    have this := Blk.new (w.alloc (.cells (wd (mixD x 0)) 152 (0, 0))) 152 #[.int .i64 0, .int .i64 0, .int .i64 0, .int .i64 0, .int .i64 0, .int .i64 0, .int .i64 0, .int .i64 0, .int .i64 0]
    rw [World.size_alloc] at this
    exact this
  have HP := Lib.hid HP'
  have HR := Lib.hid HR'
  have HB : Hid (Below w.heap.size w ((w.alloc (.cells (wd (mixD x 0)) 152 (0, 0))).alloc (.cells #[.int .i64 0, .int .i64 0, .int .i64 0, .int .i64 0, .int .i64 0, .int .i64 0, .int .i64 0, .int .i64 0, .int .i64 0] 152 (0, 0)))) := Lib.hid (below_alloc (below_alloc (Below.refl _ _) _) _)
  clear HP' HR'
  have hsz := Tryz.sizeOf152
  have Hc0 := Lib.hid (carN_zero x)
  go_enter Tryz.func148, Tryz.ntmps148
  go_upto_region 1 with fail
  generalize ((w.alloc (.cells (wd (mixD x 0)) 152 (0, 0))).alloc (.cells #[.int .i64 0, .int .i64 0, .int .i64 0, .int .i64 0, .int .i64 0, .int .i64 0, .int .i64 0, .int .i64 0, .int .i64 0] 152 (0, 0))) = w1 at *
  go_wp2_with fail
  go_loopw [1, 5, 6] (fun nv iv i wr => ∃ k : Nat, k ≤ 9 ∧ i = .int .i64 (k : Int) ∧ nv = .int .i64 ((carN x k : Nat) : Int) ∧ Hid (Blk wr w.heap.size 152 (wd (mixD x k))) ∧ Hid (Blk wr (w.heap.size + 1) 152 #[.int .i64 0, .int .i64 0, .int .i64 0, .int .i64 0, .int .i64 0, .int .i64 0, .int .i64 0, .int .i64 0, .int .i64 0]) ∧ Hid (Below w.heap.size w wr)) (fun _ _ i _ => 9 - (intOf i).toNat)
  case atStart => exact ⟨0, by omega, rfl, by rw [Hc0.out]; rfl, HP, HR, HB⟩
  case round =>
    clear HP HR HB
    obtain ⟨k, hk, rfl, rfl, HP, HR, HB⟩ := hrel
    by_cases hlt : k < 9
    · have hc := carN_le x k
      have hd := digN_lt x k
      have hcell : wr.cell? ⟨w.heap.size, k, none⟩ = some (.int .i64 ((digN x k : Nat) : Int)) := by
        rw [HP.out.cell k, wd_get _ _ hlt]
        unfold mixD
        rw [if_neg (Nat.lt_irrefl k)]
      have hfr := HP.out.free k
      have HP2 : Hid (Blk (wr.setCell ⟨w.heap.size, k, none⟩ (.int .i64 (((carN x k + digN x k) % 65536 : Nat) : Int))) w.heap.size 152 (wd (mixD x (k + 1)))) := Lib.hid (by
        rw [← mix_step x k hlt]
        exact HP.out.set k _)
      have HR2 : Hid (Blk (wr.setCell ⟨w.heap.size, k, none⟩ (.int .i64 (((carN x k + digN x k) % 65536 : Nat) : Int))) (w.heap.size + 1) 152 #[.int .i64 0, .int .i64 0, .int .i64 0, .int .i64 0, .int .i64 0, .int .i64 0, .int .i64 0, .int .i64 0, .int .i64 0]) := Lib.hid (HR.out.far (by omega) _ _)
      have HB2 : Hid (Below w.heap.size w (wr.setCell ⟨w.heap.size, k, none⟩ (.int .i64 (((carN x k + digN x k) % 65536 : Nat) : Int)))) := Lib.hid (below_set HB.out (Nat.le_refl _) _ _)
      have Hs := Lib.hid (carN_succ x k)
      clear HP HR HB
      generalize carN x k = c1 at *
      generalize digN x k = d1 at *
      obtain ⟨s, hs⟩ : ∃ s, c1 + d1 = s := ⟨_, rfl⟩
      have hs2 : (c1 : Int) + (d1 : Int) = (s : Int) := by omega
      have hs3 : s ≤ 65536 := by omega
      rw [hs] at HP2 HR2 HB2 Hs
      have ha := i64_and65535 s
      have b1 : (0 : Int) ≤ (k : Int) := by omega
      have b2 : (k : Int) < 9 := by omega
      clear hs hc hd
      go_wp2_with fail
      exact ⟨⟨k + 1, by omega, by go_num, by rw [Hs.out]; exact congrArg _ (by omega), HP2, HR2, HB2⟩, by simp [intOf]; omega⟩
    · obtain rfl : k = 9 := by omega
      rw [← HZ.out.2]
      go_wp2_with (first | refine wpList_load_row rfl 152 (.tmp 2) rfl w.heap.size rfl 152 (wd (mixD x 9)) (0, 0) _ HP.out Tryz.underlying152 rfl (by kernel_rfl) ?_ | refine wpList_store_row rfl 152 (.tmp 4) (.tmp 21) rfl (w.heap.size + 1) (wd (mixD x 9)) rfl rfl 152 #[.int .i64 0, .int .i64 0, .int .i64 0, .int .i64 0, .int .i64 0, .int .i64 0, .int .i64 0, .int .i64 0, .int .i64 0] HR.out (by kernel_rfl) rfl (wd_one _) ?_)
      refine bodyPost_ret (v := .agg (wd (mixD x 9))) (results_cell_row Tryz.results148 _ _ (w.heap.size + 1) 152 (wd (mixD x 9)) (0, 0) _ rfl (HR.out.row _) Tryz.underlying152 rfl (by kernel_rfl)) rfl ⟨by rw [HZ.out.2], belowRow HB.out (by omega) _⟩
end Go.Proofs.YtgppbebdmbeohaaGreat

namespace Go.Proofs.YtgppbebdmbeohaaGreat
open Go.RowKit Go
set_option linter.unusedVariables false

theorem ofN {x : Nat} (w : World) (hx : VN x) : Calls Tryz.prog 125 #[.agg (aN x)] w (Ret (.agg (wN x)) w) := by
  have := of_any (sixN x) (hiN x) (loN x) w (hiN_u x) (loN_u x)
  rw [wCells_wv, ← wN_aN hx] at this
  exact this
theorem firstOfN {x n : Nat} (w : World) (hx : VN x) (hn : n ≤ LN x) : Calls Tryz.prog 124 #[.agg (aN x), .int .i64 (n : Int)] w (Ret (.agg (wN (clr x (LN x - n)))) w) := by
  have hl := lenN_le (sixN x)
  rw [LN_six] at hn
  have := firstOf_any (sixN x) (hiN x) (loN x) (n : Int) (lenN (sixN x) - n) w (hiN_u x) (loN_u x) (by omega) (by omega) (by omega)
  rw [clr_wN (ok_aN hx), num_aN hx, ← LN_six] at this
  exact this
theorem lastOfN {x n : Nat} (w : World) (hx : VN x) (hn : n ≤ LN x) : Calls Tryz.prog 147 #[.agg (pN x (n : Int))] w (Ret (.agg (wN (fil x (LN x - n)))) w) := by
  have hl := lenN_le (sixN x)
  rw [LN_six] at hn
  have := lastOf_any (sixN x) (hiN x) (loN x) (n : Int) (lenN (sixN x) - n) w (hiN_u x) (loN_u x) (by omega) (by omega) (by omega)
  rw [fil_wN (ok_aN hx), num_aN hx, ← LN_six] at this
  exact this
theorem wideAddrN {x : Nat} (w : World) (hx : VN x) : Calls Tryz.prog 146 #[.agg (wN x)] w (Ret (.agg (aN x)) w) := by
  have := wideAddr_any (sixN x) (dg (hiN x) (loN x)) w (dg_lt _ _)
  rw [PS_dg_hi _ _ (hiN_u x), PS_dg_lo _ _ (loN_u x), ← wN_aN hx] at this
  exact this
theorem wideCmpN {x y : Nat} (w : World) (hx : x < 65536 ^ 9) (hy : y < 65536 ^ 9) : Calls Tryz.prog 126 #[.agg (wN x), .agg (wN y)] w (Ret (.int .i64 (cN x y)) w) := by
  have := wideCmpD_any (digN x) (digN y) w (digN_lt x) (digN_lt y)
  rw [PW_all hx, PW_all hy] at this
  exact this.mono fun _ _ h => h.ret
def wdl (f : Nat → Nat) : List Int := [((f 0 : Nat) : Int), ((f 1 : Nat) : Int), ((f 2 : Nat) : Int), ((f 3 : Nat) : Int), ((f 4 : Nat) : Int), ((f 5 : Nat) : Int), ((f 6 : Nat) : Int), ((f 7 : Nat) : Int), ((f 8 : Nat) : Int)]
theorem wd_ivs (f : Nat → Nat) : wd f = ivs (wdl f) := rfl
set_option maxRecDepth 100000 in
theorem wd_eq (f g : Nat → Nat) (w : World) : (Op.equalIn 10000 152 (.agg (wd f)) (.agg (wd g))).run Tryz.prog w = .ok (decide (wdl f = wdl g)) w := by
  obtain ⟨i, hi⟩ : ∃ i, Tryz.prog.info? 3 = some i := Option.isSome_iff_exists.1 (by kernel_rfl)
  have hu : Tryz.prog.underlying 152 = some (.array 9 3) := by kernel_rfl
  have hc : Tryz.prog.cellsOf 3 = 1 := by kernel_rfl
  rw [wd_ivs, wd_ivs, show (10000 : Nat) = 9999 + 1 from rfl, run_equalIn_array (P := Tryz.prog) w 9999 (t := 152) _ _ hu hi, hc, items_int _ _ w (List.range 9) (fun i h => by have := List.mem_range.1 h; simp [wdl]; omega)]
  congr 1
  rw [decide_eq_decide]
  constructor
  · intro h
    exact List.ext_getElem (by rfl) fun i h1 h2 => by
      have := h i (List.mem_range.2 h1)
      simpa [List.getD, h1, h2] using this
  · intro h i _
    rw [h]
theorem wdl_inj {x y : Nat} (hx : x < 65536 ^ 9) (hy : y < 65536 ^ 9) : wdl (digN x) = wdl (digN y) ↔ x = y := by
  constructor
  · intro h
    refine wN_inj hx hy fun d hd => ?_
    unfold wdl at h
    simp only [List.cons.injEq] at h
    obtain ⟨a0, a1, a2, a3, a4, a5, a6, a7, a8, _⟩ := h
    have : d = 0 ∨ d = 1 ∨ d = 2 ∨ d = 3 ∨ d = 4 ∨ d = 5 ∨ d = 6 ∨ d = 7 ∨ d = 8 := by omega
    rcases this with rfl | rfl | rfl | rfl | rfl | rfl | rfl | rfl | rfl <;> omega
  · rintro rfl; rfl
theorem wN_eql {x y : Nat} (hx : x < 65536 ^ 9) (hy : y < 65536 ^ 9) (w : World) : (binOp .eql 152 (.agg (wN x)) (.agg (wN y))).run Tryz.prog w = .ok (.bool (decide (x = y))) w := by
  unfold wN
  rw [run_eql_struct, wd_eq, decide_eq_decide.2 (wdl_inj hx hy)]
  rfl
theorem wN_neq {x y : Nat} (hx : x < 65536 ^ 9) (hy : y < 65536 ^ 9) (w : World) : (binOp .neq 152 (.agg (wN x)) (.agg (wN y))).run Tryz.prog w = .ok (.bool (!decide (x = y))) w := by
  unfold wN
  rw [run_neq_struct, wd_eq, decide_eq_decide.2 (wdl_inj hx hy)]
  rfl
theorem VN.lt10 {x : Nat} (h : VN x) : x < 65536 ^ 9 ∧ x + 1 < 65536 ^ 9 := by have := h.lt9; omega
end Go.Proofs.YtgppbebdmbeohaaGreat
