/-
  The program's numbers of 192 bits, in decimal digits.
-/
import Derived.Test.YtaeieigdibanlaaGreatDoorST17
import Derived.Test.YtaeieigdibanlaaGreatDoorST19
import Derived.ChangeKeysEq
set_option linter.unusedVariables false
namespace Go.Proofs.YtaeieigdibanlaaGreatDoor
open Go.RowKit Go
set_option linter.unusedVariables false

theorem eqGuard_cnt (x y : Operand) (a b : Array Value) (w : World) : (eqGuard .eql 108 x y (.agg a) (.agg b)).run Tryz.prog w = .ok () w := run_eqGuard_agg w _ _ _ _ _ _ (by kernel_rfl)
theorem eql_cnt (a b c : Int) (w : World) : (binOp .eql 108 (.agg #[.int .u64 a, .int .u64 b, .int .u64 c]) (.agg #[.int .u64 0, .int .u64 0, .int .u64 0])).run Tryz.prog w = .ok (.bool (decide (a = 0 ∧ b = 0 ∧ c = 0))) w := by
  obtain ⟨i, hi⟩ : ∃ i, Tryz.prog.info? 31 = some i := Option.isSome_iff_exists.1 (by kernel_rfl)
  have hu : Tryz.prog.underlying 108 = some (.array 3 31) := by kernel_rfl
  have h := run_equalIn_array (P := Tryz.prog) w 9999 (t := 108) #[.int .u64 a, .int .u64 b, .int .u64 c] #[.int .u64 0, .int .u64 0, .int .u64 0] hu hi
  have hc : Tryz.prog.cellsOf 31 = 1 := by kernel_rfl
  have he : ∀ (x y : Int) (w : World), (Op.equalIn 9999 31 (.int .u64 x) (.int .u64 y)).run Tryz.prog w = .ok (x == y) w := fun x y w => run_equalIn_int (P := Tryz.prog) w 9998 31 .u64 .u64 x y (by kernel_rfl)
  have hk : (Op.equalIn 10000 108 (.agg #[.int .u64 a, .int .u64 b, .int .u64 c]) (.agg #[.int .u64 0, .int .u64 0, .int .u64 0])).run Tryz.prog w = .ok (decide (a = 0 ∧ b = 0 ∧ c = 0)) w := by
    rw [h, hc]
    simp only [List.range_eq_range', List.range', Op.eqItems, Sem.run_bind]
    go_simp
    by_cases h1 : a = 0 <;> by_cases h2 : b = 0 <;> by_cases h3 : c = 0 <;> simp [h1, h2, h3]
  simp [binOp, Op.equal, Op.maxDepth, hk]
/-- long division by 10^18, word by word -/
theorem long_div {c0 c1 c2 : Nat} {r2 r1 r0 q2 q1 q0 : Nat} (h2 : q2 = c2 / 1000000000000000000) (e2 : r2 = c2 % 1000000000000000000) (h1 : q1 = (r2 * 18446744073709551616 + c1) / 1000000000000000000) (e1 : r1 = (r2 * 18446744073709551616 + c1) % 1000000000000000000)
    (h0 : q0 = (r1 * 18446744073709551616 + c0) / 1000000000000000000) (e0 : r0 = (r1 * 18446744073709551616 + c0) % 1000000000000000000) :
    (c0 + c1 * 18446744073709551616 + c2 * 340282366920938463463374607431768211456) / 1000000000000000000 = q0 + q1 * 18446744073709551616 + q2 * 340282366920938463463374607431768211456 ∧ (c0 + c1 * 18446744073709551616 + c2 * 340282366920938463463374607431768211456) % 1000000000000000000 = r0 := by
  have a2 := Nat.div_add_mod c2 1000000000000000000
  have a1 := Nat.div_add_mod (r2 * 18446744073709551616 + c1) 1000000000000000000
  have a0 := Nat.div_add_mod (r1 * 18446744073709551616 + c0) 1000000000000000000
  have b0 : r0 < 1000000000000000000 := by rw [e0]; exact Nat.mod_lt _ (by decide)
  rw [← h2, ← e2] at a2
  rw [← h1, ← e1] at a1
  rw [← h0, ← e0] at a0
  have key : c0 + c1 * 18446744073709551616 + c2 * 340282366920938463463374607431768211456 = r0 + 1000000000000000000 * (q0 + q1 * 18446744073709551616 + q2 * 340282366920938463463374607431768211456) := by omega
  rw [key]
  constructor
  · rw [Nat.add_mul_div_left _ _ (by decide), Nat.div_eq_of_lt b0, Nat.zero_add]
  · rw [Nat.add_mul_mod_self_left, Nat.mod_eq_of_lt b0]
def slen : Value → Nat
  | .string b => b.size
  | _ => 0
/-- 10^18, k times -/
def tenK (k : Nat) : Nat := 10 ^ (18 * k)
theorem tenK_succ (k : Nat) : tenK (k + 1) = tenK k * 1000000000000000000 := by
  unfold tenK
  rw [show 18 * (k + 1) = 18 * k + 18 from by omega, Nat.pow_add]
theorem div_tenK (N k : Nat) : N / tenK (k + 1) = N / tenK k / 1000000000000000000 := by rw [tenK_succ, Nat.div_div_eq_div_mul]
/-- the last numeral: nothing is left -/
theorem txt_last {N k v : Nat} (hv : N / tenK k = v) (h1 : v < 1000000000000000000) (h2 : k = 0 ∨ v ≠ 0) : dS v ++ gS (18 * k) N = dS N := by
  unfold dS gS
  rw [ByteArray.mk_append_mk]
  congr 2
  by_cases h0 : v = 0
  · have hk : k = 0 := by rcases h2 with h | h; exact h; exact absurd h0 h
    subst hk
    have : N = v := by rw [← hv]; simp [tenK]
    rw [this]
    simp [dgs]
  · rw [← hv] at h0 ⊢
    exact dec_join h0
/-- a numeral more -/
theorem txt_more {N k r : Nat} (hr : N / tenK k % 1000000000000000000 = r) : gS 18 r ++ gS (18 * k) N = gS (18 * (k + 1)) N := by
  unfold gS
  rw [ByteArray.mk_append_mk]
  congr 2
  rw [show 18 * (k + 1) = 18 + 18 * k from by omega, dgs_add, ← hr]
  congr 1
  exact dgs_mod 18 18 _ (Nat.le_refl _)
set_option maxRecDepth 100000 in
set_option maxHeartbeats 4000000 in
theorem cText_any (c0 c1 c2 : Nat) (w : World) (hc0 : c0 < 18446744073709551616) (hc1 : c1 < 18446744073709551616) (hc2 : c2 < 18446744073709551616) (ht : Lib.TabIs Tryz.prog w "internal/strconv.uint64pow10" .u64 Lib.pow10Tab) :
    Calls Tryz.prog 82 #[.agg #[.int .u64 (c0 : Int), .int .u64 (c1 : Int), .int .u64 (c2 : Int)]] w (Ret (.string (dS (c0 + c1 * 18446744073709551616 + c2 * 340282366920938463463374607431768211456))) w) := by
  obtain ⟨N, hN⟩ : ∃ N, c0 + c1 * 18446744073709551616 + c2 * 340282366920938463463374607431768211456 = N := ⟨_, rfl⟩
  have HT := Lib.hid ht
  have HN192 : Hid (N < 6277101735386680763835789423207666416102355444464034512896) := Lib.hid (by omega)
  have HL := Lib.hid fun k v (h1 : N / tenK k = v) (h2 : v < 1000000000000000000) (h3 : k = 0 ∨ v ≠ 0) => txt_last h1 h2 h3
  have HM := Lib.hid fun k r (h1 : N / tenK k % 1000000000000000000 = r) => txt_more (N := N) h1
  obtain ⟨G, hG⟩ : ∃ G : Nat → ByteArray, ∀ k, gS (18 * k) N = G k := ⟨fun k => gS (18 * k) N, fun _ => rfl⟩
  have HGs : Hid (∀ k, (G k).size = 18 * k) := Lib.hid fun k => by rw [← hG, gS_size]
  have HG0 : Hid (⟨#[]⟩ = G 0) := Lib.hid (by rw [← hG]; rfl)
  have hV0 : N / tenK 0 = c0 + c1 * 18446744073709551616 + c2 * 340282366920938463463374607431768211456 := by rw [hN]; simp [tenK]
  have HV0 := Lib.hid hV0
  rw [hN]
  simp only [hG] at HL HM
  generalize dS N = R at *
  clear ht hN hG hV0
  have HK : Hid (Blk (w.alloc (.cells #[.int .u64 (c0 : Int), .int .u64 (c1 : Int), .int .u64 (c2 : Int)] 108 (0, 0))) w.heap.size 108 #[.int .u64 (c0 : Int), .int .u64 (c1 : Int), .int .u64 (c2 : Int)]) := Lib.hid (Blk.new w _ _)
  have HB : Hid (Below w.heap.size w (w.alloc (.cells #[.int .u64 (c0 : Int), .int .u64 (c1 : Int), .int .u64 (c2 : Int)] 108 (0, 0)))) := Lib.hid (below_alloc (Below.refl _ _) _)
  go_enter Tryz.func82, Tryz.ntmps82
  go_upto_region 1 with fail
  generalize (w.alloc (.cells #[.int .u64 (c0 : Int), .int .u64 (c1 : Int), .int .u64 (c2 : Int)] 108 (0, 0))) = w1 at *
  obtain ⟨b, hb⟩ : ∃ b, w.heap.size = b := ⟨_, rfl⟩
  have HBe := Lib.hid hb
  rw [hb] at HK ⊢
  clear hb
  go_wp2_with fail
  go_loopw [3] (fun s3 wr => ∃ k d0 d1 d2 : Nat, s3 = .string (G k) ∧ k ≤ 4 ∧ d0 < 18446744073709551616 ∧ d1 < 18446744073709551616 ∧ d2 < 18446744073709551616 ∧ Hid (N / tenK k = d0 + d1 * 18446744073709551616 + d2 * 340282366920938463463374607431768211456) ∧ Hid (k = 0 ∨ N / tenK k ≠ 0) ∧ Hid (Blk wr b 108 #[.int .u64 (d0 : Int), .int .u64 (d1 : Int), .int .u64 (d2 : Int)]) ∧ Hid (Below w.heap.size w wr)) (fun s3 _ => 1000 - slen s3)
  case atStart => exact ⟨0, c0, c1, c2, by rw [← HG0.out], by omega, hc0, hc1, hc2, HV0, Lib.hid (.inl rfl), HK, HB⟩
  case round =>
    clear HK HB HV0 hc0 hc1 hc2
    obtain ⟨k, d0, d1, d2, rfl, hk, hd0, hd1, hd2, HV, HZ, HK, HB⟩ := hrel
    obtain ⟨q2, hq2⟩ : ∃ q, q = d2 / 1000000000000000000 := ⟨_, rfl⟩
    obtain ⟨r2, hr2⟩ : ∃ r, r = d2 % 1000000000000000000 := ⟨_, rfl⟩
    obtain ⟨q1, hq1⟩ : ∃ q, q = (r2 * 18446744073709551616 + d1) / 1000000000000000000 := ⟨_, rfl⟩
    obtain ⟨r1, hr1⟩ : ∃ r, r = (r2 * 18446744073709551616 + d1) % 1000000000000000000 := ⟨_, rfl⟩
    obtain ⟨q0, hq0⟩ : ∃ q, q = (r1 * 18446744073709551616 + d0) / 1000000000000000000 := ⟨_, rfl⟩
    obtain ⟨r0, hr0⟩ : ∃ r, r = (r1 * 18446744073709551616 + d0) % 1000000000000000000 := ⟨_, rfl⟩
    have hrb2 : r2 < 1000000000000000000 := by rw [hr2]; exact Nat.mod_lt _ (by decide)
    have hrb1 : r1 < 1000000000000000000 := by rw [hr1]; exact Nat.mod_lt _ (by decide)
    have hrb0 : r0 < 1000000000000000000 := by rw [hr0]; exact Nat.mod_lt _ (by decide)
    have hqb2 : q2 < 18446744073709551616 := by omega
    have hqb1 : q1 < 18446744073709551616 := by omega
    have hqb0 : q0 < 18446744073709551616 := by omega
    have HLD := Lib.hid (long_div hq2 hr2 hq1 hr1 hq0 hr0)
    have HD2 : Hid (∀ wx, Calls Tryz.prog 128 #[.int .u64 0, .int .u64 (d2 : Int), .int .u64 1000000000000000000] wx (Ret (.tuple #[.int .u64 (q2 : Int), .int .u64 (r2 : Int)]) wx)) := Lib.hid fun wx => by
      have := div64_any 0 (d2 : Int) wx (by omega) (by omega)
      rw [show ((0 : Int) * 18446744073709551616 + (d2 : Int)) / 1000000000000000000 = (q2 : Int) by omega, show ((0 : Int) * 18446744073709551616 + (d2 : Int)) % 1000000000000000000 = (r2 : Int) by omega] at this
      exact this
    have HD1 : Hid (∀ wx, Calls Tryz.prog 128 #[.int .u64 (r2 : Int), .int .u64 (d1 : Int), .int .u64 1000000000000000000] wx (Ret (.tuple #[.int .u64 (q1 : Int), .int .u64 (r1 : Int)]) wx)) := Lib.hid fun wx => by
      have := div64_any (r2 : Int) (d1 : Int) wx (by omega) (by omega)
      rw [show ((r2 : Int) * 18446744073709551616 + (d1 : Int)) / 1000000000000000000 = (q1 : Int) by omega, show ((r2 : Int) * 18446744073709551616 + (d1 : Int)) % 1000000000000000000 = (r1 : Int) by omega] at this
      exact this
    have HD0 : Hid (∀ wx, Calls Tryz.prog 128 #[.int .u64 (r1 : Int), .int .u64 (d0 : Int), .int .u64 1000000000000000000] wx (Ret (.tuple #[.int .u64 (q0 : Int), .int .u64 (r0 : Int)]) wx)) := Lib.hid fun wx => by
      have := div64_any (r1 : Int) (d0 : Int) wx (by omega) (by omega)
      rw [show ((r1 : Int) * 18446744073709551616 + (d0 : Int)) / 1000000000000000000 = (q0 : Int) by omega, show ((r1 : Int) * 18446744073709551616 + (d0 : Int)) % 1000000000000000000 = (r0 : Int) by omega] at this
      exact this
    clear hq2 hr2 hq1 hr1 hq0 hr0
    have e2 := HK.out.cell 2
    simp at e2
    go_wp2_with fail
    refine wp_loop_rounds 4 ?_
    rw [rounds_succ]
    go_wp2_with fail
    refine (HD2.out _).mono ?_
    rintro e w22 ⟨rfl, hb⟩
    replace HK := Lib.hid (HK.out.below hb HK.out.lt)
    replace HB := Lib.hid (HB.out.trans (hb.mono HB.out.size))
    clear hb HD2 e2
    have e2 := HK.out.cell 2
    have f2 := HK.out.free 2
    simp at e2
    have HKn : Hid (Blk (w22.setCell ⟨b, 2, none⟩ (.int .u64 (q2 : Int))) b 108 #[.int .u64 (d0 : Int), .int .u64 (d1 : Int), .int .u64 (q2 : Int)]) := Lib.hid (HK.out.set 2 (.int .u64 (q2 : Int)))
    have HBn : Hid (Below w.heap.size w (w22.setCell ⟨b, 2, none⟩ (.int .u64 (q2 : Int)))) := Lib.hid (below_set HB.out (by rw [HBe.out]; exact Nat.le_refl _) _ _)
    obtain ⟨w32, hw3⟩ : ∃ w3, w22.setCell ⟨b, 2, none⟩ (.int .u64 (q2 : Int)) = w3 := ⟨_, rfl⟩
    rw [hw3] at HKn HBn
    have e9 := HKn.out.cell 1
    simp at e9
    go_wp2_with fail
    try rw [hw3]
    clear hw3 e2 f2 HK HB
    have HK := HKn
    have HB := HBn
    clear HKn HBn
    have e1 := e9
    clear e9
    rw [rounds_succ]
    go_wp2_with fail
    refine (HD1.out _).mono ?_
    rintro e w21 ⟨rfl, hb⟩
    replace HK := Lib.hid (HK.out.below hb HK.out.lt)
    replace HB := Lib.hid (HB.out.trans (hb.mono HB.out.size))
    clear hb HD1 e1
    have e1 := HK.out.cell 1
    have f1 := HK.out.free 1
    simp at e1
    have HKn : Hid (Blk (w21.setCell ⟨b, 1, none⟩ (.int .u64 (q1 : Int))) b 108 #[.int .u64 (d0 : Int), .int .u64 (q1 : Int), .int .u64 (q2 : Int)]) := Lib.hid (HK.out.set 1 (.int .u64 (q1 : Int)))
    have HBn : Hid (Below w.heap.size w (w21.setCell ⟨b, 1, none⟩ (.int .u64 (q1 : Int)))) := Lib.hid (below_set HB.out (by rw [HBe.out]; exact Nat.le_refl _) _ _)
    obtain ⟨w31, hw3⟩ : ∃ w3, w21.setCell ⟨b, 1, none⟩ (.int .u64 (q1 : Int)) = w3 := ⟨_, rfl⟩
    rw [hw3] at HKn HBn
    have e9 := HKn.out.cell 0
    simp at e9
    go_wp2_with fail
    try rw [hw3]
    clear hw3 e1 f1 HK HB
    have HK := HKn
    have HB := HBn
    clear HKn HBn
    have e0 := e9
    clear e9
    rw [rounds_succ]
    go_wp2_with fail
    refine (HD0.out _).mono ?_
    rintro e w20 ⟨rfl, hb⟩
    replace HK := Lib.hid (HK.out.below hb HK.out.lt)
    replace HB := Lib.hid (HB.out.trans (hb.mono HB.out.size))
    clear hb HD0 e0
    have e0 := HK.out.cell 0
    have f0 := HK.out.free 0
    simp at e0
    have HKn : Hid (Blk (w20.setCell ⟨b, 0, none⟩ (.int .u64 (q0 : Int))) b 108 #[.int .u64 (q0 : Int), .int .u64 (q1 : Int), .int .u64 (q2 : Int)]) := Lib.hid (HK.out.set 0 (.int .u64 (q0 : Int)))
    have HBn : Hid (Below w.heap.size w (w20.setCell ⟨b, 0, none⟩ (.int .u64 (q0 : Int)))) := Lib.hid (below_set HB.out (by rw [HBe.out]; exact Nat.le_refl _) _ _)
    obtain ⟨w30, hw3⟩ : ∃ w3, w20.setCell ⟨b, 0, none⟩ (.int .u64 (q0 : Int)) = w3 := ⟨_, rfl⟩
    rw [hw3] at HKn HBn
    have e9 := HKn.out.cell 0
    simp at e9
    go_wp2_with fail
    try rw [hw3]
    clear hw3 e0 f0 HK HB
    have HK := HKn
    have HB := HBn
    clear HKn HBn
    clear e9
    rw [rounds_succ]
    go_wp2_with fail
    have HTx := Lib.hid (tab_below HT.out HB.out)
    refine (fmtU10_any r0 (by omega) _ HTx.out).mono ?_
    rintro e w4 ⟨rfl, hb⟩
    replace HK := Lib.hid (HK.out.below hb HK.out.lt)
    replace HB := Lib.hid (HB.out.trans (hb.mono HB.out.size))
    clear hb HTx
    have hV1 : N / tenK (k + 1) = q0 + q1 * 18446744073709551616 + q2 * 340282366920938463463374607431768211456 := by
      rw [div_tenK, HV.out]
      exact HLD.out.1
    have hR0 : N / tenK k % 1000000000000000000 = r0 := by
      rw [HV.out]
      exact HLD.out.2
    have HV1 := Lib.hid hV1
    have HRr := Lib.hid hR0
    have hLast : q0 = 0 → q1 = 0 → q2 = 0 → dS r0 ++ G k = R := fun z0 z1 z2 => by
      have hz : N / tenK k / 1000000000000000000 = 0 := by rw [← div_tenK, hV1, z0, z1, z2]
      have hvr : N / tenK k = r0 := by
        have := Nat.div_add_mod (N / tenK k) 1000000000000000000
        rw [hz, hR0] at this
        omega
      refine HL.out k r0 hvr hrb0 ?_
      rcases HZ.out with h | h
      · exact .inl h
      · exact .inr (by rw [← hvr]; exact h)
    have hMore : gS 18 r0 ++ G k = G (k + 1) := HM.out k r0 hR0
    have HMo := Lib.hid hMore
    have HLa := Lib.hid hLast
    have hk3 : N / tenK (k + 1) ≠ 0 → k + 1 ≤ 4 := fun h => by
      rcases Nat.lt_or_ge k 4 with h4 | h4
      · omega
      · obtain rfl : k = 4 := by omega
        exfalso
        apply h
        exact Nat.div_eq_of_lt (Nat.lt_of_lt_of_le HN192.out (by decide))
    have HK3 := Lib.hid hk3
    have hm18 : Lib.nDigits r0 ≤ 18 := nDigits_lt (by decide) hrb0
    obtain ⟨m, hm⟩ : ∃ m, Lib.nDigits r0 = m := ⟨_, rfl⟩
    obtain ⟨cz, hcz⟩ : ∃ cz, cz + m = 18 := ⟨18 - m, by omega⟩
    have hPad := pad_gS hm cz hcz
    have hUs : (dS r0).size = m := by rw [dS_size, hm]
    have hgs : (G k).size = 18 * k := HGs.out k
    have hsub : (18 : Int) - (m : Int) = (cz : Int) := by omega
    have HRep : Hid (∀ wx, Calls Tryz.prog 130 #[.string ⟨#[48]⟩, .int .i64 (cz : Int)] wx (Ret (.string ⟨(Lib.repeatL [48] cz).toArray⟩) wx)) := Lib.hid fun wx => Tryz.strings_Repeat ⟨#[48]⟩ cz wx (by omega) (by show 1 * cz ≤ _; omega)
    have hzs : (⟨(Lib.repeatL [48] cz).toArray⟩ : ByteArray).size = cz := by
      have hl : (Lib.repeatL [48] cz).length = cz := by rw [Lib.repeatL_length]; simp
      simp [ByteArray.size, hl]
    have hadd1 : ∀ W, (Op.stringOp .add ⟨(Lib.repeatL [48] cz).toArray⟩ (dS r0)).run Tryz.prog W = .ok (.string (gS 18 r0)) W := fun W => by
      rw [run_string_add_sum W _ _ (by rw [hUs, hzs]; omega), hPad]
    have hadd2 : ∀ W, (Op.stringOp .add (gS 18 r0) (G k)).run Tryz.prog W = .ok (.string (G (k + 1))) W := fun W => by
      rw [run_string_add_sum W _ _ (by rw [gS_size, hgs]; omega), hMore]
    have hadd3 : ∀ W, (Op.stringOp .add (dS r0) (G k)).run Tryz.prog W = .ok (.string (dS r0 ++ G k)) W := fun W => run_string_add_sum W _ _ (by rw [hUs, hgs]; omega)
    have HSz : Hid ((G k).size = 18 * k ∧ (G (k + 1)).size = 18 * (k + 1)) := Lib.hid ⟨HGs.out k, HGs.out (k + 1)⟩
    have hnz : ¬ (q0 = 0 ∧ q1 = 0 ∧ q2 = 0) → N / tenK (k + 1) ≠ 0 := fun h h0 => by rw [hV1] at h0; omega
    have HNz := Lib.hid hnz
    have hds : (⟨(Lib.decDigits r0).toArray⟩ : ByteArray) = dS r0 := rfl
    rw [hds]
    clear hV1 hR0 hLast hMore hk3 hm18 hcz hPad hm hgs hzs hnz hds HLD HV HZ
    generalize dS r0 = U at *
    generalize gS 18 r0 = U18 at *
    generalize (⟨(Lib.repeatL [48] cz).toArray⟩ : ByteArray) = Z at *
    have e0 := HK.out.cell 0
    have e1 := HK.out.cell 1
    have e2 := HK.out.cell 2
    simp at e0 e1 e2
    have hEq := fun W => eql_cnt (q0 : Int) (q1 : Int) (q2 : Int) W
    have hGu := fun x y a b W => eqGuard_cnt x y a b W
    by_cases hz : q0 = 0 ∧ q1 = 0 ∧ q2 = 0
    · obtain ⟨rfl, rfl, rfl⟩ := hz
      have hRR := HLa.out rfl rfl rfl
      rw [hRR] at hadd3
      have hEq0 : ∀ W, (binOp .eql 108 (.agg #[.int .u64 0, .int .u64 0, .int .u64 0]) (.agg #[.int .u64 0, .int .u64 0, .int .u64 0])).run Tryz.prog W = .ok (.bool true) W := fun W => by
        have this := eql_cnt 0 0 0 W
        rw [show decide ((0 : Int) = 0 ∧ (0 : Int) = 0 ∧ (0 : Int) = 0) = true from by decide] at this
        exact this
      clear hRR HLa hEq
      go_wp2_with fail
      go_ret
      exact ⟨rfl, HB.out⟩
    · have hdt : decide ((q0 : Int) = 0 ∧ (q1 : Int) = 0 ∧ (q2 : Int) = 0) = false := by
        apply decide_eq_false
        intro h
        exact hz ⟨by omega, by omega, by omega⟩
      have hne := HNz.out hz
      rw [hdt] at hEq
      have HNe := Lib.hid hne
      have hk4 := HK3.out hne
      clear hdt hz hne HLa
      go_wp2_with fail
      refine (HRep.out _).mono ?_
      rintro e w5 ⟨rfl, hb⟩
      replace HK := Lib.hid (HK.out.below hb HK.out.lt)
      replace HB := Lib.hid (HB.out.trans (hb.mono HB.out.size))
      clear hb e0 e1 e2
      go_wp2_with fail
      exact ⟨⟨k + 1, q0, q1, q2, rfl, hk4, hqb0, hqb1, hqb2, HV1, Lib.hid (.inr HNe.out), HK, HB⟩, by have := HSz.out.1; have := HSz.out.2; simp only [slen]; omega⟩
end Go.Proofs.YtaeieigdibanlaaGreatDoor
