/-
  math/bits.Div64 by 10^18.
-/
import Derived.Test.YtaeieigdibanlaaGreatDoorST5
import Derived.Test.YtaeieigdibanlaaGreatDoorST9
import Derived.Laws.Bits64b
set_option linter.unusedVariables false
namespace Go.Proofs.YtaeieigdibanlaaGreatDoor
open Go.RowKit Go
set_option linter.unusedVariables false
set_option maxRecDepth 100000 in
set_option maxHeartbeats 4000000 in
theorem div64_any (hi lo : Int) (w : World) (h1 : 0 ≤ hi ∧ hi < 1000000000000000000) (h2 : 0 ≤ lo ∧ lo < 18446744073709551616) :
    Calls Tryz.prog 128 #[.int .u64 hi, .int .u64 lo, .int .u64 1000000000000000000] w (Ret (.tuple #[.int .u64 ((hi * 18446744073709551616 + lo) / 1000000000000000000), .int .u64 ((hi * 18446744073709551616 + lo) % 1000000000000000000)]) w) := by
  obtain ⟨hi1, hi2⟩ := h1
  obtain ⟨lo1, lo2⟩ := h2
  have hlz : ∀ wx, Calls Tryz.prog 156 #[.int .u64 1000000000000000000] wx fun e w' => e = .returned (.int .i64 4) ∧ w' = wx := fun wx => by
    have := Tryz.bits_LeadingZeros64 1000000000000000000 wx (by decide) (by decide)
    have e : (64 - (Lib.bitLen (1000000000000000000 : Int).toNat : Int)) = 4 := by decide
    rw [e] at this
    exact this
  by_cases h0 : hi = 0
  · subst h0
    have e0 : (0 : Int) * 18446744073709551616 + lo = lo := by omega
    rw [e0]
    clear e0
    go_enter Tryz.func128, Tryz.ntmps128
    go_wp2_with fail
    refine wp_region_later (by kernel_rfl) (by kernel_rfl) ?_
    repeat (go_big_quiet_step (fail))
    refine wpQuiet_nil ?_
    rintro w2 ⟨m2, hm2⟩
    have HB2 : Hid (Below w.heap.size w w2) := Lib.hid (by rw [hm2]; exact m2.2)
    clear hm2 m2
    go_wp2_with fail
    go_ret2
    exact ⟨rfl, HB2.out⟩
  · have ha : bits .and .u64 16000000000000000000 4294967295 = 1983905792 := by decide
    obtain ⟨u, hu⟩ : ∃ u, bits .or .u64 (hi * 16) (lo / 1152921504606846976) = u := ⟨_, rfl⟩
    obtain ⟨v10, hv10⟩ : ∃ v, IntKind.u64.wrap (lo * 16) = v := ⟨_, rfl⟩
    obtain ⟨v1, hv1⟩ : ∃ v, v10 / 4294967296 = v := ⟨_, rfl⟩
    obtain ⟨v0, hv0⟩ : ∃ v, bits .and .u64 v10 4294967295 = v := ⟨_, rfl⟩
    have hN : (hi * 18446744073709551616 + lo) * 16 = u * 18446744073709551616 + v1 * 4294967296 + v0 ∧ 0 ≤ u ∧ u < 16000000000000000000 ∧ 0 ≤ v1 ∧ v1 < 4294967296 ∧ 0 ≤ v0 ∧ v0 < 4294967296 := by
      have e1 : u = hi * 16 + lo / 1152921504606846976 := by
        obtain ⟨a, rfl⟩ : ∃ a : Nat, hi = (a : Int) := ⟨hi.toNat, by omega⟩
        obtain ⟨b, rfl⟩ : ∃ b : Nat, lo = (b : Int) := ⟨lo.toNat, by omega⟩
        rw [← hu, show ((a : Int) * 16) = ((a * 16 : Nat) : Int) by omega, show ((b : Int) / 1152921504606846976) = ((b / 1152921504606846976 : Nat) : Int) by omega, bits_or_u64_nat _ _ (by omega) (by omega)]
        have hlt : b / 1152921504606846976 < 2 ^ 4 := by omega
        have := Nat.shiftLeft_add_eq_or_of_lt hlt a
        rw [Nat.shiftLeft_eq] at this
        rw [← this]
        omega
      have e2 : v10 = lo * 16 % 18446744073709551616 := by
        rw [← hv10]; rfl
      have e3 : v0 = v10 % 4294967296 := by
        obtain ⟨b, hb⟩ : ∃ b : Nat, v10 = (b : Int) := ⟨v10.toNat, by omega⟩
        rw [← hv0, hb, show (4294967295 : Int) = ((4294967295 : Nat) : Int) from rfl, bits_and_u64_nat _ _ (by omega) (by omega)]
        have := Nat.and_two_pow_sub_one_eq_mod b 32
        have e : (2 : Nat) ^ 32 - 1 = 4294967295 := by decide
        rw [e] at this
        rw [this]
        omega
      omega
    obtain ⟨hN1, hu1, hu2, hv1a, hv1b, hv0a, hv0b⟩ := hN
    have HN := Lib.hid hN1
    clear hN1
    go_enter Tryz.func128, Tryz.ntmps128
    go_wp2_with fail
    refine (hlz _).mono ?_
    rintro e w1 ⟨rfl, rfl⟩
    obtain ⟨Q1, R1, hQ1, hR1a, hR1b⟩ : ∃ Q R : Int, u * 4294967296 + v1 = Q * 16000000000000000000 + R ∧ 0 ≤ R ∧ R < 16000000000000000000 := ⟨(u * 4294967296 + v1) / 16000000000000000000, (u * 4294967296 + v1) % 16000000000000000000, by omega, by omega, by omega⟩
    have hQ1a : 0 ≤ Q1 ∧ Q1 < 4294967296 := by omega
    go_upto_block 0 with fail
    go_cut [15] (fun s15 wx => s15 = .int .u64 Q1 ∧ w1 = wx)
    case first =>
      as_aux_lemma =>
        go_wp2_with fail
        go_loopw [15, 16] (fun sq sr wr => ∃ q r : Int, sq = .int .u64 q ∧ sr = .int .u64 r ∧ Q1 ≤ q ∧ q ≤ 4294967300 ∧ r = u - q * 3725290298 ∧ 0 ≤ r ∧ r < 4294967296 ∧ w1 = wr) (fun s _ _ => (intOf s).toNat)
        case atStart => exact ⟨_, _, rfl, rfl, by omega, by omega, rfl, by omega, by omega, rfl⟩
        case round =>
          obtain ⟨q, r, rfl, rfl, hq1, hq2, hr, hr1, hr2, rfl⟩ := hrel
          have HRq := Lib.hid hr
          have hc : (4294967296 ≤ q ∨ (q < 4294967296 ∧ 4294967296 * r + v1 < q * 1983905792)) ∨ (q < 4294967296 ∧ q * 1983905792 ≤ 4294967296 * r + v1) := by omega
          rcases hc with hc | ⟨hc, hd⟩
          · have hQ : Q1 ≤ q - 1 := by omega
            have hE : 4294967296 ≤ r + 3725290298 → q - 1 = Q1 := fun h => by omega
            have HQ := Lib.hid hQ
            have HE := Lib.hid hE
            clear hr hE
            rcases hc with hc | ⟨hc, hd⟩
            all_goals
              by_cases hb : 4294967296 ≤ r + 3725290298
              · have he := HE.out hb
                go_wp2_with fail
                go_meet
                case rel => exact ⟨rfl, rfl⟩
              · go_wp2_with fail
                exact ⟨⟨q - 1, r + 3725290298, rfl, rfl, HQ.out, by omega, by have := HRq.out; omega, by omega, by omega, by trivial⟩, by simp [intOf]; omega⟩
          · have he : q = Q1 := by omega
            clear hr
            go_wp2_with fail
            go_meet
            case rel => exact ⟨rfl, rfl⟩
    case rest =>
    obtain ⟨rfl, rfl⟩ := hcut
    have h21 : IntKind.u64.wrap (IntKind.u64.wrap (IntKind.u64.wrap (u * 4294967296) + v1) - IntKind.u64.wrap (Q1 * 16000000000000000000)) = R1 := by
      have e1 : IntKind.u64.wrap (u * 4294967296) = (u * 4294967296) % 18446744073709551616 := rfl
      have e2 : ∀ x, IntKind.u64.wrap x = x % 18446744073709551616 := fun x => rfl
      rw [e2, e2, e1, e2]
      omega
    have HQ1 := Lib.hid hQ1
    clear hQ1
    obtain ⟨Q0, R0, hQ0, hR0a, hR0b⟩ : ∃ Q R : Int, R1 * 4294967296 + v0 = Q * 16000000000000000000 + R ∧ 0 ≤ R ∧ R < 16000000000000000000 := ⟨(R1 * 4294967296 + v0) / 16000000000000000000, (R1 * 4294967296 + v0) % 16000000000000000000, by omega, by omega, by omega⟩
    have hQ0a : 0 ≤ Q0 ∧ Q0 < 4294967296 := by omega
    go_upto_region 22 with fail
    clear h21
    go_upto_block 2 with fail
    go_cut [18] (fun s18 wx => s18 = .int .u64 Q0 ∧ w1 = wx)
    case first =>
      as_aux_lemma =>
        go_wp2_with fail
        go_loopw [18, 16] (fun sq sr wr => ∃ q r : Int, sq = .int .u64 q ∧ sr = .int .u64 r ∧ Q0 ≤ q ∧ q ≤ 4294967300 ∧ r = R1 - q * 3725290298 ∧ 0 ≤ r ∧ r < 4294967296 ∧ w1 = wr) (fun s _ _ => (intOf s).toNat)
        case atStart => exact ⟨_, _, rfl, rfl, by omega, by omega, rfl, by omega, by omega, rfl⟩
        case round =>
          obtain ⟨q, r, rfl, rfl, hq1, hq2, hr, hr1, hr2, rfl⟩ := hrel
          have HRq := Lib.hid hr
          have hc : (4294967296 ≤ q ∨ (q < 4294967296 ∧ 4294967296 * r + v0 < q * 1983905792)) ∨ (q < 4294967296 ∧ q * 1983905792 ≤ 4294967296 * r + v0) := by omega
          rcases hc with hc | ⟨hc, hd⟩
          · have hQ : Q0 ≤ q - 1 := by omega
            have hE : 4294967296 ≤ r + 3725290298 → q - 1 = Q0 := fun h => by omega
            have HQ := Lib.hid hQ
            have HE := Lib.hid hE
            clear hr hE
            rcases hc with hc | ⟨hc, hd⟩
            all_goals
              by_cases hb : 4294967296 ≤ r + 3725290298
              · have he := HE.out hb
                go_wp2_with fail
                go_meet
                case rel => exact ⟨rfl, rfl⟩
              · go_wp2_with fail
                exact ⟨⟨q - 1, r + 3725290298, rfl, rfl, HQ.out, by omega, by have := HRq.out; omega, by omega, by omega, by trivial⟩, by simp [intOf]; omega⟩
          · have he : q = Q0 := by omega
            clear hr
            go_wp2_with fail
            go_meet
            case rel => exact ⟨rfl, rfl⟩
    case rest =>
    obtain ⟨rfl, rfl⟩ := hcut
    have h28 : IntKind.u64.wrap (IntKind.u64.wrap (IntKind.u64.wrap (R1 * 4294967296) + v0) - IntKind.u64.wrap (Q0 * 16000000000000000000)) = R0 := by
      have e2 : ∀ x, IntKind.u64.wrap x = x % 18446744073709551616 := fun x => rfl
      rw [e2, e2, e2, e2]
      omega
    have hq : (hi * 18446744073709551616 + lo) / 1000000000000000000 = Q1 * 4294967296 + Q0 := by
      have := HN.out
      have := HQ1.out
      omega
    have hr : (hi * 18446744073709551616 + lo) % 1000000000000000000 = R0 / 16 := by
      have := HN.out
      have := HQ1.out
      omega
    have HQQ := Lib.hid hq
    have HRR := Lib.hid hr
    clear hq hr hQ0 HN HQ1
    go_wp2_with fail
    go_ret2
    exact ⟨by rw [HQQ.out, HRR.out]; rfl, Below.refl _ _⟩
end Go.Proofs.YtaeieigdibanlaaGreatDoor
