/-
  Addresses with their first bits alone: low, Length, Masked, Filled.
-/
import Derived.Test.YtaamonhhclffcaaDoorPure
import Derived.Test.YtaamonhhclffcaaDoorRegion
namespace Go.Proofs.YtaamonhhclffcaaDoor
open Go.RowKit Go
set_option linter.unusedVariables false

def lowLo (n : Nat) : Nat := if 64 ≤ n then 18446744073709551615 else 2 ^ n - 1
def lowHi (n : Nat) : Nat := if 128 ≤ n then 18446744073709551615 else if 64 < n then 2 ^ (n - 64) - 1 else 0
theorem pow_lt64 {n : Nat} (h : n < 64) : 2 ^ n < 18446744073709551616 ∧ 1 ≤ 2 ^ n :=
  ⟨Nat.pow_lt_pow_right (by decide) h, Nat.one_le_two_pow⟩
theorem low_wrap (k : Nat) (h : k < 64) : IntKind.u64.wrap (IntKind.u64.wrap ((2 : Int) ^ k) - 1) = ((2 ^ k - 1 : Nat) : Int) := by
  obtain ⟨h1, h2⟩ := pow_lt64 h
  have e : (2 : Int) ^ k = ((2 ^ k : Nat) : Int) := by rw [Int.natCast_pow]; rfl
  rw [e, IntKind.wrap_u64, IntKind.wrap_u64]
  omega
set_option maxRecDepth 100000 in
set_option maxHeartbeats 1000000 in
theorem low_any (n : Nat) (w : World) (hn : n ≤ 1000) : Calls Tryd.prog 75 #[.int .i64 (n : Int)] w fun e w' => e = .returned (.tuple #[.int .u64 ((lowHi n : Nat) : Int), .int .u64 ((lowLo n : Nat) : Int)]) ∧ ∃ k, w' = w.drewN k := by
  by_cases h1 : 128 ≤ n
  · have e1 : lowHi n = 18446744073709551615 := by unfold lowHi; rw [if_pos h1]
    have e2 : lowLo n = 18446744073709551615 := by unfold lowLo; rw [if_pos (by omega)]
    rw [e1, e2]
    go_enter Tryd.func75, Tryd.ntmps75
    go_wp2
    go_ret2
    exact ⟨rfl, 0, rfl⟩
  · by_cases h2 : 64 < n
    · have e1 : lowHi n = 2 ^ (n - 64) - 1 := by unfold lowHi; rw [if_neg h1, if_pos h2]
      have e2 : lowLo n = 18446744073709551615 := by unfold lowLo; rw [if_pos (by omega)]
      rw [e1, e2]
      go_enter Tryd.func75, Tryd.ntmps75
      go_wp2
      rw [low_wrap (n - 64) (by omega)]
      go_ret2
      exact ⟨rfl, 0, rfl⟩
    · by_cases h3 : n = 64
      · subst h3
        go_enter Tryd.func75, Tryd.ntmps75
        go_wp2
        go_ret2
        exact ⟨rfl, 0, rfl⟩
      · have e1 : lowHi n = 0 := by unfold lowHi; rw [if_neg h1, if_neg h2]
        have e2 : lowLo n = 2 ^ n - 1 := by unfold lowLo; rw [if_neg (by omega)]
        rw [e1, e2]
        go_enter Tryd.func75, Tryd.ntmps75
        have hneg : ¬ (n : Int) < 0 := by omega
        go_wp2_with (go_region)
        all_goals
          rw [low_wrap n (by omega)]
          go_ret2
          exact ⟨rfl, 1, rfl⟩
/-- an address as the program has it -/
def vA (six : Bool) (hi lo : Nat) : Value := .agg #[.bool six, .int .u64 (hi : Int), .int .u64 (lo : Int)]
def lenN (six : Bool) : Nat := if six = true then 128 else 32
theorem length_any (six : Bool) (hi lo : Nat) (w : World) : Calls Tryd.prog 55 #[vA six hi lo] w (Ret (.int .i64 ((lenN six : Nat) : Int)) w) := by
  unfold vA
  cases six
  all_goals
    go_enter Tryd.func55, Tryd.ntmps55
    go_wp2
    go_ret
    exact ⟨rfl, below_alloc (Below.refl _ _) _⟩
theorem lengthQ_any (six : Bool) (hi lo : Nat) (w : World) : Calls Tryd.prog 40 #[vA six hi lo] w (Ret (.int .i64 ((lenN six : Nat) : Int)) w) := by
  unfold vA
  cases six
  all_goals
    go_enter Tryd.func40, Tryd.ntmps40
    go_wp2
    go_ret
    exact ⟨rfl, below_alloc (Below.refl _ _) _⟩
theorem andNot_low (x k : Nat) (hx : x < 18446744073709551616) (hk : k ≤ 64) : bits .andNot .u64 (x : Int) ((2 ^ k - 1 : Nat) : Int) = ((x - x % 2 ^ k : Nat) : Int) := by
  have key : (BitVec.ofNat 64 x &&& ~~~ BitVec.ofNat 64 (2 ^ k - 1)).toNat = x - x % 2 ^ k := by
    have e : x - x % 2 ^ k = (x >>> k) <<< k := by
      rw [Nat.shiftLeft_eq, Nat.shiftRight_eq_div_pow, Nat.mul_comm]
      have := Nat.div_add_mod x (2 ^ k)
      omega
    rw [e]
    refine Nat.eq_of_testBit_eq fun i => ?_
    rw [BitVec.testBit_toNat, BitVec.getLsbD_and, BitVec.getLsbD_not, BitVec.getLsbD_ofNat, BitVec.getLsbD_ofNat, Nat.testBit_shiftLeft, Nat.testBit_shiftRight, Nat.testBit_two_pow_sub_one]
    by_cases hi : i < 64
    · by_cases hik : i < k
      · simp [hi, hik]
        intro h
        omega
      · have h3 : k + (i - k) = i := by omega
        simp [hi, hik, h3]
        omega
    · have h4 : x.testBit i = false := Nat.testBit_lt_two_pow (Nat.lt_of_lt_of_le hx (Nat.pow_le_pow_right (n := 2) (by decide) (by omega : 64 ≤ i)))
      have h5 : k ≤ i := by omega
      have h3 : k + (i - k) = i := by omega
      simp [hi, h3, h4]
  have o1 : BitVec.ofInt 64 (x : Int) = BitVec.ofNat 64 x := BitVec.ofInt_natCast ..
  have o2 : BitVec.ofInt 64 ((2 ^ k - 1 : Nat) : Int) = BitVec.ofNat 64 (2 ^ k - 1) := BitVec.ofInt_natCast ..
  show IntKind.u64.wrap ((BitVec.ofInt 64 (x : Int) &&& ~~~ BitVec.ofInt 64 ((2 ^ k - 1 : Nat) : Int)).toNat : Nat) = _
  rw [o1, o2, key, IntKind.wrap_u64]
  omega
theorem or_low (x k : Nat) (hx : x < 18446744073709551616) (hk : k ≤ 64) : bits .or .u64 (x : Int) ((2 ^ k - 1 : Nat) : Int) = ((x - x % 2 ^ k + (2 ^ k - 1) : Nat) : Int) := by
  have hp : 2 ^ k ≤ 2 ^ 64 := Nat.pow_le_pow_right (by decide) hk
  have h1 := Nat.one_le_two_pow (n := k)
  have hlt : x - x % 2 ^ k + (2 ^ k - 1) < 2 ^ 64 := by
    obtain ⟨c, hc⟩ : ∃ c, 2 ^ 64 = 2 ^ k * c := ⟨2 ^ (64 - k), by rw [← Nat.pow_add]; congr 1; omega⟩
    have hd := Nat.div_add_mod x (2 ^ k)
    have hq : x / 2 ^ k < c := by
      rw [Nat.div_lt_iff_lt_mul (by omega), Nat.mul_comm, ← hc]
      exact hx
    have hq2 : 2 ^ k * (x / 2 ^ k) + 2 ^ k ≤ 2 ^ k * c := by
      have := Nat.mul_le_mul_left (2 ^ k) (show x / 2 ^ k + 1 ≤ c by omega)
      rw [Nat.mul_add, Nat.mul_one] at this
      exact this
    omega
  have key : (BitVec.ofNat 64 x ||| BitVec.ofNat 64 (2 ^ k - 1)).toNat = x - x % 2 ^ k + (2 ^ k - 1) := by
    have e : x - x % 2 ^ k + (2 ^ k - 1) = 2 ^ k * (x / 2 ^ k) ||| (2 ^ k - 1) := by
      rw [← Nat.two_pow_add_eq_or_of_lt (by omega)]
      have := Nat.div_add_mod x (2 ^ k)
      omega
    rw [e, BitVec.toNat_or, BitVec.toNat_ofNat, BitVec.toNat_ofNat, Nat.mod_eq_of_lt (by omega : x < 2 ^ 64), Nat.mod_eq_of_lt (by omega : 2 ^ k - 1 < 2 ^ 64)]
    refine Nat.eq_of_testBit_eq fun i => ?_
    rw [Nat.testBit_or, Nat.testBit_or, Nat.testBit_two_pow_sub_one, Nat.testBit_two_pow_mul]
    by_cases hik : i < k
    · simp [hik]
    · have h3 : i - k + k = i := by omega
      simp [hik, Nat.testBit_div_two_pow, h3]
      omega
  have o1 : BitVec.ofInt 64 (x : Int) = BitVec.ofNat 64 x := BitVec.ofInt_natCast ..
  have o2 : BitVec.ofInt 64 ((2 ^ k - 1 : Nat) : Int) = BitVec.ofNat 64 (2 ^ k - 1) := BitVec.ofInt_natCast ..
  show IntKind.u64.wrap ((BitVec.ofInt 64 (x : Int) ||| BitVec.ofInt 64 ((2 ^ k - 1 : Nat) : Int)).toNat : Nat) = _
  rw [o1, o2, key, IntKind.wrap_u64]
  omega
theorem lowHi_eq (k : Nat) (h : k ≤ 128) : lowHi k = 2 ^ (k - 64) - 1 := by
  unfold lowHi
  split
  · obtain rfl : k = 128 := by omega
    rfl
  · split
    · rfl
    · rw [show k - 64 = 0 by omega]
theorem lowLo_eq (k : Nat) : lowLo k = 2 ^ (min k 64) - 1 := by
  unfold lowLo
  split
  · rw [Nat.min_eq_right (by omega)]
  · rw [Nat.min_eq_left (by omega)]
def mHi (six : Bool) (hi n : Nat) : Nat := hi - hi % 2 ^ (lenN six - n - 64)
def mLo (six : Bool) (lo n : Nat) : Nat := lo - lo % 2 ^ (min (lenN six - n) 64)
def fHi (six : Bool) (hi n : Nat) : Nat := mHi six hi n + (2 ^ (lenN six - n - 64) - 1)
def fLo (six : Bool) (lo n : Nat) : Nat := mLo six lo n + (2 ^ (min (lenN six - n) 64) - 1)
theorem lenN_le (six : Bool) : lenN six ≤ 128 := by cases six <;> decide
theorem length_alloc (six : Bool) (hi lo : Nat) (w : World) : Calls Tryd.prog 55 #[vA six hi lo] w fun e w' => e = .returned (.int .i64 ((lenN six : Nat) : Int)) ∧ ∃ o, w' = w.alloc o := by
  unfold vA
  cases six
  all_goals
    go_enter Tryd.func55, Tryd.ntmps55
    go_wp2
    go_ret
    exact ⟨rfl, _, rfl⟩
set_option maxRecDepth 100000 in
set_option maxHeartbeats 1000000 in
theorem masked_any (six : Bool) (hi lo n : Nat) (w : World) (h1 : hi < 18446744073709551616) (h2 : lo < 18446744073709551616) (hn : n ≤ lenN six) :
    Calls Tryd.prog 56 #[vA six hi lo, .int .i64 (n : Int)] w (Ret (vA six (mHi six hi n) (mLo six lo n)) w) := by
  have hL := length_alloc six hi lo
  have e1 := andNot_low hi (lenN six - n - 64) h1 (by have := lenN_le six; omega)
  have e2 := andNot_low lo (min (lenN six - n) 64) h2 (by omega)
  rw [← lowHi_eq _ (by have := lenN_le six; omega)] at e1
  rw [← lowLo_eq] at e2
  have hw := fun w => low_any (lenN six - n) w (by have := lenN_le six; omega)
  have hln := lenN_le six
  have hcast : ((lenN six : Nat) : Int) - (n : Int) = ((lenN six - n : Nat) : Int) := by omega
  unfold mHi mLo
  generalize hi - hi % 2 ^ (lenN six - n - 64) = rh at *
  generalize lo - lo % 2 ^ (min (lenN six - n) 64) = rl at *
  generalize lowHi (lenN six - n) = mh at *
  generalize lowLo (lenN six - n) = ml at *
  generalize lenN six - n = kk at *
  generalize lenN six = ln at *
  unfold vA at hL ⊢
  replace hL := Lib.hid hL
  replace hw := Lib.hid hw
  replace hcast := Lib.hid hcast
  go_enter Tryd.func56, Tryd.ntmps56
  go_wp2_with fail
  refine (hL.out _).mono ?_
  rintro e w1 ⟨rfl, o, rfl⟩
  go_wp2_with fail
  rw [hcast.out]
  refine (hw.out _).mono ?_
  rintro e w2 ⟨rfl, k, rfl⟩
  have HA : Blk ((((w.alloc (.cells #[.bool six, .int .u64 (hi : Int), .int .u64 (lo : Int)] 29 (0, 0))).alloc (.cells #[.bool false, .int .u64 0, .int .u64 0] 29 (0, 0))).alloc o).drewN k) w.heap.size 29 #[.bool six, .int .u64 (hi : Int), .int .u64 (lo : Int)] := (((Blk.new w _ _).alloc _).alloc _).drewN k
  have HZ : Blk ((((w.alloc (.cells #[.bool six, .int .u64 (hi : Int), .int .u64 (lo : Int)] 29 (0, 0))).alloc (.cells #[.bool false, .int .u64 0, .int .u64 0] 29 (0, 0))).alloc o).drewN k) (w.heap.size + 1) 29 #[.bool false, .int .u64 0, .int .u64 0] := by
    have := Blk.new (w.alloc (.cells #[.bool six, .int .u64 (hi : Int), .int .u64 (lo : Int)] 29 (0, 0))) 29 #[.bool false, .int .u64 0, .int .u64 0]
    rw [World.size_alloc] at this
    exact (this.alloc _).drewN k
  have HB : Hid (Below w.heap.size w ((((w.alloc (.cells #[.bool six, .int .u64 (hi : Int), .int .u64 (lo : Int)] 29 (0, 0))).alloc (.cells #[.bool false, .int .u64 0, .int .u64 0] 29 (0, 0))).alloc o).drewN k)) := Lib.hid (below_drewN (below_alloc (below_alloc (below_alloc (Below.refl _ _) _) _) _) k)
  generalize ((((w.alloc (.cells #[.bool six, .int .u64 (hi : Int), .int .u64 (lo : Int)] 29 (0, 0))).alloc (.cells #[.bool false, .int .u64 0, .int .u64 0] 29 (0, 0))).alloc o).drewN k) = w3 at *
  have a0 := HA.cell 0
  have a1 := HA.cell 1
  have a2 := HA.cell 2
  have af := HA.free
  have z0 := HZ.cell 0
  have z1 := HZ.cell 1
  have z2 := HZ.cell 2
  have zf := HZ.free
  simp at a0 a1 a2 z0 z1 z2
  clear HA HZ
  go_wp2_with fail
  refine bodyPost_ret (v := .agg #[.bool six, .int .u64 (rh : Int), .int .u64 (rl : Int)]) (by simp [results, Tryd.results56, go_sem, z0, z1, z2]) rfl ⟨rfl, ?_⟩
  repeat refine Below.setCell ?_ (by simp) _
  exact HB.out
set_option maxRecDepth 100000 in
set_option maxHeartbeats 1000000 in
theorem filled_any (six : Bool) (hi lo n : Nat) (w : World) (h1 : hi < 18446744073709551616) (h2 : lo < 18446744073709551616) (hn : n ≤ lenN six) :
    Calls Tryd.prog 76 #[vA six hi lo, .int .i64 (n : Int)] w (Ret (vA six (fHi six hi n) (fLo six lo n)) w) := by
  have hL := length_alloc six hi lo
  have e1 := or_low hi (lenN six - n - 64) h1 (by have := lenN_le six; omega)
  have e2 := or_low lo (min (lenN six - n) 64) h2 (by omega)
  have hw := fun w => low_any (lenN six - n) w (by have := lenN_le six; omega)
  have hln := lenN_le six
  have hcast : ((lenN six : Nat) : Int) - (n : Int) = ((lenN six - n : Nat) : Int) := by omega
  unfold fHi fLo mHi mLo
  generalize hi - hi % 2 ^ (lenN six - n - 64) + (2 ^ (lenN six - n - 64) - 1) = rh at *
  generalize lo - lo % 2 ^ (min (lenN six - n) 64) + (2 ^ (min (lenN six - n) 64) - 1) = rl at *
  rw [← lowHi_eq _ (by have := lenN_le six; omega)] at e1
  rw [← lowLo_eq] at e2
  generalize lowHi (lenN six - n) = mh at *
  generalize lowLo (lenN six - n) = ml at *
  generalize lenN six - n = kk at *
  generalize lenN six = ln at *
  unfold vA at hL ⊢
  replace hL := Lib.hid hL
  replace hw := Lib.hid hw
  replace hcast := Lib.hid hcast
  go_enter Tryd.func76, Tryd.ntmps76
  go_wp2_with fail
  refine (hL.out _).mono ?_
  rintro e w1 ⟨rfl, o, rfl⟩
  go_wp2_with fail
  rw [hcast.out]
  refine (hw.out _).mono ?_
  rintro e w2 ⟨rfl, k, rfl⟩
  have HA : Blk ((((w.alloc (.cells #[.bool six, .int .u64 (hi : Int), .int .u64 (lo : Int)] 29 (0, 0))).alloc (.cells #[.bool false, .int .u64 0, .int .u64 0] 29 (0, 0))).alloc o).drewN k) w.heap.size 29 #[.bool six, .int .u64 (hi : Int), .int .u64 (lo : Int)] := (((Blk.new w _ _).alloc _).alloc _).drewN k
  have HZ : Blk ((((w.alloc (.cells #[.bool six, .int .u64 (hi : Int), .int .u64 (lo : Int)] 29 (0, 0))).alloc (.cells #[.bool false, .int .u64 0, .int .u64 0] 29 (0, 0))).alloc o).drewN k) (w.heap.size + 1) 29 #[.bool false, .int .u64 0, .int .u64 0] := by
    have := Blk.new (w.alloc (.cells #[.bool six, .int .u64 (hi : Int), .int .u64 (lo : Int)] 29 (0, 0))) 29 #[.bool false, .int .u64 0, .int .u64 0]
    rw [World.size_alloc] at this
    exact (this.alloc _).drewN k
  have HB : Hid (Below w.heap.size w ((((w.alloc (.cells #[.bool six, .int .u64 (hi : Int), .int .u64 (lo : Int)] 29 (0, 0))).alloc (.cells #[.bool false, .int .u64 0, .int .u64 0] 29 (0, 0))).alloc o).drewN k)) := Lib.hid (below_drewN (below_alloc (below_alloc (below_alloc (Below.refl _ _) _) _) _) k)
  generalize ((((w.alloc (.cells #[.bool six, .int .u64 (hi : Int), .int .u64 (lo : Int)] 29 (0, 0))).alloc (.cells #[.bool false, .int .u64 0, .int .u64 0] 29 (0, 0))).alloc o).drewN k) = w3 at *
  have a0 := HA.cell 0
  have a1 := HA.cell 1
  have a2 := HA.cell 2
  have af := HA.free
  have z0 := HZ.cell 0
  have z1 := HZ.cell 1
  have z2 := HZ.cell 2
  have zf := HZ.free
  simp at a0 a1 a2 z0 z1 z2
  clear HA HZ
  go_wp2_with fail
  refine bodyPost_ret (v := .agg #[.bool six, .int .u64 (rh : Int), .int .u64 (rl : Int)]) (by simp [results, Tryd.results76, go_sem, z0, z1, z2]) rfl ⟨rfl, ?_⟩
  repeat refine Below.setCell ?_ (by simp) _
  exact HB.out
end Go.Proofs.YtaamonhhclffcaaDoor
