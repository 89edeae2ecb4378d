/-
  The reference's wide numbers: an address as nine digits.
-/
import Derived.Test.YtofjlpnebfijoaaDoorPfx
namespace Go.Proofs.YtofjlpnebfijoaaDoor
open Go.RowKit Go
set_option linter.unusedVariables false

theorem u64_and65535 (n : Nat) : bits .and .u64 (n : Int) 65535 = ((n % 65536 : Nat) : Int) := by
  have h127 : (BitVec.ofInt 64 65535).toNat = 2 ^ 16 - 1 := by decide
  have key : (BitVec.ofInt 64 (n : Int) &&& BitVec.ofInt 64 65535).toNat = n % 65536 := by
    rw [BitVec.toNat_and, BitVec.toNat_ofInt, h127, Nat.and_two_pow_sub_one_eq_mod]
    omega
  show IntKind.u64.wrap ((BitVec.ofInt 64 (n : Int) &&& BitVec.ofInt 64 65535).toNat : Nat) = _
  rw [key, IntKind.wrap_u64]
  omega
theorem dig (x m : Nat) (hx : x < 18446744073709551616) : wrap64 (bits .and .u64 ((x : Int) / (m : Int)) 65535) = ((x / m % 65536 : Nat) : Int) := by
  have e : (x : Int) / (m : Int) = ((x / m : Nat) : Int) := by rw [Int.natCast_ediv]
  rw [e, u64_and65535]
  unfold wrap64
  have : x / m % 65536 < 65536 := Nat.mod_lt _ (by decide)
  omega
def wCells (six : Bool) (hi lo : Nat) : Array Value := #[.int .i64 ((lo % 65536 : Nat) : Int), .int .i64 ((lo / 65536 % 65536 : Nat) : Int), .int .i64 ((lo / 4294967296 % 65536 : Nat) : Int), .int .i64 ((lo / 281474976710656 % 65536 : Nat) : Int), .int .i64 ((hi % 65536 : Nat) : Int), .int .i64 ((hi / 65536 % 65536 : Nat) : Int), .int .i64 ((hi / 4294967296 % 65536 : Nat) : Int), .int .i64 ((hi / 281474976710656 % 65536 : Nat) : Int), .int .i64 (if six = true then 1 else 0)]
set_option maxRecDepth 100000 in
set_option maxHeartbeats 2000000 in
theorem of_any (six : Bool) (hi lo : Nat) (w : World) (h1 : hi < 18446744073709551616) (h2 : lo < 18446744073709551616) :
    Calls Tryd.prog 17 #[vA six hi lo] w (Ret (.agg (wCells six hi lo)) w) := by
  have d0 : wrap64 (bits .and .u64 (lo : Int) 65535) = (lo : Int) % 65536 := by rw [u64_and65535]; unfold wrap64; omega
  have d7 : wrap64 (bits .and .u64 (hi : Int) 65535) = (hi : Int) % 65536 := by rw [u64_and65535]; unfold wrap64; omega
  have d1 := dig lo 65536 h2
  have d2 := dig lo 4294967296 h2
  have d3 := dig lo 281474976710656 h2
  have d4 := dig hi 65536 h1
  have d5 := dig hi 4294967296 h1
  have d6 := dig hi 281474976710656 h1
  have hwc : Hid (wCells six hi lo = #[.int .i64 ((lo % 65536 : Nat) : Int), .int .i64 ((lo / 65536 % 65536 : Nat) : Int), .int .i64 ((lo / 4294967296 % 65536 : Nat) : Int), .int .i64 ((lo / 281474976710656 % 65536 : Nat) : Int), .int .i64 ((hi % 65536 : Nat) : Int), .int .i64 ((hi / 65536 % 65536 : Nat) : Int), .int .i64 ((hi / 4294967296 % 65536 : Nat) : Int), .int .i64 ((hi / 281474976710656 % 65536 : Nat) : Int), .int .i64 (if six = true then 1 else 0)]) := Lib.hid rfl
  generalize (lo / 65536 % 65536 : Nat) = r1 at *
  generalize (lo / 4294967296 % 65536 : Nat) = r2 at *
  generalize (lo / 281474976710656 % 65536 : Nat) = r3 at *
  generalize (hi / 65536 % 65536 : Nat) = r4 at *
  generalize (hi / 4294967296 % 65536 : Nat) = r5 at *
  generalize (hi / 281474976710656 % 65536 : Nat) = r6 at *
  generalize wCells six hi lo = wc at *
  have HD := Lib.hid (And.intro d0 (And.intro d1 (And.intro d2 (And.intro d3 (And.intro d7 (And.intro d4 (And.intro d5 d6)))))))
  clear d0 d1 d2 d3 d4 d5 d6 d7
  unfold vA
  go_enter Tryd.func17, Tryd.ntmps17
  go_wp2
  refine wp_loop_rounds 6 ?_
  rw [rounds_succ]
  go_wp2_with (rw [rounds_succ])
  all_goals
    refine bodyPost_ret (v := .agg wc) (by rw [hwc.out]; simp [results, Tryd.results17, go_sem, *]; exact HD.out) rfl ⟨rfl, by repeat (first | exact Below.refl _ _ | apply below_alloc | apply below_drewN)⟩
end Go.Proofs.YtofjlpnebfijoaaDoor
