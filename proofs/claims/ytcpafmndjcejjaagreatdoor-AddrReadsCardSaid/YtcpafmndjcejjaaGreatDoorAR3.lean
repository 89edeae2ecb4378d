/-
  Prefixes: CheckPrefix.
  The reference's wide numbers: an address as nine digits.
  Numbers in digits of 2^16: low bits struck or filled, digit by digit.
  A region that draws its order: all but its last operations give one value in every later world; the last ones, which wait for all others, are walked in order.
  The reference's first and last address of a prefix: digits struck or filled, bit by bit.
  The reference's firstOf and lastOf: the digits of an address, low bits struck or filled.
  The address of a wide number.
  The reference's prefixes: PrefixFault, MaskOf, LastOf.
-/
import Derived.Test.YtcpafmndjcejjaaGreatDoorAR1
import Derived.BigQuiet
import Derived.Lib.Hide
import Derived.WalkKit
import Derived.StillTail
import Derived.StillTailTactics
import Derived.Laws.Tables
import Derived.Laws.Rows
set_option linter.unusedVariables false
namespace Go.Proofs.YtcpafmndjcejjaaGreatDoor
open Go.RowKit Go
set_option linter.unusedVariables false
end Go.Proofs.YtcpafmndjcejjaaGreatDoor

namespace Go.Proofs.YtcpafmndjcejjaaGreatDoor
open Go.RowKit Go
set_option linter.unusedVariables false

theorem u64_and65535 (n : Nat) : bits .and .u64 (n : Int) 65535 = ((n % 65536 : Nat) : Int) := by
  have h127 : (BitVec.ofInt 64 65535).toNat = 2 ^ 16 - 1 := by decide
  have key : (BitVec.ofInt 64 (n : Int) &&& BitVec.ofInt 64 65535).toNat = n % 65536 := by
    rw [BitVec.toNat_and, BitVec.toNat_ofInt, h127, Nat.and_two_pow_sub_one_eq_mod]
    omega
  show IntKind.u64.wrap ((BitVec.ofInt 64 (n : Int) &&& BitVec.ofInt 64 65535).toNat : Nat) = _
  rw [key, IntKind.wrap_u64]
  omega
theorem dig (x m : Nat) (hx : x < 18446744073709551616) : wrap64 (bits .and .u64 ((x : Int) / (m : Int)) 65535) = ((x / m % 65536 : Nat) : Int) := by
  have e : (x : Int) / (m : Int) = ((x / m : Nat) : Int) := by rw [Int.natCast_ediv]
  rw [e, u64_and65535]
  unfold wrap64
  have : x / m % 65536 < 65536 := Nat.mod_lt _ (by decide)
  omega
def wCells (six : Bool) (hi lo : Nat) : Array Value := #[.int .i64 ((lo % 65536 : Nat) : Int), .int .i64 ((lo / 65536 % 65536 : Nat) : Int), .int .i64 ((lo / 4294967296 % 65536 : Nat) : Int), .int .i64 ((lo / 281474976710656 % 65536 : Nat) : Int), .int .i64 ((hi % 65536 : Nat) : Int), .int .i64 ((hi / 65536 % 65536 : Nat) : Int), .int .i64 ((hi / 4294967296 % 65536 : Nat) : Int), .int .i64 ((hi / 281474976710656 % 65536 : Nat) : Int), .int .i64 (if six = true then 1 else 0)]
set_option maxRecDepth 100000 in
set_option maxHeartbeats 2000000 in
theorem of_any (six : Bool) (hi lo : Nat) (w : World) (h1 : hi < 18446744073709551616) (h2 : lo < 18446744073709551616) :
    Calls Tryz.prog 49 #[vA six hi lo] w (Ret (.agg (wCells six hi lo)) w) := by
  have d0 : wrap64 (bits .and .u64 (lo : Int) 65535) = (lo : Int) % 65536 := by rw [u64_and65535]; unfold wrap64; omega
  have d7 : wrap64 (bits .and .u64 (hi : Int) 65535) = (hi : Int) % 65536 := by rw [u64_and65535]; unfold wrap64; omega
  have d1 := dig lo 65536 h2
  have d2 := dig lo 4294967296 h2
  have d3 := dig lo 281474976710656 h2
  have d4 := dig hi 65536 h1
  have d5 := dig hi 4294967296 h1
  have d6 := dig hi 281474976710656 h1
  have hwc : Hid (wCells six hi lo = #[.int .i64 ((lo % 65536 : Nat) : Int), .int .i64 ((lo / 65536 % 65536 : Nat) : Int), .int .i64 ((lo / 4294967296 % 65536 : Nat) : Int), .int .i64 ((lo / 281474976710656 % 65536 : Nat) : Int), .int .i64 ((hi % 65536 : Nat) : Int), .int .i64 ((hi / 65536 % 65536 : Nat) : Int), .int .i64 ((hi / 4294967296 % 65536 : Nat) : Int), .int .i64 ((hi / 281474976710656 % 65536 : Nat) : Int), .int .i64 (if six = true then 1 else 0)]) := Lib.hid rfl
  generalize (lo / 65536 % 65536 : Nat) = r1 at *
  generalize (lo / 4294967296 % 65536 : Nat) = r2 at *
  generalize (lo / 281474976710656 % 65536 : Nat) = r3 at *
  generalize (hi / 65536 % 65536 : Nat) = r4 at *
  generalize (hi / 4294967296 % 65536 : Nat) = r5 at *
  generalize (hi / 281474976710656 % 65536 : Nat) = r6 at *
  generalize wCells six hi lo = wc at *
  have HD := Lib.hid (And.intro d0 (And.intro d1 (And.intro d2 (And.intro d3 (And.intro d7 (And.intro d4 (And.intro d5 d6)))))))
  clear d0 d1 d2 d3 d4 d5 d6 d7
  unfold vA
  go_enter Tryz.func49, Tryz.ntmps49
  go_wp2
  refine wp_loop_rounds 6 ?_
  rw [rounds_succ]
  go_wp2_with (rw [rounds_succ])
  all_goals
    refine bodyPost_ret (v := .agg wc) (by rw [hwc.out]; simp [results, Tryz.results49, go_sem, *]; exact HD.out) rfl ⟨rfl, by repeat (first | exact Below.refl _ _ | apply below_alloc | apply below_drewN)⟩
end Go.Proofs.YtcpafmndjcejjaaGreatDoor

namespace Go.Proofs.YtcpafmndjcejjaaGreatDoor
open Go
set_option linter.unusedVariables false

def clr (x k : Nat) : Nat := x - x % 2 ^ k
def fil (x k : Nat) : Nat := x - x % 2 ^ k + (2 ^ k - 1)
theorem fil_zero (x : Nat) : fil x 0 = x := by simp [fil, Nat.mod_one]
theorem clr_le (x k : Nat) : clr x k ≤ x := Nat.sub_le _ _
theorem fil_or (x k : Nat) : fil x k = clr x k ||| (2 ^ k - 1) := by
  have h1 := Nat.one_le_two_pow (n := k)
  unfold fil clr
  have hd := Nat.div_add_mod x (2 ^ k)
  have e : x - x % 2 ^ k = 2 ^ k * (x / 2 ^ k) := by omega
  rw [e, ← Nat.two_pow_add_eq_or_of_lt (by omega)]
end Go.Proofs.YtcpafmndjcejjaaGreatDoor

namespace Go.Proofs.YtcpafmndjcejjaaGreatDoor
open Go.RowKit Go

section
variable {P : Program} {ops : Array Oper} {md : Region.Mode} {C : World → Prop}
end
end Go.Proofs.YtcpafmndjcejjaaGreatDoor

namespace Go.Proofs.YtcpafmndjcejjaaGreatDoor
open Go.RowKit Go
set_option linter.unusedVariables false

def dg (hi lo : Nat) : Nat → Nat
  | 0 => lo % 65536
  | 1 => lo / 65536 % 65536
  | 2 => lo / 4294967296 % 65536
  | 3 => lo / 281474976710656 % 65536
  | 4 => hi % 65536
  | 5 => hi / 65536 % 65536
  | 6 => hi / 4294967296 % 65536
  | _ => hi / 281474976710656 % 65536
theorem dg_lt (hi lo d : Nat) : dg hi lo d < 65536 := by
  unfold dg
  split <;> exact Nat.mod_lt _ (by decide)
def wv (six : Bool) (f : Nat → Nat) : Array Value := #[.int .i64 ((f 0 : Nat) : Int), .int .i64 ((f 1 : Nat) : Int), .int .i64 ((f 2 : Nat) : Int), .int .i64 ((f 3 : Nat) : Int), .int .i64 ((f 4 : Nat) : Int), .int .i64 ((f 5 : Nat) : Int), .int .i64 ((f 6 : Nat) : Int), .int .i64 ((f 7 : Nat) : Int), .int .i64 (if six = true then 1 else 0)]
theorem wCells_wv (six : Bool) (hi lo : Nat) : wCells six hi lo = wv six (dg hi lo) := rfl
theorem lt8 {d : Nat} (h : d < 8) : d = 0 ∨ d = 1 ∨ d = 2 ∨ d = 3 ∨ d = 4 ∨ d = 5 ∨ d = 6 ∨ d = 7 := by omega
theorem wv_get (six : Bool) (f : Nat → Nat) (d : Nat) (h : d < 8) : (wv six f)[d]? = some (.int .i64 ((f d : Nat) : Int)) := by
  rcases lt8 h with rfl | rfl | rfl | rfl | rfl | rfl | rfl | rfl <;> rfl
theorem wv_one (six : Bool) (f : Nat → Nat) : (wv six f).all (·.oneCell') = true := by simp [wv, Value.oneCell']
theorem belowRow {u v : World} (h : Below u.heap.size u v) {B : Nat} (hB : u.heap.size ≤ B) (c : Array Value) : Below u.heap.size u (v.setRow B c) :=
  ⟨h.os, h.tape, h.output, by rw [setRow_size]; exact h.size, fun i hi => (setRow_other v B i c (by omega)).trans (h.block i hi)⟩
theorem Blk.row {w : World} {B : Nat} {t : TypeId} {cs : Array Value} (h : Blk w B t cs) (c2 : Array Value) : Blk (w.setRow B c2) B t c2 := setRow_heap w B _ _ _ _ h

end Go.Proofs.YtcpafmndjcejjaaGreatDoor

namespace Go.Proofs.YtcpafmndjcejjaaGreatDoor
open Go.RowKit Go
set_option linter.unusedVariables false
end Go.Proofs.YtcpafmndjcejjaaGreatDoor

namespace Go.Proofs.YtcpafmndjcejjaaGreatDoor
open Go.RowKit Go
set_option linter.unusedVariables false
end Go.Proofs.YtcpafmndjcejjaaGreatDoor

namespace Go.Proofs.YtcpafmndjcejjaaGreatDoor
open Go.RowKit Go
set_option linter.unusedVariables false
theorem mHi_clr (six : Bool) (hi n : Nat) : mHi six hi n = clr hi (min (lenN six - n - 64) 64) := by
  unfold mHi clr
  rw [Nat.min_eq_left (by have := lenN_le six; omega)]
theorem mLo_clr (six : Bool) (lo n : Nat) : mLo six lo n = clr lo (min (lenN six - n) 64) := rfl
theorem fHi_fil (six : Bool) (hi n : Nat) : fHi six hi n = fil hi (min (lenN six - n - 64) 64) := by
  unfold fHi mHi fil
  rw [Nat.min_eq_left (by have := lenN_le six; omega)]
theorem fLo_fil (six : Bool) (lo n : Nat) : fLo six lo n = fil lo (min (lenN six - n) 64) := rfl
end Go.Proofs.YtcpafmndjcejjaaGreatDoor
