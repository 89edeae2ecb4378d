/-
  Prefixes: CheckPrefix.
  The reference's wide numbers: an address as nine digits.
  Numbers in digits of 2^16: low bits struck or filled, digit by digit.
  A region that draws its order: all but its last operations give one value in every later world; the last ones, which wait for all others, are walked in order.
  The reference's first and last address of a prefix: digits struck or filled, bit by bit.
  The reference's firstOf and lastOf: the digits of an address, low bits struck or filled.
  The address of a wide number.
  The reference's prefixes: PrefixFault, MaskOf, LastOf.
-/
import Derived.Test.YtaeieigdibanlaaGreatDoorRM1
import Derived.BigQuiet
import Derived.Lib.Hide
import Derived.WalkKit
import Derived.StillTail
import Derived.StillTailTactics
import Derived.Laws.Tables
import Derived.Laws.Rows
set_option linter.unusedVariables false
namespace Go.Proofs.YtaeieigdibanlaaGreatDoor
open Go.RowKit Go
set_option linter.unusedVariables false
end Go.Proofs.YtaeieigdibanlaaGreatDoor

namespace Go.Proofs.YtaeieigdibanlaaGreatDoor
open Go.RowKit Go
set_option linter.unusedVariables false

theorem u64_and65535 (n : Nat) : bits .and .u64 (n : Int) 65535 = ((n % 65536 : Nat) : Int) := by
  have h127 : (BitVec.ofInt 64 65535).toNat = 2 ^ 16 - 1 := by decide
  have key : (BitVec.ofInt 64 (n : Int) &&& BitVec.ofInt 64 65535).toNat = n % 65536 := by
    rw [BitVec.toNat_and, BitVec.toNat_ofInt, h127, Nat.and_two_pow_sub_one_eq_mod]
    omega
  show IntKind.u64.wrap ((BitVec.ofInt 64 (n : Int) &&& BitVec.ofInt 64 65535).toNat : Nat) = _
  rw [key, IntKind.wrap_u64]
  omega
theorem dig (x m : Nat) (hx : x < 18446744073709551616) : wrap64 (bits .and .u64 ((x : Int) / (m : Int)) 65535) = ((x / m % 65536 : Nat) : Int) := by
  have e : (x : Int) / (m : Int) = ((x / m : Nat) : Int) := by rw [Int.natCast_ediv]
  rw [e, u64_and65535]
  unfold wrap64
  have : x / m % 65536 < 65536 := Nat.mod_lt _ (by decide)
  omega
def wCells (six : Bool) (hi lo : Nat) : Array Value := #[.int .i64 ((lo % 65536 : Nat) : Int), .int .i64 ((lo / 65536 % 65536 : Nat) : Int), .int .i64 ((lo / 4294967296 % 65536 : Nat) : Int), .int .i64 ((lo / 281474976710656 % 65536 : Nat) : Int), .int .i64 ((hi % 65536 : Nat) : Int), .int .i64 ((hi / 65536 % 65536 : Nat) : Int), .int .i64 ((hi / 4294967296 % 65536 : Nat) : Int), .int .i64 ((hi / 281474976710656 % 65536 : Nat) : Int), .int .i64 (if six = true then 1 else 0)]
end Go.Proofs.YtaeieigdibanlaaGreatDoor

namespace Go.Proofs.YtaeieigdibanlaaGreatDoor
open Go
set_option linter.unusedVariables false

def clr (x k : Nat) : Nat := x - x % 2 ^ k
def fil (x k : Nat) : Nat := x - x % 2 ^ k + (2 ^ k - 1)
theorem fil_zero (x : Nat) : fil x 0 = x := by simp [fil, Nat.mod_one]
/-- four digits -/
theorem digits4 (n : Nat) (hn : n < 18446744073709551616) : n = n % 65536 + 65536 * (n / 65536 % 65536 + 65536 * (n / 4294967296 % 65536 + 65536 * (n / 281474976710656 % 65536))) := by omega
theorem clr_le (x k : Nat) : clr x k ≤ x := Nat.sub_le _ _
theorem fil_or (x k : Nat) : fil x k = clr x k ||| (2 ^ k - 1) := by
  have h1 := Nat.one_le_two_pow (n := k)
  unfold fil clr
  have hd := Nat.div_add_mod x (2 ^ k)
  have e : x - x % 2 ^ k = 2 ^ k * (x / 2 ^ k) := by omega
  rw [e, ← Nat.two_pow_add_eq_or_of_lt (by omega)]
end Go.Proofs.YtaeieigdibanlaaGreatDoor

namespace Go.Proofs.YtaeieigdibanlaaGreatDoor
open Go.RowKit Go

section
variable {P : Program} {ops : Array Oper} {md : Region.Mode} {C : World → Prop}

def anyQL (P : Program) (md : Region.Mode) (ops : Array Oper) (C : World → Prop) (n : Nat) (L : Array Bool → Act → Prop) : Nat → Array Bool → Act → Prop
  | 0, listed, a => L listed a
  | f + 1, listed, a => Region.ready md ops listed ≠ [] ∧ ∀ i ∈ Region.ready md ops listed, i < n ∧ qOp P ops C i (anyQL P md ops C n L f (listed.setIfInBounds i true)) a

theorem any_of_QL {n g : Nat} {L : Array Bool → Act → Prop} {Q' : Exit → Act → World → Prop} (hL : ∀ listed a w, C w → L listed a → wpAny P md ops Q' g listed a w) :
    ∀ (f : Nat) (listed : Array Bool) (a : Act) (w : World), C w → anyQL P md ops C n L f listed a → wpAny P md ops Q' (f + g) listed a w
  | 0, _, _, _, hw, h => by rw [Nat.zero_add]; exact hL _ _ _ hw h
  | f + 1, _, _, _, hw, h => by
    rw [show f + 1 + g = (f + g) + 1 by omega]
    exact ⟨fun h0 => absurd h0 h.1, fun i hi => wpOp_of_qOp hw (fun a' w' hw' h' => any_of_QL hL f _ a' w' hw' h') (h.2 i hi).2⟩

theorem QL_first {n i : Nat} {oi : Oper} {v : Value} {L : Array Bool → Act → Prop} (hi : ops[i]? = some oi) (hsel : ∀ (j : Nat) (o : Oper) cs b, ops[j]? = some o → o.op ≠ .select cs b)
    (hs : Region.sinkB md ops n = true) (hc : Region.chainB md ops n = true) (hn : n < ops.size) (hin : i < n)
    (hdone : ∀ listed a, L listed a → ∀ j ∈ Region.ready md ops listed, n ≤ j) :
    ∀ (f : Nat) (listed : Array Bool) (a : Act), HeadInv md ops n listed →
      (∀ j oj, ops[j]? = some oj → j ≠ i → listed.getD j true = false → (∀ e ∈ oj.after, Region.binds md e = true → e.on ≠ i) → oi.apart ops oj = true) →
      i ∈ Region.ready md ops listed → YieldsIn P ops C oi v a →
      anyQL P md ops C n L f (listed.setIfInBounds i true) (a.put oi.dst v) → anyQL P md ops C n L (f + 1) listed a := by
  intro f
  induction f with
  | zero =>
    intro listed a inv _ hr hy H
    have hun := (mem_ready.1 hr).1
    refine ⟨fun h => (by rw [h] at hr; cases hr), fun j hj => ?_⟩
    have hjn : j < n := by
      rcases Nat.lt_or_ge j n with h | h
      · exact h
      · exact absurd hj (tail_waits hs hc hn inv _ i rfl hin hun j h)
    refine ⟨hjn, ?_⟩
    by_cases hji : j = i
    · subst hji; exact hy.qOp hi H
    · have := hdone _ _ H j (ready_mono hj hji)
      omega
  | succ f ih =>
    intro listed a inv hfree hr hy H
    have hun := (mem_ready.1 hr).1
    refine ⟨fun h => (by rw [h] at hr; cases hr), fun j hj => ?_⟩
    have hjn : j < n := by
      rcases Nat.lt_or_ge j n with h | h
      · exact h
      · exact absurd hj (tail_waits hs hc hn inv _ i rfl hin hun j h)
    refine ⟨hjn, ?_⟩
    by_cases hji : j = i
    · subst hji; exact hy.qOp hi H
    · have h1 := (H.2 j (ready_mono hj hji)).2
      obtain ⟨hjun, oj, hoj, hall⟩ := mem_ready.1 hj
      have hnot : ∀ e ∈ oj.after, Region.binds md e = true → e.on ≠ i := fun e he hb heq => by
        have h1 := hall e he hb
        rw [heq, getD_both hun] at h1
        cases h1
      have h2 := qOp_put hoj (hfree j oj hoj hji hjun hnot) (fun cs b => hsel i oi cs b hi) (fun cs b => hsel j oj cs b hoj) hy h1
      have hfree' : ∀ k ok, ops[k]? = some ok → k ≠ i → (listed.setIfInBounds j true).getD k true = false →
          (∀ e ∈ ok.after, Region.binds md e = true → e.on ≠ i) → oi.apart ops ok = true := fun k ok hk hki hun hno => by
        refine hfree k ok hk hki ?_ hno
        by_cases hjk : j = k
        · subst hjk; exact hjun
        · rw [getD_set_ne true hjk] at hun; exact hun
      refine qOp_mono (fun a' h3 => ih (listed.setIfInBounds j true) a' (inv.set hj hjn) hfree' (ready_mono hr (Ne.symm hji)) h3.1 ?_) h2
      rw [Array.setIfInBounds_comm _ _ hji]
      exact h3.2

theorem QL_lex {n g : Nat} {Lq : Act → Prop} (hsel : Region.noSelect ops = true) (hs : Region.sinkB md ops n = true) (hc : Region.chainB md ops n = true) (hn : n < ops.size) :
    ∀ (l : List Oper) (k : Nat) (listed : Array Bool) (a : Act), (∀ j, j < l.length → l[j]? = ops[k + j]?) → k + l.length = n → HeadInv md ops n listed →
    Region.lexHead md ops g l.length k listed = true → wpQuiet P ops C Lq l a →
    anyQL P md ops C n (fun listed' a' => Region.seqB md ops g n listed' = true ∧ Lq a') l.length listed a
  | [], k, listed, a, _, hk, _, hB, h => by
    have : k = n := by simpa using hk
    subst this
    exact ⟨by simpa [Region.lexHead] using hB, h⟩
  | o :: l, k, listed, a, hl, hk, inv, hB, h => by
    have h0 : ops[k]? = some o := by simpa using (hl 0 (by simp)).symm
    simp only [List.length_cons, Region.lexHead, Bool.and_eq_true] at hB
    obtain ⟨⟨hr, hf⟩, hB'⟩ := hB
    have hkn : k < n := by simp only [List.length_cons] at hk; omega
    have hr' : k ∈ Region.ready md ops listed := by simpa using hr
    have hst : qOp P ops C k (wpQuiet P ops C Lq l) a := by unfold qOp; simp only [h0]; exact h
    obtain ⟨v, hy, hK⟩ := yieldsIn_of_qOp h0 hst
    exact QL_first h0 (Region.noSelect_spec hsel) hs hc hn hkn (fun listed' a' hL => seqB_ready hL.1) l.length listed a inv (Region.free_spec h0 hf) hr' hy
      (QL_lex hsel hs hc hn l (k + 1) _ _ (fun j hj => by have := hl (j + 1) (by simp; omega); simpa [Nat.add_assoc, Nat.add_comm 1 j] using this) (by simp only [List.length_cons] at hk; omega) (inv.set hr' hkn) hB' hK)

end
end Go.Proofs.YtaeieigdibanlaaGreatDoor

namespace Go.Proofs.YtaeieigdibanlaaGreatDoor
open Go.RowKit Go
set_option linter.unusedVariables false

def dg (hi lo : Nat) : Nat → Nat
  | 0 => lo % 65536
  | 1 => lo / 65536 % 65536
  | 2 => lo / 4294967296 % 65536
  | 3 => lo / 281474976710656 % 65536
  | 4 => hi % 65536
  | 5 => hi / 65536 % 65536
  | 6 => hi / 4294967296 % 65536
  | _ => hi / 281474976710656 % 65536
theorem dg_lt (hi lo d : Nat) : dg hi lo d < 65536 := by
  unfold dg
  split <;> exact Nat.mod_lt _ (by decide)
def wv (six : Bool) (f : Nat → Nat) : Array Value := #[.int .i64 ((f 0 : Nat) : Int), .int .i64 ((f 1 : Nat) : Int), .int .i64 ((f 2 : Nat) : Int), .int .i64 ((f 3 : Nat) : Int), .int .i64 ((f 4 : Nat) : Int), .int .i64 ((f 5 : Nat) : Int), .int .i64 ((f 6 : Nat) : Int), .int .i64 ((f 7 : Nat) : Int), .int .i64 (if six = true then 1 else 0)]
theorem wCells_wv (six : Bool) (hi lo : Nat) : wCells six hi lo = wv six (dg hi lo) := rfl
theorem Blk.row {w : World} {B : Nat} {t : TypeId} {cs : Array Value} (h : Blk w B t cs) (c2 : Array Value) : Blk (w.setRow B c2) B t c2 := setRow_heap w B _ _ _ _ h

end Go.Proofs.YtaeieigdibanlaaGreatDoor

namespace Go.Proofs.YtaeieigdibanlaaGreatDoor
open Go.RowKit Go
set_option linter.unusedVariables false
end Go.Proofs.YtaeieigdibanlaaGreatDoor

namespace Go.Proofs.YtaeieigdibanlaaGreatDoor
open Go.RowKit Go
set_option linter.unusedVariables false

/-- the number of k digits from place o on -/
def PS (f : Nat → Nat) (o : Nat) : Nat → Nat
  | 0 => 0
  | k + 1 => PS f o k + f (o + k) * 2 ^ (16 * k)
theorem PS_four (f : Nat → Nat) (o : Nat) : PS f o 4 = f o + 65536 * (f (o + 1) + 65536 * (f (o + 2) + 65536 * f (o + 3))) := by
  simp only [PS, Nat.add_zero, Nat.mul_zero, Nat.pow_zero, Nat.mul_one, Nat.zero_add, Nat.reduceMul, Nat.reducePow]
  omega
end Go.Proofs.YtaeieigdibanlaaGreatDoor

namespace Go.Proofs.YtaeieigdibanlaaGreatDoor
open Go.RowKit Go
set_option linter.unusedVariables false
theorem mHi_clr (six : Bool) (hi n : Nat) : mHi six hi n = clr hi (min (lenN six - n - 64) 64) := by
  unfold mHi clr
  rw [Nat.min_eq_left (by have := lenN_le six; omega)]
theorem mLo_clr (six : Bool) (lo n : Nat) : mLo six lo n = clr lo (min (lenN six - n) 64) := rfl
theorem fHi_fil (six : Bool) (hi n : Nat) : fHi six hi n = fil hi (min (lenN six - n - 64) 64) := by
  unfold fHi mHi fil
  rw [Nat.min_eq_left (by have := lenN_le six; omega)]
theorem fLo_fil (six : Bool) (lo n : Nat) : fLo six lo n = fil lo (min (lenN six - n) 64) := rfl
/-- digits tell the number -/
theorem PS_dg_lo (hi lo : Nat) (h : lo < 18446744073709551616) : PS (dg hi lo) 0 4 = lo := by
  rw [PS_four]; exact (digits4 lo h).symm
theorem PS_dg_hi (hi lo : Nat) (h : hi < 18446744073709551616) : PS (dg hi lo) 4 4 = hi := by
  rw [PS_four]; exact (digits4 hi h).symm
end Go.Proofs.YtaeieigdibanlaaGreatDoor
