/-
  Small functions on numbers and addresses: Outside, in, CheckAddr, AddrFault, HasPorts.
  The sum of bytes: filter.Sum and the reference's CheckSumOf are the same function of the bytes.
  Bytes: put and big (a number in some bytes), Equal of two slices of bytes.
  A packet: its cells, its block, the fields set one by one; what a generator keeps of it.
  A region that draws its order, by an invariant with a phase, where each operation knows that what depends on it has not run: a bound on the phase.
  Bytes in drawn regions: what is known of a value (descriptors), how it stays, what each kind of operation leaves.
  A right packet's bytes: the function of the packet that the program and the reference both compute.
  Bytes set in an own row; sums of rows that can be read.
-/
import Derived.Test.YtakjopbdkkcnlaaPR2
import Derived.Test.YtakjopbdkkcnlaaPR1
import Derived.Laws.Tables
set_option linter.unusedVariables false
namespace Go.Proofs.Ytakjopbdkkcnlaa
open Go.RowKit
set_option linter.unusedVariables false

def outB (n lo hi : Int) : Bool := decide (n < lo) || decide (hi < n)
def inB (n lo hi : Int) : Bool := decide (lo ≤ n) && decide (n ≤ hi)
theorem inB_out (n lo hi : Int) : inB n lo hi = !outB n lo hi := by unfold inB outB; rw [Bool.eq_iff_iff]; simp
def aFault (six : Bool) (hi lo : Int) : Int := if six = false ∧ (hi ≠ 0 ∨ 4294967296 ≤ lo) then 3 else 0
theorem aFault_vals (six : Bool) (hi lo : Int) : aFault six hi lo = 0 ∨ aFault six hi lo = 3 := by unfold aFault; split <;> simp
def hasPorts (p : Int) : Bool := p == 6 || p == 17

theorem outside_any (n lo hi : Int) (w : World) : Calls Try.prog 55 #[.int .i64 n, .int .i64 lo, .int .i64 hi] w fun e w' => e = .returned (.bool (outB n lo hi)) ∧ w = w' := by
 go_enter Try.func55, Try.ntmps55
 go_wp2
 all_goals (go_ret; exact ⟨by simp [outB, *] <;> omega, rfl⟩)
theorem in_any (n lo hi : Int) (w : World) : Calls Try.prog 53 #[.int .i64 n, .int .i64 lo, .int .i64 hi] w fun e w' => e = .returned (.bool (inB n lo hi)) ∧ w = w' := by
 go_enter Try.func53, Try.ntmps53
 go_wp2
 all_goals (go_ret; refine ⟨?_, rfl⟩; first | (simp [inB, *]; done) | (simp [inB, *]; intros; omega))
theorem checkAddr_any (six : Bool) (hi lo : Int) (w : World) (h1 : U64 hi) (h2 : U64 lo) : Calls Try.prog 61 #[vAddr six hi lo] w fun e w' => e = .returned (.int .i64 (aFault six hi lo)) ∧ ∃ o, w' = w.alloc o := by
 unfold vAddr
 go_enter Try.func61, Try.ntmps61
 go_wp2
 all_goals (go_ret; refine ⟨?_, _, rfl⟩)
 all_goals (cases six <;> simp_all [aFault] <;> omega)
theorem addrFault_any (six : Bool) (hi lo : Int) (w : World) (h1 : U64 hi) (h2 : U64 lo) : Calls Try.prog 54 #[vAddr six hi lo] w fun e w' => e = .returned (.int .i64 (aFault six hi lo)) ∧ ∃ o, w' = w.alloc o := by
 obtain ⟨h10, h11⟩ := h1
 obtain ⟨h20, h21⟩ := h2
 unfold vAddr
 go_enter Try.func54, Try.ntmps54
 go_wp2
 all_goals (go_ret; refine ⟨?_, _, rfl⟩)
 all_goals (cases six <;> simp_all [aFault] <;> omega)
theorem hasPorts_any (p : Int) (w : World) : Calls Try.prog 93 #[.int .i64 p] w fun e w' => e = .returned (.bool (hasPorts p)) ∧ w = w' := by
 go_enter Try.func93, Try.ntmps93
 go_wp2
 all_goals (go_ret; exact ⟨by simp_all [hasPorts], rfl⟩)
end Go.Proofs.Ytakjopbdkkcnlaa

namespace Go.Proofs.Ytakjopbdkkcnlaa
open Go.RowKit
set_option linter.unusedVariables false

/-- a slice of bytes that can be read -/
structure RdB (w : World) (ad : Option Addr) (bs : List UInt8) : Prop where
 small : bs.length ≤ 140737488351232
 cell : ∀ i, i < bs.length → ∃ g o, ad = some ⟨g, o, none⟩ ∧ g < w.heap.size ∧ w.cell? ⟨g, o + i, none⟩ = some (.int .u8 ((bs.getD i 0).toNat : Int))

def sumB : List UInt8 → Bool → Nat
 | [], _ => 0
 | c :: l, true => c.toNat * 256 + sumB l false
 | c :: l, false => c.toNat + sumB l true
def foldSum (n : Nat) : Nat := if n = 0 then 0 else (n - 1) % 65535 + 1

theorem sumB_le : ∀ (l : List UInt8) (e : Bool), sumB l e ≤ 65280 * l.length
 | [], _ => by simp [sumB]
 | c :: l, true => by have := sumB_le l false; have := c.toNat_lt; simp only [sumB, List.length_cons]; omega
 | c :: l, false => by have := sumB_le l true; have := c.toNat_lt; simp only [sumB, List.length_cons]; omega
theorem sumB_snoc : ∀ (l : List UInt8) (e : Bool) (c : UInt8), sumB (l ++ [c]) e = sumB l e + if (decide (l.length % 2 = 0)) = e then c.toNat * 256 else c.toNat
 | [], true, c => by simp [sumB]
 | [], false, c => by simp [sumB]
 | d :: l, true, c => by
  simp only [List.cons_append, sumB, sumB_snoc l false c, List.length_cons]
  have h1 : (l.length % 2 = 0) ↔ ¬ ((l.length + 1) % 2 = 0) := by omega
  by_cases h : l.length % 2 = 0
  ·have h2 := h1.1 h; simp [h, h2]; omega
  ·have h2 : (l.length + 1) % 2 = 0 := by omega
   simp [h, h2]; omega
 | d :: l, false, c => by
  simp only [List.cons_append, sumB, sumB_snoc l true c, List.length_cons]
  by_cases h : l.length % 2 = 0
  ·have h2 : ¬ (l.length + 1) % 2 = 0 := by omega
   simp [h, h2]; omega
  ·have h2 : (l.length + 1) % 2 = 0 := by omega
   simp [h, h2]; omega
theorem sumB_take (bs : List UInt8) (k : Nat) (hk : k < bs.length) : sumB (bs.take (k + 1)) true = sumB (bs.take k) true + if k % 2 = 0 then (bs.getD k 0).toNat * 256 else (bs.getD k 0).toNat := by
 rw [List.take_succ_eq_append_getElem hk, sumB_snoc, List.length_take, Nat.min_eq_left (by omega)]
 simp [List.getD, List.getElem?_eq_getElem hk]
theorem foldSum_step (n : Nat) (h : 65535 < n) : foldSum (n / 65536 + n % 65536) = foldSum n := by
 unfold foldSum
 have h1 : n / 65536 + n % 65536 ≠ 0 := by omega
 rw [if_neg h1, if_neg (by omega)]
 omega
theorem foldSum_small (n : Nat) (h : n ≤ 65535) : foldSum n = n := by unfold foldSum; split <;> omega
theorem foldSum_le (n : Nat) : foldSum n ≤ 65535 := by unfold foldSum; split <;> omega

theorem i64_and65535 (n : Int) : bits .and .i64 n 65535 = n % 65536 := by
 have h127 : (BitVec.ofInt 64 65535).toNat = 2 ^ 16 - 1 := by decide
 have key : (BitVec.ofInt 64 n &&& BitVec.ofInt 64 65535).toNat = (n % ((2 ^ 64 : Nat) : Int)).toNat % 2 ^ 16 := by
  rw [BitVec.toNat_and, BitVec.toNat_ofInt, h127, Nat.and_two_pow_sub_one_eq_mod]
 show IntKind.i64.wrap ((BitVec.ofInt 64 n &&& BitVec.ofInt 64 65535).toNat : Nat) = n % 65536
 rw [key, IntKind.wrap_i64]
 omega

set_option maxRecDepth 100000 in
set_option maxHeartbeats 1000000 in
theorem sum_any (ad : Option Addr) (c : Nat) (bs : List UInt8) (w : World) (h : RdB w ad bs) :
  Calls Try.prog 26 #[.slice ad bs.length c] w fun e w' => e = .returned (.int .i64 (65535 - (foldSum (sumB bs true) : Int))) ∧ w = w' := by
 have hs := h.small
 generalize hn : bs.length = n
 rw [hn] at hs
 have Hn := Lib.hid hn
 clear hn
 go_enter Try.func26, Try.ntmps26
 go_wp2
 go_loop [3, 8] (fun t i => ∃ k : Nat, k ≤ n ∧ i = .int .i64 k ∧ t = .int .i64 (sumB (bs.take k) true)) (fun _ i => n - (intOf i).toNat)
 case atStart => exact ⟨0, Nat.zero_le _, rfl, by simp [sumB]⟩
 case round =>
  obtain ⟨k, hk, rfl, rfl⟩ := hrel
  by_cases hlt : k < n
  ·obtain ⟨g, o, had, hg, hc⟩ := h.cell k (by rw [Hn.out]; exact hlt)
   have hsm := sumB_take bs k (by rw [Hn.out]; exact hlt)
   have hb : sumB (bs.take k) true ≤ 65280 * k := by have := sumB_le (bs.take k) true; have h2 := List.length_take_le k bs; omega
   have hcb := (bs.getD k 0).toNat_lt
   generalize (bs.getD k 0).toNat = x at hc hsm hcb
   generalize sumB (bs.take k) true = s at hsm hb ⊢
   have Hs := Lib.hid hsm
   clear hsm
   subst had
   go_wp2
   all_goals
    refine ⟨⟨k + 1, by omega, by go_num, ?_⟩, by simp [intOf]; omega⟩
    rw [Hs.out]
    have hpar : (((k : Int) % 2 == 0) = true ∧ k % 2 = 0) ∨ (((k : Int) % 2 == 0) = false ∧ ¬ k % 2 = 0) := by
     by_cases h2 : k % 2 = 0
     ·exact .inl ⟨by simp; omega, h2⟩
     ·exact .inr ⟨by simp; omega, h2⟩
    rcases hpar with ⟨h2, h3⟩ | ⟨h2, h3⟩ <;> simp_all
  ·obtain rfl : k = n := by omega
   have he : bs.take k = bs := List.take_of_length_le (by rw [Hn.out]; exact Nat.le_refl _)
   rw [he]
   have hb := sumB_le bs true
   rw [Hn.out] at hb
   obtain ⟨s, hs⟩ : ∃ s, s = sumB bs true := ⟨_, rfl⟩
   rw [← hs] at hb ⊢
   have Hs := Lib.hid hs
   clear he h hs
   go_wp2
   go_loop [3] (fun t => ∃ m : Nat, m ≤ s ∧ foldSum m = foldSum s ∧ t = .int .i64 m) (fun t => (intOf t).toNat)
   case atStart => exact ⟨s, Nat.le_refl _, rfl, rfl⟩
   case round =>
    obtain ⟨m, hm, hf, rfl⟩ := hrel
    have HF := Lib.hid hf
    clear hf
    have ha := i64_and65535 (m : Int)
    by_cases hgt : 65535 < m
    ·go_wp2
     refine ⟨⟨m / 65536 + m % 65536, by omega, by rw [foldSum_step m hgt, HF.out], by simp⟩, by simp [intOf]; omega⟩
    ·go_wp2
     go_ret
     exact ⟨by rw [← Hs.out, ← HF.out, foldSum_small m (by omega)]; rfl, rfl⟩

theorem ckSum_step (s x : Nat) (hx : x ≤ 65535) : (s % 65535 + x) % 65535 = (s + x) % 65535 := by omega
theorem ck_fold (s : Nat) : foldSum s = if s % 65535 = 0 ∧ 0 < s then 65535 else s % 65535 := by
 unfold foldSum; split <;> split <;> omega

set_option maxRecDepth 100000 in
set_option maxHeartbeats 1000000 in
theorem checkSumOf_any (ad : Option Addr) (c : Nat) (bs : List UInt8) (w : World) (h : RdB w ad bs) :
  Calls Try.prog 27 #[.slice ad bs.length c] w fun e w' => e = .returned (.int .i64 (65535 - (foldSum (sumB bs true) : Int))) ∧ w = w' := by
 have hs := h.small
 generalize hn : bs.length = n
 rw [hn] at hs
 have Hn := Lib.hid hn
 clear hn
 go_enter Try.func27, Try.ntmps27
 go_wp2
 go_loop [3, 4, 9] (fun t a i => ∃ k : Nat, k ≤ n ∧ i = .int .i64 k ∧ t = .int .i64 ((sumB (bs.take k) true % 65535 : Nat) : Int) ∧ a = .bool (decide (0 < sumB (bs.take k) true))) (fun _ _ i => n - (intOf i).toNat)
 case atStart => exact ⟨0, Nat.zero_le _, rfl, by simp [sumB], by simp [sumB]⟩
 case round =>
  obtain ⟨k, hk, rfl, rfl, rfl⟩ := hrel
  by_cases hlt : k < n
  ·obtain ⟨g, o, had, hg, hc⟩ := h.cell k (by rw [Hn.out]; exact hlt)
   have hsm := sumB_take bs k (by rw [Hn.out]; exact hlt)
   have hb : sumB (bs.take k) true ≤ 65280 * k := by have := sumB_le (bs.take k) true; have h2 := List.length_take_le k bs; omega
   have hcb := (bs.getD k 0).toNat_lt
   generalize (bs.getD k 0).toNat = x at hc hsm hcb
   generalize sumB (bs.take k) true = s at hsm hb ⊢
   have Hs := Lib.hid hsm
   clear hsm
   subst had
   by_cases hs0 : 0 < s
   all_goals go_wp2
   all_goals
    refine ⟨⟨k + 1, by omega, by go_num, ?_⟩, by simp [intOf]; omega⟩
    rw [Hs.out]
    have h2 : k % 2 = 0 ∨ k % 2 = 1 := by omega
    rcases h2 with h2 | h2
    ·simp only [h2, Nat.sub_zero, Nat.mul_one, if_true]
     rw [show ((x : Int) * 2 ^ 8) = ((x * 256 : Nat) : Int) by omega, IntWalk.wrap64_in ((x * 256 : Nat) : Int) (by omega), IntWalk.wrap64_in _ (by omega)]
     refine ⟨congrArg (Value.int .i64) ?_, ?_⟩
     ·rw [Int.tmod_eq_emod_of_nonneg (by omega)]; omega
     ·simp <;> omega
    ·simp only [h2, Nat.sub_self, Nat.mul_zero, Nat.one_ne_zero, if_false]
     rw [show ((x : Int) * 2 ^ 0) = ((x : Nat) : Int) by omega, IntWalk.wrap64_in (x : Int) (by omega), IntWalk.wrap64_in _ (by omega)]
     refine ⟨congrArg (Value.int .i64) ?_, ?_⟩
     ·rw [Int.tmod_eq_emod_of_nonneg (by omega)]; omega
     ·simp <;> omega
  ·obtain rfl : k = n := by omega
   have he : bs.take k = bs := List.take_of_length_le (by rw [Hn.out]; exact Nat.le_refl _)
   rw [he]
   have hck := ck_fold (sumB bs true)
   obtain ⟨s, hs⟩ : ∃ s, s = sumB bs true := ⟨_, rfl⟩
   rw [← hs] at hck ⊢
   have Hs := Lib.hid hs
   have Hck := Lib.hid hck
   clear he h hs hck
   have hs65 : s % 65535 < 65535 := Nat.mod_lt _ (by decide)
   by_cases h0 : s % 65535 = 0
   ·by_cases h1 : 0 < s
    ·go_wp2
     all_goals (go_ret; refine ⟨?_, rfl⟩; rw [← Hs.out, Hck.out]; simp [h0, h1] <;> omega)
    ·go_wp2
     all_goals (go_ret; refine ⟨?_, rfl⟩; rw [← Hs.out, Hck.out]; simp [h0, h1] <;> omega)
   ·go_wp2
    all_goals (go_ret; refine ⟨?_, rfl⟩; rw [← Hs.out, Hck.out]; simp [h0] <;> omega)
end Go.Proofs.Ytakjopbdkkcnlaa

namespace Go.Proofs.Ytakjopbdkkcnlaa
open Go.RowKit Go
set_option linter.unusedVariables false

def encB (c : UInt8) : Value := .int .u8 (c.toNat : Int)
def encBs (bs : List UInt8) : List Value := bs.map encB
theorem encBs_len (bs : List UInt8) : (encBs bs).length = bs.length := by simp [encBs]
theorem encBs_one (bs : List UInt8) : ∀ u ∈ encBs bs, u.oneCell' = true := by
 intro u hu
 obtain ⟨c, _, rfl⟩ := List.mem_map.1 hu
 rfl
def OwnB (w : World) (base : Nat) (v : Value) (bs : List UInt8) : Prop := w.ownsRow base 5 1 v bs.length (encBs bs)
theorem byteE : EI Try.prog 43 5 1 1 := EI.mk' (z := .int .u8 0) Try.underlying43 (by kernel_rfl) rfl (by decide)
theorem OwnB.nil (w : World) (base : Nat) : OwnB w base (.slice none 0 0) [] := World.ownsRow_nil w base _ 1

def be (n : Nat) : Nat → List UInt8
 | 0 => []
 | k + 1 => UInt8.ofNat (n / 256 ^ k) :: be n k
theorem be_len (n : Nat) : ∀ k, (be n k).length = k
 | 0 => rfl
 | k + 1 => by simp [be, be_len n k]

theorem be_byte (x r : Nat) : Value.int .u8 ((x : Int) / 2 ^ (8 * r) % 256) = encB (UInt8.ofNat (x / 256 ^ r)) := by
 unfold encB
 rw [UInt8.toNat_ofNat', show (256 : Nat) ^ r = 2 ^ (8 * r) by rw [Nat.pow_mul]]
 refine congrArg (Value.int .u8) ?_
 rw [Int.natCast_emod, Int.natCast_ediv, Int.natCast_pow]
 rfl
theorem be_acc {bs acc : List UInt8} {x r m : Nat} (h : acc ++ be x r = bs ++ be x m) : acc.length + r = bs.length + m := by
 have := congrArg List.length h
 simpa [be_len] using this

set_option maxRecDepth 100000 in
set_option maxHeartbeats 1000000 in
theorem put_any (v : Value) (bs : List UInt8) (base : Nat) (x : Nat) (m : Nat) (w : World) (hown : OwnB w base v bs) (hb : base ≤ w.heap.size) (hx : x < 18446744073709551616) (hm : m ≤ 8) (hl : bs.length ≤ 1000000) :
  Calls Try.prog 94 #[v, .int .u64 x, .int .i64 m] w fun e w' => ∃ v', e = .returned v' ∧ OwnB w' base v' (bs ++ be x m) ∧ Grew w w' v v' := by
 go_enter Try.func94, Try.ntmps94
 go_wp2
 go_loopw [0, 7] (fun s i wr => ∃ (r : Nat) (acc : List UInt8), r ≤ m ∧ i = .int .i64 ((r : Int) - 1) ∧ acc ++ be x r = bs ++ be x m ∧ OwnB wr base s acc ∧ Grew w wr v s) (fun _ i _ => (intOf i + 1).toNat)
 case atStart => exact ⟨m, bs, Nat.le_refl _, rfl, rfl, hown, Grew.refl w v⟩
 case round =>
  obtain ⟨r, acc, hr, rfl, hacc, hO, hG⟩ := hrel
  have Hacc := Lib.hid hacc
  have HO := Lib.hid hO
  have HG := Lib.hid hG
  clear hacc hO hG
  cases r with
  | zero =>
   go_wp2
   go_ret
   exact ⟨_, rfl, by have := Hacc.out; simp only [be, List.append_nil] at this; rw [← this]; exact HO.out, HG.out⟩
  | succ r =>
   have e1 : ((r + 1 : Nat) : Int) - 1 = (r : Int) := by omega
   rw [e1]
   go_wp2_with (at_builtin; refine wpList_app byteE rfl (.tmp 14) (.tmp 20) rfl rfl (World.ownsRow.alloc HO.out _) rfl (src_one_new _ _ _) ?c1 ?c2 ?c3 ?c4 ?_)
   case c1 => intro u hu; simp at hu; subst hu; rfl
   case c2 => have := be_acc Hacc.out; simp only [maxLen]; omega
   case c3 => have := be_acc Hacc.out; omega
   case c4 => have := HG.out.g.size; simp; omega
   rw [be_byte]
   intro v' w' hO hG
   have HO' : Hid (OwnB w' base v' (acc ++ [UInt8.ofNat (x / 256 ^ r)])) := by
    show w'.ownsRow _ _ _ _ _ _
    rw [List.length_append, encBs, List.map_append]
    exact hO
   have HG' := Lib.hid (HG.out.trans hG.allocFirst)
   clear hO hG
   go_wp2
   refine ⟨⟨r, acc ++ [UInt8.ofNat (x / 256 ^ r)], by omega, by simp, ?_, HO'.out, HG'.out⟩, by simp [intOf]⟩
   have := Hacc.out
   simp only [be] at this
   rw [List.append_assoc]
   exact this

set_option maxRecDepth 100000 in
set_option maxHeartbeats 1000000 in
theorem big_any (x : Nat) (m : Nat) (w : World) (hx : x < 18446744073709551616) (hm : m ≤ 8) :
  Calls Try.prog 68 #[.int .u64 x, .int .i64 m] w fun e w' => ∃ v', e = .returned v' ∧ OwnB w' w.heap.size v' (be x m) ∧ Below w.heap.size w w' := by
 go_enter Try.func68, Try.ntmps68
 go_wp2
 go_loopw [5, 6] (fun s i wr => ∃ (r : Nat) (acc : List UInt8), r ≤ m ∧ i = .int .i64 ((r : Int) - 1) ∧ acc ++ be x r = [] ++ be x m ∧ OwnB wr w.heap.size s acc ∧ Below w.heap.size w wr) (fun _ i _ => (intOf i + 1).toNat)
 case atStart => exact ⟨m, [], Nat.le_refl _, rfl, rfl, OwnB.nil _ _, Below.refl _ _⟩
 case round =>
  obtain ⟨r, acc, hr, rfl, hacc, hO, hG⟩ := hrel
  have Hacc := Lib.hid hacc
  have HO := Lib.hid hO
  have HG := Lib.hid hG
  clear hacc hO hG
  cases r with
  | zero =>
   go_wp2
   go_ret
   exact ⟨_, rfl, by have := Hacc.out; simp only [be, List.append_nil, List.nil_append] at this; rw [← this]; exact HO.out, HG.out⟩
  | succ r =>
   have e1 : ((r + 1 : Nat) : Int) - 1 = (r : Int) := by omega
   rw [e1]
   go_wp2_with (at_builtin; refine wpList_app byteE rfl (.tmp 13) (.tmp 19) rfl rfl (World.ownsRow.alloc HO.out _) rfl (src_one_new _ _ _) ?c1 ?c2 ?c3 ?c4 ?_)
   case c1 => intro u hu; simp at hu; subst hu; rfl
   case c2 => have := be_acc Hacc.out; simp only [maxLen, List.length_nil] at *; omega
   case c3 => have := be_acc Hacc.out; simp only [List.length_nil] at this; omega
   case c4 => have := HG.out.size; simp; omega
   rw [be_byte]
   intro v' w' hO hG
   have HO' : Hid (OwnB w' w.heap.size v' (acc ++ [UInt8.ofNat (x / 256 ^ r)])) := by
    show w'.ownsRow _ _ _ _ _ _
    rw [List.length_append, encBs, List.map_append]
    exact hO
   have HG' := Lib.hid (HG.out.trans (hG.allocFirst.below HG.out.size (own_base HO.out)))
   clear hO hG
   go_wp2
   refine ⟨⟨r, acc ++ [UInt8.ofNat (x / 256 ^ r)], by omega, by simp, ?_, HO'.out, HG'.out⟩, by simp [intOf]⟩
   have := Hacc.out
   simp only [be] at this
   rw [List.append_assoc]
   exact this

/-- a slice of bytes that can be read -/
theorem OwnB.src {w : World} {base : Nat} {v : Value} {bs : List UInt8} (h : OwnB w base v bs) : ∃ ad c, v = .slice ad bs.length c ∧ Src w ad bs.length 1 (encBs bs) ∧ bs.length ≤ c ∧ c ≤ maxLen := own_form h
theorem rdB_of_src {w : World} {ad : Option Addr} {bs : List UInt8} (h : Src w ad bs.length 1 (encBs bs)) (hl : bs.length ≤ 140737488351232) : RdB w ad bs := by
 refine ⟨hl, fun i hi => ?_⟩
 have hg : (encBs bs)[i]? = some (encB bs[i]) := by simp [encBs, hi]
 obtain ⟨a, e, hlt, hc⟩ := h.2 i _ hg
 obtain ⟨g, o, s⟩ := a
 have h0 : (encBs bs)[0]? = some (encB (bs[0]'(by omega))) := by simp [encBs, List.getElem?_eq_getElem (show 0 < bs.length by omega)]
 obtain ⟨a', e', _, hc0⟩ := h.2 0 _ h0
 have ea : a' = ⟨g, o, s⟩ := by rw [e] at e'; injection e' with e'; exact e'.symm
 subst ea
 have hs : s = none := by
  cases s with
  | none => rfl
  | some y =>
   exfalso
   unfold World.cell? Addr.add at hc0
   simp at hc0
   split at hc0 <;> simp at hc0
 subst hs
 have hadd : (⟨g, o, none⟩ : Addr).add i = ⟨g, o + i, none⟩ := by unfold Addr.add; split <;> simp_all
 rw [hadd] at hc
 exact ⟨g, o, e, hlt, by rw [hc]; simp [encB, List.getD, hi]⟩

set_option maxRecDepth 100000 in
set_option maxHeartbeats 1000000 in
theorem equalB_any (a1 a2 : Option Addr) (c1 c2 : Nat) (xs ys : List UInt8) (w : World) (h1 : RdB w a1 xs) (h2 : RdB w a2 ys) :
  Calls Try.prog 23 #[.slice a1 xs.length c1, .slice a2 ys.length c2] w fun e w' => e = .returned (.bool (decide (xs = ys))) ∧ ∃ n, w' = w.drewN n := by
 have hs1 := h1.small
 generalize hn : xs.length = n
 rw [hn] at hs1
 by_cases hl : xs.length = ys.length
 ·rw [← hl, hn]
  have Hn := Lib.hid hn
  have Hl := Lib.hid hl
  clear hn hl
  go_enter Try.func23, Try.ntmps23
  go_wp2
  go_loopw [13] (fun i wr => ∃ (k q : Nat), k ≤ n ∧ i = .int .i64 k ∧ xs.take k = ys.take k ∧ wr = w.drewN q) (fun i _ => n - (intOf i).toNat)
  case atStart => exact ⟨0, 0, Nat.zero_le _, rfl, rfl, rfl⟩
  case round =>
   obtain ⟨k, q, hk, rfl, heq, rfl⟩ := hrel
   have Heq := Lib.hid heq
   clear heq
   by_cases hlt : k < n
   ·obtain ⟨g1, o1, e1, hg1, hc1⟩ := h1.cell k (by rw [Hn.out]; exact hlt)
    obtain ⟨g2, o2, e2, hg2, hc2⟩ := h2.cell k (by rw [← Hl.out, Hn.out]; exact hlt)
    have hx : xs.take (k + 1) = xs.take k ++ [xs.getD k 0] := by
     rw [List.take_succ_eq_append_getElem (by rw [Hn.out]; exact hlt)]
     simp [List.getD, List.getElem?_eq_getElem (show k < xs.length by rw [Hn.out]; exact hlt)]
    have hy : ys.take (k + 1) = ys.take k ++ [ys.getD k 0] := by
     rw [List.take_succ_eq_append_getElem (by rw [← Hl.out, Hn.out]; exact hlt)]
     simp [List.getD, List.getElem?_eq_getElem (show k < ys.length by rw [← Hl.out, Hn.out]; exact hlt)]
    have hne : xs = ys → xs.getD k 0 = ys.getD k 0 := by rintro rfl; rfl
    have Hx := Lib.hid hx
    have Hy := Lib.hid hy
    have Hne := Lib.hid hne
    clear hx hy hne
    subst e1 e2
    generalize xs.getD k 0 = x at *
    generalize ys.getD k 0 = y at *
    go_wp2_with fail
    go_quiet (fail)
    go_wp2_with fail
    ·go_ret
     refine ⟨?_, q + nq, by rw [World.drewN_drewN]⟩
     have hxy : xs ≠ ys := fun e => by
      have := Hne.out e
      subst this
      simp_all
     simp [hxy]
    ·refine ⟨⟨k + 1, _, by omega, by go_num, ?_, rfl⟩, by simp [intOf]; omega⟩
     have hxy : x = y := by
      have h3 : (x.toNat : Int) = y.toNat := by simp_all
      exact UInt8.toNat_inj.1 (by omega)
     rw [Hx.out, Hy.out, Heq.out, hxy]
   ·obtain rfl : k = n := by omega
    have hxy : xs = ys := by
     have := Heq.out
     rwa [List.take_of_length_le (by rw [Hn.out]; exact Nat.le_refl _), List.take_of_length_le (by rw [← Hl.out, Hn.out]; exact Nat.le_refl _)] at this
    have Hxy := Lib.hid hxy
    clear hxy
    go_wp2
    go_ret
    exact ⟨by simp [Hxy.out], _, rfl⟩
 ·have hxy : xs ≠ ys := fun e => hl (by rw [e])
  have Hxy := Lib.hid hxy
  have hnb : ((n : Int) != (ys.length : Int)) = true := by rw [bne_iff_ne]; omega
  have hnb2 : n ≠ ys.length := by omega
  clear hxy hn hl
  go_enter Try.func23, Try.ntmps23
  go_wp2
  go_ret
  exact ⟨by simp [Hxy.out], 0, rfl⟩
end Go.Proofs.Ytakjopbdkkcnlaa

namespace Go.Proofs.Ytakjopbdkkcnlaa
open Go.RowKit Go
set_option linter.unusedVariables false

structure PV where
 s1 : Bool
 h1 : Int
 l1 : Int
 s2 : Bool
 h2 : Int
 l2 : Int
 hops : Int
 proto : Int
 fp : Int
 tp : Int
 syn : Bool
 fin : Bool
 rst : Bool
 has : Bool
 seq : Int
 ack : Int
 reply : Bool
 id : Int
 pay : Value
def PV.cells (x : PV) : Array Value := #[.bool x.s1, .int .u64 x.h1, .int .u64 x.l1, .bool x.s2, .int .u64 x.h2, .int .u64 x.l2, .int .i64 x.hops, .int .i64 x.proto, .int .i64 x.fp, .int .i64 x.tp, .bool x.syn, .bool x.fin, .bool x.rst, .bool x.has, .int .i64 x.seq, .int .i64 x.ack, .bool x.reply, .int .i64 x.id, x.pay]
def PV.ok (x : PV) : Prop := U64 x.h1 ∧ U64 x.l1 ∧ U64 x.h2 ∧ U64 x.l2 ∧ x.pay.oneCell' = true
def PV.zero : PV := ⟨false, 0, 0, false, 0, 0, 0, 0, 0, 0, false, false, false, false, 0, 0, false, 0, .slice none 0 0⟩
def PBlk (w : World) (B : Nat) (x : PV) : Prop := Blk w B 45 #[.bool x.s1, .int .u64 x.h1, .int .u64 x.l1, .bool x.s2, .int .u64 x.h2, .int .u64 x.l2, .int .i64 x.hops, .int .i64 x.proto, .int .i64 x.fp, .int .i64 x.tp, .bool x.syn, .bool x.fin, .bool x.rst, .bool x.has, .int .i64 x.seq, .int .i64 x.ack, .bool x.reply, .int .i64 x.id, x.pay]
theorem PBlk.cells {w : World} {B : Nat} {x : PV} (h : PBlk w B x) : w.cell? ⟨B, 0, none⟩ = some (.bool x.s1) ∧ w.cell? ⟨B, 1, none⟩ = some (.int .u64 x.h1) ∧ w.cell? ⟨B, 2, none⟩ = some (.int .u64 x.l1) ∧ w.cell? ⟨B, 3, none⟩ = some (.bool x.s2) ∧ w.cell? ⟨B, 4, none⟩ = some (.int .u64 x.h2) ∧ w.cell? ⟨B, 5, none⟩ = some (.int .u64 x.l2) ∧ w.cell? ⟨B, 6, none⟩ = some (.int .i64 x.hops) ∧ w.cell? ⟨B, 7, none⟩ = some (.int .i64 x.proto) ∧ w.cell? ⟨B, 8, none⟩ = some (.int .i64 x.fp) ∧ w.cell? ⟨B, 9, none⟩ = some (.int .i64 x.tp) ∧ w.cell? ⟨B, 10, none⟩ = some (.bool x.syn) ∧ w.cell? ⟨B, 11, none⟩ = some (.bool x.fin) ∧ w.cell? ⟨B, 12, none⟩ = some (.bool x.rst) ∧ w.cell? ⟨B, 13, none⟩ = some (.bool x.has) ∧ w.cell? ⟨B, 14, none⟩ = some (.int .i64 x.seq) ∧ w.cell? ⟨B, 15, none⟩ = some (.int .i64 x.ack) ∧ w.cell? ⟨B, 16, none⟩ = some (.bool x.reply) ∧ w.cell? ⟨B, 17, none⟩ = some (.int .i64 x.id) ∧ w.cell? ⟨B, 18, none⟩ = some (x.pay) ∧ ∀ i, w.frozen? ⟨B, i, none⟩ = false :=
 ⟨Blk.cell h 0, Blk.cell h 1, Blk.cell h 2, Blk.cell h 3, Blk.cell h 4, Blk.cell h 5, Blk.cell h 6, Blk.cell h 7, Blk.cell h 8, Blk.cell h 9, Blk.cell h 10, Blk.cell h 11, Blk.cell h 12, Blk.cell h 13, Blk.cell h 14, Blk.cell h 15, Blk.cell h 16, Blk.cell h 17, Blk.cell h 18, Blk.free h⟩
theorem PBlk.set_s1 {w : World} {B : Nat} {x : PV} (h : PBlk w B x) (v : Bool) : PBlk (w.setCell ⟨B, 0, none⟩ (.bool v)) B { x with s1 := v } := Blk.set h 0 (.bool v)
theorem PBlk.set_h1 {w : World} {B : Nat} {x : PV} (h : PBlk w B x) (v : Int) : PBlk (w.setCell ⟨B, 1, none⟩ (.int .u64 v)) B { x with h1 := v } := Blk.set h 1 (.int .u64 v)
theorem PBlk.set_l1 {w : World} {B : Nat} {x : PV} (h : PBlk w B x) (v : Int) : PBlk (w.setCell ⟨B, 2, none⟩ (.int .u64 v)) B { x with l1 := v } := Blk.set h 2 (.int .u64 v)
theorem PBlk.set_s2 {w : World} {B : Nat} {x : PV} (h : PBlk w B x) (v : Bool) : PBlk (w.setCell ⟨B, 3, none⟩ (.bool v)) B { x with s2 := v } := Blk.set h 3 (.bool v)
theorem PBlk.set_h2 {w : World} {B : Nat} {x : PV} (h : PBlk w B x) (v : Int) : PBlk (w.setCell ⟨B, 4, none⟩ (.int .u64 v)) B { x with h2 := v } := Blk.set h 4 (.int .u64 v)
theorem PBlk.set_l2 {w : World} {B : Nat} {x : PV} (h : PBlk w B x) (v : Int) : PBlk (w.setCell ⟨B, 5, none⟩ (.int .u64 v)) B { x with l2 := v } := Blk.set h 5 (.int .u64 v)
theorem PBlk.set_hops {w : World} {B : Nat} {x : PV} (h : PBlk w B x) (v : Int) : PBlk (w.setCell ⟨B, 6, none⟩ (.int .i64 v)) B { x with hops := v } := Blk.set h 6 (.int .i64 v)
theorem PBlk.set_proto {w : World} {B : Nat} {x : PV} (h : PBlk w B x) (v : Int) : PBlk (w.setCell ⟨B, 7, none⟩ (.int .i64 v)) B { x with proto := v } := Blk.set h 7 (.int .i64 v)
theorem PBlk.set_fp {w : World} {B : Nat} {x : PV} (h : PBlk w B x) (v : Int) : PBlk (w.setCell ⟨B, 8, none⟩ (.int .i64 v)) B { x with fp := v } := Blk.set h 8 (.int .i64 v)
theorem PBlk.set_tp {w : World} {B : Nat} {x : PV} (h : PBlk w B x) (v : Int) : PBlk (w.setCell ⟨B, 9, none⟩ (.int .i64 v)) B { x with tp := v } := Blk.set h 9 (.int .i64 v)
theorem PBlk.set_syn {w : World} {B : Nat} {x : PV} (h : PBlk w B x) (v : Bool) : PBlk (w.setCell ⟨B, 10, none⟩ (.bool v)) B { x with syn := v } := Blk.set h 10 (.bool v)
theorem PBlk.set_fin {w : World} {B : Nat} {x : PV} (h : PBlk w B x) (v : Bool) : PBlk (w.setCell ⟨B, 11, none⟩ (.bool v)) B { x with fin := v } := Blk.set h 11 (.bool v)
theorem PBlk.set_rst {w : World} {B : Nat} {x : PV} (h : PBlk w B x) (v : Bool) : PBlk (w.setCell ⟨B, 12, none⟩ (.bool v)) B { x with rst := v } := Blk.set h 12 (.bool v)
theorem PBlk.set_has {w : World} {B : Nat} {x : PV} (h : PBlk w B x) (v : Bool) : PBlk (w.setCell ⟨B, 13, none⟩ (.bool v)) B { x with has := v } := Blk.set h 13 (.bool v)
theorem PBlk.set_seq {w : World} {B : Nat} {x : PV} (h : PBlk w B x) (v : Int) : PBlk (w.setCell ⟨B, 14, none⟩ (.int .i64 v)) B { x with seq := v } := Blk.set h 14 (.int .i64 v)
theorem PBlk.set_ack {w : World} {B : Nat} {x : PV} (h : PBlk w B x) (v : Int) : PBlk (w.setCell ⟨B, 15, none⟩ (.int .i64 v)) B { x with ack := v } := Blk.set h 15 (.int .i64 v)
theorem PBlk.set_reply {w : World} {B : Nat} {x : PV} (h : PBlk w B x) (v : Bool) : PBlk (w.setCell ⟨B, 16, none⟩ (.bool v)) B { x with reply := v } := Blk.set h 16 (.bool v)
theorem PBlk.set_id {w : World} {B : Nat} {x : PV} (h : PBlk w B x) (v : Int) : PBlk (w.setCell ⟨B, 17, none⟩ (.int .i64 v)) B { x with id := v } := Blk.set h 17 (.int .i64 v)
theorem PBlk.set_pay {w : World} {B : Nat} {x : PV} (h : PBlk w B x) (v : Value) : PBlk (w.setCell ⟨B, 18, none⟩ (v)) B { x with pay := v } := Blk.set h 18 (v)

/-- what a generator of packets keeps: the result's block A (still zero), the packet's block F, the stream -/
structure PG (b : Nat) (w0 : World) (m A F : Nat) (x : PV) (w : World) : Prop where
 f : PBlk w F x
 a : PBlk w A PV.zero
 g : Gen b w0 w m
 ok : x.ok
 ba : b < A
 bf : b < F
 ne : A ≠ F
 wa : w0.heap.size ≤ A
 wf : w0.heap.size ≤ F
theorem PG.mono {b m m' A F : Nat} {w0 w : World} {x : PV} (h : PG b w0 m A F x w) (hm : m ≤ m') : PG b w0 m' A F x w := { h with g := h.g.mono hm }
theorem PG.step {b m m' A F : Nat} {w0 w w' : World} {x : PV} (h : PG b w0 m A F x w) (hg : Gen b w w' m') : PG b w0 m' A F x w' :=
 ⟨Blk.keep h.f hg.g (by have := h.bf; omega), Blk.keep h.a hg.g (by have := h.ba; omega), h.g.trans hg, h.ok, h.ba, h.bf, h.ne, h.wa, h.wf⟩
theorem PG.alloc {b m A F : Nat} {w0 w : World} {x : PV} (h : PG b w0 m A F x w) (o : Obj) : PG b w0 m A F x (w.alloc o) :=
 ⟨Blk.alloc h.f o, Blk.alloc h.a o, h.g.alloc o, h.ok, h.ba, h.bf, h.ne, h.wa, h.wf⟩
theorem PG.drewN {b m A F : Nat} {w0 w : World} {x : PV} (h : PG b w0 m A F x w) (n : Nat) : PG b w0 m A F x (w.drewN n) :=
 ⟨Blk.drewN h.f n, Blk.drewN h.a n, h.g.drewN n, h.ok, h.ba, h.bf, h.ne, h.wa, h.wf⟩
theorem PG.set {b m A F : Nat} {w0 w : World} {x x' : PV} {i : Nat} {v : Value} (h : PG b w0 m A F x w) (hf : PBlk (w.setCell ⟨F, i, none⟩ v) F x') (ok : x'.ok) : PG b w0 m A F x' (w.setCell ⟨F, i, none⟩ v) :=
 ⟨hf, Blk.far h.a h.ne i v, h.g.setCell _ _ h.wf h.bf, ok, h.ba, h.bf, h.ne, h.wa, h.wf⟩
theorem PG.below {b m A F B : Nat} {w0 w w' : World} {x : PV} (h : PG b w0 m A F x w) (hb : Below B w w') (hB : w0.heap.size ≤ B) (h1 : b < B) (h2 : A < B) (h3 : F < B) : PG b w0 m A F x w' :=
 ⟨Blk.below h.f hb h3, Blk.below h.a hb h2, h.g.below hb hB h1, h.ok, h.ba, h.bf, h.ne, h.wa, h.wf⟩
theorem PG.set_hops {b m A F : Nat} {w0 w : World} {x : PV} (h : PG b w0 m A F x w) (v : Int) : PG b w0 m A F { x with hops := v } (w.setCell ⟨F, 6, none⟩ (.int .i64 v)) := h.set (PBlk.set_hops h.f v) h.ok
theorem PG.set_proto {b m A F : Nat} {w0 w : World} {x : PV} (h : PG b w0 m A F x w) (v : Int) : PG b w0 m A F { x with proto := v } (w.setCell ⟨F, 7, none⟩ (.int .i64 v)) := h.set (PBlk.set_proto h.f v) h.ok
theorem PG.set_fp {b m A F : Nat} {w0 w : World} {x : PV} (h : PG b w0 m A F x w) (v : Int) : PG b w0 m A F { x with fp := v } (w.setCell ⟨F, 8, none⟩ (.int .i64 v)) := h.set (PBlk.set_fp h.f v) h.ok
theorem PG.set_tp {b m A F : Nat} {w0 w : World} {x : PV} (h : PG b w0 m A F x w) (v : Int) : PG b w0 m A F { x with tp := v } (w.setCell ⟨F, 9, none⟩ (.int .i64 v)) := h.set (PBlk.set_tp h.f v) h.ok
theorem PG.set_syn {b m A F : Nat} {w0 w : World} {x : PV} (h : PG b w0 m A F x w) (v : Bool) : PG b w0 m A F { x with syn := v } (w.setCell ⟨F, 10, none⟩ (.bool v)) := h.set (PBlk.set_syn h.f v) h.ok
theorem PG.set_fin {b m A F : Nat} {w0 w : World} {x : PV} (h : PG b w0 m A F x w) (v : Bool) : PG b w0 m A F { x with fin := v } (w.setCell ⟨F, 11, none⟩ (.bool v)) := h.set (PBlk.set_fin h.f v) h.ok
theorem PG.set_rst {b m A F : Nat} {w0 w : World} {x : PV} (h : PG b w0 m A F x w) (v : Bool) : PG b w0 m A F { x with rst := v } (w.setCell ⟨F, 12, none⟩ (.bool v)) := h.set (PBlk.set_rst h.f v) h.ok
theorem PG.set_has {b m A F : Nat} {w0 w : World} {x : PV} (h : PG b w0 m A F x w) (v : Bool) : PG b w0 m A F { x with has := v } (w.setCell ⟨F, 13, none⟩ (.bool v)) := h.set (PBlk.set_has h.f v) h.ok
theorem PG.set_seq {b m A F : Nat} {w0 w : World} {x : PV} (h : PG b w0 m A F x w) (v : Int) : PG b w0 m A F { x with seq := v } (w.setCell ⟨F, 14, none⟩ (.int .i64 v)) := h.set (PBlk.set_seq h.f v) h.ok
theorem PG.set_ack {b m A F : Nat} {w0 w : World} {x : PV} (h : PG b w0 m A F x w) (v : Int) : PG b w0 m A F { x with ack := v } (w.setCell ⟨F, 15, none⟩ (.int .i64 v)) := h.set (PBlk.set_ack h.f v) h.ok
theorem PG.set_reply {b m A F : Nat} {w0 w : World} {x : PV} (h : PG b w0 m A F x w) (v : Bool) : PG b w0 m A F { x with reply := v } (w.setCell ⟨F, 16, none⟩ (.bool v)) := h.set (PBlk.set_reply h.f v) h.ok
theorem PG.set_id {b m A F : Nat} {w0 w : World} {x : PV} (h : PG b w0 m A F x w) (v : Int) : PG b w0 m A F { x with id := v } (w.setCell ⟨F, 17, none⟩ (.int .i64 v)) := h.set (PBlk.set_id h.f v) h.ok
theorem PV.one (x : PV) (h : x.pay.oneCell' = true) : x.cells.all (·.oneCell') = true := by
 unfold PV.cells
 simp only [Value.oneCell'] at h
 simp [Value.oneCell']
 exact h
theorem PV.size (x : PV) : x.cells.size = 19 := rfl
theorem PBlk.store {w : World} {B : Nat} {y : PV} (h : PBlk w B y) (x : PV) : PBlk (w.setRow B x.cells) B x := setRow_heap w B _ _ _ _ h
theorem Blk.setRow {w : World} {A B : Nat} {t : TypeId} {cs : Array Value} (h : Blk w A t cs) (hne : A ≠ B) (c2 : Array Value) : Blk (w.setRow B c2) A t cs := (setRow_other w B A c2 hne).trans h
theorem below_setRow {u v : World} (h : Below u.heap.size u v) {B : Nat} (hB : u.heap.size ≤ B) (c : Array Value) : Below u.heap.size u (v.setRow B c) :=
 ⟨h.os, h.tape, h.output, by rw [setRow_size]; exact h.size, fun i hi => (setRow_other v B i c (by omega)).trans (h.block i hi)⟩
theorem Gen.setRow {b m B : Nat} {u w : World} (h : Gen b u w m) (hB : u.heap.size ≤ B) (hb : b < B) (c : Array Value) : Gen b u (w.setRow B c) m :=
 ⟨⟨h.g.os, h.g.tape, h.g.output, by rw [setRow_size]; exact h.g.size, fun i hi hne => (setRow_other w B i c (by omega)).trans (h.g.block i hi hne)⟩, h.s.keep fun i hi => setRow_other w B i c (by omega)⟩
theorem PG.store {b m A F : Nat} {w0 w : World} {y : PV} (h : PG b w0 m A F y w) (x : PV) (ok : x.ok) : PG b w0 m A F x (w.setRow F x.cells) :=
 ⟨PBlk.store h.f x, Blk.setRow h.a h.ne _, Gen.setRow h.g h.wf h.bf _, ok, h.ba, h.bf, h.ne, h.wa, h.wf⟩
theorem PG.set_pay {b m A F : Nat} {w0 w : World} {x : PV} (h : PG b w0 m A F x w) (v : Value) (hv : v.oneCell' = true) : PG b w0 m A F { x with pay := v } (w.setCell ⟨F, 18, none⟩ v) := h.set (PBlk.set_pay h.f v) ⟨h.ok.1, h.ok.2.1, h.ok.2.2.1, h.ok.2.2.2.1, hv⟩
theorem PG.set_from {b m A F : Nat} {w0 w : World} {x : PV} (h : PG b w0 m A F x w) (s : Bool) (hi lo : Int) (h1 : U64 hi) (h2 : U64 lo) :
  PG b w0 m A F { x with s1 := s, h1 := hi, l1 := lo } (((w.setCell ⟨F, 0, none⟩ (.bool s)).setCell ⟨F, 1, none⟩ (.int .u64 hi)).setCell ⟨F, 2, none⟩ (.int .u64 lo)) :=
 ((h.set (PBlk.set_s1 h.f s) h.ok).set (PBlk.set_h1 (PBlk.set_s1 h.f s) hi) ⟨h1, h.ok.2⟩).set (PBlk.set_l1 (PBlk.set_h1 (PBlk.set_s1 h.f s) hi) lo) ⟨h1, h2, h.ok.2.2⟩
theorem OwnB.gen {w w' : World} {b B m : Nat} {v : Value} {zs : List UInt8} (h : OwnB w B v zs) (hg : Gen b w w' m) (hb : b < B) : OwnB w' B v zs :=
 World.ownsRow.kept h hg.g (by
  cases hv : v.ownBlock with
  | none => exact .inl rfl
  | some k => exact .inr (by have := own_base h k hv; simp; omega))
theorem OwnB.apart {w : World} {B F : Nat} {v : Value} {L : List UInt8} {x : PV} (h : OwnB w B v L) (hF : PBlk w F x) : ∀ k, v.ownBlock = some k → B ≤ k ∧ k < w.heap.size ∧ k ≠ F := by
 intro k hk
 refine ⟨own_base h k hk, own_lt h k hk, ?_⟩
 rintro rfl
 rcases h.2 with ⟨rfl, _⟩ | ⟨g, cap, cur, rfl, hb, hg, r⟩
 ·cases hk
 ·obtain rfl : g = k := by simpa [Value.ownBlock] using hk
  have h2 : w.heap[g]? = some (.cells _ 45 (0, 0)) := hF
  rw [hg] at h2
  injection h2 with h2
  injection h2 with _ h3 _
  revert h3
  decide
theorem OwnB.block {w w' : World} {B : Nat} {v : Value} {L : List UInt8} (h : OwnB w B v L) (hk : ∀ k, v.ownBlock = some k → w'.heap[k]? = w.heap[k]?) : OwnB w' B v L := by
 refine ⟨h.1, ?_⟩
 rcases h.2 with h2 | ⟨g, cap, cur, rfl, hb, hg, r⟩
 ·exact .inl h2
 ·exact .inr ⟨g, cap, cur, rfl, hb, (hk g rfl).trans hg, r⟩
theorem OwnB.setCell {w : World} {B F : Nat} {v : Value} {L : List UInt8} {x : PV} (h : OwnB w B v L) (hF : PBlk w F x) (i : Nat) (u : Value) : OwnB (w.setCell ⟨F, i, none⟩ u) B v L :=
 h.block fun k hk => heap_setCell_other w ⟨F, i, none⟩ k u (h.apart hF k hk).2.2
theorem OwnB.setRow {w : World} {B F : Nat} {v : Value} {L : List UInt8} {x : PV} (h : OwnB w B v L) (hF : PBlk w F x) (c : Array Value) : OwnB (w.setRow F c) B v L :=
 h.block fun k hk => setRow_other w F k c (h.apart hF k hk).2.2
theorem OwnB.one {w : World} {B : Nat} {v : Value} {L : List UInt8} (h : OwnB w B v L) : v.oneCell' = true := by
 obtain ⟨ad, c, rfl, _⟩ := own_form h
 rfl
theorem PG.grew {b m A F : Nat} {w0 w w' : World} {x : PV} {v v' : Value} {L : List UInt8} (h : PG b w0 m A F x w) (hO : OwnB w w0.heap.size v L) (hG : Grew w w' v v') (hb : b < w0.heap.size) : PG b w0 m A F x w' := by
 have hF := hO.apart h.f
 have hA := hO.apart h.a
 have hblk : ∀ i, i < w.heap.size → (i < w0.heap.size ∨ i = F ∨ i = A) → w'.heap[i]? = w.heap[i]? := fun i hi hor => hG.g.block i hi (by
  intro e
  have h1 := hF i e.symm
  have h2 := hA i e.symm
  omega)
 have hs := h.g.g.size
 refine ⟨(hblk F (Blk.lt h.f) (.inr (.inl rfl))).trans h.f, (hblk A (Blk.lt h.a) (.inr (.inr rfl))).trans h.a, ⟨⟨hG.g.os.trans h.g.g.os, hG.g.tape.trans h.g.g.tape, hG.g.output.trans h.g.g.output, Nat.le_trans h.g.g.size hG.g.size, fun i hi hne => (hblk i (by omega) (.inl hi)).trans (h.g.g.block i hi hne)⟩, h.g.s.keep fun i hi => hblk i (by omega) (.inl (by omega))⟩, h.ok, h.ba, h.bf, h.ne, h.wa, h.wf⟩
theorem src_one (w : World) (g : Nat) (x : Value) (t : TypeId) (h : w.heap[g]? = some (.cells #[x] t (0, 0))) : Src w (some ⟨g, 0, none⟩) 1 1 [x] := by
 refine ⟨rfl, fun j u hu => ?_⟩
 cases j with
 | zero =>
  simp at hu
  subst hu
  refine ⟨_, rfl, lt_of_block h, ?_⟩
  have hadd : (⟨g, 0, none⟩ : Addr).add 0 = ⟨g, 0, none⟩ := by unfold Addr.add; split <;> simp_all
  rw [hadd, cell_of_row w g 0 _ _ _ h]
  rfl
 | succ j => simp at hu
theorem OwnB.alloc {w : World} {B : Nat} {v : Value} {L : List UInt8} (h : OwnB w B v L) (o : Obj) : OwnB (w.alloc o) B v L := World.ownsRow.alloc h o
theorem Op1.app {P : Program} {t e : TypeId} {size bytes : Nat} (E : EI P t e size bytes) {o : Oper} {ρ : Operand → Value} {w : World} {post : Value → World → Prop} {s x : Operand}
  (ho : o.op = .call { callee := .builtin .append, args := #[s, x], argTypes := #[t, t] })
  {base : Nat} {v : Value} {n : Nat} {xs : List Value} (hs : ρ s = v) (hown : w.ownsRow base e size v n xs)
  {ad : Option Addr} {m c : Nat} {news : List Value} (hx : ρ x = .slice ad m c) (hsrc : Src w ad m size news) (h1 : ∀ u ∈ news, u.oneCell' = true)
  (h63 : n + m ≤ maxLen) (hbytes : (n + m) * bytes ≤ 140737488355328) (hbase : base ≤ w.heap.size)
  (h : ∀ v' w', w'.ownsRow base e size v' (n + m) (xs ++ news) → Grew w w' v v' → post v' w') : Op1 P o ρ w post := by
 obtain ⟨v', w', hr, h2, h3⟩ := run_append_src E w base o.type v n xs hown ad m c news hsrc h1 h63 hbytes hbase
 unfold Op1 execOp
 simp only [ho, resolve, invoke, builtin, Sem.run_bind, Sem.run_pure, Result.andThen_ok, List.map_toArray, List.map_cons, List.map_nil, hs, hx, hr]
 exact h _ _ h2 h3
end Go.Proofs.Ytakjopbdkkcnlaa

namespace Go.Proofs.Ytakjopbdkkcnlaa.Lm
open Go Go.Proofs.Ytakjopbdkkcnlaa

section
variable {P : Program} {ops : Array Oper} {Q : Exit → Act → World → Prop} {N total : Nat} {a0 : Act}
variable {R : Nat → Value → Nat → World → Prop} {C : Nat → World → Prop} {S : Nat → World → Nat → World → Prop} {cost lim : Nat → Nat}

/-- i and what depends on it -/
def msk (ops : Array Oper) (i : Nat) : Array Bool := (Array.range ops.size).map fun j => j == i || bef ops j i
theorem msk_get (ops : Array Oper) (i j : Nat) (hj : j < ops.size) : (msk ops i).getD j false = (j == i || bef ops j i) := by
 simp [msk, Array.getD, hj]
def limB (ops : Array Oper) (N total : Nat) (cost lim : Nat → Nat) : Bool := (List.range N).all fun i => decide (total ≤ lim i + sumCost cost (msk ops i) ops.size)

theorem limB_spec {ops : Array Oper} {N total : Nat} {cost lim : Nat → Nat} (h : limB ops N total cost lim = true) : ∀ i, i < N → total ≤ lim i + sumCost cost (msk ops i) ops.size := by
 simpa [limB] using h
theorem sumCost_disj {cost : Nat → Nat} {listed mask : Array Bool} : ∀ k, (∀ j, j < k → listed.getD j false = true → mask.getD j false = false) → sumCost cost listed k + sumCost cost mask k ≤ sumCost cost (Array.replicate k true) k
 | 0, _ => by simp [sumCost]
 | k + 1, h => by
  have ih := sumCost_disj (cost := cost) (listed := listed) (mask := mask) k fun j hj => h j (by omega)
  have hk := h k (by omega)
  have hfull : ∀ m, m ≤ k → sumCost cost (Array.replicate (k + 1) true) m = sumCost cost (Array.replicate k true) m := by
   intro m
   induction m with
   | zero => intro _; rfl
   | succ m ihm =>
    intro hm
    simp only [sumCost, ihm (by omega)]
    simp [Array.getD, show m < k by omega, show m < k + 1 by omega]
  simp only [sumCost, hfull k (Nat.le_refl _)]
  have h1 : (Array.replicate (k + 1) true).getD k false = true := by simp [Array.getD]
  simp only [h1, if_true]
  cases hl : listed.getD k false
  ·simp only [Bool.false_eq_true, if_false]
   cases hm : mask.getD k false <;> simp <;> omega
  ·simp only [hk hl, if_true, Bool.false_eq_true, if_false]
   omega

/-- What is asked of operation i. -/
def Ob (P : Program) (ops : Array Oper) (a0 : Act) (R : Nat → Value → Nat → World → Prop) (C : Nat → World → Prop) (S : Nat → World → Nat → World → Prop) (cost lim : Nat → Nat) (N : Nat) (i : Nat) (o : Oper) : Prop :=
 ∀ (T : Nat → Value) (w : World) (n : Nat), C n w → n ≤ lim i → (∀ p, p < ops.size → bef ops i p = true → R p (T p) n w) →
  if Region.wanted o (yielded ops (setAll (ops.toList.take N) 0 T a0).tmps) then
   Op1 P o (setAll (ops.toList.take N) 0 T a0).eval w fun v w' => R i v (n + cost i) w' ∧ C (n + cost i) w' ∧ S n w (n + cost i) w'
  else R i undef (n + cost i) w ∧ C (n + cost i) w ∧ S n w (n + cost i) w

theorem region_any (hB : InvB ops N a0.tmps.size) (hS : ∀ p v n w n' w', R p v n w → S n w n' w' → R p v n' w')
  (htot : sumCost cost (Array.replicate ops.size true) ops.size ≤ total) (hlm : ∀ i, i < N → total ≤ lim i + sumCost cost (msk ops i) ops.size)
  (hob : ∀ (i : Nat) (o : Oper), ops[i]? = some o → i < N → Ob P ops a0 R C S cost lim N i o)
  (hend : ∀ T w, (∃ n, n ≤ total ∧ C n w ∧ ∀ p, p < N → R p (T p) n w) → wpList P ops Q (ops.toList.drop N) (setAll (ops.toList.take N) 0 T a0) w) :
  ∀ (fuel : Nat) (listed : Array Bool) (a : Act) (w : World), listed.size = ops.size → fuel + cnt listed ops.size = ops.size →
   (∀ j, j < ops.size → listed.getD j false = true → ∀ p, p < ops.size → bef ops j p = true → listed.getD p false = true) →
   ((∃ T, (∀ j, N ≤ j → listed.getD j false = false) ∧ Fits ops a0 listed T a ∧ C (sumCost cost listed ops.size) w ∧ ∀ j, j < ops.size → listed.getD j false = true → R j (T j) (sumCost cost listed ops.size) w) ∨
    (∃ k, N ≤ k ∧ k ≤ ops.size ∧ (∀ j, j < ops.size → (listed.getD j false = true ↔ j < k)) ∧ wpList P ops Q (ops.toList.drop k) a w)) →
   wpAny P .any ops Q fuel listed a w := by
 -- the whole head is there: the two frames are one
 have whole : ∀ (listed : Array Bool) (T : Nat → Value) (a : Act), (∀ j, N ≤ j → listed.getD j false = false) → (∀ j, j < N → listed.getD j false = true) → Fits ops a0 listed T a → a = setAll (ops.toList.take N) 0 T a0 := by
  intro listed T a ht hh hF
  have h1 : a.defers = (setAll (ops.toList.take N) 0 T a0).defers := by rw [setAll_defers, hF.defers]
  have h2 : a.tmps = (setAll (ops.toList.take N) 0 T a0).tmps := by
   refine Array.ext_getElem? fun t => ?_
   rcases Nat.lt_or_ge t a0.tmps.size with hts | hts
   ·rw [setAll_get T t _ 0 a0 hts]
    cases hw : lastW t (ops.toList.take N) 0 with
    | some j =>
     obtain ⟨_, o', ho', hd⟩ := lastW_some _ _ hw
     simp only [Nat.sub_zero, List.getElem?_take] at ho'
     split at ho'
     ·rename_i hjN
      exact hF.set j o' t (by simpa using ho') (hh j hjN) hd
     ·cases ho'
    | none =>
     refine hF.rest t fun j o' hj hlj hd => ?_
     have hjN : j < N := by
      rcases Nat.lt_or_ge j N with h | h
      ·exact h
      ·rw [ht j h] at hlj; cases hlj
     exact lastW_none _ _ hw j o' (by rw [List.getElem?_take, if_pos hjN]; simpa using hj) hd
   ·rw [Array.getElem?_eq_none (by rw [hF.size]; exact hts), Array.getElem?_eq_none (by rw [setAll_size]; exact hts)]
  cases a; cases hb : setAll (ops.toList.take N) 0 T a0; simp_all
 -- nothing ready: all is listed
 have allListed : ∀ (listed : Array Bool), listed.size = ops.size → Region.ready .any ops listed = [] → ∀ j, j < ops.size → listed.getD j false = true := by
  intro listed hsz hr j
  induction j using Nat.strongRecOn with
  | _ j ih =>
   intro hj
   cases hlj : listed.getD j false with
   | true => rfl
   | false =>
    exfalso
    obtain ⟨o, ho⟩ : ∃ o, ops[j]? = some o := ⟨ops[j], Array.getElem?_eq_getElem hj⟩
    have : j ∈ Region.ready .any ops listed := mem_ready.2 ⟨by simpa [Array.getD, hsz, hj] using hlj, o, ho, fun e he hb => ih e.on (hB.back j o e ho he hb) (by have := hB.back j o e ho he hb; omega)⟩
    rw [hr] at this; cases this
 -- the end
 have fin : ∀ (listed : Array Bool) (a : Act) (w : World), (∀ j, j < ops.size → listed.getD j false = true) →
   ((∃ T, (∀ j, N ≤ j → listed.getD j false = false) ∧ Fits ops a0 listed T a ∧ C (sumCost cost listed ops.size) w ∧ ∀ j, j < ops.size → listed.getD j false = true → R j (T j) (sumCost cost listed ops.size) w) ∨
    (∃ k, N ≤ k ∧ k ≤ ops.size ∧ (∀ j, j < ops.size → (listed.getD j false = true ↔ j < k)) ∧ wpList P ops Q (ops.toList.drop k) a w)) → Q .normal a w := by
  intro listed a w hall h
  rcases h with ⟨T, ht, hF, hC, hR⟩ | ⟨k, hk1, hk2, hk3, hk4⟩
  ·have hN : N = ops.size := by
    rcases Nat.lt_or_ge N ops.size with h | h
    ·have h1 := ht N (Nat.le_refl _)
     rw [hall N h] at h1; cases h1
    ·have := hB.le; omega
   have ha := whole listed T a ht (fun j hj => hall j (by omega)) hF
   have := hend T w ⟨_, Nat.le_trans (sumCost_le _) htot, hC, fun p hp => hR p (by omega) (hall p (by omega))⟩
   rw [← ha, List.drop_eq_nil_of_le (by simp; omega)] at this
   exact this
  ·have : k = ops.size := by
    rcases Nat.lt_or_ge k ops.size with h | h
    ·have := (hk3 k h).1 (hall k h); omega
    ·omega
   rw [List.drop_eq_nil_of_le (by simp; omega)] at hk4
   exact hk4
 intro fuel
 induction fuel with
 | zero =>
  intro listed a w hsz hf hd h
  have hall := cnt_full ops.size (by omega : cnt listed ops.size = ops.size)
  refine ⟨?_, fin listed a w hall h⟩
  refine List.eq_nil_iff_forall_not_mem.2 fun i hi => ?_
  obtain ⟨h1, o, ho, _⟩ := mem_ready.1 hi
  have := hall i (Array.getElem?_eq_some_iff.1 ho).1
  rw [(getD_false h1).2] at this; cases this
 | succ fuel ih =>
  intro listed a w hsz hf hd h
  refine ⟨fun hr => fin listed a w (allListed listed hsz hr) h, fun i hi => ?_⟩
  obtain ⟨h1, o, ho, hafter⟩ := mem_ready.1 hi
  have hilt : i < ops.size := (Array.getElem?_eq_some_iff.1 ho).1
  have hset : ∀ j, (listed.setIfInBounds i true).getD j false = true ↔ (j = i ∨ listed.getD j false = true) := fun j => by
   by_cases hj : i = j
   ·subst hj; simp [Array.getD, hsz, hilt]
   ·rw [getD_set_ne false hj]; simp [Ne.symm hj]
  have hbef : ∀ p, p < ops.size → bef ops i p = true → listed.getD p false = true := fun p hp hb => by
   obtain ⟨e, he, hbi, hor⟩ := hB.clos i p o ho hp hb
   have h2 := hafter e he hbi
   rcases hor with rfl | hor
   ·exact h2
   ·exact hd e.on (by have := hB.back i o e ho he hbi; omega) h2 p hp hor
  have hsz' : (listed.setIfInBounds i true).size = ops.size := by simpa using hsz
  have hf' : fuel + cnt (listed.setIfInBounds i true) ops.size = ops.size := by
   have := sumCost_set (cost := fun _ => 1) h1 ops.size
   simp only [cnt, hilt, if_true] at this hf ⊢
   omega
  have hd' : ∀ j, j < ops.size → (listed.setIfInBounds i true).getD j false = true → ∀ p, p < ops.size → bef ops j p = true → (listed.setIfInBounds i true).getD p false = true := by
   intro j hj hl p hp hb
   rcases (hset j).1 hl with rfl | hl'
   ·exact (hset p).2 (.inr (hbef p hp hb))
   ·exact (hset p).2 (.inr (hd j hj hl' p hp hb))
  rcases h with ⟨T, ht, hF, hC, hR⟩ | ⟨k, hk1, hk2, hk3, hk4⟩
  ·rcases Nat.lt_or_ge i N with hiN | hiN
   ·-- a step of the head
    have hpN : ∀ p, bef ops i p = true → p < ops.size → listed.getD p false = true ∧ p < N := fun p hb hp => by
     have := hbef p hp hb
     refine ⟨this, ?_⟩
     rcases Nat.lt_or_ge p N with h | h
     ·exact h
     ·rw [ht p h] at this; cases this
    have hag := hF.agree hB ht ho hpN
    have hsum := sumCost_set (cost := cost) h1 ops.size
    simp only [hilt, if_true] at hsum
    have hlim : sumCost cost listed ops.size ≤ lim i := by
     have h5 := sumCost_disj (cost := cost) (listed := listed) (mask := msk ops i) ops.size fun j hj hl => by
      rw [msk_get ops i j hj]
      cases hji : j == i
      ·cases hbf : bef ops j i
       ·rfl
       ·have := hd j hj hl i hilt hbf
        rw [(getD_false h1).2] at this; cases this
      ·obtain rfl : j = i := by simpa using hji
       rw [(getD_false h1).2] at hl; cases hl
     have h6 := hlm i hiN
     omega
    have hO := hob i o ho hiN T w _ hC hlim fun p hp hb => hR p hp (hbef p hp hb)
    have next : ∀ v w', R i v (sumCost cost listed ops.size + cost i) w' ∧ C (sumCost cost listed ops.size + cost i) w' ∧ S (sumCost cost listed ops.size) w (sumCost cost listed ops.size + cost i) w' → wpAny P .any ops Q fuel (listed.setIfInBounds i true) (a.put o.dst v) w' := fun v w' ⟨q1, q2, q3⟩ =>
     ih _ _ _ hsz' hf' hd' (.inl ⟨fun j => if j = i then v else T j, fun j hj => by
       rw [getD_set_ne false (by omega)]; exact ht j hj, hF.put hB ho h1 v, by rw [hsum]; exact q2, fun j hj hl => by
       by_cases hji : j = i
       ·subst hji; rw [hsum]; simpa using q1
       ·simp only [hji, if_false]
        rw [hsum]; exact hS j _ _ _ _ _ (hR j hj (((hset j).1 hl).resolve_left hji)) q3⟩)
    unfold wpOp
    simp only [ho]
    rw [wanted_of_get (a := a) (b := setAll (ops.toList.take N) 0 T a0) o hag]
    split
    ·rename_i hw
     rw [if_pos hw] at hO
     refine .inl (Op1.wp (post := fun v w' => R i v (sumCost cost listed ops.size + cost i) w' ∧ C (sumCost cost listed ops.size + cost i) w' ∧ S (sumCost cost listed ops.size) w (sumCost cost listed ops.size + cost i) w') ?_ next)
     unfold Op1 at hO ⊢
     rw [execOp_congr o (Region.noSelect_spec hB.sel i o · · ho) (eval_of_get o hag)]
     exact hO
    ·rename_i hw
     rw [if_neg hw] at hO
     exact next undef w hO
   ·-- the tail begins
    have hall : ∀ j, j < i → listed.getD j false = true := fun j hj => hbef j (by omega) (hB.tail i j hiN hilt hj)
    have hiN' : i = N := by
     rcases Nat.lt_or_ge N i with h | h
     ·have h2 := ht N (Nat.le_refl _)
      rw [hall N h] at h2; cases h2
     ·omega
    subst hiN'
    have ha := whole listed T a ht hall hF
    have hw := hend T w ⟨_, Nat.le_trans (sumCost_le _) htot, hC, fun p hp => hR p (by omega) (hall p hp)⟩
    rw [← ha] at hw
    have hdr : ops.toList.drop i = o :: ops.toList.drop (i + 1) := by
     rw [List.drop_eq_getElem_cons (by simpa using hilt)]
     congr 1
     have := (Array.getElem?_eq_some_iff.1 ho).2
     simpa using this
    rw [hdr] at hw
    have hwop : wpOp P ops Q i (wpList P ops Q (ops.toList.drop (i + 1))) a w := by unfold wpOp; simp only [ho]; exact hw
    refine wpOp_mono (fun a' w' h' => ih _ _ _ hsz' hf' hd' (.inr ⟨i + 1, by omega, by omega, fun j hj => ?_, h'⟩)) hwop
    rw [hset j]
    constructor
    ·rintro (rfl | hl)
     ·omega
     ·rcases Nat.lt_or_ge j i with h | h
      ·omega
      ·rw [ht j h] at hl; cases hl
    ·intro hj'
     by_cases hji : j = i
     ·exact .inl hji
     ·exact .inr (hall j (by omega))
  ·-- a step of the tail
   have hik : i = k := by
    have hnl := (getD_false h1).2
    have h2 : ¬ i < k := fun hlt => by rw [(hk3 i hilt).2 hlt] at hnl; cases hnl
    rcases Nat.lt_or_ge k i with h | h
    ·have h3 := hbef k (by omega) (hB.tail i k (by omega) hilt h)
     have := (hk3 k (by omega)).1 h3; omega
    ·omega
   subst hik
   have hdr : ops.toList.drop i = o :: ops.toList.drop (i + 1) := by
    rw [List.drop_eq_getElem_cons (by simpa using hilt)]
    congr 1
    have := (Array.getElem?_eq_some_iff.1 ho).2
    simpa using this
   rw [hdr] at hk4
   have hwop : wpOp P ops Q i (wpList P ops Q (ops.toList.drop (i + 1))) a w := by unfold wpOp; simp only [ho]; exact hk4
   refine wpOp_mono (fun a' w' h' => ih _ _ _ hsz' hf' hd' (.inr ⟨i + 1, by omega, by omega, fun j hj => ?_, h'⟩)) hwop
   rw [hset j, hk3 j hj]
   omega

/-- what the forerunners have left -/
def AfterAll (R : Nat → Value → Nat → World → Prop) (T : Nat → Value) (n : Nat) (w : World) : List Edge → Prop
 | [] => True
 | e :: l => match Region.binds .any e with
  | true => R e.on (T e.on) n w ∧ AfterAll R T n w l
  | false => AfterAll R T n w l

theorem afterAll_of {R : Nat → Value → Nat → World → Prop} {T : Nat → Value} {n : Nat} {w : World} : ∀ (l : List Edge), (∀ e ∈ l, Region.binds .any e = true → R e.on (T e.on) n w) → AfterAll R T n w l
 | [], _ => trivial
 | e :: l, h => by
  have ih := afterAll_of l fun e' he' => h e' (List.mem_cons_of_mem _ he')
  unfold AfterAll
  cases hb : Region.binds .any e with
  | true => exact ⟨h e (List.mem_cons_self ..) hb, ih⟩
  | false => exact ih

/-- what is asked of operation i, put plainly -/
def Ob' (P : Program) (A : (Nat → Value) → Act) (R : Nat → Value → Nat → World → Prop) (C : Nat → World → Prop) (S : Nat → World → Nat → World → Prop) (cost lim : Nat → Nat) (i : Nat) (o : Oper) : Prop :=
 ∀ (T : Nat → Value) (w : World) (n : Nat), C n w → n ≤ lim i → AfterAll R T n w o.after.toList →
  match o.guard with
  | none => Op1 P o (A T).eval w fun v w' => R i v (n + cost i) w' ∧ C (n + cost i) w' ∧ S n w (n + cost i) w'
  | some (g, want) => (T g = .bool want → Op1 P o (A T).eval w fun v w' => R i v (n + cost i) w' ∧ C (n + cost i) w' ∧ S n w (n + cost i) w') ∧
    (T g ≠ .bool want → R i undef (n + cost i) w ∧ C (n + cost i) w ∧ S n w (n + cost i) w)

/-- what is asked of each operation of the head -/
def ObAll (P : Program) (A : (Nat → Value) → Act) (R : Nat → Value → Nat → World → Prop) (C : Nat → World → Prop) (S : Nat → World → Nat → World → Prop) (cost lim : Nat → Nat) : List Oper → Nat → Prop
 | [], _ => True
 | o :: l, k => Ob' P A R C S cost lim k o ∧ ObAll P A R C S cost lim l (k + 1)

theorem ObAll.get {A : (Nat → Value) → Act} : ∀ (l : List Oper) (k : Nat), ObAll P A R C S cost lim l k → ∀ (i : Nat) (o : Oper), l[i]? = some o → Ob' P A R C S cost lim (k + i) o
 | [], _, _, i, o, ho => by simp at ho
 | o' :: l, k, h, i, o, ho => by
  cases i with
  | zero => simp at ho; subst ho; exact h.1
  | succ i =>
   have := ObAll.get l (k + 1) h.2 i o (by simpa using ho)
   rwa [show k + (i + 1) = k + 1 + i by omega]

theorem ob_of {A : (Nat → Value) → Act} (hB : InvB ops N a0.tmps.size) (hE : edgeB ops = true) {i : Nat} {o : Oper} (ho : ops[i]? = some o) (hi : i < N) (hA : ∀ T, setAll (ops.toList.take N) 0 T a0 = A T) (h : Ob' P A R C S cost lim i o) : Ob P ops a0 R C S cost lim N i o := by
 intro T w n hC hn hp
 have hlt := (Array.getElem?_eq_some_iff.1 ho).1
 have hE' := hE
 simp only [edgeB, List.all_eq_true, List.mem_range] at hE'
 have hEi := hE' i hlt
 simp only [ho, Bool.and_eq_true] at hEi
 obtain ⟨he1, he2⟩ := hEi
 rw [Array.all_eq_true_iff_forall_mem] at he1
 have hAft : AfterAll R T n w o.after.toList := afterAll_of _ fun e he hb => by
  have hm : e ∈ o.after := by simpa using he
  have h1 := he1 e hm
  simp only [hb, Bool.not_true, Bool.false_or] at h1
  exact hp e.on (by have := hB.back i o e ho hm hb; omega) h1
 have h0 := h T w n hC hn hAft
 unfold Region.wanted
 cases hg : o.guard with
 | none =>
  simp only [hg] at h0
  rw [hA T]
  exact h0
 | some gw =>
  obtain ⟨g, want⟩ := gw
  simp only [hg] at h0 he2
  obtain ⟨hbg, hgs⟩ := hB.guard i o g want ho hg
  obtain ⟨og, hog⟩ : ∃ og, ops[g]? = some og := ⟨ops[g], Array.getElem?_eq_getElem hgs⟩
  simp only [hog, Option.bind_some] at he2
  obtain ⟨d, hd⟩ := Option.isSome_iff_exists.1 he2
  have hgi : g < i := by
   have : ∀ k, ∀ (i : Nat) (o : Oper), i < k → ops[i]? = some o → ∀ p, p < ops.size → bef ops i p = true → p < i := by
    intro k
    induction k with
    | zero => intro i o hk; omega
    | succ k ih =>
     intro i o hk hio p hps hb
     obtain ⟨e, he, hbi, hor⟩ := hB.clos i p o hio hps hb
     have h5 := hB.back i o e hio he hbi
     rcases hor with rfl | hor
     ·exact h5
     ·obtain ⟨o', ho'⟩ : ∃ o', ops[e.on]? = some o' := ⟨ops[e.on]'(by have := (Array.getElem?_eq_some_iff.1 hio).1; omega), Array.getElem?_eq_getElem _⟩
      have := ih e.on o' (by omega) ho' p hps hor
      omega
   exact this (i + 1) i o (by omega) ho g hgs hbg
  have hts : d < a0.tmps.size := hB.size g og d hog hd
  have hget : (setAll (ops.toList.take N) 0 T a0).tmps[d]? = some (T g) := by
   rw [setAll_get T d _ 0 a0 hts]
   cases hw : lastW d (ops.toList.take N) 0 with
   | some j =>
    obtain ⟨_, o', ho', hd'⟩ := lastW_some _ _ hw
    simp only [Nat.sub_zero, List.getElem?_take] at ho'
    split at ho'
    ·have hj : ops[j]? = some o' := by simpa using ho'
     have := hB.uniq j g o' og d hj hog hd' hd
     simp [this]
    ·cases ho'
   | none =>
    exfalso
    exact lastW_none _ _ hw g og (by rw [List.getElem?_take, if_pos (by omega)]; simpa using hog) hd
  have hy : yielded ops (setAll (ops.toList.take N) 0 T a0).tmps g = match T g with | .bool b => some b | _ => none := by
   unfold yielded
   simp only [hog, Option.bind_some, hd, hget]
   cases T g <;> rfl
  simp only [hy]
  by_cases hT : T g = .bool want
  ·simp only [hT]
   simp only [beq_self_eq_true, if_true]
   rw [hA T]
   exact h0.1 hT
  ·have hf : ((match T g with | .bool b => some b | _ => none) == some want) = false := by
    cases hv : T g <;> simp
    intro e
    exact hT (by rw [hv, e])
   simp only [hf]
   exact h0.2 hT
end

/-- A REGION THAT DRAWS ITS ORDER, BY AN INVARIANT. N: the operations of the head; the others wait for all before them. -/
theorem wp_region_lim {P : Program} {Q : Exit → Act → World → Prop} {id : Nat} {l : List Oper} {a0 : Act} {w : World} (N total : Nat) (R : Nat → Value → Nat → World → Prop) (C : Nat → World → Prop) (S : Nat → World → Nat → World → Prop) (cost lim : Nat → Nat)
  (hm : P.follows .mixedOrders = true) (hB : (invB l.toArray N a0.tmps.size && edgeB l.toArray) = true) (htot : sumCost cost (Array.replicate l.toArray.size true) l.toArray.size ≤ total) (hlm : limB l.toArray N total cost lim = true)
  (hS : ∀ p v n w n' w', R p v n w → S n w n' w' → R p v n' w') (hC : C 0 w.drew)
  (h : ∃ A : (Nat → Value) → Act, (∀ T, setAll (l.take N) 0 T a0 = A T) ∧ ObAll P A R C S cost lim (l.take N) 0 ∧
   ∀ T w', (∃ n, n ≤ total ∧ C n w' ∧ ∀ p, p < N → R p (T p) n w') → wpList P l.toArray Q (l.drop N) (A T) w') :
  (Code.region id l.toArray true).wp P Q a0 w := by
 obtain ⟨A, hA, hob, hend⟩ := h
 simp only [Bool.and_eq_true] at hB
 refine wp_region_any hm ?_
 have key := region_any (P := P) (Q := Q) (ops := l.toArray) (a0 := a0) (R := R) (C := C) (S := S) (cost := cost) (lim := lim) (total := total) (invB_spec hB.1) hS htot (limB_spec hlm)
  (fun i o ho hi => ob_of (invB_spec hB.1) hB.2 ho hi (fun T => by simpa using hA T) (by
   have := ObAll.get _ _ hob i o (by rw [List.getElem?_take, if_pos hi]; simpa using ho)
   simpa using this))
  (fun T w' hc => by
   have := hend T w' hc
   rw [← hA T] at this
   simpa using this)
  l.toArray.size (Array.replicate l.toArray.size false) a0 w.drew (by simp)
 have h0 : ∀ j, (Array.replicate l.toArray.size false).getD j false = false := fun j => getD_replicate_false _ _
 have hz : ∀ (c : Nat → Nat) k, sumCost c (Array.replicate l.toArray.size false) k = 0 := by
  intro c k
  induction k with
  | zero => rfl
  | succ k ih => simp only [sumCost, ih, h0]; rfl
 have hF : Fits l.toArray a0 (Array.replicate l.toArray.size false) (fun _ => undef) a0 := by
  refine ⟨rfl, rfl, ?_, fun t _ => rfl⟩
  intro j o d _ hl
  rw [h0] at hl
  cases hl
 refine key (by simp only [cnt, hz]; omega) ?_ (.inl ⟨fun _ => undef, fun j _ => h0 j, hF, by rw [hz]; exact hC, ?_⟩)
 ·intro j _ hl
  rw [h0] at hl
  cases hl
 ·intro j _ hl
  rw [h0] at hl
  cases hl
theorem wpAny_seq {P : Program} {ops : Array Oper} {Q : Exit → Act → World → Prop} (hback : ∀ (i : Nat) (o : Oper) e, ops[i]? = some o → e ∈ o.after → Region.binds .any e = true → e.on < i) :
  ∀ (fuel k : Nat) (listed : Array Bool) (a : Act) (w : World), listed.size = ops.size → fuel + k = ops.size → (∀ j, j < ops.size → (listed.getD j false = true ↔ j < k)) → wpAny P .any ops Q fuel listed a w → wpList P ops Q (ops.toList.drop k) a w
 | 0, k, listed, a, w, hsz, hf, hl, h => by
  rw [List.drop_eq_nil_of_le (by simp; omega)]
  exact h.2
 | fuel + 1, k, listed, a, w, hsz, hf, hl, h => by
  have hk : k < ops.size := by omega
  have ho : ops[k]? = some ops[k] := Array.getElem?_eq_getElem hk
  have hkf : listed.getD k true = false := by
   have : ¬ listed.getD k false = true := fun e => by have := (hl k hk).1 e; omega
   simpa [Array.getD, hsz, hk] using this
  have hr : k ∈ Region.ready .any ops listed := mem_ready.2 ⟨hkf, _, ho, fun e he hb => (hl e.on (by have := hback k _ e ho he hb; omega)).2 (hback k _ e ho he hb)⟩
  have h1 := h.2 k hr
  have hdr : ops.toList.drop k = ops[k] :: ops.toList.drop (k + 1) := by
   rw [List.drop_eq_getElem_cons (by simpa using hk)]
   simp
  rw [hdr]
  have h2 := wpOp_mono (fun a' w' h' => wpAny_seq hback fuel (k + 1) (listed.setIfInBounds k true) a' w' (by simpa using hsz) (by omega) (fun j hj => by
   by_cases hjk : k = j
   ·subst hjk; simp [Array.getD, hsz, hk]
   ·rw [getD_set_ne false hjk, hl j hj]; omega) h') h1
  unfold wpOp at h2
  simp only [ho] at h2
  exact h2

/-- A REGION IN THE ORDER OF ITS TEXT, BY THE SAME INVARIANT. N: the operations of the head; the others wait for all before them. -/
theorem wp_region_seq {P : Program} {Q : Exit → Act → World → Prop} {id : Nat} {l : List Oper} {a0 : Act} {w : World} (N total : Nat) (R : Nat → Value → Nat → World → Prop) (C : Nat → World → Prop) (S : Nat → World → Nat → World → Prop) (cost lim : Nat → Nat)
  (hm : P.follows .mixedOrders = true) (hB : (invB l.toArray N a0.tmps.size && edgeB l.toArray) = true) (htot : sumCost cost (Array.replicate l.toArray.size true) l.toArray.size ≤ total) (hlm : limB l.toArray N total cost lim = true)
  (hS : ∀ p v n w n' w', R p v n w → S n w n' w' → R p v n' w') (hC : C 0 w)
  (h : ∃ A : (Nat → Value) → Act, (∀ T, setAll (l.take N) 0 T a0 = A T) ∧ ObAll P A R C S cost lim (l.take N) 0 ∧
   ∀ T w', (∃ n, n ≤ total ∧ C n w' ∧ ∀ p, p < N → R p (T p) n w') → wpList P l.toArray Q (l.drop N) (A T) w') :
  (Code.region id l.toArray false).wp P Q a0 w := by
 obtain ⟨A, hA, hob, hend⟩ := h
 simp only [Bool.and_eq_true] at hB
 have key := region_any (P := P) (Q := Q) (ops := l.toArray) (a0 := a0) (R := R) (C := C) (S := S) (cost := cost) (lim := lim) (total := total) (invB_spec hB.1) hS htot (limB_spec hlm)
  (fun i o ho hi => ob_of (invB_spec hB.1) hB.2 ho hi (fun T => by simpa using hA T) (by
   have := ObAll.get _ _ hob i o (by rw [List.getElem?_take, if_pos hi]; simpa using ho)
   simpa using this))
  (fun T w' hc => by
   have := hend T w' hc
   rw [← hA T] at this
   simpa using this)
  l.toArray.size (Array.replicate l.toArray.size false) a0 w (by simp)
 have h0 : ∀ j, (Array.replicate l.toArray.size false).getD j false = false := fun j => getD_replicate_false _ _
 have hz : ∀ (c : Nat → Nat) k, sumCost c (Array.replicate l.toArray.size false) k = 0 := by
  intro c k
  induction k with
  | zero => rfl
  | succ k ih => simp only [sumCost, ih, h0]; rfl
 have hF : Fits l.toArray a0 (Array.replicate l.toArray.size false) (fun _ => undef) a0 := by
  refine ⟨rfl, rfl, ?_, fun t _ => rfl⟩
  intro j o d _ hl
  rw [h0] at hl
  cases hl
 refine wp_region_lit ?_
 have hfin : wpAny P .any l.toArray Q l.toArray.size (Array.replicate l.toArray.size false) a0 w → wpList P l.toArray Q l a0 w := fun h => by
  have := wpAny_seq (invB_spec hB.1).back l.toArray.size 0 _ a0 w (by simp) (by omega) (fun j _ => by rw [h0]; simp) h
  simpa using this
 refine hfin (key (by simp only [cnt, hz]; omega) ?_ (.inl ⟨fun _ => undef, fun j _ => h0 j, hF, by rw [hz]; exact hC, ?_⟩))
 ·intro j _ hl
  rw [h0] at hl
  cases hl
 ·intro j _ hl
  rw [h0] at hl
  cases hl
end Go.Proofs.Ytakjopbdkkcnlaa.Lm

namespace Go.Proofs.Ytakjopbdkkcnlaa
open Go.RowKit Go
set_option linter.unusedVariables false

/-- a slice of bytes that can be read, below block B -/
def Rb (B : Nat) (w : World) (v : Value) (L : List UInt8) : Prop := ∃ ad c, v = .slice ad L.length c ∧ RdB w ad L ∧ Src w ad L.length 1 (encBs L) ∧ L.length ≤ c ∧ c ≤ maxLen ∧ ∀ a, ad = some a → a.block < B
theorem RdB.below {w w' : World} {ad : Option Addr} {bs : List UInt8} {B : Nat} (h : RdB w ad bs) (hb : Below B w w') (hB : ∀ a, ad = some a → a.block < B) : RdB w' ad bs :=
 ⟨h.small, fun i hi => by
  obtain ⟨g, o, e, hg, hc⟩ := h.cell i hi
  exact ⟨g, o, e, Nat.lt_of_lt_of_le hg hb.size, (hb.cell (p := ⟨g, o + i, none⟩) (hB ⟨g, o, none⟩ e)).trans hc⟩⟩
theorem Src.below {w w' : World} {ad : Option Addr} {m size B : Nat} {news : List Value} (h : Src w ad m size news) (hb : Below B w w') (hB : ∀ a, ad = some a → a.block < B) : Src w' ad m size news :=
 ⟨h.1, fun j u hu => by
  obtain ⟨a, e, hlt, hc⟩ := h.2 j u hu
  have h2 : (a.add j).block = a.block := by unfold Addr.add; split <;> rfl
  exact ⟨a, e, Nat.lt_of_lt_of_le hlt hb.size, (hb.cell (p := a.add j) (by rw [h2]; exact hB a e)).trans hc⟩⟩
theorem Rb.below {w w' : World} {B : Nat} {v : Value} {L : List UInt8} (h : Rb B w v L) (hb : Below B w w') : Rb B w' v L := by
 obtain ⟨ad, c, rfl, h1, h2, h3, h4, h5⟩ := h
 exact ⟨ad, c, rfl, h1.below hb h5, h2.below hb h5, h3, h4, h5⟩
theorem Rb.mono {w : World} {B B' : Nat} {v : Value} {L : List UInt8} (h : Rb B w v L) (hB : B ≤ B') : Rb B' w v L := by
 obtain ⟨ad, c, rfl, h1, h2, h3, h4, h5⟩ := h
 exact ⟨ad, c, rfl, h1, h2, h3, h4, fun a e => Nat.lt_of_lt_of_le (h5 a e) hB⟩
theorem OwnB.rb {w : World} {B : Nat} {v : Value} {L : List UInt8} (h : OwnB w B v L) (hl : L.length ≤ 1000000) : Rb w.heap.size w v L := by
 obtain ⟨ad, c, rfl, hs, h1, h2⟩ := h.src
 refine ⟨ad, c, rfl, rdB_of_src hs (by omega), hs, h1, h2, fun a e => ?_⟩
 subst e
 exact own_lt h a.block rfl
theorem rb_arr {w : World} {g : Nat} {t : TypeId} {L : List UInt8} (h : w.heap[g]? = some (.cells (encBs L).toArray t (0, 0))) (hl : L.length ≤ 1000000) : Rb w.heap.size w (.slice (some ⟨g, 0, none⟩) L.length L.length) L := by
 have hlt := lt_of_block h
 have hs : Src w (some ⟨g, 0, none⟩) L.length 1 (encBs L) := by
  refine ⟨by simp [encBs], fun j u hu => ⟨_, rfl, hlt, ?_⟩⟩
  have hadd : (⟨g, 0, none⟩ : Addr).add j = ⟨g, j, none⟩ := by unfold Addr.add; split <;> simp_all
  rw [hadd, cell_of_row w g j _ _ _ h]
  simpa using hu
 refine ⟨_, _, rfl, rdB_of_src hs (by omega), hs, Nat.le_refl _, by unfold maxLen; omega, fun a e => ?_⟩
 injection e with e; subst e; exact hlt
def RbL (B : Nat) (w : World) : List Value → List (List UInt8) → Prop
 | [], [] => True
 | v :: vs, L :: Ls => Rb B w v L ∧ RbL B w vs Ls
 | _, _ => False
theorem RbL.below {w w' : World} {B : Nat} (hb : Below B w w') : ∀ {vs : List Value} {Ls : List (List UInt8)}, RbL B w vs Ls → RbL B w' vs Ls
 | [], [], _ => trivial
 | v :: vs, L :: Ls, h => ⟨h.1.below hb, RbL.below hb h.2⟩
 | [], _ :: _, h => h.elim
 | _ :: _, [], h => h.elim
theorem RbL.mono {w : World} {B B' : Nat} (hB : B ≤ B') : ∀ {vs : List Value} {Ls : List (List UInt8)}, RbL B w vs Ls → RbL B' w vs Ls
 | [], [], _ => trivial
 | v :: vs, L :: Ls, h => ⟨h.1.mono hB, RbL.mono hB h.2⟩
 | [], _ :: _, h => h.elim
 | _ :: _, [], h => h.elim
theorem RbL.len {w : World} {B : Nat} : ∀ {vs : List Value} {Ls : List (List UInt8)}, RbL B w vs Ls → vs.length = Ls.length
 | [], [], _ => rfl
 | v :: vs, L :: Ls, h => by simp [RbL.len h.2]
 | [], _ :: _, h => h.elim
 | _ :: _, [], h => h.elim
theorem RbL.get {w : World} {B : Nat} : ∀ {vs : List Value} {Ls : List (List UInt8)}, RbL B w vs Ls → ∀ (i : Nat) (v : Value) (L : List UInt8), vs[i]? = some v → Ls[i]? = some L → Rb B w v L
 | [], [], _, i, v, L, h, _ => by simp at h
 | v :: vs, L :: Ls, h, 0, v', L', h1, h2 => by simp at h1 h2; subst h1 h2; exact h.1
 | v :: vs, L :: Ls, h, i + 1, v', L', h1, h2 => RbL.get h.2 i v' L' (by simpa using h1) (by simpa using h2)
 | [], _ :: _, h, _, _, _, _, _ => h.elim
 | _ :: _, [], h, _, _, _, _, _ => h.elim

inductive Ds where
 | val (v : Value)
 | own (k : Nat) (L : List UInt8)
 | rd (L : List UInt8)
 | arr (k : Nat) (L : List UInt8)
 | arrs (k : Nat) (Ls : List (List UInt8))
 | gval (c : Bool) (v : Value)
 | any
/-- B: own rows lie from there on; u: the world at the region's start; v0: the row at its start; kp: short fresh rows stay; P: a block that stays -/
structure RC where
 B : Nat
 u : World
 v0 : Value
 kp : Bool
 P : Nat
structure RC.fine (c : RC) : Prop where
 le : c.B ≤ c.u.heap.size
 lt : c.P < c.u.heap.size
 ne : c.v0.ownBlock ≠ some c.P
def Ds.R (c : RC) : Ds → Value → Nat → World → Prop
 | .val x, v, _, _ => v = x
 | .own k L, v, n, w => k ≤ n ∧ (n ≤ k → OwnB w c.B v L ∧ Grew c.u w c.v0 v)
 | .rd L, v, _, _ => Rb c.B c.u v L
 | .arr k L, v, n, w => ∃ g, v = .slice (some ⟨g, 0, none⟩) L.length L.length ∧ (n ≤ k → w.heap[g]? = some (.cells (encBs L).toArray 5 (0, 0)))
 | .arrs k Ls, v, n, w => ∃ g vs, v = .slice (some ⟨g, 0, none⟩) Ls.length Ls.length ∧ (n ≤ k → w.heap[g]? = some (.cells vs.toArray 43 (0, 0)) ∧ RbL w.heap.size w vs Ls)
 | .gval b x, v, _, _ => (b = true → v = x) ∧ (b = false → v = undef)
 | .any, _, _, _ => True
def Ds.okB (kp : Bool) : Ds → Bool
 | .arr k L => k == 0 || (kp && decide (L.length ≤ 2))
 | .arrs k _ => k == 0
 | _ => true
def RC.C (c : RC) (n : Nat) (w : World) : Prop := Below c.B c.u w ∧ (n = 0 → Below c.u.heap.size c.u w) ∧ w.heap[c.P]? = c.u.heap[c.P]?
def RC.S (c : RC) (n : Nat) (w : World) (n' : Nat) (w' : World) : Prop :=
 n ≤ n' ∧ (n' ≤ n → Below w.heap.size w w') ∧ Below c.B w w' ∧ (c.kp = true → ∀ (g : Nat) (cs : Array Value), cs.size ≤ 2 → w.heap[g]? = some (.cells cs 5 (0, 0)) → w'.heap[g]? = some (.cells cs 5 (0, 0)))
theorem RC.start {c : RC} : c.C 0 c.u.drew := ⟨⟨rfl, rfl, rfl, Nat.le_refl _, fun _ _ => rfl⟩, fun _ => ⟨rfl, rfl, rfl, Nat.le_refl _, fun _ _ => rfl⟩, rfl⟩
theorem RC.start0 {c : RC} : c.C 0 c.u := ⟨⟨rfl, rfl, rfl, Nat.le_refl _, fun _ _ => rfl⟩, fun _ => ⟨rfl, rfl, rfl, Nat.le_refl _, fun _ _ => rfl⟩, rfl⟩
theorem RC.C.size {c : RC} {n : Nat} {w : World} (h : c.C n w) : c.u.heap.size ≤ w.heap.size := h.1.size
theorem rR {c : RC} {n : Nat} {w : World} : c.S n w n w := ⟨Nat.le_refl _, fun _ => Below.refl _ _, Below.refl _ _, fun _ _ _ _ h => h⟩
theorem RC.S.later {c : RC} (hB : c.fine) {n : Nat} {w w' : World} (hC : c.C n w) (h : Below w.heap.size w w') : c.S n w n w' :=
 ⟨Nat.le_refl _, fun _ => h, h.mono (Nat.le_trans hB.le hC.size), fun _ g cs _ hg => (h.block g (lt_of_block hg)).trans hg⟩
theorem RC.C.later {c : RC} (hB : c.fine) {n : Nat} {w w' : World} (hC : c.C n w) (h : Below w.heap.size w w') : c.C n w' :=
 ⟨hC.1.trans (h.mono (Nat.le_trans hB.le hC.size)), fun hn => (hC.2.1 hn).trans (h.mono hC.size), (h.block c.P (Nat.lt_of_lt_of_le hB.lt hC.size)).trans hC.2.2⟩
theorem Grew.same {w w' : World} (h : Below w.heap.size w w') (v : Value) : Grew w w' v v := ⟨⟨h.os, h.tape, h.output, h.size, fun i hi _ => h.block i hi⟩, .inl rfl⟩
theorem grew_fresh {u w : World} {v : Value} {ad : Option Addr} (h : Below u.heap.size u w) (hv : ∀ k, v.ownBlock = some k → u.heap.size ≤ k) : Grew u w (.slice none 0 0) v := by
 refine ⟨⟨h.os, h.tape, h.output, h.size, fun i hi _ => h.block i hi⟩, ?_⟩
 cases hb : v.ownBlock with
 | none => exact .inl rfl
 | some k => exact .inr ⟨k, rfl, hv k hb⟩
theorem Ds.keep {c : RC} (hB : c.fine) (d : Ds) (hok : d.okB c.kp = true) {v : Value} {n n' : Nat} {w w' : World} (h : d.R c v n w) (hs : c.S n w n' w') : d.R c v n' w' := by
 obtain ⟨s1, s2, s3, s4⟩ := hs
 cases d with
 | val x => exact h
 | gval b x => exact h
 | any => trivial
 | rd L => exact h
 | own k L =>
  refine ⟨Nat.le_trans h.1 s1, fun hk => ?_⟩
  have hb := s2 (by have := h.1; omega)
  obtain ⟨h1, h2⟩ := h.2 (by omega)
  exact ⟨own_later h1 hb, h2.trans (Grew.same hb v)⟩
 | arr k L =>
  obtain ⟨g, e, h1⟩ := h
  refine ⟨g, e, fun hk => ?_⟩
  have hg := h1 (by omega)
  by_cases hn : n' ≤ n
  ·exact ((s2 hn).block g (lt_of_block hg)).trans hg
  ·simp only [Ds.okB, Bool.or_eq_true, beq_iff_eq, Bool.and_eq_true, decide_eq_true_eq] at hok
   rcases hok with rfl | ⟨hkp, hl⟩
   ·omega
   ·exact s4 hkp g _ (by simpa [encBs] using hl) hg
 | arrs k Ls =>
  obtain ⟨g, vs, e, h1⟩ := h
  refine ⟨g, vs, e, fun hk => ?_⟩
  simp only [Ds.okB, beq_iff_eq] at hok
  subst hok
  have hb := s2 (by omega)
  obtain ⟨hg, hR⟩ := h1 (by omega)
  exact ⟨(hb.block g (lt_of_block hg)).trans hg, (hR.below hb).mono hb.size⟩
theorem ds_keep {c : RC} (hB : c.fine) (D : List Ds) (hok : D.all (Ds.okB c.kp) = true) : ∀ (p : Nat) (v : Value) (n : Nat) (w : World) (n' : Nat) (w' : World), (D.getD p .any).R c v n w → c.S n w n' w' → (D.getD p .any).R c v n' w' := by
 intro p v n w n' w' h hs
 refine Ds.keep hB _ ?_ h hs
 rw [List.all_eq_true] at hok
 rw [List.getD_eq_getElem?_getD]
 cases hp : D[p]? with
 | none => rfl
 | some d => exact hok d (List.mem_of_getElem? hp)

/-- one more of the chain has run -/
theorem RC.S.grow {c : RC} (hB : c.fine) {n : Nat} {w w' : World} {v v' : Value} {L : List UInt8} (hC : c.C n w) (hO : OwnB w c.B v L) (hG : Grew w w' v v') (hk : c.kp = false ∨ v.ownBlock = none ∨ 3 ≤ L.length) : c.S n w (n + 1) w' := by
 refine ⟨by omega, fun h => by omega, hG.below (Nat.le_trans hB.le hC.size) (own_base hO), fun hkp g cs hcs hg => ?_⟩
 refine (hG.g.block g (lt_of_block hg) ?_).trans hg
 intro e
 rcases hk with h | h | h
 ·rw [hkp] at h; cases h
 ·rw [h] at e; cases e
 ·rcases hO.2 with ⟨rfl, h0⟩ | ⟨g2, cap, cur, rfl, hb, hg2, hn, hm, hsz, ht⟩
  ·cases e
  ·obtain rfl : g = g2 := by simpa [Value.ownBlock] using e
   rw [hg] at hg2
   injection hg2 with hg2
   injection hg2 with hg2 _ _
   have h3 := congrArg List.length ht
   subst hg2
   simp [encBs] at h3
   omega
theorem chain_ok {c : RC} (hB : c.fine) {n k : Nat} {w w' : World} {v v' : Value} {L L' : List UInt8} (hC : c.C n w) (hn : n = k) (hO : OwnB w c.B v L) (hGo : Grew c.u w c.v0 v) (hO' : OwnB w' c.B v' L') (hG : Grew w w' v v')
  (hk : c.kp = false ∨ v.ownBlock = none ∨ 3 ≤ L.length) : Ds.R c (.own (k + 1) L') v' (n + 1) w' ∧ c.C (n + 1) w' ∧ c.S n w (n + 1) w' := by
 have hS := RC.S.grow hB hC hO hG hk
 refine ⟨⟨by omega, fun _ => ⟨hO', hGo.trans hG⟩⟩, ⟨hC.1.trans hS.2.2.1, fun h => by omega, ?_⟩, hS⟩
 refine (hG.g.block c.P (Nat.lt_of_lt_of_le hB.lt hC.size) ?_).trans hC.2.2
 intro e
 rcases hGo.o with h1 | ⟨j, h1, h2⟩
 ·exact hB.ne (by rw [← h1]; exact e.symm)
 ·rw [← e] at h1
  injection h1 with h1
  have := hB.lt
  omega
theorem own0 {c : RC} {n : Nat} {w : World} {L : List UInt8} (hC : c.C n w) (hn : n = 0) (hO : OwnB c.u c.B c.v0 L) : Ds.R c (.own 0 L) c.v0 n w :=
 ⟨by omega, fun _ => ⟨own_later hO (hC.2.1 hn), Grew.same (hC.2.1 hn) _⟩⟩
theorem fresh_ok {c : RC} (hB : c.fine) {n : Nat} {w w' : World} {v' : Value} {L : List UInt8} (hC : c.C n w) (hn : n = 0) (hv : c.v0 = .slice none 0 0) (hO : OwnB w' w.heap.size v' L) (hb : Below w.heap.size w w') :
  Ds.R c (.own 0 L) v' n w' ∧ c.C n w' ∧ c.S n w n w' := by
 have hs := hC.size
 refine ⟨⟨by omega, fun _ => ⟨own_weak hO (by have := hB.le; omega), ?_⟩⟩, hC.later hB hb, RC.S.later hB hC hb⟩
 rw [hv]
 exact grew_fresh (ad := none) ((hC.2.1 hn).trans (hb.mono hs)) fun k hk => Nat.le_trans hs (own_base hO k hk)
theorem put_ob {c : RC} (hB : c.fine) {n k : Nat} {w : World} {v : Value} {L : List UInt8} (hC : c.C n w) (hn : n = k) (hO : OwnB w c.B v L) (hGo : Grew c.u w c.v0 v) (hk : c.kp = false ∨ v.ownBlock = none ∨ 3 ≤ L.length)
  (X m : Nat) (hX : X < 18446744073709551616) (hm : m ≤ 8) (hl : L.length ≤ 1000000) :
  Calls Try.prog 94 #[v, .int .u64 X, .int .i64 m] w fun e w' => ∃ v', e = .returned v' ∧ Ds.R c (.own (k + 1) (L ++ be X m)) v' (n + 1) w' ∧ c.C (n + 1) w' ∧ c.S n w (n + 1) w' := by
 refine (put_any v L c.B X m w hO (Nat.le_trans hB.le hC.size) hX hm hl).mono ?_
 rintro e w' ⟨v', rfl, hO', hG⟩
 exact ⟨v', rfl, chain_ok hB hC hn hO hGo hO' hG hk⟩
theorem app_ob {c : RC} (hB : c.fine) {n k : Nat} {w : World} {v y : Value} {L M : List UInt8} {B' : Nat} {o : Oper} {ρ : Operand → Value} {s x : Operand} (ho : o.op = .call { callee := .builtin .append, args := #[s, x], argTypes := #[43, 43] })
  (hC : c.C n w) (hn : n = k) (hs : ρ s = v) (hO : OwnB w c.B v L) (hGo : Grew c.u w c.v0 v) (hk : c.kp = false ∨ v.ownBlock = none ∨ 3 ≤ L.length) (hx : ρ x = y) (hR : Rb B' w y M) (hl : L.length ≤ 1000000) (hm : M.length ≤ 1000000) :
  Op1 Try.prog o ρ w fun v' w' => Ds.R c (.own (k + 1) (L ++ M)) v' (n + 1) w' ∧ c.C (n + 1) w' ∧ c.S n w (n + 1) w' := by
 obtain ⟨ad, cc, rfl, h1, h2, h3, h4, h5⟩ := hR
 refine Op1.app byteE ho hs hO hx h2 (encBs_one M) (by unfold maxLen; omega) (by omega) (Nat.le_trans hB.le hC.size) ?_
 intro v' w' hO' hG
 refine chain_ok hB hC hn hO hGo ?_ hG hk
 show w'.ownsRow _ _ _ _ _ _
 rw [List.length_append, encBs, List.map_append]
 exact hO'
theorem arr_ok {c : RC} (hB : c.fine) {n k : Nat} {w : World} (L : List UInt8) (hC : c.C n w) (cs : Array Value) (hcs : cs = (encBs L).toArray) (m : Nat) (hm : m = L.length) :
  Ds.R c (.arr k L) (.slice (some ⟨w.heap.size, 0, none⟩) m m) n (w.alloc (.cells cs 5 (0, 0))) ∧ c.C n (w.alloc (.cells cs 5 (0, 0))) ∧ c.S n w n (w.alloc (.cells cs 5 (0, 0))) := by
 subst hcs hm
 have hb : Below w.heap.size w (w.alloc (.cells (encBs L).toArray 5 (0, 0))) := below_alloc (Below.refl _ _) _
 exact ⟨⟨_, rfl, fun _ => heap_alloc_new w _⟩, hC.later hB hb, RC.S.later hB hC hb⟩
theorem arrs_ok {c : RC} (hB : c.fine) {n : Nat} {w : World} (vs : List Value) (Ls : List (List UInt8)) (hC : c.C n w) (hR : RbL w.heap.size w vs Ls) (cs : Array Value) (hcs : cs = vs.toArray) (m : Nat) (hm : m = Ls.length) :
  Ds.R c (.arrs 0 Ls) (.slice (some ⟨w.heap.size, 0, none⟩) m m) n (w.alloc (.cells cs 43 (0, 0))) ∧ c.C n (w.alloc (.cells cs 43 (0, 0))) ∧ c.S n w n (w.alloc (.cells cs 43 (0, 0))) := by
 subst hcs hm
 have hb : Below w.heap.size w (w.alloc (.cells vs.toArray 43 (0, 0))) := below_alloc (Below.refl _ _) _
 exact ⟨⟨_, vs, rfl, fun _ => ⟨heap_alloc_new w _, (hR.below hb).mono hb.size⟩⟩, hC.later hB hb, RC.S.later hB hC hb⟩
/-- a call that leaves a known value and the old world -/
theorem ret_ob {c : RC} (hB : c.fine) {n : Nat} {w : World} {v : Value} {f : FuncId} {args : Array Value} (hC : c.C n w) (h : Calls Try.prog f args w (Ret v w)) :
  Calls Try.prog f args w fun e w' => ∃ v', e = .returned v' ∧ Ds.R c (.val v) v' n w' ∧ c.C n w' ∧ c.S n w n w' := by
 refine h.mono ?_
 rintro e w' ⟨rfl, hb⟩
 exact ⟨v, rfl, rfl, hC.later hB hb, RC.S.later hB hC hb⟩
theorem same_post {P : Program} {f : FuncId} {args : Array Value} {w : World} {v : Value} {q : Value → World → Prop} (h : Calls P f args w fun e w' => e = .returned v ∧ w = w') (hq : q v w) : Calls P f args w fun e w' => ∃ v', e = .returned v' ∧ q v' w' :=
 h.mono fun _ _ ⟨e, e2⟩ => ⟨v, e, e2 ▸ hq⟩
/-- a call that leaves a known value and the very world -/
theorem same_ob {c : RC} {n : Nat} {w : World} {v : Value} {f : FuncId} {args : Array Value} (hC : c.C n w) (h : Calls Try.prog f args w fun e w' => e = .returned v ∧ w = w') :
  Calls Try.prog f args w fun e w' => ∃ v', e = .returned v' ∧ Ds.R c (.val v) v' n w' ∧ c.C n w' ∧ c.S n w n w' := by
 refine h.mono ?_
 rintro e w' ⟨rfl, rfl⟩
 exact ⟨v, rfl, rfl, hC, rR⟩
theorem big_ob {c : RC} (hB : c.fine) {n : Nat} {w : World} (hC : c.C n w) (hn : n = 0) (hv : c.v0 = .slice none 0 0) (X m : Nat) (hX : X < 18446744073709551616) (hm : m ≤ 8) :
  Calls Try.prog 68 #[.int .u64 X, .int .i64 m] w fun e w' => ∃ v', e = .returned v' ∧ Ds.R c (.own 0 (be X m)) v' n w' ∧ c.C n w' ∧ c.S n w n w' := by
 refine (big_any X m w hX hm).mono ?_
 rintro e w' ⟨v', rfl, hO, hb⟩
 exact ⟨v', rfl, fresh_ok hB hC hn hv hO hb⟩
theorem Op1.gen {P : Program} {o : Oper} {ρ : Operand → Value} {w : World} {post : Value → World → Prop} (h : ∀ post' : Value → World → Prop, (∀ v w', post v w' → post' v w') → Op1 P o ρ w post') : Op1 P o ρ w post := h post fun _ _ h => h
theorem Op1.g {P : Program} {o : Oper} {ρ : Operand → Value} {w : World} {post : Value → World → Prop} (h : ∀ post' : Value → World → Prop, (∀ v w', post v w' → post' v w') → (match (execOp ρ o).run P w with
  | .ok (.value v) w' => post' v w'
  | .ok .skip w' => post' undef w'
  | .ok (.enter f args) w' => Calls P f args w' fun e w'' => ∃ v, e = .returned v ∧ post' v w''
  | _ => False)) : Op1 P o ρ w post := h post fun _ _ h => h
theorem calls_post {P : Program} {f : FuncId} {args : Array Value} {w : World} {p q : Value → World → Prop} (h : Calls P f args w fun e w' => ∃ v', e = .returned v' ∧ p v' w') (hq : ∀ v w', p v w' → q v w') : Calls P f args w fun e w' => ∃ v', e = .returned v' ∧ q v' w' :=
 h.mono fun _ _ ⟨v', e, h1⟩ => ⟨v', e, hq _ _ h1⟩
theorem Op1.load_row {P : Program} {o : Oper} {ρ : Operand → Value} {w : World} {post : Value → World → Prop} (ty : TypeId) (x : Operand) (ho : o.op = .load ty x)
  (g : Nat) (hx : ρ x = .pointer (some ⟨g, 0, none⟩)) (t : TypeId) (cs : Array Value) (fr : Nat × Nat) (d : TypeDesc) (hg : w.heap[g]? = some (.cells cs t fr))
  (hu : P.underlying ty = some d) (hd : (match d with | .struct _ | .array _ _ => true | _ => false) = true) (hi : (P.info? ty).map (·.size) = some cs.size)
  (h : post (.agg cs) w) : Op1 P o ρ w post := by
 unfold Op1 execOp
 simp only [ho, hx, Instr.loadAt, Instr.sureAddr, Sem.run_bind, Sem.run_pure, Result.andThen_ok, run_loadVar_row w g t ty cs fr d hg hu hd hi]
 exact h
/-- the state of a walk in a function that has its packet in a block -/
structure FS (B : Nat) (w1 : World) (P0 : Nat) (x : PV) (pay : List UInt8) (w : World) : Prop where
 bl : Below B w1 w
 sz : B ≤ w.heap.size
 p : PBlk w P0 x
 lt : P0 < B
 rb : Rb B w x.pay pay
theorem FS.below {B : Nat} {w1 : World} {P0 : Nat} {x : PV} {pay : List UInt8} {w w' : World} (h : FS B w1 P0 x pay w) (hb : Below B w w') : FS B w1 P0 x pay w' :=
 ⟨h.bl.trans hb, Nat.le_trans h.sz hb.size, Blk.below h.p hb h.lt, h.lt, h.rb.below hb⟩
theorem FS.later {B : Nat} {w1 : World} {P0 : Nat} {x : PV} {pay : List UInt8} {w w' : World} (h : FS B w1 P0 x pay w) (hb : Below w.heap.size w w') : FS B w1 P0 x pay w' := h.below (hb.mono h.sz)
theorem FS.start {w : World} {x : PV} {pay : List UInt8} (hr : Rb w.heap.size w x.pay pay) : FS (w.alloc (.cells x.cells 45 (0, 0))).heap.size (w.alloc (.cells x.cells 45 (0, 0))) w.heap.size x pay (w.alloc (.cells x.cells 45 (0, 0))) :=
 ⟨Below.refl _ _, Nat.le_refl _, Blk.new w _ _, by simp, (hr.below (below_alloc (Below.refl _ _) _)).mono (by simp)⟩
theorem FS.fine {B : Nat} {w1 : World} {P0 : Nat} {x : PV} {pay : List UInt8} {w : World} (h : FS B w1 P0 x pay w) {v0 : Value} {kp : Bool} (hv : ∀ k, v0.ownBlock = some k → B ≤ k) : RC.fine ⟨B, w, v0, kp, P0⟩ :=
 ⟨h.sz, Blk.lt h.p, fun e => by have := hv P0 e; have := h.lt; simp only at *; omega⟩
theorem u8_nat (k : Nat) : Value.int .u8 (IntKind.u8.wrap (k : Int)) = encB (UInt8.ofNat k) := by
 unfold encB
 refine congrArg (Value.int .u8) ?_
 rw [UInt8.toNat_ofNat', IntKind.wrap_u8]
 omega
end Go.Proofs.Ytakjopbdkkcnlaa

namespace Go.Proofs.Ytakjopbdkkcnlaa
open Go.RowKit Go
set_option linter.unusedVariables false

structure NP where
 s1 : Bool
 h1 : Nat
 l1 : Nat
 s2 : Bool
 h2 : Nat
 l2 : Nat
 hops : Nat
 proto : Nat
 fp : Nat
 tp : Nat
 syn : Bool
 fin : Bool
 rst : Bool
 has : Bool
 seq : Nat
 ack : Nat
 reply : Bool
 id : Nat
def NP.pv (x : NP) (v : Value) : PV := ⟨x.s1, x.h1, x.l1, x.s2, x.h2, x.l2, x.hops, x.proto, x.fp, x.tp, x.syn, x.fin, x.rst, x.has, x.seq, x.ack, x.reply, x.id, v⟩
structure NP.fit (x : NP) : Prop where
 h1 : x.h1 < 18446744073709551616
 l1 : x.l1 < 18446744073709551616
 h2 : x.h2 < 18446744073709551616
 l2 : x.l2 < 18446744073709551616
 hops : x.hops ≤ 255
 proto : x.proto = 1 ∨ x.proto = 6 ∨ x.proto = 17
 fp : x.fp ≤ 65535
 tp : x.tp ≤ 65535
 seq : x.seq ≤ 4294967295
 ack : x.ack ≤ 4294967295
 id : x.id ≤ 65535
 six : x.s1 = x.s2

def addrB (six : Bool) (hi lo : Nat) : List UInt8 := if six = true then be hi 8 ++ be lo 8 else be lo 4
theorem addrB_len (six : Bool) (hi lo : Nat) : (addrB six hi lo).length = if six = true then 16 else 4 := by
 unfold addrB; split <;> simp [be_len]
def flagN (x : NP) : Nat := (if x.fin = true then 1 else 0) + (if x.syn = true then 2 else 0) + (if x.rst = true then 4 else 0) + (if x.has = true then 16 else 0)
def kindN (x : NP) : Nat := if x.s1 = true then (if x.reply = true then 129 else 128) else if x.reply = true then 0 else 8
def codeN (x : NP) : Nat := if x.s1 = true ∧ x.proto = 1 then 58 else x.proto
def b8 (n : Nat) : UInt8 := UInt8.ofNat n
def partB (x : NP) (pay : List UInt8) : List UInt8 :=
 if x.proto = 6 then be x.fp 2 ++ be x.tp 2 ++ be x.seq 4 ++ be x.ack 4 ++ [80, b8 (flagN x), 255, 255, 0, 0, 0, 0] ++ pay
 else if x.proto = 17 then be x.fp 2 ++ be x.tp 2 ++ be (8 + pay.length) 2 ++ [0, 0] ++ pay
 else [b8 (kindN x), 0, 0, 0] ++ be x.id 2 ++ be x.seq 2 ++ pay
def leastN (p : Nat) : Nat := if p = 6 then 20 else 8
theorem partB_len (x : NP) (pay : List UInt8) : (partB x pay).length = leastN x.proto + pay.length := by
 unfold partB leastN; (repeat' split) <;> simp [be_len] <;> omega
def sumAtN (p : Nat) : Nat := if p = 6 then 16 else if p = 17 then 6 else 2
def sumN (bs : List UInt8) : Nat := 65535 - foldSum (sumB bs true)
theorem sumN_le (bs : List UInt8) : sumN bs ≤ 65535 := by unfold sumN; omega
def aheadB (x : NP) (n : Nat) : List UInt8 :=
 if x.s1 = true then addrB x.s1 x.h1 x.l1 ++ addrB x.s2 x.h2 x.l2 ++ be n 4 ++ [0, 0, 0, b8 (codeN x)]
 else if x.proto = 1 then [] else addrB x.s1 x.h1 x.l1 ++ addrB x.s2 x.h2 x.l2 ++ [0, b8 x.proto] ++ be n 2
theorem aheadB_len (x : NP) (n : Nat) : (aheadB x n).length ≤ 40 := by
 unfold aheadB; (repeat' split) <;> simp [be_len, addrB_len] <;> (repeat' split) <;> omega
def partSumN (x : NP) (part : List UInt8) : Nat := if x.proto = 17 ∧ sumN (aheadB x part.length ++ part) = 0 then 65535 else sumN (aheadB x part.length ++ part)
theorem partSumN_le (x : NP) (part : List UInt8) : partSumN x part ≤ 65535 := by
 unfold partSumN; split
 ·omega
 ·exact sumN_le _
def setSum (L : List UInt8) (i n : Nat) : List UInt8 := (L.set i (b8 (n / 256))).set (i + 1) (b8 n)
theorem setSum_len (L : List UInt8) (i n : Nat) : (setSum L i n).length = L.length := by simp [setSum]
def headB (x : NP) (n : Nat) : List UInt8 := [69, 0] ++ be (20 + n) 2 ++ [0, 0, 0, 0, b8 x.hops, b8 x.proto, 0, 0] ++ addrB x.s1 x.h1 x.l1 ++ addrB x.s2 x.h2 x.l2
def bodyB (x : NP) (pay : List UInt8) : List UInt8 := setSum (partB x pay) (sumAtN x.proto) (partSumN x (partB x pay))
theorem bodyB_len (x : NP) (pay : List UInt8) : (bodyB x pay).length = leastN x.proto + pay.length := by rw [bodyB, setSum_len, partB_len]
def pktB (x : NP) (pay : List UInt8) : List UInt8 :=
 if x.s1 = true then [96, 0, 0, 0] ++ be (bodyB x pay).length 2 ++ [b8 (codeN x), b8 x.hops] ++ addrB x.s1 x.h1 x.l1 ++ addrB x.s2 x.h2 x.l2 ++ bodyB x pay
 else setSum (headB x (bodyB x pay).length) 10 (sumN (headB x (bodyB x pay).length)) ++ bodyB x pay
theorem headB_len (x : NP) (n : Nat) : 12 ≤ (headB x n).length ∧ (headB x n).length ≤ 44 := by
 simp [headB, be_len, addrB_len]; (repeat' split) <;> omega
/-- the two bytes of a sum, laid over a row -/
theorem setSum_splice (L : List UInt8) (i n : Nat) (h : i + 2 ≤ L.length) (hn : n ≤ 65535) : L.take i ++ (be n 2 ++ L.drop (i + 2)) = setSum L i n := by
 have hb : be n 2 = [b8 (n / 256), b8 n] := by simp [be, b8]
 rw [hb]
 unfold setSum
 obtain ⟨A, B, rfl, hA⟩ : ∃ A B, L = A ++ B ∧ A.length = i := ⟨L.take i, L.drop i, (List.take_append_drop i L).symm, by simp; omega⟩
 subst hA
 match B, h with
 | a :: b :: B, _ => simp
 | [a], h => simp at h
 | [], h => simp at h; omega
end Go.Proofs.Ytakjopbdkkcnlaa

namespace Go.Proofs.Ytakjopbdkkcnlaa
open Go.RowKit Go
set_option linter.unusedVariables false

theorem OwnB.slice1 {w : World} {B : Nat} {v : Value} {L : List UInt8} (h : OwnB w B v L) (hl : 0 < L.length) : ∃ g c, v = .slice (some ⟨g, 0, none⟩) L.length c ∧ B ≤ g ∧ g < w.heap.size ∧ L.length ≤ c ∧ c ≤ maxLen := by
 rcases h.2 with ⟨rfl, h0⟩ | ⟨g, cap, cur, rfl, hb, hg, hc, hm, hs, ht⟩
 ·omega
 ·exact ⟨g, cap, rfl, hb, lt_of_block hg, hc, hm⟩
theorem OwnB.set {w : World} {B g c : Nat} {L : List UInt8} (h : OwnB w B (.slice (some ⟨g, 0, none⟩) L.length c) L) (i : Nat) (hi : i < L.length) (b : UInt8) :
  OwnB (w.setCell ⟨g, i, none⟩ (encB b)) B (.slice (some ⟨g, 0, none⟩) L.length c) (L.set i b) := by
 rcases h.2 with ⟨hv, _⟩ | ⟨g2, c2, cur, hv, hb, hg, hc, hm, hs, ht⟩
 ·cases hv
 ·simp at hv
  obtain ⟨rfl, rfl⟩ := hv
  refine ⟨by simp [encBs], .inr ⟨g, c, cur.setIfInBounds i (encB b), by simp, hb, heap_setCell_same w g i cur _ _ hg, by simpa using hc, hm, by simpa using hs, ?_⟩⟩
  rw [Array.toList_setIfInBounds, List.take_set, List.length_set, ht]
  simp [encBs, List.map_set]
theorem OwnB.frozen {w : World} {B g c n : Nat} {L : List UInt8} (h : OwnB w B (.slice (some ⟨g, 0, none⟩) n c) L) (i : Nat) : w.frozen? ⟨g, i, none⟩ = false := by
 rcases h.2 with ⟨hv, _⟩ | ⟨g2, c2, cur, hv, hb, hg, hc, hm, hs, ht⟩
 ·cases hv
 ·simp at hv
  obtain ⟨rfl, _⟩ := hv
  exact frozen_of_row w g i cur _ hg
theorem OwnB.get {w : World} {B g c : Nat} {L : List UInt8} (h : OwnB w B (.slice (some ⟨g, 0, none⟩) L.length c) L) (i : Nat) (hi : i < L.length) : w.cell? ⟨g, i, none⟩ = some (encB (L.getD i 0)) := by
 obtain ⟨ad, c2, e, hs, -⟩ := own_form h
 simp at e
 obtain ⟨rfl, rfl⟩ := e
 obtain ⟨a, e, _, hc⟩ := hs.2 i (encB (L.getD i 0)) (by simp [encBs, List.getD, hi])
 simp at e
 subst e
 have hadd : (⟨g, 0, none⟩ : Addr).add i = ⟨g, i, none⟩ := by unfold Addr.add; split <;> simp_all
 rwa [hadd] at hc
theorem OwnB.weak {w : World} {B B' : Nat} {v : Value} {L : List UInt8} (h : OwnB w B v L) (hB : B' ≤ B) : OwnB w B' v L := own_weak h hB
theorem sumN_int (bs : List UInt8) : (65535 - (foldSum (sumB bs true) : Int)) = ((sumN bs : Nat) : Int) := by
 have := foldSum_le (sumB bs true)
 unfold sumN
 omega
theorem sum_rb {B : Nat} {w : World} {v : Value} {L : List UInt8} (h : Rb B w v L) : Calls Try.prog 26 #[v] w fun e w' => e = .returned (.int .i64 ((sumN L : Nat) : Int)) ∧ w = w' := by
 obtain ⟨ad, c, rfl, h1, -⟩ := h
 rw [← sumN_int]
 exact sum_any ad c L w h1
theorem checkSum_rb {B : Nat} {w : World} {v : Value} {L : List UInt8} (h : Rb B w v L) : Calls Try.prog 27 #[v] w fun e w' => e = .returned (.int .i64 ((sumN L : Nat) : Int)) ∧ w = w' := by
 obtain ⟨ad, c, rfl, h1, -⟩ := h
 rw [← sumN_int]
 exact checkSumOf_any ad c L w h1
theorem b8_hi (n : Nat) : Value.int .u8 (IntKind.u8.wrap ((n : Int) / 256)) = encB (b8 (n / 256)) := by
 rw [show ((n : Int) / 256) = ((n / 256 : Nat) : Int) by omega]
 exact u8_nat _
end Go.Proofs.Ytakjopbdkkcnlaa
