/-
  The greedy blocks of a span, plain: at each place the longest block that begins there and fits; never more blocks than the prefixes of which the spans were made.
  Addresses as numbers: what span and the reference's wide numbers do, said of one number.
  The address behind another one: span.Next.
  Rows of structs, whatever their element: how they lie, what a call owns of them, how they are read.
  What stays when blocks of some types alone change: rows that can be read, of a type that is not among them.
  What stays while the stream moves on, and while cells of a block are set.
  Flows: view.FlowFault and the reference's FlowFault are the same function; Back and BackOf.
  The sum of bytes: filter.Sum and the reference's CheckSumOf are the same function of the bytes.
-/
import Derived.Test.YteccghdegckjhaaGreatDoorTD5
import Derived.Test.YteccghdegckjhaaGreatDoorTD4
import Derived.Laws.Externs
import Derived.Sort.Grow
import Derived.Test.YteccghdegckjhaaGreatDoorTD1
set_option linter.unusedVariables false
namespace Go.Proofs.YteccghdegckjhaaGreatDoor
open Go
set_option linter.unusedVariables false
structure GB (L x y n : Nat) : Prop where
  le : n ≤ L
  dvd : 2 ^ (L - n) ∣ x
  fits : x + (2 ^ (L - n) - 1) ≤ y
  fil : fil x (L - n) = x + (2 ^ (L - n) - 1)
def spB (L : Nat) (c : Nat × Nat) : Sp := (c.1, c.1 + (2 ^ (L - c.2) - 1))
structure BlksOK (L x y : Nat) (l : List (Nat × Nat)) : Prop where
  each : ∀ c ∈ l, x ≤ c.1 ∧ c.1 ≤ y ∧ GB L c.1 y c.2
  rise : l.Pairwise (fun c d => c.1 + 2 ^ (L - c.2) ≤ d.1)
  mem : ∀ t, InS (l.map (spB L)) t ↔ x ≤ t ∧ t ≤ y
/-- how many bits the addresses of a number's family have -/
def LN (N : Nat) : Nat := if 2 ^ 128 ≤ N then 128 else 32
/-- a span of a prefix: a first number and how many bits are open behind it -/
structure PfxSp (p : Sp) (j : Nat) : Prop where
  le : j ≤ LN p.1
  dvd : 2 ^ j ∣ p.1
  snd : p.2 = p.1 + (2 ^ j - 1)
end Go.Proofs.YteccghdegckjhaaGreatDoor

namespace Go.Proofs.YteccghdegckjhaaGreatDoor
open Go.RowKit Go
set_option linter.unusedVariables false

def sixN (N : Nat) : Bool := decide (2 ^ 128 ≤ N)
def hiN (N : Nat) : Nat := N / 2 ^ 64 % 2 ^ 64
def loN (N : Nat) : Nat := N % 2 ^ 64
/-- a number that an address has -/
def VN (N : Nat) : Prop := N < 2 ^ 32 ∨ (2 ^ 128 ≤ N ∧ N < 2 ^ 129)
theorem p128 : (2 : Nat) ^ 128 = 2 ^ 64 * 2 ^ 64 := by decide
theorem p129 : (2 : Nat) ^ 129 = 2 ^ 64 * 2 ^ 64 * 2 := by decide
theorem VN.cases {N : Nat} (h : VN N) : (sixN N = false ∧ hiN N = 0 ∧ loN N = N ∧ N < 2 ^ 32) ∨ (sixN N = true ∧ N = 2 ^ 128 + hiN N * 2 ^ 64 + loN N ∧ hiN N < 2 ^ 64 ∧ loN N < 2 ^ 64) := by
  have p := p128
  have q := p129
  have r : (2 : Nat) ^ 64 = 2 ^ 32 * 2 ^ 32 := by decide
  have r0 : 0 < (2 : Nat) ^ 32 := by decide
  have r1 : (1 : Nat) < 2 ^ 32 := by decide
  unfold VN at h
  unfold sixN hiN loN
  generalize (2 : Nat) ^ 128 = A at *
  generalize (2 : Nat) ^ 129 = B at *
  generalize (2 : Nat) ^ 64 = C at *
  generalize (2 : Nat) ^ 32 = D at *
  have hC : 0 < C := by rw [r]; exact Nat.mul_pos r0 r0
  have hDC : D < C := by rw [r]; exact Nat.lt_of_le_of_lt (Nat.le_of_eq (Nat.mul_one D).symm) (Nat.mul_lt_mul_of_pos_left r1 r0)
  have hCA : C ≤ A := by rw [p]; exact Nat.le_mul_of_pos_left _ hC
  rcases h with h | ⟨h1, h2⟩
  · left
    refine ⟨decide_eq_false (by omega), ?_, Nat.mod_eq_of_lt (by omega), h⟩
    rw [Nat.div_eq_of_lt (by omega), Nat.zero_mod]
  · right
    obtain ⟨v, rfl⟩ : ∃ v, N = A + v := ⟨N - A, by omega⟩
    have hv : v < C * C := by omega
    have e1 : (A + v) / C = C + v / C := by rw [p, Nat.add_comm, Nat.add_mul_div_left _ _ hC, Nat.add_comm]
    have e2 : v / C < C := Nat.div_lt_of_lt_mul hv
    have e3 : (C + v / C) % C = v / C := by rw [Nat.add_mod_left, Nat.mod_eq_of_lt e2]
    have e4 : (A + v) % C = v % C := by rw [p, Nat.add_comm, Nat.add_mul_mod_self_left]
    refine ⟨decide_eq_true (by omega), ?_, Nat.mod_lt _ hC, Nat.mod_lt _ hC⟩
    rw [e1, e3, e4]
    have := Nat.div_add_mod v C
    rw [Nat.mul_comm] at this
    omega
theorem num_aN {N : Nat} (h : VN N) : numA (sixN N) (hiN N) (loN N) = N := by
  unfold numA
  rcases h.cases with ⟨a, b, c, _⟩ | ⟨a, b, _⟩
  · rw [a, b, c]; simp
  · rw [a, if_pos rfl, Nat.one_mul]; exact b.symm
theorem ok_aN {N : Nat} (h : VN N) : AOK (sixN N) (hiN N) (loN N) := by
  rcases h.cases with ⟨a, b, c, d⟩ | ⟨a, _, c, d⟩
  · rw [a, b, c]; exact ⟨by decide, Nat.lt_trans d (by decide), fun _ => ⟨rfl, d⟩⟩
  · rw [a]; exact ⟨c, d, fun h => by cases h⟩
theorem hiN_u (N : Nat) : U64N (hiN N) := Nat.mod_lt _ (by decide)
theorem loN_u (N : Nat) : U64N (loN N) := Nat.mod_lt _ (by decide)
theorem aN_num {six : Bool} {hi lo : Nat} (h : AOK six hi lo) : VN (numA six hi lo) ∧ sixN (numA six hi lo) = six ∧ hiN (numA six hi lo) = hi ∧ loN (numA six hi lo) = lo := by
  obtain ⟨h1, h2, h3⟩ := h
  have key : ∀ A C : Nat, A = C * C → 0 < C → hi < C → lo < C → (A + hi * C + lo) / C % C = hi ∧ (A + hi * C + lo) % C = lo := by
    intro A C e hC a b
    subst e
    have e1 : C * C + hi * C + lo = lo + C * (C + hi) := by rw [Nat.mul_add, Nat.mul_comm hi C]; omega
    rw [e1, Nat.add_mul_div_left _ _ hC, Nat.add_mul_mod_self_left, Nat.div_eq_of_lt b, Nat.zero_add, Nat.mod_eq_of_lt b]
    exact ⟨by rw [Nat.add_mod_left, Nat.mod_eq_of_lt a], rfl⟩
  cases six
  · obtain ⟨rfl, hlo⟩ := h3 rfl
    have e : numA false 0 lo = lo := by unfold numA; simp
    rw [e]
    have hV : VN lo := .inl hlo
    refine ⟨hV, ?_⟩
    rcases hV.cases with ⟨a, b, c, _⟩ | ⟨_, b, _⟩
    · exact ⟨a, b, c⟩
    · exfalso
      have : (2 : Nat) ^ 32 ≤ 2 ^ 128 := by decide
      omega
  · have e : numA true hi lo = 2 ^ 128 + hi * 2 ^ 64 + lo := by unfold numA; rw [if_pos rfl, Nat.one_mul]
    have k := key (2 ^ 128) (2 ^ 64) p128 (by decide) h1 h2
    have q : hi * 2 ^ 64 + lo < 2 ^ 128 := by
      rw [p128]
      have := Nat.mul_le_mul_right (2 ^ 64) (Nat.succ_le_of_lt h1)
      rw [Nat.succ_eq_add_one, Nat.add_mul, Nat.one_mul] at this
      omega
    rw [e]
    refine ⟨.inr ⟨by omega, ?_⟩, decide_eq_true (by omega), k.1, k.2⟩
    have : (2 : Nat) ^ 129 = 2 ^ 128 + 2 ^ 128 := by decide
    omega
theorem LN_six (N : Nat) : LN N = lenN (sixN N) := by
  unfold LN lenN sixN
  by_cases h : 2 ^ 128 ≤ N
  · rw [if_pos h, decide_eq_true h, if_pos rfl]
  · rw [if_neg h, decide_eq_false h, if_neg (by decide)]
theorem off_mod (T x k : Nat) (hk : k ≤ 128) : (T * 2 ^ 128 + x) % 2 ^ k = x % 2 ^ k := by
  obtain ⟨j, hj⟩ : ∃ j, 128 = k + j := ⟨128 - k, by omega⟩
  rw [hj, Nat.pow_add, ← Nat.mul_assoc, Nat.mul_comm T, Nat.mul_assoc, Nat.mul_add_mod]
theorem num_clr (six : Bool) (hi lo k : Nat) (hk : k ≤ 128) : clr (numA six hi lo) k = (if six = true then 1 else 0) * 2 ^ 128 + clr (xA hi lo) k := by
  rw [numA_x]
  unfold clr
  rw [off_mod _ _ _ hk]
  have := Nat.mod_le (xA hi lo) (2 ^ k)
  omega
theorem num_fil (six : Bool) (hi lo k : Nat) (hk : k ≤ 128) : fil (numA six hi lo) k = (if six = true then 1 else 0) * 2 ^ 128 + fil (xA hi lo) k := by
  rw [numA_x]
  unfold fil
  rw [off_mod _ _ _ hk]
  have := Nat.mod_le (xA hi lo) (2 ^ k)
  omega
theorem mask_num {six : Bool} {hi lo n : Nat} (h : AOK six hi lo) : numA six (mHi six hi n) (mLo six lo n) = clr (numA six hi lo) (lenN six - n) := by
  have := lenN_le six
  rw [num_clr _ _ _ _ (by omega), numA_x, mask_x _ _ _ _ h.2.1]
theorem fill_num {six : Bool} {hi lo n : Nat} (h : AOK six hi lo) : numA six (fHi six hi n) (fLo six lo n) = fil (numA six hi lo) (lenN six - n) := by
  have := lenN_le six
  rw [num_fil _ _ _ _ (by omega), numA_x, fill_x _ _ _ _ h.2.1]
theorem fill_aok {six : Bool} {hi lo n : Nat} (h : AOK six hi lo) (hn : n ≤ lenN six) : AOK six (fHi six hi n) (fLo six lo n) := by
  have p := mask_pok h hn
  have q := p.last
  unfold fHi fLo at q ⊢
  rw [p.2.2.1, p.2.2.2] at q
  exact q
/-- the cells of an address that has this number -/
def aN (N : Nat) : Array Value := #[.bool (sixN N), .int .u64 ((hiN N : Nat) : Int), .int .u64 ((loN N : Nat) : Int)]
theorem aN_eq {six : Bool} {hi lo : Nat} (h : AOK six hi lo) : aN (numA six hi lo) = #[.bool six, .int .u64 (hi : Int), .int .u64 (lo : Int)] := by
  obtain ⟨_, a, b, c⟩ := aN_num h
  unfold aN
  rw [a, b, c]
theorem aN_inj {M N : Nat} (hM : VN M) (hN : VN N) (h1 : sixN M = sixN N) (h2 : hiN M = hiN N) (h3 : loN M = loN N) : M = N := by
  rw [← num_aN hM, ← num_aN hN, h1, h2, h3]
theorem VN_fil {x n : Nat} (h : VN x) (hn : n ≤ LN x) : VN (fil x (LN x - n)) := by
  have a := ok_aN h
  rw [LN_six] at hn ⊢
  have e := fill_num (n := n) a
  rw [num_aN h] at e
  rw [← e]
  exact (aN_num (fill_aok a hn)).1
theorem fil_six {x n : Nat} (h : VN x) (hn : n ≤ LN x) : sixN (fil x (LN x - n)) = sixN x := by
  have a := ok_aN h
  rw [LN_six] at hn ⊢
  have e := fill_num (n := n) a
  rw [num_aN h] at e
  rw [← e]
  exact (aN_num (fill_aok a hn)).2.1
theorem cN_lt_iff (a b : Nat) : cN a b < 0 ↔ a < b := by unfold cN; split <;> (try split) <;> omega
/-! ### Digits -/
def digN (N d : Nat) : Nat := N / 65536 ^ d % 65536
theorem digN_lt (N d : Nat) : digN N d < 65536 := Nat.mod_lt _ (by decide)
theorem PW_digN (N : Nat) : ∀ k, PW (digN N) k = N % 65536 ^ k
  | 0 => by simp [PW, Nat.mod_one]
  | k + 1 => by
    rw [PW, PW_digN N k, Nat.mod_pow_succ, Nat.mul_comm]
    rfl
theorem PW_all {N : Nat} (h : N < 65536 ^ 9) : PW (digN N) 9 = N := by rw [PW_digN, Nat.mod_eq_of_lt h]
theorem dig_PW {f : Nat → Nat} (hf : ∀ d, f d < 65536) : ∀ k d, d < k → f d = digN (PW f k) d
  | 0, d, h => by omega
  | k + 1, d, h => by
    rcases Nat.lt_or_ge d k with hd | hd
    · rw [dig_PW hf k d hd]
      unfold digN
      rw [PW]
      obtain ⟨j, rfl⟩ : ∃ j, k = d + (j + 1) := ⟨k - d - 1, by omega⟩
      generalize PW f (d + (j + 1)) = p
      rw [show f (d + (j + 1)) * 65536 ^ (d + (j + 1)) = 65536 ^ d * (65536 * (f (d + (j + 1)) * 65536 ^ j)) by rw [Nat.pow_add, Nat.pow_succ]; ac_rfl, Nat.add_mul_div_left _ _ (Nat.pow_pos (by decide)), Nat.add_mul_mod_self_left]
    · obtain rfl : d = k := by omega
      unfold digN
      rw [PW, Nat.add_mul_div_right _ _ (Nat.pow_pos (by decide)), Nat.div_eq_of_lt (PW_lt hf d), Nat.zero_add, Nat.mod_eq_of_lt (hf d)]
theorem wd_congr {f g : Nat → Nat} (h : ∀ d, d < 9 → f d = g d) : wd f = wd g := by
  unfold wd
  rw [h 0 (by decide), h 1 (by decide), h 2 (by decide), h 3 (by decide), h 4 (by decide), h 5 (by decide), h 6 (by decide), h 7 (by decide), h 8 (by decide)]
/-- the nine digits of a number -/
def wN (N : Nat) : Array Value := wd (digN N)
theorem wd_wN {f : Nat → Nat} (hf : ∀ d, f d < 65536) : wd f = wN (PW f 9) := wd_congr fun d hd => dig_PW hf 9 d hd
theorem wv_wN {six : Bool} {hi lo : Nat} (h1 : U64N hi) (h2 : U64N lo) : wv six (dg hi lo) = wN (numA six hi lo) := by
  rw [wv_wd, wd_wN (dv_lt (dg_lt hi lo)), PW_numA _ _ _ h1 h2]
theorem VN.lt9 {N : Nat} (h : VN N) : N < 65536 ^ 9 - 1 := by
  have : (2 : Nat) ^ 129 ≤ 65536 ^ 9 - 1 := by decide
  have : (2 : Nat) ^ 32 ≤ 65536 ^ 9 - 1 := by decide
  rcases h with h | ⟨_, h⟩ <;> omega
theorem fil_wN {six : Bool} {hi lo n : Nat} (h : AOK six hi lo) : wv six (filF hi lo (lenN six - n)) = wN (fil (numA six hi lo) (lenN six - n)) := by
  rw [wv_wd, wd_wN (dv_lt (filF_lt hi lo _)), PW_num, fil_hi _ _ _ h.1, fil_lo _ _ _ h.2.1, ← fill_num h, fHi_fil, fLo_fil]
theorem wN_aN {N : Nat} (h : VN N) : wN N = wv (sixN N) (dg (hiN N) (loN N)) := by
  rw [wv_wN (hiN_u N) (loN_u N), num_aN h]
theorem wN_inj {M N : Nat} (hM : M < 65536 ^ 9) (hN : N < 65536 ^ 9) (h : ∀ d, d < 9 → digN M d = digN N d) : M = N := by
  rw [← PW_all hM, ← PW_all hN, PW_congr 9 h]
end Go.Proofs.YteccghdegckjhaaGreatDoor

namespace Go.Proofs.YteccghdegckjhaaGreatDoor
open Go.RowKit Go
set_option linter.unusedVariables false

/-- the last number of a number's family -/
def topN (x : Nat) : Nat := fil x (LN x)
theorem top_val {x : Nat} (h : VN x) : topN x = if sixN x = true then 2 ^ 129 - 1 else 2 ^ 32 - 1 := by
  unfold topN fil LN sixN
  rcases h with h | ⟨h1, h2⟩
  · have : ¬ 2 ^ 128 ≤ x := by
      have : (2 : Nat) ^ 32 ≤ 2 ^ 128 := by decide
      omega
    rw [if_neg this, decide_eq_false this, if_neg (by decide), Nat.mod_eq_of_lt h]
    omega
  · rw [if_pos h1, decide_eq_true h1, if_pos rfl]
    have e : x % 2 ^ 128 = x - 2 ^ 128 := by
      rw [Nat.mod_eq_sub_mod h1, Nat.mod_eq_of_lt (by omega)]
    rw [e]
    omega
theorem le_top {x : Nat} (h : VN x) : x ≤ topN x := by
  rw [top_val h]
  rcases h.cases with ⟨a, _, _, d⟩ | ⟨a, b, c, d⟩
  · rw [a, if_neg (by decide)]; omega
  · rw [a, if_pos rfl]
    rcases h with h | ⟨_, h⟩
    · have : (2 : Nat) ^ 32 ≤ 2 ^ 129 := by decide
      omega
    · omega
theorem next_num {x : Nat} (h : VN x) (ht : x ≠ topN x) : VN (x + 1) ∧ sixN (x + 1) = sixN x ∧ hiN (x + 1) = hiN x + (loN x + 1) / 2 ^ 64 ∧ loN (x + 1) = (loN x + 1) % 2 ^ 64 ∧ hiN x + (loN x + 1) / 2 ^ 64 < 2 ^ 64 := by
  have hle := le_top h
  rw [top_val h] at ht hle
  unfold sixN at *
  unfold hiN loN
  rcases h with h | ⟨h1, h2⟩
  · have n1 : ¬ 2 ^ 128 ≤ x := by omega
    rw [decide_eq_false n1, if_neg (by decide)] at ht hle
    have n2 : ¬ 2 ^ 128 ≤ x + 1 := by omega
    rw [decide_eq_false n1, decide_eq_false n2]
    refine ⟨.inl (by omega), rfl, by omega, by omega, by omega⟩
  · rw [decide_eq_true h1, if_pos rfl] at ht hle
    rw [decide_eq_true h1, decide_eq_true (show 2 ^ 128 ≤ x + 1 by omega)]
    refine ⟨.inr ⟨by omega, by omega⟩, rfl, by omega, by omega, by omega⟩
theorem aN_same {x y : Nat} (hx : VN x) (hy : VN y) : (((sixN x, ((hiN x : Nat) : Int), ((loN x : Nat) : Int)) : Bool × Int × Int) = (sixN y, ((hiN y : Nat) : Int), ((loN y : Nat) : Int))) ↔ x = y := by
  constructor
  · intro h
    have h1 : sixN x = sixN y := congrArg (·.1) h
    have h2 : ((hiN x : Nat) : Int) = ((hiN y : Nat) : Int) := congrArg (·.2.1) h
    have h3 : ((loN x : Nat) : Int) = ((loN y : Nat) : Int) := congrArg (·.2.2) h
    exact aN_inj hx hy h1 (by omega) (by omega)
  · rintro rfl; rfl
theorem aN_eql {x y : Nat} (hx : VN x) (hy : VN y) (w : World) : (binOp .eql 28 (.agg (aN x)) (.agg (aN y))).run Tryz.prog w = .ok (.bool (decide (x = y))) w := by
  unfold aN
  rw [addr_eql, decide_eq_decide.2 (aN_same hx hy)]
theorem filledN {x n : Nat} (w : World) (hx : VN x) (hn : n ≤ LN x) : Calls Tryz.prog 130 #[.agg (aN x), .int .i64 (n : Int)] w (Ret (.agg (aN (fil x (LN x - n)))) w) := by
  have hn' : n ≤ lenN (sixN x) := by rw [← LN_six]; exact hn
  have := filled_any (sixN x) (hiN x) (loN x) n w (hiN_u x) (loN_u x) hn'
  have e := aN_eq (fill_aok (ok_aN hx) hn')
  rw [fill_num (ok_aN hx), num_aN hx, ← LN_six] at e
  unfold vA at this
  rw [← e] at this
  exact this
/-- the cells of a prefix -/
def pN (x : Nat) (n : Int) : Array Value := #[.bool (sixN x), .int .u64 ((hiN x : Nat) : Int), .int .u64 ((loN x : Nat) : Int), .int .i64 n]
theorem spanLastN {x n : Nat} (w : World) (hx : VN x) (hn : n ≤ LN x) : Calls Tryz.prog 97 #[.agg (pN x (n : Int))] w (Ret (.agg (aN (fil x (LN x - n)))) w) := by
  have hn' : n ≤ lenN (sixN x) := by rw [← LN_six]; exact hn
  have := spanLast_any (sixN x) (hiN x) (loN x) n w (hiN_u x) (loN_u x) hn'
  have e := aN_eq (fill_aok (ok_aN hx) hn')
  rw [fill_num (ok_aN hx), num_aN hx, ← LN_six] at e
  unfold vA at this
  rw [← e] at this
  exact this
theorem add64_one (x : Nat) (w : World) : (callFunc 131 #[.int .u64 (x : Int), .int .u64 1, .int .u64 0]).run Tryz.prog w = .ok (.value (.tuple #[.int .u64 (((x + 1) % 18446744073709551616 : Nat) : Int), .int .u64 (((x + 1) / 18446744073709551616 : Nat) : Int)])) w := by
  rw [run_callFunc_extern Tryz.func131 (by kernel_rfl) (by kernel_rfl) (by kernel_rfl) (e := add64Entry) (by kernel_rfl), run_add64 x 1 0 (by omega) (by omega) (by omega) (by omega)]
  simp only [Result.andThen]
  congr 5 <;> omega
set_option maxRecDepth 100000 in
set_option maxHeartbeats 1000000 in
theorem nextN {x : Nat} (w : World) (hx : VN x) : Calls Tryz.prog 96 #[.agg (aN x)] w (Ret (.tuple #[.agg (aN (if x = topN x then x else x + 1)), .bool (!decide (x = topN x))]) w) := by
  have HF := Lib.hid fun wx => filledN (n := 0) wx hx (Nat.zero_le _)
  have hE := fun w => aN_eql hx (VN_fil hx (Nat.zero_le _)) w
  rw [Nat.sub_zero] at HF hE
  have HN := Lib.hid (fun h => next_num hx h)
  unfold topN at HN ⊢
  obtain ⟨T, hT⟩ : ∃ T, fil x (LN x) = T := ⟨_, rfl⟩
  rw [hT] at HF hE HN ⊢
  have HA' : Blk ((w.alloc (.cells (aN x) 28 (0, 0))).alloc (.cells #[.bool false, .int .u64 0, .int .u64 0] 28 (0, 0))) (w.heap.size) 28 (aN x) := (Blk.new w 28 (aN x)).alloc _
  have HR' : Blk ((w.alloc (.cells (aN x) 28 (0, 0))).alloc (.cells #[.bool false, .int .u64 0, .int .u64 0] 28 (0, 0))) (w.heap.size + 1) 28 #[.bool false, .int .u64 0, .int .u64 0] := by
    have this := Blk.new (w.alloc (.cells (aN x) 28 (0, 0))) 28 #[.bool false, .int .u64 0, .int .u64 0]
    rw [World.size_alloc] at this
    exact this
  have HA := Lib.hid HA'
  have HR := Lib.hid HR'
  have HB : Hid (Below w.heap.size w ((w.alloc (.cells (aN x) 28 (0, 0))).alloc (.cells #[.bool false, .int .u64 0, .int .u64 0] 28 (0, 0)))) := Lib.hid (below_alloc (below_alloc (Below.refl _ _) _) _)
  obtain ⟨V, hV⟩ : ∃ V, aN (if x = T then x else x + 1) = V := ⟨_, rfl⟩
  have HV0 : Hid (x = T → V = aN x) := Lib.hid fun h => by rw [← hV, if_pos h]
  have HX1 : Hid (x ≠ T → V = #[.bool (sixN x), .int .u64 ((hiN x + (loN x + 1) / 2 ^ 64 : Nat) : Int), .int .u64 (((loN x + 1) % 2 ^ 64 : Nat) : Int)] ∧ hiN x + (loN x + 1) / 2 ^ 64 < 2 ^ 64) := Lib.hid fun h => by
    obtain ⟨_, a, b, c, d⟩ := HN.out h
    refine ⟨?_, d⟩
    rw [← hV, if_neg h]
    unfold aN
    rw [a, b, c]
  rw [hV]
  clear hV
  have hl := loN_u x
  have hh := hiN_u x
  unfold U64N at hl hh
  have hAdd := add64_one (loN x)
  clear HA' HR' hT hx HN
  generalize hAT : aN T = tv at *
  clear hAT
  unfold aN at HA HR HB HF hE HV0 ⊢
  generalize sixN x = sx at *
  generalize hiN x = hx at *
  generalize loN x = lx at *
  go_enter Tryz.func96, Tryz.ntmps96
  go_upto_region 1 with fail
  generalize ((w.alloc (.cells #[.bool sx, .int .u64 (hx : Int), .int .u64 (lx : Int)] 28 (0, 0))).alloc (.cells #[.bool false, .int .u64 0, .int .u64 0] 28 (0, 0))) = w1 at *
  have p0 := HA.out.cell 0
  have p1 := HA.out.cell 1
  have p2 := HA.out.cell 2
  simp at p0 p1 p2
  have l0 := Later.cell_of p0
  have l1 := Later.cell_of p1
  have l2 := Later.cell_of p2
  have hF := fun m : Later w1 => Calls.later m (HF.out m.1)
  refine wp_region_later (by kernel_rfl) (by kernel_rfl) ?_
  repeat (go_big_quiet_step ((go_at_call 130; exact hF _)))
  refine wpQuiet_nil ?_
  rintro w2 ⟨n2, hn2⟩
  have hb : Below w1.heap.size w1 w2 := by rw [hn2]; exact n2.2
  clear hn2 n2 hF HF l0 l1 l2 p0 p1 p2
  have HA2 := Lib.hid (HA.out.below hb HA.out.lt)
  have HR2 := Lib.hid (HR.out.below hb HR.out.lt)
  have HB2 := Lib.hid (HB.out.trans (hb.mono HB.out.size))
  clear hb HA HR HB
  have p0 := HA2.out.cell 0
  have p1 := HA2.out.cell 1
  have p2 := HA2.out.cell 2
  simp at p0 p1 p2
  have r0 := HR2.out.cell 0
  have r1 := HR2.out.cell 1
  have r2 := HR2.out.cell 2
  simp at r0 r1 r2
  have pf := HA2.out.free
  have rf := HR2.out.free
  by_cases hxT : x = T
  · rw [decide_eq_true hxT] at hE
    have hv := HV0.out hxT
    have hd : (!decide (x = T)) = false := by rw [decide_eq_true hxT]; rfl
    have HE := Lib.hid (And.intro hv hd)
    clear HX1 hAdd HV0 hv hd
    go_wp2_with fail
    refine bodyPost_ret (v := .tuple #[.agg #[.bool sx, .int .u64 (hx : Int), .int .u64 (lx : Int)], .bool false]) (by simp [results, Tryz.results96, go_sem, r0, r1, r2]) rfl ⟨by rw [HE.out.1, HE.out.2], ?_⟩
    exact ((HB2.out.setCell (by simp) _).setCell (by simp) _).setCell (by simp) _
  · rw [decide_eq_false hxT] at hE
    obtain ⟨hv, ed⟩ := HX1.out hxT
    have hd : (!decide (x = T)) = true := by rw [decide_eq_false hxT]; rfl
    have c1 : (lx + 1) / 18446744073709551616 = (lx + 1) / 2 ^ 64 := rfl
    have c2 : (lx + 1) % 18446744073709551616 = (lx + 1) % 2 ^ 64 := rfl
    rw [c1, c2] at hAdd
    obtain ⟨C, hC⟩ : ∃ C, (lx + 1) / 2 ^ 64 = C := ⟨_, rfl⟩
    obtain ⟨L, hL⟩ : ∃ L, (lx + 1) % 2 ^ 64 = L := ⟨_, rfl⟩
    rw [hC] at hAdd ed hv
    rw [hL] at hAdd hv
    have HE := Lib.hid (And.intro hv hd)
    have e1 : (0 : Int) ≤ (hx : Int) + (C : Int) := by omega
    have e2 : (hx : Int) + (C : Int) ≤ 18446744073709551615 := by omega
    clear HX1 hC hL c1 c2 HV0 hl hh hv hd ed
    go_wp2_with fail
    refine bodyPost_ret (v := .tuple #[.agg #[.bool sx, .int .u64 ((hx + C : Nat) : Int), .int .u64 (L : Int)], .bool true]) (by simp [results, Tryz.results96, go_sem, r0, r1, r2]) rfl ⟨by rw [HE.out.1, HE.out.2], ?_⟩
    exact ((((HB2.out.setCell (by simp) _).setCell (by simp) _).setCell (by simp) _).setCell (by simp) _).setCell (by simp) _
end Go.Proofs.YteccghdegckjhaaGreatDoor

namespace Go.Proofs.YteccghdegckjhaaGreatDoor
open Go.RowKit Go
set_option linter.unusedVariables false

/-- how an element lies in cells -/
structure Lay (α : Type) where
  enc : α → List Value
  K : Nat
  ty : TypeId
  pos : 0 < K
  len : ∀ x, (enc x).length = K
  one : ∀ x, ∀ v ∈ enc x, v.oneCell' = true
section
variable {α : Type} {E : Lay α}
def Lay.all (E : Lay α) (L : List α) : List Value := L.flatMap E.enc
theorem Lay.all_len (E : Lay α) : ∀ L : List α, (E.all L).length = L.length * E.K
  | [] => by simp [Lay.all]
  | x :: L => by
    have := E.all_len L
    simp only [Lay.all, List.flatMap_cons, List.length_append, E.len, List.length_cons] at this ⊢
    rw [Nat.add_mul, this]; omega
theorem Lay.all_append (E : Lay α) (A B : List α) : E.all (A ++ B) = E.all A ++ E.all B := by simp [Lay.all]
theorem Lay.all_one (E : Lay α) (L : List α) : ∀ u ∈ E.all L, u.oneCell' = true := by
  intro u hu
  obtain ⟨x, _, hx⟩ := List.mem_flatMap.1 hu
  exact E.one x u hx
theorem Lay.all_get (E : Lay α) : ∀ (L : List α) (i j : Nat) (x : α), L[i]? = some x → j < E.K → (E.all L)[i * E.K + j]? = (E.enc x)[j]?
  | [], i, j, x, h, _ => by simp at h
  | y :: L, 0, j, x, h, hj => by
    simp at h
    subst h
    rw [Nat.zero_mul, Nat.zero_add]
    show ((E.enc y) ++ E.all L)[j]? = _
    rw [List.getElem?_append_left (by rw [E.len]; exact hj)]
  | y :: L, i + 1, j, x, h, hj => by
    have := E.all_get L i j x (by simpa using h) hj
    show ((E.enc y) ++ E.all L)[(i + 1) * E.K + j]? = _
    rw [List.getElem?_append_right (by rw [E.len, Nat.add_mul]; omega), E.len, show (i + 1) * E.K + j - E.K = i * E.K + j by rw [Nat.add_mul]; omega]
    exact this
theorem Lay.all_cut (E : Lay α) (L : List α) (t : Nat) (h : t < L.length * E.K) : ∃ x, L[t / E.K]? = some x ∧ (E.all L)[t]? = (E.enc x)[t % E.K]? := by
  have hi : t / E.K < L.length := (Nat.div_lt_iff_lt_mul E.pos).2 h
  refine ⟨L[t / E.K], List.getElem?_eq_getElem hi, ?_⟩
  have := E.all_get L (t / E.K) (t % E.K) _ (List.getElem?_eq_getElem hi) (Nat.mod_lt _ E.pos)
  rwa [show t / E.K * E.K + t % E.K = t by rw [Nat.mul_comm]; exact Nat.div_add_mod t E.K] at this
/-- a row that a call owns -/
def OwnK (E : Lay α) (w : World) (base : Nat) (v : Value) (L : List α) : Prop := w.ownsRow base E.ty E.K v L.length (E.all L)
/-- a row that can be read -/
def RdK (E : Lay α) (w : World) (ad : Option Addr) (L : List α) : Prop :=
  ∀ (i : Nat) x, L[i]? = some x → ∃ g o, ad = some ⟨g, o, none⟩ ∧ g < w.heap.size ∧ ∀ j v, (E.enc x)[j]? = some v → w.cell? ⟨g, o + (i * E.K + j), none⟩ = some v
theorem RdK.below {w w' : World} {ad : Option Addr} {L : List α} (h : RdK E w ad L) (hb : Below w.heap.size w w') : RdK E w' ad L := fun i x hx => by
  obtain ⟨g, o, e, hg, hc⟩ := h i x hx
  exact ⟨g, o, e, Nat.lt_of_lt_of_le hg hb.size, fun j v hv => (hb.cell (p := ⟨g, o + (i * E.K + j), none⟩) hg).trans (hc j v hv)⟩
theorem RdK.nil (w : World) (ad : Option Addr) : RdK E w ad [] := fun i x hx => by simp at hx
theorem RdK.none_ {w : World} {L : List α} (h : RdK E w none L) : L = [] := by
  cases L with
  | nil => rfl
  | cons x L => obtain ⟨g, o, e, _⟩ := h 0 x rfl; cases e
theorem OwnK.nil (E : Lay α) (w : World) (base : Nat) : OwnK E w base (.slice none 0 0) [] := World.ownsRow_nil w base _ _
theorem OwnK.weak {w : World} {base base' : Nat} {v : Value} {L : List α} (h : OwnK E w base v L) (hb : base' ≤ base) : OwnK E w base' v L := own_weak h hb
theorem OwnK.later {w w' : World} {base : Nat} {v : Value} {L : List α} (h : OwnK E w base v L) (hb : Below w.heap.size w w') : OwnK E w' base v L := own_later h hb
theorem OwnK.alloc {w : World} {base : Nat} {v : Value} {L : List α} (h : OwnK E w base v L) (o : Obj) : OwnK E (w.alloc o) base v L := h.later (below_alloc (Below.refl _ _) _)
theorem OwnK.gen {w w' : World} {b B m : Nat} {v : Value} {L : List α} (h : OwnK E w B v L) (hg : Gen b w w' m) (hb : b < B) : OwnK E w' B v L :=
  World.ownsRow.kept h hg.g (by
    cases hv : v.ownBlock with
    | none => exact .inl rfl
    | some k => exact .inr (by have := own_base h k hv; simp; omega))
theorem ownK_empty (E : Lay α) (w : World) : OwnK E (w.alloc (.cells #[] E.ty (0, 0))) w.heap.size (.slice (some ⟨w.heap.size, 0, none⟩) 0 0) [] :=
  ⟨by simp [Lay.all], .inr ⟨w.heap.size, 0, #[], rfl, Nat.le_refl _, heap_alloc_new w _, Nat.le_refl _, by unfold maxLen; omega, by simp, by simp [Lay.all]⟩⟩
theorem OwnK.snoc {w : World} {B : Nat} {v : Value} {L : List α} {x : α} (h : w.ownsRow B E.ty E.K v (L.length + 1) (E.all L ++ E.enc x)) : OwnK E w B v (L ++ [x]) := by
  show w.ownsRow _ _ _ _ _ _
  rw [List.length_append, E.all_append]
  simpa [Lay.all] using h
theorem OwnK.app {w : World} {B : Nat} {v : Value} {L M : List α} (h : w.ownsRow B E.ty E.K v (L.length + M.length) (E.all L ++ E.all M)) : OwnK E w B v (L ++ M) := by
  show w.ownsRow _ _ _ _ _ _
  rw [List.length_append, E.all_append]
  exact h
theorem OwnK.form {w : World} {B : Nat} {v : Value} {L : List α} (h : OwnK E w B v L) : ∃ ad c, v = .slice ad L.length c ∧ Src w ad L.length E.K (E.all L) ∧ L.length ≤ c ∧ c ≤ maxLen := own_form h
theorem OwnK.one {w : World} {B : Nat} {v : Value} {L : List α} (h : OwnK E w B v L) (hl : 1 ≤ L.length) :
    ∃ g c, v = .slice (some ⟨g, 0, none⟩) L.length c ∧ B ≤ g ∧ g < w.heap.size ∧ L.length ≤ c ∧ c ≤ maxLen := by
  rcases h.2 with ⟨rfl, h0⟩ | ⟨g, cap, cur, rfl, hb, hg, hc, hm, hs, ht⟩
  · omega
  · exact ⟨g, cap, rfl, hb, lt_of_block hg, hc, hm⟩
theorem OwnK.block {w : World} {B g n c : Nat} {L : List α} (h : OwnK E w B (.slice (some ⟨g, 0, none⟩) n c) L) : n = L.length ∧ B ≤ g ∧ n ≤ c ∧ c ≤ maxLen ∧ ∃ cur, w.heap[g]? = some (.cells cur E.ty (0, 0)) ∧ cur.size = c * E.K ∧ cur.toList.take (L.length * E.K) = E.all L := by
  rcases h.2 with ⟨hv, _⟩ | ⟨g2, c2, cur, hv, hb, hg, hc, hm, hs, ht⟩
  · cases hv
  · simp at hv
    obtain ⟨rfl, rfl, rfl⟩ := hv
    exact ⟨rfl, hb, hc, hm, cur, hg, hs, ht⟩
theorem OwnK.frozen {w : World} {B g c n : Nat} {L : List α} (h : OwnK E w B (.slice (some ⟨g, 0, none⟩) n c) L) (i : Nat) : w.frozen? ⟨g, i, none⟩ = false := by
  obtain ⟨_, _, _, _, cur, hg, _⟩ := h.block
  exact frozen_of_row w g i cur _ hg
theorem OwnK.get {w : World} {B g c n : Nat} {L : List α} (h : OwnK E w B (.slice (some ⟨g, 0, none⟩) n c) L) {i j : Nat} {x : α} {v : Value} (hi : L[i]? = some x) (hv : (E.enc x)[j]? = some v) :
    w.cell? ⟨g, i * E.K + j, none⟩ = some v := by
  obtain ⟨_, _, _, _, cur, hg, hs, ht⟩ := h.block
  have hj : j < E.K := by rw [← E.len x]; exact (List.getElem?_eq_some_iff.1 hv).1
  have h0 := E.all_get L i j x hi hj
  have hil := (List.getElem?_eq_some_iff.1 hi).1
  have hlt : i * E.K + j < L.length * E.K := by
    have := Nat.mul_le_mul_right E.K (Nat.succ_le_of_lt hil)
    rw [Nat.succ_eq_add_one, Nat.add_mul, Nat.one_mul] at this
    omega
  rw [cell_of_row w g _ _ _ _ hg]
  rw [← ht, List.getElem?_take, if_pos hlt, Array.getElem?_toList] at h0
  rw [h0, hv]
theorem OwnK.rd {w : World} {B n c : Nat} {ad : Option Addr} {L : List α} (h : OwnK E w B (.slice ad n c) L) : RdK E w ad L := fun i x hx => by
  have hi := (List.getElem?_eq_some_iff.1 hx).1
  obtain ⟨g, c', hv, _, hg, _⟩ := h.one (by omega)
  simp at hv
  obtain ⟨rfl, rfl, rfl⟩ := hv
  exact ⟨g, 0, rfl, hg, fun j v hv => by rw [Nat.zero_add]; exact h.get hx hv⟩
theorem RdK.src {w : World} {ad : Option Addr} {L : List α} (h : RdK E w ad L) : Src w ad L.length E.K (E.all L) := by
  refine ⟨E.all_len L, fun t u hu => ?_⟩
  have ht : t < L.length * E.K := by
    rw [← E.all_len]; exact (List.getElem?_eq_some_iff.1 hu).1
  obtain ⟨x, hx, e⟩ := E.all_cut L t ht
  obtain ⟨g, o, had, hg, hc⟩ := h _ x hx
  refine ⟨_, had, hg, ?_⟩
  have hadd : (⟨g, o, none⟩ : Addr).add t = ⟨g, o + t, none⟩ := by unfold Addr.add; split <;> simp_all
  rw [hadd]
  have := hc (t % E.K) u (by rw [← e]; exact hu)
  rwa [show t / E.K * E.K + t % E.K = t by rw [Nat.mul_comm]; exact Nat.div_add_mod t E.K] at this
/-- a new block of one element as a source -/
theorem src_new (E : Lay α) (w : World) (x : α) (cs : Array Value) (t : TypeId) (h : cs = (E.enc x).toArray) : Src (w.alloc (.cells cs t)) (some ⟨w.heap.size, 0, none⟩) 1 E.K (E.enc x) := by
  subst h
  refine ⟨by rw [E.len, Nat.one_mul], fun j u hu => ⟨_, rfl, by simp, ?_⟩⟩
  have hadd : (⟨w.heap.size, 0, none⟩ : Addr).add j = ⟨w.heap.size, j, none⟩ := by unfold Addr.add; split <;> simp_all
  rw [hadd, cell_of_row _ w.heap.size j _ _ _ (heap_alloc_new w _)]
  simpa using hu
/-- new cells of one element, stored into an own row -/
theorem Lay.all_set (E : Lay α) : ∀ (L : List α) (i j : Nat) (x y : α) (v : Value), L[i]? = some x → j < E.K → E.enc y = (E.enc x).set j v → (E.all L).set (i * E.K + j) v = E.all (L.set i y)
  | [], i, j, x, y, v, h, _, _ => by simp at h
  | z :: L, 0, j, x, y, v, h, hj, hy => by
    simp at h
    subst h
    rw [Nat.zero_mul, Nat.zero_add]
    show ((E.enc z) ++ E.all L).set j v = _
    rw [List.set_append_left _ _ (by rw [E.len]; exact hj), ← hy]
    rfl
  | z :: L, i + 1, j, x, y, v, h, hj, hy => by
    have := E.all_set L i j x y v (by simpa using h) hj hy
    show ((E.enc z) ++ E.all L).set ((i + 1) * E.K + j) v = _
    rw [List.set_append_right _ _ (by rw [E.len, Nat.add_mul]; omega), E.len, show (i + 1) * E.K + j - E.K = i * E.K + j by rw [Nat.add_mul]; omega, this]
    rfl
theorem OwnK.setTo {w : World} {B g c n : Nat} {L : List α} (h : OwnK E w B (.slice (some ⟨g, 0, none⟩) n c) L) {i j : Nat} {x y : α} {v : Value} (hx : L[i]? = some x) (hj : j < E.K) (hy : E.enc y = (E.enc x).set j v) :
    OwnK E (w.setCell ⟨g, i * E.K + j, none⟩ v) B (.slice (some ⟨g, 0, none⟩) n c) (L.set i y) := by
  obtain ⟨rfl, hb, hc, hm, cur, hg, hs, ht⟩ := h.block
  refine ⟨by rw [E.all_len], .inr ⟨g, c, cur.setIfInBounds (i * E.K + j) v, by simp, hb, heap_setCell_same w g _ cur _ _ hg, by simpa using hc, hm, by simpa using hs, ?_⟩⟩
  rw [Array.toList_setIfInBounds, List.take_set, List.length_set, ht, E.all_set _ _ _ _ _ _ hx hj hy]
end
end Go.Proofs.YteccghdegckjhaaGreatDoor

namespace Go.Proofs.YteccghdegckjhaaGreatDoor
open Go.RowKit Go
set_option linter.unusedVariables false

/-- blocks of other types than those of S stay -/
def KeepT (S : List TypeId) (w w' : World) : Prop := w.heap.size ≤ w'.heap.size ∧ ∀ g, g < w.heap.size → w'.heap[g]? = w.heap[g]? ∨ ∃ cur t p, w.heap[g]? = some (.cells cur t p) ∧ t ∈ S
theorem KeepT.refl (S : List TypeId) (w : World) : KeepT S w w := ⟨Nat.le_refl _, fun _ _ => .inl rfl⟩
theorem KeepT.trans {S : List TypeId} {u v w : World} (h : KeepT S u v) (k : KeepT S v w) : KeepT S u w := by
  refine ⟨Nat.le_trans h.1 k.1, fun g hg => ?_⟩
  rcases h.2 g hg with e | e
  · rcases k.2 g (Nat.lt_of_lt_of_le hg h.1) with e2 | ⟨cur, t, p, e2, ht⟩
    · exact .inl (e2.trans e)
    · exact .inr ⟨cur, t, p, e ▸ e2, ht⟩
  · exact .inr e
theorem KeepT.of_below {S : List TypeId} {w w' : World} (h : Below w.heap.size w w') : KeepT S w w' := ⟨h.size, fun g hg => .inl (h.block g hg)⟩
theorem KeepT.mono {S T : List TypeId} {w w' : World} (h : KeepT S w w') (hs : ∀ t ∈ S, t ∈ T) : KeepT T w w' :=
  ⟨h.1, fun g hg => (h.2 g hg).imp id fun ⟨cur, t, p, e, ht⟩ => ⟨cur, t, p, e, hs t ht⟩⟩
section
variable {α : Type} {E : Lay α}
theorem KeepT.of_grew {S : List TypeId} {w w' : World} {B : Nat} {v v' : Value} {L : List α} (hO : OwnK E w B v L) (hg : Grew w w' v v') (ht : E.ty ∈ S) : KeepT S w w' := by
  rcases hO.2 with ⟨rfl, _⟩ | ⟨g, cap, cur, rfl, hb, hh, _⟩
  · exact ⟨hg.g.size, fun g hg' => .inl (hg.g.block g hg' (by simp [Value.ownBlock]))⟩
  · refine ⟨hg.g.size, fun j hj => ?_⟩
    by_cases e : j = g
    · subst e; exact .inr ⟨cur, E.ty, (0, 0), hh, ht⟩
    · exact .inl (hg.g.block j hj (by simpa [Value.ownBlock] using e))
/-- a row that can be read, in a block of its elements' type -/
structure RdT (E : Lay α) (w : World) (ad : Option Addr) (L : List α) : Prop where
  rd : RdK E w ad L
  ty : ∀ a, ad = some a → ∃ cur p, w.heap[a.block]? = some (.cells cur E.ty p)
theorem RdT.nil (w : World) : RdT E w none [] := ⟨RdK.nil _ _, fun a h => by cases h⟩
theorem RdT.keep {S : List TypeId} {w w' : World} {ad : Option Addr} {L : List α} (h : RdT E w ad L) (k : KeepT S w w') (hS : E.ty ∉ S) : RdT E w' ad L := by
  have key : ∀ a, ad = some a → w'.heap[a.block]? = w.heap[a.block]? := fun a ha => by
    obtain ⟨cur, p, hb⟩ := h.ty a ha
    have hlt : a.block < w.heap.size := by
      rcases Nat.lt_or_ge a.block w.heap.size with h1 | h1
      · exact h1
      · rw [Array.getElem?_eq_none h1] at hb; cases hb
    rcases k.2 a.block hlt with e | ⟨cur2, t, p2, e, ht⟩
    · exact e
    · rw [hb] at e
      injection e with e
      injection e with _ e _
      exact absurd (e ▸ ht) hS
  refine ⟨fun i x hx => ?_, fun a ha => ?_⟩
  · obtain ⟨g, o, e, hg, hc⟩ := h.rd i x hx
    have hk := key _ e
    exact ⟨g, o, e, Nat.lt_of_lt_of_le hg k.1, fun j v hv => (World.cell?_of_block (w := w) (a := ⟨g, o + (i * E.K + j), none⟩) hk).trans (hc j v hv)⟩
  · obtain ⟨cur, p, hb⟩ := h.ty a ha
    exact ⟨cur, p, (key a ha).trans hb⟩
theorem RdT.below {w w' : World} {ad : Option Addr} {L : List α} (h : RdT E w ad L) (hb : Below w.heap.size w w') : RdT E w' ad L := h.keep (S := []) (KeepT.of_below hb) (by simp)
theorem OwnK.rdT {w : World} {B n c : Nat} {ad : Option Addr} {L : List α} (h : OwnK E w B (.slice ad n c) L) : RdT E w ad L := by
  refine ⟨h.rd, fun a ha => ?_⟩
  subst ha
  rcases h.2 with ⟨e, _⟩ | ⟨g, cap, cur, e, hb, hh, _⟩
  · cases e
  · injection e with e _ _
    injection e with e
    subst e
    exact ⟨cur, (0, 0), hh⟩
end
end Go.Proofs.YteccghdegckjhaaGreatDoor

namespace Go.Proofs.YteccghdegckjhaaGreatDoor
open Go.RowKit Go
set_option linter.unusedVariables false
theorem KeepT.alloc {S : List TypeId} {u w : World} (h : KeepT S u w) (o : Obj) : KeepT S u (w.alloc o) := h.trans (KeepT.of_below (below_alloc (Below.refl _ _) _))
theorem RdInts.grown {w w' : World} {b g o n : Nat} {zs : List Int} (h : RdInts w g o n zs) (hg : w.grownBy w' (some b)) (hne : g ≠ b) : RdInts w' g o n zs :=
  ⟨h.1, Nat.lt_of_lt_of_le h.2.1 hg.size, fun i hi => (World.cell?_of_block (w := w) (hg.block g h.2.1 (fun e => hne (Option.some.inj e)))).trans (h.2.2 i hi)⟩
end Go.Proofs.YteccghdegckjhaaGreatDoor

namespace Go.Proofs.YteccghdegckjhaaGreatDoor
open Go.RowKit
set_option linter.unusedVariables false
end Go.Proofs.YteccghdegckjhaaGreatDoor

namespace Go.Proofs.YteccghdegckjhaaGreatDoor
open Go.RowKit
set_option linter.unusedVariables false

/-- a slice of bytes that can be read -/
structure RdB (w : World) (ad : Option Addr) (bs : List UInt8) : Prop where
  small : bs.length ≤ 140737488351232
  cell : ∀ i, i < bs.length → ∃ g o, ad = some ⟨g, o, none⟩ ∧ g < w.heap.size ∧ w.cell? ⟨g, o + i, none⟩ = some (.int .u8 ((bs.getD i 0).toNat : Int))

end Go.Proofs.YteccghdegckjhaaGreatDoor
