/-
  Groups of an address, read: in plain words. A row of uint64.
-/
import Derived.Test.YtcpafmndjcejjaaGreatDoorAR20
import Derived.Test.YtcpafmndjcejjaaGreatDoorAR21
import Derived.Test.YtcpafmndjcejjaaGreatDoorAR7
set_option linter.unusedVariables false
namespace Go.Proofs.YtcpafmndjcejjaaGreatDoor
open Go.RowKit Go Go.Sort
set_option linter.unusedVariables false

/-- the digits of a group -/
def hexSet : List UInt8 := [48, 49, 50, 51, 52, 53, 54, 55, 56, 57, 97, 98, 99, 100, 101, 102, 65, 66, 67, 68, 69, 70]
theorem hexSet_ascii : asciiB hexSet := fun j b h => by
  have := List.mem_of_getElem? h
  simp [hexSet] at this
  rcases this with rfl | rfl | rfl | rfl | rfl | rfl | rfl | rfl | rfl | rfl | rfl | rfl | rfl | rfl | rfl | rfl | rfl | rfl | rfl | rfl | rfl | rfl <;> decide
theorem hexSet_has (b : UInt8) : hexSet.contains b = isHx b := by
  have key : ∀ n, n < 256 → hexSet.contains (UInt8.ofNat n) = isHx (UInt8.ofNat n) := by decide +kernel
  have := key b.toNat b.toNat_lt
  rwa [UInt8.ofNat_toNat] at this
theorem hexSet_all (x : List UInt8) : x.all hexSet.contains = x.all isHx := by
  congr 1
  funext b
  exact hexSet_has b
def hexOk (x : List UInt8) : Bool := !x.isEmpty && decide (x.length ≤ 4) && x.all isHx
def grpL (last : Bool) : List (List UInt8) → List Nat → Option (List Nat)
  | [], out => some out
  | x :: xs, out => if (last && xs.isEmpty && x.contains 46) = true then (match fourF x with
      | some n => some (out ++ [n / 65536, n % 65536])
      | none => none)
    else if hexOk x = true then grpL last xs (out ++ [hxV x]) else none
/-- the groups of a string -/
def grpF (s : List UInt8) (last : Bool) : Option (List Nat) := if s = [] then some [] else grpL last (spl 58 s) []
theorem grpL_step {L : List (List UInt8)} {k n : Nat} {x : List UInt8} {last : Bool} {G : List Nat} (h : L[k]? = some x) (hn : L.length = n) :
    grpL last (L.drop k) G = if (last && decide (k + 1 = n) && x.contains 46) = true then (match fourF x with
      | some m => some (G ++ [m / 65536, m % 65536])
      | none => none)
    else if hexOk x = true then grpL last (L.drop (k + 1)) (G ++ [hxV x]) else none := by
  obtain ⟨hk, rfl⟩ := List.getElem?_eq_some_iff.1 h
  rw [List.drop_eq_getElem_cons hk]
  have e : (L.drop (k + 1)).isEmpty = decide (k + 1 = n) := by
    by_cases hd : k + 1 = n
    · rw [List.drop_of_length_le (by omega), decide_eq_true hd]; rfl
    · rw [decide_eq_false hd, List.isEmpty_eq_false_iff]
      intro e
      have := congrArg List.length e
      rw [List.length_drop] at this
      simp at this
      omega
  show (if (last && (L.drop (k + 1)).isEmpty && _) = true then _ else _) = _
  rw [e]
theorem four_dot {x : List UInt8} (h : x.contains 46 = false) : fourF x = none := by
  unfold fourF
  rw [if_neg]
  rw [spl_len]
  have : List.count 46 x = 0 := List.count_eq_zero.2 (fun hm => by
    have : x.contains 46 = true := by simpa using hm
    rw [h] at this; cases this)
  omega
theorem hex_dot {x : List UInt8} (h : x.contains 46 = true) : hexOk x = false := by
  unfold hexOk
  have hm : (46 : UInt8) ∈ x := by simpa using h
  have : x.all isHx = false := by
    rw [← Bool.not_eq_true]
    intro ha
    have := List.all_eq_true.1 ha _ hm
    revert this
    decide
  rw [this, Bool.and_false]
/-- how the reference goes: a last word of four numbers first -/
theorem grpL_stepQ {L : List (List UInt8)} {k n : Nat} {x : List UInt8} {last : Bool} {G : List Nat} (h : L[k]? = some x) (hn : L.length = n) :
    grpL last (L.drop k) G = if ((fourF x).isSome && last && decide (k + 1 = n)) = true then some (G ++ [(fourF x).getD 0 / 65536, (fourF x).getD 0 % 65536])
    else if hexOk x = true then grpL last (L.drop (k + 1)) (G ++ [hxV x]) else none := by
  rw [grpL_step h hn]
  by_cases hd : x.contains 46 = true
  · rw [hd, Bool.and_true, hex_dot hd]
    cases hf : fourF x with
    | none => cases last <;> cases (decide (k + 1 = n)) <;> rfl
    | some m => cases last <;> cases (decide (k + 1 = n)) <;> rfl
  · have hd : x.contains 46 = false := eq_false_of_ne_true hd
    rw [hd, Bool.and_false, four_dot hd]
    rfl
/-! ### rows of uint64 -/
def layU : Lay Nat := ⟨fun n => [.int .u64 (n : Int)], 1, 27, by decide, fun _ => rfl, fun x v hv => by
  have : v = .int .u64 (x : Int) := by simpa using hv
  subst this; rfl⟩
theorem uE : EI Tryz.prog 57 27 1 8 := EI.mk' (z := .int .u64 0) Tryz.underlying57 (by kernel_rfl) rfl (by decide)
theorem src_two (w : World) (x y : Value) (t : TypeId) : Src (w.alloc (.cells #[x, y] t)) (some ⟨w.heap.size, 0, none⟩) 2 1 [x, y] :=
  ⟨rfl, fun j u hu => ⟨_, rfl, by simp, by
    show (w.alloc (.cells #[x, y] t)).cell? ((⟨w.heap.size, 0, none⟩ : Addr).add j) = some u
    have e : (⟨w.heap.size, 0, none⟩ : Addr).add j = ⟨w.heap.size, j, none⟩ := by unfold Addr.add; simp; intro h; exact h.symm
    rw [e, cell_of_row _ w.heap.size j _ _ _ (heap_alloc_new w _)]
    rcases j with _ | _ | j
    · simpa using hu
    · simpa using hu
    · simp at hu⟩⟩
theorem OwnK.snoc2 {w : World} {B : Nat} {v : Value} {L : List Nat} {x y : Nat} (h : w.ownsRow B 27 1 v (L.length + 2) (layU.all L ++ [.int .u64 (x : Int), .int .u64 (y : Int)])) : OwnK layU w B v (L ++ [x, y]) := by
  refine OwnK.app (M := [x, y]) ?_
  exact h
theorem grp_mask (m : Nat) (h : m < 18446744073709551616) : bits .and .u64 (m : Int) 65535 = ((m % 65536 : Nat) : Int) := by
  rw [show (65535 : Int) = ((65535 : Nat) : Int) from rfl, bits_and_u64_nat _ _ h (by omega), show (65535 : Nat) = 2 ^ 16 - 1 from rfl, Nat.and_two_pow_sub_one_eq_mod]
theorem fouL_lt : ∀ (L : List (List UInt8)) (acc k n : Nat), acc < 256 ^ k → fouL L acc = some n → n < 256 ^ (k + L.length)
  | [], acc, k, n, h, hf => by
    have : acc = n := by simpa [fouL] using hf
    rw [← this]; exact h
  | x :: xs, acc, k, n, h, hf => by
    unfold fouL at hf
    cases hd : d255 x with
    | none => rw [hd] at hf; cases hf
    | some m =>
      rw [hd] at hf
      have := d255_le hd
      have := fouL_lt xs (acc * 256 + m) (k + 1) n (by rw [Nat.pow_succ]; generalize 256 ^ k = P at *; omega) hf
      rwa [List.length_cons, show k + (xs.length + 1) = k + 1 + xs.length by omega]
theorem fourF_lt {x : List UInt8} {n : Nat} (h : fourF x = some n) : n < 4294967296 := by
  unfold fourF at h
  by_cases hc : (spl 46 x).length = 4
  · rw [if_pos hc] at h
    have := fouL_lt _ 0 0 n (by decide) h
    rw [hc] at this
    exact this
  · rw [if_neg hc] at h; cases h
end Go.Proofs.YtcpafmndjcejjaaGreatDoor
