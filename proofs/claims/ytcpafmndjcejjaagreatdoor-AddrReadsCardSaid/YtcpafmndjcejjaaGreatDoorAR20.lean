/-
  strconv.ParseUint at base 16 and at most four digits.
-/
import Derived.Test.YtcpafmndjcejjaaGreatDoorAR19
import Derived.Lib.ConvBytes
import Derived.Laws.Closers25
import Derived.Laws.Closers25b
set_option linter.unusedVariables false
namespace Go.Proofs.YtcpafmndjcejjaaGreatDoor
open Go.RowKit Go Go.Sort
set_option linter.unusedVariables false

def isHx (b : UInt8) : Bool := decide ((48 ≤ b.toNat ∧ b.toNat ≤ 57) ∨ (97 ≤ b.toNat ∧ b.toNat ≤ 102) ∨ (65 ≤ b.toNat ∧ b.toNat ≤ 70))
def hxD (b : UInt8) : Nat := if b.toNat ≤ 57 then b.toNat - 48 else if b.toNat ≤ 70 then b.toNat - 55 else b.toNat - 87
def hxV (x : List UInt8) : Nat := x.foldl (fun a b => a * 16 + hxD b) 0
theorem hxD_lt {b : UInt8} (h : isHx b = true) : hxD b < 16 := by
  unfold isHx at h
  have h : (48 ≤ b.toNat ∧ b.toNat ≤ 57) ∨ (97 ≤ b.toNat ∧ b.toNat ≤ 102) ∨ (65 ≤ b.toNat ∧ b.toNat ≤ 70) := by simpa using h
  unfold hxD
  split
  · omega
  · split <;> omega
theorem hxF_lt : ∀ (x : List UInt8) (acc k : Nat), x.all isHx = true → acc < 16 ^ k → x.foldl (fun a b => a * 16 + hxD b) acc < 16 ^ (k + x.length)
  | [], acc, k, _, h => h
  | b :: x, acc, k, hx, h => by
    rw [List.all_cons, Bool.and_eq_true] at hx
    rw [List.foldl_cons, List.length_cons, show k + (x.length + 1) = (k + 1) + x.length by omega]
    refine hxF_lt x _ (k + 1) hx.2 ?_
    have := hxD_lt hx.1
    rw [Nat.pow_succ]
    omega
theorem hxV_lt {x : List UInt8} (h : x.all isHx = true) (hl : x.length ≤ 4) : hxV x < 65536 := by
  have := hxF_lt x 0 0 h (by decide)
  rw [Nat.zero_add] at this
  exact Nat.lt_of_lt_of_le this (Nat.le_trans (Nat.pow_le_pow_right (by decide) hl) (by decide))
theorem low_letter {c : Nat} (h : (97 ≤ c ∧ c ≤ 102) ∨ (65 ≤ c ∧ c ≤ 70)) : bits .or .u8 (c : Int) 32 = ((if c ≤ 70 then c + 32 else c : Nat) : Int) := by
  have : c = 97 ∨ c = 98 ∨ c = 99 ∨ c = 100 ∨ c = 101 ∨ c = 102 ∨ c = 65 ∨ c = 66 ∨ c = 67 ∨ c = 68 ∨ c = 69 ∨ c = 70 := by omega
  rcases this with rfl | rfl | rfl | rfl | rfl | rfl | rfl | rfl | rfl | rfl | rfl | rfl <;> rfl
theorem lower_any (c : Int) (w : World) : Calls Tryz.prog 135 #[.int .u8 c] w fun e w' => e = .returned (.int .u8 (bits .or .u8 c 32)) ∧ w = w' := by
  go_enter Tryz.func135, Tryz.ntmps135
  go_wp2
  all_goals (go_ret; exact ⟨rfl, rfl⟩)
set_option maxRecDepth 100000 in
set_option maxHeartbeats 32000000 in
theorem iPu16_any (x : List UInt8) (bs : Int) (w : World) (hbs : bs = 64 ∨ bs = 32) (hx : x.all isHx = true) (h1 : 1 ≤ x.length) (h4 : x.length ≤ 4) :
    Calls Tryz.prog 101 #[.string (strL x), .int .i64 16, .int .i64 bs] w (Ret (.tuple #[.int .u64 (hxV x : Int), .nilIface]) w) := by
  have hcv := Lib.run_convert_string_bytes (P := Tryz.prog) w 9 65 5 (strL x) (u := .string) Tryz.underlying9 Tryz.underlying65 Tryz.underlying5
  have hB : ∀ j, j < x.length → (Lib.bytesWorld w 5 (strL x)).cell? ⟨w.heap.size, j, none⟩ = some (.int .u8 (x.getD j 0).toNat) := fun j hj => Lib.bytesWorld_cell w 5 (strL x) j (by rw [strL_size]; exact hj)
  have HBl := Lib.hid (Lib.bytesWorld_below w 5 (strL x))
  obtain ⟨W1, hW1⟩ : ∃ W1, W1 = Lib.bytesWorld w 5 (strL x) := ⟨_, rfl⟩
  rw [← hW1] at hcv hB HBl
  have hsz : (strL x).size = x.length := strL_size x
  have hls : (strL x).toList = x := strL_list x
  have hemp : ((strL x).toList == []) = false := by
    rw [hls]
    cases x with
    | nil => simp at h1
    | cons a l => rfl
  have hne : ¬ x = [] := by
    cases x with
    | nil => simp at h1
    | cons a l => simp
  have hem2 : x.isEmpty = false := by
    cases x with
    | nil => simp at h1
    | cons a l => rfl
  have Hx := Lib.hid hx
  have HV : Hid (hxV x = x.foldl (fun a b => a * 16 + hxD b) 0) := Lib.hid rfl
  generalize hxV x = V at *
  obtain ⟨SS, hSS⟩ : ∃ q, strL x = q := ⟨_, rfl⟩
  rw [hSS] at hcv hsz hls hemp ⊢
  clear hW1 hSS hx
  obtain ⟨n, hn⟩ : ∃ q, x.length = q := ⟨_, rfl⟩
  have Hn := Lib.hid hn
  rw [hn] at hsz h1 h4 hB
  clear hn
  have hmv : IntKind.u64.wrap (IntKind.u64.wrap 18446744073709551616 - 1) = 18446744073709551615 := by
    rw [IntKind.wrap_u64, IntKind.wrap_u64]
    decide
  go_enter Tryz.func101, Tryz.ntmps101
  rcases hbs with rfl | rfl
  all_goals
    go_wp2_with fail
    go_loop [12, 13, 101] (fun vu vn vi => ∃ (k acc : Nat) (a : Int), vu = .bool false ∧ vn = .int .u64 a ∧ vi = .int .i64 (k : Int) ∧ k ≤ n ∧ Hid (a = (acc : Int) ∧ acc < 16 ^ k ∧ V = (x.drop k).foldl (fun a b => a * 16 + hxD b) acc))
      (fun _ _ vi => n - (intOf vi).toNat)
    case atStart => exact ⟨0, 0, 0, rfl, rfl, rfl, by omega, Lib.hid ⟨rfl, by decide, HV.out⟩⟩
    case round =>
      obtain ⟨k, acc, a, rfl, rfl, rfl, hk, hh⟩ := hrel
      obtain ⟨ha, hacc, hdec⟩ := hh.out
      clear hh
      have a0 : 0 ≤ a := by omega
      by_cases hkn : k < n
      · have a1 : a < 4096 := by
          have := Nat.lt_of_lt_of_le hacc (Nat.pow_le_pow_right (by decide) (show k ≤ 3 by omega))
          omega
        have hc := hB k hkn
        have hkl : k < x.length := by rw [Hn.out]; exact hkn
        have hdrop : x.drop k = x[k]'hkl :: x.drop (k + 1) := List.drop_eq_getElem_cons hkl
        have hget : x.getD k 0 = x[k]'hkl := by simp [List.getD, List.getElem?_eq_getElem hkl]
        have hxk : isHx (x[k]'hkl) = true := List.all_eq_true.1 Hx.out _ (List.getElem_mem hkl)
        rw [hdrop, List.foldl_cons] at hdec
        rw [hget] at hc
        generalize x[k]'hkl = c at hc hdec hxk
        have hdl := hxD_lt hxk
        unfold isHx at hxk
        have hxk : (48 ≤ c.toNat ∧ c.toNat ≤ 57) ∨ (97 ≤ c.toNat ∧ c.toNat ≤ 102) ∨ (65 ≤ c.toNat ∧ c.toNat ≤ 70) := by simpa using hxk
        have HN : Hid (a * 16 + (hxD c : Int) = ((acc * 16 + hxD c : Nat) : Int) ∧ acc * 16 + hxD c < 16 ^ (k + 1) ∧ V = (x.drop (k + 1)).foldl (fun a b => a * 16 + hxD b) (acc * 16 + hxD c)) := Lib.hid ⟨by omega, by
          rw [Nat.pow_succ]
          generalize 16 ^ k = P at *
          omega, hdec⟩
        clear hB hdrop hget hacc hdec ha
        by_cases hdig : 48 ≤ c.toNat ∧ c.toNat ≤ 57
        · obtain ⟨hd0, hd1⟩ := hdig
          have hD : (hxD c : Int) = (c.toNat : Int) - 48 := by unfold hxD; rw [if_pos hd1]; omega
          rw [hD] at HN
          clear hD hdl hxk
          go_wp2_with fail
          exact ⟨⟨k + 1, acc * 16 + hxD c, a * 16 + ((c.toNat : Int) - 48), rfl, (by first | rfl | (congr 1; omega)), (by first | rfl | (congr 1; omega)), by omega, HN⟩, by simp [intOf]; omega⟩
        · have hlet : (97 ≤ c.toNat ∧ c.toNat ≤ 102) ∨ (65 ≤ c.toNat ∧ c.toNat ≤ 70) := by omega
          have hlow := low_letter hlet
          obtain ⟨lc, hlc⟩ : ∃ q, (if c.toNat ≤ 70 then c.toNat + 32 else c.toNat) = q := ⟨_, rfl⟩
          rw [hlc] at hlow
          have hl1 : 97 ≤ lc ∧ lc ≤ 102 := by rw [← hlc]; split <;> omega
          have hD : (hxD c : Int) = (lc : Int) - 97 + 10 := by
            unfold hxD
            rw [← hlc, if_neg (by omega : ¬ c.toNat ≤ 57)]
            split <;> omega
          rw [hD] at HN
          have hl2 := hl1.1
          have hl3 := hl1.2
          have hd57 : ¬ c.toNat ≤ 57 := by omega
          have hd48 : 48 ≤ c.toNat := by omega
          have hd95 : ¬ (c.toNat : Int) = 95 := by omega
          clear hD hdl hxk hlet hlc hl1 hdig
          go_wp2_with (go_at_call 135; refine (lower_any _ _).mono ?_; rintro e w' ⟨rfl, rfl⟩; rw [hlow])
          exact ⟨⟨k + 1, acc * 16 + hxD c, a * 16 + ((lc : Int) - 97 + 10), rfl, (by first | rfl | (congr 1; omega)), (by first | rfl | (congr 1; omega)), by omega, HN⟩, by simp [intOf]; omega⟩
      · obtain rfl : k = n := by omega
        have hF : V = acc := by rw [hdec, List.drop_of_length_le (by rw [Hn.out]; exact Nat.le_refl _)]; rfl
        subst ha
        subst hF
        clear hacc hdec a0
        go_wp2_with fail
        go_ret2
        exact ⟨rfl, HBl.out⟩
set_option maxRecDepth 100000 in
set_option maxHeartbeats 2000000 in
theorem pu16_any (x : List UInt8) (bs : Int) (w : World) (hbs : bs = 64 ∨ bs = 32) (hx : x.all isHx = true) (h1 : 1 ≤ x.length) (h4 : x.length ≤ 4) :
    Calls Tryz.prog 65 #[.string (strL x), .int .i64 16, .int .i64 bs] w (Ret (.tuple #[.int .u64 (hxV x : Int), .nilIface]) w) := by
  have H := Lib.hid (iPu16_any x bs w hbs hx h1 h4)
  generalize hxV x = V at *
  generalize strL x = SX at *
  clear hbs hx h1 h4
  go_enter Tryz.func65, Tryz.ntmps65
  go_wp2_with fail
  refine H.out.mono ?_
  rintro e w2 ⟨rfl, hb⟩
  have HB := Lib.hid hb
  clear hb H
  go_wp2_with fail
  go_ret2
  exact ⟨rfl, HB.out⟩
end Go.Proofs.YtcpafmndjcejjaaGreatDoor
