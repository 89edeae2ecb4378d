/-
  Keys: the program's IsKey, the reference's Key (by strings.Trim): both say keyB.
  strings.Trim of bytes of a set, as far as the reference's only asks; Key.
  The reference's Key says keyB.
  The fault of a list of reports: the program.
  The fault of a list of reports: the reference.
  slices.Equal of two rows of the same reports.
  Slices of ints: an own row, Clone, Min, Max, the numbers' faults.
  The contract of slices.Sort at ints lies with the other contracts of Go's library.
-/
import Derived.Test.YtippolfmljfleaaGreatDoorRT9
import Derived.Test.YtippolfmljfleaaGreatDoorRT6
import Derived.Test.YtippolfmljfleaaGreatDoorRT8
import Derived.Test.YtippolfmljfleaaGreatDoorRT1
import Derived.Deep.Light
import Derived.Test.YtippolfmljfleaaGreatDoorRT5
import Derived.Lib.LazyBuf
set_option linter.unusedVariables false
namespace Go.Proofs.YtippolfmljfleaaGreatDoor
open Go.RowKit Go
set_option linter.unusedVariables false

/-- a list of bytes as a string -/
def strL (L : List UInt8) : ByteArray := ⟨L.toArray⟩
theorem strL_of (s : ByteArray) : strL s.data.toList = s := by
  rcases s with ⟨⟨l⟩⟩
  rfl
theorem strL_size (L : List UInt8) : (strL L).size = L.length := by simp [strL, ByteArray.size]
theorem strL_get (L : List UInt8) (i : Nat) (x : UInt8) (hx : L[i]? = some x) (h : i < (strL L).size) : (strL L)[i]'h = x := by
  obtain ⟨h2, rfl⟩ := List.getElem?_eq_some_iff.1 hx
  rfl
theorem strL_take (L : List UInt8) (n : Nat) : (strL L).extract 0 n = strL (L.take n) := by
  unfold strL
  apply ByteArray.ext
  simp
theorem strL_drop (L : List UInt8) (m : Nat) : (strL L).extract m (strL L).size = strL (L.drop m) := by
  unfold strL
  apply ByteArray.ext
  simp [ByteArray.size]
  exact List.take_of_length_le (by simp)
theorem wrap_i64R (x : Nat) (h : x < 9223372036854775808) : IntKind.i64.wrap (x : Int) = (x : Int) := by
  rw [IntKind.wrap_i64]
  omega
def okAt (i : Nat) (c : UInt8) : Bool := smallC c || (decide (0 < i) && (digitC c || c == 45 || c == 95))
theorem okAt_key {L : List UInt8} (h : ∀ (j : Nat) (c : UInt8), L[j]? = some c → okAt j c = true) : keyB L = decide (1 ≤ L.length ∧ L.length ≤ 40) := by
  have h1 : (L.take 1).all smallC = true := by
    cases L with
    | nil => rfl
    | cons x l =>
      have := h 0 x rfl
      simp [okAt] at this
      simp [this]
  have h2 : L.all keyC = true := by
    rw [List.all_eq_true]
    intro c hc
    obtain ⟨j, hj, rfl⟩ := List.getElem_of_mem hc
    have := h j _ (List.getElem?_eq_getElem hj)
    unfold okAt at this
    unfold keyC
    cases hs : smallC L[j]
    · rw [hs] at this
      simp at this
      simp [this.2]
    · rfl
  unfold keyB
  rw [h1, h2]; simp
theorem okAt_bad {L : List UInt8} {j : Nat} {c : UInt8} (hc : L[j]? = some c) (h : okAt j c = false) : keyB L = false := by
  unfold okAt at h
  have hs : smallC c = false := by cases hs : smallC c <;> simp_all
  have hm : c ∈ L := List.mem_of_getElem? hc
  cases j with
  | zero =>
    cases L with
    | nil => cases hc
    | cons x l =>
      have : x = c := by simpa using hc
      subst this
      unfold keyB
      simp [hs]
  | succ j =>
    have hk : keyC c = false := by
      rw [hs] at h
      simp at h
      unfold keyC
      simp [hs, h]
    have : L.all keyC = false := by
      rw [List.all_eq_false]
      exact ⟨c, hm, by simp [hk]⟩
    unfold keyB
    rw [this]; simp
theorem u8_le (a b : UInt8) : a ≤ b ↔ (a.toNat : Int) ≤ (b.toNat : Int) := by rw [UInt8.le_iff_toNat_le]; omega
theorem okAt_int (i : Nat) (c : UInt8) : okAt i c = (decide ((97 : Int) ≤ (c.toNat : Int) ∧ (c.toNat : Int) ≤ 122) || (decide (0 < i) && (decide ((48 : Int) ≤ (c.toNat : Int) ∧ (c.toNat : Int) ≤ 57) || decide ((c.toNat : Int) = 45) || decide ((c.toNat : Int) = 95)))) := by
  have e1 : smallC c = decide ((97 : Int) ≤ (c.toNat : Int) ∧ (c.toNat : Int) ≤ 122) := by
    unfold smallC
    rw [Bool.eq_iff_iff]; simp [u8_le]
  have e2 : digitC c = decide ((48 : Int) ≤ (c.toNat : Int) ∧ (c.toNat : Int) ≤ 57) := by
    unfold digitC
    rw [Bool.eq_iff_iff]; simp [u8_le]
  have e3 : (c == 45) = decide ((c.toNat : Int) = 45) := by
    rw [Bool.eq_iff_iff]; simp [← UInt8.toNat_inj]; omega
  have e4 : (c == 95) = decide ((c.toNat : Int) = 95) := by
    rw [Bool.eq_iff_iff]; simp [← UInt8.toNat_inj]; omega
  unfold okAt
  rw [e1, e2, e3, e4]
set_option maxRecDepth 100000 in
set_option maxHeartbeats 4000000 in
theorem isKey_any (L : List UInt8) (w : World) (hL : L.length ≤ 1000000) : Calls Tryz.prog 81 #[.string (strL L)] w fun e w' => e = .returned (.bool (keyB L)) ∧ w' = w := by
  obtain ⟨B, hB⟩ : ∃ B, keyB L = B := ⟨_, rfl⟩
  have HBad : Hid (∀ (j : Nat) (c : UInt8), L[j]? = some c → okAt j c = false → B = false) := Lib.hid fun j c h1 h2 => by rw [← hB]; exact okAt_bad h1 h2
  have HKey : Hid ((∀ (j : Nat) (c : UInt8), L[j]? = some c → okAt j c = true) → B = decide (1 ≤ L.length ∧ L.length ≤ 40)) := Lib.hid fun h => by rw [← hB]; exact okAt_key h
  rw [hB]
  clear hB
  have HIx := Lib.hid fun (i : Nat) (x : UInt8) hx h => strL_get L i x hx h
  have hsz := strL_size L
  generalize strL L = S at *
  obtain ⟨n, hn⟩ : ∃ n, L.length = n := ⟨_, rfl⟩
  have Hn := Lib.hid hn
  rw [hn] at hsz hL HKey
  clear hn
  go_enter Tryz.func81, Tryz.ntmps81
  go_wp2_with fail
  go_loop [3, 4] (fun i c => ∃ k : Nat, k ≤ n ∧ i = .int .i64 (k : Int) ∧ Hid (∀ (j : Nat) (c : UInt8), j < k → L[j]? = some c → okAt j c = true)) (fun i _ => n - (intOf i).toNat)
  case atStart => exact ⟨0, Nat.zero_le _, rfl, Lib.hid fun j c hj => absurd hj (Nat.not_lt_zero _)⟩
  case round =>
    obtain ⟨k, hk, rfl, HA⟩ := hrel
    by_cases hlt : k < n
    · obtain ⟨x, hx⟩ : ∃ x, L[k]? = some x := ⟨_, List.getElem?_eq_getElem (by rw [Hn.out]; exact hlt)⟩
      have hix : ∀ h : k < S.size, (((S[k]'h).toNat : Nat) : Int) = (x.toNat : Int) := fun h => by rw [HIx.out k x hx h]
      have HB := Lib.hid (HBad.out k x hx)
      have HN : Hid (okAt k x = true → ∀ (j : Nat) (c : UInt8), j < k + 1 → L[j]? = some c → okAt j c = true) := Lib.hid fun h j c hj hc => by
        rcases Nat.lt_or_ge j k with h1 | h1
        · exact HA.out j c h1 hc
        · obtain rfl : j = k := by omega
          rw [hx] at hc
          injection hc with hc
          rw [← hc]; exact h
      have HO := Lib.hid (okAt_int k x)
      obtain ⟨v, hv⟩ : ∃ v : Int, (x.toNat : Int) = v := ⟨_, rfl⟩
      rw [hv] at hix HO
      clear hx hv HA HBad HKey HIx
      by_cases h1 : 97 ≤ v
      · by_cases h2 : v ≤ 122
        · have HN2 := Lib.hid (HN.out (by rw [HO.out]; simp [h1, h2]))
          clear HN HB HO
          go_wp2_with fail
          exact ⟨⟨k + 1, by omega, by go_num, HN2⟩, by simp [intOf]; omega⟩
        · have HB2 := HB.out (by rw [HO.out]; simp; omega)
          subst HB2
          clear HN HB HO
          have g2 : (v ≤ 122) = False := eq_false h2
          rcases Nat.eq_zero_or_pos k with rfl | h3
          · go_wp2_with fail
            go_ret
            exact ⟨rfl, rfl⟩
          · have h4 : 48 ≤ v := by omega
            have h9 : (0 : Int) < (k : Int) := by omega
            have h5 : (v ≤ 57) = False := eq_false (by omega)
            have h6 : (v == 45) = false := beq_eq_false_iff_ne.2 (by omega)
            have h7 : (v == 95) = false := beq_eq_false_iff_ne.2 (by omega)
            go_wp2_with fail
            go_ret
            exact ⟨rfl, rfl⟩
      · have g1 : (97 ≤ v) = False := eq_false h1
        rcases Nat.eq_zero_or_pos k with rfl | h3
        · have HB2 := HB.out (by rw [HO.out]; simp; omega)
          subst HB2
          clear HN HB HO
          go_wp2_with fail
          go_ret
          exact ⟨rfl, rfl⟩
        · have h9 : (0 : Int) < (k : Int) := by omega
          by_cases h4 : 48 ≤ v ∧ v ≤ 57
          · obtain ⟨h4, h5⟩ := h4
            have HN2 := Lib.hid (HN.out (by rw [HO.out]; simp [h3, h4, h5]))
            clear HN HB HO
            go_wp2_with fail
            exact ⟨⟨k + 1, by omega, by go_num, HN2⟩, by simp [intOf]; omega⟩
          · by_cases h6 : v = 45
            · have HN2 := Lib.hid (HN.out (by rw [HO.out]; simp [h3, h6]))
              clear HN HB HO
              subst h6
              go_wp2_with fail
              exact ⟨⟨k + 1, by omega, by go_num, HN2⟩, by simp [intOf]; omega⟩
            · by_cases h7 : v = 95
              · have HN2 := Lib.hid (HN.out (by rw [HO.out]; simp [h3, h7]))
                clear HN HB HO
                subst h7
                go_wp2_with fail
                exact ⟨⟨k + 1, by omega, by go_num, HN2⟩, by simp [intOf]; omega⟩
              · have HB2 := HB.out (by rw [HO.out]; simp; omega)
                subst HB2
                clear HN HB HO
                have g6 : (v == 45) = false := beq_eq_false_iff_ne.2 h6
                have g7 : (v == 95) = false := beq_eq_false_iff_ne.2 h7
                by_cases h5 : 48 ≤ v
                · have h8 : (v ≤ 57) = False := eq_false (by omega)
                  go_wp2_with fail
                  go_ret
                  exact ⟨rfl, rfl⟩
                · have g5 : (48 ≤ v) = False := eq_false h5
                  go_wp2_with fail
                  go_ret
                  exact ⟨rfl, rfl⟩
    · obtain rfl : k = n := by omega
      have HK2 := (HKey.out fun j c hc => HA.out j c (by have := (List.getElem?_eq_some_iff.1 hc).1; rw [Hn.out] at this; exact this) hc)
      clear HA HKey HBad HIx
      rcases Nat.eq_zero_or_pos k with rfl | h3
      · have e : decide (1 ≤ 0 ∧ 0 ≤ 40) = false := by decide
        rw [e] at HK2
        subst HK2
        have hS : S = ⟨#[]⟩ := by
          rcases S with ⟨⟨l⟩⟩
          cases l with
          | nil => rfl
          | cons a l => simp [ByteArray.size] at hsz
        subst hS
        go_wp2_with fail
        go_ret
        exact ⟨rfl, rfl⟩
      · have hne : (S.toList == []) = false := by
          rw [ByteArray.toList_eq]
          rcases S with ⟨⟨l⟩⟩
          cases l with
          | nil => simp [ByteArray.size] at hsz; omega
          | cons a l => rfl
        by_cases h4 : k ≤ 40
        · have h5 : (k : Int) ≤ 40 := by omega
          have e : decide (1 ≤ k ∧ k ≤ 40) = true := by simp; omega
          rw [e] at HK2
          subst HK2
          go_wp2_with fail
          go_ret
          exact ⟨rfl, rfl⟩
        · have h5 : ((k : Int) ≤ 40) = False := eq_false (by omega)
          have e : decide (1 ≤ k ∧ k ≤ 40) = false := by simp; omega
          rw [e] at HK2
          subst HK2
          go_wp2_with fail
          go_ret
          exact ⟨rfl, rfl⟩
end Go.Proofs.YtippolfmljfleaaGreatDoor

namespace Go.Proofs.YtippolfmljfleaaGreatDoor
open Go.RowKit Go
set_option linter.unusedVariables false

theorem size_ascii : (Tryz.prog.info? 152).map (·.size) = some 256 := by kernel_rfl
theorem zero_ascii (w : World) : (zeroValue 152).run Tryz.prog w = .ok (.agg (Array.replicate 256 (.bool false))) w := by kernel_rfl
set_option maxRecDepth 100000 in
set_option maxHeartbeats 4000000 in
theorem trimRA_any (L : List UInt8) (b : Nat) (q : UInt8 → Bool) (w : World) (hL : L.length ≤ 1000000) (hb : ∀ x : UInt8, w.cell? ⟨b, x.toNat, none⟩ = some (.bool (q x))) :
    Calls Tryz.prog 138 #[.string (strL L), .pointer (some ⟨b, 0, none⟩)] w fun e w' => w' = w ∧ ∃ n, n ≤ L.length ∧ e = .returned (.string (strL (L.take n))) ∧ (∀ (j : Nat) (x : UInt8), n ≤ j → L[j]? = some x → q x = true) ∧ (∀ x, L[n - 1]? = some x → 1 ≤ n → q x = false) := by
  have HC := Lib.hid fun x => Tryz.asciiSet_contains b x (q x) w (hb x)
  clear hb
  obtain ⟨N, hN⟩ : ∃ n, L.length = n := ⟨_, rfl⟩
  have HN := Lib.hid hN
  rw [hN] at hL ⊢
  clear hN
  go_enter Tryz.func138, Tryz.ntmps138
  go_wp2_with fail
  go_loop [0] (fun s => ∃ n : Nat, n ≤ N ∧ s = .string (strL (L.take n)) ∧ Hid (∀ (j : Nat) (x : UInt8), n ≤ j → L[j]? = some x → q x = true)) (fun s => match s with | .string c => c.size | _ => 0)
  case atStart => exact ⟨N, Nat.le_refl _, by rw [List.take_of_length_le (by rw [HN.out]; exact Nat.le_refl _)], Lib.hid fun j x h1 h2 => by have := (List.getElem?_eq_some_iff.1 h2).1; rw [HN.out] at this; omega⟩
  case round =>
    obtain ⟨n, hn, rfl, HA⟩ := hrel
    have hsz : (strL (L.take n)).size = n := by rw [strL_size, List.length_take, HN.out]; omega
    rcases Nat.eq_zero_or_pos n with h0 | h0
    · subst h0
      obtain ⟨S, hS⟩ : ∃ S, strL (L.take 0) = S := ⟨_, rfl⟩
      have HS := Lib.hid hS
      rw [hS] at hsz ⊢
      clear hS
      go_wp2_with fail
      go_ret
      exact ⟨rfl, 0, Nat.zero_le _, by rw [HS.out]; rfl, HA.out, fun x _ h => absurd h (by omega)⟩
    · obtain ⟨m, rfl⟩ : ∃ m, n = m + 1 := ⟨n - 1, by omega⟩
      obtain ⟨x, hx⟩ : ∃ x, L[m]? = some x := ⟨_, List.getElem?_eq_getElem (by rw [HN.out]; omega)⟩
      have hix : ∀ h : m < (strL (L.take (m + 1))).size, (((strL (L.take (m + 1)))[m]'h).toNat : Int) = ((x.toNat : Nat) : Int) := fun h => by rw [strL_get (L.take (m + 1)) m x (by rw [List.getElem?_take, if_pos (by omega)]; exact hx) h]
      have hcut : (strL (L.take (m + 1))).extract 0 m = strL (L.take m) := by rw [strL_take, List.take_take, Nat.min_eq_left (by omega)]
      have hsz2 : (strL (L.take m)).size = m := by rw [strL_size, List.length_take, HN.out]; omega
      have HCx := Lib.hid (HC.out x)
      obtain ⟨S, hS⟩ : ∃ S, strL (L.take (m + 1)) = S := ⟨_, rfl⟩
      have HS := Lib.hid hS
      obtain ⟨S2, hS2⟩ : ∃ S, strL (L.take m) = S := ⟨_, rfl⟩
      have HS2 := Lib.hid hS2
      have Hx := Lib.hid hx
      rw [hS] at hsz hix hcut ⊢
      rw [hS2] at hcut hsz2
      clear hS hS2 hx
      have e1 : (((m + 1 : Nat) : Int) - 1) = (m : Int) := by omega
      have e2 : IntKind.i64.wrap (m : Int) = (m : Int) := wrap_i64R m (by omega)
      have e3 : wrap64 (((m + 1 : Nat) : Int) - 1) = (m : Int) := by unfold wrap64; omega
      cases hq : q x
      · have HQ := Lib.hid hq
        rw [hq] at HCx
        clear hq
        go_wp2_with fail
        refine HCx.out.mono ?_
        rintro e w2 ⟨rfl, rfl⟩
        go_wp2_with fail
        go_ret
        exact ⟨rfl, m + 1, hn, by rw [HS.out]; rfl, HA.out, fun y hy _ => by
          rw [show m + 1 - 1 = m from rfl, Hx.out] at hy
          injection hy with hy
          rw [← hy]; exact HQ.out⟩
      · have HQ := Lib.hid hq
        rw [hq] at HCx
        clear hq
        go_wp2_with fail
        refine HCx.out.mono ?_
        rintro e w2 ⟨rfl, rfl⟩
        go_wp2_with fail
        refine ⟨⟨m, by omega, by first | rfl | rw [HS2.out], Lib.hid fun j y h1 h2 => ?_⟩, by simp [hsz, hsz2]⟩
        rcases Nat.eq_or_lt_of_le h1 with h | h
        · subst h
          rw [Hx.out] at h2
          injection h2 with h2
          rw [← h2]; exact HQ.out
        · exact HA.out j y h h2
set_option maxRecDepth 100000 in
set_option maxHeartbeats 4000000 in
theorem trimLA_any (L : List UInt8) (b : Nat) (q : UInt8 → Bool) (w : World) (hL : L.length ≤ 1000000) (hb : ∀ x : UInt8, w.cell? ⟨b, x.toNat, none⟩ = some (.bool (q x))) :
    Calls Tryz.prog 137 #[.string (strL L), .pointer (some ⟨b, 0, none⟩)] w fun e w' => w' = w ∧ ∃ n, e = .returned (.string (strL (L.drop n))) ∧ (∀ (j : Nat) (x : UInt8), j < n → L[j]? = some x → q x = true) := by
  have HC := Lib.hid fun x => Tryz.asciiSet_contains b x (q x) w (hb x)
  clear hb
  obtain ⟨N, hN⟩ : ∃ n, L.length = n := ⟨_, rfl⟩
  have HN := Lib.hid hN
  rw [hN] at hL
  clear hN
  go_enter Tryz.func137, Tryz.ntmps137
  go_wp2_with fail
  go_loop [0] (fun s => ∃ n : Nat, n ≤ N ∧ s = .string (strL (L.drop n)) ∧ Hid (∀ (j : Nat) (x : UInt8), j < n → L[j]? = some x → q x = true)) (fun s => match s with | .string c => c.size | _ => 0)
  case atStart => exact ⟨0, Nat.zero_le _, rfl, Lib.hid fun j x h1 => absurd h1 (Nat.not_lt_zero _)⟩
  case round =>
    obtain ⟨n, hn, rfl, HA⟩ := hrel
    have hsz : (strL (L.drop n)).size = N - n := by rw [strL_size, List.length_drop, HN.out]
    by_cases h0 : n < N
    · obtain ⟨x, hx⟩ : ∃ x, L[n]? = some x := ⟨_, List.getElem?_eq_getElem (by rw [HN.out]; exact h0)⟩
      have hix : ∀ h : 0 < (strL (L.drop n)).size, (((strL (L.drop n))[0]'h).toNat : Int) = ((x.toNat : Nat) : Int) := fun h => by rw [strL_get (L.drop n) 0 x (by rw [List.getElem?_drop]; exact hx) h]
      have hcut : (strL (L.drop n)).extract 1 (N - n) = strL (L.drop (n + 1)) := by rw [← hsz, strL_drop, List.drop_drop]
      have hsz2 : (strL (L.drop (n + 1))).size = N - (n + 1) := by rw [strL_size, List.length_drop, HN.out]
      have HCx := Lib.hid (HC.out x)
      obtain ⟨S, hS⟩ : ∃ S, strL (L.drop n) = S := ⟨_, rfl⟩
      have HS := Lib.hid hS
      obtain ⟨S2, hS2⟩ : ∃ S, strL (L.drop (n + 1)) = S := ⟨_, rfl⟩
      have HS2 := Lib.hid hS2
      have Hx := Lib.hid hx
      rw [hS] at hsz hix hcut ⊢
      rw [hS2] at hcut hsz2
      clear hS hS2 hx
      have b1 : (0 : Int) < ((N - n : Nat) : Int) := by omega
      have b2 : (1 : Int) ≤ ((N - n : Nat) : Int) := by omega
      cases hq : q x
      · have HQ := Lib.hid hq
        rw [hq] at HCx
        clear hq
        go_wp2_with fail
        refine HCx.out.mono ?_
        rintro e w2 ⟨rfl, rfl⟩
        go_wp2_with fail
        go_ret
        exact ⟨rfl, n, by rw [HS.out]; rfl, HA.out⟩
      · have HQ := Lib.hid hq
        rw [hq] at HCx
        clear hq
        go_wp2_with fail
        refine HCx.out.mono ?_
        rintro e w2 ⟨rfl, rfl⟩
        go_wp2_with fail
        refine ⟨⟨n + 1, by omega, by first | rfl | rw [HS2.out], Lib.hid fun j y h1 h2 => ?_⟩, by simp [hsz, hsz2]; omega⟩
        rcases Nat.lt_or_ge j n with h | h
        · exact HA.out j y h h2
        · obtain rfl : j = n := by omega
          rw [Hx.out] at h2
          injection h2 with h2
          rw [← h2]; exact HQ.out
    · obtain rfl : n = N := by omega
      rw [Nat.sub_self] at hsz
      obtain ⟨S, hS⟩ : ∃ S, strL (L.drop n) = S := ⟨_, rfl⟩
      have HS := Lib.hid hS
      rw [hS] at hsz ⊢
      clear hS
      go_wp2_with fail
      go_ret
      exact ⟨rfl, n, by rw [HS.out]; rfl, HA.out⟩
theorem trim_empty {L : List UInt8} {q : UInt8 → Bool} {n m : Nat} (hn : n ≤ L.length) (h1 : ∀ (j : Nat) (x : UInt8), n ≤ j → L[j]? = some x → q x = true) (h2 : ∀ x, L[n - 1]? = some x → 1 ≤ n → q x = false)
    (h3 : ∀ (j : Nat) (x : UInt8), j < m → (L.take n)[j]? = some x → q x = true) : ((L.take n).drop m = []) ↔ (L.all q = true) := by
  constructor
  · intro h
    rw [List.all_eq_true]
    intro c hc
    obtain ⟨j, hj, rfl⟩ := List.getElem_of_mem hc
    rcases Nat.lt_or_ge j n with h4 | h4
    · have hl : ((L.take n).drop m).length = 0 := by rw [h]; rfl
      rw [List.length_drop, List.length_take] at hl
      exact h3 j _ (by omega) (by rw [List.getElem?_take, if_pos h4]; exact List.getElem?_eq_getElem hj)
    · exact h1 j _ h4 (List.getElem?_eq_getElem hj)
  · intro h
    rw [List.all_eq_true] at h
    have h0 : n = 0 := by
      rcases Nat.eq_zero_or_pos n with h4 | h4
      · exact h4
      · have hx := List.getElem?_eq_getElem (l := L) (i := n - 1) (by omega)
        have := h2 _ hx h4
        rw [h _ (List.getElem_mem _)] at this
        cases this
    subst h0
    simp
theorem strL_nil {L : List UInt8} : (strL L).toList = [] ↔ L = [] := by
  rw [ByteArray.toList_eq]
  exact Iff.rfl
/-- what the program's set is made of -/
def asciiB (S : List UInt8) : Prop := ∀ (j : Nat) b, S[j]? = some b → b.toNat < 128
set_option maxRecDepth 100000 in
set_option maxHeartbeats 1000000 in
theorem trim_any (L S : List UInt8) (w : World) (hL : L.length ≤ 1000000) (hS : 2 ≤ S.length ∧ S.length ≤ 1000) (ha : asciiB S) (B : Bool) (hB : L.all S.contains = B) :
    Calls Tryz.prog 101 #[.string (strL L), .string (strL S)] w fun e w' => ∃ M : List UInt8, e = .returned (.string (strL M)) ∧ (M = [] ↔ B = true) ∧ Below w.heap.size w w' := by
  have HM := Lib.hid (Tryz.strings_makeASCIISet zero_ascii (strL S) w (by rw [strL_size]; omega) ha)
  have hsS : (strL S).size = S.length := strL_size S
  have hSd : (strL S).data.toList = S := rfl
  rw [hSd] at HM
  have HSz : Hid ((Lib.setCells S).size = 256) := Lib.hid (Lib.setCells_size S)
  have HSo : Hid ((Lib.setCells S).all (·.oneCell') = true) := Lib.hid (by rw [Lib.setCells_eq, Array.all_eq_true]; intro i hi; simp [Value.oneCell'])
  have HAt : Hid (∀ x : UInt8, (Lib.setCells S)[x.toNat]? = some (.bool (S.contains x))) := Lib.hid (Lib.setCells_at S)
  have hne : ((strL S).toList == []) = false := by
    rw [ByteArray.toList_eq]
    show (S == []) = false
    cases S with
    | nil => simp at hS
    | cons a l => rfl
  have h2 : ((S.length : Int) == 1) = false := beq_eq_false_iff_ne.2 (by omega)
  have HB := Lib.hid hB
  generalize Lib.setCells S = X at *
  obtain ⟨SS, hSS⟩ : ∃ x, strL S = x := ⟨_, rfl⟩
  rw [hSS] at hne hsS HM ⊢
  by_cases hL0 : L = []
  · subst hL0
    have hB1 : B = true := HB.out.symm
    go_enter Tryz.func101, Tryz.ntmps101
    have e : (strL []).toList = [] := by rw [ByteArray.toList_eq]; rfl
    go_wp2_with fail
    go_ret
    exact ⟨[], rfl, by simp [hB1], Below.refl _ _⟩
  · have hLn : ((strL L).toList == []) = false := by
      rw [ByteArray.toList_eq]
      show (L == []) = false
      cases L with
      | nil => exact absurd rfl hL0
      | cons a l => rfl
    have HR := Lib.hid fun b wx h => trimRA_any L b S.contains wx hL h
    have HL := Lib.hid fun n b wx h => trimLA_any (L.take n) b S.contains wx (by rw [List.length_take]; omega) h
    have HE := Lib.hid fun n m h1 h2 h3 h4 => trim_empty (L := L) (q := S.contains) (n := n) (m := m) h1 h2 h3 h4
    obtain ⟨LL, hLL⟩ : ∃ x, strL L = x := ⟨_, rfl⟩
    rw [hLL] at hLn HR ⊢
    clear hLL hSS hSd hL0 hB
    go_enter Tryz.func101, Tryz.ntmps101
    go_wp2_with fail
    refine HM.out.mono ?_
    rintro e w1 ⟨rfl, rfl⟩
    have HB1 : Hid (Below w.heap.size w ((w.alloc (.cells X 152)).alloc (.cells X 152 (0, 0)))) := Lib.hid (below_alloc (below_alloc (Below.refl _ _) _) _)
    have HP1 : Hid (Blk ((w.alloc (.cells X 152)).alloc (.cells X 152 (0, 0))) (w.heap.size + 1) 152 X) := Lib.hid (by
      have := Blk.new (w.alloc (.cells X 152)) 152 X
      rw [World.size_alloc] at this
      exact this)
    go_upto_region 6 with (refine wpList_var X 152 zero_ascii rfl rfl rfl _ _ rfl _ rfl ?_ ?_ 256 size_ascii HSz.out ?_ HSo.out ?_; all_goals (try rfl); try go_simp)
    generalize (w.alloc (.cells X 152)).alloc (.cells X 152 (0, 0)) = w2 at *
    generalize w.heap.size + 1 = bx at HP1 ⊢
    have hcell : ∀ x : UInt8, w2.cell? ⟨bx, x.toNat, none⟩ = some (.bool (S.contains x)) := fun x => (HP1.out.cell x.toNat).trans (HAt.out x)
    have HR2 := Lib.hid (HR.out bx w2 hcell)
    have HL2 := Lib.hid fun n => HL.out n bx w2 hcell
    clear hcell HR HL HM HAt HP1 HSz HSo
    go_wp2_with fail
    refine HR2.out.mono ?_
    rintro e w3 ⟨rfl, n, hn, rfl, k1, k2⟩
    have HK := Lib.hid (And.intro hn (And.intro k1 k2))
    clear hn k1 k2 HR2
    go_wp2_with fail
    refine (HL2.out n).mono ?_
    rintro e w3 ⟨rfl, m, rfl, k3⟩
    have HI := Lib.hid (HE.out n m HK.out.1 HK.out.2.1 HK.out.2.2 k3)
    clear k3 HK HE HL2
    go_wp2_with fail
    go_ret
    exact ⟨_, rfl, by rw [HI.out, HB.out], HB1.out⟩
set_option maxRecDepth 100000 in
set_option maxHeartbeats 1000000 in
theorem only_any (L S : List UInt8) (w : World) (hL : L.length ≤ 1000000) (hS : 2 ≤ S.length ∧ S.length ≤ 1000) (ha : asciiB S) :
    Calls Tryz.prog 85 #[.string (strL L), .string (strL S)] w (Ret (.bool (L.all S.contains)) w) := by
  obtain ⟨B, hB⟩ : ∃ B, L.all S.contains = B := ⟨_, rfl⟩
  rw [hB]
  have hT := trim_any L S w hL hS ha B hB
  have HT := Lib.hid hT
  clear hT hB hS hL ha
  go_enter Tryz.func85, Tryz.ntmps85
  go_wp2_with fail
  refine HT.out.mono ?_
  rintro e w2 ⟨M, rfl, hM, hb⟩
  have HB2 := Lib.hid hb
  clear hb
  have hE : ((strL M).toList == []) = B := by
    rw [Bool.eq_iff_iff, ← hM]
    simp [strL_nil]
  generalize strL M = SM at *
  clear hM
  go_wp2_with fail
  go_ret
  exact ⟨rfl, HB2.out⟩
end Go.Proofs.YtippolfmljfleaaGreatDoor

namespace Go.Proofs.YtippolfmljfleaaGreatDoor
open Go.RowKit Go
set_option linter.unusedVariables false

def smallsL : List UInt8 := [97, 98, 99, 100, 101, 102, 103, 104, 105, 106, 107, 108, 109, 110, 111, 112, 113, 114, 115, 116, 117, 118, 119, 120, 121, 122]
def keysL : List UInt8 := [97, 98, 99, 100, 101, 102, 103, 104, 105, 106, 107, 108, 109, 110, 111, 112, 113, 114, 115, 116, 117, 118, 119, 120, 121, 122] ++ [48, 49, 50, 51, 52, 53, 54, 55, 56, 57, 45, 95]
theorem byte_all (p : UInt8 → Bool) (h : ∀ n : Fin 256, p (UInt8.ofNat n.val) = true) (c : UInt8) : p c = true := by
  have := h ⟨c.toNat, c.toNat_lt⟩
  simpa using this
theorem small_set (c : UInt8) : smallC c = smallsL.contains c := by
  have := byte_all (fun c => smallC c == smallsL.contains c) (by decide +kernel) c
  simpa using this
theorem key_set (c : UInt8) : keyC c = keysL.contains c := by
  have := byte_all (fun c => keyC c == keysL.contains c) (by decide +kernel) c
  simpa using this
theorem smalls_ascii : asciiB smallsL := fun j b h => by
  have hm : b ∈ smallsL := List.mem_of_getElem? h
  revert hm b
  intro b _ hm
  exact (by decide +kernel : ∀ b ∈ smallsL, b.toNat < 128) b hm
theorem keys_ascii : asciiB keysL := fun j b h => (by decide +kernel : ∀ b ∈ keysL, b.toNat < 128) b (List.mem_of_getElem? h)
set_option maxRecDepth 100000 in
set_option maxHeartbeats 1000000 in
theorem qKey_any (L : List UInt8) (w : World) (hL : L.length ≤ 1000000) : Calls Tryz.prog 46 #[.string (strL L)] w (Ret (.bool (keyB L)) w) := by
  obtain ⟨B, hB⟩ : ∃ B, keyB L = B := ⟨_, rfl⟩
  rw [hB]
  have HO1 := Lib.hid fun wx => only_any (L.take 1) smallsL wx (by rw [List.length_take]; omega) (by decide) smalls_ascii
  have HO2 := Lib.hid fun wx => only_any L keysL wx hL (by decide) keys_ascii
  have e1 : (L.take 1).all smallsL.contains = (L.take 1).all smallC := by congr 1; funext c; exact (small_set c).symm
  have e2 : L.all keysL.contains = L.all keyC := by congr 1; funext c; exact (key_set c).symm
  rw [e1] at HO1
  rw [e2] at HO2
  clear e1 e2
  have HI := Lib.hid fun wx => in_any (L.length : Int) 1 40 wx
  have hsz := strL_size L
  have hcut := strL_take L 1
  have hX1 : strL smallsL = ⟨#[97, 98, 99, 100, 101, 102, 103, 104, 105, 106, 107, 108, 109, 110, 111, 112, 113, 114, 115, 116, 117, 118, 119, 120, 121, 122]⟩ := rfl
  have hX2 : strL keysL = ⟨#[97, 98, 99, 100, 101, 102, 103, 104, 105, 106, 107, 108, 109, 110, 111, 112, 113, 114, 115, 116, 117, 118, 119, 120, 121, 122, 48, 49, 50, 51, 52, 53, 54, 55, 56, 57, 45, 95]⟩ := rfl
  rw [hX1] at HO1
  rw [hX2] at HO2
  clear hX1 hX2
  have HK : Hid ((decide (1 ≤ L.length ∧ L.length ≤ 40) && (L.take 1).all smallC && L.all keyC) = B) := Lib.hid hB
  generalize (L.take 1).all smallC = A1 at *
  generalize L.all keyC = A2 at *
  generalize strL (L.take 1) = S1 at *
  generalize strL L = S at *
  generalize L.length = n at *
  clear hB
  by_cases hn : 1 ≤ n ∧ n ≤ 40
  · have hin : inB (n : Int) 1 40 = true := by unfold inB; simp; omega
    rw [hin] at HI
    have b1 : (1 : Int) ≤ (n : Int) := by omega
    have hK := HK.out
    rw [show decide (1 ≤ n ∧ n ≤ 40) = true by simp; omega, Bool.true_and] at hK
    clear hin HK
    go_enter Tryz.func46, Tryz.ntmps46
    go_wp2_with fail
    refine (HI.out _).mono ?_
    rintro e w' ⟨rfl, rfl⟩
    go_wp2_with fail
    refine (HO1.out _).mono ?_
    rintro e w2 ⟨rfl, hb⟩
    have HB2 := Lib.hid hb
    clear hb
    cases A1
    · have : B = false := by rw [← hK]; rfl
      subst this
      clear hK
      go_wp2_with fail
      go_ret
      exact ⟨rfl, HB2.out⟩
    · have : B = A2 := by rw [← hK]; rfl
      subst this
      clear hK
      go_wp2_with fail
      refine (HO2.out _).mono ?_
      rintro e w3 ⟨rfl, hb⟩
      have HB3 := Lib.hid (HB2.out.trans (hb.mono HB2.out.size))
      clear hb HB2
      go_wp2_with fail
      go_ret
      exact ⟨rfl, HB3.out⟩
  · have hin : inB (n : Int) 1 40 = false := by unfold inB; simp; omega
    rw [hin] at HI
    have hK := HK.out
    rw [show decide (1 ≤ n ∧ n ≤ 40) = false by simp; omega, Bool.false_and, Bool.false_and] at hK
    subst hK
    clear hin HK
    go_enter Tryz.func46, Tryz.ntmps46
    go_wp2_with fail
    refine (HI.out _).mono ?_
    rintro e w' ⟨rfl, rfl⟩
    go_wp2_with fail
    go_ret
    exact ⟨rfl, Below.refl _ _⟩
end Go.Proofs.YtippolfmljfleaaGreatDoor

namespace Go.Proofs.YtippolfmljfleaaGreatDoor
open Go.RowKit Go
set_option linter.unusedVariables false

theorem wpList_var3R {P : Program} {ops : Array Oper} {rest : List Oper} {o1 o2 o3 : Oper} {a : Act} {Q : Exit → Act → World → Prop} {w : World} (c' : Array Value) (ty : TypeId) {z : Value} (hz : ∀ w, (zeroValue ty).run P w = .ok z w)
    (h1 : o1.guard = none) (e1 : o1.op = .alloc ty) (h2 : o2.guard = none) (u : Operand) (e2 : o2.op = .assign u) (h3 : o3.guard = none) (x y : Operand) (e3 : o3.op = .store ty x y) (d : Option Tmp) (hd : o1.dst = d) (a2 : Act) (ha2 : a2 = ((a.put d (.pointer (some ⟨w.heap.size, 0, none⟩))).put o2.dst ((a.put d (.pointer (some ⟨w.heap.size, 0, none⟩))).eval u)))
    (hx : a2.eval x = .pointer (some ⟨w.heap.size, 0, none⟩)) (hy : a2.eval y = .agg c')
    (m : Nat) (hi : (P.info? ty).map (·.size) = some m) (hm : c'.size = m) (hs : z.cells.size = m) (hone : c'.all (·.oneCell') = true)
    (h : wpList P ops Q rest (a2.put o3.dst undef) (w.alloc (.cells c' ty (0, 0)))) : wpList P ops Q (o1 :: o2 :: o3 :: rest) a w := by
  subst hd hm ha2
  refine wpList_plain h1 fun K hK => ?_
  unfold Oper.wp execOp
  simp only [e1, Sem.run_bind, alloc_of hz w, Sem.run_pure, Result.andThen_ok]
  refine hK _ _ (wpList_plain h2 fun K2 hK2 => ?_)
  unfold Oper.wp execOp
  simp only [e2, Sem.run_pure]
  exact hK2 _ _ (wpList_store_newb h3 ty x y e3 hx hy hi hs hone h)
/-- the report ahead of the k-th one -/
def prevR (L : List RB) (k : Nat) : Option RB := if k = 0 then none else L[k - 1]?
theorem prevR_succ {L : List RB} {k : Nat} {x : RB} (h : L[k]? = some x) : prevR L (k + 1) = some x := by
  unfold prevR
  rw [if_neg (by omega)]
  exact h
theorem scanRF_step {L : List RB} {k : Nat} {x : RB} (h : L[k]? = some x) : scanRF (prevR L k) (L.drop k) = if afterRF (prevR L k) x ≠ 0 then afterRF (prevR L k) x else scanRF (prevR L (k + 1)) (L.drop (k + 1)) := by
  obtain ⟨hk, rfl⟩ := List.getElem?_eq_some_iff.1 h
  rw [List.drop_eq_getElem_cons hk, prevR_succ h]
  rfl
theorem repF_scan {L : List RB} (h : ¬ 3000 < L.length) : repF L = scanRF (prevR L 0) (L.drop 0) := by
  unfold repF
  rw [if_neg h]
  rfl
/-- a report's faults, one behind the other -/
theorem afterRF_eq (p : Option RB) (x : RB) : afterRF p x = if keyB x.1.node.data.toList = false then 5 else if outB x.1.hour 0 96023 = true then 1 else if flowFault x.1.f ≠ 0 then flowFault x.1.f else if outB x.1.pk 1 1000000000000 = true ∨ outB x.1.sz 0 1000000000000 = true then 1 else ordF p x := by
  unfold afterRF rowRF
  by_cases h1 : keyB x.1.node.data.toList = false
  · simp [h1]
  · by_cases h2 : outB x.1.hour 0 96023 = true
    · simp [h1, h2]
    · by_cases h3 : flowFault x.1.f = 0
      · by_cases h4 : outB x.1.pk 1 1000000000000 = true ∨ outB x.1.sz 0 1000000000000 = true
        · simp [h1, h2, h3, h4]
        · simp [h1, h2, h3, h4]
      · simp [h1, h2, h3]
set_option maxRecDepth 100000 in
set_option maxHeartbeats 4000000 in
theorem flCheckR_any (ad : Option Addr) (n c : Nat) (L : List RB) (w : World) (h : RdK layRb w ad L) (hn : L.length = n) (hs : n ≤ 1000000) :
    Calls Tryz.prog 41 #[.slice ad n c] w (Ret (.int .i64 (repF L)) w) := by
  by_cases hbig : 3000 < n
  · have e : repF L = 2 := by unfold repF; rw [hn, if_pos hbig]
    rw [e]
    have b : (3000 : Int) < (n : Int) := by omega
    clear e h hn
    go_enter Tryz.func41, Tryz.ntmps41
    go_wp2_with fail
    go_ret
    exact ⟨rfl, Below.refl _ _⟩
  · have hb0 : ¬ (3000 : Int) < (n : Int) := by omega
    rw [repF_scan (by rw [hn]; exact hbig)]
    obtain ⟨R, hR⟩ : ∃ R, scanRF (prevR L 0) (L.drop 0) = R := ⟨_, rfl⟩
    have HR0 := Lib.hid hR
    rw [hR]
    have H0 := Lib.hid h
    have Hn := Lib.hid hn
    clear hR h hn
    go_enter Tryz.func41, Tryz.ntmps41
    go_wp2_with fail
    go_loopw [11] (fun i wr => ∃ k : Nat, k ≤ n ∧ i = .int .i64 (k : Int) ∧ Hid (scanRF (prevR L k) (L.drop k) = R) ∧ Hid (Below w.heap.size w wr)) (fun i _ => n - (intOf i).toNat)
    case atStart => exact ⟨0, Nat.zero_le _, rfl, HR0, Lib.hid (Below.refl _ _)⟩
    case round =>
      clear HR0
      obtain ⟨k, hk, rfl, HS, HB⟩ := hrel
      by_cases hlt : k < n
      · obtain ⟨x, hx⟩ : ∃ x, L[k]? = some x := ⟨_, List.getElem?_eq_getElem (by rw [Hn.out]; exact hlt)⟩
        obtain ⟨g, o, had, hg, hc⟩ := (H0.out.below HB.out) k x hx
        have HRx : Hid (wr.rangeAt g (o + k * 14) (layRb.enc x)) := Lib.hid fun j v hv => by
          have := hc j v hv
          rwa [← Nat.add_assoc] at this
        have HRp : Hid (∀ wx, Below wr.heap.size wr wx → ∀ (m : Nat) (y : RB), k = m + 1 → L[m]? = some y → wx.rangeAt g (o + m * 14) ((layRb.enc y).toArray).toList) := Lib.hid fun wx hb m y hm hy => by
          obtain ⟨g', o', had', hg', hc'⟩ := ((H0.out.below HB.out).below hb) m y hy
          rw [had] at had'
          injection had' with had'
          injection had' with q1 q2 q3
          subst q1 q2
          intro j v hv
          have := hc' j v hv
          rwa [← Nat.add_assoc] at this
        have HSt := HS.out
        rw [scanRF_step hx, afterRF_eq] at HSt
        have HKy := Lib.hid fun wx => ((isKey_any x.1.node.data.toList wx (by have := x.2.2.2.2; rw [← strL_size, strL_of]; omega)).mono fun e w' h => (⟨h.1, by rw [h.2]; exact Below.refl _ _⟩ : Ret _ wx e w'))
        rw [strL_of] at HKy
        have HHr := Lib.hid fun wx => outside_any x.1.hour 0 96023 wx
        have HFl := Lib.hid fun wx => vFlowFault_any x.1.f wx x.2.1
        have HPk := Lib.hid fun wx => outside_any x.1.pk 1 1000000000000 wx
        have HSz := Lib.hid fun wx => outside_any x.1.sz 0 1000000000000 wx
        have HCm := Lib.hid fun y wx => cmpRp_any y x wx
        have HX1 : Hid ((layRb.enc x).toArray.size = 14) := Lib.hid (by rw [List.size_toArray, layRb.len]; rfl)
        have HX2 : Hid ((layRb.enc x).toArray.all (·.oneCell') = true) := Lib.hid (all_oneCell_toArray (layRb.one x))
        have hcells : ∀ w2 b, Blk w2 b 45 (layRb.enc x).toArray → w2.cell? ⟨b, 0, none⟩ = some (.string x.1.node) ∧ w2.cell? ⟨b, 1, none⟩ = some (.int .i64 x.1.hour) ∧ w2.cell? ⟨b, 12, none⟩ = some (.int .i64 x.1.pk) ∧ w2.cell? ⟨b, 13, none⟩ = some (.int .i64 x.1.sz) ∧ w2.rangeAt b 3 x.1.f.cells.toList := fun w2 b hb => ⟨hb.cell 0, hb.cell 1, hb.cell 12, hb.cell 13, rbFlow (x := x.1) hb⟩
        have S9 : Hid (x.1.f.cells.toList.length = 9) := Lib.hid rfl
        have HX := Lib.hid hcells
        have Hpx := Lib.hid (prevR_succ hx)
        have HP0 : Hid (∀ m, k = m + 1 → prevR L k = L[m]?) := Lib.hid fun m hm => by subst hm; unfold prevR; rw [if_neg (by omega)]; rfl
        have HPz : Hid (k = 0 → prevR L k = none) := Lib.hid fun hm => by subst hm; rfl
        have HSn : Hid (scanRF (prevR L (k + 1)) (L.drop (k + 1)) = R → True) := Lib.hid fun _ => trivial
        obtain ⟨XC, hXC⟩ : ∃ X, (layRb.enc x).toArray = X := ⟨_, rfl⟩
        have hXL : layRb.enc x = XC.toList := by rw [← hXC]
        rw [hXL] at HRx
        rw [hXC] at HX1 HX2 HX
        simp only [hXC] at HCm
        generalize keyB x.1.node.data.toList = K1 at *
        generalize outB x.1.hour 0 96023 = O1 at *
        generalize flowFault x.1.f = FF at *
        generalize outB x.1.pk 1 1000000000000 = O2 at *
        generalize outB x.1.sz 0 1000000000000 = O3 at *
        generalize x.1.f.cells = FC at *
        generalize x.1.node = ND at *
        generalize x.1.hour = HR at *
        generalize x.1.pk = PK at *
        generalize x.1.sz = SZ at *
        have HST := Lib.hid HSt
        have Hx := Lib.hid hx
        clear HSt hXC hXL hcells hc hx
        subst had
        have HP : Hid (Blk (wr.alloc (.cells XC 45 (0, 0))) wr.heap.size 45 XC) := Lib.hid (Blk.new wr _ _)
        have hbr : Below wr.heap.size wr (wr.alloc (.cells XC 45 (0, 0))) := below_alloc (Below.refl _ _) _
        have HBr := Lib.hid hbr
        clear hbr
        go_upto_region 6 with (first | (refine wpList_loadn rfl 45 _ rfl g (o + k * 14) rfl _ _ HRx.out under_rb rfl 14 size_rb (by simpa using HX1.out) ?_; go_simp) | (refine wpList_var3R XC 45 Tryz.zeroValue45 rfl rfl rfl _ rfl rfl _ _ rfl _ rfl _ rfl ?_ ?_ 14 size_rb HX1.out ?_ HX2.out ?_; all_goals (try rfl); try go_simp))
        generalize wr.alloc (.cells XC 45 (0, 0)) = w2 at *
        generalize wr.heap.size = bx at HP ⊢
        obtain ⟨a0, a1, a12, a13, -⟩ := HX.out _ _ HP.out
        go_wp2_with fail
        refine (HKy.out _).mono ?_
        rintro e w3 ⟨rfl, hb3⟩
        have HP3 := Lib.hid (HP.out.below hb3 HP.out.lt)
        have HB3 : Hid (Below wr.heap.size wr w3) := Lib.hid (HBr.out.trans (hb3.mono HBr.out.size))
        clear hb3 HBr HP HKy a0 a1 a12 a13
        obtain ⟨a0, a1, a12, a13, hfr⟩ := HX.out _ _ HP3.out
        have HFr := Lib.hid hfr
        clear hfr
        cases K1
        · have hR : R = 5 := HST.out.symm
          subst hR
          clear HST
          go_wp2_with fail
          go_ret
          exact ⟨rfl, HB.out.trans (HB3.out.mono HB.out.size)⟩
        · go_wp2_with fail
          refine (HHr.out _).mono ?_
          rintro e w4 ⟨rfl, rfl⟩
          clear HHr
          cases O1
          · go_wp2_with (refine wpList_loadn rfl 43 _ rfl bx 3 rfl FC.toList _ HFr.out under_flow rfl 9 size_flow S9.out ?_; go_simp)
            refine (HFl.out _).mono ?_
            rintro e w5 ⟨rfl, hb5⟩
            have HP5 := Lib.hid (HP3.out.below hb5 HP3.out.lt)
            have HB5 : Hid (Below wr.heap.size wr w5) := Lib.hid (HB3.out.trans (hb5.mono HB3.out.size))
            clear hb5 HB3 HP3 HFl HFr a0 a1 a12 a13
            obtain ⟨-, -, a12, a13, -⟩ := HX.out _ _ HP5.out
            by_cases hFF : FF = 0
            · subst hFF
              go_wp2_with fail
              refine (HPk.out _).mono ?_
              rintro e w6 ⟨rfl, rfl⟩
              cases O2
              · go_wp2_with fail
                refine (HSz.out _).mono ?_
                rintro e w6 ⟨rfl, rfl⟩
                cases O3
                · have hST : (if ordF (prevR L k) x ≠ 0 then ordF (prevR L k) x else scanRF (prevR L (k + 1)) (L.drop (k + 1))) = R := by
                    have := HST.out
                    simpa using this
                  have HST2 := Lib.hid hST
                  clear hST HST HPk HSz a12 a13
                  rcases Nat.eq_zero_or_pos k with h0 | h0
                  · subst h0
                    have hN : scanRF (prevR L (0 + 1)) (L.drop (0 + 1)) = R := by
                      have := HST2.out
                      rw [HPz.out rfl] at this
                      exact this
                    have HN := Lib.hid hN
                    clear hN HST2 HPz HP0 HRp HCm
                    go_upto_region 15 with fail
                    refine wp_region_later (by kernel_rfl) (by kernel_rfl) ?_
                    repeat (go_big_quiet_step (fail))
                    refine wpQuiet_nil ?_
                    rintro w7 ⟨m7, hm7⟩
                    have hb : Below w5.heap.size w5 w7 := by rw [hm7]; exact m7.2
                    have HB7 : Hid (Below w.heap.size w w7) := Lib.hid (HB.out.trans ((HB5.out.trans (hb.mono HB5.out.size)).mono HB.out.size))
                    clear hm7 m7 hb
                    go_wp2_with fail
                    exact ⟨⟨1, by omega, rfl, HN, HB7⟩, by simp [intOf]; omega⟩
                  · obtain ⟨m, rfl⟩ : ∃ m, k = m + 1 := ⟨k - 1, by omega⟩
                    obtain ⟨y, hy⟩ : ∃ y, L[m]? = some y := ⟨_, List.getElem?_eq_getElem (by rw [Hn.out]; omega)⟩
                    have hp0 : prevR L (m + 1) = some y := (HP0.out m rfl).trans hy
                    have HYr : Hid (∀ wx, (∃ q : Later w5, wx = q.1) → wx.rangeAt g (o + m * 14) ((layRb.enc y).toArray).toList) := Lib.hid fun wx ⟨q, hq⟩ => by
                      subst hq
                      exact HRp.out _ (HB5.out.trans (q.2.mono HB5.out.size)) m y rfl hy
                    have HXr : Hid (∀ wx, (∃ q : Later w5, wx = q.1) → wx.rangeAt bx 0 XC.toList) := Lib.hid fun wx ⟨q, hq⟩ => by
                      subst hq
                      exact (HP5.out.below q.2 HP5.out.lt).range
                    have Ys : ((layRb.enc y).toArray).size = 14 := by rw [List.size_toArray, layRb.len]; rfl
                    have hst := HST2.out
                    rw [hp0] at hst
                    have hst2 : (if (if 0 ≤ cR y x then (7 : Int) else 0) ≠ 0 then (if 0 ≤ cR y x then (7 : Int) else 0) else scanRF (prevR L (m + 1 + 1)) (L.drop (m + 1 + 1))) = R := hst
                    have hQ := fun q : Later w5 => Calls.later q ((HCm.out y q.1).mono fun _ _ => RetD.ret)
                    generalize cR y x = C at *
                    obtain ⟨YC, hYC⟩ : ∃ X, (layRb.enc y).toArray = X := ⟨_, rfl⟩
                    rw [hYC] at HYr Ys hQ
                    have HS1 : Hid (0 ≤ C → R = 7) := Lib.hid fun h => by rw [if_pos h] at hst2; exact hst2.symm
                    have HS2 : Hid (¬ 0 ≤ C → scanRF (prevR L (m + 1 + 1)) (L.drop (m + 1 + 1)) = R) := Lib.hid fun h => by rw [if_neg h] at hst2; exact hst2
                    have Xs := HX1.out
                    clear hst hst2 HST2 hYC hp0 hy HRp HCm HP0 HPz
                    have e1 : (((m + 1 : Nat) : Int) - 1) = (m : Int) := by omega
                    have e2 : IntKind.i64.wrap (m : Int) = (m : Int) := by rw [IntKind.wrap_i64]; omega
                    have e3 : wrap64 (((m + 1 : Nat) : Int) - 1) = (m : Int) := by unfold wrap64; omega
                    have b1 : (0 : Int) ≤ (m : Int) := by omega
                    have b2 : (m : Int) < (n : Int) := by omega
                    have b3 : (0 : Int) < ((m + 1 : Nat) : Int) := by omega
                    go_upto_region 15 with fail
                    refine wp_region_later (by kernel_rfl) (by kernel_rfl) ?_
                    repeat (first | (refine wpQuiet_loadn rfl 45 _ rfl _ rfl g (o + m * 14) rfl YC HYr.out _ under_rb rfl 14 size_rb Ys ?_; go_simp) | (refine wpQuiet_loadn rfl 45 _ rfl _ rfl bx 0 rfl XC HXr.out _ under_rb rfl 14 size_rb Xs ?_; go_simp) | go_big_quiet_step ((go_at_call 83; exact hQ _)))
                    refine wpQuiet_nil ?_
                    rintro ⟨w7, hb⟩
                    dsimp only
                    have HB7 : Hid (Below w.heap.size w w7) := Lib.hid (HB.out.trans ((HB5.out.trans (hb.mono HB5.out.size)).mono HB.out.size))
                    clear hb hQ HYr HXr
                    by_cases hC : 0 ≤ C
                    · have hR := HS1.out hC
                      subst hR
                      clear HS1 HS2
                      go_wp2_with fail
                      go_ret
                      exact ⟨rfl, HB7.out⟩
                    · have HN := Lib.hid (HS2.out (by omega))
                      have hC2 : (0 ≤ C) = False := eq_false hC
                      clear HS1 HS2
                      go_wp2_with fail
                      exact ⟨⟨m + 1 + 1, by omega, by go_num, HN, HB7⟩, by simp [intOf]; omega⟩
                · have hR : R = 1 := by
                    have := HST.out
                    simpa using this.symm
                  subst hR
                  clear HST
                  go_wp2_with fail
                  go_ret
                  exact ⟨rfl, HB.out.trans (HB5.out.mono HB.out.size)⟩
              · have hR : R = 1 := by
                  have := HST.out
                  simpa using this.symm
                subst hR
                clear HST
                go_wp2_with fail
                go_ret
                exact ⟨rfl, HB.out.trans (HB5.out.mono HB.out.size)⟩
            · have hR : R = FF := by
                have := HST.out
                simpa [hFF] using this.symm
              subst hR
              have hne : (R != 0) = true := by simpa using hFF
              clear HST
              go_wp2_with fail
              go_ret
              exact ⟨rfl, HB.out.trans (HB5.out.mono HB.out.size)⟩
          · have hR : R = 1 := by
              have := HST.out
              simpa using this.symm
            subst hR
            clear HST
            go_wp2_with fail
            go_ret
            exact ⟨rfl, HB.out.trans (HB3.out.mono HB.out.size)⟩
      · obtain rfl : k = n := by omega
        have hS := HS.out
        rw [List.drop_of_length_le (by rw [Hn.out]; exact Nat.le_refl _)] at hS
        have hR : R = 0 := hS.symm
        subst hR
        clear hS
        go_wp2_with fail
        go_ret
        exact ⟨rfl, HB.out⟩
end Go.Proofs.YtippolfmljfleaaGreatDoor

namespace Go.Proofs.YtippolfmljfleaaGreatDoor
open Go.RowKit Go
set_option linter.unusedVariables false

set_option maxRecDepth 100000 in
set_option maxHeartbeats 4000000 in
theorem reportsFault_any (ad : Option Addr) (n c : Nat) (L : List RB) (w : World) (h : RdK layRb w ad L) (hn : L.length = n) (hs : n ≤ 1000000) :
    Calls Tryz.prog 13 #[.slice ad n c] w (Ret (.int .i64 (repF L)) w) := by
  by_cases hbig : 3000 < n
  · have e : repF L = 2 := by unfold repF; rw [hn, if_pos hbig]
    rw [e]
    have b : (3000 : Int) < (n : Int) := by omega
    clear e h hn
    go_enter Tryz.func13, Tryz.ntmps13
    go_wp2_with fail
    go_ret
    exact ⟨rfl, Below.refl _ _⟩
  · have hb0 : ¬ (3000 : Int) < (n : Int) := by omega
    rw [repF_scan (by rw [hn]; exact hbig)]
    obtain ⟨R, hR⟩ : ∃ R, scanRF (prevR L 0) (L.drop 0) = R := ⟨_, rfl⟩
    have HR0 := Lib.hid hR
    rw [hR]
    have H0 := Lib.hid h
    have Hn := Lib.hid hn
    clear hR h hn
    go_enter Tryz.func13, Tryz.ntmps13
    go_wp2_with fail
    go_loopw [11] (fun i wr => ∃ k : Nat, k ≤ n ∧ i = .int .i64 (k : Int) ∧ Hid (scanRF (prevR L k) (L.drop k) = R) ∧ Hid (Below w.heap.size w wr)) (fun i _ => n - (intOf i).toNat)
    case atStart => exact ⟨0, Nat.zero_le _, rfl, HR0, Lib.hid (Below.refl _ _)⟩
    case round =>
      clear HR0
      obtain ⟨k, hk, rfl, HS, HB⟩ := hrel
      by_cases hlt : k < n
      · obtain ⟨x, hx⟩ : ∃ x, L[k]? = some x := ⟨_, List.getElem?_eq_getElem (by rw [Hn.out]; exact hlt)⟩
        obtain ⟨g, o, had, hg, hc⟩ := (H0.out.below HB.out) k x hx
        have HRx : Hid (wr.rangeAt g (o + k * 14) (layRb.enc x)) := Lib.hid fun j v hv => by
          have := hc j v hv
          rwa [← Nat.add_assoc] at this
        have HRp : Hid (∀ wx, Below wr.heap.size wr wx → ∀ (m : Nat) (y : RB), k = m + 1 → L[m]? = some y → wx.rangeAt g (o + m * 14) ((layRb.enc y).toArray).toList) := Lib.hid fun wx hb m y hm hy => by
          obtain ⟨g', o', had', hg', hc'⟩ := ((H0.out.below HB.out).below hb) m y hy
          rw [had] at had'
          injection had' with had'
          injection had' with q1 q2 q3
          subst q1 q2
          intro j v hv
          have := hc' j v hv
          rwa [← Nat.add_assoc] at this
        have HSt := HS.out
        rw [scanRF_step hx, afterRF_eq] at HSt
        have HKy := Lib.hid fun wx => qKey_any x.1.node.data.toList wx (by have := x.2.2.2.2; rw [← strL_size, strL_of]; omega)
        rw [strL_of] at HKy
        have HHr := Lib.hid fun wx => in_any x.1.hour 0 96023 wx
        rw [inB_out] at HHr
        have HFl := Lib.hid fun wx => qFlowFault_any x.1.f wx x.2.1
        have HPk := Lib.hid fun wx => in_any x.1.pk 1 1000000000000 wx
        rw [inB_out] at HPk
        have HSz := Lib.hid fun wx => in_any x.1.sz 0 1000000000000 wx
        rw [inB_out] at HSz
        have HCm := Lib.hid fun y wx => reportOrder_any y x wx
        have HX1 : Hid ((layRb.enc x).toArray.size = 14) := Lib.hid (by rw [List.size_toArray, layRb.len]; rfl)
        have HX2 : Hid ((layRb.enc x).toArray.all (·.oneCell') = true) := Lib.hid (all_oneCell_toArray (layRb.one x))
        have hcells : ∀ w2 b, Blk w2 b 45 (layRb.enc x).toArray → w2.cell? ⟨b, 0, none⟩ = some (.string x.1.node) ∧ w2.cell? ⟨b, 1, none⟩ = some (.int .i64 x.1.hour) ∧ w2.cell? ⟨b, 12, none⟩ = some (.int .i64 x.1.pk) ∧ w2.cell? ⟨b, 13, none⟩ = some (.int .i64 x.1.sz) ∧ w2.rangeAt b 3 x.1.f.cells.toList := fun w2 b hb => ⟨hb.cell 0, hb.cell 1, hb.cell 12, hb.cell 13, rbFlow (x := x.1) hb⟩
        have S9 : Hid (x.1.f.cells.toList.length = 9) := Lib.hid rfl
        have HX := Lib.hid hcells
        have Hpx := Lib.hid (prevR_succ hx)
        have HP0 : Hid (∀ m, k = m + 1 → prevR L k = L[m]?) := Lib.hid fun m hm => by subst hm; unfold prevR; rw [if_neg (by omega)]; rfl
        have HPz : Hid (k = 0 → prevR L k = none) := Lib.hid fun hm => by subst hm; rfl
        have HSn : Hid (scanRF (prevR L (k + 1)) (L.drop (k + 1)) = R → True) := Lib.hid fun _ => trivial
        obtain ⟨XC, hXC⟩ : ∃ X, (layRb.enc x).toArray = X := ⟨_, rfl⟩
        have hXL : layRb.enc x = XC.toList := by rw [← hXC]
        rw [hXL] at HRx
        rw [hXC] at HX1 HX2 HX
        simp only [hXC] at HCm
        generalize keyB x.1.node.data.toList = K1 at *
        generalize outB x.1.hour 0 96023 = O1 at *
        generalize flowFault x.1.f = FF at *
        generalize outB x.1.pk 1 1000000000000 = O2 at *
        generalize outB x.1.sz 0 1000000000000 = O3 at *
        generalize x.1.f.cells = FC at *
        generalize x.1.node = ND at *
        generalize x.1.hour = HR at *
        generalize x.1.pk = PK at *
        generalize x.1.sz = SZ at *
        have HST := Lib.hid HSt
        have Hx := Lib.hid hx
        clear HSt hXC hXL hcells hc hx
        subst had
        have HP : Hid (Blk (wr.alloc (.cells XC 45 (0, 0))) wr.heap.size 45 XC) := Lib.hid (Blk.new wr _ _)
        have hbr : Below wr.heap.size wr (wr.alloc (.cells XC 45 (0, 0))) := below_alloc (Below.refl _ _) _
        have HBr := Lib.hid hbr
        clear hbr
        go_upto_region 6 with (first | (refine wpList_loadn rfl 45 _ rfl g (o + k * 14) rfl _ _ HRx.out under_rb rfl 14 size_rb (by simpa using HX1.out) ?_; go_simp) | (refine wpList_var3R XC 45 Tryz.zeroValue45 rfl rfl rfl _ rfl rfl _ _ rfl _ rfl _ rfl ?_ ?_ 14 size_rb HX1.out ?_ HX2.out ?_; all_goals (try rfl); try go_simp))
        generalize wr.alloc (.cells XC 45 (0, 0)) = w2 at *
        generalize wr.heap.size = bx at HP ⊢
        obtain ⟨a0, a1, a12, a13, -⟩ := HX.out _ _ HP.out
        go_wp2_with fail
        refine (HKy.out _).mono ?_
        rintro e w3 ⟨rfl, hb3⟩
        have HP3 := Lib.hid (HP.out.below hb3 HP.out.lt)
        have HB3 : Hid (Below wr.heap.size wr w3) := Lib.hid (HBr.out.trans (hb3.mono HBr.out.size))
        clear hb3 HBr HP HKy a0 a1 a12 a13
        obtain ⟨a0, a1, a12, a13, hfr⟩ := HX.out _ _ HP3.out
        have HFr := Lib.hid hfr
        clear hfr
        cases K1
        · have hR : R = 5 := HST.out.symm
          subst hR
          clear HST
          go_wp2_with fail
          go_ret
          exact ⟨rfl, HB.out.trans (HB3.out.mono HB.out.size)⟩
        · go_wp2_with fail
          refine (HHr.out _).mono ?_
          rintro e w4 ⟨rfl, rfl⟩
          clear HHr
          cases O1
          · go_wp2_with (refine wpList_loadn rfl 43 _ rfl bx 3 rfl FC.toList _ HFr.out under_flow rfl 9 size_flow S9.out ?_; go_simp)
            refine (HFl.out _).mono ?_
            rintro e w5 ⟨rfl, hb5⟩
            have HP5 := Lib.hid (HP3.out.below hb5 HP3.out.lt)
            have HB5 : Hid (Below wr.heap.size wr w5) := Lib.hid (HB3.out.trans (hb5.mono HB3.out.size))
            clear hb5 HB3 HP3 HFl HFr a0 a1 a12 a13
            obtain ⟨-, -, a12, a13, -⟩ := HX.out _ _ HP5.out
            by_cases hFF : FF = 0
            · subst hFF
              go_wp2_with fail
              refine (HPk.out _).mono ?_
              rintro e w6 ⟨rfl, rfl⟩
              cases O2
              · go_wp2_with fail
                refine (HSz.out _).mono ?_
                rintro e w6 ⟨rfl, rfl⟩
                cases O3
                · have hST : (if ordF (prevR L k) x ≠ 0 then ordF (prevR L k) x else scanRF (prevR L (k + 1)) (L.drop (k + 1))) = R := by
                    have := HST.out
                    simpa using this
                  have HST2 := Lib.hid hST
                  clear hST HST HPk HSz a12 a13
                  rcases Nat.eq_zero_or_pos k with h0 | h0
                  · subst h0
                    have hN : scanRF (prevR L (0 + 1)) (L.drop (0 + 1)) = R := by
                      have := HST2.out
                      rw [HPz.out rfl] at this
                      exact this
                    have HN := Lib.hid hN
                    clear hN HST2 HPz HP0 HRp HCm
                    go_upto_region 15 with fail
                    refine wp_region_later (by kernel_rfl) (by kernel_rfl) ?_
                    repeat (go_big_quiet_step (fail))
                    refine wpQuiet_nil ?_
                    rintro w7 ⟨m7, hm7⟩
                    have hb : Below w5.heap.size w5 w7 := by rw [hm7]; exact m7.2
                    have HB7 : Hid (Below w.heap.size w w7) := Lib.hid (HB.out.trans ((HB5.out.trans (hb.mono HB5.out.size)).mono HB.out.size))
                    clear hm7 m7 hb
                    go_wp2_with fail
                    exact ⟨⟨1, by omega, rfl, HN, HB7⟩, by simp [intOf]; omega⟩
                  · obtain ⟨m, rfl⟩ : ∃ m, k = m + 1 := ⟨k - 1, by omega⟩
                    obtain ⟨y, hy⟩ : ∃ y, L[m]? = some y := ⟨_, List.getElem?_eq_getElem (by rw [Hn.out]; omega)⟩
                    have hp0 : prevR L (m + 1) = some y := (HP0.out m rfl).trans hy
                    have HYr : Hid (∀ wx, (∃ q : Later w5, wx = q.1) → wx.rangeAt g (o + m * 14) ((layRb.enc y).toArray).toList) := Lib.hid fun wx ⟨q, hq⟩ => by
                      subst hq
                      exact HRp.out _ (HB5.out.trans (q.2.mono HB5.out.size)) m y rfl hy
                    have HXr : Hid (∀ wx, (∃ q : Later w5, wx = q.1) → wx.rangeAt bx 0 XC.toList) := Lib.hid fun wx ⟨q, hq⟩ => by
                      subst hq
                      exact (HP5.out.below q.2 HP5.out.lt).range
                    have Ys : ((layRb.enc y).toArray).size = 14 := by rw [List.size_toArray, layRb.len]; rfl
                    have hst := HST2.out
                    rw [hp0] at hst
                    have hst2 : (if (if 0 ≤ cR y x then (7 : Int) else 0) ≠ 0 then (if 0 ≤ cR y x then (7 : Int) else 0) else scanRF (prevR L (m + 1 + 1)) (L.drop (m + 1 + 1))) = R := hst
                    have hQ := fun q : Later w5 => Calls.later q ((HCm.out y q.1).mono fun _ _ => RetD.ret)
                    generalize cR y x = C at *
                    obtain ⟨YC, hYC⟩ : ∃ X, (layRb.enc y).toArray = X := ⟨_, rfl⟩
                    rw [hYC] at HYr Ys hQ
                    have HS1 : Hid (0 ≤ C → R = 7) := Lib.hid fun h => by rw [if_pos h] at hst2; exact hst2.symm
                    have HS2 : Hid (¬ 0 ≤ C → scanRF (prevR L (m + 1 + 1)) (L.drop (m + 1 + 1)) = R) := Lib.hid fun h => by rw [if_neg h] at hst2; exact hst2
                    have Xs := HX1.out
                    clear hst hst2 HST2 hYC hp0 hy HRp HCm HP0 HPz
                    have e1 : (((m + 1 : Nat) : Int) - 1) = (m : Int) := by omega
                    have e2 : IntKind.i64.wrap (m : Int) = (m : Int) := by rw [IntKind.wrap_i64]; omega
                    have e3 : wrap64 (((m + 1 : Nat) : Int) - 1) = (m : Int) := by unfold wrap64; omega
                    have b1 : (0 : Int) ≤ (m : Int) := by omega
                    have b2 : (m : Int) < (n : Int) := by omega
                    have b3 : (0 : Int) < ((m + 1 : Nat) : Int) := by omega
                    go_upto_region 15 with fail
                    refine wp_region_later (by kernel_rfl) (by kernel_rfl) ?_
                    repeat (first | (refine wpQuiet_loadn rfl 45 _ rfl _ rfl g (o + m * 14) rfl YC HYr.out _ under_rb rfl 14 size_rb Ys ?_; go_simp) | (refine wpQuiet_loadn rfl 45 _ rfl _ rfl bx 0 rfl XC HXr.out _ under_rb rfl 14 size_rb Xs ?_; go_simp) | go_big_quiet_step ((go_at_call 36; exact hQ _)))
                    refine wpQuiet_nil ?_
                    rintro ⟨w7, hb⟩
                    dsimp only
                    have HB7 : Hid (Below w.heap.size w w7) := Lib.hid (HB.out.trans ((HB5.out.trans (hb.mono HB5.out.size)).mono HB.out.size))
                    clear hb hQ HYr HXr
                    by_cases hC : 0 ≤ C
                    · have hR := HS1.out hC
                      subst hR
                      clear HS1 HS2
                      go_wp2_with fail
                      go_ret
                      exact ⟨rfl, HB7.out⟩
                    · have HN := Lib.hid (HS2.out (by omega))
                      have hC2 : (0 ≤ C) = False := eq_false hC
                      clear HS1 HS2
                      go_wp2_with fail
                      exact ⟨⟨m + 1 + 1, by omega, by go_num, HN, HB7⟩, by simp [intOf]; omega⟩
                · have hR : R = 1 := by
                    have := HST.out
                    simpa using this.symm
                  subst hR
                  clear HST
                  go_wp2_with fail
                  go_ret
                  exact ⟨rfl, HB.out.trans (HB5.out.mono HB.out.size)⟩
              · have hR : R = 1 := by
                  have := HST.out
                  simpa using this.symm
                subst hR
                clear HST
                go_wp2_with fail
                go_ret
                exact ⟨rfl, HB.out.trans (HB5.out.mono HB.out.size)⟩
            · have hR : R = FF := by
                have := HST.out
                simpa [hFF] using this.symm
              subst hR
              have hne : (R != 0) = true := by simpa using hFF
              clear HST
              go_wp2_with fail
              go_ret
              exact ⟨rfl, HB.out.trans (HB5.out.mono HB.out.size)⟩
          · have hR : R = 1 := by
              have := HST.out
              simpa using this.symm
            subst hR
            clear HST
            go_wp2_with fail
            go_ret
            exact ⟨rfl, HB.out.trans (HB3.out.mono HB.out.size)⟩
      · obtain rfl : k = n := by omega
        have hS := HS.out
        rw [List.drop_of_length_le (by rw [Hn.out]; exact Nat.le_refl _)] at hS
        have hR : R = 0 := hS.symm
        subst hR
        clear hS
        go_wp2_with fail
        go_ret
        exact ⟨rfl, HB.out⟩
end Go.Proofs.YtippolfmljfleaaGreatDoor

namespace Go.Proofs.YtippolfmljfleaaGreatDoor
open Go.RowKit Go
set_option linter.unusedVariables false

/-- what the region of Equal has yielded -/
def eqRbR (s1 s2 : Value) (i : Nat) (g1 g2 o1 o2 : Nat) (x : RB) : Nat → Value → World → Prop
  | 0, v, _ => v = s1
  | 1, v, _ => v = .int .i64 (i : Int)
  | 2, v, _ => v = .pointer (some ⟨g1, o1 + i * 14, none⟩)
  | 3, v, _ => v = .agg (layRb.enc x).toArray
  | 4, v, _ => v = s2
  | 5, v, _ => v = .int .i64 (i : Int)
  | 6, v, _ => v = .pointer (some ⟨g2, o2 + i * 14, none⟩)
  | _, v, _ => v = .agg (layRb.enc x).toArray
theorem eqRbR_keep {s1 s2 : Value} {i g1 g2 o1 o2 : Nat} {x : RB} (p : Nat) (v : Value) (u w : World) (h : eqRbR s1 s2 i g1 g2 o1 o2 x p v u) (hb : Below u.heap.size u w) : eqRbR s1 s2 i g1 g2 o1 o2 x p v w := by
  rcases p with _ | _ | _ | _ | _ | _ | _ | p
  all_goals exact h
theorem neq_selfR (v : RB) (w : World) : (binOp .neq 45 (.agg (layRb.enc v).toArray) (.agg (layRb.enc v).toArray)).run Tryz.prog w = .ok (.bool false) w := by
  rw [neq_rb, show eqRB v v = true from eqB_self v.1]
  rfl
set_option maxRecDepth 100000 in
set_option maxHeartbeats 4000000 in
theorem equalRb_any (a1 a2 : Option Addr) (n c1 c2 : Nat) (L : List RB) (w : World) (h1 : RdK layRb w a1 L) (h2 : RdK layRb w a2 L) (hn : L.length = n) (hs : n ≤ 1000000) :
    Calls Tryz.prog 16 #[.slice a1 n c1, .slice a2 n c2] w (Ret (.bool true) w) := by
  have H1 := Lib.hid h1
  have H2 := Lib.hid h2
  have Hn := Lib.hid hn
  clear h1 h2 hn
  go_enter Tryz.func16, Tryz.ntmps16
  go_wp2_with fail
  go_loopw [5, 13] (fun s5 i wr => ∃ k : Nat, k ≤ n ∧ i = .int .i64 (k : Int) ∧ Hid (Below w.heap.size w wr)) (fun _ i _ => n - (intOf i).toNat)
  case atStart => exact ⟨0, Nat.zero_le _, rfl, Lib.hid (Below.refl _ _)⟩
  case round =>
    obtain ⟨k, hk, rfl, HB⟩ := hrel
    by_cases hlt : k < n
    · have hS : k < L.length := by rw [Hn.out]; exact hlt
      obtain ⟨x, hx⟩ : ∃ x, L[k]? = some x := ⟨_, List.getElem?_eq_getElem hS⟩
      obtain ⟨g1, o1, had1, hg1, hc1⟩ := (H1.out.below HB.out) k x hx
      obtain ⟨g2, o2, had2, hg2, hc2⟩ := (H2.out.below HB.out) k x hx
      have HR1 : Hid (∀ wx, Below wr.heap.size wr wx → wx.rangeAt g1 (o1 + k * 14) (layRb.enc x)) := Lib.hid fun wx hb => range_below (fun j v hv => by
        have := hc1 j v hv
        rwa [← Nat.add_assoc] at this) hb hg1
      have HR2 : Hid (∀ wx, Below wr.heap.size wr wx → wx.rangeAt g2 (o2 + k * 14) (layRb.enc x)) := Lib.hid fun wx hb => range_below (fun j v hv => by
        have := hc2 j v hv
        rwa [← Nat.add_assoc] at this) hb hg2
      subst had1 had2
      clear hx hS hg1 hg2 hc1 hc2
      go_upto_region 6 with fail
      refine wp_region_inv 8 0 (eqRbR (.slice (some ⟨g1, o1, none⟩) n c1) (.slice (some ⟨g2, o2, none⟩) n c2) k g1 g2 o1 o2 x) (fun _ wx => Below wr.heap.size wr wx) (fun u v => Below u.heap.size u v) (fun _ => 0)
        (by kernel_rfl) (by kernel_rfl) (by decide) eqRbR_keep (below_drew (Below.refl _ _)) ?hX
      case' hX => (apply Exists.intro; refine ⟨fun T => ?hA, ?hob, ?hend⟩)
      case hA =>
        simp only [setAll, List.take_succ_cons, List.take_zero, Act.put, List.setIfInBounds_toArray, List.set_cons_succ, List.set_cons_zero, Nat.reduceAdd]
        exact rfl
      case hob =>
        go_light
        refine ⟨?_, ?_, ?_, ?_, ?_, ?_, ?_, ?_, trivial⟩
        all_goals (intro T wx n0 hC hn hp; dsimp only at hn ⊢)
        · unfold Op1
          go_simp
          exact ⟨rfl, Below.refl _ _⟩
        · unfold Op1
          go_simp
          exact ⟨rfl, Below.refl _ _⟩
        · obtain ⟨q0, q1, -⟩ := hp
          have q0 : T 0 = .slice (some ⟨g1, o1, none⟩) n c1 := q0
          have q1 : T 1 = .int .i64 (k : Int) := q1
          unfold Op1
          go_simp
          exact ⟨rfl, Below.refl _ _⟩
        · obtain ⟨q0, -⟩ := hp
          have q0 : T 2 = .pointer (some ⟨g1, o1 + k * 14, none⟩) := q0
          exact Op1.loadn 45 (.tmp 18) rfl g1 (o1 + k * 14) q0 (layRb.enc x) _ (HR1.out wx hC) under_rb rfl 14 size_rb (layRb.len x) ⟨rfl, hC, Below.refl _ _⟩
        · unfold Op1
          go_simp
          exact ⟨rfl, Below.refl _ _⟩
        · unfold Op1
          go_simp
          exact ⟨rfl, Below.refl _ _⟩
        · obtain ⟨q0, q1, -⟩ := hp
          have q0 : T 4 = .slice (some ⟨g2, o2, none⟩) n c2 := q0
          have q1 : T 5 = .int .i64 (k : Int) := q1
          unfold Op1
          go_simp
          exact ⟨rfl, Below.refl _ _⟩
        · obtain ⟨q0, -⟩ := hp
          have q0 : T 6 = .pointer (some ⟨g2, o2 + k * 14, none⟩) := q0
          exact Op1.loadn 45 (.tmp 22) rfl g2 (o2 + k * 14) q0 (layRb.enc x) _ (HR2.out wx hC) under_rb rfl 14 size_rb (layRb.len x) ⟨rfl, hC, Below.refl _ _⟩
      case hend =>
        intro T w4 ⟨n0, hn0, hb⟩ hR
        have hT3 : T 3 = .agg (layRb.enc x).toArray := hR 3 (by omega)
        have hT7 : T 7 = .agg (layRb.enc x).toArray := hR 7 (by omega)
        have gx := fun a b wz => eqGuard_rb .neq a b x x wz (.inr rfl)
        have nx := fun wz => neq_selfR x wz
        have HB4 := Lib.hid (HB.out.trans (hb.mono HB.out.size))
        clear hR hb HR1 HR2 HB
        generalize (layRb.enc x).toArray = X at *
        go_wp2_with fail
        exact ⟨⟨k + 1, by omega, by go_num, HB4⟩, by simp [intOf]; omega⟩
    · obtain rfl : k = n := by omega
      go_wp2_with fail
      go_ret
      exact ⟨rfl, HB.out⟩
end Go.Proofs.YtippolfmljfleaaGreatDoor

namespace Go.Proofs.YtippolfmljfleaaGreatDoor
open Go.RowKit Go
set_option linter.unusedVariables false

def encIs (zs : List Int) : List Value := zs.map (Value.int .i64)
theorem encIs_one (zs : List Int) : ∀ u ∈ encIs zs, u.oneCell' = true := by
  intro u hu
  obtain ⟨c, _, rfl⟩ := List.mem_map.1 hu
  rfl
def OwnI (w : World) (base : Nat) (v : Value) (zs : List Int) : Prop := w.ownsRow base 3 1 v zs.length (encIs zs)
theorem intE : EI Tryz.prog 22 3 1 8 := EI.mk' (z := .int .i64 0) Tryz.underlying22 (by kernel_rfl) rfl (by decide)
theorem OwnI.nil (w : World) (base : Nat) : OwnI w base (.slice none 0 0) [] := World.ownsRow_nil w base _ 1
theorem OwnI.weak {w : World} {base base' : Nat} {v : Value} {zs : List Int} (h : OwnI w base v zs) (hb : base' ≤ base) : OwnI w base' v zs := own_weak h hb
theorem OwnI.later {w w' : World} {base : Nat} {v : Value} {zs : List Int} (h : OwnI w base v zs) (hb : Below w.heap.size w w') : OwnI w' base v zs := own_later h hb

/-- an int row with one cell at least -/
theorem OwnI.slice {w : World} {base : Nat} {v : Value} {zs : List Int} (h : OwnI w base v zs) (hn : 1 ≤ zs.length) :
    ∃ g c cur, v = .slice (some ⟨g, 0, none⟩) zs.length c ∧ base ≤ g ∧ w.heap[g]? = some (.cells cur 3 (0, 0)) ∧ RdInts w g 0 zs.length zs ∧ zs.length ≤ c ∧ c ≤ maxLen := by
  rcases h.2 with ⟨_, h0⟩ | ⟨g, cap, cur, rfl, hb, hg, hc, hm, hs, ht⟩
  · omega
  · refine ⟨g, cap, cur, rfl, hb, hg, ⟨rfl, lt_of_block hg, fun i hi => ?_⟩, hc, hm⟩
    rw [Nat.zero_add, cell_of_row w g i _ _ _ hg]
    have h1 : (cur.toList.take (zs.length * 1))[i]? = (encIs zs)[i]? := by rw [ht]
    rw [List.getElem?_take, if_pos (by omega)] at h1
    rw [← Array.getElem?_toList, h1]
    simp [encIs, List.getD, hi]

theorem own_empty (w : World) (t : TypeId) (size : Nat) : (w.alloc (.cells #[] t (0, 0))).ownsRow w.heap.size t size (.slice (some ⟨w.heap.size, 0, none⟩) 0 0) 0 [] :=
  ⟨by simp, .inr ⟨w.heap.size, 0, #[], rfl, Nat.le_refl _, heap_alloc_new w _, Nat.le_refl _, by unfold maxLen; omega, by simp, by simp⟩⟩

theorem RdInts.src {w : World} {g o n : Nat} {zs : List Int} (h : RdInts w g o n zs) : Src w (some ⟨g, o, none⟩) n 1 (encIs zs) := by
  obtain ⟨hl, hg, hc⟩ := h
  refine ⟨by simp [encIs, hl], fun j u hu => ?_⟩
  have hj : j < zs.length := by
    rcases Nat.lt_or_ge j zs.length with h | h
    · exact h
    · rw [List.getElem?_eq_none (by simpa [encIs] using h)] at hu; cases hu
  refine ⟨_, rfl, hg, ?_⟩
  have hadd : (⟨g, o, none⟩ : Addr).add j = ⟨g, o + j, none⟩ := by unfold Addr.add; split <;> simp_all
  rw [hadd, hc j (by omega)]
  simp [encIs, hj] at hu
  rw [← hu]
  simp [List.getD, hj]
theorem RdInts.later {w w' : World} {g o n : Nat} {zs : List Int} (h : RdInts w g o n zs) (hb : Below w.heap.size w w') : RdInts w' g o n zs :=
  ⟨h.1, Nat.lt_of_lt_of_le h.2.1 hb.size, fun i hi => (World.cell?_of_block (w := w) (hb.block g h.2.1)).trans (h.2.2 i hi)⟩
theorem RdInts.alloc {w : World} {g o n : Nat} {zs : List Int} (h : RdInts w g o n zs) (ob : Obj) : RdInts (w.alloc ob) g o n zs := h.later (below_alloc (Below.refl _ _) _)

theorem getD_mem {zs : List Int} {i : Nat} (h : i < zs.length) : zs.getD i 0 ∈ zs := by simp [List.getD, List.getElem?_eq_getElem h]

theorem run_eql_slice_nil_ints (w : World) (a : Option Addr) (l c : Nat) : (binOp .eql 22 (.slice a l c) (.slice none 0 0)).run Tryz.prog w = .ok (.bool a.isNone) w :=
  Lib.run_eql_slice_nil (h := Tryz.underlying22) ..
set_option maxRecDepth 100000 in
set_option maxHeartbeats 1000000 in
theorem clone_ints (g o n c : Nat) (zs : List Int) (w : World) (h : RdInts w g o n zs) (hn : n ≤ 1000000) :
    Calls Tryz.prog 124 #[.slice (some ⟨g, o, none⟩) n c] w fun e w' => ∃ v, e = .returned v ∧ OwnI w' w.heap.size v zs ∧ Below w.heap.size w w' := by
  have en := fun w => run_eql_slice_nil_ints w (some ⟨g, o, none⟩) n c
  simp only [Option.isNone_some] at en
  go_enter Tryz.func124, Tryz.ntmps124
  go_wp2_with (at_builtin; refine wpList_app intE rfl (.tmp 5) (.tmp 6) rfl rfl (own_empty w _ _) rfl (h.alloc _).src (encIs_one zs) ?c2 ?c3 ?c4 ?_)
  case c2 => unfold maxLen; omega
  case c3 => omega
  case c4 => simp
  intro v' w' hO hG
  rw [← h.1] at hO
  have HO := Lib.hid hO
  have HG := Lib.hid hG
  clear hO hG
  go_wp2
  go_ret
  exact ⟨_, rfl, HO.out, HG.out.below (u := .slice (some ⟨w.heap.size, 0, none⟩) 0 0) (by simp) (by intro k hk; simp [Value.ownBlock] at hk; omega) |> (below_alloc (Below.refl _ _) _).trans⟩

end Go.Proofs.YtippolfmljfleaaGreatDoor

namespace Go.Proofs.YtippolfmljfleaaGreatDoor
end Go.Proofs.YtippolfmljfleaaGreatDoor
