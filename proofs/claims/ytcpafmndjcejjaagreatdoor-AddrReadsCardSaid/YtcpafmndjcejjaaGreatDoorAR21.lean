/-
  strings.Trim of bytes of a set, as far as the reference's only asks; Key.
-/
import Derived.Test.YtcpafmndjcejjaaGreatDoorAR11
set_option linter.unusedVariables false
namespace Go.Proofs.YtcpafmndjcejjaaGreatDoor
open Go.RowKit Go
set_option linter.unusedVariables false

theorem size_ascii : (Tryz.prog.info? 121).map (·.size) = some 256 := by kernel_rfl
theorem zero_ascii (w : World) : (zeroValue 121).run Tryz.prog w = .ok (.agg (Array.replicate 256 (.bool false))) w := by kernel_rfl
set_option maxRecDepth 100000 in
set_option maxHeartbeats 4000000 in
theorem trimRA_any (L : List UInt8) (b : Nat) (q : UInt8 → Bool) (w : World) (hL : L.length ≤ 1000000) (hb : ∀ x : UInt8, w.cell? ⟨b, x.toNat, none⟩ = some (.bool (q x))) :
    Calls Tryz.prog 98 #[.string (strL L), .pointer (some ⟨b, 0, none⟩)] w fun e w' => w' = w ∧ ∃ n, n ≤ L.length ∧ e = .returned (.string (strL (L.take n))) ∧ (∀ (j : Nat) (x : UInt8), n ≤ j → L[j]? = some x → q x = true) ∧ (∀ x, L[n - 1]? = some x → 1 ≤ n → q x = false) := by
  have HC := Lib.hid fun x => Tryz.asciiSet_contains b x (q x) w (hb x)
  clear hb
  obtain ⟨N, hN⟩ : ∃ n, L.length = n := ⟨_, rfl⟩
  have HN := Lib.hid hN
  rw [hN] at hL ⊢
  clear hN
  go_enter Tryz.func98, Tryz.ntmps98
  go_wp2_with fail
  go_loop [0] (fun s => ∃ n : Nat, n ≤ N ∧ s = .string (strL (L.take n)) ∧ Hid (∀ (j : Nat) (x : UInt8), n ≤ j → L[j]? = some x → q x = true)) (fun s => match s with | .string c => c.size | _ => 0)
  case atStart => exact ⟨N, Nat.le_refl _, by rw [List.take_of_length_le (by rw [HN.out]; exact Nat.le_refl _)], Lib.hid fun j x h1 h2 => by have := (List.getElem?_eq_some_iff.1 h2).1; rw [HN.out] at this; omega⟩
  case round =>
    obtain ⟨n, hn, rfl, HA⟩ := hrel
    have hsz : (strL (L.take n)).size = n := by rw [strL_size, List.length_take, HN.out]; omega
    rcases Nat.eq_zero_or_pos n with h0 | h0
    · subst h0
      obtain ⟨S, hS⟩ : ∃ S, strL (L.take 0) = S := ⟨_, rfl⟩
      have HS := Lib.hid hS
      rw [hS] at hsz ⊢
      clear hS
      go_wp2_with fail
      go_ret
      exact ⟨rfl, 0, Nat.zero_le _, by rw [HS.out]; rfl, HA.out, fun x _ h => absurd h (by omega)⟩
    · obtain ⟨m, rfl⟩ : ∃ m, n = m + 1 := ⟨n - 1, by omega⟩
      obtain ⟨x, hx⟩ : ∃ x, L[m]? = some x := ⟨_, List.getElem?_eq_getElem (by rw [HN.out]; omega)⟩
      have hix : ∀ h : m < (strL (L.take (m + 1))).size, (((strL (L.take (m + 1)))[m]'h).toNat : Int) = ((x.toNat : Nat) : Int) := fun h => by rw [strL_get (L.take (m + 1)) m x (by rw [List.getElem?_take, if_pos (by omega)]; exact hx) h]
      have hcut : (strL (L.take (m + 1))).extract 0 m = strL (L.take m) := by rw [strL_take, List.take_take, Nat.min_eq_left (by omega)]
      have hsz2 : (strL (L.take m)).size = m := by rw [strL_size, List.length_take, HN.out]; omega
      have HCx := Lib.hid (HC.out x)
      obtain ⟨S, hS⟩ : ∃ S, strL (L.take (m + 1)) = S := ⟨_, rfl⟩
      have HS := Lib.hid hS
      obtain ⟨S2, hS2⟩ : ∃ S, strL (L.take m) = S := ⟨_, rfl⟩
      have HS2 := Lib.hid hS2
      have Hx := Lib.hid hx
      rw [hS] at hsz hix hcut ⊢
      rw [hS2] at hcut hsz2
      clear hS hS2 hx
      have e1 : (((m + 1 : Nat) : Int) - 1) = (m : Int) := by omega
      have e2 : IntKind.i64.wrap (m : Int) = (m : Int) := wrap_i64R m (by omega)
      have e3 : wrap64 (((m + 1 : Nat) : Int) - 1) = (m : Int) := by unfold wrap64; omega
      cases hq : q x
      · have HQ := Lib.hid hq
        rw [hq] at HCx
        clear hq
        go_wp2_with fail
        refine HCx.out.mono ?_
        rintro e w2 ⟨rfl, rfl⟩
        go_wp2_with fail
        go_ret
        exact ⟨rfl, m + 1, hn, by rw [HS.out]; rfl, HA.out, fun y hy _ => by
          rw [show m + 1 - 1 = m from rfl, Hx.out] at hy
          injection hy with hy
          rw [← hy]; exact HQ.out⟩
      · have HQ := Lib.hid hq
        rw [hq] at HCx
        clear hq
        go_wp2_with fail
        refine HCx.out.mono ?_
        rintro e w2 ⟨rfl, rfl⟩
        go_wp2_with fail
        refine ⟨⟨m, by omega, by first | rfl | rw [HS2.out], Lib.hid fun j y h1 h2 => ?_⟩, by simp [hsz, hsz2]⟩
        rcases Nat.eq_or_lt_of_le h1 with h | h
        · subst h
          rw [Hx.out] at h2
          injection h2 with h2
          rw [← h2]; exact HQ.out
        · exact HA.out j y h h2
set_option maxRecDepth 100000 in
set_option maxHeartbeats 4000000 in
theorem trimLA_any (L : List UInt8) (b : Nat) (q : UInt8 → Bool) (w : World) (hL : L.length ≤ 1000000) (hb : ∀ x : UInt8, w.cell? ⟨b, x.toNat, none⟩ = some (.bool (q x))) :
    Calls Tryz.prog 97 #[.string (strL L), .pointer (some ⟨b, 0, none⟩)] w fun e w' => w' = w ∧ ∃ n, e = .returned (.string (strL (L.drop n))) ∧ (∀ (j : Nat) (x : UInt8), j < n → L[j]? = some x → q x = true) := by
  have HC := Lib.hid fun x => Tryz.asciiSet_contains b x (q x) w (hb x)
  clear hb
  obtain ⟨N, hN⟩ : ∃ n, L.length = n := ⟨_, rfl⟩
  have HN := Lib.hid hN
  rw [hN] at hL
  clear hN
  go_enter Tryz.func97, Tryz.ntmps97
  go_wp2_with fail
  go_loop [0] (fun s => ∃ n : Nat, n ≤ N ∧ s = .string (strL (L.drop n)) ∧ Hid (∀ (j : Nat) (x : UInt8), j < n → L[j]? = some x → q x = true)) (fun s => match s with | .string c => c.size | _ => 0)
  case atStart => exact ⟨0, Nat.zero_le _, rfl, Lib.hid fun j x h1 => absurd h1 (Nat.not_lt_zero _)⟩
  case round =>
    obtain ⟨n, hn, rfl, HA⟩ := hrel
    have hsz : (strL (L.drop n)).size = N - n := by rw [strL_size, List.length_drop, HN.out]
    by_cases h0 : n < N
    · obtain ⟨x, hx⟩ : ∃ x, L[n]? = some x := ⟨_, List.getElem?_eq_getElem (by rw [HN.out]; exact h0)⟩
      have hix : ∀ h : 0 < (strL (L.drop n)).size, (((strL (L.drop n))[0]'h).toNat : Int) = ((x.toNat : Nat) : Int) := fun h => by rw [strL_get (L.drop n) 0 x (by rw [List.getElem?_drop]; exact hx) h]
      have hcut : (strL (L.drop n)).extract 1 (N - n) = strL (L.drop (n + 1)) := by rw [← hsz, strL_drop, List.drop_drop]
      have hsz2 : (strL (L.drop (n + 1))).size = N - (n + 1) := by rw [strL_size, List.length_drop, HN.out]
      have HCx := Lib.hid (HC.out x)
      obtain ⟨S, hS⟩ : ∃ S, strL (L.drop n) = S := ⟨_, rfl⟩
      have HS := Lib.hid hS
      obtain ⟨S2, hS2⟩ : ∃ S, strL (L.drop (n + 1)) = S := ⟨_, rfl⟩
      have HS2 := Lib.hid hS2
      have Hx := Lib.hid hx
      rw [hS] at hsz hix hcut ⊢
      rw [hS2] at hcut hsz2
      clear hS hS2 hx
      have b1 : (0 : Int) < ((N - n : Nat) : Int) := by omega
      have b2 : (1 : Int) ≤ ((N - n : Nat) : Int) := by omega
      cases hq : q x
      · have HQ := Lib.hid hq
        rw [hq] at HCx
        clear hq
        go_wp2_with fail
        refine HCx.out.mono ?_
        rintro e w2 ⟨rfl, rfl⟩
        go_wp2_with fail
        go_ret
        exact ⟨rfl, n, by rw [HS.out]; rfl, HA.out⟩
      · have HQ := Lib.hid hq
        rw [hq] at HCx
        clear hq
        go_wp2_with fail
        refine HCx.out.mono ?_
        rintro e w2 ⟨rfl, rfl⟩
        go_wp2_with fail
        refine ⟨⟨n + 1, by omega, by first | rfl | rw [HS2.out], Lib.hid fun j y h1 h2 => ?_⟩, by simp [hsz, hsz2]; omega⟩
        rcases Nat.lt_or_ge j n with h | h
        · exact HA.out j y h h2
        · obtain rfl : j = n := by omega
          rw [Hx.out] at h2
          injection h2 with h2
          rw [← h2]; exact HQ.out
    · obtain rfl : n = N := by omega
      rw [Nat.sub_self] at hsz
      obtain ⟨S, hS⟩ : ∃ S, strL (L.drop n) = S := ⟨_, rfl⟩
      have HS := Lib.hid hS
      rw [hS] at hsz ⊢
      clear hS
      go_wp2_with fail
      go_ret
      exact ⟨rfl, n, by rw [HS.out]; rfl, HA.out⟩
theorem trim_empty {L : List UInt8} {q : UInt8 → Bool} {n m : Nat} (hn : n ≤ L.length) (h1 : ∀ (j : Nat) (x : UInt8), n ≤ j → L[j]? = some x → q x = true) (h2 : ∀ x, L[n - 1]? = some x → 1 ≤ n → q x = false)
    (h3 : ∀ (j : Nat) (x : UInt8), j < m → (L.take n)[j]? = some x → q x = true) : ((L.take n).drop m = []) ↔ (L.all q = true) := by
  constructor
  · intro h
    rw [List.all_eq_true]
    intro c hc
    obtain ⟨j, hj, rfl⟩ := List.getElem_of_mem hc
    rcases Nat.lt_or_ge j n with h4 | h4
    · have hl : ((L.take n).drop m).length = 0 := by rw [h]; rfl
      rw [List.length_drop, List.length_take] at hl
      exact h3 j _ (by omega) (by rw [List.getElem?_take, if_pos h4]; exact List.getElem?_eq_getElem hj)
    · exact h1 j _ h4 (List.getElem?_eq_getElem hj)
  · intro h
    rw [List.all_eq_true] at h
    have h0 : n = 0 := by
      rcases Nat.eq_zero_or_pos n with h4 | h4
      · exact h4
      · have hx := List.getElem?_eq_getElem (l := L) (i := n - 1) (by omega)
        have := h2 _ hx h4
        rw [h _ (List.getElem_mem _)] at this
        cases this
    subst h0
    simp
theorem strL_nil {L : List UInt8} : (strL L).toList = [] ↔ L = [] := by
  rw [ByteArray.toList_eq]
  exact Iff.rfl
/-- what the program's set is made of -/
def asciiB (S : List UInt8) : Prop := ∀ (j : Nat) b, S[j]? = some b → b.toNat < 128
set_option maxRecDepth 100000 in
set_option maxHeartbeats 1000000 in
theorem trim_any (L S : List UInt8) (w : World) (hL : L.length ≤ 1000000) (hS : 2 ≤ S.length ∧ S.length ≤ 1000) (ha : asciiB S) (B : Bool) (hB : L.all S.contains = B) :
    Calls Tryz.prog 64 #[.string (strL L), .string (strL S)] w fun e w' => ∃ M : List UInt8, e = .returned (.string (strL M)) ∧ (M = [] ↔ B = true) ∧ Below w.heap.size w w' := by
  have HM := Lib.hid (Tryz.strings_makeASCIISet zero_ascii (strL S) w (by rw [strL_size]; omega) ha)
  have hsS : (strL S).size = S.length := strL_size S
  have hSd : (strL S).data.toList = S := rfl
  rw [hSd] at HM
  have HSz : Hid ((Lib.setCells S).size = 256) := Lib.hid (Lib.setCells_size S)
  have HSo : Hid ((Lib.setCells S).all (·.oneCell') = true) := Lib.hid (by rw [Lib.setCells_eq, Array.all_eq_true]; intro i hi; simp [Value.oneCell'])
  have HAt : Hid (∀ x : UInt8, (Lib.setCells S)[x.toNat]? = some (.bool (S.contains x))) := Lib.hid (Lib.setCells_at S)
  have hne : ((strL S).toList == []) = false := by
    rw [ByteArray.toList_eq]
    show (S == []) = false
    cases S with
    | nil => simp at hS
    | cons a l => rfl
  have h2 : ((S.length : Int) == 1) = false := beq_eq_false_iff_ne.2 (by omega)
  have HB := Lib.hid hB
  generalize Lib.setCells S = X at *
  obtain ⟨SS, hSS⟩ : ∃ x, strL S = x := ⟨_, rfl⟩
  rw [hSS] at hne hsS HM ⊢
  by_cases hL0 : L = []
  · subst hL0
    have hB1 : B = true := HB.out.symm
    go_enter Tryz.func64, Tryz.ntmps64
    have e : (strL []).toList = [] := by rw [ByteArray.toList_eq]; rfl
    go_wp2_with fail
    go_ret
    exact ⟨[], rfl, by simp [hB1], Below.refl _ _⟩
  · have hLn : ((strL L).toList == []) = false := by
      rw [ByteArray.toList_eq]
      show (L == []) = false
      cases L with
      | nil => exact absurd rfl hL0
      | cons a l => rfl
    have HR := Lib.hid fun b wx h => trimRA_any L b S.contains wx hL h
    have HL := Lib.hid fun n b wx h => trimLA_any (L.take n) b S.contains wx (by rw [List.length_take]; omega) h
    have HE := Lib.hid fun n m h1 h2 h3 h4 => trim_empty (L := L) (q := S.contains) (n := n) (m := m) h1 h2 h3 h4
    obtain ⟨LL, hLL⟩ : ∃ x, strL L = x := ⟨_, rfl⟩
    rw [hLL] at hLn HR ⊢
    clear hLL hSS hSd hL0 hB
    go_enter Tryz.func64, Tryz.ntmps64
    go_wp2_with fail
    refine HM.out.mono ?_
    rintro e w1 ⟨rfl, rfl⟩
    have HB1 : Hid (Below w.heap.size w ((w.alloc (.cells X 121)).alloc (.cells X 121 (0, 0)))) := Lib.hid (below_alloc (below_alloc (Below.refl _ _) _) _)
    have HP1 : Hid (Blk ((w.alloc (.cells X 121)).alloc (.cells X 121 (0, 0))) (w.heap.size + 1) 121 X) := Lib.hid (by
      have := Blk.new (w.alloc (.cells X 121)) 121 X
      rw [World.size_alloc] at this
      exact this)
    go_upto_region 6 with (refine wpList_var X 121 zero_ascii rfl rfl rfl _ _ rfl _ rfl ?_ ?_ 256 size_ascii HSz.out ?_ HSo.out ?_; all_goals (try rfl); try go_simp)
    generalize (w.alloc (.cells X 121)).alloc (.cells X 121 (0, 0)) = w2 at *
    generalize w.heap.size + 1 = bx at HP1 ⊢
    have hcell : ∀ x : UInt8, w2.cell? ⟨bx, x.toNat, none⟩ = some (.bool (S.contains x)) := fun x => (HP1.out.cell x.toNat).trans (HAt.out x)
    have HR2 := Lib.hid (HR.out bx w2 hcell)
    have HL2 := Lib.hid fun n => HL.out n bx w2 hcell
    clear hcell HR HL HM HAt HP1 HSz HSo
    go_wp2_with fail
    refine HR2.out.mono ?_
    rintro e w3 ⟨rfl, n, hn, rfl, k1, k2⟩
    have HK := Lib.hid (And.intro hn (And.intro k1 k2))
    clear hn k1 k2 HR2
    go_wp2_with fail
    refine (HL2.out n).mono ?_
    rintro e w3 ⟨rfl, m, rfl, k3⟩
    have HI := Lib.hid (HE.out n m HK.out.1 HK.out.2.1 HK.out.2.2 k3)
    clear k3 HK HE HL2
    go_wp2_with fail
    go_ret
    exact ⟨_, rfl, by rw [HI.out, HB.out], HB1.out⟩
set_option maxRecDepth 100000 in
set_option maxHeartbeats 1000000 in
theorem only_any (L S : List UInt8) (w : World) (hL : L.length ≤ 1000000) (hS : 2 ≤ S.length ∧ S.length ≤ 1000) (ha : asciiB S) :
    Calls Tryz.prog 68 #[.string (strL L), .string (strL S)] w (Ret (.bool (L.all S.contains)) w) := by
  obtain ⟨B, hB⟩ : ∃ B, L.all S.contains = B := ⟨_, rfl⟩
  rw [hB]
  have hT := trim_any L S w hL hS ha B hB
  have HT := Lib.hid hT
  clear hT hB hS hL ha
  go_enter Tryz.func68, Tryz.ntmps68
  go_wp2_with fail
  refine HT.out.mono ?_
  rintro e w2 ⟨M, rfl, hM, hb⟩
  have HB2 := Lib.hid hb
  clear hb
  have hE : ((strL M).toList == []) = B := by
    rw [Bool.eq_iff_iff, ← hM]
    simp [strL_nil]
  generalize strL M = SM at *
  clear hM
  go_wp2_with fail
  go_ret
  exact ⟨rfl, HB2.out⟩
end Go.Proofs.YtcpafmndjcejjaaGreatDoor
