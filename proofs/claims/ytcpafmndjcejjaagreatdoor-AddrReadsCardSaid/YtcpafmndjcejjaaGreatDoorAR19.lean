/-
  Four numbers with points between, read: the program's four and the reference's.
-/
import Derived.Test.YtcpafmndjcejjaaGreatDoorAR18
import Derived.Test.YtcpafmndjcejjaaGreatDoorAR1
import Derived.Laws.Bits64b
set_option linter.unusedVariables false
namespace Go.Proofs.YtcpafmndjcejjaaGreatDoor
open Go.RowKit Go Go.Sort
set_option linter.unusedVariables false

def fouL : List (List UInt8) → Nat → Option Nat
  | [], acc => some acc
  | x :: xs, acc => match d255 x with
    | some n => fouL xs (acc * 256 + n)
    | none => none
def fourF (s : List UInt8) : Option Nat := if (spl 46 s).length = 4 then fouL (spl 46 s) 0 else none
theorem d255_le {x : List UInt8} {n : Nat} (h : d255 x = some n) : n ≤ 255 := by
  unfold d255 at h
  by_cases hc : numL x = true ∧ decV x ≤ 255
  · rw [if_pos hc] at h
    injection h with h
    omega
  · rw [if_neg hc] at h; cases h
theorem fouL_step {L : List (List UInt8)} {k acc : Nat} {x : List UInt8} (h : L[k]? = some x) : fouL (L.drop k) acc = match d255 x with
    | some n => fouL (L.drop (k + 1)) (acc * 256 + n)
    | none => none := by
  obtain ⟨hk, rfl⟩ := List.getElem?_eq_some_iff.1 h
  rw [List.drop_eq_getElem_cons hk]
  rfl
theorem shl_or (a n : Nat) (ha : a < 16777216) (hn : n ≤ 255) : (a * 256 ||| n) = a * 256 + n := by
  have := Nat.shiftLeft_add_eq_or_of_lt (b := n) (i := 8) (by omega) a
  rw [Nat.shiftLeft_eq] at this
  exact this.symm
set_option maxRecDepth 100000 in
set_option maxHeartbeats 2000000 in
theorem aFour_any (s : List UInt8) (w : World) (hv : Vr w) (hs : s.length ≤ 1000000) :
    Calls Tryz.prog 27 #[.string (strL s)] w (Ret (.tuple #[.int .u64 ((fourF s).getD 0 : Nat), .bool (fourF s).isSome]) w) := by
  have HSp := Lib.hid (split_any s 46 w hv hs)
  have HNm := Lib.hid fun (x : List UInt8) wx (h : x ∈ spl 46 s) => number_any x 3 wx (Nat.le_trans (spl_mem 46 s x h).2.2 hs) (by omega)
  have HF : Hid (fourF s = if (spl 46 s).length = 4 then fouL (spl 46 s) 0 else none) := Lib.hid rfl
  obtain ⟨R, hR⟩ : ∃ q, fourF s = q := ⟨_, rfl⟩
  rw [hR] at HF ⊢
  obtain ⟨RN, hRN⟩ : ∃ q : Nat, R.getD 0 = q := ⟨_, rfl⟩
  obtain ⟨RBx, hRB⟩ : ∃ q, R.isSome = q := ⟨_, rfl⟩
  have HRN := Lib.hid hRN
  have HRB := Lib.hid hRB
  rw [hRN, hRB]
  clear hR hRN hRB hv
  generalize spl 46 s = L at *
  obtain ⟨n, hn⟩ : ∃ q, L.length = q := ⟨_, rfl⟩
  have Hn := Lib.hid hn
  rw [hn] at HSp HF
  clear hn
  go_enter Tryz.func27, Tryz.ntmps27
  go_wp2_with fail
  refine HSp.out.mono ?_
  rintro e w1 ⟨g, rfl, hr, hb⟩
  have HR1 := Lib.hid hr
  have HB1 := Lib.hid hb
  clear hr hb HSp
  by_cases h4 : n = 4
  · subst h4
    have hF := HF.out
    rw [if_pos rfl] at hF
    have HF2 := Lib.hid hF.symm
    clear hF HF
    go_wp2_with fail
    go_loopw [5, 17] (fun u i wr => ∃ k acc : Nat, k ≤ 4 ∧ acc < 256 ^ k ∧ i = .int .i64 (k : Int) ∧ u = .int .u64 (acc : Int) ∧ Hid (fouL (L.drop k) acc = R) ∧ Hid (Below w.heap.size w wr) ∧ Hid (RdS wr g L)) (fun _ i _ => 4 - (intOf i).toNat)
    case atStart => exact ⟨0, 0, by omega, by decide, rfl, rfl, HF2, HB1, HR1⟩
    case round =>
      clear HR1 HB1 HF2
      obtain ⟨k, acc, hk, hacc, rfl, rfl, HA, HB, HR⟩ := hrel
      by_cases hlt : k < 4
      · obtain ⟨x, hx⟩ : ∃ x, L[k]? = some x := ⟨_, List.getElem?_eq_getElem (by rw [Hn.out]; exact hlt)⟩
        have HSt := Lib.hid (fouL_step (acc := acc) hx)
        have hc := HR.out.2 k x hx
        have hgl := HR.out.1
        have HNx := Lib.hid (HNm.out x wr (List.mem_of_getElem? hx))
        have H255 := Lib.hid (numOk_255 x)
        have hle := @d255_le x
        have hac : acc < 16777216 := Nat.lt_of_lt_of_le hacc (Nat.le_trans (Nat.pow_le_pow_right (by decide) (show k ≤ 3 by omega)) (by decide))
        generalize numOk x 3 = OK at *
        generalize numV x = V at *
        obtain ⟨NV, hNV⟩ : ∃ q, (if OK = true then V else 0) = q := ⟨_, rfl⟩
        have HNV := Lib.hid hNV
        rw [hNV] at HNx
        clear hx hNV
        generalize d255 x = D at *
        go_wp2_with fail
        refine HNx.out.mono ?_
        rintro e w2 ⟨rfl, hb⟩
        have HB2 := Lib.hid (HB.out.trans (hb.mono HB.out.size))
        have HR2 := Lib.hid (HR.out.below hb)
        clear hb HB HR HNx hc hgl
        cases D with
        | none =>
          have hN : R = none := by rw [← HA.out, HSt.out]
          subst hN
          have hq := H255.out.1
          have e1 := HRN.out
          have e2 := HRB.out
          simp at e1 e2
          subst e1 e2
          have hcase : OK = false ∨ (OK = true ∧ NV < 0) ∨ (OK = true ∧ ¬ NV < 0 ∧ 255 < NV) := by
            cases OK
            · exact .inl rfl
            · right
              have hnv : V = NV := by have := HNV.out; rwa [if_pos rfl] at this
              subst hnv
              simp at hq
              rcases (show V < 0 ∨ 0 ≤ V by omega) with h0 | h0
              · exact .inl ⟨rfl, h0⟩
              · exact .inr ⟨rfl, by omega, hq h0⟩
          clear HSt HA H255 HNV hle hq
          rcases hcase with hc | ⟨hc, h1⟩ | ⟨hc, h1, h2⟩
          · subst hc
            go_wp2_with fail
            go_ret2
            exact ⟨rfl, HB2.out⟩
          · subst hc
            go_wp2_with fail
            go_ret2
            exact ⟨rfl, HB2.out⟩
          · subst hc
            go_wp2_with fail
            go_ret2
            exact ⟨rfl, HB2.out⟩
        | some m =>
          have hq := H255.out.1
          have hm := H255.out.2 m rfl
          have hok : OK = true := by cases OK <;> simp at hq ⊢
          subst hok
          have hnv : V = NV := by have := HNV.out; rwa [if_pos rfl] at this
          subst hnv
          subst hm
          have hm255 := hle rfl
          have HA2 : Hid (fouL (L.drop (k + 1)) (acc * 256 + m) = R) := Lib.hid (by rw [← HA.out, HSt.out])
          have hac2 : acc * 256 + m < 256 ^ (k + 1) := by
            rw [Nat.pow_succ]
            generalize 256 ^ k = P at *
            omega
          have hso : bits .or .u64 ((acc : Int) * 256) (m : Int) = ((acc * 256 + m : Nat) : Int) := by
            rw [show ((acc : Int) * 256) = ((acc * 256 : Nat) : Int) by omega, bits_or_u64_nat _ _ (by omega) (by omega), shl_or acc m hac hm255]
          have g1 : ¬ ((m : Int) < 0) := by omega
          have g2 : ¬ ((255 : Int) < (m : Int)) := by omega
          clear HSt HA H255 HNV hle hq
          go_wp2_with fail
          exact ⟨⟨k + 1, acc * 256 + m, by omega, hac2, by go_num, by go_num, HA2, HB2, HR2⟩, by simp [intOf]; omega⟩
      · obtain rfl : k = 4 := by omega
        have hR : R = some acc := by
          rw [← HA.out, List.drop_of_length_le (by rw [Hn.out]; exact Nat.le_refl _)]
          rfl
        subst hR
        have e1 := HRN.out
        have e2 := HRB.out
        simp at e1 e2
        subst e1 e2
        go_wp2_with fail
        go_ret2
        exact ⟨rfl, HB.out⟩
  · have hF := HF.out
    rw [if_neg h4] at hF
    subst hF
    have e1 := HRN.out
    have e2 := HRB.out
    simp at e1 e2
    subst e1 e2
    have h4' : ¬ ((n : Int) = 4) := by omega
    have h4b : ((n : Int) == 4) = false := beq_eq_false_iff_ne.2 h4'
    clear HF
    go_wp2_with fail
    go_ret2
    exact ⟨rfl, HB1.out⟩
set_option maxRecDepth 100000 in
set_option maxHeartbeats 2000000 in
theorem qFour_any (s : List UInt8) (w : World) (hv : Vr w) (hs : s.length ≤ 1000000) :
    Calls Tryz.prog 30 #[.string (strL s)] w (Ret (.tuple #[.int .u64 ((fourF s).getD 0 : Nat), .bool (fourF s).isSome]) w) := by
  have HSp := Lib.hid (split_any s 46 w hv hs)
  have HNm := Lib.hid fun (x : List UInt8) wx (h : x ∈ spl 46 s) (hv : Vr wx) => atoi_any x wx hv (Nat.le_trans (spl_mem 46 s x h).2.2 hs)
  have HV0 := Lib.hid hv
  have HF : Hid (fourF s = if (spl 46 s).length = 4 then fouL (spl 46 s) 0 else none) := Lib.hid rfl
  obtain ⟨R, hR⟩ : ∃ q, fourF s = q := ⟨_, rfl⟩
  rw [hR] at HF ⊢
  obtain ⟨RN, hRN⟩ : ∃ q : Nat, R.getD 0 = q := ⟨_, rfl⟩
  obtain ⟨RBx, hRB⟩ : ∃ q, R.isSome = q := ⟨_, rfl⟩
  have HRN := Lib.hid hRN
  have HRB := Lib.hid hRB
  rw [hRN, hRB]
  clear hR hRN hRB hv
  generalize spl 46 s = L at *
  obtain ⟨n, hn⟩ : ∃ q, L.length = q := ⟨_, rfl⟩
  have Hn := Lib.hid hn
  rw [hn] at HSp HF
  clear hn
  go_enter Tryz.func30, Tryz.ntmps30
  go_wp2_with fail
  refine HSp.out.mono ?_
  rintro e w1 ⟨g, rfl, hr, hb⟩
  have HR1 := Lib.hid hr
  have HB1 := Lib.hid hb
  have HV1 := Lib.hid (HV0.out.below hb)
  clear hr hb HSp HV0
  by_cases h4 : n = 4
  · subst h4
    have hF := HF.out
    rw [if_pos rfl] at hF
    have HF2 := Lib.hid hF.symm
    clear hF HF
    go_wp2_with fail
    go_loopw [5, 17] (fun u i wr => ∃ k acc : Nat, k ≤ 4 ∧ acc < 256 ^ k ∧ i = .int .i64 (k : Int) ∧ u = .int .u64 (acc : Int) ∧ Hid (fouL (L.drop k) acc = R) ∧ Hid (Below w.heap.size w wr) ∧ Hid (RdS wr g L) ∧ Hid (Vr wr)) (fun _ i _ => 4 - (intOf i).toNat)
    case atStart => exact ⟨0, 0, by omega, by decide, rfl, rfl, HF2, HB1, HR1, HV1⟩
    case round =>
      clear HR1 HB1 HF2 HV1
      obtain ⟨k, acc, hk, hacc, rfl, rfl, HA, HB, HR, HV⟩ := hrel
      by_cases hlt : k < 4
      · obtain ⟨x, hx⟩ : ∃ x, L[k]? = some x := ⟨_, List.getElem?_eq_getElem (by rw [Hn.out]; exact hlt)⟩
        have HSt := Lib.hid (fouL_step (acc := acc) hx)
        have hc := HR.out.2 k x hx
        have hgl := HR.out.1
        have HNx := Lib.hid (HNm.out x wr (List.mem_of_getElem? hx) HV.out)
        have HSm : Hid ((∀ n, d255 x = some n → Lib.atoiAll x = .ok (n : Int) ∧ Lib.decDigits n = x ∧ n ≤ 255) ∧ (d255 x = none → ∀ v, Lib.atoiAll x = .ok v → 0 ≤ v → v ≤ 255 → Lib.decDigits v.toNat ≠ x)) := Lib.hid (atoi_255 x)
        have hac : acc < 16777216 := Nat.lt_of_lt_of_le hacc (Nat.le_trans (Nat.pow_le_pow_right (by decide) (show k ≤ 3 by omega)) (by decide))
        have hxl := strL_list x
        clear hx
        generalize d255 x = D at *
        obtain ⟨SX, hSX⟩ : ∃ q, strL x = q := ⟨_, rfl⟩
        have HSX := Lib.hid hSX
        rw [hSX] at hc HNx hxl
        clear hSX
        go_wp2_with fail
        refine HNx.out.mono ?_
        rintro e w2 ⟨⟨v, ev, rfl, hcs⟩, hb⟩
        have HB2 := Lib.hid (HB.out.trans (hb.mono HB.out.size))
        have HR2 := Lib.hid (HR.out.below hb)
        have HV2 := Lib.hid (HV.out.below hb)
        have HCs := Lib.hid hcs
        clear hb HB HR HNx hc hgl HV hcs
        cases D with
        | none =>
          have hN : R = none := by rw [← HA.out, HSt.out]
          subst hN
          have hq := HSm.out.2 rfl
          have e1 := HRN.out
          have e2 := HRB.out
          simp at e1 e2
          subst e1 e2
          cases hA : Lib.atoiAll x with
          | ok u =>
            have hcs := HCs.out
            rw [hA] at hcs
            obtain ⟨rfl, rfl⟩ := hcs
            have hq2 := hq v hA
            clear HSt HA HSm HCs hq hA
            go_wp2_with fail
            refine (in_any _ _ _ _).mono ?_
            rintro e w3 ⟨rfl, rfl⟩
            by_cases h0 : 0 ≤ v ∧ v ≤ 255
            · obtain ⟨u, rfl⟩ := Int.eq_ofNat_of_zero_le h0.1
              have hib : inB (u : Int) 0 255 = true := by unfold inB; simp; omega
              have hne := hq2 h0.1 h0.2
              have HIt := Lib.hid (itoa_any u (by omega) w2 HV2.out.tb.1)
              have hnl : (strL (Lib.decDigits u)).toList = Lib.decDigits u := strL_list _
              have e3 : (⟨(Lib.decDigits u).toArray⟩ : ByteArray) = strL (Lib.decDigits u) := rfl
              rw [e3] at HIt
              have hcmp : ((strL (Lib.decDigits u)).toList == x) = false := by rw [hnl]; exact beq_eq_false_iff_ne.2 hne
              rw [hib]
              generalize strL (Lib.decDigits u) = SI at *
              clear hnl hq2 hne e3 hib
              go_wp2_with fail
              refine HIt.out.mono ?_
              rintro e w3 ⟨rfl, hb⟩
              have HB3 := Lib.hid (HB2.out.trans (hb.mono HB2.out.size))
              clear hb HB2
              go_wp2_with fail
              go_ret2
              exact ⟨rfl, HB3.out⟩
            · have hib : inB v 0 255 = false := by unfold inB; simp; omega
              rw [hib]
              go_wp2_with fail
              go_ret2
              exact ⟨rfl, HB2.out⟩
          | range =>
            have hcs := HCs.out
            rw [hA] at hcs
            obtain ⟨t, p, rfl⟩ := hcs
            clear HSt HA HSm HCs hq hA
            go_wp2_with fail
            go_ret2
            exact ⟨rfl, HB2.out⟩
          | _ =>
            have hcs := HCs.out
            rw [hA] at hcs
            obtain ⟨t, p, rfl⟩ := hcs
            clear HSt HA HSm HCs hq hA
            go_wp2_with fail
            go_ret2
            exact ⟨rfl, HB2.out⟩
        | some m =>
          obtain ⟨hA, hdx, hm255⟩ := HSm.out.1 m rfl
          have hcs := HCs.out
          rw [hA] at hcs
          obtain ⟨rfl, rfl⟩ := hcs
          have HA2 : Hid (fouL (L.drop (k + 1)) (acc * 256 + m) = R) := Lib.hid (by rw [← HA.out, HSt.out])
          have hac2 : acc * 256 + m < 256 ^ (k + 1) := by
            rw [Nat.pow_succ]
            generalize 256 ^ k = P at *
            omega
          have HIt := Lib.hid (itoa_any m (by omega) w2 HV2.out.tb.1)
          have e3 : (⟨(Lib.decDigits m).toArray⟩ : ByteArray) = SX := by rw [hdx]; exact HSX.out
          rw [e3] at HIt
          have hib : inB (m : Int) 0 255 = true := by unfold inB; simp; omega
          clear HSt HA HSm HCs hA hdx e3
          go_wp2_with fail
          refine (in_any _ _ _ _).mono ?_
          rintro e w3 ⟨rfl, rfl⟩
          rw [hib]
          go_wp2_with fail
          refine HIt.out.mono ?_
          rintro e w3 ⟨rfl, hb⟩
          have HB3 := Lib.hid (HB2.out.trans (hb.mono HB2.out.size))
          have HR3 := Lib.hid (HR2.out.below hb)
          have HV3 := Lib.hid (HV2.out.below hb)
          clear hb HB2 HR2 HV2
          go_wp2_with fail
          exact ⟨⟨k + 1, acc * 256 + m, by omega, hac2, by go_num, by go_num, HA2, HB3, HR3, HV3⟩, by simp [intOf]; omega⟩
      · obtain rfl : k = 4 := by omega
        have hR : R = some acc := by
          rw [← HA.out, List.drop_of_length_le (by rw [Hn.out]; exact Nat.le_refl _)]
          rfl
        subst hR
        have e1 := HRN.out
        have e2 := HRB.out
        simp at e1 e2
        subst e1 e2
        go_wp2_with fail
        go_ret2
        exact ⟨rfl, HB.out⟩
  · have hF := HF.out
    rw [if_neg h4] at hF
    subst hF
    have e1 := HRN.out
    have e2 := HRB.out
    simp at e1 e2
    subst e1 e2
    have h4' : ¬ ((n : Int) = 4) := by omega
    have h4b : ((n : Int) == 4) = false := beq_eq_false_iff_ne.2 h4'
    clear HF
    go_wp2_with fail
    go_ret2
    exact ⟨rfl, HB1.out⟩
end Go.Proofs.YtcpafmndjcejjaaGreatDoor
