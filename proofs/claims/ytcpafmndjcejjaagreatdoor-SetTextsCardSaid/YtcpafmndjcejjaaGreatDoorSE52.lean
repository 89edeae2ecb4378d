/-
  The law SetTexts: walked. Condition: the variables that the functions read.
-/
import Derived.Test.YtcpafmndjcejjaaGreatDoorSE47
import Derived.Test.YtcpafmndjcejjaaGreatDoorSE49
import Derived.Test.YtcpafmndjcejjaaGreatDoorSE50
import Derived.Test.YtcpafmndjcejjaaGreatDoorSE10
import Derived.Test.YtcpafmndjcejjaaGreatDoorSE51
set_option linter.unusedVariables false
namespace Go.Proofs.YtcpafmndjcejjaaGreatDoor
open Go.RowKit Go Go.Sort
set_option linter.unusedVariables false

theorem setF_okT {L : List Pf} (h : setF L = 0) (hu : U4 L) : ∀ p ∈ L, OkPf p := fun p hp => by
  unfold setF at h
  by_cases h1 : 1000 < L.length
  · rw [if_pos h1] at h; cases h
  · rw [if_neg h1] at h
    by_cases h2 : scanF L ≠ 0
    · rw [if_pos h2] at h; exact absurd h h2
    · have h2 : scanF L = 0 := by simpa using h2
      obtain ⟨i, hi, rfl⟩ := List.getElem_of_mem hp
      have := fAt_zero (firstN_zero h2 i hi)
      simp only [List.getD, List.getElem?_eq_getElem hi, Option.getD_some] at this
      obtain ⟨u1, u2⟩ := hu _ (List.getElem_mem hi)
      exact okPf_of this u1 u2
/-- a set that is read has at most a thousand prefixes -/
theorem rsR_len {s : List UInt8} {L : List Pf} {i f : Int} (h : rsR s = (L, i, f)) : L.length ≤ 1000 := by
  unfold rsR at h
  by_cases h1 : 200000 < s.length
  · rw [if_pos h1] at h
    injection h with h
    subst h
    exact Nat.zero_le _
  · rw [if_neg h1] at h
    unfold rsV at h
    split at h
    · injection h with h
      subst h
      exact Nat.zero_le _
    · split at h
      · rename_i hs
        injection h with h
        subst h
        unfold setF at hs
        by_cases h2 : 1000 < (List.length ‹_›)
        · rw [if_pos h2] at hs; cases hs
        · omega
      · injection h with h
        subst h
        exact Nat.zero_le _
set_option maxRecDepth 100000 in
set_option maxHeartbeats 8000000 in
theorem law_SetTexts (ad : Option Addr) (n c : Nat) (w : World) (h : LawArg w ad n) (hv : Vr w) :
    Calls Tryz.prog 4 #[.slice ad n c] w (Ret (.bool true) w) := by
  have hS := LawArg.strm (c := c) h
  have HB0 : Hid (Below w.heap.size w (w.alloc (.cells #[.slice ad n c, .int .i64 0] 25 (0, 0)))) := Lib.hid (below_alloc (Below.refl _ _) _)
  have hblt : w.heap.size < (w.alloc (.cells #[.slice ad n c, .int .i64 0] 25 (0, 0))).heap.size := hS.lt
  have HS := Lib.hid hS
  have HVw : Hid (∀ wx, Below w.heap.size w wx → Vr wx) := Lib.hid fun wx hb => hv.below hb
  clear h hS hv
  go_enter Tryz.func4, Tryz.ntmps4
  go_wp2_with fail
  generalize w.alloc (.cells #[.slice ad n c, .int .i64 0] 25 (0, 0)) = w0 at *
  obtain ⟨b, hbw⟩ : ∃ b, w.heap.size = b := ⟨_, rfl⟩
  rw [hbw] at hblt HS HB0 HVw ⊢
  have Hbw := Lib.hid hbw
  have HBw : Hid (b ≤ w.heap.size) := Lib.hid (by omega)
  clear hbw
  have HBg : Hid (∀ w' k, Gen b w0 w' k → Below b w w') := Lib.hid fun w' k hg => by
    have := Gen.toBelowR (w := w) hg (by rw [Hbw.out]; exact HB0.out) (by rw [Hbw.out]; exact Nat.le_refl _)
    rwa [Hbw.out] at this
  have HVg : Hid (∀ w' k, Gen b w0 w' k → Vr w') := Lib.hid fun w' k hg => HVw.out w' (HBg.out w' k hg)
  refine (set_gen b 0 _ HS.out (by omega)).mono ?_
  rintro e w1 ⟨v, L, rfl, hO, hl, hu, hg⟩
  have HG1 := Lib.hid hg
  have HO1 := Lib.hid hO
  obtain ⟨la, lc, hv, -⟩ := hO.form
  subst hv
  obtain ⟨ln, hln⟩ : ∃ q, L.length = q := ⟨_, rfl⟩
  rw [hln] at HO1 hl ⊢
  have HC1 := Lib.hid fun wx (hr : RdK layPf wx la L) (hv : Vr wx) => setText_any la ln lc L wx hr hln (by omega) hu (fun h => setF_okT h hu) hv.tb
  have HC2 := Lib.hid fun wx (hr : RdK layPf wx la L) => setFault_any la ln lc L wx hr hln (by omega) hu
  have HC3 := Lib.hid fun (hf : setF L = 0) wx (hr : RdK layPf wx la L) (hv : Vr wx) => setLines_any la ln lc L wx hr hln (by omega) (setF_okT hf hu) hv.tb
  have HRS0 : Hid (setF L = 0 → (if setF L = 0 then strL (setT L) else ⟨#[]⟩) = strL (setT L)) := Lib.hid fun h => if_pos h
  have HRS1 : Hid (setF L ≠ 0 → (if setF L = 0 then strL (setT L) else ⟨#[]⟩) = ⟨#[]⟩) := Lib.hid fun h => if_neg h
  clear hg hO hl hu hln HS HB0
  obtain ⟨RS, hRS⟩ : ∃ q, (if setF L = 0 then strL (setT L) else ⟨#[]⟩) = q := ⟨_, rfl⟩
  rw [hRS] at HC1 HRS0 HRS1
  clear hRS
  generalize strL (setT L) = TX at *
  generalize setF L = F at *
  have HR1 := Lib.hid (HO1.out.rd)
  have HCx := Lib.hid (HC1.out w1 HR1.out (HVg.out _ _ HG1.out))
  clear HC1 HO1
  go_wp2_with fail
  refine HCx.out.mono ?_
  rintro e u1 ⟨rfl, hb⟩
  have HR2 := Lib.hid (HR1.out.below hb)
  have HG2 := Lib.hid (HG1.out.below hb HG1.out.g.size HG1.out.s.lt)
  clear hb HCx HR1 HG1
  have HCx := Lib.hid (HC2.out u1 HR2.out)
  clear HC2
  go_wp2_with fail
  refine HCx.out.mono ?_
  rintro e u2 ⟨rfl, hb⟩
  have HR3 := Lib.hid (HR2.out.below hb)
  have HG3 := Lib.hid (HG2.out.below hb HG2.out.g.size HG2.out.s.lt)
  clear hb HCx HR2 HG2
  by_cases hF : F = 0
  · subst hF
    obtain rfl : RS = TX := HRS0.out rfl
    have HCx := Lib.hid (HC3.out rfl u2 HR3.out (HVg.out _ _ HG3.out))
    clear HC3 HRS0 HRS1
    go_wp2_with fail
    refine HCx.out.mono ?_
    rintro e u3 ⟨rfl, hb⟩
    have HGz := Lib.hid (HG3.out.below hb HG3.out.g.size HG3.out.s.lt)
    clear hb HCx HR3 HG3
    have HTb5 : Hid (∀ w', (∃ k, Gen b u3 w' k) → Tabs w') := Lib.hid fun w' ⟨k, hg2⟩ => (HVg.out w' _ (HGz.out.trans hg2)).tb
    go_wp2_with fail
    refine (setString_gen b _ _ HGz.out.s (by omega) HTb5.out).mono ?_
    rintro e w5 ⟨S, rfl, hS, hg⟩
    have HG5 := Lib.hid (HGz.out.trans hg)
    clear hg HGz HTb5
    have hsl : S.data.toList.length ≤ 1000000 := by
      have : S.data.toList.length = S.size := by rw [Array.length_toList]; rfl
      omega
    have hss : strL S.data.toList = S := strL_of S
    obtain ⟨s, hs⟩ : ∃ q, S.data.toList = q := ⟨_, rfl⟩
    rw [hs] at hsl hss
    subst hss
    have HC4 := Lib.hid fun wx (hv : Vr wx) => readSet_any s wx hv hsl
    have HC5 := Lib.hid fun wx (hv : Vr wx) => setRead_any s wx hv hsl
    obtain ⟨⟨L0, i0, f0⟩, hr⟩ : ∃ q, rsR s = q := ⟨_, rfl⟩
    simp only [hr] at HC4 HC5
    generalize strL s = SS at *
    have Hr := Lib.hid (rsR_len hr)
    clear hs hS hr hsl
    have HCx := Lib.hid (HC4.out _ (HVg.out _ _ HG5.out))
    clear HC4
    go_wp2_with fail
    refine HCx.out.mono ?_
    rintro e w6 ⟨v1, L1, i1, f1, he, rfl, hO, hb⟩
    injection he with e1 he
    injection he with e2 e3
    subst e1 e2 e3
    have HO6 := Lib.hid hO
    have HG6 := Lib.hid (HG5.out.below hb HG5.out.g.size HG5.out.s.lt)
    clear hO hb HCx HG5
    have HCx := Lib.hid (HC5.out _ (HVg.out _ _ HG6.out))
    clear HC5
    go_wp2_with fail
    refine HCx.out.mono ?_
    rintro e w7 ⟨v2, L2, i2, f2, he, rfl, hO, hb⟩
    injection he with e1 he
    injection he with e2 e3
    subst e1 e2 e3
    have HO7 := Lib.hid hO
    have HP7 := Lib.hid (HO6.out.later hb)
    have HG7 := Lib.hid (HG6.out.below hb HG6.out.g.size HG6.out.s.lt)
    clear hO hb HCx HG6 HO6
    obtain ⟨ad1, c1, hv1, -⟩ := HP7.out.form
    obtain ⟨ad2, c2, hv2, -⟩ := HO7.out.form
    subst hv1 hv2
    have hll : L0.length ≤ 1000000000 := Nat.le_trans Hr.out (by decide)
    have HQ := Lib.hid (equal_pf ad1 ad2 c1 c2 L0 L0 w7 HP7.out.rd HO7.out.rd hll)
    generalize L0.length = nn at *
    have HB7 := Lib.hid (HBg.out _ _ HG7.out)
    clear HG7 hll HO7 HP7
    have hAd := Lib.hid fun wx => addressed_any wx
    go_wp2_with fail
    refine HQ.out.mono ?_
    rintro e z ⟨rfl, q, rfl⟩
    go_wp2_with fail
    refine (hAd.out _).mono ?_
    rintro e z2 ⟨rfl, hb⟩
    have HE : Hid (Below b w z2) := Lib.hid ((HB7.out.trans ((Go.Proofs.YtcpafmndjcejjaaGreatDoor.below_drewN (Below.refl _ _) q).mono (Nat.le_trans HBw.out HB7.out.size))).trans (hb.mono (by have := HB7.out.size; have := HBw.out; simp; omega)))
    clear hb
    go_wp2_with fail
    go_ret
    exact ⟨by simp, by rw [Hbw.out]; exact HE.out⟩
  · obtain rfl : RS = ⟨#[]⟩ := HRS1.out hF
    have hb1 : (F != 0) = true := by simpa using hF
    have hb2 : (F == 0) = false := by simpa using hF
    have HGz := HG3
    clear HC3 HRS0 HRS1 HR3 HG3
    have HTb5 : Hid (∀ w', (∃ k, Gen b u2 w' k) → Tabs w') := Lib.hid fun w' ⟨k, hg2⟩ => (HVg.out w' _ (HGz.out.trans hg2)).tb
    go_wp2_with fail
    refine (setString_gen b _ _ HGz.out.s (by omega) HTb5.out).mono ?_
    rintro e w5 ⟨S, rfl, hS, hg⟩
    have HG5 := Lib.hid (HGz.out.trans hg)
    clear hg HGz HTb5
    have hsl : S.data.toList.length ≤ 1000000 := by
      have : S.data.toList.length = S.size := by rw [Array.length_toList]; rfl
      omega
    have hss : strL S.data.toList = S := strL_of S
    obtain ⟨s, hs⟩ : ∃ q, S.data.toList = q := ⟨_, rfl⟩
    rw [hs] at hsl hss
    subst hss
    have HC4 := Lib.hid fun wx (hv : Vr wx) => readSet_any s wx hv hsl
    have HC5 := Lib.hid fun wx (hv : Vr wx) => setRead_any s wx hv hsl
    obtain ⟨⟨L0, i0, f0⟩, hr⟩ : ∃ q, rsR s = q := ⟨_, rfl⟩
    simp only [hr] at HC4 HC5
    generalize strL s = SS at *
    have Hr := Lib.hid (rsR_len hr)
    clear hs hS hr hsl
    have HCx := Lib.hid (HC4.out _ (HVg.out _ _ HG5.out))
    clear HC4
    go_wp2_with fail
    refine HCx.out.mono ?_
    rintro e w6 ⟨v1, L1, i1, f1, he, rfl, hO, hb⟩
    injection he with e1 he
    injection he with e2 e3
    subst e1 e2 e3
    have HO6 := Lib.hid hO
    have HG6 := Lib.hid (HG5.out.below hb HG5.out.g.size HG5.out.s.lt)
    clear hO hb HCx HG5
    have HCx := Lib.hid (HC5.out _ (HVg.out _ _ HG6.out))
    clear HC5
    go_wp2_with fail
    refine HCx.out.mono ?_
    rintro e w7 ⟨v2, L2, i2, f2, he, rfl, hO, hb⟩
    injection he with e1 he
    injection he with e2 e3
    subst e1 e2 e3
    have HO7 := Lib.hid hO
    have HP7 := Lib.hid (HO6.out.later hb)
    have HG7 := Lib.hid (HG6.out.below hb HG6.out.g.size HG6.out.s.lt)
    clear hO hb HCx HG6 HO6
    obtain ⟨ad1, c1, hv1, -⟩ := HP7.out.form
    obtain ⟨ad2, c2, hv2, -⟩ := HO7.out.form
    subst hv1 hv2
    have hll : L0.length ≤ 1000000000 := Nat.le_trans Hr.out (by decide)
    have HQ := Lib.hid (equal_pf ad1 ad2 c1 c2 L0 L0 w7 HP7.out.rd HO7.out.rd hll)
    generalize L0.length = nn at *
    have HB7 := Lib.hid (HBg.out _ _ HG7.out)
    clear HG7 hll HO7 HP7
    have hAd := Lib.hid fun wx => addressed_any wx
    go_wp2_with fail
    refine HQ.out.mono ?_
    rintro e z ⟨rfl, q, rfl⟩
    go_wp2_with fail
    refine (hAd.out _).mono ?_
    rintro e z2 ⟨rfl, hb⟩
    have HE : Hid (Below b w z2) := Lib.hid ((HB7.out.trans ((Go.Proofs.YtcpafmndjcejjaaGreatDoor.below_drewN (Below.refl _ _) q).mono (Nat.le_trans HBw.out HB7.out.size))).trans (hb.mono (by have := HB7.out.size; have := HBw.out; simp; omega)))
    clear hb
    go_wp2_with fail
    go_ret
    exact ⟨by simp, by rw [Hbw.out]; exact HE.out⟩
end Go.Proofs.YtcpafmndjcejjaaGreatDoor
