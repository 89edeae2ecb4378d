/-
  addr.CheckSet of the program.
-/
import Derived.Test.YtcpafmndjcejjaaGreatDoorSE10
set_option linter.unusedVariables false
namespace Go.Proofs.YtcpafmndjcejjaaGreatDoor
open Go.RowKit Go
set_option linter.unusedVariables false

/-- the fault at a place of a set -/
def fAt (L : List Pf) (i : Nat) : Int := if pfF (L.getD i zPf) ≠ 0 then pfF (L.getD i zPf) else if 0 < i ∧ nuP (L.getD i zPf) ≤ nuP (L.getD (i - 1) zPf) then 7 else 0
theorem fAt_zero {L : List Pf} {i : Nat} (h : fAt L i = 0) : pfF (L.getD i zPf) = 0 := by
  unfold fAt at h
  by_cases h1 : pfF (L.getD i zPf) ≠ 0
  · rw [if_pos h1] at h; exact h
  · simpa using h1
def scanF (L : List Pf) : Int := firstN (fAt L) L.length
/-- CheckSet -/
def setF (L : List Pf) : Int := if 1000 < L.length then 2 else if scanF L ≠ 0 then scanF L else if lst L = L then 0 else 16
set_option maxRecDepth 100000 in
set_option maxHeartbeats 4000000 in
theorem checkSet_any (ad : Option Addr) (n c : Nat) (L : List Pf) (w : World) (h : RdK layPf w ad L) (hn : L.length = n) (hs : n ≤ 100000) (hu : U4 L) :
    Calls Tryz.prog 35 #[.slice ad n c] w (Ret (.int .i64 (setF L)) w) := by
  by_cases hb : 1000 < n
  · have e : setF L = 2 := by unfold setF; rw [hn, if_pos hb]
    rw [e]
    have hb2 : (n : Int) > 1000 := by omega
    clear h hu hn e
    go_enter Tryz.func35, Tryz.ntmps35
    go_wp2_with fail
    go_ret
    exact ⟨rfl, Below.refl _ _⟩
  · have hb2 : ¬ (n : Int) > 1000 := by omega
    have H0 := Lib.hid h
    have Hn := Lib.hid hn
    have Hu := Lib.hid hu
    have HF : Hid (∀ k, k < n → (∀ j, j < k → fAt L j = 0) → fAt L k ≠ 0 → setF L = fAt L k) := Lib.hid fun k hk h1 h2 => by
      have e := firstN_hit (fAt L) n k hk h1 h2
      unfold setF scanF
      rw [hn, if_neg hb, if_pos (by rw [e]; exact h2), e]
    have HZ : Hid ((∀ j, j < n → fAt L j = 0) → (∀ p ∈ L, OkPf p) ∧ (lst L = L → setF L = 0) ∧ (lst L ≠ L → setF L = 16)) := Lib.hid fun h1 => by
      have e := firstN_none (fAt L) n h1
      refine ⟨fun p hp => ?_, fun h2 => ?_, fun h2 => ?_⟩
      · obtain ⟨i, hi, rfl⟩ := List.getElem_of_mem hp
        have := fAt_zero (h1 i (by omega))
        simp only [List.getD, List.getElem?_eq_getElem hi, Option.getD_some] at this
        obtain ⟨u1, u2⟩ := hu _ (List.getElem_mem hi)
        exact okPf_of this u1 u2
      · unfold setF scanF
        rw [hn, if_neg hb, e, if_neg (by decide), if_pos h2]
      · unfold setF scanF
        rw [hn, if_neg hb, e, if_neg (by decide), if_neg h2]
    obtain ⟨af, haf⟩ : ∃ z, setF L = z := ⟨_, rfl⟩
    rw [haf] at HF HZ ⊢
    clear haf h hn hu hb
    go_enter Tryz.func35, Tryz.ntmps35
    go_wp2_with fail
    go_loopw [3, 4, 5, 11] (fun iv bx ev i wr => ∃ (k : Nat), k ≤ n ∧ i = .int .i64 k ∧ Hid (∀ j, j < k → fAt L j = 0) ∧ Hid (Below w.heap.size w wr)) (fun _ _ _ i _ => n - (intOf i).toNat)
    case atStart => exact ⟨0, Nat.zero_le _, rfl, Lib.hid fun j hj => absurd hj (Nat.not_lt_zero _), Lib.hid (Below.refl _ _)⟩
    case round =>
      obtain ⟨k, hk, rfl, HX, HB⟩ := hrel
      by_cases hlt : k < n
      · have hS : k < L.length := by rw [Hn.out]; exact hlt
        obtain ⟨p, hp⟩ : ∃ p, L[k]? = some p := ⟨_, List.getElem?_eq_getElem hS⟩
        have hpd : L.getD k zPf = p := by simp [List.getD, hp]
        have HU := Lib.hid (Hu.out p (List.mem_of_getElem? hp))
        obtain ⟨g, o, had, hg, c0, c1, c2, c3⟩ := (H0.out.below HB.out).pf hp rfl
        subst had
        have HP := Lib.hid fun wx => checkPrefix_any p.1 p.2.1 p.2.2.1 p.2.2.2 wx HU.out.1 HU.out.2
        have HFk := Lib.hid (HF.out k hlt HX.out)
        have HXk : Hid (fAt L k = 0 → ∀ j, j < k + 1 → fAt L j = 0) := Lib.hid fun e j hj => by
          rcases Nat.lt_or_ge j k with h1 | h1
          · exact HX.out j h1
          · obtain rfl : j = k := by omega
            exact e
        have HA : Hid (fAt L k = if pfF p ≠ 0 then pfF p else if 0 < k ∧ nuP p ≤ nuP (L.getD (k - 1) zPf) then 7 else 0) := Lib.hid (by unfold fAt; rw [hpd])
        have HNu : Hid (nuP p = numA p.1 p.2.1 p.2.2.1) := Lib.hid rfl
        unfold pfF at HA
        skip
        clear hp hS hpd hg HX
        generalize hFe : pFault p.1 p.2.1 p.2.2.1 p.2.2.2 = F at *
        clear hFe
        generalize p.1 = a1 at *
        generalize p.2.1 = a2 at *
        generalize p.2.2.1 = a3 at *
        generalize p.2.2.2 = a4 at *
        have HB1 : Hid (Below w.heap.size w (wr.alloc (.cells #[.bool a1, .int .u64 (a2 : Int), .int .u64 (a3 : Int), .int .i64 a4] 45 (0, 0)))) := Lib.hid (Below.alloc HB.out HB.out.size _)
        have HP1 : Hid (Blk (wr.alloc (.cells #[.bool a1, .int .u64 (a2 : Int), .int .u64 (a3 : Int), .int .i64 a4] 45 (0, 0))) wr.heap.size 45 #[.bool a1, .int .u64 (a2 : Int), .int .u64 (a3 : Int), .int .i64 a4]) := Lib.hid (Blk.new wr _ _)
        go_upto_region 6 with fail
        generalize wr.alloc (.cells #[.bool a1, .int .u64 (a2 : Int), .int .u64 (a3 : Int), .int .i64 a4] 45 (0, 0)) = w3 at *
        generalize wr.heap.size = bx at *
        clear HB c0 c1 c2 c3
        have d0 := HP1.out.cell 0
        have d1 := HP1.out.cell 1
        have d2 := HP1.out.cell 2
        have d3 := HP1.out.cell 3
        simp at d0 d1 d2 d3
        go_wp2_with fail
        refine (HP.out _).mono ?_
        rintro e w4 ⟨rfl, hb⟩
        have HB4 := Lib.hid (HB1.out.trans (hb.mono HB1.out.size))
        have HP4 := Lib.hid (HP1.out.below hb HP1.out.lt)
        clear hb HB1 HP1 HP d0 d1 d2 d3
        by_cases hF0 : F = 0
        · rcases Nat.eq_zero_or_pos k with hk0 | hk0
          · have HX2 := Lib.hid (HXk.out (by rw [HA.out, if_neg (by simp [hF0]), if_neg (by omega)]))
            subst hF0 hk0
            have z0 : ((0 : Nat) : Int) = 0 := rfl
            simp only [z0]
            clear HFk HXk HA HNu HU
            go_wp2_with fail
            refine wp_region_later (by kernel_rfl) (by kernel_rfl) ?_
            repeat (go_big_quiet_step (fail))
            refine wpQuiet_nil ?_
            rintro w5 ⟨n5, hn5⟩
            have hb : Below w4.heap.size w4 w5 := by rw [hn5]; exact n5.2
            clear hn5 n5
            have HB5 := Lib.hid (HB4.out.trans (hb.mono HB4.out.size))
            clear hb
            go_wp2_with fail
            exact ⟨⟨1, by omega, by first | rfl | go_num, HX2, HB5⟩, by simp [intOf]; omega⟩
          · obtain ⟨j, hj⟩ : ∃ j, k = j + 1 := ⟨k - 1, by omega⟩
            have hjS : j < L.length := by rw [Hn.out]; omega
            obtain ⟨q, hq⟩ : ∃ q, L[j]? = some q := ⟨_, List.getElem?_eq_getElem hjS⟩
            have hqd : L.getD (k - 1) zPf = q := by rw [hj]; simp [List.getD, hq]
            obtain ⟨hu3, hu4⟩ := Hu.out q (List.mem_of_getElem? hq)
            obtain ⟨g', o', had, hg', b0, b1, b2, b3⟩ := (H0.out.below HB4.out).pf hq rfl
            injection had with had
            injection had with had1 had2
            subst had1 had2
            have HO := Lib.hid fun wx => aCompare_any q.1 q.2.1 q.2.2.1 a1 a2 a3 wx hu3 hu4 HU.out.1 HU.out.2
            have HA2 : Hid (fAt L k = if nuP p ≤ nuP q then 7 else 0) := Lib.hid (by
              rw [HA.out, if_neg (by simp [hF0]), hqd]
              by_cases h1 : nuP p ≤ nuP q
              · rw [if_pos h1, if_pos ⟨hk0, h1⟩]
              · rw [if_neg h1, if_neg (fun h => h1 h.2)])
            have HCg := Lib.hid (cN_ge_iff (nuP q) (nuP p))
            have HNq : Hid (nuP q = numA q.1 q.2.1 q.2.2.1) := Lib.hid rfl
            rw [← HNq.out, ← HNu.out] at HO
            clear hq hqd hjS hu3 hu4 HA HNu HNq hg'
            generalize nuP q = nq at *
            generalize nuP p = np at *
            generalize q.1 = e1 at *
            generalize q.2.1 = e2 at *
            generalize q.2.2.1 = e3 at *
            generalize q.2.2.2 = e4 at *
            have i1 : (k : Int) - 1 = (j : Int) := by omega
            have i2 : decide (0 < k) = true := decide_eq_true hk0
            have i3 : (j : Int) < (n : Int) := by omega
            have i4 : (0 : Int) ≤ (j : Int) := by omega
            have i5 : (k : Int) ≤ 1000 := by omega
            have Hj := Lib.hid hj
            clear hj hk0
            have d0 := HP4.out.cell 0
            have d1 := HP4.out.cell 1
            have d2 := HP4.out.cell 2
            have d3 := HP4.out.cell 3
            simp at d0 d1 d2 d3
            have l0 := Later.cell_of d0
            have l1 := Later.cell_of d1
            have l2 := Later.cell_of d2
            have k0 := Later.cell_of b0
            have k1 := Later.cell_of b1
            have k2 := Later.cell_of b2
            have hO := fun x : Later w4 => Calls.later x (HO.out x.1)
            subst hF0
            generalize cN nq np = C at *
            go_upto_region 9 with fail
            refine wp_region_later (by kernel_rfl) (by kernel_rfl) ?_
            repeat (go_big_quiet_step ((go_at_call 75; exact hO _)))
            refine wpQuiet_nil ?_
            rintro w5 ⟨n5, hn5⟩
            have hb : Below w4.heap.size w4 w5 := by rw [hn5]; exact n5.2
            clear hn5 n5 hO HO l0 l1 l2 k0 k1 k2 d0 d1 d2 d3 b0 b1 b2 b3
            have HB5 := Lib.hid (HB4.out.trans (hb.mono HB4.out.size))
            clear hb HP4 HB4
            by_cases hnn : np ≤ nq
            · have hC0 : C ≥ 0 := HCg.out.2 hnn
              have HE := Lib.hid (HFk.out (by rw [HA2.out, if_pos hnn]; decide))
              have HE2 : Hid (af = 7) := Lib.hid (by rw [HE.out, HA2.out, if_pos hnn])
              clear HFk HXk HA2 HE HU
              go_wp2_with fail
              go_ret
              exact ⟨by rw [HE2.out]; rfl, HB5.out⟩
            · have hC0 : ¬ C ≥ 0 := fun h => hnn (HCg.out.1 h)
              have HX2 := Lib.hid (HXk.out (by rw [HA2.out, if_neg hnn]))
              clear HFk HXk HA2 HU
              go_wp2_with fail
              exact ⟨⟨k + 1, by omega, by go_num, HX2, HB5⟩, by simp [intOf]; omega⟩
        · have hF2 : (F != 0) = true := by simpa using hF0
          have hFA : fAt L k = F := by rw [HA.out, if_pos hF0]
          have HE : Hid (af = F) := Lib.hid (by rw [HFk.out (by rw [hFA]; exact hF0), hFA])
          clear HFk HXk hF0 HA hFA HU
          go_wp2_with fail
          go_ret
          exact ⟨by rw [HE.out]; rfl, HB4.out⟩
      · obtain rfl : k = n := by omega
        obtain ⟨hok, hz0, hz1⟩ := HZ.out HX.out
        have HR := Lib.hid (H0.out.below HB.out)
        have HZ0 := Lib.hid hz0
        have HZ1 := Lib.hid hz1
        have HS := Lib.hid (spanOf_any ad k c L wr HR.out Hn.out hs hok)
        have HJv := Lib.hid (sps_vr hok)
        have HJl := Lib.hid (jn_len (L.map spP))
        have HLl := Lib.hid (lst_len hok)
        have Hlst : Hid (pfs (jn (L.map spP)) = lst L) := Lib.hid rfl
        clear hok hz0 hz1 HZ HF HX Hu
        generalize jn (L.map spP) = J at *
        go_wp2_with fail
        refine HS.out.mono ?_
        rintro e w3 ⟨v, rfl, hO, hB⟩
        obtain ⟨ad3, c3, rfl, _⟩ := hO.form
        have HT := Lib.hid (prefixes_any ad3 J.length c3 J w3 hO.rd rfl (by have := HJl.out; rw [List.length_map, Hn.out] at this; omega) HJv.out)
        rw [Hlst.out] at HT
        have HB3 := Lib.hid (HB.out.trans (hB.mono HB.out.size))
        have HR3 := Lib.hid (HR.out.below hB)
        clear hO hB HB HS HJl HJv Hlst HR
        generalize J.length = jl at *
        go_wp2_with fail
        refine HT.out.mono ?_
        rintro e w4 ⟨v, rfl, hO, hB⟩
        obtain ⟨ad4, c4, rfl, _⟩ := hO.form
        have HQ := Lib.hid (equal_pf ad4 ad c4 c (lst L) L w4 hO.rd (HR3.out.below hB) (by have := HLl.out; rw [Hn.out] at this; omega))
        rw [Hn.out] at HQ
        have HB4 := Lib.hid (HB3.out.trans (hB.mono HB3.out.size))
        clear hO hB HB3 HR3 HT HLl
        generalize (lst L).length = ll at *
        go_wp2_with fail
        refine HQ.out.mono ?_
        rintro e w5 ⟨rfl, q5, rfl⟩
        have HB5 := Lib.hid (below_drewN HB4.out q5)
        by_cases hq : lst L = L
        · have HE := Lib.hid (HZ0.out hq)
          rw [decide_eq_true hq]
          clear hq HQ HZ0 HZ1
          go_wp2_with fail
          go_ret
          exact ⟨by rw [HE.out]; rfl, HB5.out⟩
        · have HE := Lib.hid (HZ1.out hq)
          rw [decide_eq_false hq]
          clear hq HQ HZ0 HZ1
          go_wp2_with fail
          go_ret
          exact ⟨by rw [HE.out]; rfl, HB5.out⟩
end Go.Proofs.YtcpafmndjcejjaaGreatDoor
