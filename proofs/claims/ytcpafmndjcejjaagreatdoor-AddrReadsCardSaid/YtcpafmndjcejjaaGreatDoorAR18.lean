/-
  The walk of kit.Number.
-/
import Derived.Test.YtcpafmndjcejjaaGreatDoorAR17
import Derived.Test.YtcpafmndjcejjaaGreatDoorAR3
set_option linter.unusedVariables false
namespace Go.Proofs.YtcpafmndjcejjaaGreatDoor
open Go.RowKit Go Go.Sort
set_option linter.unusedVariables false

theorem strL_list (L : List UInt8) : (strL L).toList = L := by rw [ByteArray.toList_eq]; rfl
set_option maxRecDepth 100000 in
set_option maxHeartbeats 2000000 in
theorem number_any (s : List UInt8) (most : Nat) (w : World) (hs : s.length ≤ 1000000) (hm : most ≤ 17) :
    Calls Tryz.prog 62 #[.string (strL s), .int .i64 (most : Int)] w (Ret (.tuple #[.int .i64 (if numOk s most = true then numV s else 0), .bool (numOk s most)]) w) := by
  have HT := Lib.hid fun wx => trimPrefix_any s [45] wx
  have HL := Lib.hid (sgnD_len s)
  have HAt := Lib.hid (@numOk_atoi s most)
  have hdl : (sgnD s).length ≤ s.length := by
    by_cases h : s.head? = some 45
    · cases s with
      | nil => simp at h
      | cons b r =>
        have : b = 45 := by simpa using h
        subst this
        rw [sgnD_neg]; simp
    · rw [sgnD_pos h]; omega
  have HO : Hid (numOk s most = (!(sgnD s).isEmpty && decide ((sgnD s).length ≤ most) && ((sgnD s).head? != some 48 || s == [48]) && (sgnD s).all isDg)) := Lib.hid rfl
  obtain ⟨D, hD⟩ : ∃ q, sgnD s = q := ⟨_, rfl⟩
  have hD' : Lib.trimPrefix s [45] = D := hD
  rw [hD] at HL HO hdl
  simp only [hD'] at HT
  clear hD hD'
  generalize numV s = V at *
  generalize numOk s most = OK at *
  obtain ⟨RV, hRV⟩ : ∃ q, (if OK = true then V else 0) = q := ⟨_, rfl⟩
  have HR1 : Hid (OK = true → RV = V) := Lib.hid fun h => by rw [← hRV, if_pos h]
  have HR0 : Hid (OK = false → RV = 0) := Lib.hid fun h => by rw [← hRV, if_neg (by simp [h])]
  rw [hRV]
  clear hRV
  have HC : Hid (∀ wx, Lib.atoi s = some V → s.length ≤ 18 → Calls Tryz.prog 66 #[.string (strL s)] wx (Ret (.tuple #[.int .i64 V, .nilIface]) wx)) := Lib.hid fun wx h1 h2 => by
    refine (Tryz.strconv_Atoi (strL s) V (by rw [strL_size]; exact h2) h1 wx).mono ?_
    rintro e w' ⟨rfl, t, rfl⟩
    exact ⟨rfl, Lib.bytesWorld_below wx _ _⟩
  have hse := strL_list s
  have hde := strL_list D
  have hsz : (strL D).size = D.length := strL_size D
  have HIx : Hid (∀ (i : Nat) (x : UInt8), D[i]? = some x → ∀ h : i < (strL D).size, (((strL D)[i]'h).toNat : Int) = ((x.toNat : Nat) : Int)) := Lib.hid fun i x hx h => by rw [strL_get D i x hx h]
  obtain ⟨SS, hSS⟩ : ∃ q, strL s = q := ⟨_, rfl⟩
  obtain ⟨DD, hDD⟩ : ∃ q, strL D = q := ⟨_, rfl⟩
  have HS := Lib.hid hSS
  rw [hSS] at HT HC hse ⊢
  simp only [hDD] at HT
  rw [hDD] at hde hsz HIx
  have e45 : strL [45] = ⟨#[45]⟩ := rfl
  rw [e45] at HT
  clear hSS hDD e45
  go_enter Tryz.func62, Tryz.ntmps62
  go_wp2_with fail
  refine (HT.out _).mono ?_
  rintro e w1 ⟨rfl, hb⟩
  have HB1 := Lib.hid hb
  clear hb HT
  obtain ⟨PRE, hPRE⟩ : ∃ q, (D.isEmpty || decide (most < D.length) || (D.head? == some 48 && !(s == [48]))) = q := ⟨_, rfl⟩
  have HPRE := Lib.hid hPRE
  clear hPRE
  go_upto_region 2 with fail
  go_cut [28] (fun v wx => v = .bool PRE ∧ Below w.heap.size w wx)
  case first =>
    rcases D with _ | ⟨x, D'⟩
    · have hP : PRE = true := by rw [← HPRE.out]; rfl
      subst hP
      clear HL HAt HO
      go_wp2_with fail
      go_meet
      case rel => exact ⟨rfl, HB1.out⟩
    · have hix := HIx.out 0 x rfl
      have hl0 : 0 < (x :: D').length := by simp
      have hemp : (x :: D').isEmpty = false := rfl
      have hP : PRE = (decide (most < (x :: D').length) || ((x == 48) && !(s == [48]))) := by rw [← HPRE.out]; simp
      have hne : ¬ (x :: D' = []) := by simp
      clear HL HAt HO HPRE
      generalize x :: D' = DL at *
      by_cases hx : x = 48
      · subst hx
        have hix2 : ∀ h : 0 < DD.size, ((DD[0]'h).toNat : Int) = 48 := hix
        have hP2 : PRE = (decide (most < DL.length) || !(s == [48])) := by rw [hP]; simp
        clear hix hP
        go_wp2_with fail
        all_goals (go_meet)
        all_goals (case rel => exact ⟨by rw [hP2] <;> simp_all, HB1.out⟩)
      · have hix2 : ∀ h : 0 < DD.size, ((DD[0]'h).toNat : Int) = ((x.toNat : Nat) : Int) := hix
        have hx48 : ¬ ((x.toNat : Int) = 48) := fun e => hx (UInt8.toNat.inj (by have : (48 : UInt8).toNat = 48 := rfl; omega))
        have hP2 : PRE = decide (most < DL.length) := by rw [hP, show (x == 48) = false from beq_eq_false_iff_ne.2 hx]; simp
        clear hix hP
        go_wp2_with fail
        all_goals (go_meet)
        all_goals (case rel => exact ⟨by rw [hP2] <;> simp_all, HB1.out⟩)
  case rest =>
    clear HB1
    obtain ⟨rfl, hb⟩ := hcut
    have HB1 := Lib.hid hb
    clear hb
    cases PRE
    · have HQ : Hid (D.isEmpty = false ∧ D.length ≤ most ∧ (D.head? != some 48 || s == [48]) = true) := Lib.hid (by
        have := HPRE.out
        rw [Bool.or_eq_false_iff, Bool.or_eq_false_iff] at this
        obtain ⟨⟨h1, h2⟩, h3⟩ := this
        refine ⟨h1, by simpa using h2, ?_⟩
        rw [Bool.and_eq_false_iff] at h3
        rcases h3 with h3 | h3
        · have : (D.head? != some 48) = true := by rw [bne, h3]; rfl
          rw [this]; rfl
        · have : (s == [48]) = true := by simpa using h3
          rw [this, Bool.or_true])
      clear HPRE
      have HOk : Hid (D.all isDg = true → OK = true) := Lib.hid fun h => by
        obtain ⟨h1, h2, h3⟩ := HQ.out
        rw [HO.out, h1, decide_eq_true h2, h3, h]; rfl
      have HNo : Hid (D.all isDg = false → OK = false) := Lib.hid fun h => by
        rw [HO.out, h, Bool.and_false]
      have hl18 : s.length ≤ 18 := by have := HL.out; have := HQ.out.2.1; omega
      clear HO HQ HL
      go_wp2_with fail
      go_loop [7] (fun v => ∃ i : Nat, i ≤ D.length ∧ v = .int .i64 (i : Int) ∧ Hid ((D.take i).all isDg = true)) (fun v => D.length - (intOf v).toNat)
      case atStart => exact ⟨0, Nat.zero_le _, rfl, Lib.hid rfl⟩
      case round =>
        obtain ⟨i, hi, rfl, HA⟩ := hrel
        by_cases hlt : i < D.length
        · obtain ⟨x, hx⟩ : ∃ x, D[i]? = some x := ⟨_, List.getElem?_eq_getElem hlt⟩
          have hix := HIx.out i x hx
          have Hx := Lib.hid hx
          clear hx
          by_cases h1 : isDg x = true
          · have h2 : 48 ≤ x.toNat ∧ x.toNat ≤ 57 := by unfold isDg at h1; simpa using h1
            have h3 := h2.1
            have h4 := h2.2
            have HA2 : Hid ((D.take (i + 1)).all isDg = true) := Lib.hid (by
              obtain ⟨hk, hxe⟩ := List.getElem?_eq_some_iff.1 Hx.out
              rw [List.take_succ_eq_append_getElem hk, List.all_append, HA.out, hxe]
              simp [h1])
            clear h1 h2
            go_wp2_with fail
            all_goals first
              | exact ⟨⟨i + 1, by omega, by go_num, HA2⟩, by simp [intOf]; omega⟩
              | (exfalso; omega)
          · have h2 : x.toNat < 48 ∨ 57 < x.toNat := by
              unfold isDg at h1
              have : ¬ (48 ≤ x.toNat ∧ x.toNat ≤ 57) := by simpa using h1
              omega
            have hN := HNo.out (by
              rw [← Bool.not_eq_true]
              intro ha
              have := List.all_eq_true.1 ha x (List.mem_of_getElem? Hx.out)
              exact h1 this)
            have hR := HR0.out hN
            subst hN
            subst hR
            clear h1 HR0 HR1
            rcases h2 with h2 | h2
            · go_wp2_with fail
              all_goals first
                | (go_ret2; exact ⟨rfl, HB1.out⟩)
                | (exfalso; omega)
            · have h5 : ¬ x.toNat < 48 := by omega
              go_wp2_with fail
              all_goals first
                | (go_ret2; exact ⟨rfl, HB1.out⟩)
                | (exfalso; omega)
        · obtain rfl : i = D.length := by omega
          have hall : D.all isDg = true := by have := HA.out; rwa [List.take_of_length_le (Nat.le_refl _)] at this
          have hO := HOk.out hall
          have hR := HR1.out hO
          subst hO
          subst hR
          clear HR0 HR1
          have HCx := Lib.hid fun wx => HC.out wx (HAt.out rfl) hl18
          clear HC HAt HNo HOk HA
          go_wp2_with fail
          refine (HCx.out _).mono ?_
          rintro e w2 ⟨rfl, hb⟩
          have HB2 := Lib.hid (HB1.out.trans (hb.mono HB1.out.size))
          clear hb HB1 HCx
          go_upto_region 10 with fail
          refine wp_region_later (by kernel_rfl) (by kernel_rfl) ?_
          repeat (go_big_quiet_step (fail))
          refine wpQuiet_nil ?_
          rintro w3 ⟨m3, hm3⟩
          have hb3 : Below w2.heap.size w2 w3 := by rw [hm3]; exact m3.2
          have HB3 := Lib.hid (HB2.out.trans (hb3.mono HB2.out.size))
          clear hm3 m3 hb3 HB2
          go_wp2_with fail
          go_ret2
          exact ⟨rfl, HB3.out⟩
    · have hN : OK = false := by
        rw [HO.out]
        have := HPRE.out
        rw [Bool.or_eq_true, Bool.or_eq_true] at this
        rcases this with (h | h) | h
        · rw [h]; rfl
        · have : ¬ D.length ≤ most := by have := of_decide_eq_true h; omega
          rw [decide_eq_false this, Bool.and_false]; rfl
        · rw [Bool.and_eq_true] at h
          have h1 : (D.head? != some 48) = false := by rw [bne, h.1]; rfl
          have h2 : (s == [48]) = false := by simpa using h.2
          rw [h1, h2, Bool.or_false, Bool.and_false]; rfl
      have hR := HR0.out hN
      subst hN
      subst hR
      clear HO HPRE HAt HR0 HR1
      go_wp2_with fail
      go_ret2
      exact ⟨rfl, HB1.out⟩
end Go.Proofs.YtcpafmndjcejjaaGreatDoor
