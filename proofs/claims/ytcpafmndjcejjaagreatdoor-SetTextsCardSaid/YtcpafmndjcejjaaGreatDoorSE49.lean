/-
  kit.Lines and ReadSet, of the program. Condition: at most a million bytes.
-/
import Derived.Test.YtcpafmndjcejjaaGreatDoorSE44
import Derived.Test.YtcpafmndjcejjaaGreatDoorSE48
import Derived.Test.YtcpafmndjcejjaaGreatDoorSE7
set_option linter.unusedVariables false
namespace Go.Proofs.YtcpafmndjcejjaaGreatDoor
open Go.RowKit Go Go.Sort
set_option linter.unusedVariables false

set_option maxRecDepth 100000 in
set_option maxHeartbeats 4000000 in
theorem kLines_any (s : List UInt8) (w : World) (hv : Vr w) (hs : s.length ≤ 1000000) :
    Calls Tryz.prog 43 #[.string (strL s)] w fun e w' => ∃ g m l cl M, (spl 10 s).length = m + 1 ∧ (spl 10 s)[m]? = some l ∧ (cl = true → M = m ∧ l = []) ∧ (cl = false → M = m + 1 ∧ l ≠ []) ∧ e = .returned (.tuple #[.slice (some ⟨g, 0, none⟩) M (m + 1), .bool cl]) ∧ RdS w' g (spl 10 s) ∧ Below w.heap.size w w' := by
  have HSp := Lib.hid (split_any s 10 w hv hs)
  have hnl : (spl 10 s).length ≤ 1000001 := by
    rw [spl_len]
    have := List.count_le_length (a := (10 : UInt8)) (l := s)
    omega
  have hne := spl_ne 10 s
  generalize spl 10 s = A at *
  obtain ⟨m, hm⟩ : ∃ m, A.length = m + 1 := ⟨A.length - 1, by have := List.length_pos_iff.2 hne; omega⟩
  obtain ⟨l, hl⟩ : ∃ l, A[m]? = some l := ⟨_, List.getElem?_eq_getElem (by omega)⟩
  rw [hm] at HSp hnl
  have Hm := Lib.hid hm
  have Hl := Lib.hid hl
  generalize strL s = SS at *
  clear hm hl hne hv hs
  go_enter Tryz.func43, Tryz.ntmps43
  go_wp2_with fail
  refine HSp.out.mono ?_
  rintro e w1 ⟨g, rfl, hr, hb⟩
  have HR1 := Lib.hid hr
  have HB1 := Lib.hid hb
  have hc := hr.2 m l Hl.out
  have hse := strL_list l
  obtain ⟨SX, hSX⟩ : ∃ q, strL l = q := ⟨_, rfl⟩
  rw [hSX] at hc hse
  clear hSX hr hb HSp
  have hmi : (m : Int) + 1 - 1 = (m : Int) := by omega
  by_cases h0 : l = []
  · have hem : l.isEmpty = true := by rw [h0]; rfl
    go_wp2_with fail
    go_ret2
    exact ⟨g, m, l, true, m, Hm.out, Hl.out, fun _ => ⟨rfl, h0⟩, fun h => (by cases h), rfl, HR1.out, HB1.out⟩
  · have hem : l.isEmpty = false := by cases l with
      | nil => exact absurd rfl h0
      | cons _ _ => rfl
    go_wp2_with fail
    go_ret2
    exact ⟨g, m, l, false, m + 1, Hm.out, Hl.out, fun h => (by cases h), fun _ => ⟨rfl, h0⟩, rfl, HR1.out, HB1.out⟩
set_option maxRecDepth 100000 in
set_option maxHeartbeats 8000000 in
theorem readSet_any (s : List UInt8) (w : World) (hv : Vr w) (hs : s.length ≤ 1000000) :
    Calls Tryz.prog 16 #[.string (strL s)] w fun e w' => ∃ v L i f, rsR s = (L, i, f) ∧ e = .returned (.tuple #[v, .int .i64 i, .int .i64 f]) ∧ OwnK layPf w' w.heap.size v L ∧ Below w.heap.size w w' := by
  have HLi := Lib.hid (kLines_any s w hv hs)
  have HV0 := Lib.hid hv
  have hsz : (strL s).size = s.length := strL_size s
  have hxs : ∀ x ∈ spl 10 s, x.length ≤ 1000000 := fun x h => Nat.le_trans (spl_mem 10 s x h).2.2 hs
  have Hxs := Lib.hid hxs
  have HSm := Lib.hid (spl_sum 10 s)
  obtain ⟨sl, hsl⟩ : ∃ q, s.length = q := ⟨_, rfl⟩
  have HR0 : Hid (rsR s = if 200000 < sl then ([], 0, 2) else rsV (rdS 0 (spl 10 s) [])) := Lib.hid (by rw [← hsl]; rfl)
  rw [hsl] at hsz HSm hs
  generalize rsR s = RR at *
  generalize spl 10 s = A at *
  obtain ⟨SS, hSS⟩ : ∃ q, strL s = q := ⟨_, rfl⟩
  rw [hSS] at HLi hsz ⊢
  clear hSS hsl hv hxs
  go_enter Tryz.func16, Tryz.ntmps16
  by_cases hbig : 200000 < sl
  · have hR := HR0.out
    rw [if_pos hbig] at hR
    subst hR
    clear HR0 HLi HSm
    have hbi : (200000 : Int) < (sl : Int) := by omega
    go_wp2_with fail
    go_ret3
    exact ⟨.slice none 0 0, [], 0, 2, rfl, rfl, OwnK.nil _ _ _, Below.refl _ _⟩
  · have hR := HR0.out
    rw [if_neg hbig] at hR
    have HR := Lib.hid hR
    have hbi : ¬ (200000 : Int) < (sl : Int) := by omega
    have hbi2 : ¬ (sl : Int) > 200000 := by omega
    clear HR0 hR
    go_wp2_with fail
    refine HLi.out.mono ?_
    rintro e w1 ⟨g, m, l, cl, M, hm, hl, hct, hcf, rfl, hr, hb⟩
    have HR1 := Lib.hid hr
    have HB1 := Lib.hid hb
    have HV1 := Lib.hid (HV0.out.below hb)
    have Hm := Lib.hid hm
    have Hl := Lib.hid hl
    have Hct := Lib.hid hct
    have Hcf := Lib.hid hcf
    have hMm : M ≤ m + 1 := by
      cases cl
      · have := (hcf rfl).1; omega
      · have := (hct rfl).1; omega
    have hml : m ≤ 1000000 := by
      have h1 := HSm.out
      have key : ∀ B : List (List UInt8), B.length ≤ sumL B := fun B => by
        induction B with
        | nil => exact Nat.le_refl _
        | cons x B ih => rw [sumL_cons, List.length_cons]; omega
      have h2 := key A
      omega
    clear hr hb HLi HV0 hm hl hct hcf hbi hbi2
    go_wp2_with fail
    go_loopw [7, 8, 9, 10, 11, 23] (fun ov s8 s9 s10 s11 i wr => ∃ (k : Nat) (acc : List Pf), k ≤ M ∧ k ≤ m ∧ i = .int .i64 (k : Int) ∧ Hid (OwnK layPf wr w1.heap.size ov acc) ∧ Hid (acc.length = k) ∧ Hid (RR = rsV (rdS k (A.drop k) acc)) ∧ Hid (U4 acc) ∧ Hid (2 * k + sumL (A.drop k) ≤ sl + 1) ∧ Hid (Below w1.heap.size w1 wr)) (fun _ _ _ _ _ i _ => M - (intOf i).toNat)
    case atStart => exact ⟨0, [], Nat.zero_le _, Nat.zero_le _, rfl, Lib.hid (OwnK.nil _ _ _), Lib.hid rfl, HR, Lib.hid (fun p hp => by cases hp), Lib.hid (by rw [List.drop_zero, HSm.out]; omega), Lib.hid (Below.refl _ _)⟩
    case round =>
      clear HR HSm
      obtain ⟨k, acc, hkM, hkm, rfl, HO, HAl, HA, HU, HS, HB⟩ := hrel
      have HRx := Lib.hid (HR1.out.below HB.out)
      have HV := Lib.hid (HV1.out.below HB.out)
      by_cases hlt : k < M
      · obtain ⟨x, hx⟩ : ∃ x, A[k]? = some x := ⟨_, List.getElem?_eq_getElem (by rw [Hm.out]; omega)⟩
        have Hx := Lib.hid hx
        have hc := HRx.out.2 k x hx
        have hgl := HRx.out.1
        have hxl := Hxs.out x (List.mem_of_getElem? hx)
        have HPa := Lib.hid fun wx (hv : Vr wx) => parsePrefix_any x wx hv hxl
        have HpP : Hid (pP x = match parsePF x with | some (x, h, l, n) => some (x, h, l, (n : Int)) | none => none) := Lib.hid rfl
        have HUx : Hid (∀ p, pP x = some p → U64N p.2.1 ∧ U64N p.2.2.1) := Lib.hid fun p h => pP_u hxl h
        have HPs : Hid (∀ p, pP x = some p → 1 ≤ x.length) := Lib.hid fun p h => pP_pos h
        have HSd := Lib.hid (sumL_drop hx)
        obtain ⟨SX, hSX⟩ : ∃ q, strL x = q := ⟨_, rfl⟩
        rw [hSX] at hc HPa
        clear hx hSX
        generalize parsePF x = PX at *
        go_upto_region 8 with fail
        have HPx := Lib.hid (HPa.out _ HV.out)
        clear HPa hc hgl HRx HV
        cases PX with
        | none =>
          have HpN : Hid (pP x = none) := Lib.hid HpP.out
          have HEnd : Hid (RR = ([], (k : Int), 9)) := Lib.hid (by
            rw [HA.out]
            by_cases hkm2 : k < m
            · rw [rdS_step Hm.out hkm2 Hx.out, HpN.out]; rfl
            · have e : k = m := by omega
              subst e
              have hcf : cl = false := by
                cases cl
                · rfl
                · have := (Hct.out rfl).1; omega
              have hl0 := (Hcf.out hcf).2
              rw [rdS_end Hm.out Hl.out, if_neg hl0]; rfl)
          clear HA HpP HUx HPs HSd HS HU HAl Hct Hcf Hl Hx
          unfold psV at HPx
          go_wp2_with fail
          refine HPx.out.mono ?_
          rintro e w3 ⟨rfl, hb⟩
          have HB3 := Lib.hid (HB.out.trans (hb.mono HB.out.size))
          clear hb HB HPx HO
          have HB4 : Hid (Below w1.heap.size w1 (w3.alloc (.cells #[.bool false, .int .u64 0, .int .u64 0, .int .i64 0] 45 (0, 0)))) := Lib.hid (Below.alloc HB3.out HB3.out.size _)
          go_upto_region 9 with fail
          generalize w3.alloc (.cells #[.bool false, .int .u64 0, .int .u64 0, .int .i64 0] 45 (0, 0)) = w4 at *
          generalize w3.heap.size = bx at *
          go_wp2_with fail
          go_ret3
          exact ⟨.slice none 0 0, [], (k : Int), 9, HEnd.out, rfl, OwnK.nil _ _ _, HB1.out.trans (HB4.out.mono HB1.out.size)⟩
        | some p =>
          obtain ⟨a1, a2, a3, a4⟩ := p
          have HpS : Hid (pP x = some (a1, a2, a3, (a4 : Int))) := Lib.hid HpP.out
          have HUy := Lib.hid (HUx.out _ HpS.out)
          have HPy := Lib.hid (HPs.out _ HpS.out)
          clear HpP HUx HPs
          unfold psV at HPx
          go_wp2_with fail
          refine HPx.out.mono ?_
          rintro e w3 ⟨rfl, hb⟩
          have HB3 := Lib.hid (HB.out.trans (hb.mono HB.out.size))
          have HO3 := Lib.hid (HO.out.later hb)
          clear hb HB HPx HO
          have HP4 : Hid (Blk (w3.alloc (.cells #[.bool a1, .int .u64 (a2 : Int), .int .u64 (a3 : Int), .int .i64 (a4 : Int)] 45 (0, 0))) w3.heap.size 45 #[.bool a1, .int .u64 (a2 : Int), .int .u64 (a3 : Int), .int .i64 (a4 : Int)]) := Lib.hid (Blk.new w3 _ _)
          have HB4 : Hid (Below w1.heap.size w1 (w3.alloc (.cells #[.bool a1, .int .u64 (a2 : Int), .int .u64 (a3 : Int), .int .i64 (a4 : Int)] 45 (0, 0)))) := Lib.hid (Below.alloc HB3.out HB3.out.size _)
          have HO4 : Hid (OwnK layPf (w3.alloc (.cells #[.bool a1, .int .u64 (a2 : Int), .int .u64 (a3 : Int), .int .i64 (a4 : Int)] 45 (0, 0))) w1.heap.size u7 acc) := Lib.hid (HO3.out.alloc _)
          go_upto_region 9 with fail
          generalize w3.alloc (.cells #[.bool a1, .int .u64 (a2 : Int), .int .u64 (a3 : Int), .int .i64 (a4 : Int)] 45 (0, 0)) = w4 at *
          generalize w3.heap.size = bx at *
          clear HB3 HO3
          have hcase : (cl = false ∧ k = m) ∨ (k < m) := by
            rcases Nat.lt_or_ge k m with h | h
            · exact .inr h
            · left
              refine ⟨?_, by omega⟩
              cases cl
              · rfl
              · have := (Hct.out rfl).1; omega
          have hMc : (cl = true ∧ M = m) ∨ (cl = false ∧ M = m + 1) := by
            cases cl
            · exact .inr ⟨rfl, (Hcf.out rfl).1⟩
            · exact .inl ⟨rfl, (Hct.out rfl).1⟩
          rcases hcase with ⟨rfl, rfl⟩ | hkm2
          · have hl0 := (Hcf.out rfl).2
            have hM := (Hcf.out rfl).1
            have HEnd : Hid (RR = ([], (k : Int), 9)) := Lib.hid (by rw [HA.out, rdS_end Hm.out Hl.out, if_neg hl0]; rfl)
            subst hM
            clear HA HSd HS HU HAl Hct Hcf Hl Hx HO4 HUy HPy hMc
            have hk1 : ((k : Int) = (k : Int) + 1 - 1) = True := eq_true (by omega)
            have hk2 : (k : Int) + 1 - 1 = (k : Int) := by omega
            go_wp2_with fail
            go_ret3
            exact ⟨.slice none 0 0, [], (k : Int), 9, HEnd.out, rfl, OwnK.nil _ _ _, HB1.out.trans (HB4.out.mono HB1.out.size)⟩
          · have HA2 : Hid (RR = rsV (rdS (k + 1) (A.drop (k + 1)) (acc ++ [(a1, a2, a3, (a4 : Int))]))) := Lib.hid (by rw [HA.out, rdS_step Hm.out hkm2 Hx.out, HpS.out])
            have HU2 : Hid (U4 (acc ++ [(a1, a2, a3, (a4 : Int))])) := Lib.hid (fun p hp => (List.mem_append.1 hp).elim (HU.out p) (fun h => by rw [List.mem_singleton.1 h]; exact HUy.out))
            have HS2 : Hid (2 * (k + 1) + sumL (A.drop (k + 1)) ≤ sl + 1) := Lib.hid (by have h1 := HS.out; have h2 := HSd.out; have h3 := HPy.out; omega)
            clear HA HSd HS HU Hct Hcf Hl Hx HUy HPy
            have d0 := HP4.out.cell 0
            have d1 := HP4.out.cell 1
            have d2 := HP4.out.cell 2
            have d3 := HP4.out.cell 3
            simp at d0 d1 d2 d3
            have hk1 : ¬ ((k : Int) = (M : Int) - 1 ∧ cl = false) := fun h => by
              obtain ⟨h1, rfl⟩ := h
              rcases hMc with ⟨h2, -⟩ | ⟨-, h2⟩
              · cases h2
              · omega
            have hAlk := HAl.out
            have hkM2 : k + 1 ≤ M := hlt
            have hkm3 : k + 1 ≤ m := hkm2
            rcases hMc with ⟨rfl, hM⟩ | ⟨rfl, hM⟩
            · clear hM hk1 hMm
              go_upto_region 11 with fail
              go_wp2_with (at_builtin; refine wpList_app pfE rfl (.tmp 47) (.tmp 49) rfl rfl (World.ownsRow.alloc HO4.out _) rfl (src_new layPf _ (a1, a2, a3, (a4 : Int)) _ _ ?c0) ?c1 ?c2 ?c3 ?c4 ?_)
              case c0 => rfl
              case c1 => exact layPf.one _
              case c2 => unfold maxLen; omega
              case c3 => omega
              case c4 => have := HB4.out.size; simp; omega
              intro v' w' hO hG
              have HO' : Hid (OwnK layPf w' w1.heap.size v' (acc ++ [(a1, a2, a3, (a4 : Int))])) := Lib.hid (OwnK.snoc (by rw [HAl.out]; exact hO))
              have HB' : Hid (Below w1.heap.size w1 w') := Lib.hid ((below_alloc HB4.out _).trans (hG.below (by have := HB4.out.size; simp; omega) (own_base HO4.out)))
              clear hO hG HO4 HB4
              go_wp2_with fail
              exact ⟨⟨k + 1, acc ++ [(a1, a2, a3, (a4 : Int))], by omega, by omega, by go_num, HO', Lib.hid (by rw [List.length_append, HAl.out]; rfl), HA2, HU2, HS2, HB'⟩, by simp [intOf]; omega⟩
            · have hk2 : ((k : Int) = (M : Int) - 1) = False := eq_false (by omega)
              have hk3 : ((k : Int) == (M : Int) - 1) = false := beq_eq_false_iff_ne.2 (by omega)
              have hkM4 : k + 2 ≤ M := by omega
              have hkM5 : M ≤ 1000001 := by omega
              clear hM hk1 hMm
              go_upto_region 11 with fail
              go_wp2_with (at_builtin; refine wpList_app pfE rfl (.tmp 47) (.tmp 49) rfl rfl (World.ownsRow.alloc HO4.out _) rfl (src_new layPf _ (a1, a2, a3, (a4 : Int)) _ _ ?c0) ?c1 ?c2 ?c3 ?c4 ?_)
              case c0 => rfl
              case c1 => exact layPf.one _
              case c2 => unfold maxLen; omega
              case c3 => omega
              case c4 => have := HB4.out.size; simp; omega
              all_goals try (exfalso; omega)
              intro v' w' hO hG
              have HO' : Hid (OwnK layPf w' w1.heap.size v' (acc ++ [(a1, a2, a3, (a4 : Int))])) := Lib.hid (OwnK.snoc (by rw [HAl.out]; exact hO))
              have HB' : Hid (Below w1.heap.size w1 w') := Lib.hid ((below_alloc HB4.out _).trans (hG.below (by have := HB4.out.size; simp; omega) (own_base HO4.out)))
              clear hO hG HO4 HB4
              go_wp2_with fail
              exact ⟨⟨k + 1, acc ++ [(a1, a2, a3, (a4 : Int))], by omega, by omega, by go_num, HO', Lib.hid (by rw [List.length_append, HAl.out]; rfl), HA2, HU2, HS2, HB'⟩, by simp [intOf]; omega⟩
      · obtain rfl : k = M := by omega
        have hcl : cl = true ∧ k = m ∧ l = [] := by
          cases cl
          · have := (Hcf.out rfl).1; omega
          · exact ⟨rfl, (Hct.out rfl).1, (Hct.out rfl).2⟩
        obtain ⟨rfl, rfl, rfl⟩ := hcl
        have hRF : RR = if setF acc = 0 then (acc, 0, 0) else ([], 0, setF acc) := by rw [HA.out, rdS_end Hm.out Hl.out, if_pos rfl]; rfl
        have hk5 : k ≤ 100000 := by have := HS.out; omega
        obtain ⟨ao, co, hvo, -⟩ := HO.out.form
        rw [HAl.out] at hvo
        subst hvo
        have HC := Lib.hid (checkSet_any ao k co acc wr HO.out.rd HAl.out hk5 HU.out)
        generalize setF acc = F at *
        have HRF := Lib.hid hRF
        clear HA HU HS Hct Hcf Hl Hxs hRF
        go_wp2_with fail
        refine HC.out.mono ?_
        rintro e w2 ⟨rfl, hb⟩
        have HO2 := Lib.hid (HO.out.later hb)
        have HB2 := Lib.hid (HB.out.trans (hb.mono HB.out.size))
        clear hb HO HB HC
        by_cases hF : F = 0
        · subst hF
          have hRR := HRF.out
          rw [if_pos rfl] at hRR
          go_wp2_with fail
          go_ret3
          exact ⟨_, acc, 0, 0, hRR, rfl, HO2.out.weak HB1.out.size, HB1.out.trans (HB2.out.mono HB1.out.size)⟩
        · have hRR := HRF.out
          rw [if_neg hF] at hRR
          have hb1 : (F != 0) = true := by simpa using hF
          go_wp2_with fail
          go_ret3
          exact ⟨.slice none 0 0, [], 0, F, hRR, rfl, OwnK.nil _ _ _, HB1.out.trans (HB2.out.mono HB1.out.size)⟩
end Go.Proofs.YtcpafmndjcejjaaGreatDoor
