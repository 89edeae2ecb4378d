/-
  Merge of the program.
-/
import Derived.Test.YtaeieigdibanlaaGreatDoorRM10
import Derived.Test.YtaeieigdibanlaaGreatDoorRM9
set_option linter.unusedVariables false
namespace Go.Proofs.YtaeieigdibanlaaGreatDoor
open Go.RowKit Go
set_option linter.unusedVariables false

set_option maxRecDepth 100000 in
set_option maxHeartbeats 4000000 in
theorem merge_any (ad1 ad2 : Option Addr) (n1 c1 n2 c2 : Nat) (A B : List RB) (w : World) (h1 : RdK layRb w ad1 A) (h2 : RdK layRb w ad2 B) (hn1 : A.length = n1) (hn2 : B.length = n2) (hs : n1 + n2 ≤ 20) :
    Calls Tryz.prog 11 #[.slice ad1 n1 c1, .slice ad2 n2 c2] w fun e w' => ∃ v, e = .returned (.tuple #[v, .int .i64 (mergeP A B).2]) ∧ OwnK layRb w' w.heap.size v (mergeP A B).1 ∧ Below w.heap.size w w' := by
  obtain ⟨M, hM⟩ : ∃ M, mergeP A B = M := ⟨_, rfl⟩
  rw [hM]
  have HM1 : Hid (repF A ≠ 0 → ([], repF A) = M) := Lib.hid fun h => by rw [← hM]; unfold mergeP; rw [if_pos h]
  have HM2 : Hid (repF A = 0 → repF B ≠ 0 → ([], repF B) = M) := Lib.hid fun h k => by rw [← hM]; unfold mergeP; rw [if_neg (by simp [h]), if_pos k]
  have HMV : Hid (repF A = 0 → repF B = 0 → mergeV A B = M) := Lib.hid fun h k => by rw [← hM]; unfold mergeP; rw [if_neg (by simp [h]), if_neg (by simp [k])]
  have HC1 := Lib.hid fun wx (hb : Below w.heap.size w wx) => flCheckR_any ad1 n1 c1 A wx (h1.below hb) hn1 (by omega)
  have HC2 := Lib.hid fun wx (hb : Below w.heap.size w wx) => flCheckR_any ad2 n2 c2 B wx (h2.below hb) hn2 (by omega)
  have H1 := Lib.hid h1
  have H2 := Lib.hid h2
  have Hn1 := Lib.hid hn1
  have Hn2 := Lib.hid hn2
  have ix0 : ∀ W, (Instr.index 78 (.agg #[.slice ad1 n1 c1, .slice ad2 n2 c2]) (.int .i64 0)).run Tryz.prog W = .ok (.slice ad1 n1 c1) W := fun W => by kernel_rfl
  have ix1 : ∀ W, (Instr.index 78 (.agg #[.slice ad1 n1 c1, .slice ad2 n2 c2]) (.int .i64 1)).run Tryz.prog W = .ok (.slice ad2 n2 c2) W := fun W => by kernel_rfl
  generalize repF A = FA at *
  generalize repF B = FB at *
  clear h1 h2 hn1 hn2 hM
  go_enter Tryz.func11, Tryz.ntmps11
  go_wp2_with fail
  refine wp_loop_rounds 3 ?_
  rw [rounds_succ]
  go_wp2_with fail
  refine (HC1.out _ (Below.refl _ _)).mono ?_
  rintro e w1 ⟨rfl, hb⟩
  have HB1 := Lib.hid hb
  clear hb HC1
  by_cases hA : FA = 0
  · subst hA
    have HM2' := Lib.hid (HM2.out rfl)
    have HMV' := Lib.hid (HMV.out rfl)
    clear HM1 HM2 HMV
    go_wp2_with fail
    rw [rounds_succ]
    go_wp2_with fail
    refine (HC2.out _ HB1.out).mono ?_
    rintro e w2 ⟨rfl, hb⟩
    have HB2 := Lib.hid (HB1.out.trans (hb.mono HB1.out.size))
    clear hb HC2 HB1
    by_cases hB : FB = 0
    · subst hB
      have hMV := HMV'.out rfl
      have HM3 : Hid (dupR (mergeL A B) = true → (([] : List RB), (13 : Int)) = M) := Lib.hid fun h => by rw [← hMV]; unfold mergeV; rw [if_pos h]
      have HM4 : Hid (dupR (mergeL A B) = false → (mergeL A B, (0 : Int)) = M) := Lib.hid fun h => by rw [← hMV]; unfold mergeV; rw [if_neg (by simp [h])]
      clear HM2' HMV' hMV
      have HCl := Lib.hid (cloneRb_any ad1 n1 c1 A w2 (H1.out.below HB2.out) Hn1.out (by omega))
      go_wp2_with fail
      rw [rounds_succ]
      go_wp2_with fail
      refine HCl.out.mono ?_
      rintro e w3 ⟨v3, rfl, hO3, hb3⟩
      have HB3 := Lib.hid (HB2.out.trans (hb3.mono HB2.out.size))
      have hsr := (H2.out.below HB3.out).src
      rw [Hn2.out] at hsr
      have HS : Hid (Src w3 ad2 n2 14 (layRb.all B)) := Lib.hid hsr
      have HOr : Hid (w3.ownsRow w.heap.size 37 14 v3 n1 (layRb.all A)) := Lib.hid (by
        have this : w3.ownsRow w.heap.size 37 14 v3 A.length (layRb.all A) := hO3.weak HB2.out.size
        rw [Hn1.out] at this
        exact this)
      have HSo := Lib.hid (layRb.all_one B)
      clear hsr hO3 hb3 HCl HB2
      go_wp2_with (at_builtin; refine wpList_app rbE rfl (.tmp 24) (.tmp 25) rfl rfl HOr.out rfl HS.out HSo.out ?h1b ?h2b ?h3b ?_)
      case h1b => unfold maxLen; omega
      case h2b => omega
      case h3b => exact HB3.out.size
      intro v4 w4 hO' hG
      have HO : Hid (OwnK layRb w4 w.heap.size v4 (A ++ B)) := Lib.hid (OwnK.app (by rw [Hn1.out, Hn2.out]; exact hO'))
      have HB := Lib.hid (HB3.out.trans (hG.below HB3.out.size (own_base HOr.out)))
      clear hO' hG HB3 HS HOr HSo
      obtain ⟨a4, c4, hv4, -⟩ := HO.out.form
      subst hv4
      obtain ⟨n4, hn4⟩ : ∃ q, (A ++ B).length = q := ⟨_, rfl⟩
      have hl4 : n4 ≤ 20 := by rw [← hn4, List.length_append, Hn1.out, Hn2.out]; exact hs
      rw [hn4] at HO ⊢
      clear hn4
      have eg : ∀ args w, (callFunc 47 args).run Tryz.prog w = .ok (.enter 47 args) w := Go.Proofs.enters_of Tryz.func47 (by kernel_rfl) rfl
      have HSO := Lib.hid (sortStableRb_any 47 eg cmpRp_any w.heap.size n4 c4 a4 (A ++ B) _ HO.out hl4)
      clear eg
      go_wp2_with fail
      refine HSO.out.mono ?_
      rintro e w5 ⟨rfl, hO5, hG5⟩
      have hb5 := hG5.below HB.out.size (own_base HO.out)
      have HB5 := Lib.hid (HB.out.trans hb5)
      have HO5 := Lib.hid hO5
      clear HSO hO5 hG5 hb5 HB HO
      have HCo := Lib.hid (compactRb_any w.heap.size a4 n4 c4 (stabR (A ++ B)) w5 HO5.out (by omega) HB5.out.size)
      go_wp2_with fail
      refine HCo.out.mono ?_
      rintro e w6 ⟨v6, rfl, hO6, hG6⟩
      have hb6 := hG6.below HB5.out.size (own_base HO5.out)
      have HB6 := Lib.hid (HB5.out.trans hb6)
      have HO6 : Hid (OwnK layRb w6 w.heap.size v6 (mergeL A B)) := Lib.hid hO6
      have hlS := mergeL_len A B
      rw [Hn1.out, Hn2.out] at hlS
      clear HCo hO6 hG6 hb6 HB5 HO5
      generalize mergeL A B = S at *
      obtain ⟨a6, c6, hv6, -⟩ := HO6.out.form
      subst hv6
      obtain ⟨s, hsl⟩ : ∃ q, S.length = q := ⟨_, rfl⟩
      have Hsl := Lib.hid hsl
      rw [hsl] at HO6 hlS ⊢
      clear hsl
      have hs20 : s ≤ 20 := by omega
      have hsn : ¬ (3000 : Int) < (s : Int) := by omega
      obtain ⟨D, hD⟩ : ∃ D, dupR S = D := ⟨_, rfl⟩
      have HD : Hid (dupR (S.drop 0) = D) := Lib.hid hD
      rw [hD] at HM3 HM4
      clear hD
      go_wp2_with fail
      go_loopw [10] (fun i wr => ∃ k : Nat, (k = 0 ∨ k + 1 ≤ s) ∧ i = .int .i64 ((k + 1 : Nat) : Int) ∧ Hid (dupR (S.drop k) = D) ∧ Hid (Below w6.heap.size w6 wr)) (fun i _ => s - (intOf i).toNat)
      case atStart => exact ⟨0, .inl rfl, by first | rfl | simp, HD, Lib.hid (Below.refl _ _)⟩
      case round =>
        clear HD
        obtain ⟨k, hk, rfl, HD, HBr⟩ := hrel
        by_cases hlt : k + 1 < s
        · obtain ⟨x, hx⟩ : ∃ x, S[k]? = some x := ⟨_, List.getElem?_eq_getElem (by rw [Hsl.out]; omega)⟩
          obtain ⟨y, hy⟩ : ∃ x, S[k + 1]? = some x := ⟨_, List.getElem?_eq_getElem (by rw [Hsl.out]; omega)⟩
          obtain ⟨g, c', hv, -⟩ := HO6.out.one (by rw [Hsl.out]; omega)
          injection hv with hv q1 q2
          subst hv
          clear q1 q2
          have HOr := Lib.hid (HO6.out.later HBr.out)
          have HX : Hid (∀ wx, (∃ m : Later wr, wx = m.1) → wx.rangeAt g (k * 14) ((layRb.enc x).toArray).toList) := Lib.hid fun wx ⟨m, hm⟩ => by subst hm; exact (HOr.out.later m.2).cellsAt hx
          have HY : Hid (∀ wx, (∃ m : Later wr, wx = m.1) → wx.rangeAt g ((k + 1) * 14) ((layRb.enc y).toArray).toList) := Lib.hid fun wx ⟨m, hm⟩ => by subst hm; exact (HOr.out.later m.2).cellsAt hy
          have hst := dupR_step hx hy
          rw [HD.out] at hst
          have hQ := fun q : Later wr => Calls.later q ((cmpRp_any x y q.1).mono fun _ _ => RetD.ret)
          have Xs : ((layRb.enc x).toArray).size = 14 := by rw [List.size_toArray, layRb.len]; rfl
          have Ys : ((layRb.enc y).toArray).size = 14 := by rw [List.size_toArray, layRb.len]; rfl
          obtain ⟨X, hX⟩ : ∃ X, (layRb.enc x).toArray = X := ⟨_, rfl⟩
          obtain ⟨Y, hY⟩ : ∃ Y, (layRb.enc y).toArray = Y := ⟨_, rfl⟩
          rw [hX] at HX Xs hQ
          rw [hY] at HY Ys hQ
          generalize cR x y = C at *
          have HS1 : Hid (C = 0 → D = true) := Lib.hid fun h => by rw [hst]; simp [h]
          have HS2 : Hid (C ≠ 0 → dupR (S.drop (k + 1)) = D) := Lib.hid fun h => by rw [hst]; simp [h]
          clear hX hY hx hy hst HOr
          have e1 : (((k + 1 : Nat) : Int) - 1) = (k : Int) := by omega
          have e2 : IntKind.i64.wrap (k : Int) = (k : Int) := by rw [IntKind.wrap_i64]; omega
          have e3 : wrap64 (((k + 1 : Nat) : Int) - 1) = (k : Int) := by unfold wrap64; omega
          have b1 : (0 : Int) ≤ (k : Int) := by omega
          have b2 : (k : Int) < (s : Int) := by omega
          have b3 : (0 : Int) ≤ ((k + 1 : Nat) : Int) := by omega
          have b4 : ((k + 1 : Nat) : Int) < (s : Int) := by omega
          have b5 : (0 : Int) < ((k + 1 : Nat) : Int) := by omega
          go_upto_region 14 with fail
          refine wp_region_later (by kernel_rfl) (by kernel_rfl) ?_
          repeat (first | (refine wpQuiet_loadn rfl 37 _ rfl _ rfl g (k * 14) rfl X HX.out _ under_rb rfl 14 size_rb Xs ?_; go_simp) | (refine wpQuiet_loadn rfl 37 _ rfl _ rfl g ((k + 1) * 14) rfl Y HY.out _ under_rb rfl 14 size_rb Ys ?_; go_simp) | go_big_quiet_step ((go_at_call 47; exact hQ _)))
          refine wpQuiet_nil ?_
          rintro ⟨w7, hb⟩
          dsimp only
          have HB7 : Hid (Below w6.heap.size w6 w7) := Lib.hid (HBr.out.trans (hb.mono HBr.out.size))
          clear hb hQ HX HY HBr Xs Ys
          by_cases hC : C = 0
          · have hD := HS1.out hC
            have hM := HM3.out hD
            subst hM
            subst hC
            clear HS1 HS2
            go_wp2_with fail
            go_ret2
            exact ⟨_, rfl, OwnK.nil _ _ _, HB6.out.trans (HB7.out.mono HB6.out.size)⟩
          · have HN := Lib.hid (HS2.out hC)
            have hne : (C == 0) = false := beq_eq_false_iff_ne.2 hC
            clear HS1 HS2
            go_wp2_with fail
            exact ⟨⟨k + 1, .inr (by omega), by go_num, HN, HB7⟩, by simp [intOf]; omega⟩
        · have b1 : ¬ ((k + 1 : Nat) : Int) < (s : Int) := by omega
          have hD : D = false := by rw [← HD.out]; exact dupR_end (by rw [Hsl.out]; omega)
          have hM := HM4.out hD
          subst hM
          clear HD
          go_wp2_with fail
          go_ret2
          exact ⟨_, rfl, HO6.out.later HBr.out, HB6.out.trans (HBr.out.mono HB6.out.size)⟩
    · have hM := HM2'.out hB
      subst hM
      have hne : (FB != 0) = true := by simpa using hB
      clear HM2' HMV'
      go_wp2_with fail
      go_ret2
      exact ⟨_, rfl, OwnK.nil _ _ _, HB2.out⟩
  · have hM := HM1.out hA
    subst hM
    have hne : (FA != 0) = true := by simpa using hA
    clear HM1 HM2 HMV
    go_wp2_with fail
    go_ret2
    exact ⟨_, rfl, OwnK.nil _ _ _, HB1.out⟩
end Go.Proofs.YtaeieigdibanlaaGreatDoor
