/-
  Functions of package slices at a row of structs.
-/
import Derived.Test.YteccghdegckjhaaGreatDoorTD12
import Derived.Test.YteccghdegckjhaaGreatDoorTD13
import Derived.Test.YteccghdegckjhaaGreatDoorTD9
import Derived.WalkSpells
set_option linter.unusedVariables false
namespace Go.Proofs.YteccghdegckjhaaGreatDoor
open Go.RowKit Go
set_option linter.unusedVariables false

set_option maxRecDepth 100000 in
set_option maxHeartbeats 8000000 in
theorem compactFuncEn_any (B : Nat) (ad : Option Addr) (n c : Nat) (L : List En) (w : World) (h : OwnK layEn w B (.slice ad n c) L) (hs : n ≤ 1000000) (hB : B ≤ w.heap.size) (eq : En → En → Bool) (hc : ∀ x y wx, Calls Tryz.prog 94 #[.agg (layEn.enc x).toArray, .agg (layEn.enc y).toArray] wx (Ret (.bool (eq x y)) wx)) :
    Calls Tryz.prog 93 #[.slice ad n c, .func (.func 94) #[] #[]] w fun e w' => ∃ v, e = .returned v ∧ OwnK layEn w' B v (compL eq L) ∧ Grew w w' (.slice ad n c) v := by
  have hn : L.length = n := by
    obtain ⟨_, _, hv, _⟩ := h.form
    injection hv with _ e _
    exact e.symm
  have HO := Lib.hid h
  have Hn := Lib.hid hn
  have HCl := Lib.hid hc
  clear h hc
  by_cases h2 : n < 2
  · have HF : Hid (compL eq L = L) := Lib.hid (by
      cases L with
      | nil => rfl
      | cons x l =>
        cases l with
        | nil => rfl
        | cons y l => simp at hn; omega)
    clear hn
    go_enter Tryz.func93, Tryz.ntmps93
    go_wp2_with fail
    go_ret
    exact ⟨_, rfl, by rw [HF.out]; exact HO.out, Grew.refl _ _⟩
  · obtain ⟨g, c', hv, hBg, -⟩ := HO.out.one (by rw [hn]; omega)
    injection hv with hv q1 q2
    subst hv
    clear q1 q2 hn
    have hgw : g < w.heap.size := own_lt HO.out g rfl
    have hnc : n ≤ c := HO.out.block.2.2.1
    have hcm : c ≤ 9223372036854775807 := by have := HO.out.block.2.2.2.1; unfold maxLen at this; omega
    have b0 : ¬ (n : Int) < 2 := by omega
    go_enter Tryz.func93, Tryz.ntmps93
    go_wp2_with fail
    go_loopw [5] (fun i wr => ∃ k : Nat, k + 1 ≤ n ∧ i = .int .i64 ((k + 1 : Nat) : Int) ∧ Hid (compL eq (L.take (k + 1)) = L.take (k + 1)) ∧ Hid (Below w.heap.size w wr)) (fun i _ => n - (intOf i).toNat)
    case atStart => exact ⟨0, by omega, by first | rfl | simp, Lib.hid (by
      cases L with
      | nil => rfl
      | cons x l => rfl), Lib.hid (Below.refl _ _)⟩
    case round =>
      obtain ⟨k, hk, rfl, HD, HB⟩ := hrel
      by_cases hlt : k + 1 < n
      · obtain ⟨x, hx⟩ : ∃ x, L[k + 1]? = some x := ⟨_, List.getElem?_eq_getElem (by rw [Hn.out]; exact hlt)⟩
        obtain ⟨y, hy⟩ : ∃ x, L[k]? = some x := ⟨_, List.getElem?_eq_getElem (by rw [Hn.out]; omega)⟩
        have HOr : Hid (OwnK layEn wr B (.slice (some ⟨g, 0, none⟩) n c) L) := Lib.hid (HO.out.later HB.out)
        have HX : Hid (∀ wx, (∃ m : Later wr, wx = m.1) → wx.rangeAt g ((k + 1) * 5) ((layEn.enc x).toArray).toList) := Lib.hid fun wx ⟨m, hm⟩ => by subst hm; exact (HOr.out.later m.2).cellsAt hx
        have HY : Hid (∀ wx, (∃ m : Later wr, wx = m.1) → wx.rangeAt g (k * 5) ((layEn.enc y).toArray).toList) := Lib.hid fun wx ⟨m, hm⟩ => by subst hm; exact (HOr.out.later m.2).cellsAt hy
        have HT := Lib.hid (compL_take eq hx hy)
        have hQ := fun m : Later wr => Calls.later m (HCl.out x y m.1)
        have Xs : ((layEn.enc x).toArray).size = 5 := by simp [layEn.len]; rfl
        have Ys : ((layEn.enc y).toArray).size = 5 := by simp [layEn.len]; rfl
        obtain ⟨X, hX⟩ : ∃ X, (layEn.enc x).toArray = X := ⟨_, rfl⟩
        obtain ⟨Y, hY⟩ : ∃ Y, (layEn.enc y).toArray = Y := ⟨_, rfl⟩
        have Hx := Lib.hid hx
        have Hy := Lib.hid hy
        rw [hX] at HX Xs hQ
        rw [hY] at HY Ys hQ
        clear hX hY hx hy
        have e1 : (((k + 1 : Nat) : Int) - 1) = (k : Int) := by omega
        have e2 : IntKind.i64.wrap (k : Int) = (k : Int) := by rw [IntKind.wrap_i64]; omega
        have e3 : wrap64 (((k + 1 : Nat) : Int) - 1) = (k : Int) := by unfold wrap64; omega
        have b1 : (0 : Int) ≤ (k : Int) := by omega
        have b2 : (k : Int) < (n : Int) := by omega
        have b3 : (0 : Int) ≤ ((k + 1 : Nat) : Int) := by omega
        have b4 : ((k + 1 : Nat) : Int) < (n : Int) := by omega
        obtain ⟨E, hE⟩ : ∃ E, eq x y = E := ⟨_, rfl⟩
        rw [hE] at hQ HT
        clear hE
        go_upto_region 6 with fail
        refine wp_region_later (by kernel_rfl) (by kernel_rfl) ?_
        repeat (first | (refine wpQuiet_loadn rfl 48 _ rfl _ rfl g ((k + 1) * 5) rfl X HX.out _ under_en rfl 5 size_en Xs ?_; go_simp) | (refine wpQuiet_loadn rfl 48 _ rfl _ rfl g (k * 5) rfl Y HY.out _ under_en rfl 5 size_en Ys ?_; go_simp) | go_big_quiet_step ((go_at_call 94; exact hQ _)))
        refine wpQuiet_nil ?_
        rintro ⟨w3, hb⟩
        dsimp only
        clear hQ HX HY Xs Ys
        have HB3 : Hid (Below w.heap.size w w3) := Lib.hid (HB.out.trans (hb.mono HB.out.size))
        have HO3 : Hid (OwnK layEn w3 B (.slice (some ⟨g, 0, none⟩) n c) L) := Lib.hid (HO.out.later HB3.out)
        clear hb HB HOr
        cases E
        · have HD2 : Hid (compL eq (L.take (k + 1 + 1)) = L.take (k + 1 + 1)) := Lib.hid (by
            rw [HT.out, HD.out, if_neg (by simp)]
            have hk1 : k + 1 < L.length := by rw [Hn.out]; exact hlt
            rw [List.take_succ_eq_append_getElem hk1]
            have := Hx.out
            rw [List.getElem?_eq_getElem hk1] at this
            injection this with this
            rw [this])
          clear HT HD
          go_wp2_with fail
          exact ⟨⟨k + 1, by omega, by go_num, HD2, HB3⟩, by simp [intOf]; omega⟩
        · have HD2 : Hid (∃ D : List En, OwnK layEn w3 B (.slice (some ⟨g, 0, none⟩) n c) D ∧ D.take (k + 1) = compL eq (L.take (k + 1 + 1)) ∧ ∀ t, k + 1 ≤ t → D[t]? = L[t]?) := Lib.hid ⟨L, HO3.out, by rw [HT.out, HD.out, if_pos rfl, List.append_nil], fun t _ => rfl⟩
          have HG3 : Hid (Grew w w3 (.slice (some ⟨g, 0, none⟩) n c) (.slice (some ⟨g, 0, none⟩) n c)) := Lib.hid ⟨⟨HB3.out.os, HB3.out.tape, HB3.out.output, HB3.out.size, fun j hj _ => HB3.out.block j hj⟩, .inl rfl⟩
          clear HT HD HO3 HB3 Hx Hy e1 e2 e3 b1 b2
          have hck : ¬ c = (k + 1) := by omega
          have b5 : ((k + 1 : Nat) : Int) ≤ (c : Int) := by omega
          have b6 : ((k + 1 : Nat) : Int) ≤ (n : Int) := by omega
          have b7 : (n : Int) ≤ (c : Int) := by omega
          go_wp2_with fail
          go_loopw [5, 7] (fun iv jv wr => ∃ (i q : Nat), i < (k + 1) + q + 1 ∧ (k + 1) + q + 1 ≤ n ∧ iv = .int .i64 (i : Int) ∧ jv = .int .i64 ((q + 1 : Nat) : Int) ∧ Hid (∃ D : List En, OwnK layEn wr B (.slice (some ⟨g, 0, none⟩) n c) D ∧ D.take i = compL eq (L.take ((k + 1) + q + 1)) ∧ ∀ t, (k + 1) + q ≤ t → D[t]? = L[t]?) ∧ Hid (Grew w wr (.slice (some ⟨g, 0, none⟩) n c) (.slice (some ⟨g, 0, none⟩) n c))) (fun _ jv _ => n - (intOf jv).toNat)
          case atStart => exact ⟨k + 1, 0, by omega, by omega, by first | rfl | simp, by first | rfl | simp, HD2, HG3⟩
          case round =>
            clear HD2 HG3
            obtain ⟨i, q, hiq, hqn, rfl, rfl, HD, HG⟩ := hrel
            obtain ⟨D, hD, hDi, hDj⟩ := HD.out
            have HDo := Lib.hid hD
            have HDi := Lib.hid hDi
            have HDj := Lib.hid hDj
            clear hD hDi hDj HD
            have hDl : D.length = n := HDo.out.block.1.symm
            have HDl := Lib.hid hDl
            clear hDl
            have e6 : (n : Int) - ((k + 1 : Nat) : Int) = ((n - (k + 1) : Nat) : Int) := by omega
            by_cases hlt2 : (k + 1) + q + 1 < n
            · obtain ⟨x, hx⟩ : ∃ x, L[(k + 1) + q + 1]? = some x := ⟨_, List.getElem?_eq_getElem (by rw [Hn.out]; exact hlt2)⟩
              obtain ⟨y, hy⟩ : ∃ x, L[(k + 1) + q]? = some x := ⟨_, List.getElem?_eq_getElem (by rw [Hn.out]; omega)⟩
              have HX : Hid (∀ wx, (∃ m : Later wr, wx = m.1) → wx.rangeAt g ((k + 1) * 5 + (q + 1) * 5) ((layEn.enc x).toArray).toList) := Lib.hid fun wx ⟨m, hm⟩ => by
                subst hm
                rw [← Nat.add_mul, ← Nat.add_assoc]
                exact (HDo.out.later m.2).cellsAt ((HDj.out _ (by omega)).trans hx)
              have HY : Hid (∀ wx, (∃ m : Later wr, wx = m.1) → wx.rangeAt g ((k + 1) * 5 + q * 5) ((layEn.enc y).toArray).toList) := Lib.hid fun wx ⟨m, hm⟩ => by
                subst hm
                rw [← Nat.add_mul]
                exact (HDo.out.later m.2).cellsAt ((HDj.out _ (by omega)).trans hy)
              have HT := Lib.hid (compL_take eq hx hy)
              have hQ := fun m : Later wr => Calls.later m (HCl.out x y m.1)
              have Xs : ((layEn.enc x).toArray).size = 5 := by simp [layEn.len]; rfl
              have Ys : ((layEn.enc y).toArray).size = 5 := by simp [layEn.len]; rfl
              have Xo : ((layEn.enc x).toArray).all (·.oneCell') = true := all_oneCell_toArray (layEn.one x)
              have HXe : Hid (∀ wx, OwnK layEn wx B (.slice (some ⟨g, 0, none⟩) n c) D → i < n → OwnK layEn (wx.setCells g (i * 5) ((layEn.enc x).toArray).toList) B (.slice (some ⟨g, 0, none⟩) n c) (D.set i x)) := Lib.hid fun wx h hi => h.setRow hi x
              obtain ⟨X, hX⟩ : ∃ X, (layEn.enc x).toArray = X := ⟨_, rfl⟩
              obtain ⟨Y, hY⟩ : ∃ Y, (layEn.enc y).toArray = Y := ⟨_, rfl⟩
              have Hx := Lib.hid hx
              rw [hX] at HX Xs Xo HXe hQ
              rw [hY] at HY Ys hQ
              clear hX hY hx hy
              have e1 : (((q + 1 : Nat) : Int) - 1) = (q : Int) := by omega
              have e2 : IntKind.i64.wrap (q : Int) = (q : Int) := by rw [IntKind.wrap_i64]; omega
              have e3 : wrap64 (((q + 1 : Nat) : Int) - 1) = (q : Int) := by unfold wrap64; omega
              have c1 : (0 : Int) ≤ (q : Int) := by omega
              have c2 : (q : Int) < ((n - (k + 1) : Nat) : Int) := by omega
              have c3 : (0 : Int) ≤ ((q + 1 : Nat) : Int) := by omega
              have c4 : ((q + 1 : Nat) : Int) < ((n - (k + 1) : Nat) : Int) := by omega
              obtain ⟨E, hE⟩ : ∃ E, eq x y = E := ⟨_, rfl⟩
              rw [hE] at hQ HT
              clear hE
              go_upto_region 11 with fail
              refine wp_region_later (by kernel_rfl) (by kernel_rfl) ?_
              repeat (first | (refine wpQuiet_loadn rfl 48 _ rfl _ rfl g ((k + 1) * 5 + (q + 1) * 5) rfl X HX.out _ under_en rfl 5 size_en Xs ?_; go_simp) | (refine wpQuiet_loadn rfl 48 _ rfl _ rfl g ((k + 1) * 5 + q * 5) rfl Y HY.out _ under_en rfl 5 size_en Ys ?_; go_simp) | go_big_quiet_step ((go_at_call 94; exact hQ _)))
              refine wpQuiet_nil ?_
              rintro ⟨w3, hb⟩
              dsimp only
              have HX3 : Hid (w3.rangeAt g ((k + 1) * 5 + (q + 1) * 5) X.toList) := Lib.hid (HX.out w3 ⟨⟨w3, hb⟩, rfl⟩)
              clear hQ HX HY Ys
              have HD3 := Lib.hid (HDo.out.later hb)
              have HG3 : Hid (Grew w w3 (.slice (some ⟨g, 0, none⟩) n c) (.slice (some ⟨g, 0, none⟩) n c)) := Lib.hid (HG.out.trans ⟨⟨hb.os, hb.tape, hb.output, hb.size, fun j hj _ => hb.block j hj⟩, .inl rfl⟩)
              clear hb HDo HG
              cases E
              · have HQ : Hid (compL eq (L.take ((k + 1) + q + 1 + 1)) = compL eq (L.take ((k + 1) + q + 1)) ++ [x]) := Lib.hid (by rw [HT.out, if_neg (by simp)])
                have hin : i < n := by omega
                have i1 : (i : Int) < (n : Int) := by omega
                have HTH : Hid (w3.there g (i * 5) X.size) := Lib.hid (by rw [Xs]; exact HD3.out.there (by show i * 5 + 5 ≤ n * 5; omega))
                have HI4 : Hid ((Tryz.prog.info? 48).map (·.size) = some X.size) := Lib.hid (by rw [Xs]; exact size_en)
                have HD5 := Lib.hid (HXe.out w3 HD3.out hin)
                have HG5 : Hid (Grew w (w3.setCells g (i * 5) X.toList) (.slice (some ⟨g, 0, none⟩) n c) (.slice (some ⟨g, 0, none⟩) n c)) := Lib.hid (HG3.out.trans ⟨grown_setCells g X.toList (i * 5) w3, .inl rfl⟩)
                have HDn : Hid (∃ D : List En, OwnK layEn (w3.setCells g (i * 5) X.toList) B (.slice (some ⟨g, 0, none⟩) n c) D ∧ D.take (i + 1) = compL eq (L.take ((k + 1) + (q + 1) + 1)) ∧ ∀ t, (k + 1) + (q + 1) ≤ t → D[t]? = L[t]?) := Lib.hid ⟨D.set i x, HD5.out, by
                  have hi : i < D.length := by rw [HDl.out]; omega
                  rw [show (k + 1) + (q + 1) + 1 = (k + 1) + q + 1 + 1 by omega, HQ.out, ← HDi.out, List.take_succ_eq_append_getElem (by simpa using hi), List.getElem_set_self, List.take_set_of_le (Nat.le_refl _)], fun t ht => by
                  rw [List.getElem?_set_ne (by omega)]
                  exact HDj.out t (by omega)⟩
                clear HDi HDj HD5 HQ HD3 HG3 HT HXe
                go_upto_region 13 with (first | (refine wpList_loadn rfl 48 _ rfl g ((k + 1) * 5 + (q + 1) * 5) rfl X.toList _ HX3.out under_en rfl 5 size_en (by simpa using Xs) ?_; go_simp) | (refine wpList_store_mid rfl 48 _ _ rfl g (i * 5) X rfl rfl HTH.out HI4.out Xo ?_; show wpList _ _ _ _ _ (w3.setCells g (i * 5) X.toList)))
                generalize w3.setCells g (i * 5) X.toList = w5 at *
                clear HX3 HTH HI4 Xs Xo
                go_wp2_with fail
                exact ⟨⟨i + 1, q + 1, by omega, by omega, by go_num, by go_num, HDn, HG5⟩, by simp [intOf]; omega⟩
              · have HDn : Hid (∃ D : List En, OwnK layEn w3 B (.slice (some ⟨g, 0, none⟩) n c) D ∧ D.take i = compL eq (L.take ((k + 1) + (q + 1) + 1)) ∧ ∀ t, (k + 1) + (q + 1) ≤ t → D[t]? = L[t]?) := Lib.hid ⟨D, HD3.out, by
                  rw [show (k + 1) + (q + 1) + 1 = (k + 1) + q + 1 + 1 by omega, HT.out, if_pos rfl, List.append_nil]; exact HDi.out, fun t ht => HDj.out t (by omega)⟩
                clear HDi HDj HT HD3 HXe HX3 Xs Xo
                go_wp2_with fail
                exact ⟨⟨i, q + 1, by omega, by omega, rfl, by go_num, HDn, HG3⟩, by simp [intOf]; omega⟩
            · obtain rfl : n = (k + 1) + q + 1 := by omega
              have HT : Hid (D.take i = compL eq L) := Lib.hid (by rw [HDi.out, compL_all _ _ _ (by rw [Hn.out]; exact Nat.le_refl _)])
              have hgr : g < wr.heap.size := own_lt HDo.out g rfl
              have hci : ¬ c = i := by omega
              have f1 : ¬ ((q + 1 : Nat) : Int) < (((k + 1) + q + 1 - (k + 1) : Nat) : Int) := by omega
              have f2 : (i : Int) ≤ (c : Int) := by omega
              have f3 : (i : Int) ≤ (((k + 1) + q + 1 : Nat) : Int) := by omega
              obtain ⟨zv, hz1, hz2, hz3⟩ := zval_en
              have HCL : ∀ ty c', (Builtin.clear_ #[42] ty #[.slice (some ⟨g, i * 5, none⟩) ((k + 1) + q + 1 - i) c']).run Tryz.prog wr = .ok (.tuple #[]) (wr.setCells g (i * 5) (Builtin.zeroCells zv.cells ((k + 1) + q + 1 - i)).toList) := fun ty c' => by
                refine run_clear_rows wr 42 48 ty zv Tryz.underlying42 hz2 ?_ g (i * 5) ((k + 1) + q + 1 - i) c' (by omega) ?_ (by rw [hz1]; decide)
                · exact hz3
                · rw [hz1]
                  exact HDo.out.there (by show i * 5 + ((k + 1) + q + 1 - i) * 5 ≤ ((k + 1) + q + 1) * 5; rw [← Nat.add_mul]; exact Nat.mul_le_mul_right _ (by omega))
              have HOW := Lib.hid (HDo.out.cut (i := i) (by omega) (Builtin.zeroCells zv.cells ((k + 1) + q + 1 - i)).toList)
              have HGW : Hid (Grew w (wr.setCells g (i * 5) (Builtin.zeroCells zv.cells ((k + 1) + q + 1 - i)).toList) (.slice (some ⟨g, 0, none⟩) ((k + 1) + q + 1) c) (.slice (some ⟨g, 0, none⟩) i c)) := Lib.hid (HG.out.trans ⟨grown_setCells g _ (i * 5) wr, .inl rfl⟩)
              rw [HT.out] at HOW
              clear HDi HDj HG HDo hz1 hz2 hz3
              generalize (Builtin.zeroCells zv.cells ((k + 1) + q + 1 - i)).toList = ZS at *
              go_wp2_with fail
              go_ret
              exact ⟨_, rfl, HOW.out, HGW.out⟩
      · obtain rfl : n = k + 1 := by omega
        have HT : Hid (compL eq L = L) := Lib.hid (by
          have := HD.out
          rw [List.take_of_length_le (by rw [Hn.out]; exact Nat.le_refl _)] at this
          exact this)
        clear HD
        go_wp2_with fail
        go_ret
        exact ⟨_, rfl, by rw [HT.out]; exact HO.out.later HB.out, ⟨⟨HB.out.os, HB.out.tape, HB.out.output, HB.out.size, fun j hj _ => HB.out.block j hj⟩, .inl rfl⟩⟩
end Go.Proofs.YteccghdegckjhaaGreatDoor
