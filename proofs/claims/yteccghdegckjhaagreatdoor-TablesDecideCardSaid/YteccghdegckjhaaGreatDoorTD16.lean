/-
  Functions of package slices at a row of structs.
-/
import Derived.Test.YteccghdegckjhaaGreatDoorTD12
import Derived.Test.YteccghdegckjhaaGreatDoorTD13
import Derived.WalkSpells
set_option linter.unusedVariables false
namespace Go.Proofs.YteccghdegckjhaaGreatDoor
open Go.RowKit Go
set_option linter.unusedVariables false

set_option maxRecDepth 100000 in
set_option maxHeartbeats 4000000 in
theorem indexEn_any (g : Nat) (cb : Array Value) (p : En → Bool) (ad : Option Addr) (n c : Nat) (L : List En) (w : World) (h : RdK layEn w ad L) (hn : L.length = n) (hs : n ≤ 1000000)
    (eg : ∀ args w, (callFunc g args).run Tryz.prog w = .ok (.enter g args) w) (hc : ∀ x ∈ L, ∀ wx, Below w.heap.size w wx → Calls Tryz.prog g (#[.agg (layEn.enc x).toArray] ++ cb) wx (Ret (.bool (p x)) wx)) :
    Calls Tryz.prog 105 #[.slice ad n c, .func (.func g) #[] cb] w fun e w' => ∃ k : Int, e = .returned (.int .i64 k) ∧ ((k = -1 ∧ ∀ x ∈ L, p x = false) ∨ ∃ (i : Nat) (x : En), k = (i : Int) ∧ L[i]? = some x ∧ p x = true ∧ ∀ (j : Nat) (y : En), j < i → L[j]? = some y → p y = false) ∧ Below w.heap.size w w' := by
  have H0 := Lib.hid h
  have Hn := Lib.hid hn
  have HC := Lib.hid hc
  clear h hn hc
  go_enter Tryz.func105, Tryz.ntmps105
  go_wp2_with fail
  go_loopw [5, 8] (fun s5 i wr => ∃ k : Nat, k ≤ n ∧ i = .int .i64 (k : Int) ∧ Hid (∀ (j : Nat) (y : En), j < k → L[j]? = some y → p y = false) ∧ Hid (Below w.heap.size w wr)) (fun _ i _ => n - (intOf i).toNat)
  case atStart => exact ⟨0, Nat.zero_le _, rfl, Lib.hid fun j y hj => absurd hj (Nat.not_lt_zero _), Lib.hid (Below.refl _ _)⟩
  case round =>
    obtain ⟨k, hk, rfl, HN, HB⟩ := hrel
    by_cases hlt : k < n
    · have hS : k < L.length := by rw [Hn.out]; exact hlt
      obtain ⟨x, hx⟩ : ∃ x, L[k]? = some x := ⟨_, List.getElem?_eq_getElem hS⟩
      obtain ⟨gb, o, had, hg, hcell⟩ := (H0.out.below HB.out) k x hx
      have HR : Hid (wr.rangeAt gb (o + k * 5) (layEn.enc x)) := Lib.hid fun j v hv => by
        have := hcell j v hv
        rwa [← Nat.add_assoc] at this
      have HCx := Lib.hid (HC.out x (List.mem_of_getElem? hx) wr HB.out)
      have Hx := Lib.hid hx
      subst had
      clear hx hS hg hcell
      go_wp2_with (refine wpList_loadn rfl 48 (.tmp 14) rfl gb (o + k * 5) rfl (layEn.enc x) _ HR.out under_en rfl 5 size_en (layEn.len x) ?_)
      refine HCx.out.mono ?_
      rintro e w3 ⟨rfl, hb⟩
      have HB3 := Lib.hid (HB.out.trans (hb.mono HB.out.size))
      clear hb HCx HR
      cases hR : p x
      · have HN2 : Hid (∀ (j : Nat) (y : En), j < k + 1 → L[j]? = some y → p y = false) := Lib.hid fun j y hj hy => by
          rcases Nat.lt_or_ge j k with h1 | h1
          · exact HN.out j y h1 hy
          · obtain rfl : j = k := by omega
            rw [Hx.out] at hy
            exact (Option.some.inj hy) ▸ hR
        clear hR
        go_wp2_with fail
        exact ⟨⟨k + 1, by omega, by go_num, HN2, HB3⟩, by simp [intOf]; omega⟩
      · have HP := Lib.hid hR
        clear hR
        go_wp2_with fail
        go_ret
        exact ⟨(k : Int), rfl, .inr ⟨k, x, rfl, Hx.out, HP.out, HN.out⟩, HB3.out⟩
    · obtain rfl : k = n := by omega
      go_wp2_with fail
      go_ret
      refine ⟨-1, rfl, .inl ⟨rfl, fun x hx => ?_⟩, HB.out⟩
      obtain ⟨j, hj, rfl⟩ := List.getElem_of_mem hx
      exact HN.out j _ (by rw [← Hn.out]; exact hj) (List.getElem?_eq_getElem hj)
theorem filt_take {α : Type} (q : α → Bool) (L : List α) (j : Nat) (x : α) (hx : L[j]? = some x) : (L.take (j + 1)).filter q = (L.take j).filter q ++ (if q x = true then [x] else []) := by
  obtain ⟨hj, rfl⟩ := List.getElem?_eq_some_iff.1 hx
  rw [List.take_succ_eq_append_getElem hj, List.filter_append]
  congr 1
  by_cases h : q L[j] = true
  · rw [if_pos h]; simp [h]
  · rw [if_neg h]; simp [h]
set_option maxRecDepth 100000 in
set_option maxHeartbeats 8000000 in
theorem deleteFuncEn_any (g0 : Nat) (cb : Array Value) (p : En → Bool) (B : Nat) (ad : Option Addr) (n c : Nat) (L : List En) (w : World) (h : OwnK layEn w B (.slice ad n c) L) (hs : n ≤ 1000000) (hB : B ≤ w.heap.size)
    (eg : ∀ args w, (callFunc g0 args).run Tryz.prog w = .ok (.enter g0 args) w) (hc : ∀ x ∈ L, ∀ wx, KeepV (.slice ad n c) w wx → Calls Tryz.prog g0 (#[.agg (layEn.enc x).toArray] ++ cb) wx (Ret (.bool (p x)) wx)) :
    Calls Tryz.prog 63 #[.slice ad n c, .func (.func g0) #[] cb] w fun e w' => ∃ v, e = .returned v ∧ OwnK layEn w' B v (L.filter fun x => !p x) ∧ Grew w w' (.slice ad n c) v := by
  have hn : L.length = n := by
    obtain ⟨_, _, hv, _⟩ := h.form
    injection hv with _ e _
    exact e.symm
  have HI := Lib.hid (indexEn_any g0 cb p ad n c L w h.rd hn hs eg fun x hx wx hb => hc x hx wx (KeepV.of_below hb))
  have HC := Lib.hid hc
  have HO := Lib.hid h
  have Hn := Lib.hid hn
  clear h hn hc
  go_enter Tryz.func63, Tryz.ntmps63
  go_wp2_with fail
  refine HI.out.mono ?_
  rintro e w1 ⟨k, rfl, hk, hb⟩
  have HB1 := Lib.hid hb
  clear hb HI
  rcases hk with ⟨rfl, hk⟩ | ⟨i0, x0, rfl, hi0, hx0, hj0⟩
  · have HF : Hid (L.filter (fun x => !p x) = L) := Lib.hid (List.filter_eq_self.2 fun x hx => by simp [hk x hx])
    clear hk
    go_wp2_with fail
    go_ret
    exact ⟨_, rfl, by rw [HF.out]; exact HO.out.later HB1.out, ⟨⟨HB1.out.os, HB1.out.tape, HB1.out.output, HB1.out.size, fun j hj _ => HB1.out.block j hj⟩, .inl rfl⟩⟩
  · have hi0n : i0 < n := by rw [← Hn.out]; exact (List.getElem?_eq_some_iff.1 hi0).1
    obtain ⟨g, c', hv, hBg, -⟩ := HO.out.one (by rw [Hn.out]; omega)
    injection hv with hv q1 q2
    subst hv
    clear q1 q2
    have HO1 : Hid (OwnK layEn w1 B (.slice (some ⟨g, 0, none⟩) n c) L) := Lib.hid (HO.out.later HB1.out)
    have hgw : g < w.heap.size := own_lt HO.out g rfl
    have hnc : n ≤ c := HO.out.block.2.2.1
    have HG1 : Hid (Grew w w1 (.slice (some ⟨g, 0, none⟩) n c) (.slice (some ⟨g, 0, none⟩) n c)) := Lib.hid ⟨⟨HB1.out.os, HB1.out.tape, HB1.out.output, HB1.out.size, fun j hj _ => HB1.out.block j hj⟩, .inl rfl⟩
    have HD1 : Hid (∃ D : List En, OwnK layEn w1 B (.slice (some ⟨g, 0, none⟩) n c) D ∧ D.take i0 = (L.take (i0 + 1)).filter (fun x => !p x) ∧ ∀ t, i0 + 1 ≤ t → D[t]? = L[t]?) := Lib.hid ⟨L, HO1.out, by
      rw [filt_take _ L i0 x0 hi0, if_neg (by simp [hx0]), List.append_nil]
      refine (List.filter_eq_self.2 fun x hx => ?_).symm
      obtain ⟨j, hj, rfl⟩ := List.getElem_of_mem hx
      rw [List.length_take] at hj
      rw [List.getElem_take]
      simp [hj0 j L[j] (by omega) (List.getElem?_eq_getElem (by omega))], fun t _ => rfl⟩
    clear hi0 hx0 hj0 HO1
    have e1 : ((i0 : Int) == -1) = false := beq_eq_false_iff_ne.2 (by omega)
    go_wp2_with fail
    go_loopw [5, 6, 7] (fun iv jv bx wr => ∃ (i j : Nat), i < j ∧ j ≤ n ∧ iv = .int .i64 (i : Int) ∧ jv = .int .i64 (j : Int) ∧ Hid (∃ D : List En, OwnK layEn wr B (.slice (some ⟨g, 0, none⟩) n c) D ∧ D.take i = (L.take j).filter (fun x => !p x) ∧ ∀ t, j ≤ t → D[t]? = L[t]?) ∧ Hid (Grew w wr (.slice (some ⟨g, 0, none⟩) n c) (.slice (some ⟨g, 0, none⟩) n c))) (fun _ jv _ _ => n - (intOf jv).toNat)
    case atStart => exact ⟨i0, i0 + 1, by omega, by omega, rfl, by first | rfl | go_num, HD1, HG1⟩
    case round =>
      obtain ⟨i, j, hij, hjn, rfl, rfl, HD, HG⟩ := hrel
      obtain ⟨D, hD, hDi, hDj⟩ := HD.out
      have HDo := Lib.hid hD
      have HDi := Lib.hid hDi
      have HDj := Lib.hid hDj
      clear hD hDi hDj HD
      by_cases hlt : j < n
      · have hjL : j < L.length := by rw [Hn.out]; exact hlt
        obtain ⟨x, hx⟩ : ∃ x, L[j]? = some x := ⟨_, List.getElem?_eq_getElem hjL⟩
        have hDx : D[j]? = some x := by rw [HDj.out j (Nat.le_refl _)]; exact hx
        have HR : Hid (wr.rangeAt g (j * 5) (layEn.enc x)) := Lib.hid (HDo.out.cellsAt hDx)
        have HCx := Lib.hid fun wx (hk : KeepV (.slice (some ⟨g, 0, none⟩) n c) wr wx) => HC.out x (List.mem_of_getElem? hx) wx ((KeepV.of_grew HG.out).trans hk)
        have HX1 : Hid ((layEn.enc x).toArray.size = 5) := Lib.hid (by simp [layEn.len]; rfl)
        have HX2 : Hid ((layEn.enc x).toArray.all (·.oneCell') = true) := Lib.hid (all_oneCell_toArray (layEn.one x))
        have Hx := Lib.hid hx
        have HXe : Hid (∀ wx, OwnK layEn wx B (.slice (some ⟨g, 0, none⟩) n c) D → OwnK layEn (wx.setCells g (i * 5) (layEn.enc x)) B (.slice (some ⟨g, 0, none⟩) n c) (D.set i x)) := Lib.hid fun wx h => h.setRow (by omega) x
        have hDl : D.length = n := HDo.out.block.1.symm
        have HDl := Lib.hid hDl
        obtain ⟨X, hX⟩ : ∃ X, layEn.enc x = X := ⟨_, rfl⟩
        rw [hX] at HR HCx HX1 HX2 HXe
        clear hX hjL hx hDx hDl
        have HP : Hid (Blk (wr.alloc (.cells X.toArray 48 (0, 0))) wr.heap.size 48 X.toArray) := Lib.hid (Blk.new wr _ _)
        have HKa : Hid (KeepV (.slice (some ⟨g, 0, none⟩) n c) wr (wr.alloc (.cells X.toArray 48 (0, 0)))) := Lib.hid ((KeepV.refl _ _).alloc _)
        have HDa := Lib.hid (HDo.out.alloc (.cells X.toArray 48 (0, 0)))
        have HGa := Lib.hid (HG.out.alloc (.cells X.toArray 48 (0, 0)))
        have hgr : g < wr.heap.size := own_lt HDo.out g rfl
        go_upto_region 8 with (first | (refine wpList_loadn rfl 48 _ rfl g (j * 5) rfl _ _ HR.out under_en rfl 5 size_en (by simpa using HX1.out) ?_; go_simp) | (refine wpList_var X.toArray 48 Tryz.zeroValue48 rfl rfl rfl _ _ rfl _ rfl ?_ ?_ 5 size_en HX1.out ?_ HX2.out ?_; all_goals (try rfl); try go_simp))
        generalize wr.alloc (.cells X.toArray 48 (0, 0)) = w3 at *
        generalize wr.heap.size = bx at *
        have HRb : Hid (w3.rangeAt bx 0 X) := Lib.hid HP.out.range
        go_wp2_with (refine wpList_loadn rfl 48 _ rfl bx 0 rfl _ _ HRb.out under_en rfl 5 size_en (by simpa using HX1.out) ?_)
        refine (HCx.out _ HKa.out).mono ?_
        rintro e w4 ⟨rfl, hb⟩
        have HD4 := Lib.hid (HDa.out.later hb)
        have HG4 : Hid (Grew w w4 (.slice (some ⟨g, 0, none⟩) n c) (.slice (some ⟨g, 0, none⟩) n c)) := Lib.hid (HGa.out.trans ⟨⟨hb.os, hb.tape, hb.output, hb.size, fun j hj _ => hb.block j hj⟩, .inl rfl⟩)
        have HP4 := Lib.hid (HP.out.below hb HP.out.lt)
        clear hb HR HRb HCx HKa HDa HGa HP HDo HG
        cases hp : p x
        · have HQ : Hid ((L.take (j + 1)).filter (fun x => !p x) = (L.take j).filter (fun x => !p x) ++ [x]) := Lib.hid (by rw [filt_take _ L j x Hx.out, if_pos (by simp [hp])])
          clear hp
          have HRb : Hid (w4.rangeAt bx 0 X) := Lib.hid HP4.out.range
          have HTH : Hid (w4.there g (i * 5) X.toArray.size) := Lib.hid (by rw [HX1.out]; exact HD4.out.there (by show i * 5 + 5 ≤ n * 5; omega))
          have HI4 : Hid ((Tryz.prog.info? 48).map (·.size) = some X.toArray.size) := Lib.hid (by rw [HX1.out]; exact size_en)
          have HD5 := Lib.hid (HXe.out w4 HD4.out)
          have HG5 : Hid (Grew w (w4.setCells g (i * 5) X) (.slice (some ⟨g, 0, none⟩) n c) (.slice (some ⟨g, 0, none⟩) n c)) := Lib.hid (HG4.out.trans ⟨grown_setCells g X (i * 5) w4, .inl rfl⟩)
          have HDn : Hid (∃ D : List En, OwnK layEn (w4.setCells g (i * 5) X) B (.slice (some ⟨g, 0, none⟩) n c) D ∧ D.take (i + 1) = (L.take (j + 1)).filter (fun x => !p x) ∧ ∀ t, j + 1 ≤ t → D[t]? = L[t]?) := Lib.hid ⟨D.set i x, HD5.out, by
            have hi : i < D.length := by rw [HDl.out]; omega
            rw [HQ.out, ← HDi.out, List.take_succ_eq_append_getElem (by simpa using hi), List.getElem_set_self, List.take_set_of_le (Nat.le_refl _)], fun t ht => by
            rw [List.getElem?_set_ne (by omega)]
            exact HDj.out t (by omega)⟩
          clear HDi HDj HD5 HQ HD4 HG4
          go_upto_region 10 with (first | (refine wpList_loadn rfl 48 _ rfl bx 0 rfl _ _ HRb.out under_en rfl 5 size_en (by simpa using HX1.out) ?_) | (refine wpList_store_mid rfl 48 _ _ rfl g (i * 5) X.toArray rfl rfl HTH.out HI4.out HX2.out ?_; show wpList _ _ _ _ _ (w4.setCells g (i * 5) X)))
          generalize w4.setCells g (i * 5) X = w5 at *
          clear HRb HTH HI4 HXe HX1 HX2 HP4
          go_wp2
          exact ⟨⟨i + 1, j + 1, by omega, by omega, by go_num, by go_num, HDn, HG5⟩, by simp [intOf]; omega⟩
        · have HQ : Hid ((L.take (j + 1)).filter (fun x => !p x) = (L.take j).filter (fun x => !p x)) := Lib.hid (by rw [filt_take _ L j x Hx.out, if_neg (by simp [hp]), List.append_nil])
          clear hp
          have HDn : Hid (∃ D : List En, OwnK layEn w4 B (.slice (some ⟨g, 0, none⟩) n c) D ∧ D.take i = (L.take (j + 1)).filter (fun x => !p x) ∧ ∀ t, j + 1 ≤ t → D[t]? = L[t]?) := Lib.hid ⟨D, HD4.out, by rw [HQ.out]; exact HDi.out, fun t ht => HDj.out t (by omega)⟩
          clear HDi HDj HQ HD4 HXe HX1 HX2 HP4
          go_wp2
          exact ⟨⟨i, j + 1, by omega, by omega, rfl, by go_num, HDn, HG4⟩, by simp [intOf]; omega⟩
      · obtain rfl : j = n := by omega
        have HT : Hid (D.take i = L.filter (fun x => !p x)) := Lib.hid (by rw [HDi.out, List.take_of_length_le (by rw [Hn.out]; exact Nat.le_refl _)])
        have hgr : g < wr.heap.size := own_lt HDo.out g rfl
        have hci : ¬ c = i := by omega
        obtain ⟨zv, hz1, hz2, hz3⟩ := zval_en
        have HCL : ∀ ty c', (Builtin.clear_ #[42] ty #[.slice (some ⟨g, i * 5, none⟩) (j - i) c']).run Tryz.prog wr = .ok (.tuple #[]) (wr.setCells g (i * 5) (Builtin.zeroCells zv.cells (j - i)).toList) := fun ty c' => by
          refine run_clear_rows wr 42 48 ty zv Tryz.underlying42 hz2 ?_ g (i * 5) (j - i) c' (by omega) ?_ (by rw [hz1]; decide)
          · exact hz3
          · rw [hz1]
            exact HDo.out.there (by show i * 5 + (j - i) * 5 ≤ j * 5; rw [← Nat.add_mul]; exact Nat.mul_le_mul_right _ (by omega))
        have HOW := Lib.hid (HDo.out.cut (i := i) (by omega) (Builtin.zeroCells zv.cells (j - i)).toList)
        have HGW : Hid (Grew w (wr.setCells g (i * 5) (Builtin.zeroCells zv.cells (j - i)).toList) (.slice (some ⟨g, 0, none⟩) j c) (.slice (some ⟨g, 0, none⟩) i c)) := Lib.hid (HG.out.trans ⟨grown_setCells g _ (i * 5) wr, .inl rfl⟩)
        rw [HT.out] at HOW
        clear HDi HDj HG HDo hz1 hz2 hz3
        generalize (Builtin.zeroCells zv.cells (j - i)).toList = ZS at *
        go_wp2_with fail
        go_ret
        exact ⟨_, rfl, HOW.out, HGW.out⟩
theorem nilEn (w : World) (a : Option Addr) (l c : Nat) : (binOp .eql 42 (.slice a l c) (.slice none 0 0)).run Tryz.prog w = .ok (.bool a.isNone) w :=
  Lib.run_eql_slice_nil (h := Tryz.underlying42) ..
set_option maxRecDepth 100000 in
set_option maxHeartbeats 1000000 in
theorem cloneEn_any (ad : Option Addr) (n c : Nat) (L : List En) (w : World) (h : RdK layEn w ad L) (hn : L.length = n) (hs : n ≤ 1000000) :
    Calls Tryz.prog 16 #[.slice ad n c] w fun e w' => ∃ v, e = .returned v ∧ OwnK layEn w' w.heap.size v L ∧ Below w.heap.size w w' := by
  cases ad with
  | none =>
    have en := fun w => nilEn w none n c
    simp only [Option.isNone_none] at en
    have hL : Hid (L = []) := Lib.hid h.none_
    clear h hn hs
    go_enter Tryz.func16, Tryz.ntmps16
    go_wp2
    go_ret
    exact ⟨_, rfl, by rw [hL.out]; exact OwnK.nil _ _ _, Below.refl _ _⟩
  | some a =>
    have en := fun w => nilEn w (some a) n c
    simp only [Option.isNone_some] at en
    subst hn
    have HS := Lib.hid h.src
    have hB : Hid (Below w.heap.size w (w.alloc (.cells #[] layEn.ty (0, 0)))) := Lib.hid (below_alloc (Below.refl _ _) _)
    clear h
    go_enter Tryz.func16, Tryz.ntmps16
    go_wp2_with (at_builtin; refine wpList_app enE rfl (.tmp 5) (.tmp 6) rfl rfl (ownK_empty layEn w) rfl (src_later HS.out hB.out) (layEn.all_one L) ?c2 ?c3 ?c4 ?_)
    case c2 => unfold maxLen; simp only [List.length_nil]; omega
    case c3 => simp only [List.length_nil]; omega
    case c4 => simp
    intro v' w' hO hG
    have HO : Hid (OwnK layEn w' w.heap.size v' L) := Lib.hid hO
    have HG := Lib.hid hG
    clear hO hG
    go_wp2
    go_ret
    exact ⟨_, rfl, HO.out, HG.out.below (u := .slice (some ⟨w.heap.size, 0, none⟩) 0 0) (by simp) (by intro k hk; simp [Value.ownBlock] at hk; omega) |> (below_alloc (Below.refl _ _) _).trans⟩
end Go.Proofs.YteccghdegckjhaaGreatDoor
