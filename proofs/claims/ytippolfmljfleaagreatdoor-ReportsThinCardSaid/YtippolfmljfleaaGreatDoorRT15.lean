/-
  Reports put together: the reference.
-/
import Derived.Test.YtippolfmljfleaaGreatDoorRT14
import Derived.Deep.Light
set_option linter.unusedVariables false
namespace Go.Proofs.YtippolfmljfleaaGreatDoor
open Go.RowKit Go
set_option linter.unusedVariables false

set_option maxRecDepth 100000 in
set_option maxHeartbeats 8000000 in
theorem qtogether_any (B : Nat) (ad : Option Addr) (n c : Nat) (L : List RB) (w : World) (h : OwnK layRb w B (.slice ad n c) L) (hB : B ≤ w.heap.size) (hn : L.length = n) (hs : n ≤ 20) :
    Calls Tryz.prog 49 #[.slice ad n c] w fun e w' => ∃ v, e = .returned v ∧ OwnK layRb w' w.heap.size v (togL L) ∧ Below B w w' ∧ w.grownBy w' (Value.slice ad n c).ownBlock := by
  obtain ⟨T, hT⟩ : ∃ T, togL L = T := ⟨_, rfl⟩
  have HT : Hid ((stabR L).foldl togS [] = T) := Lib.hid hT
  rw [hT]
  clear hT
  have HO1 := Lib.hid h
  have HB1 : Hid (Below B w w) := Lib.hid (Below.refl _ _)
  clear h
  go_enter Tryz.func49, Tryz.ntmps49
  have eg : ∀ args w, (callFunc 36 args).run Tryz.prog w = .ok (.enter 36 args) w := Go.Proofs.enters_of Tryz.func36 (by kernel_rfl) rfl
  have HSO := Lib.hid (sortStableRb_any 36 eg reportOrder_any B n c ad L w HO1.out hs)
  clear eg
  go_wp2_with fail
  refine HSO.out.mono ?_
  rintro e w2 ⟨rfl, hO2, hG2⟩
  have hb2 := hG2.below hB (own_base HO1.out)
  have HB2 := Lib.hid (HB1.out.trans hb2)
  have hw2 : w.heap.size ≤ w2.heap.size := hG2.g.size
  have HG2 := Lib.hid hG2.g
  have HR2 := Lib.hid hO2.rd
  have hsl := stabR_len L
  rw [hn] at hsl
  clear HSO hO2 hG2 hb2 HB1 HO1
  generalize stabR L = SL at *
  have Hsl := Lib.hid hsl
  clear hsl
  go_wp2_with fail
  go_loopw [3, 11] (fun out i wr => ∃ k : Nat, k ≤ n ∧ i = .int .i64 (k : Int) ∧ Hid (OwnK layRb wr w2.heap.size out ((SL.take k).foldl togS [])) ∧ Hid (((SL.take k).foldl togS []).length ≤ k) ∧ Hid (Below w2.heap.size w2 wr)) (fun _ i _ => n - (intOf i).toNat)
  case atStart => exact ⟨0, Nat.zero_le _, rfl, Lib.hid (OwnK.nil _ _ _), Lib.hid (Nat.zero_le _), Lib.hid (Below.refl _ _)⟩
  case round =>
    obtain ⟨k, hk, rfl, HO, HL, HB⟩ := hrel
    by_cases hlt : k < n
    · obtain ⟨x, hx⟩ : ∃ x, SL[k]? = some x := ⟨_, List.getElem?_eq_getElem (by rw [Hsl.out]; exact hlt)⟩
      have HF := Lib.hid (fold_take hx)
      have hll := @togS_len ((SL.take k).foldl togS []) x
      rw [← HF.out] at hll
      have HL2 : Hid (((SL.take (k + 1)).foldl togS []).length ≤ k + 1) := Lib.hid (Nat.le_trans hll (Nat.succ_le_succ HL.out))
      clear hll
      obtain ⟨D2, hDe⟩ : ∃ q, (SL.take (k + 1)).foldl togS [] = q := ⟨_, rfl⟩
      have HDe := Lib.hid hDe
      rw [hDe] at HF HL2
      clear hDe
      generalize (SL.take k).foldl togS [] = D at *
      obtain ⟨g, o, had, hg, hc⟩ := (HR2.out.below HB.out) k x hx
      have HRx : Hid (wr.rangeAt g (o + k * 14) (layRb.enc x)) := Lib.hid fun j v hv => by
        have := hc j v hv
        rwa [← Nat.add_assoc] at this
      have HX1 : Hid ((layRb.enc x).toArray.size = 14) := Lib.hid (by rw [List.size_toArray, layRb.len]; rfl)
      have HX2 : Hid ((layRb.enc x).toArray.all (·.oneCell') = true) := Lib.hid (all_oneCell_toArray (layRb.one x))
      have HCm := Lib.hid fun y wx => reportOrder_any y x wx
      obtain ⟨ao, co, hvo, -⟩ := HO.out.form
      subst hvo
      obtain ⟨d, hd⟩ : ∃ q, D.length = q := ⟨_, rfl⟩
      have Hd := Lib.hid hd
      rw [hd] at HO ⊢
      have hd20 : d ≤ 20 := by have := HL.out; omega
      clear hd hc
      obtain ⟨XC, hXC⟩ : ∃ X, (layRb.enc x).toArray = X := ⟨_, rfl⟩
      have hXL : layRb.enc x = XC.toList := by rw [← hXC]
      have HXC := Lib.hid hXC
      rw [hXL] at HRx
      rw [hXC] at HX1 HX2
      simp only [hXC] at HCm
      clear hXC hXL
      subst had
      have HP : Hid (Blk (wr.alloc (.cells XC 45 (0, 0))) wr.heap.size 45 XC) := Lib.hid (Blk.new wr _ _)
      have HO3 := Lib.hid (HO.out.alloc (.cells XC 45 (0, 0)))
      have HB3 : Hid (Below w2.heap.size w2 (wr.alloc (.cells XC 45 (0, 0)))) := Lib.hid (below_alloc HB.out _)
      have hog : ∀ k, (Value.slice ao d co).ownBlock = some k → k < wr.heap.size := own_lt HO.out
      have Hog := Lib.hid hog
      clear HO HB hog
      go_upto_region 6 with (first | (refine wpList_loadn rfl 45 _ rfl g (o + k * 14) rfl _ _ HRx.out under_rb rfl 14 size_rb (by simpa using HX1.out) ?_; go_simp) | (refine wpList_var XC 45 Tryz.zeroValue45 rfl rfl rfl _ _ rfl _ rfl ?_ ?_ 14 size_rb HX1.out ?_ HX2.out ?_; all_goals (try rfl); try go_simp))
      generalize wr.alloc (.cells XC 45 (0, 0)) = w3 at *
      generalize wr.heap.size = bx at *
      clear HRx hg
      have HApp : Hid (∀ wx, OwnK layRb wx w2.heap.size (.slice ao d co) D → Blk wx bx 45 XC → True) := Lib.hid fun _ _ _ => trivial
      rcases Nat.eq_zero_or_pos d with h0 | h0
      · subst h0
        have hD0 : D = [] := List.eq_nil_of_length_eq_zero Hd.out
        have hD2 : D2 = D ++ [x] := by rw [HF.out, hD0]; rfl
        go_upto_region 7 with fail
        refine wp_region_later (by kernel_rfl) (by kernel_rfl) ?_
        repeat (go_big_quiet_step (fail))
        refine wpQuiet_nil ?_
        rintro w4 ⟨m4, hm4⟩
        have hb4 : Below w3.heap.size w3 w4 := by rw [hm4]; exact m4.2
        clear hm4 m4
        have HB4 : Hid (Below w2.heap.size w2 w4) := Lib.hid (HB3.out.trans (hb4.mono HB3.out.size))
        have HO4 := Lib.hid (HO3.out.later hb4)
        have HP4 := Lib.hid (HP.out.below hb4 HP.out.lt)
        have HD2 := Lib.hid hD2
        clear hb4 HB3 HO3 HP HCm hD0 hD2 HF
        have HOr : Hid (w4.ownsRow w2.heap.size 45 14 (.slice ao 0 co) 0 (layRb.all D)) := Lib.hid (by
          have this : w4.ownsRow w2.heap.size 45 14 (.slice ao 0 co) D.length (layRb.all D) := HO4.out
          rw [Hd.out] at this
          exact this)
        have Xl : XC.toList.length = 14 := by simpa using HX1.out
        go_wp2_with (first | (refine wpList_loadn rfl 45 _ rfl bx 0 rfl XC.toList _ HP4.out.range under_rb rfl 14 size_rb Xl ?_; go_simp) | (refine wpList_build1 rfl 26 45 _ rfl XC rfl 14 Tryz.underlying26 zero_rb HX1.out (by decide) (by decide) ?_; go_simp) | (at_builtin; refine wpList_app rbE rfl (.tmp 55) (.tmp 57) rfl rfl (World.ownsRow.alloc HOr.out _) rfl (src_new layRb _ x _ _ ?c0a) ?c1a ?c2a ?c3a ?c4a ?_))
        case c0a => exact HXC.out.symm
        case c1a => exact layRb.one x
        case c2a => unfold maxLen; omega
        case c3a => omega
        case c4a => have := HB4.out.size; simp; omega
        intro v5 w5 hO5 hG5
        have hbz : w2.heap.size ≤ (w4.alloc (.cells XC 45 (0, 0))).heap.size := by have := HB4.out.size; simp; omega
        rw [← HDe.out] at HL2
        have HE1 : Hid (OwnK layRb w5 w2.heap.size v5 ((SL.take (k + 1)).foldl togS [])) := Lib.hid (by rw [HDe.out, HD2.out]; exact OwnK.snoc (by rw [Hd.out]; exact hO5))
        have HE2 : Hid (Below w2.heap.size w2 w5) := Lib.hid ((below_alloc HB4.out _).trans (hG5.below hbz (own_base HOr.out)))
        clear hO5 hG5 hbz HOr
        go_wp2_with fail
        exact ⟨⟨k + 1, by omega, by go_num, HE1, HL2, HE2⟩, by simp [intOf]; omega⟩
      · obtain ⟨q, rfl⟩ : ∃ q, d = q + 1 := ⟨d - 1, by omega⟩
        obtain ⟨y, hy⟩ : ∃ y, D[q]? = some y := ⟨_, List.getElem?_eq_getElem (by rw [Hd.out]; omega)⟩
        obtain ⟨g2, c', hv, hg2, -⟩ := HO3.out.one (by rw [Hd.out]; omega)
        injection hv with hv q1 q2
        subst hv
        clear q1 q2
        have HY : Hid (∀ wx, (∃ m : Later w3, wx = m.1) → wx.rangeAt g2 (q * 14) ((layRb.enc y).toArray).toList) := Lib.hid fun wx ⟨m, hm⟩ => by subst hm; exact (HO3.out.later m.2).cellsAt hy
        have HXr : Hid (∀ wx, (∃ m : Later w3, wx = m.1) → wx.rangeAt bx 0 XC.toList) := Lib.hid fun wx ⟨m, hm⟩ => by subst hm; exact (HP.out.below m.2 HP.out.lt).range
        have Ys : ((layRb.enc y).toArray).size = 14 := by rw [List.size_toArray, layRb.len]; rfl
        have Xs := HX1.out
        have hQ := fun m : Later w3 => Calls.later m ((HCm.out y m.1).mono fun _ _ => RetD.ret)
        have HHit : Hid (cR y x = 0 → D2 = D.set q (sumR y x)) := Lib.hid fun h => by rw [HF.out]; exact togS_hit Hd.out hy h
        have HMiss : Hid (cR y x ≠ 0 → D2 = D ++ [x]) := Lib.hid fun h => by rw [HF.out]; exact togS_miss Hd.out hy h
        obtain ⟨YC, hYC⟩ : ∃ X, (layRb.enc y).toArray = X := ⟨_, rfl⟩
        rw [hYC] at HY Ys hQ
        have Hy := Lib.hid hy
        generalize cR y x = C at *
        clear hYC hy HF
        have e1 : (((q + 1 : Nat) : Int) - 1) = (q : Int) := by omega
        have e2 : IntKind.i64.wrap (q : Int) = (q : Int) := by rw [IntKind.wrap_i64]; omega
        have e3 : wrap64 (((q + 1 : Nat) : Int) - 1) = (q : Int) := by unfold wrap64; omega
        have b1 : (0 : Int) ≤ (q : Int) := by omega
        have b2 : (q : Int) < ((q + 1 : Nat) : Int) := by omega
        go_upto_region 7 with fail
        refine wp_region_later (by kernel_rfl) (by kernel_rfl) ?_
        repeat (first | (refine wpQuiet_loadn rfl 45 _ rfl _ rfl g2 (q * 14) rfl YC HY.out _ under_rb rfl 14 size_rb Ys ?_; go_simp) | (refine wpQuiet_loadn rfl 45 _ rfl _ rfl bx 0 rfl XC HXr.out _ under_rb rfl 14 size_rb Xs ?_; go_simp) | go_big_quiet_step ((go_at_call 36; exact hQ _)))
        refine wpQuiet_nil ?_
        rintro ⟨w4, hb4⟩
        dsimp only
        have HB4 : Hid (Below w2.heap.size w2 w4) := Lib.hid (HB3.out.trans (hb4.mono HB3.out.size))
        have HO4 := Lib.hid (HO3.out.later hb4)
        have HP4 := Lib.hid (HP.out.below hb4 HP.out.lt)
        clear hb4 HB3 HO3 HP HCm hQ HY HXr
        by_cases hC : C = 0
        · have HD2 := Lib.hid (HHit.out hC)
          subst hC
          have o12 : w4.cell? ⟨g2, q * 14 + 12, none⟩ = some (.int .i64 y.1.pk) := HO4.out.get (j := 12) Hy.out rfl
          have x12 : w4.cell? ⟨bx, 12, none⟩ = some (.int .i64 x.1.pk) := by rw [HP4.out.cell 12, ← HXC.out]; rfl
          have of := HO4.out.frozen
          have l1 := Later.cell_of o12
          have l2 := Later.cell_of x12
          have hgb : g2 < bx := Hog.out g2 rfl
          have mc := fun a b : Int => Int.min_comm a b
          have HC1 : Hid (capB y.1.pk x.1.pk = min (wrap64 (y.1.pk + x.1.pk)) 1000000000000) := Lib.hid rfl
          have HC2 : Hid (capB y.1.sz x.1.sz = min (wrap64 (y.1.sz + x.1.sz)) 1000000000000) := Lib.hid rfl
          clear HHit HMiss e1 e2 e3 mc
          go_upto_region 8 with fail
          refine wp_region_later_tail 13 (by kernel_rfl) (by kernel_rfl) ?_
          simp only [List.take_succ_cons, List.take_zero, List.drop_succ_cons, List.drop_zero]
          repeat (go_big_quiet_step (fail))
          refine wpQuiet_nil ?_
          rintro w5 ⟨m5, hm5⟩
          have hb5 : Below w4.heap.size w4 w5 := by rw [hm5]; exact m5.2
          have o12' : w5.cell? ⟨g2, q * 14 + 12, none⟩ = some (.int .i64 y.1.pk) := by rw [hm5]; exact l1 m5
          clear hm5 m5 l1 l2 o12 x12 of
          have HB5 : Hid (Below w2.heap.size w2 w5) := Lib.hid (HB4.out.trans (hb5.mono HB4.out.size))
          have HO5 := Lib.hid (HO4.out.later hb5)
          have HP5 := Lib.hid (HP4.out.below hb5 HP4.out.lt)
          clear hb5 HB4 HO4 HP4
          have of := HO5.out.frozen
          rw [Int.min_comm, ← HC1.out]
          have HE6 : Hid (OwnK layRb (w5.setCell ⟨g2, q * 14 + 12, none⟩ (.int .i64 (capB y.1.pk x.1.pk))) w2.heap.size (.slice (some ⟨g2, 0, none⟩) (q + 1) co) (D.set q ⟨{ y.1 with pk := capB y.1.pk x.1.pk }, y.2⟩)) := Lib.hid (HO5.out.setTo (j := 12) (v := .int .i64 (capB y.1.pk x.1.pk)) (y := ⟨{ y.1 with pk := capB y.1.pk x.1.pk }, y.2⟩) Hy.out (by decide) rfl)
          have HP6 : Hid (Blk (w5.setCell ⟨g2, q * 14 + 12, none⟩ (.int .i64 (capB y.1.pk x.1.pk))) bx 45 XC) := Lib.hid (Blk.far HP5.out (by omega) _ _)
          have HB6 : Hid (Below w2.heap.size w2 (w5.setCell ⟨g2, q * 14 + 12, none⟩ (.int .i64 (capB y.1.pk x.1.pk)))) := Lib.hid (HB5.out.grown (grown_setCells g2 [.int .i64 (capB y.1.pk x.1.pk)] (q * 14 + 12) w5) HB5.out.size (fun k hk => by injection hk with hk; omega))
          go_upto_region 9 with fail
          clear HB5 HO5 HP5 o12' of HC1
          generalize w5.setCell ⟨g2, q * 14 + 12, none⟩ (.int .i64 (capB y.1.pk x.1.pk)) = w6 at *
          have hq : q < D.length := by rw [Hd.out]; omega
          have Hy1 : Hid ((D.set q (⟨{ y.1 with pk := capB y.1.pk x.1.pk }, y.2⟩ : RB))[q]? = some ⟨{ y.1 with pk := capB y.1.pk x.1.pk }, y.2⟩) := Lib.hid (List.getElem?_set_self hq)
          have o13 : w6.cell? ⟨g2, q * 14 + 13, none⟩ = some (.int .i64 y.1.sz) := HE6.out.get (j := 13) Hy1.out rfl
          have x13 : w6.cell? ⟨bx, 13, none⟩ = some (.int .i64 x.1.sz) := by rw [HP6.out.cell 13, ← HXC.out]; rfl
          have of := HE6.out.frozen
          have l1 := Later.cell_of o13
          have l2 := Later.cell_of x13
          refine wp_region_later_tail 13 (by kernel_rfl) (by kernel_rfl) ?_
          simp only [List.take_succ_cons, List.take_zero, List.drop_succ_cons, List.drop_zero]
          repeat (go_big_quiet_step (fail))
          refine wpQuiet_nil ?_
          rintro w7 ⟨m7, hm7⟩
          have hb7 : Below w6.heap.size w6 w7 := by rw [hm7]; exact m7.2
          have o13' : w7.cell? ⟨g2, q * 14 + 13, none⟩ = some (.int .i64 y.1.sz) := by rw [hm7]; exact l1 m7
          clear hm7 m7 l1 l2 o13 x13 of
          have HB7 : Hid (Below w2.heap.size w2 w7) := Lib.hid (HB6.out.trans (hb7.mono HB6.out.size))
          have HE7 := Lib.hid (HE6.out.later hb7)
          clear hb7 HB6 HE6 HP6
          have of := HE7.out.frozen
          rw [Int.min_comm, ← HC2.out]
          have HE8 : Hid (OwnK layRb (w7.setCell ⟨g2, q * 14 + 13, none⟩ (.int .i64 (capB y.1.sz x.1.sz))) w2.heap.size (.slice (some ⟨g2, 0, none⟩) (q + 1) co) ((SL.take (k + 1)).foldl togS [])) := Lib.hid (by
            have := HE7.out.setTo (j := 13) (v := .int .i64 (capB y.1.sz x.1.sz)) (y := ⟨{ y.1 with pk := capB y.1.pk x.1.pk, sz := capB y.1.sz x.1.sz }, y.2⟩) Hy1.out (by decide) rfl
            rw [HDe.out, HD2.out]
            exact Eq.mp (congrArg (OwnK layRb _ _ _) (List.set_set _)) this)
          have HB8 : Hid (Below w2.heap.size w2 (w7.setCell ⟨g2, q * 14 + 13, none⟩ (.int .i64 (capB y.1.sz x.1.sz)))) := Lib.hid (HB7.out.grown (grown_setCells g2 [.int .i64 (capB y.1.sz x.1.sz)] (q * 14 + 13) w7) HB7.out.size (fun k hk => by injection hk with hk; omega))
          rw [← HDe.out] at HL2
          clear HE7 HB7
          go_wp2_with fail
          exact ⟨⟨k + 1, by omega, by go_num, HE8, HL2, HB8⟩, by simp [intOf]; omega⟩
        · have HD2 := Lib.hid (HMiss.out hC)
          have hne : (C == 0) = false := beq_eq_false_iff_ne.2 hC
          clear HHit HMiss e1 e2 e3 b1 b2
          have HOr : Hid (w4.ownsRow w2.heap.size 45 14 (.slice (some ⟨g2, 0, none⟩) (q + 1) co) (q + 1) (layRb.all D)) := Lib.hid (by
            have this : w4.ownsRow w2.heap.size 45 14 (.slice (some ⟨g2, 0, none⟩) (q + 1) co) D.length (layRb.all D) := HO4.out
            rw [Hd.out] at this
            exact this)
          have Xl : XC.toList.length = 14 := by simpa using HX1.out
          go_wp2_with (first | (refine wpList_loadn rfl 45 _ rfl bx 0 rfl XC.toList _ HP4.out.range under_rb rfl 14 size_rb Xl ?_; go_simp) | (refine wpList_build1 rfl 26 45 _ rfl XC rfl 14 Tryz.underlying26 zero_rb HX1.out (by decide) (by decide) ?_; go_simp) | (at_builtin; refine wpList_app rbE rfl (.tmp 55) (.tmp 57) rfl rfl (World.ownsRow.alloc HOr.out _) rfl (src_new layRb _ x _ _ ?c0b) ?c1b ?c2b ?c3b ?c4b ?_))
          case c0b => exact HXC.out.symm
          case c1b => exact layRb.one x
          case c2b => unfold maxLen; omega
          case c3b => omega
          case c4b => have := HB4.out.size; simp; omega
          intro v5 w5 hO5 hG5
          have hbz : w2.heap.size ≤ (w4.alloc (.cells XC 45 (0, 0))).heap.size := by have := HB4.out.size; simp; omega
          rw [← HDe.out] at HL2
          have HE1 : Hid (OwnK layRb w5 w2.heap.size v5 ((SL.take (k + 1)).foldl togS [])) := Lib.hid (by rw [HDe.out, HD2.out]; exact OwnK.snoc (by rw [Hd.out]; exact hO5))
          have HE2 : Hid (Below w2.heap.size w2 w5) := Lib.hid ((below_alloc HB4.out _).trans (hG5.below hbz (own_base HOr.out)))
          clear hO5 hG5 hbz HOr
          go_wp2_with fail
          exact ⟨⟨k + 1, by omega, by go_num, HE1, HL2, HE2⟩, by simp [intOf]; omega⟩
    · obtain rfl : k = n := by omega
      have hT : (SL.take k).foldl togS [] = T := by rw [List.take_of_length_le (by rw [Hsl.out]; exact Nat.le_refl _)]; exact HT.out
      rw [hT] at HO
      clear hT
      go_wp2_with fail
      go_ret
      exact ⟨_, rfl, HO.out.weak hw2, HB2.out.trans (HB.out.mono (Nat.le_trans hB hw2)), HG2.out.trans ⟨HB.out.os, HB.out.tape, HB.out.output, HB.out.size, fun j hj _ => HB.out.block j hj⟩⟩
end Go.Proofs.YtippolfmljfleaaGreatDoor
