/-
  The reference's AddrLoose = looseF. Condition: at most a million bytes.
-/
import Derived.Test.YtcpafmndjcejjaaGreatDoorAR29
set_option linter.unusedVariables false
namespace Go.Proofs.YtcpafmndjcejjaaGreatDoor
open Go.RowKit Go Go.Sort
set_option linter.unusedVariables false

theorem OwnK.getU {w : World} {B m c k : Nat} {ad : Option Addr} {L : List Nat} (h : OwnK layU w B (.slice ad m c) L) (hk : k < L.length) : ∃ g, ad = some ⟨g, 0, none⟩ ∧ w.cell? ⟨g, k, none⟩ = some (.int .u64 ((L.getD k 0 : Nat) : Int)) := by
  obtain ⟨g, c2, hv, -⟩ := h.one (by omega)
  injection hv with e1 e2 e3
  subst e1
  refine ⟨g, rfl, ?_⟩
  have := h.get (i := k) (j := 0) (List.getElem?_eq_getElem hk) rfl
  have e : k * layU.K + 0 = k := by show k * 1 + 0 = k; omega
  rw [e] at this
  rw [this, List.getD_eq_getElem?_getD, List.getElem?_eq_getElem hk]
  rfl
theorem loose_same2 (s : List UInt8) : looseF s = match fourF s with
    | some n => some (false, 0, n)
    | none => sixF s := by
  rw [loose_same]
  cases fourF s with
  | some n => rfl
  | none =>
    by_cases h : s = []
    · subst h; rfl
    · show (if s = [] then none else sixF s) = sixF s
      rw [if_neg h]
set_option maxRecDepth 100000 in
set_option maxHeartbeats 4000000 in
theorem addrLoose_any (s : List UInt8) (w : World) (hv : Vr w) (hs : s.length ≤ 1000000) :
    Calls Tryz.prog 9 #[.string (strL s)] w (Ret (lsV (looseF s)) w) := by
  have HP : Hid (Blk (w.alloc (.cells #[.bool false, .int .u64 0, .int .u64 0] 29 (0, 0))) w.heap.size 29 #[.bool false, .int .u64 0, .int .u64 0]) := Lib.hid (Blk.new w _ _)
  have HB : Hid (Below w.heap.size w (w.alloc (.cells #[.bool false, .int .u64 0, .int .u64 0] 29 (0, 0)))) := Lib.hid (below_alloc (Below.refl _ _) _)
  have HV := Lib.hid (hv.below (below_alloc (Below.refl _ _) (.cells #[.bool false, .int .u64 0, .int .u64 0] 29 (0, 0))))
  have HF := Lib.hid fun wx (hv : Vr wx) => qFour_any s wx hv hs
  have HCu := Lib.hid fun wx (hv : Vr wx) => cut_any s [58, 58] wx hv hs
  have HLo : Hid (looseF s = match fourF s with | some n => some (false, 0, n) | none => sixF s) := Lib.hid (loose_same2 s)
  have hse := strL_list s
  have HNe : Hid (∀ l G, grpF (cutC s).1 l = some G → G.length = 8 → s ≠ []) := Lib.hid fun l G h h8 e => by
    subst e
    have : (some [] : Option (List Nat)) = some G := h
    injection this with this
    subst this
    cases h8
  have HSi : Hid (sixF s = mkA (cutC s).2.2 (grpF (cutC s).1 (!(cutC s).2.2)) (grpF (cutC s).2.1 true)) := Lib.hid rfl
  have HGa := Lib.hid fun wx (hv : Vr wx) (l : Bool) => qGroups_any (cutC s).1 l wx hv (Nat.le_trans (cut_le s [58, 58]).1 hs)
  have HGb := Lib.hid fun wx (hv : Vr wx) => qGroups_any (cutC s).2.1 true wx hv (Nat.le_trans (cut_le s [58, 58]).2 hs)
  have HAl : Hid (∀ l G, grpF (cutC s).1 l = some G → ∀ g ∈ G, g < 65536) := Lib.hid fun l G h => grpF_lt (Nat.le_trans (cut_le s [58, 58]).1 hs) h
  have HBl : Hid (∀ G, grpF (cutC s).2.1 true = some G → ∀ g ∈ G, g < 65536) := Lib.hid fun G h => grpF_lt (Nat.le_trans (cut_le s [58, 58]).2 hs) h
  have HLa : Hid (∀ l G, grpF (cutC s).1 l = some G → G.length ≤ 1000002) := Lib.hid fun l G h => Nat.le_trans (grpF_len h) (by have := (cut_le s [58, 58]).1; show (Lib.cut s [58, 58]).1.length + 2 ≤ _; omega)
  have HLb : Hid (∀ G, grpF (cutC s).2.1 true = some G → G.length ≤ 1000002) := Lib.hid fun G h => Nat.le_trans (grpF_len h) (by have := (cut_le s [58, 58]).2; show (Lib.cut s [58, 58]).2.1.length + 2 ≤ _; omega)
  have HNg : Hid ((cutC s).2.2 = false → grpF (cutC s).2.1 true = some []) := Lib.hid fun h => by
    have : (cutC s).2.1 = [] := cut_nogap h
    rw [this]; rfl
  have e58 : strL [58, 58] = ⟨#[58, 58]⟩ := rfl
  rw [e58] at HCu
  obtain ⟨RR, hRR⟩ : ∃ q, looseF s = q := ⟨_, rfl⟩
  rw [hRR] at HLo ⊢
  generalize fourF s = FX at *
  have hcc : Lib.cut s [58, 58] = cutC s := rfl
  rw [hcc] at HCu
  generalize (cutC s).1 = lft at *
  generalize (cutC s).2.1 = rgt at *
  generalize (cutC s).2.2 = gap at *
  obtain ⟨SS, hSS⟩ : ∃ q, strL s = q := ⟨_, rfl⟩
  rw [hSS] at hse HF HCu ⊢
  clear hSS
  clear hv e58 hRR hcc
  go_enter Tryz.func9, Tryz.ntmps9
  go_upto_region 1 with fail
  generalize w.alloc (.cells #[.bool false, .int .u64 0, .int .u64 0] 29 (0, 0)) = w1 at *
  obtain ⟨bx, hbx⟩ : ∃ q, w.heap.size = q := ⟨_, rfl⟩
  have Hbx := Lib.hid hbx
  rw [hbx] at HP HB ⊢
  clear hbx
  have HRet : Hid (∀ wx (sx : Bool) (h l : Int), Blk wx bx 29 #[.bool false, .int .u64 0, .int .u64 0] → Below bx w wx → Below bx w (((wx.setCell ⟨bx, 0, none⟩ (.bool sx)).setCell ⟨bx, 1, none⟩ (.int .u64 h)).setCell ⟨bx, 2, none⟩ (.int .u64 l))) := Lib.hid fun wx sx h l hp hb => hb.grown (grown_setCells bx [.bool sx, .int .u64 h, .int .u64 l] 0 wx) (Nat.le_of_lt hp.lt) (fun k hk => by injection hk with hk; omega)
  have HFx := Lib.hid (HF.out _ HV.out)
  clear HF
  go_wp2_with fail
  refine HFx.out.mono ?_
  rintro e w2 ⟨rfl, hb⟩
  have HP2 := Lib.hid (HP.out.below hb HP.out.lt)
  have HB2 := Lib.hid (HB.out.trans (hb.mono (Nat.le_of_lt HP.out.lt)))
  have HV2 := Lib.hid (HV.out.below hb)
  clear hb HP HB HV HFx
  cases FX with
  | some n =>
    have hL : RR = some (false, 0, n) := HLo.out
    subst hL
    clear HLo HSi HGa HGb HAl HBl HNg HCu HLa HLb HNe
    have q0 := HP2.out.cell 0
    have q1 := HP2.out.cell 1
    have q2 := HP2.out.cell 2
    have qf := HP2.out.free
    simp at q0 q1 q2
    have c3 := (HP2.out.set3 (x' := .bool false) (y' := .int .u64 0) (z' := .int .u64 (n : Int)))
    have HBf := Lib.hid (HRet.out w2 false 0 n HP2.out HB2.out)
    have d0 := c3.cell 0
    have d1 := c3.cell 1
    have d2 := c3.cell 2
    simp at d0 d1 d2
    clear c3
    go_wp2_with fail
    refine bodyPost_ret (v := .tuple #[.agg #[.bool false, .int .u64 0, .int .u64 (n : Int)], .int .i64 0]) (by simp [results, Tryz.results9, go_sem, *]) rfl ⟨rfl, by rw [Hbx.out]; exact HBf.out⟩
  | none =>
    have hL : RR = sixF s := HLo.out
    have HL := Lib.hid (hL.trans HSi.out)
    have HCx := Lib.hid (HCu.out _ HV2.out)
    clear hL HLo HSi HCu
    go_wp2_with fail
    refine HCx.out.mono ?_
    rintro e w3 ⟨rfl, hb⟩
    have HP3 := Lib.hid (HP2.out.below hb HP2.out.lt)
    have HB3 := Lib.hid (HB2.out.trans (hb.mono (Nat.le_of_lt HP2.out.lt)))
    have HV3 := Lib.hid (HV2.out.below hb)
    clear hb HP2 HB2 HV2 HCx
    have HGx := Lib.hid (HGa.out _ HV3.out (!gap))
    have HAl2 := Lib.hid (HAl.out (!gap))
    have HLa2 := Lib.hid (HLa.out (!gap))
    have HNe2 := Lib.hid (HNe.out (!gap))
    clear HGa HAl HLa HNe
    generalize grpF lft (!gap) = A at *
    generalize grpF rgt true = B at *
    generalize strL lft = SL at *
    generalize strL rgt = SR at *
    go_wp2_with fail
    refine HGx.out.mono ?_
    rintro e w4 ⟨aa, la, ca, rfl, hO, hb⟩
    have hbb : bx ≤ w3.heap.size := Nat.le_of_lt HP3.out.lt
    have HO4 := Lib.hid hO
    have HP4 := Lib.hid (HP3.out.below hb HP3.out.lt)
    have HB4 := Lib.hid (HB3.out.trans (hb.mono hbb))
    have HV4 := Lib.hid (HV3.out.below hb)
    have HGy := Lib.hid (HGb.out _ HV4.out)
    have Hs34 := Lib.hid hb.size
    clear hb hO HP3 HB3 HV3 HGx HGb
    go_wp2_with fail
    refine HGy.out.mono ?_
    rintro e w5 ⟨ab, lb, cb, rfl, hO, hb⟩
    have hbb4 : bx ≤ w4.heap.size := Nat.le_of_lt HP4.out.lt
    have HA5 : Hid (∀ G, A = some G → OwnK layU w5 w3.heap.size (.slice aa la ca) G) := Lib.hid fun G h => (HO4.out G h).later hb
    have HB5r : Hid (∀ G, B = some G → OwnK layU w5 w4.heap.size (.slice ab lb cb) G) := Lib.hid hO
    have HP5 := Lib.hid (HP4.out.below hb HP4.out.lt)
    have HB5 := Lib.hid (HB4.out.trans (hb.mono hbb4))
    have Hs45 := Lib.hid hb.size
    clear hb hO HO4 HP4 HB4 HV4 HGy
    cases A with
    | none =>
      have hL := HL.out
      have hLn : RR = none := hL
      subst hLn
      clear HL HA5 HB5r HAl2 HBl HNg HNe2
      have q0 := HP5.out.cell 0
      have q1 := HP5.out.cell 1
      have q2 := HP5.out.cell 2
      have qf := HP5.out.free
      simp at q0 q1 q2
      have c3 := (HP5.out.set3 (x' := .bool false) (y' := .int .u64 0) (z' := .int .u64 0))
      have HBf := Lib.hid (HRet.out w5 false 0 0 HP5.out HB5.out)
      have d0 := c3.cell 0
      have d1 := c3.cell 1
      have d2 := c3.cell 2
      simp at d0 d1 d2
      clear c3
      go_wp2_with fail
      refine bodyPost_ret (v := .tuple #[.agg #[.bool false, .int .u64 0, .int .u64 0], .int .i64 9]) (by simp [results, Tryz.results9, go_sem, *]) rfl ⟨rfl, by rw [Hbx.out]; exact HBf.out⟩
    | some a =>
      cases B with
      | none =>
        have hL := HL.out
        have hLn : RR = none := hL
        subst hLn
        clear HL HA5 HB5r HAl2 HBl HNg HNe2
        have q0 := HP5.out.cell 0
        have q1 := HP5.out.cell 1
        have q2 := HP5.out.cell 2
        have qf := HP5.out.free
        simp at q0 q1 q2
        have c3 := (HP5.out.set3 (x' := .bool false) (y' := .int .u64 0) (z' := .int .u64 0))
        have HBf := Lib.hid (HRet.out w5 false 0 0 HP5.out HB5.out)
        have d0 := c3.cell 0
        have d1 := c3.cell 1
        have d2 := c3.cell 2
        simp at d0 d1 d2
        clear c3
        go_wp2_with fail
        refine bodyPost_ret (v := .tuple #[.agg #[.bool false, .int .u64 0, .int .u64 0], .int .i64 9]) (by simp [results, Tryz.results9, go_sem, *]) rfl ⟨rfl, by rw [Hbx.out]; exact HBf.out⟩
      | some b =>
        have hL : RR = if ((gap && decide (7 < a.length + b.length)) || (!gap && !decide (a.length = 8))) = true then none else some (true, wdg (gq a b) 4, wdg (fun i => gq a b (4 + i)) 4) := HL.out
        have HAr := Lib.hid (HA5.out a rfl)
        have HBr := Lib.hid (HB5r.out b rfl)
        have hA0 := HAr.out.srcU
        have hB0 := HBr.out.srcU
        obtain ⟨rfl, hA0⟩ := hA0
        obtain ⟨rfl, hB0⟩ := hB0
        have HA0 := Lib.hid hA0
        have HB0 := Lib.hid hB0
        have hgl := gq_lt (HAl2.out a rfl) (HBl.out b rfl)
        have HGl := Lib.hid hgl
        have hng : gap = false → b.length = 0 := fun h => by have := HNg.out h; injection this with this; rw [this]; rfl
        have HNb := Lib.hid hng
        have hlen1 : a.length ≤ 1000002 := HLa2.out a rfl
        have hlen2 : b.length ≤ 1000002 := HLb.out b rfl
        clear HL HA5 HB5r HAl2 HBl HNg hA0 hB0 hgl hng HLa2 HLb
        by_cases hbad : ((gap && decide (7 < a.length + b.length)) || (!gap && !decide (a.length = 8))) = true
        · rw [if_pos hbad] at hL
          subst hL
          have hcase : (gap = true ∧ 7 < a.length + b.length) ∨ (gap = false ∧ ¬ a.length = 8) := by
            cases gap
            · right; simp at hbad; exact ⟨rfl, hbad⟩
            · left; simp at hbad; exact ⟨rfl, hbad⟩
          clear hbad HAr HBr HA0 HB0 HGl HNb
          rcases hcase with ⟨rfl, hx⟩ | ⟨rfl, hx⟩
          · have hx' : (7 : Int) < (a.length : Int) + (b.length : Int) := by omega
            have q0 := HP5.out.cell 0
            have q1 := HP5.out.cell 1
            have q2 := HP5.out.cell 2
            have qf := HP5.out.free
            simp at q0 q1 q2
            have c3 := (HP5.out.set3 (x' := .bool false) (y' := .int .u64 0) (z' := .int .u64 0))
            have HBf := Lib.hid (HRet.out w5 false 0 0 HP5.out HB5.out)
            have d0 := c3.cell 0
            have d1 := c3.cell 1
            have d2 := c3.cell 2
            simp at d0 d1 d2
            clear c3
            go_wp2_with fail
            refine bodyPost_ret (v := .tuple #[.agg #[.bool false, .int .u64 0, .int .u64 0], .int .i64 9]) (by simp [results, Tryz.results9, go_sem, *]) rfl ⟨rfl, by rw [Hbx.out]; exact HBf.out⟩
          · have hx' : ¬ (a.length : Int) = 8 := by omega
            have hxb : ((a.length : Int) == 8) = false := beq_eq_false_iff_ne.2 hx'
            have q0 := HP5.out.cell 0
            have q1 := HP5.out.cell 1
            have q2 := HP5.out.cell 2
            have qf := HP5.out.free
            simp at q0 q1 q2
            have c3 := (HP5.out.set3 (x' := .bool false) (y' := .int .u64 0) (z' := .int .u64 0))
            have HBf := Lib.hid (HRet.out w5 false 0 0 HP5.out HB5.out)
            have d0 := c3.cell 0
            have d1 := c3.cell 1
            have d2 := c3.cell 2
            simp at d0 d1 d2
            clear c3
            go_wp2_with fail
            refine bodyPost_ret (v := .tuple #[.agg #[.bool false, .int .u64 0, .int .u64 0], .int .i64 9]) (by simp [results, Tryz.results9, go_sem, *]) rfl ⟨rfl, by rw [Hbx.out]; exact HBf.out⟩
        · rw [if_neg hbad] at hL
          subst hL
          have hsum : a.length + b.length ≤ 8 := by
            cases gap
            · have := HNb.out rfl
              simp at hbad
              omega
            · simp at hbad
              omega
          have hga : gap = true ∨ a.length = 8 := by
            cases gap
            · right; simp at hbad; exact hbad
            · exact .inl rfl
          have hgs : gap = true → a.length + b.length ≤ 7 := fun h => by
            subst h; simp at hbad; omega
          have hcond1 : gap = true → ¬ (7 : Int) < (a.length : Int) + (b.length : Int) := fun h => by have := hgs h; omega
          have hcond2 : gap = false → (a.length : Int) = 8 := fun h => by
            rcases hga with h2 | h2
            · rw [h] at h2; cases h2
            · omega
          clear hbad HA0 HB0
          go_upto_region 7 with fail
          go_cut [72] (fun v wx => v = .bool false ∧ OwnK layU wx w3.heap.size (.slice aa a.length ca) a ∧ OwnK layU wx w4.heap.size (.slice ab b.length cb) b ∧ Blk wx bx 29 #[.bool false, .int .u64 0, .int .u64 0] ∧ Below bx w wx)
          case first =>
            cases gap
            · have hc2 := hcond2 rfl
              have hsn : ¬ s = [] := HNe2.out a rfl (by omega)
              have hsi : s.isEmpty = false := by cases s with
                | nil => exact absurd rfl hsn
                | cons _ _ => rfl
              have hc3 : ((a.length : Int) == 8) = true := beq_iff_eq.2 hc2
              clear hcond1 hcond2 hga hgs
              go_wp2_with fail
              go_meet
              case rel => exact ⟨by first | rfl | simp [hc3], HAr.out, HBr.out, HP5.out, HB5.out⟩
            · have hc1 := hcond1 rfl
              clear hcond1 hcond2 hga hgs
              go_wp2_with fail
              go_meet
              case rel => exact ⟨by first | rfl | (simp; exact hc1) | simp_all, HAr.out, HBr.out, HP5.out, HB5.out⟩
          case rest =>
            obtain ⟨rfl, hA, hB, hP, hb⟩ := hcut
            have hbx5 : bx < wc.heap.size := hP.lt
            have HO8 : Hid (Blk (wc.alloc (.cells #[.bool true, .int .u64 0, .int .u64 0] 29 (0, 0))) wc.heap.size 29 #[.bool true, .int .u64 ((wdg (gq a b) 0 : Nat) : Int), .int .u64 ((wdg (fun i => gq a b (4 + i)) 0 : Nat) : Int)]) := Lib.hid (Blk.new wc _ _)
            have HAs := Lib.hid (hA.alloc (.cells #[.bool true, .int .u64 0, .int .u64 0] 29 (0, 0)))
            have HBs := Lib.hid (hB.alloc (.cells #[.bool true, .int .u64 0, .int .u64 0] 29 (0, 0)))
            have HP9 := Lib.hid (hP.alloc (.cells #[.bool true, .int .u64 0, .int .u64 0] 29 (0, 0)))
            have HB9 := Lib.hid (hb.alloc (Nat.le_of_lt hbx5) (.cells #[.bool true, .int .u64 0, .int .u64 0] 29 (0, 0)))
            have hal : ∀ k, (Value.slice aa a.length ca).ownBlock = some k → k < wc.heap.size := own_lt hA
            have hbl : ∀ k, (Value.slice ab b.length cb).ownBlock = some k → k < wc.heap.size := own_lt hB
            have HAl := Lib.hid hal
            have HBl := Lib.hid hbl
            have Hga := Lib.hid hga
            have Hgs := Lib.hid hgs
            clear hal hbl hA hB hP hb HAr HBr HP5 HB5 Hs34 Hs45 hcond1 hcond2 hga hgs
            go_upto_region 10 with fail
            generalize wc.alloc (.cells #[.bool true, .int .u64 0, .int .u64 0] 29 (0, 0)) = w9 at *
            generalize wc.heap.size = ob at *
            have HW1 : Hid (∀ k, k < 4 → bits .or .u64 ((wdg (gq a b) k : Int) * 65536) (gq a b k : Int) = ((wdg (gq a b) (k + 1) : Nat) : Int)) := Lib.hid fun k hk => wdg_or HGl.out hk
            have HW2 : Hid (∀ k, k < 4 → bits .or .u64 ((wdg (fun i => gq a b (4 + i)) k : Int) * 65536) (gq a b (4 + k) : Int) = ((wdg (fun i => gq a b (4 + i)) (k + 1) : Nat) : Int)) := Lib.hid fun k hk => wdg_or (g := fun i => gq a b (4 + i)) (fun i => HGl.out (4 + i)) hk
            have HWl : Hid (∀ k, k < 4 → wdg (gq a b) k < 281474976710656 ∧ wdg (fun i => gq a b (4 + i)) k < 281474976710656) := Lib.hid fun k hk => by
              have h3 : 65536 ^ k ≤ 65536 ^ 3 := Nat.pow_le_pow_right (by decide) (by omega)
              exact ⟨Nat.lt_of_lt_of_le (wdg_lt HGl.out k) (Nat.le_trans h3 (by decide)), Nat.lt_of_lt_of_le (wdg_lt (g := fun i => gq a b (4 + i)) (fun i => HGl.out (4 + i)) k) (Nat.le_trans h3 (by decide))⟩
            have HGq : Hid (∀ i, gq a b i = if 8 - b.length ≤ i then b.getD (i - (8 - b.length)) 0 else a.getD i 0) := Lib.hid fun i => rfl
            obtain ⟨WH, hWH⟩ : ∃ q, wdg (gq a b) = q := ⟨_, rfl⟩
            obtain ⟨WL, hWL⟩ : ∃ q, wdg (fun i => gq a b (4 + i)) = q := ⟨_, rfl⟩
            obtain ⟨GQ, hGQ⟩ : ∃ q, gq a b = q := ⟨_, rfl⟩
            have HWe : Hid (lsV (some (true, wdg (gq a b) 4, wdg (fun i => gq a b (4 + i)) 4)) = .tuple #[.agg #[.bool true, .int .u64 (WH 4 : Int), .int .u64 (WL 4 : Int)], .int .i64 0]) := Lib.hid (by rw [← hWH, ← hWL]; rfl)
            rw [hWH] at HO8 HW1 HWl
            rw [hWL] at HO8 HW2 HWl
            rw [hGQ] at HW1 HW2 HGq HGl
            clear hWH hWL hGQ
            go_wp2_with fail
            go_loopw [75] (fun i wr => ∃ k : Nat, k ≤ 8 ∧ i = .int .i64 (k : Int) ∧ Hid (Blk wr ob 29 #[.bool true, .int .u64 (WH (min k 4) : Int), .int .u64 (WL (k - 4) : Int)]) ∧ Hid (Blk wr bx 29 #[.bool false, .int .u64 0, .int .u64 0]) ∧ Hid (Below bx w wr) ∧ Hid (Below ob w9 wr)) (fun i _ => 8 - (intOf i).toNat)
            case atStart => exact ⟨0, by omega, rfl, HO8, HP9, HB9, Lib.hid (Below.refl _ _)⟩
            case round =>
              clear HO8 HP9 HB9
              obtain ⟨k, hk, rfl, HO, HP, HB, HB2⟩ := hrel
              by_cases hlt : k < 8
              · have HAw : Hid (OwnK layU wr w3.heap.size (.slice aa a.length ca) a) := Lib.hid (own_below HAs.out HB2.out HAl.out)
                have HBw : Hid (OwnK layU wr w4.heap.size (.slice ab b.length cb) b) := Lib.hid (own_below HBs.out HB2.out HBl.out)
                have hbo : bx ≠ ob := by omega
                have hgk := HGq.out k
                by_cases hb8 : 8 - b.length ≤ k
                · rw [if_pos hb8] at hgk
                  have hlb : 1 ≤ b.length := by omega
                  have hgp : gap = true := by
                    cases gap
                    · have := HNb.out rfl
                      omega
                    · rfl
                  have hg7 := Hgs.out hgp
                  obtain ⟨j, hj⟩ : ∃ j, j = k - (8 - b.length) := ⟨_, rfl⟩
                  have hjb : j < b.length := by omega
                  obtain ⟨gb, hab, hcb⟩ := HBw.out.getU hjb
                  rw [← hj] at hgk
                  rw [← hgk] at hcb
                  subst hab
                  subst hgp
                  have hjk : (k : Int) - (8 - (b.length : Int)) = (j : Int) := by omega
                  have hw1 : IntKind.i64.wrap (8 - (b.length : Int)) = 8 - (b.length : Int) := by rw [IntKind.wrap_i64]; omega
                  have hw2 : IntKind.i64.wrap (j : Int) = (j : Int) := by rw [IntKind.wrap_i64]; omega
                  have hka : ¬ (k : Int) < (a.length : Int) := by omega
                  have hj0 : (0 : Int) ≤ (j : Int) := by omega
                  have hj1 : (j : Int) < (b.length : Int) := by omega
                  clear hgk hj
                  by_cases h4 : k < 4
                  · have hw := (HWl.out k h4).1
                    have hwr : IntKind.u64.wrap ((WH k : Int) * 65536) = (WH k : Int) * 65536 := by rw [IntKind.wrap_u64]; omega
                    have hor := HW1.out k h4
                    have hk4 : (k : Int) < 4 := by omega
                    have hmin : min k 4 = k := by omega
                    have hsub : k - 4 = 0 := by omega
                    rw [hmin, hsub] at HO
                    have o1 := HO.out.cell 1
                    have of := HO.out.free
                    simp at o1
                    have HE1 : Hid (Blk (wr.setCell ⟨ob, 1, none⟩ (.int .u64 (WH (k + 1) : Int))) ob 29 #[.bool true, .int .u64 (WH (min (k + 1) 4) : Int), .int .u64 (WL (k + 1 - 4) : Int)]) := Lib.hid (by
                      rw [show min (k + 1) 4 = k + 1 by omega, show k + 1 - 4 = 0 by omega]
                      exact HO.out.set 1 _)
                    have HE2 := Lib.hid (Blk.far HP.out hbo 1 (.int .u64 (WH (k + 1) : Int)))
                    have HE3 := Lib.hid (HB.out.grown (grown_setCells ob [.int .u64 (WH (k + 1) : Int)] 1 wr) (Nat.le_of_lt HP.out.lt) (fun q hq => by injection hq with hq; omega))
                    have HE4 := Lib.hid (HB2.out.grown (grown_setCells ob [.int .u64 (WH (k + 1) : Int)] 1 wr) (Nat.le_of_lt HO.out.lt) (fun q hq => by injection hq with hq; omega))
                    clear HO HP HB HB2 HAw HBw hmin hsub
                    go_wp2_with fail
                    exact ⟨⟨k + 1, by omega, by go_num, HE1, HE2, HE3, HE4⟩, by simp [intOf]; omega⟩
                  · obtain ⟨q, hq⟩ : ∃ q, k = 4 + q := ⟨k - 4, by omega⟩
                    have hq4 : q < 4 := by omega
                    have hw := (HWl.out q hq4).2
                    have hwr : IntKind.u64.wrap ((WL q : Int) * 65536) = (WL q : Int) * 65536 := by rw [IntKind.wrap_u64]; omega
                    have hor := HW2.out q hq4
                    rw [← hq] at hor
                    have hk4 : ¬ (k : Int) < 4 := by omega
                    have hmin : min k 4 = 4 := by omega
                    have hsub : k - 4 = q := by omega
                    rw [hmin, hsub] at HO
                    have o2 := HO.out.cell 2
                    have of := HO.out.free
                    simp at o2
                    have HE1 : Hid (Blk (wr.setCell ⟨ob, 2, none⟩ (.int .u64 (WL (q + 1) : Int))) ob 29 #[.bool true, .int .u64 (WH (min (k + 1) 4) : Int), .int .u64 (WL (k + 1 - 4) : Int)]) := Lib.hid (by
                      rw [show min (k + 1) 4 = 4 by omega, show k + 1 - 4 = q + 1 by omega]
                      exact HO.out.set 2 _)
                    have HE2 := Lib.hid (Blk.far HP.out hbo 2 (.int .u64 (WL (q + 1) : Int)))
                    have HE3 := Lib.hid (HB.out.grown (grown_setCells ob [.int .u64 (WL (q + 1) : Int)] 2 wr) (Nat.le_of_lt HP.out.lt) (fun q hq => by injection hq with hq; omega))
                    have HE4 := Lib.hid (HB2.out.grown (grown_setCells ob [.int .u64 (WL (q + 1) : Int)] 2 wr) (Nat.le_of_lt HO.out.lt) (fun q hq => by injection hq with hq; omega))
                    clear HO HP HB HB2 HAw HBw hmin hsub hq
                    go_wp2_with fail
                    exact ⟨⟨k + 1, by omega, by go_num, HE1, HE2, HE3, HE4⟩, by simp [intOf]; omega⟩
                · rw [if_neg hb8] at hgk
                  have hjk : (k : Int) - (8 - (b.length : Int)) < 0 := by omega
                  have hw1 : IntKind.i64.wrap (8 - (b.length : Int)) = 8 - (b.length : Int) := by rw [IntKind.wrap_i64]; omega
                  have hw2 : IntKind.i64.wrap ((k : Int) - (8 - (b.length : Int))) = (k : Int) - (8 - (b.length : Int)) := by rw [IntKind.wrap_i64]; omega
                  have hj0 : ¬ (8 - (b.length : Int)) ≤ (k : Int) := by omega
                  by_cases hka0 : k < a.length
                  · have hka : (k : Int) < (a.length : Int) := by omega
                    obtain ⟨ga, haa, hca⟩ := HAw.out.getU hka0
                    rw [← hgk] at hca
                    subst haa
                    clear hgk
                    by_cases h4 : k < 4
                    · have hw := (HWl.out k h4).1
                      have hwr : IntKind.u64.wrap ((WH k : Int) * 65536) = (WH k : Int) * 65536 := by rw [IntKind.wrap_u64]; omega
                      have hor := HW1.out k h4
                      have hk4 : (k : Int) < 4 := by omega
                      have hmin : min k 4 = k := by omega
                      have hsub : k - 4 = 0 := by omega
                      rw [hmin, hsub] at HO
                      have o1 := HO.out.cell 1
                      have of := HO.out.free
                      simp at o1
                      have HE1 : Hid (Blk (wr.setCell ⟨ob, 1, none⟩ (.int .u64 (WH (k + 1) : Int))) ob 29 #[.bool true, .int .u64 (WH (min (k + 1) 4) : Int), .int .u64 (WL (k + 1 - 4) : Int)]) := Lib.hid (by
                        rw [show min (k + 1) 4 = k + 1 by omega, show k + 1 - 4 = 0 by omega]
                        exact HO.out.set 1 _)
                      have HE2 := Lib.hid (Blk.far HP.out hbo 1 (.int .u64 (WH (k + 1) : Int)))
                      have HE3 := Lib.hid (HB.out.grown (grown_setCells ob [.int .u64 (WH (k + 1) : Int)] 1 wr) (Nat.le_of_lt HP.out.lt) (fun q hq => by injection hq with hq; omega))
                      have HE4 := Lib.hid (HB2.out.grown (grown_setCells ob [.int .u64 (WH (k + 1) : Int)] 1 wr) (Nat.le_of_lt HO.out.lt) (fun q hq => by injection hq with hq; omega))
                      clear HO HP HB HB2 HAw HBw hmin hsub
                      go_wp2_with fail
                      exact ⟨⟨k + 1, by omega, by go_num, HE1, HE2, HE3, HE4⟩, by simp [intOf]; omega⟩
                    · obtain ⟨q, hq⟩ : ∃ q, k = 4 + q := ⟨k - 4, by omega⟩
                      have hq4 : q < 4 := by omega
                      have hw := (HWl.out q hq4).2
                      have hwr : IntKind.u64.wrap ((WL q : Int) * 65536) = (WL q : Int) * 65536 := by rw [IntKind.wrap_u64]; omega
                      have hor := HW2.out q hq4
                      rw [← hq] at hor
                      have hk4 : ¬ (k : Int) < 4 := by omega
                      have hmin : min k 4 = 4 := by omega
                      have hsub : k - 4 = q := by omega
                      rw [hmin, hsub] at HO
                      have o2 := HO.out.cell 2
                      have of := HO.out.free
                      simp at o2
                      have HE1 : Hid (Blk (wr.setCell ⟨ob, 2, none⟩ (.int .u64 (WL (q + 1) : Int))) ob 29 #[.bool true, .int .u64 (WH (min (k + 1) 4) : Int), .int .u64 (WL (k + 1 - 4) : Int)]) := Lib.hid (by
                        rw [show min (k + 1) 4 = 4 by omega, show k + 1 - 4 = q + 1 by omega]
                        exact HO.out.set 2 _)
                      have HE2 := Lib.hid (Blk.far HP.out hbo 2 (.int .u64 (WL (q + 1) : Int)))
                      have HE3 := Lib.hid (HB.out.grown (grown_setCells ob [.int .u64 (WL (q + 1) : Int)] 2 wr) (Nat.le_of_lt HP.out.lt) (fun q hq => by injection hq with hq; omega))
                      have HE4 := Lib.hid (HB2.out.grown (grown_setCells ob [.int .u64 (WL (q + 1) : Int)] 2 wr) (Nat.le_of_lt HO.out.lt) (fun q hq => by injection hq with hq; omega))
                      clear HO HP HB HB2 HAw HBw hmin hsub hq
                      go_wp2_with fail
                      exact ⟨⟨k + 1, by omega, by go_num, HE1, HE2, HE3, HE4⟩, by simp [intOf]; omega⟩
                  · have hka : ¬ (k : Int) < (a.length : Int) := by omega
                    have hg0 : GQ k = 0 := by rw [hgk, List.getD_eq_getElem?_getD, List.getElem?_eq_none (by omega)]; rfl
                    rw [hg0] at hgk
                    clear hgk
                    by_cases h4 : k < 4
                    · have hw := (HWl.out k h4).1
                      have hwr : IntKind.u64.wrap ((WH k : Int) * 65536) = (WH k : Int) * 65536 := by rw [IntKind.wrap_u64]; omega
                      have hor := HW1.out k h4
                      rw [hg0, show ((0 : Nat) : Int) = 0 from rfl] at hor
                      have hk4 : (k : Int) < 4 := by omega
                      have hmin : min k 4 = k := by omega
                      have hsub : k - 4 = 0 := by omega
                      rw [hmin, hsub] at HO
                      have o1 := HO.out.cell 1
                      have of := HO.out.free
                      simp at o1
                      have HE1 : Hid (Blk (wr.setCell ⟨ob, 1, none⟩ (.int .u64 (WH (k + 1) : Int))) ob 29 #[.bool true, .int .u64 (WH (min (k + 1) 4) : Int), .int .u64 (WL (k + 1 - 4) : Int)]) := Lib.hid (by
                        rw [show min (k + 1) 4 = k + 1 by omega, show k + 1 - 4 = 0 by omega]
                        exact HO.out.set 1 _)
                      have HE2 := Lib.hid (Blk.far HP.out hbo 1 (.int .u64 (WH (k + 1) : Int)))
                      have HE3 := Lib.hid (HB.out.grown (grown_setCells ob [.int .u64 (WH (k + 1) : Int)] 1 wr) (Nat.le_of_lt HP.out.lt) (fun q hq => by injection hq with hq; omega))
                      have HE4 := Lib.hid (HB2.out.grown (grown_setCells ob [.int .u64 (WH (k + 1) : Int)] 1 wr) (Nat.le_of_lt HO.out.lt) (fun q hq => by injection hq with hq; omega))
                      clear HO HP HB HB2 HAw HBw hmin hsub
                      go_wp2_with fail
                      exact ⟨⟨k + 1, by omega, by go_num, HE1, HE2, HE3, HE4⟩, by simp [intOf]; omega⟩
                    · obtain ⟨q, hq⟩ : ∃ q, k = 4 + q := ⟨k - 4, by omega⟩
                      have hq4 : q < 4 := by omega
                      have hw := (HWl.out q hq4).2
                      have hwr : IntKind.u64.wrap ((WL q : Int) * 65536) = (WL q : Int) * 65536 := by rw [IntKind.wrap_u64]; omega
                      have hor := HW2.out q hq4
                      rw [← hq, hg0, show ((0 : Nat) : Int) = 0 from rfl] at hor
                      have hk4 : ¬ (k : Int) < 4 := by omega
                      have hmin : min k 4 = 4 := by omega
                      have hsub : k - 4 = q := by omega
                      rw [hmin, hsub] at HO
                      have o2 := HO.out.cell 2
                      have of := HO.out.free
                      simp at o2
                      have HE1 : Hid (Blk (wr.setCell ⟨ob, 2, none⟩ (.int .u64 (WL (q + 1) : Int))) ob 29 #[.bool true, .int .u64 (WH (min (k + 1) 4) : Int), .int .u64 (WL (k + 1 - 4) : Int)]) := Lib.hid (by
                        rw [show min (k + 1) 4 = 4 by omega, show k + 1 - 4 = q + 1 by omega]
                        exact HO.out.set 2 _)
                      have HE2 := Lib.hid (Blk.far HP.out hbo 2 (.int .u64 (WL (q + 1) : Int)))
                      have HE3 := Lib.hid (HB.out.grown (grown_setCells ob [.int .u64 (WL (q + 1) : Int)] 2 wr) (Nat.le_of_lt HP.out.lt) (fun q hq => by injection hq with hq; omega))
                      have HE4 := Lib.hid (HB2.out.grown (grown_setCells ob [.int .u64 (WL (q + 1) : Int)] 2 wr) (Nat.le_of_lt HO.out.lt) (fun q hq => by injection hq with hq; omega))
                      clear HO HP HB HB2 HAw HBw hmin hsub hq
                      go_wp2_with fail
                      exact ⟨⟨k + 1, by omega, by go_num, HE1, HE2, HE3, HE4⟩, by simp [intOf]; omega⟩
              · obtain rfl : k = 8 := by omega
                have q0 := HP.out.cell 0
                have q1 := HP.out.cell 1
                have q2 := HP.out.cell 2
                have qf := HP.out.free
                simp at q0 q1 q2
                have o0 := HO.out.cell 0
                have o1 := HO.out.cell 1
                have o2 := HO.out.cell 2
                simp at o0 o1 o2
                have c3 := (HP.out.set3 (x' := .bool true) (y' := .int .u64 (WH 4 : Int)) (z' := .int .u64 (WL 4 : Int)))
                have HBf := Lib.hid (HRet.out wr true (WH 4 : Int) (WL 4 : Int) HP.out HB.out)
                have d0 := c3.cell 0
                have d1 := c3.cell 1
                have d2 := c3.cell 2
                simp at d0 d1 d2
                clear c3
                go_wp2_with fail
                refine bodyPost_ret (v := .tuple #[.agg #[.bool true, .int .u64 (WH 4 : Int), .int .u64 (WL 4 : Int)], .int .i64 0]) (by simp [results, Tryz.results9, go_sem, *]) rfl ⟨by rw [HWe.out], by rw [Hbx.out]; exact HBf.out⟩
end Go.Proofs.YtcpafmndjcejjaaGreatDoor
