/-
  addr.Text of the program, AddrText of the reference at any right address: one text.
  Parse and AddrParse = parseF. Condition: at most a million bytes.
  The tables of numerals, out of what a row lists: the listed tables lie as the program's text lays them.
  The variables that functions of strings and numbers read, out of what a row lists and of the world's shape.
-/
import Derived.Test.YtcpafmndjcejjaaGreatDoorAR35
import Derived.Test.YtcpafmndjcejjaaGreatDoorAR6
import Derived.Test.YtcpafmndjcejjaaGreatDoorAR30
import Derived.Test.YtcpafmndjcejjaaGreatDoorAR4
import Derived.Test.YtcpafmndjcejjaaGreatDoorAR16
import Derived.Stop.LaidErr
set_option linter.unusedVariables false
namespace Go.Proofs.YtcpafmndjcejjaaGreatDoor
open Go.RowKit Go
set_option linter.unusedVariables false

/-- the text of an address -/
def txtA (six : Bool) (hi lo : Nat) : ByteArray := if six = true then sixT (dg hi lo) else joinS (fourL lo) ⟨#[46]⟩
theorem aFault_lo {six : Bool} {hi lo : Nat} (h : aFault six (hi : Int) (lo : Int) = 0) : six = false → lo < 4294967296 := by
  rintro rfl
  unfold aFault at h
  by_cases h2 : false = false ∧ ((hi : Int) ≠ 0 ∨ 4294967296 ≤ (lo : Int))
  · rw [if_pos h2] at h; cases h
  · simp at h2; omega
theorem textOf_any (six : Bool) (hi lo : Nat) (w : World) (h1 : U64N hi) (h2 : U64N lo) (hf : aFault six (hi : Int) (lo : Int) = 0) (ht : Tabs w) :
    Calls Tryz.prog 25 #[.agg #[.bool six, .int .u64 (hi : Int), .int .u64 (lo : Int)]] w (Ret (.string (txtA six hi lo)) w) := by
  cases six
  · exact textFour_any hi lo w (aFault_lo hf rfl) ht
  · exact textSix_any hi lo w h1 h2 ht
theorem addrText_any (six : Bool) (hi lo : Nat) (w : World) (h1 : U64N hi) (h2 : U64N lo) (hf : aFault six (hi : Int) (lo : Int) = 0) (ht : Tabs w) :
    Calls Tryz.prog 21 #[.agg #[.bool six, .int .u64 (hi : Int), .int .u64 (lo : Int)]] w (Ret (.string (txtA six hi lo)) w) := by
  cases six
  · exact addrTextFour_any hi lo w h1 (aFault_lo hf rfl) ht
  · exact addrTextSix_any hi lo w h1 h2 ht
end Go.Proofs.YtcpafmndjcejjaaGreatDoor

namespace Go.Proofs.YtcpafmndjcejjaaGreatDoor
open Go.RowKit Go Go.Sort
set_option linter.unusedVariables false

theorem looseF_ok {s : List UInt8} {six : Bool} {hi lo : Nat} (hs : s.length ≤ 1000000) (h : looseF s = some (six, hi, lo)) : U64N hi ∧ U64N lo ∧ aFault six (hi : Int) (lo : Int) = 0 := by
  rw [loose_same2] at h
  cases hf : fourF s with
  | some n =>
    rw [hf] at h
    have h : some (false, 0, n) = some (six, hi, lo) := h
    injection h with h
    injection h with h1 h
    injection h with h2 h3
    subst h1 h2 h3
    have := fourF_lt hf
    refine ⟨by unfold U64N; omega, by unfold U64N; omega, ?_⟩
    unfold aFault
    simp
    omega
  | none =>
    rw [hf] at h
    have h : sixF s = some (six, hi, lo) := h
    unfold sixF at h
    cases hA : grpF (cutC s).1 (!(cutC s).2.2) with
    | none => rw [hA] at h; cases h
    | some a =>
      cases hB : grpF (cutC s).2.1 true with
      | none => rw [hA, hB] at h; cases h
      | some b =>
        rw [hA, hB] at h
        unfold mkA at h
        simp only at h
        have ha := grpF_lt (Nat.le_trans (cut_le s [58, 58]).1 hs) hA
        have hb := grpF_lt (Nat.le_trans (cut_le s [58, 58]).2 hs) hB
        split at h
        · cases h
        · injection h with h
          injection h with h1 h
          injection h with h2 h3
          subst h1 h2 h3
          have g1 := wdg_lt (g := gq a b) (fun i => gq_lt ha hb i) 4
          have g2 := wdg_lt (g := fun i => gq a b (4 + i)) (fun i => gq_lt ha hb (4 + i)) 4
          exact ⟨g1, g2, rfl⟩
def parseF (s : List UInt8) : Option (Bool × Nat × Nat) := match looseF s with
  | some (x, h, l) => if txtA x h l = strL s then some (x, h, l) else none
  | none => none
set_option maxRecDepth 100000 in
set_option maxHeartbeats 4000000 in
theorem parse_any (s : List UInt8) (w : World) (hv : Vr w) (hs : s.length ≤ 1000000) :
    Calls Tryz.prog 6 #[.string (strL s)] w (Ret (lsV (parseF s)) w) := by
  have HP : Hid (Blk (w.alloc (.cells #[.bool false, .int .u64 0, .int .u64 0] 29 (0, 0))) w.heap.size 29 #[.bool false, .int .u64 0, .int .u64 0]) := Lib.hid (Blk.new w _ _)
  have HB : Hid (Below w.heap.size w (w.alloc (.cells #[.bool false, .int .u64 0, .int .u64 0] 29 (0, 0)))) := Lib.hid (below_alloc (Below.refl _ _) _)
  have HV := Lib.hid (hv.below (below_alloc (Below.refl _ _) (.cells #[.bool false, .int .u64 0, .int .u64 0] 29 (0, 0))))
  have HL := Lib.hid fun wx (hv : Vr wx) => loose_any s wx hv hs
  have HT : Hid (∀ six hi lo, looseF s = some (six, hi, lo) → ∀ wx, Vr wx → Calls Tryz.prog 25 #[.agg #[.bool six, .int .u64 (hi : Int), .int .u64 (lo : Int)]] wx (Ret (.string (txtA six hi lo)) wx)) := Lib.hid fun six hi lo h wx hv => by
    obtain ⟨h1, h2, h3⟩ := looseF_ok hs h
    exact textOf_any six hi lo wx h1 h2 h3 hv.tb
  have HPf : Hid (parseF s = match looseF s with
    | some (x, h, l) => if txtA x h l = strL s then some (x, h, l) else none
    | none => none) := Lib.hid rfl
  obtain ⟨PR, hPR⟩ : ∃ q, parseF s = q := ⟨_, rfl⟩
  rw [hPR] at HPf ⊢
  generalize looseF s = R at *
  generalize strL s = SS at *
  clear hv hPR
  go_enter Tryz.func6, Tryz.ntmps6
  go_upto_region 1 with fail
  generalize w.alloc (.cells #[.bool false, .int .u64 0, .int .u64 0] 29 (0, 0)) = w1 at *
  obtain ⟨bx, hbx⟩ : ∃ q, w.heap.size = q := ⟨_, rfl⟩
  have Hbx := Lib.hid hbx
  rw [hbx] at HP HB ⊢
  clear hbx
  have HRet : Hid (∀ wx (sx : Bool) (h l : Int), Blk wx bx 29 #[.bool false, .int .u64 0, .int .u64 0] → Below bx w wx → Below bx w (((wx.setCell ⟨bx, 0, none⟩ (.bool sx)).setCell ⟨bx, 1, none⟩ (.int .u64 h)).setCell ⟨bx, 2, none⟩ (.int .u64 l))) := Lib.hid fun wx sx h l hp hb => hb.grown (grown_setCells bx [.bool sx, .int .u64 h, .int .u64 l] 0 wx) (Nat.le_of_lt hp.lt) (fun k hk => by injection hk with hk; omega)
  go_wp2_with fail
  refine (HL.out _ HV.out).mono ?_
  rintro e w2 ⟨rfl, hb⟩
  have HP2 := Lib.hid (HP.out.below hb HP.out.lt)
  have HB2 := Lib.hid (HB.out.trans (hb.mono (Nat.le_of_lt HP.out.lt)))
  have HV2 := Lib.hid (HV.out.below hb)
  clear hb HP HB HV HL
  rcases R with _ | ⟨six, hi, lo⟩
  · have hR : PR = none := HPf.out
    subst hR
    have HP3 := Lib.hid (HP2.out.alloc (.cells #[.bool false, .int .u64 0, .int .u64 0] 29 (0, 0)))
    have HB3 := Lib.hid (HB2.out.alloc (Nat.le_of_lt HP2.out.lt) (.cells #[.bool false, .int .u64 0, .int .u64 0] 29 (0, 0)))
    clear HP2 HB2 HV2 HT HPf
    unfold lsV
    go_upto_region 2 with fail
    generalize w2.alloc (.cells #[.bool false, .int .u64 0, .int .u64 0] 29 (0, 0)) = w3 at *
    have q0 := HP3.out.cell 0
    have q1 := HP3.out.cell 1
    have q2 := HP3.out.cell 2
    have qf := HP3.out.free
    simp at q0 q1 q2
    have c3 := (HP3.out.set3 (x' := .bool false) (y' := .int .u64 0) (z' := .int .u64 0))
    have HBf := Lib.hid (HRet.out w3 false 0 0 HP3.out HB3.out)
    have d0 := c3.cell 0
    have d1 := c3.cell 1
    have d2 := c3.cell 2
    simp at d0 d1 d2
    clear c3
    go_wp2_with fail
    refine bodyPost_ret (v := .tuple #[.agg #[.bool false, .int .u64 0, .int .u64 0], .int .i64 9]) (by simp [results, Tryz.results6, go_sem, *]) rfl ⟨rfl, by rw [Hbx.out]; exact HBf.out⟩
  · have hR : PR = if txtA six hi lo = SS then some (six, hi, lo) else none := HPf.out
    have HR := Lib.hid hR
    have HTx := Lib.hid (HT.out six hi lo rfl)
    have HP3 := Lib.hid (HP2.out.alloc (.cells #[.bool six, .int .u64 (hi : Int), .int .u64 (lo : Int)] 29 (0, 0)))
    have HA3 : Hid (Blk (w2.alloc (.cells #[.bool six, .int .u64 (hi : Int), .int .u64 (lo : Int)] 29 (0, 0))) w2.heap.size 29 #[.bool six, .int .u64 (hi : Int), .int .u64 (lo : Int)]) := Lib.hid (Blk.new w2 _ _)
    have HB3 := Lib.hid (HB2.out.alloc (Nat.le_of_lt HP2.out.lt) (.cells #[.bool six, .int .u64 (hi : Int), .int .u64 (lo : Int)] 29 (0, 0)))
    have HV3 := Lib.hid (HV2.out.below (below_alloc (Below.refl _ _) (.cells #[.bool six, .int .u64 (hi : Int), .int .u64 (lo : Int)] 29 (0, 0))))
    clear hR HP2 HB2 HV2 HT HPf
    rw [show lsV (some (six, hi, lo)) = .tuple #[.agg #[.bool six, .int .u64 (hi : Int), .int .u64 (lo : Int)], .int .i64 0] from rfl]
    go_upto_region 2 with fail
    generalize w2.alloc (.cells #[.bool six, .int .u64 (hi : Int), .int .u64 (lo : Int)] 29 (0, 0)) = w3 at *
    generalize w2.heap.size = ab at *
    have a0 := HA3.out.cell 0
    have a1 := HA3.out.cell 1
    have a2 := HA3.out.cell 2
    simp at a0 a1 a2
    have HTy := Lib.hid (HTx.out _ HV3.out)
    clear HTx
    go_wp2_with fail
    refine HTy.out.mono ?_
    rintro e w4 ⟨rfl, hb⟩
    have HP4 := Lib.hid (HP3.out.below hb HP3.out.lt)
    have HA4 := Lib.hid (HA3.out.below hb HA3.out.lt)
    have HB4 := Lib.hid (HB3.out.trans (hb.mono (Nat.le_of_lt HP3.out.lt)))
    clear hb HP3 HA3 HB3 HV3 HTy a0 a1 a2
    have a0 := HA4.out.cell 0
    have a1 := HA4.out.cell 1
    have a2 := HA4.out.cell 2
    simp at a0 a1 a2
    have hcmp : ((txtA six hi lo).toList == SS.toList) = decide (txtA six hi lo = SS) := by
      by_cases e : txtA six hi lo = SS
      · rw [decide_eq_true e, e]; exact beq_self_eq_true _
      · rw [decide_eq_false e]
        exact beq_eq_false_iff_ne.2 fun h => e (by
          rw [ByteArray.toList_eq, ByteArray.toList_eq] at h
          exact ByteArray.ext (Array.toList_inj.1 h))
    by_cases he : txtA six hi lo = SS
    · have hR := HR.out
      rw [if_pos he] at hR
      subst hR
      rw [decide_eq_true he] at hcmp
      have hcmp2 : (txtA six hi lo).toList = SS.toList := by rw [he]
      clear HR
      generalize txtA six hi lo = TX at *
      have q0 := HP4.out.cell 0
      have q1 := HP4.out.cell 1
      have q2 := HP4.out.cell 2
      have qf := HP4.out.free
      simp at q0 q1 q2
      have c3 := (HP4.out.set3 (x' := .bool six) (y' := .int .u64 (hi : Int)) (z' := .int .u64 (lo : Int)))
      have HBf := Lib.hid (HRet.out w4 six (hi : Int) (lo : Int) HP4.out HB4.out)
      have d0 := c3.cell 0
      have d1 := c3.cell 1
      have d2 := c3.cell 2
      simp at d0 d1 d2
      clear c3
      go_wp2_with fail
      refine bodyPost_ret (v := .tuple #[.agg #[.bool six, .int .u64 (hi : Int), .int .u64 (lo : Int)], .int .i64 0]) (by simp [results, Tryz.results6, go_sem, *]) rfl ⟨rfl, by rw [Hbx.out]; exact HBf.out⟩
    · have hR := HR.out
      rw [if_neg he] at hR
      subst hR
      rw [decide_eq_false he] at hcmp
      have hcmp2 : ¬ (txtA six hi lo).toList = SS.toList := by
        intro h
        have : ((txtA six hi lo).toList == SS.toList) = true := by rw [h]; exact beq_self_eq_true _
        rw [hcmp] at this
        cases this
      clear HR
      generalize txtA six hi lo = TX at *
      have q0 := HP4.out.cell 0
      have q1 := HP4.out.cell 1
      have q2 := HP4.out.cell 2
      have qf := HP4.out.free
      simp at q0 q1 q2
      have c3 := (HP4.out.set3 (x' := .bool false) (y' := .int .u64 0) (z' := .int .u64 0))
      have HBf := Lib.hid (HRet.out w4 false 0 0 HP4.out HB4.out)
      have d0 := c3.cell 0
      have d1 := c3.cell 1
      have d2 := c3.cell 2
      simp at d0 d1 d2
      clear c3
      go_wp2_with fail
      refine bodyPost_ret (v := .tuple #[.agg #[.bool false, .int .u64 0, .int .u64 0], .int .i64 9]) (by simp [results, Tryz.results6, go_sem, *]) rfl ⟨rfl, by rw [Hbx.out]; exact HBf.out⟩
set_option maxRecDepth 100000 in
set_option maxHeartbeats 4000000 in
theorem addrParse_any (s : List UInt8) (w : World) (hv : Vr w) (hs : s.length ≤ 1000000) :
    Calls Tryz.prog 8 #[.string (strL s)] w (Ret (lsV (parseF s)) w) := by
  have HP : Hid (Blk (w.alloc (.cells #[.bool false, .int .u64 0, .int .u64 0] 29 (0, 0))) w.heap.size 29 #[.bool false, .int .u64 0, .int .u64 0]) := Lib.hid (Blk.new w _ _)
  have HB : Hid (Below w.heap.size w (w.alloc (.cells #[.bool false, .int .u64 0, .int .u64 0] 29 (0, 0)))) := Lib.hid (below_alloc (Below.refl _ _) _)
  have HV := Lib.hid (hv.below (below_alloc (Below.refl _ _) (.cells #[.bool false, .int .u64 0, .int .u64 0] 29 (0, 0))))
  have HL := Lib.hid fun wx (hv : Vr wx) => addrLoose_any s wx hv hs
  have HT : Hid (∀ six hi lo, looseF s = some (six, hi, lo) → ∀ wx, Vr wx → Calls Tryz.prog 21 #[.agg #[.bool six, .int .u64 (hi : Int), .int .u64 (lo : Int)]] wx (Ret (.string (txtA six hi lo)) wx)) := Lib.hid fun six hi lo h wx hv => by
    obtain ⟨h1, h2, h3⟩ := looseF_ok hs h
    exact addrText_any six hi lo wx h1 h2 h3 hv.tb
  have HPf : Hid (parseF s = match looseF s with
    | some (x, h, l) => if txtA x h l = strL s then some (x, h, l) else none
    | none => none) := Lib.hid rfl
  obtain ⟨PR, hPR⟩ : ∃ q, parseF s = q := ⟨_, rfl⟩
  rw [hPR] at HPf ⊢
  generalize looseF s = R at *
  generalize strL s = SS at *
  clear hv hPR
  go_enter Tryz.func8, Tryz.ntmps8
  go_upto_region 1 with fail
  generalize w.alloc (.cells #[.bool false, .int .u64 0, .int .u64 0] 29 (0, 0)) = w1 at *
  obtain ⟨bx, hbx⟩ : ∃ q, w.heap.size = q := ⟨_, rfl⟩
  have Hbx := Lib.hid hbx
  rw [hbx] at HP HB ⊢
  clear hbx
  have HRet : Hid (∀ wx (sx : Bool) (h l : Int), Blk wx bx 29 #[.bool false, .int .u64 0, .int .u64 0] → Below bx w wx → Below bx w (((wx.setCell ⟨bx, 0, none⟩ (.bool sx)).setCell ⟨bx, 1, none⟩ (.int .u64 h)).setCell ⟨bx, 2, none⟩ (.int .u64 l))) := Lib.hid fun wx sx h l hp hb => hb.grown (grown_setCells bx [.bool sx, .int .u64 h, .int .u64 l] 0 wx) (Nat.le_of_lt hp.lt) (fun k hk => by injection hk with hk; omega)
  go_wp2_with fail
  refine (HL.out _ HV.out).mono ?_
  rintro e w2 ⟨rfl, hb⟩
  have HP2 := Lib.hid (HP.out.below hb HP.out.lt)
  have HB2 := Lib.hid (HB.out.trans (hb.mono (Nat.le_of_lt HP.out.lt)))
  have HV2 := Lib.hid (HV.out.below hb)
  clear hb HP HB HV HL
  rcases R with _ | ⟨six, hi, lo⟩
  · have hR : PR = none := HPf.out
    subst hR
    have HP3 := Lib.hid (HP2.out.alloc (.cells #[.bool false, .int .u64 0, .int .u64 0] 29 (0, 0)))
    have HB3 := Lib.hid (HB2.out.alloc (Nat.le_of_lt HP2.out.lt) (.cells #[.bool false, .int .u64 0, .int .u64 0] 29 (0, 0)))
    clear HP2 HB2 HV2 HT HPf
    unfold lsV
    go_upto_region 2 with fail
    generalize w2.alloc (.cells #[.bool false, .int .u64 0, .int .u64 0] 29 (0, 0)) = w3 at *
    have q0 := HP3.out.cell 0
    have q1 := HP3.out.cell 1
    have q2 := HP3.out.cell 2
    have qf := HP3.out.free
    simp at q0 q1 q2
    have c3 := (HP3.out.set3 (x' := .bool false) (y' := .int .u64 0) (z' := .int .u64 0))
    have HBf := Lib.hid (HRet.out w3 false 0 0 HP3.out HB3.out)
    have d0 := c3.cell 0
    have d1 := c3.cell 1
    have d2 := c3.cell 2
    simp at d0 d1 d2
    clear c3
    go_wp2_with fail
    refine bodyPost_ret (v := .tuple #[.agg #[.bool false, .int .u64 0, .int .u64 0], .int .i64 9]) (by simp [results, Tryz.results8, go_sem, *]) rfl ⟨rfl, by rw [Hbx.out]; exact HBf.out⟩
  · have hR : PR = if txtA six hi lo = SS then some (six, hi, lo) else none := HPf.out
    have HR := Lib.hid hR
    have HTx := Lib.hid (HT.out six hi lo rfl)
    have HP3 := Lib.hid (HP2.out.alloc (.cells #[.bool six, .int .u64 (hi : Int), .int .u64 (lo : Int)] 29 (0, 0)))
    have HA3 : Hid (Blk (w2.alloc (.cells #[.bool six, .int .u64 (hi : Int), .int .u64 (lo : Int)] 29 (0, 0))) w2.heap.size 29 #[.bool six, .int .u64 (hi : Int), .int .u64 (lo : Int)]) := Lib.hid (Blk.new w2 _ _)
    have HB3 := Lib.hid (HB2.out.alloc (Nat.le_of_lt HP2.out.lt) (.cells #[.bool six, .int .u64 (hi : Int), .int .u64 (lo : Int)] 29 (0, 0)))
    have HV3 := Lib.hid (HV2.out.below (below_alloc (Below.refl _ _) (.cells #[.bool six, .int .u64 (hi : Int), .int .u64 (lo : Int)] 29 (0, 0))))
    clear hR HP2 HB2 HV2 HT HPf
    rw [show lsV (some (six, hi, lo)) = .tuple #[.agg #[.bool six, .int .u64 (hi : Int), .int .u64 (lo : Int)], .int .i64 0] from rfl]
    go_upto_region 2 with fail
    generalize w2.alloc (.cells #[.bool six, .int .u64 (hi : Int), .int .u64 (lo : Int)] 29 (0, 0)) = w3 at *
    generalize w2.heap.size = ab at *
    have a0 := HA3.out.cell 0
    have a1 := HA3.out.cell 1
    have a2 := HA3.out.cell 2
    simp at a0 a1 a2
    have HTy := Lib.hid (HTx.out _ HV3.out)
    clear HTx
    go_wp2_with fail
    refine HTy.out.mono ?_
    rintro e w4 ⟨rfl, hb⟩
    have HP4 := Lib.hid (HP3.out.below hb HP3.out.lt)
    have HA4 := Lib.hid (HA3.out.below hb HA3.out.lt)
    have HB4 := Lib.hid (HB3.out.trans (hb.mono (Nat.le_of_lt HP3.out.lt)))
    clear hb HP3 HA3 HB3 HV3 HTy a0 a1 a2
    have a0 := HA4.out.cell 0
    have a1 := HA4.out.cell 1
    have a2 := HA4.out.cell 2
    simp at a0 a1 a2
    have hcmp : ((txtA six hi lo).toList == SS.toList) = decide (txtA six hi lo = SS) := by
      by_cases e : txtA six hi lo = SS
      · rw [decide_eq_true e, e]; exact beq_self_eq_true _
      · rw [decide_eq_false e]
        exact beq_eq_false_iff_ne.2 fun h => e (by
          rw [ByteArray.toList_eq, ByteArray.toList_eq] at h
          exact ByteArray.ext (Array.toList_inj.1 h))
    by_cases he : txtA six hi lo = SS
    · have hR := HR.out
      rw [if_pos he] at hR
      subst hR
      rw [decide_eq_true he] at hcmp
      have hcmp2 : (txtA six hi lo).toList = SS.toList := by rw [he]
      clear HR
      generalize txtA six hi lo = TX at *
      have q0 := HP4.out.cell 0
      have q1 := HP4.out.cell 1
      have q2 := HP4.out.cell 2
      have qf := HP4.out.free
      simp at q0 q1 q2
      have c3 := (HP4.out.set3 (x' := .bool six) (y' := .int .u64 (hi : Int)) (z' := .int .u64 (lo : Int)))
      have HBf := Lib.hid (HRet.out w4 six (hi : Int) (lo : Int) HP4.out HB4.out)
      have d0 := c3.cell 0
      have d1 := c3.cell 1
      have d2 := c3.cell 2
      simp at d0 d1 d2
      clear c3
      go_wp2_with fail
      refine bodyPost_ret (v := .tuple #[.agg #[.bool six, .int .u64 (hi : Int), .int .u64 (lo : Int)], .int .i64 0]) (by simp [results, Tryz.results8, go_sem, *]) rfl ⟨rfl, by rw [Hbx.out]; exact HBf.out⟩
    · have hR := HR.out
      rw [if_neg he] at hR
      subst hR
      rw [decide_eq_false he] at hcmp
      have hcmp2 : ¬ (txtA six hi lo).toList = SS.toList := by
        intro h
        have : ((txtA six hi lo).toList == SS.toList) = true := by rw [h]; exact beq_self_eq_true _
        rw [hcmp] at this
        cases this
      clear HR
      generalize txtA six hi lo = TX at *
      have q0 := HP4.out.cell 0
      have q1 := HP4.out.cell 1
      have q2 := HP4.out.cell 2
      have qf := HP4.out.free
      simp at q0 q1 q2
      have c3 := (HP4.out.set3 (x' := .bool false) (y' := .int .u64 0) (z' := .int .u64 0))
      have HBf := Lib.hid (HRet.out w4 false 0 0 HP4.out HB4.out)
      have d0 := c3.cell 0
      have d1 := c3.cell 1
      have d2 := c3.cell 2
      simp at d0 d1 d2
      clear c3
      go_wp2_with fail
      refine bodyPost_ret (v := .tuple #[.agg #[.bool false, .int .u64 0, .int .u64 0], .int .i64 9]) (by simp [results, Tryz.results8, go_sem, *]) rfl ⟨rfl, by rw [Hbx.out]; exact HBf.out⟩
end Go.Proofs.YtcpafmndjcejjaaGreatDoor

namespace Go.Proofs.YtcpafmndjcejjaaGreatDoor
open Go.RowKit Go
set_option linter.unusedVariables false

/-- the numbers of a listed table -/
def numsOf : DataW Unit → List Int
  | .agg l => l.map fun | .lit (.int _ z) => z | _ => 0
  | _ => []
theorem tabs_of {w : World} {L : List (String × DataW Unit)} {d64 : DataW Unit} (h : laidMetH Tryz.prog L w)
    (e1 : L.filter (fun x => x.1 == "internal/strconv.uint64pow10") = [("internal/strconv.uint64pow10", Lib.tabData .u64 Lib.pow10Tab)])
    (e2 : L.filter (fun x => x.1 == "math/bits.deBruijn64tab") = [("math/bits.deBruijn64tab", d64)])
    (e3 : d64 = Lib.tabData .u8 (numsOf d64)) (e4 : (numsOf d64).length = 64) (e5 : (numsOf d64).getD 15 0 = 4) : Tabs w := by
  refine ⟨?_, ?_⟩
  · have h1 := h.filter (fun x => x.1 == "internal/strconv.uint64pow10")
    rw [e1] at h1
    replace h1 : laidMet Tryz.prog [("internal/strconv.uint64pow10", Lib.tabData .u64 Lib.pow10Tab)] w := (laidMetH_iff.1 h1).1
    exact Lib.tabIs_of_head (g := 1) (t := 171) (e := 27) (n := 20) (by kernel_rfl) (by kernel_rfl) (by kernel_rfl) (by kernel_rfl) (by kernel_rfl) (by kernel_rfl) h1
  · have h2 := h.filter (fun x => x.1 == "math/bits.deBruijn64tab")
    rw [e2, e3] at h2
    replace h2 : laidMet Tryz.prog [("math/bits.deBruijn64tab", Lib.tabData .u8 (numsOf d64))] w := (laidMetH_iff.1 h2).1
    have := Lib.TabIs.cell (Lib.tabIs_of_head (g := 7) (t := 208) (e := 5) (n := 64) (by kernel_rfl) (by kernel_rfl) (by kernel_rfl) (by kernel_rfl) (by kernel_rfl) (by kernel_rfl) h2) (g := 7) (by kernel_rfl) 15 (by rw [e4]; decide)
    rw [e5] at this
    exact this
end Go.Proofs.YtcpafmndjcejjaaGreatDoor

namespace Go.Proofs.YtcpafmndjcejjaaGreatDoor
open Go.RowKit Go Go.Sort
set_option linter.unusedVariables false

theorem maxLen_of {w : World} (h : w.ShapedOpen Tryz.prog) : ∃ m, w.cell? ⟨0, 0, none⟩ = some (.int .i64 m) := (Tryz.laysM144).s1_3 w h
theorem row_err (u : TypeId) (h : Tryz.prog.typeName? 3 u = some "*errors.errorString") : u = 192 :=
  typeName_ptr_named (nm := "errors.errorString") (by rw [show "*" ++ "errors.errorString" = "*errors.errorString" by decide]; kernel_rfl) (by kernel_rfl) (by decide) u (by rw [show "*" ++ "errors.errorString" = "*errors.errorString" by decide]; exact h)
theorem es_of {w : World} {L : List (String × DataW Unit)} {t : List UInt8} (h : laidMetH Tryz.prog L w)
    (e : L.filter (fun x => x.1 == "strconv.ErrSyntax") = [("strconv.ErrSyntax", .iface "*errors.errorString" (.ptr (.agg [.lit (.string t)])))]) :
    ∃ ev, w.cell? ⟨2, 0, none⟩ = some ev ∧ (ev = .nilIface ∨ ∃ te pe, ev = .iface te pe) := by
  have h1 := h.filter (fun x => x.1 == "strconv.ErrSyntax")
  rw [e] at h1
  replace h1 : laidMet Tryz.prog [("strconv.ErrSyntax", .iface "*errors.errorString" (.ptr (.agg [.lit (.string t)])))] w := (laidMetH_iff.1 h1).1
  obtain ⟨a0, s0, hv0, -, -, -⟩ := laid_sentinel h1 (g := 2) (by kernel_rfl) (by kernel_rfl) Tryz.underlying69 row_err Tryz.underlying192 Tryz.underlying194 rfl rfl Tryz.underlying9 (by kernel_rfl) (by kernel_rfl)
  exact ⟨_, by have h0 := World.var?_cell (g := 2) (by kernel_rfl) hv0 0; simpa using h0, Or.inr ⟨_, _, rfl⟩⟩
theorem er_of {w : World} {L : List (String × DataW Unit)} {t : List UInt8} (h : laidMetH Tryz.prog L w)
    (e : L.filter (fun x => x.1 == "strconv.ErrRange") = [("strconv.ErrRange", .iface "*errors.errorString" (.ptr (.agg [.lit (.string t)])))]) :
    ∃ ev, w.cell? ⟨3, 0, none⟩ = some ev ∧ (ev = .nilIface ∨ ∃ te pe, ev = .iface te pe) := by
  have h1 := h.filter (fun x => x.1 == "strconv.ErrRange")
  rw [e] at h1
  replace h1 : laidMet Tryz.prog [("strconv.ErrRange", .iface "*errors.errorString" (.ptr (.agg [.lit (.string t)])))] w := (laidMetH_iff.1 h1).1
  obtain ⟨a0, s0, hv0, -, -, -⟩ := laid_sentinel h1 (g := 3) (by kernel_rfl) (by kernel_rfl) Tryz.underlying69 row_err Tryz.underlying192 Tryz.underlying194 rfl rfl Tryz.underlying9 (by kernel_rfl) (by kernel_rfl)
  exact ⟨_, by have h0 := World.var?_cell (g := 3) (by kernel_rfl) hv0 0; simpa using h0, Or.inr ⟨_, _, rfl⟩⟩
end Go.Proofs.YtcpafmndjcejjaaGreatDoor
