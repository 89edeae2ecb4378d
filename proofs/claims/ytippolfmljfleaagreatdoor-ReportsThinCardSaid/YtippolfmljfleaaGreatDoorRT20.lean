/-
  The program's Hide: its error hidF; else hidP of the reports. Condition: at most twenty reports.
-/
import Derived.Test.YtippolfmljfleaaGreatDoorRT19
set_option linter.unusedVariables false
namespace Go.Proofs.YtippolfmljfleaaGreatDoor
open Go.RowKit Go
set_option linter.unusedVariables false

/-- what the drawn region of Hide has yielded -/
def hpR (bx g k n c : Nat) (b4 b6 : Int) (A1 A2 R1 R2 : Value) : Nat → Value → Nat → World → Prop
  | 0, v, _, _ => v = .slice (some ⟨g, 0, none⟩) n c
  | 1, v, _, _ => v = .int .i64 (k : Int)
  | 2, v, _, _ => v = .slice (some ⟨g, 0, none⟩) n c
  | 3, v, _, _ => v = .int .i64 (k : Int)
  | 4, v, _, _ => v = .pointer (some ⟨bx, 3, none⟩)
  | 5, v, _, _ => v = .pointer (some ⟨bx, 4, none⟩)
  | 6, v, _, _ => v = A1
  | 7, v, _, _ => v = .int .i64 b4
  | 8, v, _, _ => v = .int .i64 b6
  | 9, v, _, _ => v = R1
  | 10, v, _, _ => v = .pointer (some ⟨bx, 3, none⟩)
  | 11, v, _, _ => v = .pointer (some ⟨bx, 7, none⟩)
  | 12, v, _, _ => v = A2
  | 13, v, _, _ => v = .int .i64 b4
  | 14, v, _, _ => v = .int .i64 b6
  | 15, v, _, _ => v = R2
  | 16, v, _, _ => v = .pointer (some ⟨g, k * 14, none⟩)
  | 17, v, _, _ => v = .pointer (some ⟨g, k * 14 + 3, none⟩)
  | 18, v, _, _ => v = .pointer (some ⟨g, k * 14 + 4, none⟩)
  | 19, _, n, _ => n = 1
  | 20, v, _, _ => v = .pointer (some ⟨g, k * 14, none⟩)
  | 21, v, _, _ => v = .pointer (some ⟨g, k * 14 + 3, none⟩)
  | 22, v, _, _ => v = .pointer (some ⟨g, k * 14 + 7, none⟩)
  | _, _, _, _ => True
theorem hpR_keep {bx g k n c : Nat} {b4 b6 : Int} {A1 A2 R1 R2 : Value} (p : Nat) (v : Value) (t : Nat) (u : World) (m : Nat) (w : World) (h : hpR bx g k n c b4 b6 A1 A2 R1 R2 p v t u) (hb : hqS t u m w) : hpR bx g k n c b4 b6 A1 A2 R1 R2 p v m w := by
  rcases p with _ | _ | _ | _ | _ | _ | _ | _ | _ | _ | _ | _ | _ | _ | _ | _ | _ | _ | _ | _ | _ | _ | _ | p
  all_goals first
    | exact h
    | (have h : t = 1 := h
       have h1 := hb.1
       have h2 := hb.2
       show m = 1
       omega)
/-- the two halves of a hidden report -/
def hideA (b4 b6 : Nat) (x : RB) : RB := ⟨{ x.1 with f := { x.1.f with h1 := (hHi x.1.f.s1 x.1.f.h1 b4 b6 : Int), l1 := (hLo x.1.f.s1 x.1.f.l1 b4 b6 : Int) } }, ⟨x.2.1.1, hHi_ok x.2.1.2.1, hLo_ok x.2.1.2.2.1, x.2.1.2.2.2⟩, x.2.2⟩
theorem hide_parts (b4 b6 : Nat) (x : RB) : ∃ z1 z2 : RB, hideR b4 b6 x = z2 ∧ (∀ t, t < 4 → (layRb.enc z1)[t]? = (layRb.enc x)[t]?) ∧ (∀ t, t < 3 → (layRb.enc z1)[4 + t]? = [Value.bool x.1.f.s1, .int .u64 (hHi x.1.f.s1 x.1.f.h1 b4 b6 : Int), .int .u64 (hLo x.1.f.s1 x.1.f.l1 b4 b6 : Int)][t]?) ∧ (∀ t, 7 ≤ t → (layRb.enc z1)[t]? = (layRb.enc x)[t]?) ∧ (∀ t, t < 7 → (layRb.enc z2)[t]? = (layRb.enc z1)[t]?) ∧ (∀ t, t < 3 → (layRb.enc z2)[7 + t]? = [Value.bool x.1.f.s2, .int .u64 (hHi x.1.f.s2 x.1.f.h2 b4 b6 : Int), .int .u64 (hLo x.1.f.s2 x.1.f.l2 b4 b6 : Int)][t]?) ∧ (∀ t, 10 ≤ t → (layRb.enc z2)[t]? = (layRb.enc z1)[t]?) := by
  refine ⟨hideA b4 b6 x, hideR b4 b6 x, rfl, fun t ht => ?_, fun t ht => ?_, fun t ht => ?_, fun t ht => ?_, fun t ht => ?_, fun t ht => ?_⟩
  · rcases t with _ | _ | _ | _ | t
    all_goals first | rfl | omega
  · rcases t with _ | _ | _ | t
    all_goals first | rfl | omega
  · rcases t with _ | _ | _ | _ | _ | _ | _ | t
    all_goals first | rfl | omega
  · rcases t with _ | _ | _ | _ | _ | _ | _ | t
    all_goals first | rfl | omega
  · rcases t with _ | _ | _ | t
    all_goals first | rfl | omega
  · rcases t with _ | _ | _ | _ | _ | _ | _ | _ | _ | _ | t
    all_goals first | rfl | omega
set_option maxRecDepth 100000 in
set_option maxHeartbeats 8000000 in
theorem hide_any (ad : Option Addr) (n c : Nat) (L : List RB) (b4 b6 : Int) (w : World) (h : RdK layRb w ad L) (hn : L.length = n) (hs : n ≤ 20) :
    Calls Tryz.prog 12 #[.slice ad n c, .int .i64 b4, .int .i64 b6] w fun e w' => ∃ v, e = .returned (.tuple #[v, .int .i64 (hidF L b4 b6)]) ∧ OwnK layRb w' w.heap.size v (if hidF L b4 b6 = 0 then hidP b4 b6 L else []) ∧ Below w.heap.size w w' := by
  obtain ⟨F, hF⟩ : ∃ q, hidF L b4 b6 = q := ⟨_, rfl⟩
  have HF1 : Hid (repF L ≠ 0 → F = repF L) := Lib.hid fun h => by rw [← hF]; unfold hidF; rw [if_pos h]
  have HF2 : Hid (repF L = 0 → (outB b4 0 32 || outB b6 0 128) = true → F = 1) := Lib.hid fun h k => by rw [← hF]; unfold hidF; rw [if_neg (by simp [h]), if_pos k]
  have HF3 : Hid (repF L = 0 → (outB b4 0 32 || outB b6 0 128) = false → F = 0) := Lib.hid fun h k => by rw [← hF]; unfold hidF; rw [if_neg (by simp [h]), if_neg (by simp [k])]
  have HC := Lib.hid (flCheckR_any ad n c L w h hn (by omega))
  have HO := Lib.hid fun a b c wx => outside_any a b c wx
  have HCl := Lib.hid fun wx (hb : Below w.heap.size w wx) => cloneRb_any ad n c L wx (h.below hb) hn (by omega)
  have Hn := Lib.hid hn
  have HOb : Hid (outB b4 0 32 = false → outB b6 0 128 = false → (0 ≤ b4 ∧ b4 ≤ 32) ∧ (0 ≤ b6 ∧ b6 ≤ 128)) := Lib.hid fun h k => by unfold outB at h k; simp at h k; omega
  rw [hF]
  generalize repF L = RF at *
  obtain ⟨O4, hO4⟩ : ∃ q, outB b4 0 32 = q := ⟨_, rfl⟩
  obtain ⟨O6, hO6⟩ : ∃ q, outB b6 0 128 = q := ⟨_, rfl⟩
  have HO4 := Lib.hid hO4
  have HO6 := Lib.hid hO6
  rw [hO4, hO6] at HF2 HF3
  rw [hO4, hO6] at HOb
  clear hF h hn hO4 hO6
  go_enter Tryz.func12, Tryz.ntmps12
  go_wp2_with fail
  refine HC.out.mono ?_
  rintro e w1 ⟨rfl, hb⟩
  have HB1 := Lib.hid hb
  clear hb HC
  by_cases hR : RF = 0
  · subst hR
    have HF2' := Lib.hid (HF2.out rfl)
    have HF3' := Lib.hid (HF3.out rfl)
    clear HF1 HF2 HF3
    go_wp2_with fail
    refine (HO.out _ _ _ _).mono ?_
    rintro e w2 ⟨rfl, rfl⟩
    rw [HO4.out]
    cases O4
    · have HOb4 := Lib.hid (HOb.out rfl)
      have HF34 := Lib.hid (HF3'.out)
      clear HOb
      go_wp2_with fail
      refine (HO.out _ _ _ _).mono ?_
      rintro e w2 ⟨rfl, rfl⟩
      rw [HO6.out]
      cases O6
      · have hF := HF3'.out rfl
        subst hF
        have hbd := HOb4.out rfl
        clear HF34
        have Hb4 := Lib.hid hbd.1
        have Hb6 := Lib.hid hbd.2
        clear HF2' HF3' HOb4 hbd
        have HCx := Lib.hid (HCl.out _ HB1.out)
        clear HCl
        go_wp2_with fail
        refine HCx.out.mono ?_
        rintro e w2 ⟨v2, rfl, hO, hb⟩
        have HB2 := Lib.hid (HB1.out.trans (hb.mono HB1.out.size))
        have HO2 := Lib.hid (hO.weak HB1.out.size)
        clear hO hb HCx HB1
        obtain ⟨a2, c2, hv2, -⟩ := HO2.out.form
        subst hv2
        rw [Hn.out] at HO2 ⊢
        go_wp2_with fail
        go_loopw [26] (fun i wr => ∃ k : Nat, k ≤ n ∧ i = .int .i64 (k : Int) ∧ Hid (OwnK layRb wr w.heap.size (.slice a2 n c2) (mapM (hideR b4.toNat b6.toNat) L k)) ∧ Hid (Below w.heap.size w wr)) (fun i _ => n - (intOf i).toNat)
        case atStart => exact ⟨0, Nat.zero_le _, rfl, Lib.hid (by rw [mapM_zero]; exact HO2.out), HB2⟩
        case round =>
          clear HO2 HB2
          obtain ⟨k, hk, rfl, HOk, HB⟩ := hrel
          by_cases hlt : k < n
          · obtain ⟨x, hx⟩ : ∃ x, L[k]? = some x := ⟨_, List.getElem?_eq_getElem (by rw [Hn.out]; exact hlt)⟩
            have hmx := mapM_get (f := hideR b4.toNat b6.toNat) hx
            have hml := mapM_len (hideR b4.toNat b6.toNat) L k
            rw [Hn.out] at hml
            have HSet := Lib.hid (mapM_set (f := hideR b4.toNat b6.toNat) hx)
            have Hml := Lib.hid hml
            obtain ⟨M2, hM2⟩ : ∃ q, mapM (hideR b4.toNat b6.toNat) L (k + 1) = q := ⟨_, rfl⟩
            have HM2 := Lib.hid hM2
            rw [hM2] at HSet
            clear hM2
            generalize mapM (hideR b4.toNat b6.toNat) L k = M at *
            obtain ⟨g, c', hv, hg2, hglt, -⟩ := HOk.out.one (by rw [Hml.out]; omega)
            injection hv with hv q1 q2
            subst hv
            clear q1 q2 hml hx
            have Hmx := Lib.hid hmx
            have HRx : Hid (wr.rangeAt g (k * 14) (layRb.enc x)) := Lib.hid (HOk.out.cellsAt hmx)
            have HX1 : Hid ((layRb.enc x).toArray.size = 14) := Lib.hid (by rw [List.size_toArray, layRb.len]; rfl)
            have HX2 : Hid ((layRb.enc x).toArray.all (·.oneCell') = true) := Lib.hid (all_oneCell_toArray (layRb.one x))
            obtain ⟨XC, hXC⟩ : ∃ X, (layRb.enc x).toArray = X := ⟨_, rfl⟩
            have hXL : layRb.enc x = XC.toList := by rw [← hXC]
            have HXC := Lib.hid hXC
            rw [hXL] at HRx
            rw [hXC] at HX1 HX2
            clear hXC hXL hmx
            have HP : Hid (Blk (wr.alloc (.cells XC 45 (0, 0))) wr.heap.size 45 XC) := Lib.hid (Blk.new wr _ _)
            have HO3 := Lib.hid (HOk.out.alloc (.cells XC 45 (0, 0)))
            have HB3 : Hid (Below w.heap.size w (wr.alloc (.cells XC 45 (0, 0)))) := Lib.hid (Below.alloc HB.out HB.out.size _)
            clear HOk HB
            go_upto_region 10 with (first | (refine wpList_loadn rfl 45 _ rfl g (k * 14) rfl _ _ HRx.out under_rb rfl 14 size_rb (by simpa using HX1.out) ?_; go_simp) | (refine wpList_var3R XC 45 Tryz.zeroValue45 rfl rfl rfl _ rfl rfl _ _ rfl _ rfl _ rfl ?_ ?_ 14 size_rb HX1.out ?_ HX2.out ?_; all_goals (try rfl); try go_simp))
            have HHS : Hid (∃ z1 z2 : RB, hideR b4.toNat b6.toNat x = z2 ∧ (∀ t, t < 4 → (layRb.enc z1)[t]? = (layRb.enc x)[t]?) ∧ (∀ t, t < 3 → (layRb.enc z1)[4 + t]? = [.bool x.1.f.s1, .int .u64 (hHi x.1.f.s1 x.1.f.h1 b4.toNat b6.toNat : Int), .int .u64 (hLo x.1.f.s1 x.1.f.l1 b4.toNat b6.toNat : Int)][t]?) ∧ (∀ t, 7 ≤ t → (layRb.enc z1)[t]? = (layRb.enc x)[t]?) ∧ (∀ t, t < 7 → (layRb.enc z2)[t]? = (layRb.enc z1)[t]?) ∧ (∀ t, t < 3 → (layRb.enc z2)[7 + t]? = [.bool x.1.f.s2, .int .u64 (hHi x.1.f.s2 x.1.f.h2 b4.toNat b6.toNat : Int), .int .u64 (hLo x.1.f.s2 x.1.f.l2 b4.toNat b6.toNat : Int)][t]?) ∧ (∀ t, 10 ≤ t → (layRb.enc z2)[t]? = (layRb.enc z1)[t]?)) := Lib.hid (hide_parts b4.toNat b6.toNat x)
            have HC1 := Lib.hid fun wx => hidden_F x.1.f.s1 x.1.f.h1 x.1.f.l1 b4 b6 wx x.2.1.2.1 x.2.1.2.2.1 Hb4.out Hb6.out
            have HC2 := Lib.hid fun wx => hidden_F x.1.f.s2 x.1.f.h2 x.1.f.l2 b4 b6 wx x.2.1.2.2.2.1 x.2.1.2.2.2.2.1 Hb4.out Hb6.out
            generalize (hHi x.1.f.s1 x.1.f.h1 b4.toNat b6.toNat : Int) = Y1 at *
            generalize (hLo x.1.f.s1 x.1.f.l1 b4.toNat b6.toNat : Int) = Y2 at *
            generalize (hHi x.1.f.s2 x.1.f.h2 b4.toNat b6.toNat : Int) = Y3 at *
            generalize (hLo x.1.f.s2 x.1.f.l2 b4.toNat b6.toNat : Int) = Y4 at *
            obtain ⟨z1, z2, hz2, a1, a2, a3, d1, d2, d3⟩ := HHS.out
            rw [hz2] at HSet
            clear HHS hz2
            generalize wr.alloc (.cells XC 45 (0, 0)) = w3 at *
            generalize wr.heap.size = bx at *
            clear HRx hg2 HX2
            have HV4 : Hid (XC[4]? = some (.bool x.1.f.s1) ∧ XC[5]? = some (.int .u64 x.1.f.h1) ∧ XC[6]? = some (.int .u64 x.1.f.l1) ∧ XC[7]? = some (.bool x.1.f.s2) ∧ XC[8]? = some (.int .u64 x.1.f.h2) ∧ XC[9]? = some (.int .u64 x.1.f.l2)) := Lib.hid (by
              rw [← HXC.out]
              exact ⟨rfl, rfl, rfl, rfl, rfl, rfl⟩)
            have HG4 : Hid (∀ wx, OwnK layRb wx w.heap.size (.slice (some ⟨g, 0, none⟩) n c2) M → wx.cell? ⟨g, k * 14 + 4, none⟩ = some (.bool x.1.f.s1) ∧ wx.cell? ⟨g, k * 14 + 5, none⟩ = some (.int .u64 x.1.f.h1) ∧ wx.cell? ⟨g, k * 14 + 6, none⟩ = some (.int .u64 x.1.f.l1)) := Lib.hid fun wx h => ⟨h.get (j := 4) Hmx.out rfl, h.get (j := 5) Hmx.out rfl, h.get (j := 6) Hmx.out rfl⟩
            have HG7 : Hid (∀ wx, OwnK layRb wx w.heap.size (.slice (some ⟨g, 0, none⟩) n c2) (M.set k z1) → wx.cell? ⟨g, k * 14 + 7, none⟩ = some (.bool x.1.f.s2) ∧ wx.cell? ⟨g, k * 14 + 8, none⟩ = some (.int .u64 x.1.f.h2) ∧ wx.cell? ⟨g, k * 14 + 9, none⟩ = some (.int .u64 x.1.f.l2)) := Lib.hid fun wx h => by
              have hmk : (M.set k z1)[k]? = some z1 := List.getElem?_set_self (by rw [Hml.out]; exact hlt)
              exact ⟨h.get (j := 7) hmk (a3 7 (by omega)), h.get (j := 8) hmk (a3 8 (by omega)), h.get (j := 9) hmk (a3 9 (by omega))⟩
            obtain ⟨s1, hs1⟩ : ∃ q, x.1.f.s1 = q := ⟨_, rfl⟩
            obtain ⟨s2, hs2⟩ : ∃ q, x.1.f.s2 = q := ⟨_, rfl⟩
            obtain ⟨h1, hh1⟩ : ∃ q, x.1.f.h1 = q := ⟨_, rfl⟩
            obtain ⟨h2, hh2⟩ : ∃ q, x.1.f.h2 = q := ⟨_, rfl⟩
            obtain ⟨l1, hl1⟩ : ∃ q, x.1.f.l1 = q := ⟨_, rfl⟩
            obtain ⟨l2, hl2⟩ : ∃ q, x.1.f.l2 = q := ⟨_, rfl⟩
            rw [hs1, hs2, hh1, hh2, hl1, hl2] at HV4
            rw [hs1, hh1, hl1] at HG4 HC1
            rw [hs2, hh2, hl2] at HG7 HC2
            rw [hs1] at a2
            rw [hs2] at d2
            clear hs1 hs2 hh1 hh2 hl1 hl2 HXC
            have HQw : Hid (∀ wx, Below w3.heap.size w3 wx → OwnK layRb (((wx.setCell ⟨g, k * 14 + 4, none⟩ (.bool s1)).setCell ⟨g, k * 14 + 5, none⟩ (.int .u64 Y1)).setCell ⟨g, k * 14 + 6, none⟩ (.int .u64 Y2)) w.heap.size (.slice (some ⟨g, 0, none⟩) n c2) (M.set k z1) ∧ Below w.heap.size w (((wx.setCell ⟨g, k * 14 + 4, none⟩ (.bool s1)).setCell ⟨g, k * 14 + 5, none⟩ (.int .u64 Y1)).setCell ⟨g, k * 14 + 6, none⟩ (.int .u64 Y2))) := Lib.hid fun wx hb => by
              have hgr : wx.grownBy (((wx.setCell ⟨g, k * 14 + 4, none⟩ (.bool s1)).setCell ⟨g, k * 14 + 5, none⟩ (.int .u64 Y1)).setCell ⟨g, k * 14 + 6, none⟩ (.int .u64 Y2)) (some g) := grown_setCells g [.bool s1, .int .u64 Y1, .int .u64 Y2] (k * 14 + 4) wx
              have hB := HB3.out.trans (hb.mono HB3.out.size)
              exact ⟨OwnK.setPart (HO3.out.later hb) (j := 4) (vs := [.bool s1, .int .u64 Y1, .int .u64 Y2]) Hmx.out (by show 4 + 3 ≤ 14; decide) a1 a2 a3, hB.grown hgr hB.size (fun q hq => by injection hq with hq; have := own_base HO3.out g rfl; omega)⟩
            have HZw : Hid (∀ wx, OwnK layRb wx w.heap.size (.slice (some ⟨g, 0, none⟩) n c2) (M.set k z1) → Below w.heap.size w wx → OwnK layRb (((wx.setCell ⟨g, k * 14 + 7, none⟩ (.bool s2)).setCell ⟨g, k * 14 + 8, none⟩ (.int .u64 Y3)).setCell ⟨g, k * 14 + 9, none⟩ (.int .u64 Y4)) w.heap.size (.slice (some ⟨g, 0, none⟩) n c2) (mapM (hideR b4.toNat b6.toNat) L (k + 1)) ∧ Below w.heap.size w (((wx.setCell ⟨g, k * 14 + 7, none⟩ (.bool s2)).setCell ⟨g, k * 14 + 8, none⟩ (.int .u64 Y3)).setCell ⟨g, k * 14 + 9, none⟩ (.int .u64 Y4))) := Lib.hid fun wx hO hB => by
              have hgr : wx.grownBy (((wx.setCell ⟨g, k * 14 + 7, none⟩ (.bool s2)).setCell ⟨g, k * 14 + 8, none⟩ (.int .u64 Y3)).setCell ⟨g, k * 14 + 9, none⟩ (.int .u64 Y4)) (some g) := grown_setCells g [.bool s2, .int .u64 Y3, .int .u64 Y4] (k * 14 + 7) wx
              have hmk : (M.set k z1)[k]? = some z1 := List.getElem?_set_self (by rw [Hml.out]; exact hlt)
              have := OwnK.setPart hO (j := 7) (y := z2) (vs := [.bool s2, .int .u64 Y3, .int .u64 Y4]) hmk (by show 7 + 3 ≤ 14; decide) d1 d2 d3
              refine ⟨?_, hB.grown hgr hB.size (fun q hq => by injection hq with hq; have := own_base hO g rfl; omega)⟩
              rw [HM2.out, ← HSet.out]
              exact Eq.mp (congrArg (OwnK layRb _ _ _) (List.set_set _)) this
            obtain ⟨QW, hQW⟩ : ∃ Q : World → Prop, (fun v => OwnK layRb v w.heap.size (.slice (some ⟨g, 0, none⟩) n c2) (M.set k z1) ∧ Below w.heap.size w v) = Q := ⟨_, rfl⟩
            have HQW := Lib.hid hQW
            clear hQW
            refine Lm.wp_region_lim 23 1 (hpR bx g k n c2 b4 b6 (.agg #[.bool s1, .int .u64 h1, .int .u64 l1]) (.agg #[.bool s2, .int .u64 h2, .int .u64 l2]) (.agg #[.bool s1, .int .u64 Y1, .int .u64 Y2]) (.agg #[.bool s2, .int .u64 Y3, .int .u64 Y4])) (hqC w3 QW) hqS (fun i => if i = 19 then 1 else 0) (fun i => if i = 2 ∨ i = 3 ∨ 20 ≤ i then 1 else 0)
              (by kernel_rfl) (by kernel_rfl) (by decide) (by kernel_rfl) hpR_keep ⟨fun _ => below_drew (Below.refl _ _), fun h => absurd rfl h⟩ ?hX
            case' hX => (apply Exists.intro; refine ⟨fun T => ?hA, ?hob, ?hend⟩)
            case hA =>
              simp only [setAll, List.take_succ_cons, List.take_zero, Act.put, List.setIfInBounds_toArray, List.set_cons_succ, List.set_cons_zero, Nat.reduceAdd]
              exact rfl
            case hob =>
              go_light
              refine ⟨?_, ?_, ?_, ?_, ?_, ?_, ?_, ?_, ?_, ?_, ?_, ?_, ?_, ?_, ?_, ?_, ?_, ?_, ?_, ?_, ?_, ?_, ?_, trivial⟩
              all_goals (intro TT wx n0 hC hn hp; dsimp only at hn ⊢; unfold Op1)
              · have hn1 : n0 ≤ 1 := by simp at hn; omega
                go_simp
                first | exact ⟨rfl, hC, Nat.le_refl _, by omega⟩ | exact ⟨rfl, Nat.le_refl _, by omega⟩ | exact ⟨Nat.le_refl _, by omega⟩
              · have hn1 : n0 ≤ 1 := by simp at hn; omega
                go_simp
                first | exact ⟨rfl, hC, Nat.le_refl _, by omega⟩ | exact ⟨rfl, Nat.le_refl _, by omega⟩ | exact ⟨Nat.le_refl _, by omega⟩
              · have hn1 : n0 ≤ 1 := by simp at hn; omega
                go_simp
                first | exact ⟨rfl, hC, Nat.le_refl _, by omega⟩ | exact ⟨rfl, Nat.le_refl _, by omega⟩ | exact ⟨Nat.le_refl _, by omega⟩
              · have hn1 : n0 ≤ 1 := by simp at hn; omega
                go_simp
                first | exact ⟨rfl, hC, Nat.le_refl _, by omega⟩ | exact ⟨rfl, Nat.le_refl _, by omega⟩ | exact ⟨Nat.le_refl _, by omega⟩
              · have hn1 : n0 ≤ 1 := by simp at hn; omega
                go_simp
                first | exact ⟨rfl, hC, Nat.le_refl _, by omega⟩ | exact ⟨rfl, Nat.le_refl _, by omega⟩ | exact ⟨Nat.le_refl _, by omega⟩
              · obtain ⟨h0, -⟩ := hp
                have h0 : TT 4 = .pointer (some ⟨bx, 3, none⟩) := h0
                have hn1 : n0 ≤ 1 := by simp at hn; omega
                go_simp
                first | exact ⟨rfl, hC, Nat.le_refl _, by omega⟩ | exact ⟨rfl, Nat.le_refl _, by omega⟩ | exact ⟨Nat.le_refl _, by omega⟩
              · obtain ⟨h0, -⟩ := hp
                have h0 : TT 5 = .pointer (some ⟨bx, 4, none⟩) := h0
                have hn0 : n0 = 0 := by simpa using hn
                subst hn0
                have hP := HP.out.below (hC.1 rfl) HP.out.lt
                obtain ⟨v4, v5, v6, v7, v8, v9⟩ := HV4.out
                have c4 : wx.cell? ⟨bx, 4, none⟩ = some (.bool s1) := by rw [hP.cell 4]; exact v4
                have c5 : wx.cell? ⟨bx, 5, none⟩ = some (.int .u64 h1) := by rw [hP.cell 5]; exact v5
                have c6 : wx.cell? ⟨bx, 6, none⟩ = some (.int .u64 l1) := by rw [hP.cell 6]; exact v6
                clear v4 v5 v6 v7 v8 v9 hP
                go_simp
                first | exact ⟨rfl, hC, Nat.le_refl _, by omega⟩ | exact ⟨rfl, Nat.le_refl _, by omega⟩ | exact ⟨Nat.le_refl _, by omega⟩
              · have hn1 : n0 ≤ 1 := by simp at hn; omega
                go_simp
                first | exact ⟨rfl, hC, Nat.le_refl _, by omega⟩ | exact ⟨rfl, Nat.le_refl _, by omega⟩ | exact ⟨Nat.le_refl _, by omega⟩
              · have hn1 : n0 ≤ 1 := by simp at hn; omega
                go_simp
                first | exact ⟨rfl, hC, Nat.le_refl _, by omega⟩ | exact ⟨rfl, Nat.le_refl _, by omega⟩ | exact ⟨Nat.le_refl _, by omega⟩
              · obtain ⟨h0, h1', h2', -⟩ := hp
                have h0 : TT 6 = .agg #[.bool s1, .int .u64 h1, .int .u64 l1] := h0
                have h1' : TT 7 = .int .i64 b4 := h1'
                have h2' : TT 8 = .int .i64 b6 := h2'
                have hn0 : n0 = 0 := by simpa using hn
                subst hn0
                have hb := hC.1 rfl
                go_simp
                refine (HC1.out wx).mono ?_
                rintro e w5 ⟨rfl, hb5⟩
                exact ⟨_, rfl, rfl, ⟨fun _ => hb.trans (hb5.mono hb.size), fun h => absurd rfl h⟩, Nat.le_refl _, by omega⟩
              · have hn1 : n0 ≤ 1 := by simp at hn; omega
                go_simp
                first | exact ⟨rfl, hC, Nat.le_refl _, by omega⟩ | exact ⟨rfl, Nat.le_refl _, by omega⟩ | exact ⟨Nat.le_refl _, by omega⟩
              · obtain ⟨h0, -⟩ := hp
                have h0 : TT 10 = .pointer (some ⟨bx, 3, none⟩) := h0
                have hn1 : n0 ≤ 1 := by simp at hn; omega
                go_simp
                first | exact ⟨rfl, hC, Nat.le_refl _, by omega⟩ | exact ⟨rfl, Nat.le_refl _, by omega⟩ | exact ⟨Nat.le_refl _, by omega⟩
              · obtain ⟨h0, -⟩ := hp
                have h0 : TT 11 = .pointer (some ⟨bx, 7, none⟩) := h0
                have hn0 : n0 = 0 := by simpa using hn
                subst hn0
                have hP := HP.out.below (hC.1 rfl) HP.out.lt
                obtain ⟨v4, v5, v6, v7, v8, v9⟩ := HV4.out
                have c7 : wx.cell? ⟨bx, 7, none⟩ = some (.bool s2) := by rw [hP.cell 7]; exact v7
                have c8 : wx.cell? ⟨bx, 8, none⟩ = some (.int .u64 h2) := by rw [hP.cell 8]; exact v8
                have c9 : wx.cell? ⟨bx, 9, none⟩ = some (.int .u64 l2) := by rw [hP.cell 9]; exact v9
                clear v4 v5 v6 v7 v8 v9 hP
                go_simp
                first | exact ⟨rfl, hC, Nat.le_refl _, by omega⟩ | exact ⟨rfl, Nat.le_refl _, by omega⟩ | exact ⟨Nat.le_refl _, by omega⟩
              · have hn1 : n0 ≤ 1 := by simp at hn; omega
                go_simp
                first | exact ⟨rfl, hC, Nat.le_refl _, by omega⟩ | exact ⟨rfl, Nat.le_refl _, by omega⟩ | exact ⟨Nat.le_refl _, by omega⟩
              · have hn1 : n0 ≤ 1 := by simp at hn; omega
                go_simp
                first | exact ⟨rfl, hC, Nat.le_refl _, by omega⟩ | exact ⟨rfl, Nat.le_refl _, by omega⟩ | exact ⟨Nat.le_refl _, by omega⟩
              · obtain ⟨h0, h1', h2', -⟩ := hp
                have h0 : TT 12 = .agg #[.bool s2, .int .u64 h2, .int .u64 l2] := h0
                have h1' : TT 13 = .int .i64 b4 := h1'
                have h2' : TT 14 = .int .i64 b6 := h2'
                have hn0 : n0 = 0 := by simpa using hn
                subst hn0
                have hb := hC.1 rfl
                go_simp
                refine (HC2.out wx).mono ?_
                rintro e w5 ⟨rfl, hb5⟩
                exact ⟨_, rfl, rfl, ⟨fun _ => hb.trans (hb5.mono hb.size), fun h => absurd rfl h⟩, Nat.le_refl _, by omega⟩
              · obtain ⟨h0, h1', -⟩ := hp
                have h0 : TT 0 = .slice (some ⟨g, 0, none⟩) n c2 := h0
                have h1' : TT 1 = .int .i64 (k : Int) := h1'
                have hn1 : n0 ≤ 1 := by simp at hn; omega
                go_simp
                first | exact ⟨rfl, hC, Nat.le_refl _, by omega⟩ | exact ⟨rfl, Nat.le_refl _, by omega⟩ | exact ⟨Nat.le_refl _, by omega⟩
              · obtain ⟨h0, -⟩ := hp
                have h0 : TT 16 = .pointer (some ⟨g, k * 14, none⟩) := h0
                have hn1 : n0 ≤ 1 := by simp at hn; omega
                go_simp
                first | exact ⟨rfl, hC, Nat.le_refl _, by omega⟩ | exact ⟨rfl, Nat.le_refl _, by omega⟩ | exact ⟨Nat.le_refl _, by omega⟩
              · obtain ⟨h0, -⟩ := hp
                have h0 : TT 17 = .pointer (some ⟨g, k * 14 + 3, none⟩) := h0
                have hn1 : n0 ≤ 1 := by simp at hn; omega
                go_simp
                first | exact ⟨rfl, hC, Nat.le_refl _, by omega⟩ | exact ⟨rfl, Nat.le_refl _, by omega⟩ | exact ⟨Nat.le_refl _, by omega⟩
              · obtain ⟨h0, h1', -⟩ := hp
                have h0 : TT 18 = .pointer (some ⟨g, k * 14 + 4, none⟩) := h0
                have h1' : TT 9 = .agg #[.bool s1, .int .u64 Y1, .int .u64 Y2] := h1'
                have hn0 : n0 = 0 := by simpa using hn
                subst hn0
                have hb := hC.1 rfl
                have hO := HO3.out.later hb
                have hfr := hO.frozen
                obtain ⟨c4, c5, c6⟩ := HG4.out wx hO
                have hq := HQw.out wx hb
                have hQ : QW (((wx.setCell ⟨g, k * 14 + 4, none⟩ (.bool s1)).setCell ⟨g, k * 14 + 5, none⟩ (.int .u64 Y1)).setCell ⟨g, k * 14 + 6, none⟩ (.int .u64 Y2)) := by rw [← HQW.out]; exact hq
                clear hq hO
                have HQ := Lib.hid hQ
                clear hQ
                go_simp
                exact ⟨rfl, ⟨fun h => absurd h (by decide), fun _ => HQ.out⟩, by omega, by omega⟩
              · obtain ⟨h0, h1', -⟩ := hp
                have h0 : TT 2 = .slice (some ⟨g, 0, none⟩) n c2 := h0
                have h1' : TT 3 = .int .i64 (k : Int) := h1'
                have hn1 : n0 ≤ 1 := by simp at hn; omega
                go_simp
                first | exact ⟨rfl, hC, Nat.le_refl _, by omega⟩ | exact ⟨rfl, Nat.le_refl _, by omega⟩ | exact ⟨Nat.le_refl _, by omega⟩
              · obtain ⟨h0, -⟩ := hp
                have h0 : TT 20 = .pointer (some ⟨g, k * 14, none⟩) := h0
                have hn1 : n0 ≤ 1 := by simp at hn; omega
                go_simp
                first | exact ⟨rfl, hC, Nat.le_refl _, by omega⟩ | exact ⟨rfl, Nat.le_refl _, by omega⟩ | exact ⟨Nat.le_refl _, by omega⟩
              · obtain ⟨h0, -⟩ := hp
                have h0 : TT 21 = .pointer (some ⟨g, k * 14 + 3, none⟩) := h0
                have hn1 : n0 ≤ 1 := by simp at hn; omega
                go_simp
                first | exact ⟨rfl, hC, Nat.le_refl _, by omega⟩ | exact ⟨rfl, Nat.le_refl _, by omega⟩ | exact ⟨Nat.le_refl _, by omega⟩
            case hend =>
              intro TT w2 ⟨n0, hn0, hC, hR⟩
              have e19 : n0 = 1 := hR 19 (by omega)
              have e22 : TT 22 = .pointer (some ⟨g, k * 14 + 7, none⟩) := hR 22 (by omega)
              have e15 : TT 15 = .agg #[.bool s2, .int .u64 Y3, .int .u64 Y4] := hR 15 (by omega)
              subst e19
              have hq := hC.2 (by decide)
              rw [← HQW.out] at hq
              obtain ⟨hOw, hBw⟩ := hq
              have hfr := hOw.frozen
              obtain ⟨c7, c8, c9⟩ := HG7.out w2 hOw
              have hz := HZw.out w2 hOw hBw
              have HE := Lib.hid hz.1
              have HEB := Lib.hid hz.2
              clear hz hOw hBw hC hR HQW HQw HZw HC1 HC2 HP HO3 HB3 HG4 HG7
              simp only [List.drop_succ_cons, List.drop_zero]
              go_wp2_with fail
              exact ⟨⟨k + 1, by omega, by go_num, HE, HEB⟩, by simp [intOf]; omega⟩
          · obtain rfl : k = n := by omega
            have hM := mapM_all (hideR b4.toNat b6.toNat) L k Hn.out
            rw [hM] at HOk
            have HT := Lib.hid (together_any a2 k c2 (L.map (hideR b4.toNat b6.toNat)) wr HOk.out.rd (by rw [List.length_map]; exact Hn.out) hs)
            go_wp2_with fail
            refine HT.out.mono ?_
            rintro e w5 ⟨v5, rfl, hO, hb⟩
            have HE1 := Lib.hid (hO.weak HB.out.size)
            have HE2 := Lib.hid (HB.out.trans (hb.mono HB.out.size))
            clear hO hb HT
            go_wp2_with fail
            go_ret2
            exact ⟨_, rfl, HE1.out, HE2.out⟩
      · have hF := HF2'.out rfl
        subst hF
        clear HF2' HF3' HOb4 HF34
        go_wp2_with fail
        go_ret2
        exact ⟨_, rfl, OwnK.nil _ _ _, HB1.out⟩
    · have hF := HF2'.out rfl
      subst hF
      clear HF2' HF3' HOb
      go_wp2_with fail
      go_ret2
      exact ⟨_, rfl, OwnK.nil _ _ _, HB1.out⟩
  · have hF := HF1.out hR
    subst hF
    have hne : (F != 0) = true := by simpa using hR
    clear HF1 HF2 HF3 HOb
    go_wp2_with fail
    go_ret2
    exact ⟨_, rfl, OwnK.nil _ _ _, HB1.out⟩
end Go.Proofs.YtippolfmljfleaaGreatDoor
