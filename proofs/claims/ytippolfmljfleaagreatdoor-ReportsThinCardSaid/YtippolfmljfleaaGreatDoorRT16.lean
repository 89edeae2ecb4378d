/-
  The program's Thin: its error thinF; else thinP of the reports. Condition: at most twenty reports.
-/
import Derived.Test.YtippolfmljfleaaGreatDoorRT15
set_option linter.unusedVariables false
namespace Go.Proofs.YtippolfmljfleaaGreatDoor
open Go.RowKit Go
set_option linter.unusedVariables false

/-- the error of Thin -/
def thinF (L : List RB) (d : Int) : Int := if repF L ≠ 0 then repF L else if outB d 0 4001 = true then 1 else 0
def thinM (d : Int) (L : List RB) (k : Nat) : List RB := (L.take k).map (thinR d) ++ L.drop k
theorem thinM_get {d : Int} {L : List RB} {k : Nat} {x : RB} (h : L[k]? = some x) : (thinM d L k)[k]? = some x := by
  have hk := (List.getElem?_eq_some_iff.1 h).1
  unfold thinM
  rw [List.getElem?_append_right (by rw [List.length_map, List.length_take]; omega), List.length_map, List.length_take, List.getElem?_drop, Nat.min_eq_left (by omega)]
  simpa using h
theorem thinM_set {d : Int} {L : List RB} {k : Nat} {x : RB} (h : L[k]? = some x) : (thinM d L k).set k (thinR d x) = thinM d L (k + 1) := by
  obtain ⟨hk, rfl⟩ := List.getElem?_eq_some_iff.1 h
  unfold thinM
  have hl : ((L.take k).map (thinR d)).length = k := by rw [List.length_map, List.length_take]; omega
  rw [List.set_append_right _ _ (by omega), hl, Nat.sub_self, List.drop_eq_getElem_cons hk, List.set_cons_zero, List.take_succ_eq_append_getElem hk, List.map_append]
  simp
theorem thinM_same {d : Int} {L : List RB} {k : Nat} {x : RB} (h : L[k]? = some x) (hx : thinR d x = x) : thinM d L (k + 1) = thinM d L k := by
  have h1 := thinM_set (d := d) h
  have h2 := thinM_get (d := d) h
  rw [hx] at h1
  rw [← h1]
  apply List.ext_getElem?
  intro i
  by_cases e : i = k
  · subst e
    rw [List.getElem?_set_self (List.getElem?_eq_some_iff.1 h2).1, h2]
  · rw [List.getElem?_set_ne (fun h => e h.symm)]
theorem thinM_zero (d : Int) (L : List RB) : thinM d L 0 = L := by simp [thinM]
theorem thinM_all (d : Int) (L : List RB) (n : Nat) (h : L.length = n) : thinM d L n = L.map (thinR d) := by
  subst h; simp [thinM]
theorem thinM_len (d : Int) (L : List RB) (k : Nat) : (thinM d L k).length = L.length := by
  unfold thinM
  rw [List.length_append, List.length_map, List.length_take, List.length_drop]; omega
set_option maxRecDepth 100000 in
set_option maxHeartbeats 4000000 in
theorem thin_any (ad : Option Addr) (n c : Nat) (L : List RB) (d : Int) (w : World) (h : RdK layRb w ad L) (hn : L.length = n) (hs : n ≤ 20) (hd : -4398046511104 ≤ d ∧ d ≤ 4398046511104) :
    Calls Tryz.prog 11 #[.slice ad n c, .int .i64 d] w fun e w' => ∃ v, e = .returned (.tuple #[v, .int .i64 (thinF L d)]) ∧ OwnK layRb w' w.heap.size v (if thinF L d = 0 then thinP d L else []) ∧ Below w.heap.size w w' := by
  obtain ⟨F, hF⟩ : ∃ q, thinF L d = q := ⟨_, rfl⟩
  have HF1 : Hid (repF L ≠ 0 → F = repF L) := Lib.hid fun h => by rw [← hF]; unfold thinF; rw [if_pos h]
  have HF2 : Hid (repF L = 0 → outB d 0 4001 = true → F = 1) := Lib.hid fun h k => by rw [← hF]; unfold thinF; rw [if_neg (by simp [h]), if_pos k]
  have HF3 : Hid (repF L = 0 → outB d 0 4001 = false → F = 0) := Lib.hid fun h k => by rw [← hF]; unfold thinF; rw [if_neg (by simp [h]), if_neg (by simp [k])]
  have HC := Lib.hid (flCheckR_any ad n c L w h hn (by omega))
  have HO := Lib.hid fun wx => outside_any d 0 4001 wx
  have HCl := Lib.hid fun wx (hb : Below w.heap.size w wx) => cloneRb_any ad n c L wx (h.below hb) hn (by omega)
  have Hn := Lib.hid hn
  have HOb : Hid (outB d 0 4001 = false → 0 ≤ d ∧ d ≤ 4001) := Lib.hid fun h => by unfold outB at h; simp at h; omega
  rw [hF]
  generalize repF L = RF at *
  generalize outB d 0 4001 = OB at *
  clear hF h hn
  go_enter Tryz.func11, Tryz.ntmps11
  go_wp2_with fail
  refine HC.out.mono ?_
  rintro e w1 ⟨rfl, hb⟩
  have HB1 := Lib.hid hb
  clear hb HC
  by_cases hR : RF = 0
  · subst hR
    have HF2' := Lib.hid (HF2.out rfl)
    have HF3' := Lib.hid (HF3.out rfl)
    clear HF1 HF2 HF3
    go_wp2_with fail
    refine (HO.out _).mono ?_
    rintro e w2 ⟨rfl, rfl⟩
    cases OB
    · have hF := HF3'.out rfl
      subst hF
      obtain ⟨hd0, hd1⟩ := HOb.out rfl
      clear HF2' HF3' HOb hd
      have HCx := Lib.hid (HCl.out _ HB1.out)
      clear HCl
      go_wp2_with fail
      refine HCx.out.mono ?_
      rintro e w2 ⟨v2, rfl, hO, hb⟩
      have HB2 := Lib.hid (HB1.out.trans (hb.mono HB1.out.size))
      have HO2 := Lib.hid (hO.weak HB1.out.size)
      clear hO hb HCx HB1
      obtain ⟨a2, c2, hv2, -⟩ := HO2.out.form
      subst hv2
      rw [Hn.out] at HO2 ⊢
      go_wp2_with fail
      go_loopw [20] (fun i wr => ∃ k : Nat, k ≤ n ∧ i = .int .i64 (k : Int) ∧ Hid (OwnK layRb wr w.heap.size (.slice a2 n c2) (thinM d L k)) ∧ Hid (Below w.heap.size w wr)) (fun i _ => n - (intOf i).toNat)
      case atStart => exact ⟨0, Nat.zero_le _, rfl, Lib.hid (by rw [thinM_zero]; exact HO2.out), HB2⟩
      case round =>
        clear HO2 HB2
        obtain ⟨k, hk, rfl, HO, HB⟩ := hrel
        by_cases hlt : k < n
        · obtain ⟨x, hx⟩ : ∃ x, L[k]? = some x := ⟨_, List.getElem?_eq_getElem (by rw [Hn.out]; exact hlt)⟩
          have hmx := thinM_get (d := d) hx
          have hml := thinM_len d L k
          rw [Hn.out] at hml
          have HSet := Lib.hid (thinM_set (d := d) hx)
          have HSame := Lib.hid fun h => thinM_same (d := d) hx h
          have Hml := Lib.hid hml
          obtain ⟨M2, hM2⟩ : ∃ q, thinM d L (k + 1) = q := ⟨_, rfl⟩
          have HM2 := Lib.hid hM2
          rw [hM2] at HSet HSame
          clear hM2
          generalize thinM d L k = M at *
          obtain ⟨g, c', hv, hg2, hglt, -⟩ := HO.out.one (by rw [Hml.out]; omega)
          injection hv with hv q1 q2
          subst hv
          clear q1 q2 hml hx
          have Hmx := Lib.hid hmx
          have HRx : Hid (wr.rangeAt g (k * 14) (layRb.enc x)) := Lib.hid (HO.out.cellsAt hmx)
          have HX1 : Hid ((layRb.enc x).toArray.size = 14) := Lib.hid (by rw [List.size_toArray, layRb.len]; rfl)
          have HX2 : Hid ((layRb.enc x).toArray.all (·.oneCell') = true) := Lib.hid (all_oneCell_toArray (layRb.one x))
          obtain ⟨XC, hXC⟩ : ∃ X, (layRb.enc x).toArray = X := ⟨_, rfl⟩
          have hXL : layRb.enc x = XC.toList := by rw [← hXC]
          have HXC := Lib.hid hXC
          rw [hXL] at HRx
          rw [hXC] at HX1 HX2
          clear hXC hXL hmx
          have HP : Hid (Blk (wr.alloc (.cells XC 45 (0, 0))) wr.heap.size 45 XC) := Lib.hid (Blk.new wr _ _)
          have HO3 := Lib.hid (HO.out.alloc (.cells XC 45 (0, 0)))
          have HB3 : Hid (Below w.heap.size w (wr.alloc (.cells XC 45 (0, 0)))) := Lib.hid (Below.alloc HB.out HB.out.size _)
          have ed : wrap64 (d * 24) = 24 * d := by unfold wrap64; omega
          have ed2 : IntKind.i64.wrap (d * 24) = 24 * d := by rw [IntKind.wrap_i64]; omega
          clear HO HB
          go_upto_region 10 with (first | (refine wpList_loadn rfl 45 _ rfl g (k * 14) rfl _ _ HRx.out under_rb rfl 14 size_rb (by simpa using HX1.out) ?_; go_simp) | (refine wpList_var3R XC 45 Tryz.zeroValue45 rfl rfl rfl _ rfl rfl _ _ rfl _ rfl _ rfl ?_ ?_ 14 size_rb HX1.out ?_ HX2.out ?_; all_goals (try rfl); try go_simp))
          generalize wr.alloc (.cells XC 45 (0, 0)) = w3 at *
          generalize wr.heap.size = bx at *
          have x1 : w3.cell? ⟨bx, 1, none⟩ = some (.int .i64 x.1.hour) := by rw [HP.out.cell 1, ← HXC.out]; rfl
          by_cases ho : x.1.hour < 24 * d
          · have hold : isOld d x = true := decide_eq_true ho
            have hth : thinR d x = oldR x := if_pos hold
            rw [hth] at HSet
            have o1 : w3.cell? ⟨g, k * 14 + 1, none⟩ = some (.int .i64 x.1.hour) := HO3.out.get (j := 1) Hmx.out rfl
            have l1 := Later.cell_of o1
            have l2 := Later.cell_of x1
            go_upto_region 11 with fail
            refine wp_region_later_tail 11 (by kernel_rfl) (by kernel_rfl) ?_
            simp only [List.take_succ_cons, List.take_zero, List.drop_succ_cons, List.drop_zero]
            repeat (go_big_quiet_step (fail))
            have hbd := thin_bd x.2.2.1 x.2.2.2.1
            have et : wrap64 (x.1.hour - x.1.hour.tmod 24) = x.1.hour - x.1.hour.tmod 24 := by unfold wrap64; omega
            have Hbd := Lib.hid hbd
            rw [et]
            refine wpQuiet_nil ?_
            rintro w4 ⟨m4, hm4⟩
            have hb4 : Below w3.heap.size w3 w4 := by rw [hm4]; exact m4.2
            have o1' : w4.cell? ⟨g, k * 14 + 1, none⟩ = some (.int .i64 x.1.hour) := by rw [hm4]; exact l1 m4
            clear hm4 m4 l1 l2 o1 x1 et hbd
            have HB4 : Hid (Below w.heap.size w w4) := Lib.hid (HB3.out.trans (hb4.mono HB3.out.size))
            have HO4 := Lib.hid (HO3.out.later hb4)
            clear hb4 HB3 HO3 HP
            have of := HO4.out.frozen
            obtain ⟨h', hh'⟩ : ∃ q, x.1.hour - x.1.hour.tmod 24 = q := ⟨_, rfl⟩
            rw [hh'] at Hbd ⊢
            have HH := Lib.hid hh'
            clear hh'
            have hk' : k < M.length := by rw [Hml.out]; exact hlt
            have HE4 : Hid (OwnK layRb (w4.setCell ⟨g, k * 14 + 1, none⟩ (.int .i64 h')) w.heap.size (.slice (some ⟨g, 0, none⟩) n c2) (M.set k ⟨{ x.1 with hour := h' }, x.2.1, Hbd.out.1, Hbd.out.2, x.2.2.2.2⟩)) := Lib.hid (HO4.out.setTo (j := 1) (v := .int .i64 h') (y := ⟨{ x.1 with hour := h' }, x.2.1, Hbd.out.1, Hbd.out.2, x.2.2.2.2⟩) Hmx.out (by decide) rfl)
            have HB5 : Hid (Below w.heap.size w (w4.setCell ⟨g, k * 14 + 1, none⟩ (.int .i64 h'))) := Lib.hid (HB4.out.grown (grown_setCells g [.int .i64 h'] (k * 14 + 1) w4) HB4.out.size (fun k hk => by injection hk with hk; omega))
            go_upto_region 12 with fail
            clear HB4 HO4 o1' of
            generalize w4.setCell ⟨g, k * 14 + 1, none⟩ (.int .i64 h') = w5 at *
            have Hm1 : Hid ((M.set k (⟨{ x.1 with hour := h' }, x.2.1, Hbd.out.1, Hbd.out.2, x.2.2.2.2⟩ : RB))[k]? = some ⟨{ x.1 with hour := h' }, x.2.1, Hbd.out.1, Hbd.out.2, x.2.2.2.2⟩) := Lib.hid (List.getElem?_set_self hk')
            have o10 : w5.cell? ⟨g, k * 14 + 10, none⟩ = some (.int .i64 x.1.f.fp) := HE4.out.get (j := 10) Hm1.out rfl
            have of5 := HE4.out.frozen
            have hfo : FV.ok { x.1.f with fp := 0 } := ⟨x.2.1.1, x.2.1.2.1, x.2.1.2.2.1, x.2.1.2.2.2.1, x.2.1.2.2.2.2.1, by show I41 0; unfold I41; omega, x.2.1.2.2.2.2.2.2⟩
            have HE5a := HE4.out.setTo (j := 10) (v := .int .i64 0) (y := ⟨{ x.1 with hour := h', f := { x.1.f with fp := 0 } }, hfo, Hbd.out.1, Hbd.out.2, x.2.2.2.2⟩) Hm1.out (by decide) rfl
            have HE5 : Hid (OwnK layRb (w5.setCell ⟨g, k * 14 + 10, none⟩ (.int .i64 0)) w.heap.size (.slice (some ⟨g, 0, none⟩) n c2) (M.set k ⟨{ x.1 with hour := h', f := { x.1.f with fp := 0 } }, hfo, Hbd.out.1, Hbd.out.2, x.2.2.2.2⟩)) := Lib.hid (Eq.mp (congrArg (OwnK layRb _ _ _) (List.set_set _)) HE5a)
            have Hm2 : Hid ((M.set k (⟨{ x.1 with hour := h', f := { x.1.f with fp := 0 } }, hfo, Hbd.out.1, Hbd.out.2, x.2.2.2.2⟩ : RB))[k]? = some ⟨{ x.1 with hour := h', f := { x.1.f with fp := 0 } }, hfo, Hbd.out.1, Hbd.out.2, x.2.2.2.2⟩) := Lib.hid (List.getElem?_set_self hk')
            have o11 : (w5.setCell ⟨g, k * 14 + 10, none⟩ (.int .i64 0)).cell? ⟨g, k * 14 + 11, none⟩ = some (.int .i64 x.1.f.tp) := HE5.out.get (j := 11) Hm2.out rfl
            have of6 := HE5.out.frozen
            have HE6a := HE5.out.setTo (j := 11) (v := .int .i64 0) (y := oldR x) Hm2.out (by decide) (by have q := HH.out; subst q; rfl)
            have HE6 : Hid (OwnK layRb ((w5.setCell ⟨g, k * 14 + 10, none⟩ (.int .i64 0)).setCell ⟨g, k * 14 + 11, none⟩ (.int .i64 0)) w.heap.size (.slice (some ⟨g, 0, none⟩) n c2) (thinM d L (k + 1))) := Lib.hid (by
              rw [HM2.out, ← HSet.out]
              exact Eq.mp (congrArg (OwnK layRb _ _ _) (List.set_set _)) HE6a)
            have HB6 : Hid (Below w.heap.size w ((w5.setCell ⟨g, k * 14 + 10, none⟩ (.int .i64 0)).setCell ⟨g, k * 14 + 11, none⟩ (.int .i64 0))) := Lib.hid ((HB5.out.grown (grown_setCells g [.int .i64 0] (k * 14 + 10) w5) HB5.out.size (fun k hk => by injection hk with hk; omega)).grown (grown_setCells g [.int .i64 0] (k * 14 + 11) _) (by have := HB5.out.size; simp; omega) (fun k hk => by injection hk with hk; omega))
            clear HE4 HE5 HE5a HE6a HB5
            go_wp2_with fail
            exact ⟨⟨k + 1, by omega, by go_num, HE6, HB6⟩, by simp [intOf]; omega⟩
          · have hold : isOld d x = false := decide_eq_false ho
            have hM := HSame.out (if_neg (by simp [hold]))
            have ho2 : (x.1.hour < 24 * d) = False := eq_false ho
            have HE : Hid (OwnK layRb w3 w.heap.size (.slice (some ⟨g, 0, none⟩) n c2) (thinM d L (k + 1))) := Lib.hid (by rw [HM2.out, hM]; exact HO3.out)
            go_wp2_with fail
            exact ⟨⟨k + 1, by omega, by go_num, HE, HB3⟩, by simp [intOf]; omega⟩
        · obtain rfl : k = n := by omega
          have hM := thinM_all d L k Hn.out
          rw [hM] at HO
          have HT := Lib.hid (together_any a2 k c2 (L.map (thinR d)) wr HO.out.rd (by rw [List.length_map]; exact Hn.out) hs)
          go_wp2_with fail
          refine HT.out.mono ?_
          rintro e w5 ⟨v5, rfl, hO, hb⟩
          have HE1 := Lib.hid (hO.weak HB.out.size)
          have HE2 := Lib.hid (HB.out.trans (hb.mono HB.out.size))
          clear hO hb HT
          go_wp2_with fail
          go_ret2
          exact ⟨_, rfl, HE1.out, HE2.out⟩
    · have hF := HF2'.out rfl
      subst hF
      clear HF2' HF3' HOb
      go_wp2_with fail
      go_ret2
      exact ⟨_, rfl, OwnK.nil _ _ _, HB1.out⟩
  · have hF := HF1.out hR
    subst hF
    have hne : (F != 0) = true := by simpa using hR
    clear HF1 HF2 HF3 HOb
    go_wp2_with fail
    go_ret2
    exact ⟨_, rfl, OwnK.nil _ _ _, HB1.out⟩
end Go.Proofs.YtippolfmljfleaaGreatDoor
