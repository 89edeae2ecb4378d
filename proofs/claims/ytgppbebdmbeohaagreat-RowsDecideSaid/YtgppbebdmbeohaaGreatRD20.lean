/-
  filter.Decides.
-/
import Derived.Test.YtgppbebdmbeohaaGreatRD14
import Derived.Test.YtgppbebdmbeohaaGreatRD19
set_option linter.unusedVariables false
namespace Go.Proofs.YtgppbebdmbeohaaGreat
open Go.RowKit Go
set_option linter.unusedVariables false

def flX (f : FV) : Nat := numA f.s1 f.h1.toNat f.l1.toNat
def flY (f : FV) : Nat := numA f.s2 f.h2.toNat f.l2.toNat
/-- whether rows let a flow in -/
def decV (L : List FR) (f : FV) : Bool := decB L f.p (flX f) (flY f) f.tp
theorem aOK_of {s : Bool} {h l : Int} (hh : U64 h) (hl : U64 l) (h0 : aFault s h l = 0) : AOK s h.toNat l.toNat := by
  obtain ⟨a1, a2⟩ := hh
  obtain ⟨b1, b2⟩ := hl
  refine ⟨by omega, by omega, fun hs => ?_⟩
  subst hs
  unfold aFault at h0
  simp at h0
  constructor <;> omega
theorem flow_num {f : FV} (h : flowFault f = 0) (ok : f.ok) : VN (flX f) ∧ VN (flY f) ∧ f.cells = flC f.p (flX f) (flY f) f.fp f.tp := by
  obtain ⟨_, b1, b2, b3, b4, _⟩ := ok
  unfold flowFault at h
  by_cases h1 : outB f.p 1 255 = true
  · rw [if_pos h1] at h; exact absurd h (by decide)
  rw [if_neg h1] at h
  by_cases h2 : aFault f.s1 f.h1 f.l1 = 0
  · rw [if_neg (by simp [h2])] at h
    by_cases h3 : aFault f.s2 f.h2 f.l2 = 0
    · obtain ⟨c1, c2, c3, c4⟩ := aN_num (aOK_of b1 b2 h2)
      obtain ⟨d1, d2, d3, d4⟩ := aN_num (aOK_of b3 b4 h3)
      have e1 : ((f.h1.toNat : Nat) : Int) = f.h1 := Int.toNat_of_nonneg b1.1
      have e2 : ((f.l1.toNat : Nat) : Int) = f.l1 := Int.toNat_of_nonneg b2.1
      have e3 : ((f.h2.toNat : Nat) : Int) = f.h2 := Int.toNat_of_nonneg b3.1
      have e4 : ((f.l2.toNat : Nat) : Int) = f.l2 := Int.toNat_of_nonneg b4.1
      refine ⟨c1, d1, ?_⟩
      unfold FV.cells flC flX flY
      rw [c2, c3, c4, d2, d3, d4, e1, e2, e3, e4]
    · rw [if_pos h3] at h; exact absurd h h3
  · rw [if_pos h2] at h; exact absurd h h2
theorem setF_okR {L : List Pf} (h : setF L = 0) (hu : U4 L) : (∀ p ∈ L, OkPf p) ∧ L.length ≤ 1000 := by
  unfold setF at h
  by_cases h1 : 1000 < L.length
  · rw [if_pos h1] at h; cases h
  · rw [if_neg h1] at h
    by_cases h2 : scanF L ≠ 0
    · rw [if_pos h2] at h; exact absurd h h2
    · have h2 : scanF L = 0 := by simpa using h2
      refine ⟨fun p hp => ?_, by omega⟩
      obtain ⟨i, hi, rfl⟩ := List.getElem_of_mem hp
      have := fAt_zero (firstN_zero h2 i hi)
      simp only [List.getD, List.getElem?_eq_getElem hi, Option.getD_some] at this
      obtain ⟨u1, u2⟩ := hu _ (List.getElem_mem hi)
      exact okPf_of this u1 u2
theorem rowF_ok {r : FR} (h : rowF r = 0) (hu : r.Un) : r.Ok ∧ (r.src.length ≤ 1000 ∧ r.dst.length ≤ 1000 ∧ r.po.length ≤ 1000) := by
  unfold rowF at h
  by_cases h1 : outB r.p 0 255 = true
  · rw [if_pos h1] at h; exact absurd h (by decide)
  rw [if_neg h1] at h
  by_cases h2 : setF r.src ≠ 0
  · rw [if_pos h2] at h; exact absurd h h2
  rw [if_neg h2] at h
  by_cases h3 : setF r.dst ≠ 0
  · rw [if_pos h3] at h; exact absurd h h3
  have k2 := setF_okR (by simpa using h2) hu.u1
  have k3 := setF_okR (by simpa using h3) hu.u2
  exact ⟨⟨k2.1, k3.1⟩, k2.2, k3.2, hu.l3⟩
theorem rowsF1_zero : ∀ {L : List FR}, rowsF1 L = 0 → ∀ r ∈ L, rowF r = 0
  | [], _, r, h => by simp at h
  | a :: L, h, r, hr => by
    unfold rowsF1 at h
    by_cases ha : rowF a ≠ 0
    · rw [if_pos ha] at h; exact absurd h ha
    · rw [if_neg ha] at h
      rcases List.mem_cons.1 hr with rfl | hr
      · simpa using ha
      · exact rowsF1_zero h r hr
theorem rowsF_zero {L : List FR} (h : rowsF L = 0) : L.length ≤ 300 ∧ ∀ r ∈ L, rowF r = 0 := by
  unfold rowsF at h
  by_cases h1 : 300 < L.length
  · rw [if_pos h1] at h; exact absurd h (by decide)
  · rw [if_neg h1] at h
    exact ⟨by omega, rowsF1_zero h⟩
theorem rowsF_ok {L : List FR} (h : rowsF L = 0) (hu : ∀ r ∈ L, r.Un) : L.length ≤ 300 ∧ (∀ r ∈ L, r.Ok) ∧ ∀ r ∈ L, r.src.length ≤ 1000 ∧ r.dst.length ≤ 1000 ∧ r.po.length ≤ 1000 :=
  ⟨(rowsF_zero h).1, fun r hr => (rowF_ok ((rowsF_zero h).2 r hr) (hu r hr)).1, fun r hr => (rowF_ok ((rowsF_zero h).2 r hr) (hu r hr)).2⟩
/-- what the last region of Decides has yielded -/
def dcR (t0 : Value) (n : Nat) (L : List FR) (fc : Array Value) (D : Bool) : Nat → Value → World → Prop
  | 0, v, _ => v = t0
  | 1, v, w => ∃ ad c, v = .slice ad n c ∧ FwsAt w ad L
  | 2, v, _ => v = .agg fc
  | _, v, _ => v = .bool D
theorem dcR_keep {t0 : Value} {n : Nat} {L : List FR} {fc : Array Value} {D : Bool} (p : Nat) (v : Value) (u w : World) (h : dcR t0 n L fc D p v u) (hb : Below u.heap.size u w) : dcR t0 n L fc D p v w := by
  rcases p with _ | _ | _ | p
  all_goals first
    | exact h
    | (obtain ⟨ad, c, h1, h2⟩ := h; exact ⟨ad, c, h1, h2.below hb⟩)
set_option maxRecDepth 100000 in
set_option maxHeartbeats 4000000 in
theorem fDecides_any (ad : Option Addr) (n c : Nat) (L : List FR) (f : FV) (w : World) (h : FlsAt w ad L) (hn : L.length = n) (hs : n ≤ 100000) (hu : ∀ r ∈ L, r.Un) (hf : f.ok) :
    Calls Tryz.prog 9 #[.slice ad n c, .agg f.cells] w (Ret (.tuple #[.bool (decide (rowsF L = 0) && decide (flowFault f = 0) && decV L f), .int .i64 (if rowsF L ≠ 0 then rowsF L else flowFault f)]) w) := by
  have H1 := Lib.hid fun wx (hb : Below w.heap.size w wx) => fCheck_any ad n c L wx (h.below hb) hn hs hu
  have H2 := Lib.hid fun wx => vFlowFault_any f wx hf
  have H3 : Hid (rowsF L = 0 → ∀ wx, Below w.heap.size w wx → Calls Tryz.prog 48 #[.slice ad n c] wx fun e w' => ∃ v, e = .returned v ∧ FwO w' wx.heap.size v L ∧ Below wx.heap.size wx w') := Lib.hid fun h0 wx hb => by
    obtain ⟨k1, k2, k3⟩ := rowsF_ok h0 hu
    exact rowsOf_any ad n c L wx (h.below hb) hn (by omega) k2 k3
  have H4 : Hid (rowsF L = 0 → flowFault f = 0 → ∀ wx ad2 c2, FwsAt wx ad2 L → Calls Tryz.prog 47 #[.slice ad2 n c2, .agg f.cells] wx (Ret (.bool (decV L f)) wx)) := Lib.hid fun h0 h1 wx ad2 c2 hr => by
    obtain ⟨k1, k2, k3⟩ := rowsF_ok h0 hu
    obtain ⟨g1, g2, g3⟩ := flow_num h1 hf
    rw [g3]
    exact flets_any ad2 n c2 L f.p (flX f) (flY f) f.fp f.tp wx hr hn (by omega) k2 g1 g2
  have Hn := Lib.hid hn
  clear h hn hs hu hf
  generalize rowsF L = RL at *
  generalize flowFault f = FF at *
  generalize decV L f = D at *
  obtain ⟨EB, hEB⟩ : ∃ b, (decide (RL = 0) && decide (FF = 0) && D) = b := ⟨_, rfl⟩
  obtain ⟨EV, hEV⟩ : ∃ v, (if RL ≠ 0 then RL else FF) = v := ⟨_, rfl⟩
  have HV1 : Hid (RL ≠ 0 → EB = false ∧ EV = RL) := Lib.hid fun h => ⟨by rw [← hEB]; simp [h], by rw [← hEV, if_pos h]⟩
  have HV2 : Hid (RL = 0 → FF ≠ 0 → EB = false ∧ EV = FF) := Lib.hid fun h h2 => ⟨by rw [← hEB]; simp [h, h2], by rw [← hEV, if_neg (by simp [h])]⟩
  have HV3 : Hid (RL = 0 → FF = 0 → EB = D ∧ EV = 0) := Lib.hid fun h h2 => ⟨by rw [← hEB]; simp [h, h2], by rw [← hEV, if_neg (by simp [h]), h2]⟩
  rw [hEB, hEV]
  clear hEB hEV
  have HE : Hid (f.cells = #[.int .i64 f.p, .bool f.s1, .int .u64 f.h1, .int .u64 f.l1, .bool f.s2, .int .u64 f.h2, .int .u64 f.l2, .int .i64 f.fp, .int .i64 f.tp]) := Lib.hid rfl
  rw [HE.out] at H2 H4 ⊢
  obtain ⟨p, s1, h1, l1, s2, h2, l2, fp, tp⟩ := f
  simp only at H2 H4 HE ⊢
  clear HE
  have HP : Hid (Blk (w.alloc (.cells #[.int .i64 p, .bool s1, .int .u64 h1, .int .u64 l1, .bool s2, .int .u64 h2, .int .u64 l2, .int .i64 fp, .int .i64 tp] 34 (0, 0))) w.heap.size 34 #[.int .i64 p, .bool s1, .int .u64 h1, .int .u64 l1, .bool s2, .int .u64 h2, .int .u64 l2, .int .i64 fp, .int .i64 tp]) := Lib.hid (Blk.new w _ _)
  have HB : Hid (Below w.heap.size w (w.alloc (.cells #[.int .i64 p, .bool s1, .int .u64 h1, .int .u64 l1, .bool s2, .int .u64 h2, .int .u64 l2, .int .i64 fp, .int .i64 tp] 34 (0, 0)))) := Lib.hid (below_alloc (Below.refl _ _) _)
  go_enter Tryz.func9, Tryz.ntmps9
  go_upto_region 1 with fail
  generalize w.alloc (.cells #[.int .i64 p, .bool s1, .int .u64 h1, .int .u64 l1, .bool s2, .int .u64 h2, .int .u64 l2, .int .i64 fp, .int .i64 tp] 34 (0, 0)) = w1 at *
  generalize hbx : w.heap.size = bx at HP ⊢
  clear hbx
  go_wp2_with fail
  refine (H1.out _ HB.out).mono ?_
  rintro e w2 ⟨rfl, hb⟩
  have HB2 := Lib.hid (HB.out.trans (hb.mono HB.out.size))
  have HP2 := Lib.hid (HP.out.below hb HP.out.lt)
  clear hb HB HP H1
  by_cases hF : RL = 0
  case neg =>
    have hF2 : (RL != 0) = true := by simpa using hF
    obtain ⟨rfl, rfl⟩ := HV1.out hF
    clear hF H3 H4 HV1 HV2 HV3
    go_wp2_with fail
    go_ret2
    exact ⟨rfl, HB2.out⟩
  replace H3 := Lib.hid (H3.out hF)
  replace H4 := Lib.hid (H4.out hF)
  replace HV2 := Lib.hid (HV2.out hF)
  replace HV3 := Lib.hid (HV3.out hF)
  clear HV1
  subst hF
  have d0 := HP2.out.cell 0
  have d1 := HP2.out.cell 1
  have d2 := HP2.out.cell 2
  have d3 := HP2.out.cell 3
  have d4 := HP2.out.cell 4
  have d5 := HP2.out.cell 5
  have d6 := HP2.out.cell 6
  have d7 := HP2.out.cell 7
  have d8 := HP2.out.cell 8
  simp at d0 d1 d2 d3 d4 d5 d6 d7 d8
  go_wp2_with fail
  refine (H2.out _).mono ?_
  rintro e w3 ⟨rfl, hb⟩
  have HB3 := Lib.hid (HB2.out.trans (hb.mono HB2.out.size))
  have HP3 := Lib.hid (HP2.out.below hb HP2.out.lt)
  clear hb HB2 HP2 H2 d0 d1 d2 d3 d4 d5 d6 d7 d8
  by_cases hF : FF = 0
  case neg =>
    have hF2 : (FF != 0) = true := by simpa using hF
    obtain ⟨rfl, rfl⟩ := HV2.out hF
    clear hF H3 H4 HV2 HV3
    go_wp2_with fail
    go_ret2
    exact ⟨rfl, HB3.out⟩
  replace H4 := Lib.hid (H4.out hF)
  obtain ⟨rfl, rfl⟩ := HV3.out hF
  clear HV2 HV3
  subst hF
  go_upto_region 7 with fail
  have d0 := HP3.out.cell 0
  have d1 := HP3.out.cell 1
  have d2 := HP3.out.cell 2
  have d3 := HP3.out.cell 3
  have d4 := HP3.out.cell 4
  have d5 := HP3.out.cell 5
  have d6 := HP3.out.cell 6
  have d7 := HP3.out.cell 7
  have d8 := HP3.out.cell 8
  simp at d0 d1 d2 d3 d4 d5 d6 d7 d8
  have m0 := Later.cell_of d0
  have m1 := Later.cell_of d1
  have m2 := Later.cell_of d2
  have m3 := Later.cell_of d3
  have m4 := Later.cell_of d4
  have m5 := Later.cell_of d5
  have m6 := Later.cell_of d6
  have m7 := Later.cell_of d7
  have m8 := Later.cell_of d8
  clear d0 d1 d2 d3 d4 d5 d6 d7 d8
  refine wp_region_inv 4 0 (dcR (.slice ad n c) n L #[.int .i64 p, .bool s1, .int .u64 h1, .int .u64 l1, .bool s2, .int .u64 h2, .int .u64 l2, .int .i64 fp, .int .i64 tp] EB) (fun _ wx => Below w3.heap.size w3 wx) (fun u v => Below u.heap.size u v) (fun _ => 0)
    (by kernel_rfl) (by kernel_rfl) (by decide) dcR_keep (below_drew (Below.refl _ _)) ?hX
  case' hX => (apply Exists.intro; refine ⟨fun T => ?hA, ?hob, ?hend⟩)
  case hA =>
    simp only [setAll, List.take_succ_cons, List.take_zero, Act.put, List.setIfInBounds_toArray, List.set_cons_succ, List.set_cons_zero, Nat.reduceAdd]
    exact rfl
  case hob =>
    go_light
    refine ⟨?_, ?_, ?_, ?_, trivial⟩
    all_goals (intro T wx n0 hC hn hp; dsimp only at hn ⊢; unfold Op1)
    · go_simp
      exact ⟨rfl, Below.refl _ _⟩
    · obtain ⟨h0, -⟩ := hp
      have h0 : T 0 = .slice ad n c := h0
      go_simp
      refine (H3.out wx (HB3.out.trans (hC.mono HB3.out.size))).mono ?_
      rintro e w5 ⟨v, rfl, hO, hb⟩
      obtain ⟨a5, c5, rfl, _⟩ := hO.form
      rw [Hn.out] at hO ⊢
      exact ⟨_, rfl, ⟨_, _, rfl, hO.at⟩, hC.trans (hb.mono hC.size), hb⟩
    · have e0 := m0 ⟨wx, hC⟩
      have e1 := m1 ⟨wx, hC⟩
      have e2 := m2 ⟨wx, hC⟩
      have e3 := m3 ⟨wx, hC⟩
      have e4 := m4 ⟨wx, hC⟩
      have e5 := m5 ⟨wx, hC⟩
      have e6 := m6 ⟨wx, hC⟩
      have e7 := m7 ⟨wx, hC⟩
      have e8 := m8 ⟨wx, hC⟩
      simp only at e0 e1 e2 e3 e4 e5 e6 e7 e8
      go_simp
      exact ⟨rfl, Below.refl _ _⟩
    · obtain ⟨h0, h1', -⟩ := hp
      obtain ⟨a1, x1, h0, q1⟩ : ∃ ad c, T 1 = .slice ad n c ∧ FwsAt wx ad L := h0
      have h1' : T 2 = .agg #[.int .i64 p, .bool s1, .int .u64 h1, .int .u64 l1, .bool s2, .int .u64 h2, .int .u64 l2, .int .i64 fp, .int .i64 tp] := h1'
      go_simp
      refine (H4.out wx a1 x1 q1).mono ?_
      rintro e w5 ⟨rfl, hb⟩
      exact ⟨_, rfl, rfl, hC.trans (hb.mono hC.size), hb⟩
  case hend =>
    intro T w4 ⟨n0, hn0, hb⟩ hR
    have hT3 : T 3 = .bool EB := hR 3 (by omega)
    have HB4 := Lib.hid (HB3.out.trans (hb.mono HB3.out.size))
    clear hR hb HB3 HP3 m0 m1 m2 m3 m4 m5 m6 m7 m8
    go_wp2
    go_ret2
    exact ⟨rfl, HB4.out⟩
end Go.Proofs.YtgppbebdmbeohaaGreat
