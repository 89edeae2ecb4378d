/-
  Prefixes of the reference: sign, cmp, LastOf, Holds, Within, CommonOf.
-/
import Derived.Test.YtaamonhhclffcaaDoorPB3
namespace Go.Proofs.YtaamonhhclffcaaDoor
open Go.RowKit Go
set_option linter.unusedVariables false

def sgn (x : Int) : Int := if x < 0 then -1 else if x > 0 then 1 else 0
theorem sign_any (x : Int) (w : World) : Calls Tryd.prog 74 #[.int .i64 x] w (Ret (.int .i64 (sgn x)) w) := by
  by_cases h1 : x < 0
  · have e : sgn x = -1 := if_pos h1
    rw [e]
    go_enter Tryd.func74, Tryd.ntmps74
    go_wp2
    go_ret
    exact ⟨rfl, Below.refl _ _⟩
  · by_cases h2 : x > 0
    · have e : sgn x = 1 := by unfold sgn; rw [if_neg h1, if_pos h2]
      rw [e]
      go_enter Tryd.func74, Tryd.ntmps74
      go_wp2
      go_ret
      exact ⟨rfl, Below.refl _ _⟩
    · have e : sgn x = 0 := by unfold sgn; rw [if_neg h1, if_neg h2]
      rw [e]
      go_enter Tryd.func74, Tryd.ntmps74
      go_wp2
      go_ret
      exact ⟨rfl, Below.refl _ _⟩
theorem wv_get9 (six : Bool) (f : Nat → Nat) (d : Nat) (h : d < 9) : (wv six f)[d]? = some (.int .i64 ((dv six f d : Nat) : Int)) := by
  rcases Nat.lt_or_ge d 8 with h8 | h8
  · rw [wv_get _ _ _ h8]; unfold dv; rw [if_pos h8]
  · obtain rfl : d = 8 := by omega
    cases six <;> rfl

set_option maxRecDepth 100000 in
set_option maxHeartbeats 1000000 in
theorem wideCmp_any (s1 s2 : Bool) (f g : Nat → Nat) (w : World) (hf : ∀ d, f d < 65536) (hg : ∀ d, g d < 65536) :
    Calls Tryd.prog 53 #[.agg (wv s1 f), .agg (wv s2 g)] w (Ret (.int .i64 (cN (PW (dv s1 f) 9) (PW (dv s2 g) 9))) w) := by
  have HT : Hid (∀ i, i < 9 → (∀ j, i < j → j < 9 → dv s1 f j = dv s2 g j) → dv s1 f i ≠ dv s2 g i → sgn (((dv s1 f i : Nat) : Int) - ((dv s2 g i : Nat) : Int)) = cN (PW (dv s1 f) 9) (PW (dv s2 g) 9)) := Lib.hid fun i hi hab hne => by
    rw [cmp_top (dv_lt hf) (dv_lt hg) hi hab hne]
    unfold sgn
    by_cases h : dv s1 f i < dv s2 g i
    · rw [if_pos h, if_pos (by omega)]
    · rw [if_neg h, if_neg (by omega), if_pos (by omega)]
  have HS0 : Hid ((∀ j, j < 9 → dv s1 f j = dv s2 g j) → cN (PW (dv s1 f) 9) (PW (dv s2 g) 9) = 0) := Lib.hid cmp_same
  have HF := Lib.hid (dv_lt (six := s1) hf)
  have HH := Lib.hid (dv_lt (six := s2) hg)
  clear hf hg
  generalize cN (PW (dv s1 f) 9) (PW (dv s2 g) 9) = C at *
  have hsz := Tryd.sizeOf71
  have HA' : Blk ((w.alloc (.cells (wv s1 f) 71 (0, 0))).alloc (.cells (wv s2 g) 71 (0, 0))) (w.heap.size) 71 (wv s1 f) := by
    have this := Blk.new w 71 (wv s1 f)
    exact (this.alloc _)
  have HA := Lib.hid HA'
  clear HA'
  have HG' : Blk ((w.alloc (.cells (wv s1 f) 71 (0, 0))).alloc (.cells (wv s2 g) 71 (0, 0))) (w.heap.size + 1) 71 (wv s2 g) := by
    have this := Blk.new (w.alloc (.cells (wv s1 f) 71 (0, 0))) 71 (wv s2 g)
    rw [World.size_alloc] at this
    exact this
  have HG := Lib.hid HG'
  clear HG'
  have HB : Hid (Below w.heap.size w ((w.alloc (.cells (wv s1 f) 71 (0, 0))).alloc (.cells (wv s2 g) 71 (0, 0)))) := Lib.hid (below_alloc (below_alloc (Below.refl _ _) _) _)
  go_enter Tryd.func53, Tryd.ntmps53
  go_upto_region 1 with fail
  generalize ((w.alloc (.cells (wv s1 f) 71 (0, 0))).alloc (.cells (wv s2 g) 71 (0, 0))) = w1 at *
  go_wp2_with fail
  go_loopw [5] (fun i wr => ∃ k : Nat, k ≤ 9 ∧ i = .int .i64 ((k : Int) - 1) ∧ Hid (∀ j, k ≤ j → j < 9 → dv s1 f j = dv s2 g j) ∧ Hid (Blk wr (w.heap.size) 71 (wv s1 f)) ∧ Hid (Blk wr (w.heap.size + 1) 71 (wv s2 g)) ∧ Hid (Below w.heap.size w wr)) (fun i _ => (intOf i + 1).toNat)
  case atStart => exact ⟨9, Nat.le_refl _, rfl, Lib.hid fun j h1 h2 => by omega, HA, HG, HB⟩
  case round =>
    clear HA HG HB
    obtain ⟨k, hk, rfl, HE, HA, HG, HB⟩ := hrel
    by_cases hk0 : k = 0
    · subst hk0
      have hC := HS0.out fun j hj => HE.out j (Nat.zero_le _) hj
      have e0 : (((0 : Nat) : Int) - 1) = -1 := by omega
      rw [e0]
      subst hC
      clear HT HS0 HF HH HE
      go_wp2_with fail
      go_ret
      exact ⟨rfl, HB.out⟩
    · obtain ⟨j, rfl⟩ : ∃ j, k = j + 1 := ⟨k - 1, by omega⟩
      have ej : (((j + 1 : Nat) : Int) - 1) = (j : Int) := by omega
      rw [ej]
      have hj : j < 9 := by omega
      have a := HA.out.cell j
      rw [wv_get9 _ _ _ hj] at a
      have b := HG.out.cell j
      rw [wv_get9 _ _ _ hj] at b
      have hx := HF.out j
      have hy := HH.out j
      have HTj := Lib.hid (HT.out j hj fun i h1 h2 => HE.out i (by omega) h2)
      have HEj : Hid (dv s1 f j = dv s2 g j → ∀ i, j ≤ i → i < 9 → dv s1 f i = dv s2 g i) := Lib.hid fun e i h1 h2 => by
        rcases Nat.eq_or_lt_of_le h1 with h | h
        · subst h; exact e
        · exact HE.out i h h2
      clear HT HS0 HE HF HH
      generalize hxx : dv s1 f j = x at *
      generalize hyy : dv s2 g j = y at *
      have HX := Lib.hid hxx
      have HY := Lib.hid hyy
      clear hxx hyy
      have la := Later.cell_of a
      have lb := Later.cell_of b
      have b1 : (0 : Int) ≤ (j : Int) := by omega
      have b2 : (j : Int) < 9 := by omega
      by_cases hxy : x = y
      · have HE2 := Lib.hid (HEj.out hxy)
        subst hxy
        clear HEj HTj
        go_upto_region 4 with fail
        refine wp_region_later (by kernel_rfl) (by kernel_rfl) ?_
        repeat (go_big_quiet_step (fail))
        refine wpQuiet_nil ?_
        rintro w3 ⟨m2, hm2⟩
        have hb : Below wr.heap.size wr w3 := by rw [hm2]; exact m2.2
        clear hm2 m2 la lb a b
        have HA3 := Lib.hid (HA.out.below hb HA.out.lt)
        have HG3 := Lib.hid (HG.out.below hb HG.out.lt)
        have HB3 := Lib.hid (HB.out.trans (hb.mono HB.out.size))
        clear hb HA HG HB
        go_wp2_with fail
        exact ⟨⟨j, by omega, by go_num, HE2, HA3, HG3, HB3⟩, by simp [intOf]⟩
      · have hC := HTj.out hxy
        have hne : ((x : Int) != (y : Int)) = true := by simp; omega
        have hne2 : ¬ (x : Int) = (y : Int) := by omega
        have HS := Lib.hid fun wx => sign_any ((x : Int) - (y : Int)) wx
        rw [hC] at HS
        clear hC HEj HTj
        go_upto_region 4 with fail
        refine wp_region_later (by kernel_rfl) (by kernel_rfl) ?_
        repeat (go_big_quiet_step (fail))
        refine wpQuiet_nil ?_
        rintro w3 ⟨m2, hm2⟩
        have hb : Below wr.heap.size wr w3 := by rw [hm2]; exact m2.2
        clear hm2 m2 la lb a b
        have HA3 := Lib.hid (HA.out.below hb HA.out.lt)
        have HG3 := Lib.hid (HG.out.below hb HG.out.lt)
        have HB3 := Lib.hid (HB.out.trans (hb.mono HB.out.size))
        clear hb HA HG HB
        have a := HA3.out.cell j
        rw [wv_get9 _ _ _ hj, HX.out] at a
        have b := HG3.out.cell j
        rw [wv_get9 _ _ _ hj, HY.out] at b
        have la := Later.cell_of a
        have lb := Later.cell_of b
        have hS := fun m : Later w3 => Calls.later m (HS.out m.1)
        have e7 : IntKind.i64.wrap ((x : Int) - (y : Int)) = (x : Int) - (y : Int) := by rw [IntKind.wrap_i64]; omega
        have e8 : wrap64 ((x : Int) - (y : Int)) = (x : Int) - (y : Int) := by unfold wrap64; omega
        go_upto_region 5 with fail
        refine wp_region_later (by kernel_rfl) (by kernel_rfl) ?_
        repeat (go_big_quiet_step (fail))
        go_big_quiet_step ((go_at_call 74; exact hS _))
        repeat (go_big_quiet_step (fail))
        refine wpQuiet_nil ?_
        rintro w4 ⟨m2, hm2⟩
        have hb : Below w3.heap.size w3 w4 := by rw [hm2]; exact m2.2
        clear hm2 m2 la lb a b
        have HB4 := Lib.hid (HB3.out.trans (hb.mono HB3.out.size))
        clear hb HA3 HG3 HB3
        go_wp2_with fail
        go_ret
        exact ⟨rfl, HB4.out⟩

set_option maxRecDepth 100000 in
set_option maxHeartbeats 1000000 in
theorem lastOfA_any (six : Bool) (hi lo n : Nat) (w : World) (h1 : U64N hi) (h2 : U64N lo) (hn : n ≤ lenN six) :
    Calls Tryd.prog 33 #[vP six hi lo (n : Int)] w (Ret (vA six (fHi six hi n) (fLo six lo n)) w) := by
  have hln := lenN_le six
  have HF := Lib.hid fun wx => lastOf_any six hi lo n (lenN six - n) wx h1 h2 (by omega) (by omega) (by omega)
  have HW := Lib.hid fun wx => wideAddr_any six (filF hi lo (lenN six - n)) wx (filF_lt hi lo _)
  rw [fil_lo hi lo _ h2, fil_hi hi lo _ h1, ← fHi_fil, ← fLo_fil] at HW
  generalize wv six (filF hi lo (lenN six - n)) = WF at *
  generalize fHi six hi n = mh at *
  generalize fLo six lo n = ml at *
  unfold vA at HW ⊢
  unfold vP
  have HP' : Blk ((w.alloc (.cells #[.bool six, .int .u64 (hi : Int), .int .u64 (lo : Int), .int .i64 (n : Int)] 31 (0, 0))).alloc (.cells #[.bool false, .int .u64 0, .int .u64 0] 29 (0, 0))) (w.heap.size) 31 #[.bool six, .int .u64 (hi : Int), .int .u64 (lo : Int), .int .i64 (n : Int)] := by
    have this := Blk.new w 31 #[.bool six, .int .u64 (hi : Int), .int .u64 (lo : Int), .int .i64 (n : Int)]
    exact (this.alloc _)
  have HP := Lib.hid HP'
  clear HP'
  have HR' : Blk ((w.alloc (.cells #[.bool six, .int .u64 (hi : Int), .int .u64 (lo : Int), .int .i64 (n : Int)] 31 (0, 0))).alloc (.cells #[.bool false, .int .u64 0, .int .u64 0] 29 (0, 0))) (w.heap.size + 1) 29 #[.bool false, .int .u64 0, .int .u64 0] := by
    have this := Blk.new (w.alloc (.cells #[.bool six, .int .u64 (hi : Int), .int .u64 (lo : Int), .int .i64 (n : Int)] 31 (0, 0))) 29 #[.bool false, .int .u64 0, .int .u64 0]
    rw [World.size_alloc] at this
    exact this
  have HR := Lib.hid HR'
  clear HR'
  have HB : Hid (Below w.heap.size w ((w.alloc (.cells #[.bool six, .int .u64 (hi : Int), .int .u64 (lo : Int), .int .i64 (n : Int)] 31 (0, 0))).alloc (.cells #[.bool false, .int .u64 0, .int .u64 0] 29 (0, 0)))) := Lib.hid (below_alloc (below_alloc (Below.refl _ _) _) _)
  go_enter Tryd.func33, Tryd.ntmps33
  go_upto_region 1 with fail
  generalize ((w.alloc (.cells #[.bool six, .int .u64 (hi : Int), .int .u64 (lo : Int), .int .i64 (n : Int)] 31 (0, 0))).alloc (.cells #[.bool false, .int .u64 0, .int .u64 0] 29 (0, 0))) = w1 at *
  have p0 := HP.out.cell 0
  have p1 := HP.out.cell 1
  have p2 := HP.out.cell 2
  have p3 := HP.out.cell 3
  simp at p0 p1 p2 p3
  go_wp2_with fail
  refine (HF.out _).mono ?_
  rintro e w2 ⟨rfl, hb⟩
  have HR2 := Lib.hid (HR.out.below hb HR.out.lt)
  have HB2 := Lib.hid (HB.out.trans (hb.mono HB.out.size))
  clear hb HR HB
  clear p0 p1 p2 p3 HF HP
  go_wp2_with fail
  refine (HW.out _).mono ?_
  rintro e w3 ⟨rfl, hb⟩
  have HR3 := Lib.hid (HR2.out.below hb HR2.out.lt)
  have HB3 := Lib.hid (HB2.out.trans (hb.mono HB2.out.size))
  clear hb HR2 HB2
  have r0 := HR3.out.cell 0
  have r1 := HR3.out.cell 1
  have r2 := HR3.out.cell 2
  have rf := HR3.out.free
  simp at r0 r1 r2
  go_wp2_with fail
  refine bodyPost_ret (v := .agg #[.bool six, .int .u64 (mh : Int), .int .u64 (ml : Int)]) (by simp [results, Tryd.results33, go_sem, r0, r1, r2]) rfl ⟨rfl, ?_⟩
  repeat refine Below.setCell ?_ (by first | (simp; omega) | simp) _
  exact HB3.out

set_option maxRecDepth 100000 in
set_option maxHeartbeats 1000000 in
theorem holds_any (s : Bool) (h l n : Nat) (s2 : Bool) (h2 l2 : Nat) (w : World) (a1 : U64N h) (a2 : U64N l) (a3 : U64N h2) (a4 : U64N l2) (hn : n ≤ lenN s) :
    Calls Tryd.prog 34 #[vP s h l (n : Int), vA s2 h2 l2] w (Ret (.bool (holdsB s h l n s2 h2 l2)) w) := by
  have hln := lenN_le s
  have HO1 := Lib.hid fun wx => of_any s h l wx a1 a2
  have HO2 := Lib.hid fun wx => of_any s2 h2 l2 wx a3 a4
  have HL := Lib.hid fun wx => lastOf_any s h l n (lenN s - n) wx a1 a2 (by omega) (by omega) (by omega)
  have HC1 := Lib.hid fun wx => wideCmp_any s s2 (dg h l) (dg h2 l2) wx (dg_lt _ _) (dg_lt _ _)
  have HC2 := Lib.hid fun wx => wideCmp_any s2 s (dg h2 l2) (filF h l (lenN s - n)) wx (dg_lt _ _) (filF_lt h l _)
  rw [PW_num, PW_num, PS_dg_hi h l a1, PS_dg_lo h l a2, PS_dg_hi h2 l2 a3, PS_dg_lo h2 l2 a4] at HC1
  rw [PW_num, PW_num, PS_dg_hi h2 l2 a3, PS_dg_lo h2 l2 a4, fil_lo h l _ a2, fil_hi h l _ a1, ← fHi_fil, ← fLo_fil] at HC2
  rw [wCells_wv] at HO1 HO2
  have HZ : Hid (holdsB s h l n s2 h2 l2 = (decide (cN (numA s h l) (numA s2 h2 l2) ≤ 0) && decide (cN (numA s2 h2 l2) (numA s (fHi s h n) (fLo s l n)) ≤ 0))) := Lib.hid (by unfold holdsB; simp only [cN_le])
  generalize holdsB s h l n s2 h2 l2 = Z at *
  generalize cN (numA s h l) (numA s2 h2 l2) = c1 at *
  generalize cN (numA s2 h2 l2) (numA s (fHi s h n) (fLo s l n)) = c2 at *
  generalize wv s (dg h l) = X1 at *
  generalize wv s2 (dg h2 l2) = X2 at *
  generalize wv s (filF h l (lenN s - n)) = X3 at *
  unfold vA at HO1 HO2 ⊢
  unfold vP
  have HP' : Blk ((w.alloc (.cells #[.bool s, .int .u64 (h : Int), .int .u64 (l : Int), .int .i64 (n : Int)] 31 (0, 0))).alloc (.cells #[.bool s2, .int .u64 (h2 : Int), .int .u64 (l2 : Int)] 29 (0, 0))) (w.heap.size) 31 #[.bool s, .int .u64 (h : Int), .int .u64 (l : Int), .int .i64 (n : Int)] := by
    have this := Blk.new w 31 #[.bool s, .int .u64 (h : Int), .int .u64 (l : Int), .int .i64 (n : Int)]
    exact (this.alloc _)
  have HP := Lib.hid HP'
  clear HP'
  have HA' : Blk ((w.alloc (.cells #[.bool s, .int .u64 (h : Int), .int .u64 (l : Int), .int .i64 (n : Int)] 31 (0, 0))).alloc (.cells #[.bool s2, .int .u64 (h2 : Int), .int .u64 (l2 : Int)] 29 (0, 0))) (w.heap.size + 1) 29 #[.bool s2, .int .u64 (h2 : Int), .int .u64 (l2 : Int)] := by
    have this := Blk.new (w.alloc (.cells #[.bool s, .int .u64 (h : Int), .int .u64 (l : Int), .int .i64 (n : Int)] 31 (0, 0))) 29 #[.bool s2, .int .u64 (h2 : Int), .int .u64 (l2 : Int)]
    rw [World.size_alloc] at this
    exact this
  have HA := Lib.hid HA'
  clear HA'
  have HB : Hid (Below w.heap.size w ((w.alloc (.cells #[.bool s, .int .u64 (h : Int), .int .u64 (l : Int), .int .i64 (n : Int)] 31 (0, 0))).alloc (.cells #[.bool s2, .int .u64 (h2 : Int), .int .u64 (l2 : Int)] 29 (0, 0)))) := Lib.hid (below_alloc (below_alloc (Below.refl _ _) _) _)
  go_enter Tryd.func34, Tryd.ntmps34
  go_upto_region 1 with fail
  generalize ((w.alloc (.cells #[.bool s, .int .u64 (h : Int), .int .u64 (l : Int), .int .i64 (n : Int)] 31 (0, 0))).alloc (.cells #[.bool s2, .int .u64 (h2 : Int), .int .u64 (l2 : Int)] 29 (0, 0))) = w1 at *
  have p0 := HP.out.cell 0
  have p1 := HP.out.cell 1
  have p2 := HP.out.cell 2
  have p3 := HP.out.cell 3
  simp at p0 p1 p2 p3
  have a0 := HA.out.cell 0
  have a1 := HA.out.cell 1
  have a2 := HA.out.cell 2
  simp at a0 a1 a2
  have l0 := Later.cell_of p0
  have l1 := Later.cell_of p1
  have lx2 := Later.cell_of p2
  have l3 := Later.cell_of p3
  have k0 := Later.cell_of a0
  have k1 := Later.cell_of a1
  have k2 := Later.cell_of a2
  have hO1 := fun m : Later w1 => Calls.later m (HO1.out m.1)
  have hO2 := fun m : Later w1 => Calls.later m (HO2.out m.1)
  have hL := fun m : Later w1 => Calls.later m (HL.out m.1)
  have hC1 := fun m : Later w1 => Calls.later m (HC1.out m.1)
  have hC2 := fun m : Later w1 => Calls.later m (HC2.out m.1)
  by_cases hc : c1 ≤ 0
  · have hd : decide (c1 ≤ 0) = true := decide_eq_true hc
    have hZ := HZ.out
    rw [hd, Bool.true_and] at hZ
    subst hZ
    clear HZ
    refine wp_region_later (by kernel_rfl) (by kernel_rfl) ?_
    repeat (go_big_quiet_step (fail))
    go_big_quiet_step ((go_at_call 42; exact hO1 _))
    repeat (go_big_quiet_step (fail))
    go_big_quiet_step ((go_at_call 42; exact hO2 _))
    go_big_quiet_step ((go_at_call 53; exact hC1 _))
    repeat (go_big_quiet_step (fail))
    go_big_quiet_step ((go_at_call 42; exact hO2 _))
    repeat (go_big_quiet_step (fail))
    go_big_quiet_step ((go_at_call 61; exact hL _))
    go_big_quiet_step ((go_at_call 53; exact hC2 _))
    repeat (go_big_quiet_step (fail))
    refine wpQuiet_nil ?_
    rintro w2 ⟨m2, hm2⟩
    have hb : Below w1.heap.size w1 w2 := by rw [hm2]; exact m2.2
    clear hm2 m2
    go_wp2_with fail
    go_ret
    exact ⟨rfl, HB.out.trans (hb.mono HB.out.size)⟩
  · have hd : decide (c1 ≤ 0) = false := decide_eq_false hc
    have hZ := HZ.out
    rw [hd, Bool.false_and] at hZ
    subst hZ
    clear HZ
    refine wp_region_later (by kernel_rfl) (by kernel_rfl) ?_
    repeat (go_big_quiet_step (fail))
    go_big_quiet_step ((go_at_call 42; exact hO1 _))
    repeat (go_big_quiet_step (fail))
    go_big_quiet_step ((go_at_call 42; exact hO2 _))
    go_big_quiet_step ((go_at_call 53; exact hC1 _))
    repeat (go_big_quiet_step (fail))
    refine wpQuiet_nil ?_
    rintro w2 ⟨m2, hm2⟩
    have hb : Below w1.heap.size w1 w2 := by rw [hm2]; exact m2.2
    clear hm2 m2
    go_wp2_with fail
    go_ret
    exact ⟨rfl, HB.out.trans (hb.mono HB.out.size)⟩

set_option maxRecDepth 100000 in
set_option maxHeartbeats 1000000 in
theorem within_any (s : Bool) (h l n : Nat) (s2 : Bool) (h2 l2 m : Nat) (w : World) (a1 : U64N h) (a2 : U64N l) (a3 : U64N h2) (a4 : U64N l2) (hn : n ≤ lenN s) (hm : m ≤ lenN s2) :
    Calls Tryd.prog 35 #[vP s h l (n : Int), vP s2 h2 l2 (m : Int)] w (Ret (.bool (withinB s h l n s2 h2 l2 m)) w) := by
  have HH1 := Lib.hid fun wx => holds_any s2 h2 l2 m s h l wx a3 a4 a1 a2 hm
  have HL := Lib.hid fun wx => lastOfA_any s h l n wx a1 a2 hn
  have HH2 := Lib.hid fun wx => holds_any s2 h2 l2 m s (fHi s h n) (fLo s l n) wx a3 a4 (fHi_lt s h n a1) (fLo_lt s l n a2) hm
  have HZ : Hid (withinB s h l n s2 h2 l2 m = (holdsB s2 h2 l2 m s h l && holdsB s2 h2 l2 m s (fHi s h n) (fLo s l n))) := Lib.hid rfl
  generalize withinB s h l n s2 h2 l2 m = Z at *
  generalize holdsB s2 h2 l2 m s h l = c1 at *
  generalize holdsB s2 h2 l2 m s (fHi s h n) (fLo s l n) = c2 at *
  generalize fHi s h n = fh at *
  generalize fLo s l n = fl at *
  unfold vA at HH1 HH2 HL
  unfold vP at HH1 HH2 HL ⊢
  have HP' : Blk ((w.alloc (.cells #[.bool s, .int .u64 (h : Int), .int .u64 (l : Int), .int .i64 (n : Int)] 31 (0, 0))).alloc (.cells #[.bool s2, .int .u64 (h2 : Int), .int .u64 (l2 : Int), .int .i64 (m : Int)] 31 (0, 0))) (w.heap.size) 31 #[.bool s, .int .u64 (h : Int), .int .u64 (l : Int), .int .i64 (n : Int)] := by
    have this := Blk.new w 31 #[.bool s, .int .u64 (h : Int), .int .u64 (l : Int), .int .i64 (n : Int)]
    exact (this.alloc _)
  have HP := Lib.hid HP'
  clear HP'
  have HA' : Blk ((w.alloc (.cells #[.bool s, .int .u64 (h : Int), .int .u64 (l : Int), .int .i64 (n : Int)] 31 (0, 0))).alloc (.cells #[.bool s2, .int .u64 (h2 : Int), .int .u64 (l2 : Int), .int .i64 (m : Int)] 31 (0, 0))) (w.heap.size + 1) 31 #[.bool s2, .int .u64 (h2 : Int), .int .u64 (l2 : Int), .int .i64 (m : Int)] := by
    have this := Blk.new (w.alloc (.cells #[.bool s, .int .u64 (h : Int), .int .u64 (l : Int), .int .i64 (n : Int)] 31 (0, 0))) 31 #[.bool s2, .int .u64 (h2 : Int), .int .u64 (l2 : Int), .int .i64 (m : Int)]
    rw [World.size_alloc] at this
    exact this
  have HA := Lib.hid HA'
  clear HA'
  have HB : Hid (Below w.heap.size w ((w.alloc (.cells #[.bool s, .int .u64 (h : Int), .int .u64 (l : Int), .int .i64 (n : Int)] 31 (0, 0))).alloc (.cells #[.bool s2, .int .u64 (h2 : Int), .int .u64 (l2 : Int), .int .i64 (m : Int)] 31 (0, 0)))) := Lib.hid (below_alloc (below_alloc (Below.refl _ _) _) _)
  go_enter Tryd.func35, Tryd.ntmps35
  go_upto_region 1 with fail
  generalize ((w.alloc (.cells #[.bool s, .int .u64 (h : Int), .int .u64 (l : Int), .int .i64 (n : Int)] 31 (0, 0))).alloc (.cells #[.bool s2, .int .u64 (h2 : Int), .int .u64 (l2 : Int), .int .i64 (m : Int)] 31 (0, 0))) = w1 at *
  have p0 := HP.out.cell 0
  have p1 := HP.out.cell 1
  have p2 := HP.out.cell 2
  have p3 := HP.out.cell 3
  simp at p0 p1 p2 p3
  have a0 := HA.out.cell 0
  have a1 := HA.out.cell 1
  have a2 := HA.out.cell 2
  have a3 := HA.out.cell 3
  simp at a0 a1 a2 a3
  have l0 := Later.cell_of p0
  have l1 := Later.cell_of p1
  have lx2 := Later.cell_of p2
  have l3 := Later.cell_of p3
  have k0 := Later.cell_of a0
  have k1 := Later.cell_of a1
  have k2 := Later.cell_of a2
  have k3 := Later.cell_of a3
  have hH1 := fun m : Later w1 => Calls.later m (HH1.out m.1)
  have hH2 := fun m : Later w1 => Calls.later m (HH2.out m.1)
  have hL := fun m : Later w1 => Calls.later m (HL.out m.1)
  cases c1
  · have hZ := HZ.out
    rw [Bool.false_and] at hZ
    subst hZ
    clear HZ
    refine wp_region_later (by kernel_rfl) (by kernel_rfl) ?_
    repeat (go_big_quiet_step (fail))
    go_big_quiet_step ((go_at_call 34; exact hH1 _))
    repeat (go_big_quiet_step (fail))
    refine wpQuiet_nil ?_
    rintro w2 ⟨m2, hm2⟩
    have hb : Below w1.heap.size w1 w2 := by rw [hm2]; exact m2.2
    clear hm2 m2
    go_wp2_with fail
    go_ret
    exact ⟨rfl, HB.out.trans (hb.mono HB.out.size)⟩
  · have hZ := HZ.out
    rw [Bool.true_and] at hZ
    subst hZ
    clear HZ
    refine wp_region_later (by kernel_rfl) (by kernel_rfl) ?_
    repeat (go_big_quiet_step (fail))
    go_big_quiet_step ((go_at_call 34; exact hH1 _))
    repeat (go_big_quiet_step (fail))
    go_big_quiet_step ((go_at_call 33; exact hL _))
    go_big_quiet_step ((go_at_call 34; exact hH2 _))
    repeat (go_big_quiet_step (fail))
    refine wpQuiet_nil ?_
    rintro w2 ⟨m2, hm2⟩
    have hb : Below w1.heap.size w1 w2 := by rw [hm2]; exact m2.2
    clear hm2 m2
    go_wp2_with fail
    go_ret
    exact ⟨rfl, HB.out.trans (hb.mono HB.out.size)⟩

set_option maxRecDepth 100000 in
set_option maxHeartbeats 2000000 in
theorem commonOf_any (six : Bool) (hi lo n h2 l2 m : Nat) (w : World) (hp : POK six hi lo n) (hq : POK six h2 l2 m) :
    Calls Tryd.prog 36 #[vP six hi lo (n : Int), vP six h2 l2 (m : Int)] w (Ret (.agg (comC six hi lo (down (sameN six hi lo h2 l2) (min n m)))) w) := by
  have hln := lenN_le six
  have hn := hp.2.1
  have hm := hq.2.1
  have HM := Lib.hid fun (k : Nat) wx (hk : k ≤ 128) => maskOf_any six hi lo k wx hp.1.1 hp.1.2.1 hk
  have HW := Lib.hid fun (k : Nat) wx (hk : k ≤ lenN six) => within_any six h2 l2 m six (mHi six hi k) (mLo six lo k) k wx hq.1.1 hq.1.2.1 (mask_pok hp.1 hk).1.1 (mask_pok hp.1 hk).1.2.1 hm hk
  have HS := Lib.hid fun (k : Nat) (h1 : k ≤ m) (h3 : k ≤ lenN six) => same_within hp.1 hq h1 h3
  have HE0 : Hid (sameN six hi lo h2 l2 0 = true) := Lib.hid (same_zero hp.1 hq.1)
  obtain ⟨N, hN⟩ : ∃ N, down (sameN six hi lo h2 l2) (min n m) = N := ⟨_, rfl⟩
  rw [hN]
  obtain ⟨R, hR⟩ : ∃ R, comC six hi lo N = R := ⟨_, rfl⟩
  rw [hR]
  have HN := Lib.hid hN
  have HV := Lib.hid hR.symm
  have hmn2 : lenN six ≤ 128 := lenN_le six
  have hmin : ∀ x y : Nat, (if (x : Int) < (y : Int) then (x : Int) else (y : Int)) = ((min x y : Nat) : Int) := fun x y => by split <;> omega
  have hmin2 : min (n : Int) (m : Int) = ((min n m : Nat) : Int) := by omega
  have Hmin := Lib.hid (And.intro (hmin n m) hmin2)
  clear hN hR hp hq hmin hmin2
  unfold vP at HM HW ⊢
  unfold vA at HM
  have HP' : Blk (((w.alloc (.cells #[.bool six, .int .u64 (hi : Int), .int .u64 (lo : Int), .int .i64 (n : Int)] 31 (0, 0))).alloc (.cells #[.bool six, .int .u64 (h2 : Int), .int .u64 (l2 : Int), .int .i64 (m : Int)] 31 (0, 0))).alloc (.cells #[.bool false, .int .u64 0, .int .u64 0, .int .i64 0] 31 (0, 0))) (w.heap.size) 31 #[.bool six, .int .u64 (hi : Int), .int .u64 (lo : Int), .int .i64 (n : Int)] := by
    have this := Blk.new w 31 #[.bool six, .int .u64 (hi : Int), .int .u64 (lo : Int), .int .i64 (n : Int)]
    exact ((this.alloc _).alloc _)
  have HP := Lib.hid HP'
  clear HP'
  have HQ' : Blk (((w.alloc (.cells #[.bool six, .int .u64 (hi : Int), .int .u64 (lo : Int), .int .i64 (n : Int)] 31 (0, 0))).alloc (.cells #[.bool six, .int .u64 (h2 : Int), .int .u64 (l2 : Int), .int .i64 (m : Int)] 31 (0, 0))).alloc (.cells #[.bool false, .int .u64 0, .int .u64 0, .int .i64 0] 31 (0, 0))) (w.heap.size + 1) 31 #[.bool six, .int .u64 (h2 : Int), .int .u64 (l2 : Int), .int .i64 (m : Int)] := by
    have this := Blk.new (w.alloc (.cells #[.bool six, .int .u64 (hi : Int), .int .u64 (lo : Int), .int .i64 (n : Int)] 31 (0, 0))) 31 #[.bool six, .int .u64 (h2 : Int), .int .u64 (l2 : Int), .int .i64 (m : Int)]
    rw [World.size_alloc] at this
    exact (this.alloc _)
  have HQ := Lib.hid HQ'
  clear HQ'
  have HR' : Blk (((w.alloc (.cells #[.bool six, .int .u64 (hi : Int), .int .u64 (lo : Int), .int .i64 (n : Int)] 31 (0, 0))).alloc (.cells #[.bool six, .int .u64 (h2 : Int), .int .u64 (l2 : Int), .int .i64 (m : Int)] 31 (0, 0))).alloc (.cells #[.bool false, .int .u64 0, .int .u64 0, .int .i64 0] 31 (0, 0))) (w.heap.size + 1 + 1) 31 #[.bool false, .int .u64 0, .int .u64 0, .int .i64 0] := by
    have this := Blk.new ((w.alloc (.cells #[.bool six, .int .u64 (hi : Int), .int .u64 (lo : Int), .int .i64 (n : Int)] 31 (0, 0))).alloc (.cells #[.bool six, .int .u64 (h2 : Int), .int .u64 (l2 : Int), .int .i64 (m : Int)] 31 (0, 0))) 31 #[.bool false, .int .u64 0, .int .u64 0, .int .i64 0]
    rw [World.size_alloc, World.size_alloc] at this
    exact this
  have HR := Lib.hid HR'
  clear HR'
  have HB : Hid (Below w.heap.size w (((w.alloc (.cells #[.bool six, .int .u64 (hi : Int), .int .u64 (lo : Int), .int .i64 (n : Int)] 31 (0, 0))).alloc (.cells #[.bool six, .int .u64 (h2 : Int), .int .u64 (l2 : Int), .int .i64 (m : Int)] 31 (0, 0))).alloc (.cells #[.bool false, .int .u64 0, .int .u64 0, .int .i64 0] 31 (0, 0)))) := Lib.hid (below_alloc (below_alloc (below_alloc (Below.refl _ _) _) _) _)
  go_enter Tryd.func36, Tryd.ntmps36
  go_upto_region 1 with fail
  generalize (((w.alloc (.cells #[.bool six, .int .u64 (hi : Int), .int .u64 (lo : Int), .int .i64 (n : Int)] 31 (0, 0))).alloc (.cells #[.bool six, .int .u64 (h2 : Int), .int .u64 (l2 : Int), .int .i64 (m : Int)] 31 (0, 0))).alloc (.cells #[.bool false, .int .u64 0, .int .u64 0, .int .i64 0] 31 (0, 0))) = w1 at *
  have p0 := HP.out.cell 0
  have p1 := HP.out.cell 1
  have p2 := HP.out.cell 2
  have p3 := HP.out.cell 3
  simp at p0 p1 p2 p3
  have q0 := HQ.out.cell 0
  have q1 := HQ.out.cell 1
  have q2 := HQ.out.cell 2
  have q3 := HQ.out.cell 3
  simp at q0 q1 q2 q3
  go_wp2_with fail
  all_goals
    go_loopw [5, 6] (fun i cv wr => ∃ k : Nat, k ≤ min n m ∧ i = .int .i64 (k : Int) ∧ Hid (down (sameN six hi lo h2 l2) k = N) ∧ Hid (Blk wr (w.heap.size) 31 #[.bool six, .int .u64 (hi : Int), .int .u64 (lo : Int), .int .i64 (n : Int)]) ∧ Hid (Blk wr (w.heap.size + 1) 31 #[.bool six, .int .u64 (h2 : Int), .int .u64 (l2 : Int), .int .i64 (m : Int)]) ∧ Hid (Blk wr (w.heap.size + 1 + 1) 31 #[.bool false, .int .u64 0, .int .u64 0, .int .i64 0]) ∧ Hid (Below w.heap.size w wr)) (fun i _ _ => (intOf i).toNat)
    case atStart => exact ⟨min n m, Nat.le_refl _, congrArg _ (by first | rfl | exact Hmin.out.1 | exact Hmin.out.2 | omega), HN, HP, HQ, HR, HB⟩
    case round =>
      clear p0 p1 p2 p3 q0 q1 q2 q3 HP HQ HR HB HN
      obtain ⟨k, hk, rfl, HD, HPk, HQk, HRk, HBk⟩ := hrel
      have p0 := HPk.out.cell 0
      have p1 := HPk.out.cell 1
      have p2 := HPk.out.cell 2
      have p3 := HPk.out.cell 3
      simp at p0 p1 p2 p3
      have HMk := Lib.hid fun wx => HM.out k wx (by omega)
      have HWk := Lib.hid fun wx => HW.out k wx (by omega)
      have HSk := Lib.hid (HS.out k (by omega) (by omega))
      rw [HSk.out] at HWk
      obtain ⟨E, hE⟩ : ∃ E, sameN six hi lo h2 l2 k = E := ⟨_, rfl⟩
      rw [hE] at HWk
      have HE := Lib.hid hE
      obtain ⟨mh, hmh⟩ : ∃ mh, mHi six hi k = mh := ⟨_, rfl⟩
      obtain ⟨ml, hml⟩ : ∃ ml, mLo six lo k = ml := ⟨_, rfl⟩
      rw [hmh, hml] at HMk HWk
      have HH := Lib.hid (And.intro hmh hml)
      clear hmh hml hE HM HW HS HSk
      go_wp2_with fail
      refine (HMk.out _).mono ?_
      rintro e w3 ⟨rfl, hb⟩
      have HP4 := Lib.hid ((HPk.out.below hb HPk.out.lt).alloc (.cells #[.bool six, .int .u64 ((mh : Int) : Int), .int .u64 ((ml : Int) : Int), .int .i64 (k : Int)] 31 (0, 0)))
      have HQ4 := Lib.hid ((HQk.out.below hb HQk.out.lt).alloc (.cells #[.bool six, .int .u64 ((mh : Int) : Int), .int .u64 ((ml : Int) : Int), .int .i64 (k : Int)] 31 (0, 0)))
      have HR4 := Lib.hid ((HRk.out.below hb HRk.out.lt).alloc (.cells #[.bool six, .int .u64 ((mh : Int) : Int), .int .u64 ((ml : Int) : Int), .int .i64 (k : Int)] 31 (0, 0)))
      have HZ4 : Hid (Blk (w3.alloc (.cells #[.bool six, .int .u64 ((mh : Int) : Int), .int .u64 ((ml : Int) : Int), .int .i64 (k : Int)] 31 (0, 0))) w3.heap.size 31 #[.bool six, .int .u64 ((mh : Int) : Int), .int .u64 ((ml : Int) : Int), .int .i64 (k : Int)]) := Lib.hid (Blk.new w3 _ _)
      have hr3 : w.heap.size + 1 + 1 < w3.heap.size := by have := (HRk.out.below hb HRk.out.lt).lt; omega
      have HB4 := Lib.hid (below_alloc (HBk.out.trans (hb.mono HBk.out.size)) (.cells #[.bool six, .int .u64 ((mh : Int) : Int), .int .u64 ((ml : Int) : Int), .int .i64 (k : Int)] 31 (0, 0)))
      clear hb HPk HQk HRk HBk p0 p1 p2 p3 HMk
      go_upto_region 4 with fail
      generalize w3.alloc (.cells #[.bool six, .int .u64 ((mh : Int) : Int), .int .u64 ((ml : Int) : Int), .int .i64 (k : Int)] 31 (0, 0)) = w4 at *
      generalize w3.heap.size = V at *
      have q0 := HQ4.out.cell 0
      have q1 := HQ4.out.cell 1
      have q2 := HQ4.out.cell 2
      have q3 := HQ4.out.cell 3
      simp at q0 q1 q2 q3
      have z0 := HZ4.out.cell 0
      have z1 := HZ4.out.cell 1
      have z2 := HZ4.out.cell 2
      have z3 := HZ4.out.cell 3
      simp at z0 z1 z2 z3
      go_wp2_with fail
      refine (HWk.out _).mono ?_
      rintro e w5 ⟨rfl, hb⟩
      have HP5 := Lib.hid (HP4.out.below hb HP4.out.lt)
      have HQ5 := Lib.hid (HQ4.out.below hb HQ4.out.lt)
      have HR5 := Lib.hid (HR4.out.below hb HR4.out.lt)
      have HZ5 := Lib.hid (HZ4.out.below hb HZ4.out.lt)
      have HB5 := Lib.hid (HB4.out.trans (hb.mono HB4.out.size))
      clear hb HP4 HQ4 HR4 HZ4 HB4 q0 q1 q2 q3 z0 z1 z2 z3 HWk
      cases E
      · have hk0 : 1 ≤ k := by
          rcases Nat.eq_zero_or_pos k with e | e
          · subst e; exact absurd (HE0.out.symm.trans HE.out) (by decide)
          · exact e
        obtain ⟨j, rfl⟩ : ∃ j, k = j + 1 := ⟨k - 1, by omega⟩
        have HDj : Hid (down (sameN six hi lo h2 l2) j = N) := Lib.hid ((down_miss HE.out).symm.trans HD.out)
        go_wp2_with fail
        exact ⟨⟨j, by omega, by go_num, HDj, HP5, HQ5, HR5, HB5⟩, by simp [intOf]⟩
      · obtain rfl : k = N := (down_hit HE.out).symm.trans HD.out
        have hV := HV.out
        unfold comC at hV
        rw [HH.out.1, HH.out.2] at hV
        clear HV HH HE HD HE0 Hmin HP5 HQ5
        subst hV
        have z0 := HZ5.out.cell 0
        have z1 := HZ5.out.cell 1
        have z2 := HZ5.out.cell 2
        have z3 := HZ5.out.cell 3
        simp at z0 z1 z2 z3
        have r0 := HR5.out.cell 0
        have r1 := HR5.out.cell 1
        have r2 := HR5.out.cell 2
        have r3 := HR5.out.cell 3
        have rf := HR5.out.free
        simp at r0 r1 r2 r3
        go_wp2_with fail
        refine bodyPost_ret (v := .agg #[.bool six, .int .u64 ((mh : Int) : Int), .int .u64 ((ml : Int) : Int), .int .i64 (k : Int)]) (by simp [results, Tryd.results36, go_sem, r0, r1, r2, r3]) rfl ⟨rfl, ?_⟩
        repeat refine Below.setCell ?_ (by first | (simp; omega) | simp) _
        exact HB5.out
end Go.Proofs.YtaamonhhclffcaaDoor
