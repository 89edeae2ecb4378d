/-
  Prefixes of the program: addr.Inside, Common.
  Prefixes of the reference: sign, cmp, LastOf, Holds, Within, CommonOf.
  Orders of addresses: cmp.Compare, cmp.Or, span.Compare, addr.Compare of the program; Order of the reference: both compare the addresses' numbers.
  Quiet regions and calls that also never lower the count of draws: what a sort asks of its comparison.
  The comparisons that the sorts ask: of wide numbers, of addresses; the count of draws never goes down.
  The reference's order of addresses; the count of draws never goes down.
  Slices that a call owns, and slices that can be read: append, for every element type. Lemmas of this claim's own.
-/
import Derived.Test.YteccghdegckjhaaGreatDoorTD3
import Derived.Sort.Grow
import Derived.Test.YteccghdegckjhaaGreatDoorTD1
import Derived.Maps.AppendAt
import Derived.Lib.Hide
set_option linter.unusedVariables false
namespace Go.Proofs.YteccghdegckjhaaGreatDoor
open Go.RowKit Go
set_option linter.unusedVariables false
end Go.Proofs.YteccghdegckjhaaGreatDoor

namespace Go.Proofs.YteccghdegckjhaaGreatDoor
open Go.RowKit Go
set_option linter.unusedVariables false

def sgn (x : Int) : Int := if x < 0 then -1 else if x > 0 then 1 else 0
theorem sign_any (x : Int) (w : World) : Calls Tryz.prog 102 #[.int .i64 x] w (Ret (.int .i64 (sgn x)) w) := by
  by_cases h1 : x < 0
  · have e : sgn x = -1 := if_pos h1
    rw [e]
    go_enter Tryz.func102, Tryz.ntmps102
    go_wp2
    go_ret
    exact ⟨rfl, Below.refl _ _⟩
  · by_cases h2 : x > 0
    · have e : sgn x = 1 := by unfold sgn; rw [if_neg h1, if_pos h2]
      rw [e]
      go_enter Tryz.func102, Tryz.ntmps102
      go_wp2
      go_ret
      exact ⟨rfl, Below.refl _ _⟩
    · have e : sgn x = 0 := by unfold sgn; rw [if_neg h1, if_neg h2]
      rw [e]
      go_enter Tryz.func102, Tryz.ntmps102
      go_wp2
      go_ret
      exact ⟨rfl, Below.refl _ _⟩
theorem wv_get9 (six : Bool) (f : Nat → Nat) (d : Nat) (h : d < 9) : (wv six f)[d]? = some (.int .i64 ((dv six f d : Nat) : Int)) := by
  rcases Nat.lt_or_ge d 8 with h8 | h8
  · rw [wv_get _ _ _ h8]; unfold dv; rw [if_pos h8]
  · obtain rfl : d = 8 := by omega
    cases six <;> rfl

set_option maxRecDepth 100000 in
set_option maxHeartbeats 1000000 in
theorem wideCmp_any (s1 s2 : Bool) (f g : Nat → Nat) (w : World) (hf : ∀ d, f d < 65536) (hg : ∀ d, g d < 65536) :
    Calls Tryz.prog 70 #[.agg (wv s1 f), .agg (wv s2 g)] w (Ret (.int .i64 (cN (PW (dv s1 f) 9) (PW (dv s2 g) 9))) w) := by
  have HT : Hid (∀ i, i < 9 → (∀ j, i < j → j < 9 → dv s1 f j = dv s2 g j) → dv s1 f i ≠ dv s2 g i → sgn (((dv s1 f i : Nat) : Int) - ((dv s2 g i : Nat) : Int)) = cN (PW (dv s1 f) 9) (PW (dv s2 g) 9)) := Lib.hid fun i hi hab hne => by
    rw [cmp_top (dv_lt hf) (dv_lt hg) hi hab hne]
    unfold sgn
    by_cases h : dv s1 f i < dv s2 g i
    · rw [if_pos h, if_pos (by omega)]
    · rw [if_neg h, if_neg (by omega), if_pos (by omega)]
  have HS0 : Hid ((∀ j, j < 9 → dv s1 f j = dv s2 g j) → cN (PW (dv s1 f) 9) (PW (dv s2 g) 9) = 0) := Lib.hid cmp_same
  have HF := Lib.hid (dv_lt (six := s1) hf)
  have HH := Lib.hid (dv_lt (six := s2) hg)
  clear hf hg
  generalize cN (PW (dv s1 f) 9) (PW (dv s2 g) 9) = C at *
  have hsz := Tryz.sizeOf71
  have HA' : Blk ((w.alloc (.cells (wv s1 f) 71 (0, 0))).alloc (.cells (wv s2 g) 71 (0, 0))) (w.heap.size) 71 (wv s1 f) := by
    have this := Blk.new w 71 (wv s1 f)
    exact (this.alloc _)
  have HA := Lib.hid HA'
  clear HA'
  have HG' : Blk ((w.alloc (.cells (wv s1 f) 71 (0, 0))).alloc (.cells (wv s2 g) 71 (0, 0))) (w.heap.size + 1) 71 (wv s2 g) := by
    have this := Blk.new (w.alloc (.cells (wv s1 f) 71 (0, 0))) 71 (wv s2 g)
    rw [World.size_alloc] at this
    exact this
  have HG := Lib.hid HG'
  clear HG'
  have HB : Hid (Below w.heap.size w ((w.alloc (.cells (wv s1 f) 71 (0, 0))).alloc (.cells (wv s2 g) 71 (0, 0)))) := Lib.hid (below_alloc (below_alloc (Below.refl _ _) _) _)
  go_enter Tryz.func70, Tryz.ntmps70
  go_upto_region 1 with fail
  generalize ((w.alloc (.cells (wv s1 f) 71 (0, 0))).alloc (.cells (wv s2 g) 71 (0, 0))) = w1 at *
  go_wp2_with fail
  go_loopw [5] (fun i wr => ∃ k : Nat, k ≤ 9 ∧ i = .int .i64 ((k : Int) - 1) ∧ Hid (∀ j, k ≤ j → j < 9 → dv s1 f j = dv s2 g j) ∧ Hid (Blk wr (w.heap.size) 71 (wv s1 f)) ∧ Hid (Blk wr (w.heap.size + 1) 71 (wv s2 g)) ∧ Hid (Below w.heap.size w wr)) (fun i _ => (intOf i + 1).toNat)
  case atStart => exact ⟨9, Nat.le_refl _, rfl, Lib.hid fun j h1 h2 => by omega, HA, HG, HB⟩
  case round =>
    clear HA HG HB
    obtain ⟨k, hk, rfl, HE, HA, HG, HB⟩ := hrel
    by_cases hk0 : k = 0
    · subst hk0
      have hC := HS0.out fun j hj => HE.out j (Nat.zero_le _) hj
      have e0 : (((0 : Nat) : Int) - 1) = -1 := by omega
      rw [e0]
      subst hC
      clear HT HS0 HF HH HE
      go_wp2_with fail
      go_ret
      exact ⟨rfl, HB.out⟩
    · obtain ⟨j, rfl⟩ : ∃ j, k = j + 1 := ⟨k - 1, by omega⟩
      have ej : (((j + 1 : Nat) : Int) - 1) = (j : Int) := by omega
      rw [ej]
      have hj : j < 9 := by omega
      have a := HA.out.cell j
      rw [wv_get9 _ _ _ hj] at a
      have b := HG.out.cell j
      rw [wv_get9 _ _ _ hj] at b
      have hx := HF.out j
      have hy := HH.out j
      have HTj := Lib.hid (HT.out j hj fun i h1 h2 => HE.out i (by omega) h2)
      have HEj : Hid (dv s1 f j = dv s2 g j → ∀ i, j ≤ i → i < 9 → dv s1 f i = dv s2 g i) := Lib.hid fun e i h1 h2 => by
        rcases Nat.eq_or_lt_of_le h1 with h | h
        · subst h; exact e
        · exact HE.out i h h2
      clear HT HS0 HE HF HH
      generalize hxx : dv s1 f j = x at *
      generalize hyy : dv s2 g j = y at *
      have HX := Lib.hid hxx
      have HY := Lib.hid hyy
      clear hxx hyy
      have la := Later.cell_of a
      have lb := Later.cell_of b
      have b1 : (0 : Int) ≤ (j : Int) := by omega
      have b2 : (j : Int) < 9 := by omega
      by_cases hxy : x = y
      · have HE2 := Lib.hid (HEj.out hxy)
        subst hxy
        clear HEj HTj
        go_upto_region 4 with fail
        refine wp_region_later (by kernel_rfl) (by kernel_rfl) ?_
        repeat (go_big_quiet_step (fail))
        refine wpQuiet_nil ?_
        rintro w3 ⟨m2, hm2⟩
        have hb : Below wr.heap.size wr w3 := by rw [hm2]; exact m2.2
        clear hm2 m2 la lb a b
        have HA3 := Lib.hid (HA.out.below hb HA.out.lt)
        have HG3 := Lib.hid (HG.out.below hb HG.out.lt)
        have HB3 := Lib.hid (HB.out.trans (hb.mono HB.out.size))
        clear hb HA HG HB
        go_wp2_with fail
        exact ⟨⟨j, by omega, by go_num, HE2, HA3, HG3, HB3⟩, by simp [intOf]⟩
      · have hC := HTj.out hxy
        have hne : ((x : Int) != (y : Int)) = true := by simp; omega
        have hne2 : ¬ (x : Int) = (y : Int) := by omega
        have HS := Lib.hid fun wx => sign_any ((x : Int) - (y : Int)) wx
        rw [hC] at HS
        clear hC HEj HTj
        go_upto_region 4 with fail
        refine wp_region_later (by kernel_rfl) (by kernel_rfl) ?_
        repeat (go_big_quiet_step (fail))
        refine wpQuiet_nil ?_
        rintro w3 ⟨m2, hm2⟩
        have hb : Below wr.heap.size wr w3 := by rw [hm2]; exact m2.2
        clear hm2 m2 la lb a b
        have HA3 := Lib.hid (HA.out.below hb HA.out.lt)
        have HG3 := Lib.hid (HG.out.below hb HG.out.lt)
        have HB3 := Lib.hid (HB.out.trans (hb.mono HB.out.size))
        clear hb HA HG HB
        have a := HA3.out.cell j
        rw [wv_get9 _ _ _ hj, HX.out] at a
        have b := HG3.out.cell j
        rw [wv_get9 _ _ _ hj, HY.out] at b
        have la := Later.cell_of a
        have lb := Later.cell_of b
        have hS := fun m : Later w3 => Calls.later m (HS.out m.1)
        have e7 : IntKind.i64.wrap ((x : Int) - (y : Int)) = (x : Int) - (y : Int) := by rw [IntKind.wrap_i64]; omega
        have e8 : wrap64 ((x : Int) - (y : Int)) = (x : Int) - (y : Int) := by unfold wrap64; omega
        go_upto_region 5 with fail
        refine wp_region_later (by kernel_rfl) (by kernel_rfl) ?_
        repeat (go_big_quiet_step (fail))
        go_big_quiet_step ((go_at_call 102; exact hS _))
        repeat (go_big_quiet_step (fail))
        refine wpQuiet_nil ?_
        rintro w4 ⟨m2, hm2⟩
        have hb : Below w3.heap.size w3 w4 := by rw [hm2]; exact m2.2
        clear hm2 m2 la lb a b
        have HB4 := Lib.hid (HB3.out.trans (hb.mono HB3.out.size))
        clear hb HA3 HG3 HB3
        go_wp2_with fail
        go_ret
        exact ⟨rfl, HB4.out⟩


set_option maxRecDepth 100000 in
set_option maxHeartbeats 1000000 in
theorem holds_any (s : Bool) (h l n : Nat) (s2 : Bool) (h2 l2 : Nat) (w : World) (a1 : U64N h) (a2 : U64N l) (a3 : U64N h2) (a4 : U64N l2) (hn : n ≤ lenN s) :
    Calls Tryz.prog 62 #[vP s h l (n : Int), vA s2 h2 l2] w (Ret (.bool (holdsB s h l n s2 h2 l2)) w) := by
  have hln := lenN_le s
  have HO1 := Lib.hid fun wx => of_any s h l wx a1 a2
  have HO2 := Lib.hid fun wx => of_any s2 h2 l2 wx a3 a4
  have HL := Lib.hid fun wx => lastOf_any s h l n (lenN s - n) wx a1 a2 (by omega) (by omega) (by omega)
  have HC1 := Lib.hid fun wx => wideCmp_any s s2 (dg h l) (dg h2 l2) wx (dg_lt _ _) (dg_lt _ _)
  have HC2 := Lib.hid fun wx => wideCmp_any s2 s (dg h2 l2) (filF h l (lenN s - n)) wx (dg_lt _ _) (filF_lt h l _)
  rw [PW_num, PW_num, PS_dg_hi h l a1, PS_dg_lo h l a2, PS_dg_hi h2 l2 a3, PS_dg_lo h2 l2 a4] at HC1
  rw [PW_num, PW_num, PS_dg_hi h2 l2 a3, PS_dg_lo h2 l2 a4, fil_lo h l _ a2, fil_hi h l _ a1, ← fHi_fil, ← fLo_fil] at HC2
  rw [wCells_wv] at HO1 HO2
  have HZ : Hid (holdsB s h l n s2 h2 l2 = (decide (cN (numA s h l) (numA s2 h2 l2) ≤ 0) && decide (cN (numA s2 h2 l2) (numA s (fHi s h n) (fLo s l n)) ≤ 0))) := Lib.hid (by unfold holdsB; simp only [cN_le])
  generalize holdsB s h l n s2 h2 l2 = Z at *
  generalize cN (numA s h l) (numA s2 h2 l2) = c1 at *
  generalize cN (numA s2 h2 l2) (numA s (fHi s h n) (fLo s l n)) = c2 at *
  generalize wv s (dg h l) = X1 at *
  generalize wv s2 (dg h2 l2) = X2 at *
  generalize wv s (filF h l (lenN s - n)) = X3 at *
  unfold vA at HO1 HO2 ⊢
  unfold vP
  have HP' : Blk ((w.alloc (.cells #[.bool s, .int .u64 (h : Int), .int .u64 (l : Int), .int .i64 (n : Int)] 30 (0, 0))).alloc (.cells #[.bool s2, .int .u64 (h2 : Int), .int .u64 (l2 : Int)] 28 (0, 0))) (w.heap.size) 30 #[.bool s, .int .u64 (h : Int), .int .u64 (l : Int), .int .i64 (n : Int)] := by
    have this := Blk.new w 30 #[.bool s, .int .u64 (h : Int), .int .u64 (l : Int), .int .i64 (n : Int)]
    exact (this.alloc _)
  have HP := Lib.hid HP'
  clear HP'
  have HA' : Blk ((w.alloc (.cells #[.bool s, .int .u64 (h : Int), .int .u64 (l : Int), .int .i64 (n : Int)] 30 (0, 0))).alloc (.cells #[.bool s2, .int .u64 (h2 : Int), .int .u64 (l2 : Int)] 28 (0, 0))) (w.heap.size + 1) 28 #[.bool s2, .int .u64 (h2 : Int), .int .u64 (l2 : Int)] := by
    have this := Blk.new (w.alloc (.cells #[.bool s, .int .u64 (h : Int), .int .u64 (l : Int), .int .i64 (n : Int)] 30 (0, 0))) 28 #[.bool s2, .int .u64 (h2 : Int), .int .u64 (l2 : Int)]
    rw [World.size_alloc] at this
    exact this
  have HA := Lib.hid HA'
  clear HA'
  have HB : Hid (Below w.heap.size w ((w.alloc (.cells #[.bool s, .int .u64 (h : Int), .int .u64 (l : Int), .int .i64 (n : Int)] 30 (0, 0))).alloc (.cells #[.bool s2, .int .u64 (h2 : Int), .int .u64 (l2 : Int)] 28 (0, 0)))) := Lib.hid (below_alloc (below_alloc (Below.refl _ _) _) _)
  go_enter Tryz.func62, Tryz.ntmps62
  go_upto_region 1 with fail
  generalize ((w.alloc (.cells #[.bool s, .int .u64 (h : Int), .int .u64 (l : Int), .int .i64 (n : Int)] 30 (0, 0))).alloc (.cells #[.bool s2, .int .u64 (h2 : Int), .int .u64 (l2 : Int)] 28 (0, 0))) = w1 at *
  have p0 := HP.out.cell 0
  have p1 := HP.out.cell 1
  have p2 := HP.out.cell 2
  have p3 := HP.out.cell 3
  simp at p0 p1 p2 p3
  have a0 := HA.out.cell 0
  have a1 := HA.out.cell 1
  have a2 := HA.out.cell 2
  simp at a0 a1 a2
  have l0 := Later.cell_of p0
  have l1 := Later.cell_of p1
  have lx2 := Later.cell_of p2
  have l3 := Later.cell_of p3
  have k0 := Later.cell_of a0
  have k1 := Later.cell_of a1
  have k2 := Later.cell_of a2
  have hO1 := fun m : Later w1 => Calls.later m (HO1.out m.1)
  have hO2 := fun m : Later w1 => Calls.later m (HO2.out m.1)
  have hL := fun m : Later w1 => Calls.later m (HL.out m.1)
  have hC1 := fun m : Later w1 => Calls.later m (HC1.out m.1)
  have hC2 := fun m : Later w1 => Calls.later m (HC2.out m.1)
  by_cases hc : c1 ≤ 0
  · have hd : decide (c1 ≤ 0) = true := decide_eq_true hc
    have hZ := HZ.out
    rw [hd, Bool.true_and] at hZ
    subst hZ
    clear HZ
    refine wp_region_later (by kernel_rfl) (by kernel_rfl) ?_
    repeat (go_big_quiet_step (fail))
    go_big_quiet_step ((go_at_call 39; exact hO1 _))
    repeat (go_big_quiet_step (fail))
    go_big_quiet_step ((go_at_call 39; exact hO2 _))
    go_big_quiet_step ((go_at_call 70; exact hC1 _))
    repeat (go_big_quiet_step (fail))
    go_big_quiet_step ((go_at_call 39; exact hO2 _))
    repeat (go_big_quiet_step (fail))
    go_big_quiet_step ((go_at_call 67; exact hL _))
    go_big_quiet_step ((go_at_call 70; exact hC2 _))
    repeat (go_big_quiet_step (fail))
    refine wpQuiet_nil ?_
    rintro w2 ⟨m2, hm2⟩
    have hb : Below w1.heap.size w1 w2 := by rw [hm2]; exact m2.2
    clear hm2 m2
    go_wp2_with fail
    go_ret
    exact ⟨rfl, HB.out.trans (hb.mono HB.out.size)⟩
  · have hd : decide (c1 ≤ 0) = false := decide_eq_false hc
    have hZ := HZ.out
    rw [hd, Bool.false_and] at hZ
    subst hZ
    clear HZ
    refine wp_region_later (by kernel_rfl) (by kernel_rfl) ?_
    repeat (go_big_quiet_step (fail))
    go_big_quiet_step ((go_at_call 39; exact hO1 _))
    repeat (go_big_quiet_step (fail))
    go_big_quiet_step ((go_at_call 39; exact hO2 _))
    go_big_quiet_step ((go_at_call 70; exact hC1 _))
    repeat (go_big_quiet_step (fail))
    refine wpQuiet_nil ?_
    rintro w2 ⟨m2, hm2⟩
    have hb : Below w1.heap.size w1 w2 := by rw [hm2]; exact m2.2
    clear hm2 m2
    go_wp2_with fail
    go_ret
    exact ⟨rfl, HB.out.trans (hb.mono HB.out.size)⟩


end Go.Proofs.YteccghdegckjhaaGreatDoor

namespace Go.Proofs.YteccghdegckjhaaGreatDoor
open Go.RowKit Go
set_option linter.unusedVariables false

theorem u64_le {x : Nat} (h : U64N x) : 0 ≤ (x : Int) ∧ (x : Int) ≤ 18446744073709551615 := by
  unfold U64N at h
  exact ⟨by omega, by omega⟩
theorem isNaNU_any (x : Int) (w : World) : Calls Tryz.prog 178 #[.int .u64 x] w fun e w' => e = .returned (.bool false) ∧ w' = w := by
  go_enter Tryz.func178, Tryz.ntmps178
  go_wp2
  go_ret
  exact ⟨by simp, rfl⟩
set_option maxHeartbeats 1000000 in
theorem cmpU64_any (a b : Nat) (w : World) (ha : U64N a) (hb : U64N b) : Calls Tryz.prog 142 #[.int .u64 (a : Int), .int .u64 (b : Int)] w fun e w' => e = .returned (.int .i64 (cN a b)) ∧ w' = w := by
  have a1 := u64_le ha
  have b1 := u64_le hb
  clear ha hb
  have HN := Lib.hid fun x wx => isNaNU_any x wx
  by_cases h1 : a < b
  · have e : cN a b = -1 := by unfold cN; rw [if_pos h1]
    rw [e]
    clear e
    go_enter Tryz.func142, Tryz.ntmps142
    go_wp2_with fail
    refine (HN.out _ _).mono ?_
    rintro e w' ⟨rfl, rfl⟩
    go_wp2_with fail
    refine (HN.out _ _).mono ?_
    rintro e w' ⟨rfl, rfl⟩
    go_wp2_with fail
    go_ret
    exact ⟨rfl, rfl⟩
  · by_cases h2 : b < a
    · have e : cN a b = 1 := by unfold cN; rw [if_neg h1, if_pos h2]
      rw [e]
      clear e
      go_enter Tryz.func142, Tryz.ntmps142
      go_wp2_with fail
      refine (HN.out _ _).mono ?_
      rintro e w' ⟨rfl, rfl⟩
      go_wp2_with fail
      refine (HN.out _ _).mono ?_
      rintro e w' ⟨rfl, rfl⟩
      go_wp2_with fail
      go_ret
      exact ⟨rfl, rfl⟩
    · obtain rfl : a = b := by omega
      rw [cN_same]
      clear h1 h2
      go_enter Tryz.func142, Tryz.ntmps142
      go_wp2_with fail
      refine (HN.out _ _).mono ?_
      rintro e w' ⟨rfl, rfl⟩
      go_wp2_with fail
      refine (HN.out _ _).mono ?_
      rintro e w' ⟨rfl, rfl⟩
      go_wp2_with fail
      go_ret
      exact ⟨rfl, rfl⟩
def orI (x y : Int) : Int := if x = 0 then y else x
set_option maxHeartbeats 1000000 in
theorem cmpOr_any (x y : Int) (g c : Nat) (w : World) (h0 : w.cell? ⟨g, 0, none⟩ = some (.int .i64 x)) (h1 : w.cell? ⟨g, 1, none⟩ = some (.int .i64 y)) :
    Calls Tryz.prog 103 #[.slice (some ⟨g, 0, none⟩) 2 c] w fun e w' => e = .returned (.int .i64 (orI x y)) ∧ w' = w := by
  by_cases hx : x = 0
  · subst hx
    have e : orI 0 y = y := if_pos rfl
    rw [e]
    clear e
    by_cases hy : y = 0
    · subst hy
      go_enter Tryz.func103, Tryz.ntmps103
      go_wp2_with fail
      refine wp_loop_rounds 3 ?_
      rw [rounds_succ]
      go_wp2_with fail
      rw [rounds_succ]
      go_wp2_with fail
      rw [rounds_succ]
      go_wp2_with fail
      go_ret
      exact ⟨rfl, rfl⟩
    · have hy2 : (y != 0) = true := by simpa using hy
      go_enter Tryz.func103, Tryz.ntmps103
      go_wp2_with fail
      refine wp_loop_rounds 2 ?_
      rw [rounds_succ]
      go_wp2_with fail
      rw [rounds_succ]
      go_wp2_with fail
      go_ret
      exact ⟨rfl, rfl⟩
  · have e : orI x y = x := if_neg hx
    rw [e]
    clear e
    have hx2 : (x != 0) = true := by simpa using hx
    go_enter Tryz.func103, Tryz.ntmps103
    go_wp2_with fail
    refine wp_loop_rounds 1 ?_
    rw [rounds_succ]
    go_wp2_with fail
    go_ret
    exact ⟨rfl, rfl⟩
theorem cN_lt {a b : Nat} (h : a < b) : cN a b = -1 := by unfold cN; rw [if_pos h]
theorem cN_gt {a b : Nat} (h : b < a) : cN a b = 1 := by unfold cN; rw [if_neg (by omega), if_pos h]
theorem cN_lex (T M h l h2 l2 : Nat) (a : l < M) (b : l2 < M) : cN (T + h * M + l) (T + h2 * M + l2) = orI (cN h h2) (cN l l2) := by
  rcases Nat.lt_trichotomy h h2 with k | rfl | k
  · have := Nat.mul_le_mul_right M (Nat.succ_le_of_lt k)
    rw [Nat.succ_eq_add_one, Nat.add_mul, Nat.one_mul] at this
    rw [cN_lt (show T + h * M + l < T + h2 * M + l2 by omega), cN_lt k]
    rfl
  · rw [cN_same]
    unfold orI
    rw [if_pos rfl]
    unfold cN
    by_cases h1 : l < l2
    · rw [if_pos h1, if_pos (by omega)]
    · by_cases h2 : l2 < l
      · rw [if_neg h1, if_pos h2, if_neg (by omega), if_pos (by omega)]
      · rw [if_neg h1, if_neg h2, if_neg (by omega), if_neg (by omega)]
  · have := Nat.mul_le_mul_right M (Nat.succ_le_of_lt k)
    rw [Nat.succ_eq_add_one, Nat.add_mul, Nat.one_mul] at this
    rw [cN_gt (show T + h2 * M + l2 < T + h * M + l by omega), cN_gt k]
    rfl
theorem cN_num {s : Bool} {h l h2 l2 : Nat} (a2 : U64N l) (a4 : U64N l2) : cN (numA s h l) (numA s h2 l2) = orI (cN h h2) (cN l l2) := by
  unfold numA
  exact cN_lex _ _ _ _ _ _ a2 a4
theorem cN_six {h l h2 l2 : Nat} (a1 : U64N h) (a2 : U64N l) : cN (numA false h l) (numA true h2 l2) = -1 := by
  unfold U64N at a1 a2
  unfold cN numA
  rw [if_pos]
  simp
  omega
theorem cN_six' {h l h2 l2 : Nat} (a3 : U64N h2) (a4 : U64N l2) : cN (numA true h l) (numA false h2 l2) = 1 := by
  unfold U64N at a3 a4
  unfold cN numA
  rw [if_neg, if_pos]
  · simp; omega
  · simp; omega
theorem PW_numA (six : Bool) (hi lo : Nat) (h1 : U64N hi) (h2 : U64N lo) : PW (dv six (dg hi lo)) 9 = numA six hi lo := by
  rw [PW_num, PS_dg_hi _ _ h1, PS_dg_lo _ _ h2]
end Go.Proofs.YteccghdegckjhaaGreatDoor

namespace Go.Proofs.YteccghdegckjhaaGreatDoor
open Go.RowKit Go
set_option linter.unusedVariables false

/-- nothing that was there is changed, and the count of draws has not gone down -/
structure BelD (u v : World) : Prop where
  b : Below u.heap.size u v
  d : u.drawn ≤ v.drawn
theorem BelD.refl (u : World) : BelD u u := ⟨Below.refl _ _, Nat.le_refl _⟩
theorem BelD.trans {u v w : World} (h : BelD u v) (k : BelD v w) : BelD u w := ⟨h.b.trans (k.b.mono h.b.size), Nat.le_trans h.d k.d⟩
theorem BelD.alloc {u v : World} (h : BelD u v) (o : Obj) : BelD u (v.alloc o) := ⟨below_alloc h.b o, h.d⟩
theorem BelD.drewN {u v : World} (h : BelD u v) (n : Nat) : BelD u (v.drewN n) := ⟨below_drewN h.b n, Nat.le_trans h.d (Nat.le_add_right _ _)⟩
theorem BelD.drew {u v : World} (h : BelD u v) : BelD u v.drew := h.drewN 1
/-- as a sort's law spells it -/
theorem BelD.grow {u v : World} (h : BelD u v) : ∃ q os, v = Sort.grow (u.drewN q) os := by
  obtain ⟨hos, htape, hout, hsize, hblock⟩ := h.b
  have hd := h.d
  refine ⟨v.drawn - u.drawn, v.heap.extract u.heap.size v.heap.size, ?_⟩
  obtain ⟨vh, vt, vd, vo, vp⟩ := v
  obtain ⟨uh, ut, ud, uo, up⟩ := u
  simp only at hos htape hout hsize hblock hd
  subst hos htape hout
  have e1 : ud + (vd - ud) = vd := by omega
  have e2 : uh ++ vh.extract uh.size vh.size = vh := by
    apply Array.ext_getElem?
    intro i
    rcases Nat.lt_or_ge i uh.size with hi | hi
    · rw [Array.getElem?_append_left hi]; exact (hblock i hi).symm
    · rw [Array.getElem?_append_right hi, Array.getElem?_extract]
      rcases Nat.lt_or_ge i vh.size with h2 | h2
      · rw [if_pos (by omega), show uh.size + (i - uh.size) = i by omega]
      · rw [if_neg (by omega), Array.getElem?_eq_none h2]
  show (⟨vh, vt, vd, vo, vp⟩ : World) = ⟨uh ++ vh.extract uh.size vh.size, vt, ud + (vd - ud), vo, vp⟩
  rw [e1, e2]
/-- a pure function's contract, with the count of draws -/
def RetD (v : Value) (w : World) (e : Ending) (w' : World) : Prop := e = .returned v ∧ BelD w w'
theorem RetD.ret {v : Value} {w : World} {e : Ending} {w' : World} (h : RetD v w e w') : Ret v w e w' := ⟨h.1, h.2.b⟩
def LaterD (W : World) : Type := { w' : World // BelD W w' }
instance (W : World) : Inhabited (LaterD W) := ⟨⟨W, BelD.refl _⟩⟩
theorem LaterD.cell_of {W : World} {B i : Nat} {v : Value} (h : W.cell? ⟨B, i, none⟩ = some v) (n : LaterD W) : n.1.cell? ⟨B, i, none⟩ = some v := Later.cell_of h ⟨n.1, n.2.b⟩
theorem Calls.laterD {P : Program} {f : FuncId} {args : Array Value} {W : World} {v : Value} (n : LaterD W) (h : Calls P f args n.1 (RetD v n.1)) :
    Calls P f args n.1 fun e w'' => e = .returned v ∧ ∃ m : LaterD W, w'' = m.1 :=
  h.mono fun _ w'' ⟨he, hb⟩ => ⟨he, ⟨w'', n.2.trans hb⟩, rfl⟩
theorem wp_region_laterD {P : Program} {id : Nat} {Q : Exit → Act → World → Prop} {a : Act} {W : World} {l : List Oper} (hm : P.follows .mixedOrders = true) (hB : Region.lexB .any l.toArray = true)
    (h : wpQuiet P l.toArray (fun w' => ∃ n : LaterD W, w' = n.1) (fun a' => ∀ w', (∃ n : LaterD W, w' = n.1) → Q .normal a' w') l a) : (Code.region id l.toArray true).wp P Q a W :=
  wp_region_quiet (C := fun w' => ∃ n : LaterD W, w' = n.1) hm hB ⟨⟨W.drew, (BelD.refl W).drew⟩, rfl⟩ (by simpa using h)
theorem wp_region_laterD_tail {P : Program} {id : Nat} {Q : Exit → Act → World → Prop} {a : Act} {W : World} {l : List Oper} (n : Nat) (hm : P.follows .mixedOrders = true) (hB : Region.lexTailB .any l.toArray n = true)
    (h : wpQuiet P l.toArray (fun w' => ∃ m : LaterD W, w' = m.1) (fun a' => ∀ w', (∃ m : LaterD W, w' = m.1) → wpList P l.toArray Q (l.drop n) a' w') (l.take n) a) : (Code.region id l.toArray true).wp P Q a W := by
  simp only [Region.lexTailB, Bool.and_eq_true, decide_eq_true_eq] at hB
  obtain ⟨⟨⟨⟨hsel, hn⟩, hs⟩, hc⟩, hlex⟩ := hB
  have hn' : n < l.length := by simpa using hn
  have htl : (l.take n).length = n := by simp; omega
  have hdl : (l.drop n).length = l.toArray.size - n := by simp
  have inv0 : HeadInv .any l.toArray n (Array.replicate l.toArray.size false) :=
    ⟨by simp, fun j oj _ hl => (by rw [getD_replicate_false] at hl; cases hl), fun t _ ht => getD_in (by simpa using ht) (getD_replicate_false _ _)⟩
  have H := QL_lex (md := .any) (g := l.toArray.size - n) hsel hs hc hn (l.take n) 0 _ a (fun j hj => by
    have hj' : j < n := by rw [htl] at hj; exact hj
    simp [hj']) (by simpa using htl) inv0 (by rw [htl]; exact hlex) h
  refine wp_region_any hm ?_
  have := any_of_QL (Q' := Q) (g := l.toArray.size - n) (fun listed a' w' hw' hL => by
    have := wpAny_of_seq (md := .any) (Q' := Q) (l.drop n) n listed a' w' (fun j => by simp [List.getElem?_drop]) (by rw [hdl]; exact hL.1) (hL.2 w' hw')
    rwa [hdl] at this) _ _ _ { W with drawn := W.drawn + 1 } ⟨⟨W.drew, (BelD.refl W).drew⟩, rfl⟩ H
  rw [htl, show n + (l.toArray.size - n) = l.toArray.size by omega] at this
  exact this
end Go.Proofs.YteccghdegckjhaaGreatDoor

namespace Go.Proofs.YteccghdegckjhaaGreatDoor
open Go.RowKit Go
set_option linter.unusedVariables false

/-- nine digits -/
def wd (f : Nat → Nat) : Array Value := #[.int .i64 ((f 0 : Nat) : Int), .int .i64 ((f 1 : Nat) : Int), .int .i64 ((f 2 : Nat) : Int), .int .i64 ((f 3 : Nat) : Int), .int .i64 ((f 4 : Nat) : Int), .int .i64 ((f 5 : Nat) : Int), .int .i64 ((f 6 : Nat) : Int), .int .i64 ((f 7 : Nat) : Int), .int .i64 ((f 8 : Nat) : Int)]
theorem wd_get (f : Nat → Nat) (d : Nat) (h : d < 9) : (wd f)[d]? = some (.int .i64 ((f d : Nat) : Int)) := by
  have : d = 0 ∨ d = 1 ∨ d = 2 ∨ d = 3 ∨ d = 4 ∨ d = 5 ∨ d = 6 ∨ d = 7 ∨ d = 8 := by omega
  rcases this with rfl | rfl | rfl | rfl | rfl | rfl | rfl | rfl | rfl <;> rfl
theorem wv_wd (six : Bool) (f : Nat → Nat) : wv six f = wd (dv six f) := by cases six <;> rfl
theorem signD_any (x : Int) (w : World) : Calls Tryz.prog 102 #[.int .i64 x] w (RetD (.int .i64 (sgn x)) w) := by
  by_cases h1 : x < 0
  · have e : sgn x = -1 := if_pos h1
    rw [e]
    go_enter Tryz.func102, Tryz.ntmps102
    go_wp2
    go_ret
    exact ⟨rfl, BelD.refl _⟩
  · by_cases h2 : x > 0
    · have e : sgn x = 1 := by unfold sgn; rw [if_neg h1, if_pos h2]
      rw [e]
      go_enter Tryz.func102, Tryz.ntmps102
      go_wp2
      go_ret
      exact ⟨rfl, BelD.refl _⟩
    · have e : sgn x = 0 := by unfold sgn; rw [if_neg h1, if_neg h2]
      rw [e]
      go_enter Tryz.func102, Tryz.ntmps102
      go_wp2
      go_ret
      exact ⟨rfl, BelD.refl _⟩
set_option maxRecDepth 100000 in
set_option maxHeartbeats 1000000 in
theorem wideCmpD_any (f g : Nat → Nat) (w : World) (hf : ∀ d, f d < 65536) (hg : ∀ d, g d < 65536) :
    Calls Tryz.prog 70 #[.agg (wd f), .agg (wd g)] w (RetD (.int .i64 (cN (PW f 9) (PW g 9))) w) := by
  have HT : Hid (∀ i, i < 9 → (∀ j, i < j → j < 9 → f j = g j) → f i ≠ g i → sgn (((f i : Nat) : Int) - ((g i : Nat) : Int)) = cN (PW f 9) (PW g 9)) := Lib.hid fun i hi hab hne => by
    rw [cmp_top hf hg hi hab hne]
    unfold sgn
    by_cases h : f i < g i
    · rw [if_pos h, if_pos (by omega)]
    · rw [if_neg h, if_neg (by omega), if_pos (by omega)]
  have HS0 : Hid ((∀ j, j < 9 → f j = g j) → cN (PW f 9) (PW g 9) = 0) := Lib.hid cmp_same
  have HF := Lib.hid hf
  have HH := Lib.hid hg
  clear hf hg
  generalize cN (PW f 9) (PW g 9) = C at *
  have hsz := Tryz.sizeOf71
  have HA' : Blk ((w.alloc (.cells (wd f) 71 (0, 0))).alloc (.cells (wd g) 71 (0, 0))) (w.heap.size) 71 (wd f) := by
    have this := Blk.new w 71 (wd f)
    exact (this.alloc _)
  have HA := Lib.hid HA'
  clear HA'
  have HG' : Blk ((w.alloc (.cells (wd f) 71 (0, 0))).alloc (.cells (wd g) 71 (0, 0))) (w.heap.size + 1) 71 (wd g) := by
    have this := Blk.new (w.alloc (.cells (wd f) 71 (0, 0))) 71 (wd g)
    rw [World.size_alloc] at this
    exact this
  have HG := Lib.hid HG'
  clear HG'
  have HB : Hid (BelD w ((w.alloc (.cells (wd f) 71 (0, 0))).alloc (.cells (wd g) 71 (0, 0)))) := Lib.hid (((BelD.refl _).alloc _).alloc _)
  go_enter Tryz.func70, Tryz.ntmps70
  go_upto_region 1 with fail
  generalize ((w.alloc (.cells (wd f) 71 (0, 0))).alloc (.cells (wd g) 71 (0, 0))) = w1 at *
  go_wp2_with fail
  go_loopw [5] (fun i wr => ∃ k : Nat, k ≤ 9 ∧ i = .int .i64 ((k : Int) - 1) ∧ Hid (∀ j, k ≤ j → j < 9 → f j = g j) ∧ Hid (Blk wr (w.heap.size) 71 (wd f)) ∧ Hid (Blk wr (w.heap.size + 1) 71 (wd g)) ∧ Hid (BelD w wr)) (fun i _ => (intOf i + 1).toNat)
  case atStart => exact ⟨9, Nat.le_refl _, rfl, Lib.hid fun j h1 h2 => by omega, HA, HG, HB⟩
  case round =>
    clear HA HG HB
    obtain ⟨k, hk, rfl, HE, HA, HG, HB⟩ := hrel
    by_cases hk0 : k = 0
    · subst hk0
      have hC := HS0.out fun j hj => HE.out j (Nat.zero_le _) hj
      have e0 : (((0 : Nat) : Int) - 1) = -1 := by omega
      rw [e0]
      subst hC
      clear HT HS0 HF HH HE
      go_wp2_with fail
      go_ret
      exact ⟨rfl, HB.out⟩
    · obtain ⟨j, rfl⟩ : ∃ j, k = j + 1 := ⟨k - 1, by omega⟩
      have ej : (((j + 1 : Nat) : Int) - 1) = (j : Int) := by omega
      rw [ej]
      have hj : j < 9 := by omega
      have a := HA.out.cell j
      rw [wd_get _ _ hj] at a
      have b := HG.out.cell j
      rw [wd_get _ _ hj] at b
      have hx := HF.out j
      have hy := HH.out j
      have HTj := Lib.hid (HT.out j hj fun i h1 h2 => HE.out i (by omega) h2)
      have HEj : Hid (f j = g j → ∀ i, j ≤ i → i < 9 → f i = g i) := Lib.hid fun e i h1 h2 => by
        rcases Nat.eq_or_lt_of_le h1 with h | h
        · subst h; exact e
        · exact HE.out i h h2
      clear HT HS0 HE HF HH
      generalize hxx : f j = x at *
      generalize hyy : g j = y at *
      have HX := Lib.hid hxx
      have HY := Lib.hid hyy
      clear hxx hyy
      have la := LaterD.cell_of a
      have lb := LaterD.cell_of b
      have b1 : (0 : Int) ≤ (j : Int) := by omega
      have b2 : (j : Int) < 9 := by omega
      by_cases hxy : x = y
      · have HE2 := Lib.hid (HEj.out hxy)
        subst hxy
        clear HEj HTj
        go_upto_region 4 with fail
        refine wp_region_laterD (by kernel_rfl) (by kernel_rfl) ?_
        repeat (go_big_quiet_step (fail))
        refine wpQuiet_nil ?_
        rintro w3 ⟨m2, hm2⟩
        have hb : BelD wr w3 := by rw [hm2]; exact m2.2
        clear hm2 m2 la lb a b
        have HA3 := Lib.hid (HA.out.below hb.b HA.out.lt)
        have HG3 := Lib.hid (HG.out.below hb.b HG.out.lt)
        have HB3 := Lib.hid (HB.out.trans hb)
        clear hb HA HG HB
        go_wp2_with fail
        exact ⟨⟨j, by omega, by go_num, HE2, HA3, HG3, HB3⟩, by simp [intOf]⟩
      · have hC := HTj.out hxy
        have hne : ((x : Int) != (y : Int)) = true := by simp; omega
        have hne2 : ¬ (x : Int) = (y : Int) := by omega
        have HS := Lib.hid fun wx => signD_any ((x : Int) - (y : Int)) wx
        rw [hC] at HS
        clear hC HEj HTj
        go_upto_region 4 with fail
        refine wp_region_laterD (by kernel_rfl) (by kernel_rfl) ?_
        repeat (go_big_quiet_step (fail))
        refine wpQuiet_nil ?_
        rintro w3 ⟨m2, hm2⟩
        have hb : BelD wr w3 := by rw [hm2]; exact m2.2
        clear hm2 m2 la lb a b
        have HA3 := Lib.hid (HA.out.below hb.b HA.out.lt)
        have HG3 := Lib.hid (HG.out.below hb.b HG.out.lt)
        have HB3 := Lib.hid (HB.out.trans hb)
        clear hb HA HG HB
        have a := HA3.out.cell j
        rw [wd_get _ _ hj, HX.out] at a
        have b := HG3.out.cell j
        rw [wd_get _ _ hj, HY.out] at b
        have la := LaterD.cell_of a
        have lb := LaterD.cell_of b
        have hS := fun m : LaterD w3 => Calls.laterD m (HS.out m.1)
        have e7 : IntKind.i64.wrap ((x : Int) - (y : Int)) = (x : Int) - (y : Int) := by rw [IntKind.wrap_i64]; omega
        have e8 : wrap64 ((x : Int) - (y : Int)) = (x : Int) - (y : Int) := by unfold wrap64; omega
        go_upto_region 5 with fail
        refine wp_region_laterD (by kernel_rfl) (by kernel_rfl) ?_
        repeat (go_big_quiet_step (fail))
        go_big_quiet_step ((go_at_call 102; exact hS _))
        repeat (go_big_quiet_step (fail))
        refine wpQuiet_nil ?_
        rintro w4 ⟨m2, hm2⟩
        have hb : BelD w3 w4 := by rw [hm2]; exact m2.2
        clear hm2 m2 la lb a b
        have HB4 := Lib.hid (HB3.out.trans hb)
        clear hb HA3 HG3 HB3
        go_wp2_with fail
        go_ret
        exact ⟨rfl, HB4.out⟩
set_option maxRecDepth 100000 in
set_option maxHeartbeats 1000000 in
theorem spanCompareD_any (s1 : Bool) (h1 l1 : Nat) (s2 : Bool) (h2 l2 : Nat) (w : World) (a1 : U64N h1) (a2 : U64N l1) (a3 : U64N h2) (a4 : U64N l2) :
    Calls Tryz.prog 100 #[.agg #[.bool s1, .int .u64 (h1 : Int), .int .u64 (l1 : Int)], .agg #[.bool s2, .int .u64 (h2 : Int), .int .u64 (l2 : Int)]] w (RetD (.int .i64 (cN (numA s1 h1 l1) (numA s2 h2 l2))) w) := by
  have HP' : Blk ((w.alloc (.cells #[.bool s1, .int .u64 (h1 : Int), .int .u64 (l1 : Int)] 28 (0, 0))).alloc (.cells #[.bool s2, .int .u64 (h2 : Int), .int .u64 (l2 : Int)] 28 (0, 0))) (w.heap.size) 28 #[.bool s1, .int .u64 (h1 : Int), .int .u64 (l1 : Int)] :=
    (Blk.new w 28 #[.bool s1, .int .u64 (h1 : Int), .int .u64 (l1 : Int)]).alloc _
  have HP := Lib.hid HP'
  clear HP'
  have HQ' : Blk ((w.alloc (.cells #[.bool s1, .int .u64 (h1 : Int), .int .u64 (l1 : Int)] 28 (0, 0))).alloc (.cells #[.bool s2, .int .u64 (h2 : Int), .int .u64 (l2 : Int)] 28 (0, 0))) (w.heap.size + 1) 28 #[.bool s2, .int .u64 (h2 : Int), .int .u64 (l2 : Int)] := by
    have this := Blk.new (w.alloc (.cells #[.bool s1, .int .u64 (h1 : Int), .int .u64 (l1 : Int)] 28 (0, 0))) 28 #[.bool s2, .int .u64 (h2 : Int), .int .u64 (l2 : Int)]
    rw [World.size_alloc] at this
    exact this
  have HQ := Lib.hid HQ'
  clear HQ'
  have HB : Hid (BelD w ((w.alloc (.cells #[.bool s1, .int .u64 (h1 : Int), .int .u64 (l1 : Int)] 28 (0, 0))).alloc (.cells #[.bool s2, .int .u64 (h2 : Int), .int .u64 (l2 : Int)] 28 (0, 0)))) := Lib.hid (((BelD.refl _).alloc _).alloc _)
  by_cases hs : s1 = s2
  · subst hs
    have hC := cN_num (s := s1) (h := h1) (h2 := h2) a2 a4
    rw [hC]
    clear hC
    have HC1 := Lib.hid fun wx => cmpU64_any h1 h2 wx a1 a3
    have HC2 := Lib.hid fun wx => cmpU64_any l1 l2 wx a2 a4
    generalize cN h1 h2 = X at *
    generalize cN l1 l2 = Y at *
    go_enter Tryz.func100, Tryz.ntmps100
    go_upto_region 1 with fail
    generalize ((w.alloc (.cells #[.bool s1, .int .u64 (h1 : Int), .int .u64 (l1 : Int)] 28 (0, 0))).alloc (.cells #[.bool s1, .int .u64 (h2 : Int), .int .u64 (l2 : Int)] 28 (0, 0))) = w1 at *
    have p0 := HP.out.cell 0
    have p1 := HP.out.cell 1
    have p2 := HP.out.cell 2
    simp at p0 p1 p2
    have q0 := HQ.out.cell 0
    have q1 := HQ.out.cell 1
    have q2 := HQ.out.cell 2
    simp at q0 q1 q2
    have hsz : w.heap.size + 1 < w1.heap.size := HQ.out.lt
    go_upto_region 5 with fail
    have k1 := fun (m : LaterD w1) => Later.cell (W := w1) ⟨m.1, m.2.b⟩ (i := 1) (Nat.lt_of_succ_lt hsz)
    have k2 := fun (m : LaterD w1) => Later.cell (W := w1) ⟨m.1, m.2.b⟩ (i := 2) (Nat.lt_of_succ_lt hsz)
    have k3 := fun (m : LaterD w1) => Later.cell (W := w1) ⟨m.1, m.2.b⟩ (i := 1) hsz
    have k4 := fun (m : LaterD w1) => Later.cell (W := w1) ⟨m.1, m.2.b⟩ (i := 2) hsz
    refine wp_region_laterD_tail 10 (by kernel_rfl) (by kernel_rfl) ?_
    simp only [List.take_succ_cons, List.take_zero, List.drop_succ_cons, List.drop_zero]
    repeat (go_big_quiet_step (fail))
    go_big_quiet_step ((go_at_call 142; exact (HC1.out _).mono fun _ _ h => ⟨h.1, _, h.2⟩))
    repeat (go_big_quiet_step (fail))
    go_big_quiet_step ((go_at_call 142; exact (HC2.out _).mono fun _ _ h => ⟨h.1, _, h.2⟩))
    refine wpQuiet_nil ?_
    rintro w2 ⟨n2, hn2⟩
    subst hn2
    have HB2 := Lib.hid (HB.out.trans n2.2)
    obtain ⟨w2, hw2⟩ : ∃ w2, w2 = n2.1 := ⟨_, rfl⟩
    rw [← hw2] at HB2 ⊢
    clear hw2 k1 k2 k3 k4 p0 p1 p2 q0 q1 q2 HC1 HC2
    have HO := Lib.hid fun wx g (h : Blk wx g 3 #[.int .i64 X, .int .i64 Y]) => cmpOr_any X Y g 2 wx ((h.cell 0).trans rfl) ((h.cell 1).trans rfl)
    go_wp2_with fail
    refine (HO.out _ _ (Blk.new w2 _ _)).mono ?_
    rintro e w3 ⟨rfl, rfl⟩
    go_wp2_with fail
    go_ret
    exact ⟨rfl, HB2.out.alloc _⟩
  · cases s1
    · obtain rfl : s2 = true := by cases s2 with | true => rfl | false => exact absurd rfl hs
      rw [cN_six a1 a2]
      go_enter Tryz.func100, Tryz.ntmps100
      go_upto_region 1 with fail
      generalize ((w.alloc (.cells #[.bool false, .int .u64 (h1 : Int), .int .u64 (l1 : Int)] 28 (0, 0))).alloc (.cells #[.bool true, .int .u64 (h2 : Int), .int .u64 (l2 : Int)] 28 (0, 0))) = w1 at *
      have p0 := HP.out.cell 0
      simp at p0
      have q0 := HQ.out.cell 0
      simp at q0
      go_wp2_with fail
      go_ret
      exact ⟨rfl, HB.out⟩
    · obtain rfl : s2 = false := by cases s2 with | false => rfl | true => exact absurd rfl hs
      rw [cN_six' a3 a4]
      go_enter Tryz.func100, Tryz.ntmps100
      go_upto_region 1 with fail
      generalize ((w.alloc (.cells #[.bool true, .int .u64 (h1 : Int), .int .u64 (l1 : Int)] 28 (0, 0))).alloc (.cells #[.bool false, .int .u64 (h2 : Int), .int .u64 (l2 : Int)] 28 (0, 0))) = w1 at *
      have p0 := HP.out.cell 0
      simp at p0
      have q0 := HQ.out.cell 0
      simp at q0
      go_wp2_with fail
      go_ret
      exact ⟨rfl, HB.out⟩
end Go.Proofs.YteccghdegckjhaaGreatDoor

namespace Go.Proofs.YteccghdegckjhaaGreatDoor
open Go.RowKit Go
set_option linter.unusedVariables false

set_option maxRecDepth 100000 in
set_option maxHeartbeats 2000000 in
theorem ofD_any (six : Bool) (hi lo : Nat) (w : World) (h1 : hi < 18446744073709551616) (h2 : lo < 18446744073709551616) :
    Calls Tryz.prog 39 #[vA six hi lo] w (RetD (.agg (wCells six hi lo)) w) := by
  have d0 : wrap64 (bits .and .u64 (lo : Int) 65535) = (lo : Int) % 65536 := by rw [u64_and65535]; unfold wrap64; omega
  have d7 : wrap64 (bits .and .u64 (hi : Int) 65535) = (hi : Int) % 65536 := by rw [u64_and65535]; unfold wrap64; omega
  have d1 := dig lo 65536 h2
  have d2 := dig lo 4294967296 h2
  have d3 := dig lo 281474976710656 h2
  have d4 := dig hi 65536 h1
  have d5 := dig hi 4294967296 h1
  have d6 := dig hi 281474976710656 h1
  have hwc : Hid (wCells six hi lo = #[.int .i64 ((lo % 65536 : Nat) : Int), .int .i64 ((lo / 65536 % 65536 : Nat) : Int), .int .i64 ((lo / 4294967296 % 65536 : Nat) : Int), .int .i64 ((lo / 281474976710656 % 65536 : Nat) : Int), .int .i64 ((hi % 65536 : Nat) : Int), .int .i64 ((hi / 65536 % 65536 : Nat) : Int), .int .i64 ((hi / 4294967296 % 65536 : Nat) : Int), .int .i64 ((hi / 281474976710656 % 65536 : Nat) : Int), .int .i64 (if six = true then 1 else 0)]) := Lib.hid rfl
  generalize (lo / 65536 % 65536 : Nat) = r1 at *
  generalize (lo / 4294967296 % 65536 : Nat) = r2 at *
  generalize (lo / 281474976710656 % 65536 : Nat) = r3 at *
  generalize (hi / 65536 % 65536 : Nat) = r4 at *
  generalize (hi / 4294967296 % 65536 : Nat) = r5 at *
  generalize (hi / 281474976710656 % 65536 : Nat) = r6 at *
  generalize wCells six hi lo = wc at *
  have HD := Lib.hid (And.intro d0 (And.intro d1 (And.intro d2 (And.intro d3 (And.intro d7 (And.intro d4 (And.intro d5 d6)))))))
  clear d0 d1 d2 d3 d4 d5 d6 d7
  unfold vA
  go_enter Tryz.func39, Tryz.ntmps39
  go_wp2
  refine wp_loop_rounds 6 ?_
  rw [rounds_succ]
  go_wp2_with (rw [rounds_succ])
  all_goals
    refine bodyPost_ret (v := .agg wc) (by rw [hwc.out]; simp [results, Tryz.results39, go_sem, *]; exact HD.out) rfl ⟨rfl, by repeat (first | exact BelD.refl _ | apply BelD.alloc | apply BelD.drewN | apply BelD.drew)⟩
set_option maxRecDepth 100000 in
set_option maxHeartbeats 1000000 in
theorem orderD_any (s1 : Bool) (h1 l1 : Nat) (s2 : Bool) (h2 l2 : Nat) (w : World) (a1 : U64N h1) (a2 : U64N l1) (a3 : U64N h2) (a4 : U64N l2) :
    Calls Tryz.prog 92 #[.agg #[.bool s1, .int .u64 (h1 : Int), .int .u64 (l1 : Int)], .agg #[.bool s2, .int .u64 (h2 : Int), .int .u64 (l2 : Int)]] w (RetD (.int .i64 (cN (numA s1 h1 l1) (numA s2 h2 l2))) w) := by
  have HP' : Blk ((w.alloc (.cells #[.bool s1, .int .u64 (h1 : Int), .int .u64 (l1 : Int)] 28 (0, 0))).alloc (.cells #[.bool s2, .int .u64 (h2 : Int), .int .u64 (l2 : Int)] 28 (0, 0))) (w.heap.size) 28 #[.bool s1, .int .u64 (h1 : Int), .int .u64 (l1 : Int)] :=
    (Blk.new w 28 #[.bool s1, .int .u64 (h1 : Int), .int .u64 (l1 : Int)]).alloc _
  have HP := Lib.hid HP'
  clear HP'
  have HQ' : Blk ((w.alloc (.cells #[.bool s1, .int .u64 (h1 : Int), .int .u64 (l1 : Int)] 28 (0, 0))).alloc (.cells #[.bool s2, .int .u64 (h2 : Int), .int .u64 (l2 : Int)] 28 (0, 0))) (w.heap.size + 1) 28 #[.bool s2, .int .u64 (h2 : Int), .int .u64 (l2 : Int)] := by
    have this := Blk.new (w.alloc (.cells #[.bool s1, .int .u64 (h1 : Int), .int .u64 (l1 : Int)] 28 (0, 0))) 28 #[.bool s2, .int .u64 (h2 : Int), .int .u64 (l2 : Int)]
    rw [World.size_alloc] at this
    exact this
  have HQ := Lib.hid HQ'
  clear HQ'
  have HB : Hid (BelD w ((w.alloc (.cells #[.bool s1, .int .u64 (h1 : Int), .int .u64 (l1 : Int)] 28 (0, 0))).alloc (.cells #[.bool s2, .int .u64 (h2 : Int), .int .u64 (l2 : Int)] 28 (0, 0)))) := Lib.hid (((BelD.refl _).alloc _).alloc _)
  have HO1 := Lib.hid fun wx => ofD_any s1 h1 l1 wx a1 a2
  have HO2 := Lib.hid fun wx => ofD_any s2 h2 l2 wx a3 a4
  have HC := Lib.hid fun wx => wideCmpD_any (dv s1 (dg h1 l1)) (dv s2 (dg h2 l2)) wx (dv_lt (dg_lt h1 l1)) (dv_lt (dg_lt h2 l2))
  rw [PW_numA _ _ _ a1 a2, PW_numA _ _ _ a3 a4] at HC
  simp only [← wv_wd] at HC
  rw [wCells_wv] at HO1 HO2
  unfold vA at HO1 HO2
  generalize cN (numA s1 h1 l1) (numA s2 h2 l2) = C at *
  generalize wv s1 (dg h1 l1) = V1 at *
  generalize wv s2 (dg h2 l2) = V2 at *
  go_enter Tryz.func92, Tryz.ntmps92
  go_upto_region 1 with fail
  generalize ((w.alloc (.cells #[.bool s1, .int .u64 (h1 : Int), .int .u64 (l1 : Int)] 28 (0, 0))).alloc (.cells #[.bool s2, .int .u64 (h2 : Int), .int .u64 (l2 : Int)] 28 (0, 0))) = w1 at *
  have p0 := HP.out.cell 0
  have p1 := HP.out.cell 1
  have p2 := HP.out.cell 2
  simp at p0 p1 p2
  have q0 := HQ.out.cell 0
  have q1 := HQ.out.cell 1
  have q2 := HQ.out.cell 2
  simp at q0 q1 q2
  have hsz : w.heap.size + 1 < w1.heap.size := HQ.out.lt
  have k1 := fun (m : LaterD w1) => Later.cell (W := w1) ⟨m.1, m.2.b⟩ (i := 0) (Nat.lt_of_succ_lt hsz)
  have k2 := fun (m : LaterD w1) => Later.cell (W := w1) ⟨m.1, m.2.b⟩ (i := 1) (Nat.lt_of_succ_lt hsz)
  have k3 := fun (m : LaterD w1) => Later.cell (W := w1) ⟨m.1, m.2.b⟩ (i := 2) (Nat.lt_of_succ_lt hsz)
  have k4 := fun (m : LaterD w1) => Later.cell (W := w1) ⟨m.1, m.2.b⟩ (i := 0) hsz
  have k5 := fun (m : LaterD w1) => Later.cell (W := w1) ⟨m.1, m.2.b⟩ (i := 1) hsz
  have k6 := fun (m : LaterD w1) => Later.cell (W := w1) ⟨m.1, m.2.b⟩ (i := 2) hsz
  have hO1 := fun m : LaterD w1 => Calls.laterD m (HO1.out m.1)
  have hO2 := fun m : LaterD w1 => Calls.laterD m (HO2.out m.1)
  have hC := fun m : LaterD w1 => Calls.laterD m (HC.out m.1)
  refine wp_region_laterD (by kernel_rfl) (by kernel_rfl) ?_
  repeat (go_big_quiet_step (fail))
  go_big_quiet_step ((go_at_call 39; exact hO1 _))
  repeat (go_big_quiet_step (fail))
  go_big_quiet_step ((go_at_call 39; exact hO2 _))
  repeat (go_big_quiet_step (fail))
  go_big_quiet_step ((go_at_call 70; exact hC _))
  repeat (go_big_quiet_step (fail))
  refine wpQuiet_nil ?_
  rintro w2 ⟨n2, hn2⟩
  have hb : BelD w1 w2 := by rw [hn2]; exact n2.2
  clear hn2 n2 hO1 hO2 hC k1 k2 k3 k4 k5 k6
  have HB2 := Lib.hid (HB.out.trans hb)
  clear hb
  go_wp2_with fail
  go_ret
  exact ⟨rfl, HB2.out⟩
end Go.Proofs.YteccghdegckjhaaGreatDoor

namespace Go.Proofs.YteccghdegckjhaaGreatDoor
open Go.RowKit Go
set_option linter.unusedVariables false

/-- the element type's row in the program's table -/
structure EI (P : Program) (t e : TypeId) (size bytes : Nat) : Prop where
  ht : P.underlying t = some (.slice e)
  hi : ∃ i z, P.info? e = some i ∧ i.zero = some z ∧ i.size = size ∧ i.bytes = bytes ∧ z.cells.size = size
  hsz : 0 < size
theorem EI.mk' {P : Program} {t e : TypeId} {size bytes : Nat} {z : Value} (ht : P.underlying t = some (.slice e)) (h : (P.info? e).map (fun i => (i.zero, i.size, i.bytes)) = some (some z, size, bytes)) (hz : z.cells.size = size) (hsz : 0 < size) : EI P t e size bytes := by
  obtain ⟨i, h0, h1, h2, h3⟩ := info_parts h
  exact ⟨ht, ⟨i, z, h0, h1, h2, h3, hz⟩, hsz⟩

/-- m elements that can be read at ad: the cells are 'news' -/
def Src (w : World) (ad : Option Addr) (m size : Nat) (news : List Value) : Prop :=
  news.length = m * size ∧ ∀ j u, news[j]? = some u → ∃ a, ad = some a ∧ a.block < w.heap.size ∧ w.cell? (a.add j) = some u

/-- from w to w' the row of v alone was written, and it stays or lies anew -/
structure Grew (w w' : World) (v v' : Value) : Prop where
  g : w.grownBy w' v.ownBlock
  o : v'.ownBlock = v.ownBlock ∨ ∃ k, v'.ownBlock = some k ∧ w.heap.size ≤ k
theorem Grew.refl (w : World) (v : Value) : Grew w w v v := ⟨World.grownBy.refl w _, .inl rfl⟩
theorem Grew.trans {a b c : World} {u v x : Value} (h : Grew a b u v) (k : Grew b c v x) : Grew a c u x := by
  refine ⟨⟨k.g.os.trans h.g.os, k.g.tape.trans h.g.tape, k.g.output.trans h.g.output, Nat.le_trans h.g.size k.g.size, fun i hi hne => ?_⟩, ?_⟩
  · refine (k.g.block i (Nat.lt_of_lt_of_le hi h.g.size) ?_).trans (h.g.block i hi hne)
    rcases h.o with e | ⟨j, e, hj⟩
    · rw [e]; exact hne
    · rw [e]; intro e2; injection e2 with e2; omega
  · rcases k.o with e | ⟨j, e, hj⟩
    · rcases h.o with e2 | ⟨j, e2, hj⟩
      · exact .inl (e.trans e2)
      · exact .inr ⟨j, e.trans e2, hj⟩
    · exact .inr ⟨j, e, Nat.le_trans h.g.size hj⟩
theorem Grew.alloc {a b : World} {u v : Value} (h : Grew a b u v) (o : Obj) : Grew a (b.alloc o) u v :=
  ⟨h.g.trans (World.grownBy_alloc _ _ _), h.o⟩
theorem Grew.allocFirst {a b : World} {u v : Value} {o : Obj} (h : Grew (a.alloc o) b u v) : Grew a b u v := by
  refine ⟨(World.grownBy_alloc a o _).trans h.g, ?_⟩
  rcases h.o with e | ⟨k, e, hk⟩
  · exact .inl e
  · exact .inr ⟨k, e, by simp at hk; omega⟩
theorem Grew.drewN {a b : World} {u v : Value} (h : Grew a b u v) (n : Nat) : Grew a (b.drewN n) u v := ⟨⟨h.g.os, h.g.tape, h.g.output, h.g.size, h.g.block⟩, h.o⟩
/-- nothing below 'base' was written, if the row lies from there on -/
theorem Grew.below {a b : World} {u v : Value} {B : Nat} (h : Grew a b u v) (hB : B ≤ a.heap.size) (hu : ∀ k, u.ownBlock = some k → B ≤ k) : Below B a b :=
  (Below.refl B a).grown h.g hB hu
theorem own_form {w : World} {base : Nat} {e : TypeId} {size : Nat} {v : Value} {n : Nat} {xs : List Value} (h : w.ownsRow base e size v n xs) : ∃ ad c, v = .slice ad n c ∧ Src w ad n size xs ∧ n ≤ c ∧ c ≤ maxLen := by
  rcases h.2 with ⟨rfl, rfl⟩ | ⟨g, cap, cur, rfl, hb, hg, hn, hc, hs, ht⟩
  · have hx : xs = [] := List.eq_nil_of_length_eq_zero (by simpa using h.1)
    subst hx
    exact ⟨none, 0, rfl, ⟨by simp, fun j u hu => by simp at hu⟩, Nat.le_refl _, by unfold maxLen; omega⟩
  · exact ⟨_, cap, rfl, ⟨h.1, fun j u hu => ⟨_, rfl, lt_of_block hg, h.cells (g := g) rfl j u hu⟩⟩, hn, hc⟩
theorem own_base {w : World} {base : Nat} {e : TypeId} {size : Nat} {v : Value} {n : Nat} {xs : List Value} (h : w.ownsRow base e size v n xs) : ∀ k, v.ownBlock = some k → base ≤ k := fun k hk => (h.lt k hk).1
theorem own_lt {w : World} {base : Nat} {e : TypeId} {size : Nat} {v : Value} {n : Nat} {xs : List Value} (h : w.ownsRow base e size v n xs) : ∀ k, v.ownBlock = some k → k < w.heap.size := fun k hk => (h.lt k hk).2
theorem own_weak {w : World} {base base' : Nat} {e : TypeId} {size : Nat} {v : Value} {n : Nat} {xs : List Value} (h : w.ownsRow base e size v n xs) (hb : base' ≤ base) : w.ownsRow base' e size v n xs := by
  refine ⟨h.1, ?_⟩
  rcases h.2 with h2 | ⟨g, cap, cur, hv, hg, r⟩
  · exact .inl h2
  · exact .inr ⟨g, cap, cur, hv, Nat.le_trans hb hg, r⟩
/-- an owned row stays where another world's step leaves its block -/
theorem own_below {w w' : World} {base B : Nat} {e : TypeId} {size : Nat} {v : Value} {n : Nat} {xs : List Value} (h : w.ownsRow base e size v n xs) (hb : Below B w w') (hB : ∀ k, v.ownBlock = some k → k < B) : w'.ownsRow base e size v n xs := by
  refine ⟨h.1, ?_⟩
  rcases h.2 with h2 | ⟨g, cap, cur, rfl, hg, hh, r⟩
  · exact .inl h2
  · exact .inr ⟨g, cap, cur, rfl, hg, (hb.block g (hB g rfl)).trans hh, r⟩
theorem own_later {w w' : World} {base : Nat} {e : TypeId} {size : Nat} {v : Value} {n : Nat} {xs : List Value} (h : w.ownsRow base e size v n xs) (hb : Below w.heap.size w w') : w'.ownsRow base e size v n xs := own_below h hb fun k hk => own_lt h k hk
theorem own_grew {w w' : World} {base : Nat} {e : TypeId} {size : Nat} {v u u' : Value} {n : Nat} {xs : List Value} (h : w.ownsRow base e size v n xs) (hg : Grew w w' u u') (hne : v.ownBlock = none ∨ v.ownBlock ≠ u.ownBlock) : w'.ownsRow base e size v n xs := h.kept hg.g hne
theorem src_later {w w' : World} {ad : Option Addr} {m size : Nat} {news : List Value} (h : Src w ad m size news) (hb : Below w.heap.size w w') : Src w' ad m size news :=
  ⟨h.1, fun j u hu => by
    obtain ⟨a, e, hlt, hc⟩ := h.2 j u hu
    have hlt' : (a.add j).block < w.heap.size := by unfold Addr.add; split <;> exact hlt
    exact ⟨a, e, Nat.lt_of_lt_of_le hlt hb.size, (hb.cell hlt').trans hc⟩⟩
section
variable {P : Program}
theorem run_append_src {t e : TypeId} {size bytes : Nat} (E : EI P t e size bytes) (w : World) (base : Nat) (ty : TypeId) (v : Value) (n : Nat) (xs : List Value) (hown : w.ownsRow base e size v n xs)
    (ad : Option Addr) (m c : Nat) (news : List Value) (hsrc : Src w ad m size news) (h1 : ∀ u ∈ news, u.oneCell' = true)
    (h63 : n + m ≤ maxLen) (hbytes : (n + m) * bytes ≤ 140737488355328) (hbase : base ≤ w.heap.size) :
    ∃ v' w', (Builtin.append_ #[t, t] ty #[v, .slice ad m c]).run P w = .ok v' w' ∧ w'.ownsRow base e size v' (n + m) (xs ++ news) ∧ Grew w w' v v' := by
  obtain ⟨ht, ⟨i, z, hi, hz, hs, hb, hzs⟩, hsz⟩ := E
  cases ad with
  | some a =>
    have hcells : ∀ j u, news[j]? = some u → w.cell? (a.add j) = some u := fun j u hu => by
      obtain ⟨a', e, _, hc⟩ := hsrc.2 j u hu
      injection e with e; subst e; exact hc
    obtain ⟨v', w', hr, h2, h3, _, h5⟩ := run_append_own_at (P := P) w base t ty e i z size bytes ht hi hz hs hb hzs hsz v n xs hown a m c news hsrc.1 hcells h1 h63 hbytes hbase
    exact ⟨v', w', hr, h2, h3, h5.imp id fun h => ⟨_, h, Nat.le_refl _⟩⟩
  | none =>
    have hn : news = [] := by
      cases news with
      | nil => rfl
      | cons x l => obtain ⟨a, e, _⟩ := hsrc.2 0 x rfl; cases e
    subst hn
    have hm : m = 0 := by
      have h0 : m * size = 0 := by have := hsrc.1; simpa using this.symm
      rcases Nat.mul_eq_zero.1 h0 with h | h <;> omega
    subst hm
    have hr : (Builtin.append_ #[t, t] ty #[v, .slice none 0 c]).run P w = .ok v w := by
      rcases hown.2 with ⟨rfl, rfl⟩ | ⟨g, cap, cur, rfl, _, _, hnc, _⟩
      · simp [Builtin.append_, run_underlying ht, sizeOf, typeInfo, hi, Builtin.lenOf, Builtin.firstCells]
      · simp [Builtin.append_, run_underlying ht, sizeOf, typeInfo, hi, Builtin.lenOf, Builtin.firstCells, hnc, storeCells]
    exact ⟨v, w, hr, by simpa using hown, Grew.refl w v⟩

theorem wpList_app {t e : TypeId} {size bytes : Nat} (E : EI P t e size bytes) {w : World} {ops : Array Oper} {rest : List Oper} {o : Oper} {a : Act} {Q : Exit → Act → World → Prop} (hgd : o.guard = none) (s x : Operand)
    (ho : o.op = .call { callee := .builtin .append, args := #[s, x], argTypes := #[t, t] })
    {base : Nat} {v : Value} {n : Nat} {xs : List Value} (hs : a.eval s = v) (hown : w.ownsRow base e size v n xs)
    {ad : Option Addr} {m c : Nat} {news : List Value} (hx : a.eval x = .slice ad m c) (hsrc : Src w ad m size news) (h1 : ∀ u ∈ news, u.oneCell' = true)
    (h63 : n + m ≤ maxLen) (hbytes : (n + m) * bytes ≤ 140737488355328) (hbase : base ≤ w.heap.size)
    (h : ∀ v' w', w'.ownsRow base e size v' (n + m) (xs ++ news) → Grew w w' v v' → wpList P ops Q rest (a.put o.dst v') w') :
    wpList P ops Q (o :: rest) a w := by
  refine wpList_plain hgd fun K hK => ?_
  obtain ⟨v', w', hr, h2, h3⟩ := run_append_src E w base o.type v n xs hown ad m c news hsrc h1 h63 hbytes hbase
  unfold Oper.wp execOp
  simp only [ho, resolve, invoke, builtin, Sem.run_bind, Sem.run_pure, Result.andThen_ok, List.map_toArray, List.map_cons, List.map_nil, hs, hx, hr]
  exact hK _ _ (h v' w' h2 h3)
end

theorem src_one_new (w : World) (x : Value) (t : TypeId) : Src (w.alloc (.cells #[x] t)) (some ⟨w.heap.size, 0, none⟩) 1 1 [x] :=
  ⟨rfl, fun j u hu => ⟨_, rfl, by simp, cell_one_new w x t j u hu⟩⟩
end Go.Proofs.YteccghdegckjhaaGreatDoor
