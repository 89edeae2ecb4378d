/-
  Prefixes of the reference: sign, cmp, LastOf, Holds, Within, CommonOf.
-/
import Derived.Test.YtofjlpnebfijoaaDoorPB3
namespace Go.Proofs.YtofjlpnebfijoaaDoor
open Go.RowKit Go
set_option linter.unusedVariables false

def sgn (x : Int) : Int := if x < 0 then -1 else if x > 0 then 1 else 0
theorem sign_any (x : Int) (w : World) : Calls Tryd.prog 39 #[.int .i64 x] w (Ret (.int .i64 (sgn x)) w) := by
  by_cases h1 : x < 0
  · have e : sgn x = -1 := if_pos h1
    rw [e]
    go_enter Tryd.func39, Tryd.ntmps39
    go_wp2
    go_ret
    exact ⟨rfl, Below.refl _ _⟩
  · by_cases h2 : x > 0
    · have e : sgn x = 1 := by unfold sgn; rw [if_neg h1, if_pos h2]
      rw [e]
      go_enter Tryd.func39, Tryd.ntmps39
      go_wp2
      go_ret
      exact ⟨rfl, Below.refl _ _⟩
    · have e : sgn x = 0 := by unfold sgn; rw [if_neg h1, if_neg h2]
      rw [e]
      go_enter Tryd.func39, Tryd.ntmps39
      go_wp2
      go_ret
      exact ⟨rfl, Below.refl _ _⟩
theorem wv_get9 (six : Bool) (f : Nat → Nat) (d : Nat) (h : d < 9) : (wv six f)[d]? = some (.int .i64 ((dv six f d : Nat) : Int)) := by
  rcases Nat.lt_or_ge d 8 with h8 | h8
  · rw [wv_get _ _ _ h8]; unfold dv; rw [if_pos h8]
  · obtain rfl : d = 8 := by omega
    cases six <;> rfl

set_option maxRecDepth 100000 in
set_option maxHeartbeats 1000000 in
theorem wideCmp_any (s1 s2 : Bool) (f g : Nat → Nat) (w : World) (hf : ∀ d, f d < 65536) (hg : ∀ d, g d < 65536) :
    Calls Tryd.prog 25 #[.agg (wv s1 f), .agg (wv s2 g)] w (Ret (.int .i64 (cN (PW (dv s1 f) 9) (PW (dv s2 g) 9))) w) := by
  have HT : Hid (∀ i, i < 9 → (∀ j, i < j → j < 9 → dv s1 f j = dv s2 g j) → dv s1 f i ≠ dv s2 g i → sgn (((dv s1 f i : Nat) : Int) - ((dv s2 g i : Nat) : Int)) = cN (PW (dv s1 f) 9) (PW (dv s2 g) 9)) := Lib.hid fun i hi hab hne => by
    rw [cmp_top (dv_lt hf) (dv_lt hg) hi hab hne]
    unfold sgn
    by_cases h : dv s1 f i < dv s2 g i
    · rw [if_pos h, if_pos (by omega)]
    · rw [if_neg h, if_neg (by omega), if_pos (by omega)]
  have HS0 : Hid ((∀ j, j < 9 → dv s1 f j = dv s2 g j) → cN (PW (dv s1 f) 9) (PW (dv s2 g) 9) = 0) := Lib.hid cmp_same
  have HF := Lib.hid (dv_lt (six := s1) hf)
  have HH := Lib.hid (dv_lt (six := s2) hg)
  clear hf hg
  generalize cN (PW (dv s1 f) 9) (PW (dv s2 g) 9) = C at *
  have hsz := Tryd.sizeOf44
  have HA' : Blk ((w.alloc (.cells (wv s1 f) 44 (0, 0))).alloc (.cells (wv s2 g) 44 (0, 0))) (w.heap.size) 44 (wv s1 f) := by
    have this := Blk.new w 44 (wv s1 f)
    exact (this.alloc _)
  have HA := Lib.hid HA'
  clear HA'
  have HG' : Blk ((w.alloc (.cells (wv s1 f) 44 (0, 0))).alloc (.cells (wv s2 g) 44 (0, 0))) (w.heap.size + 1) 44 (wv s2 g) := by
    have this := Blk.new (w.alloc (.cells (wv s1 f) 44 (0, 0))) 44 (wv s2 g)
    rw [World.size_alloc] at this
    exact this
  have HG := Lib.hid HG'
  clear HG'
  have HB : Hid (Below w.heap.size w ((w.alloc (.cells (wv s1 f) 44 (0, 0))).alloc (.cells (wv s2 g) 44 (0, 0)))) := Lib.hid (below_alloc (below_alloc (Below.refl _ _) _) _)
  go_enter Tryd.func25, Tryd.ntmps25
  go_upto_region 1 with fail
  generalize ((w.alloc (.cells (wv s1 f) 44 (0, 0))).alloc (.cells (wv s2 g) 44 (0, 0))) = w1 at *
  go_wp2_with fail
  go_loopw [5] (fun i wr => ∃ k : Nat, k ≤ 9 ∧ i = .int .i64 ((k : Int) - 1) ∧ Hid (∀ j, k ≤ j → j < 9 → dv s1 f j = dv s2 g j) ∧ Hid (Blk wr (w.heap.size) 44 (wv s1 f)) ∧ Hid (Blk wr (w.heap.size + 1) 44 (wv s2 g)) ∧ Hid (Below w.heap.size w wr)) (fun i _ => (intOf i + 1).toNat)
  case atStart => exact ⟨9, Nat.le_refl _, rfl, Lib.hid fun j h1 h2 => by omega, HA, HG, HB⟩
  case round =>
    clear HA HG HB
    obtain ⟨k, hk, rfl, HE, HA, HG, HB⟩ := hrel
    by_cases hk0 : k = 0
    · subst hk0
      have hC := HS0.out fun j hj => HE.out j (Nat.zero_le _) hj
      have e0 : (((0 : Nat) : Int) - 1) = -1 := by omega
      rw [e0]
      subst hC
      clear HT HS0 HF HH HE
      go_wp2_with fail
      go_ret
      exact ⟨rfl, HB.out⟩
    · obtain ⟨j, rfl⟩ : ∃ j, k = j + 1 := ⟨k - 1, by omega⟩
      have ej : (((j + 1 : Nat) : Int) - 1) = (j : Int) := by omega
      rw [ej]
      have hj : j < 9 := by omega
      have a := HA.out.cell j
      rw [wv_get9 _ _ _ hj] at a
      have b := HG.out.cell j
      rw [wv_get9 _ _ _ hj] at b
      have hx := HF.out j
      have hy := HH.out j
      have HTj := Lib.hid (HT.out j hj fun i h1 h2 => HE.out i (by omega) h2)
      have HEj : Hid (dv s1 f j = dv s2 g j → ∀ i, j ≤ i → i < 9 → dv s1 f i = dv s2 g i) := Lib.hid fun e i h1 h2 => by
        rcases Nat.eq_or_lt_of_le h1 with h | h
        · subst h; exact e
        · exact HE.out i h h2
      clear HT HS0 HE HF HH
      generalize hxx : dv s1 f j = x at *
      generalize hyy : dv s2 g j = y at *
      have HX := Lib.hid hxx
      have HY := Lib.hid hyy
      clear hxx hyy
      have la := Later.cell_of a
      have lb := Later.cell_of b
      have b1 : (0 : Int) ≤ (j : Int) := by omega
      have b2 : (j : Int) < 9 := by omega
      by_cases hxy : x = y
      · have HE2 := Lib.hid (HEj.out hxy)
        subst hxy
        clear HEj HTj
        go_upto_region 4 with fail
        refine wp_region_later (by kernel_rfl) (by kernel_rfl) ?_
        repeat (go_big_quiet_step (fail))
        refine wpQuiet_nil ?_
        rintro w3 ⟨m2, hm2⟩
        have hb : Below wr.heap.size wr w3 := by rw [hm2]; exact m2.2
        clear hm2 m2 la lb a b
        have HA3 := Lib.hid (HA.out.below hb HA.out.lt)
        have HG3 := Lib.hid (HG.out.below hb HG.out.lt)
        have HB3 := Lib.hid (HB.out.trans (hb.mono HB.out.size))
        clear hb HA HG HB
        go_wp2_with fail
        exact ⟨⟨j, by omega, by go_num, HE2, HA3, HG3, HB3⟩, by simp [intOf]⟩
      · have hC := HTj.out hxy
        have hne : ((x : Int) != (y : Int)) = true := by simp; omega
        have hne2 : ¬ (x : Int) = (y : Int) := by omega
        have HS := Lib.hid fun wx => sign_any ((x : Int) - (y : Int)) wx
        rw [hC] at HS
        clear hC HEj HTj
        go_upto_region 4 with fail
        refine wp_region_later (by kernel_rfl) (by kernel_rfl) ?_
        repeat (go_big_quiet_step (fail))
        refine wpQuiet_nil ?_
        rintro w3 ⟨m2, hm2⟩
        have hb : Below wr.heap.size wr w3 := by rw [hm2]; exact m2.2
        clear hm2 m2 la lb a b
        have HA3 := Lib.hid (HA.out.below hb HA.out.lt)
        have HG3 := Lib.hid (HG.out.below hb HG.out.lt)
        have HB3 := Lib.hid (HB.out.trans (hb.mono HB.out.size))
        clear hb HA HG HB
        have a := HA3.out.cell j
        rw [wv_get9 _ _ _ hj, HX.out] at a
        have b := HG3.out.cell j
        rw [wv_get9 _ _ _ hj, HY.out] at b
        have la := Later.cell_of a
        have lb := Later.cell_of b
        have hS := fun m : Later w3 => Calls.later m (HS.out m.1)
        have e7 : IntKind.i64.wrap ((x : Int) - (y : Int)) = (x : Int) - (y : Int) := by rw [IntKind.wrap_i64]; omega
        have e8 : wrap64 ((x : Int) - (y : Int)) = (x : Int) - (y : Int) := by unfold wrap64; omega
        go_upto_region 5 with fail
        refine wp_region_later (by kernel_rfl) (by kernel_rfl) ?_
        repeat (go_big_quiet_step (fail))
        go_big_quiet_step ((go_at_call 39; exact hS _))
        repeat (go_big_quiet_step (fail))
        refine wpQuiet_nil ?_
        rintro w4 ⟨m2, hm2⟩
        have hb : Below w3.heap.size w3 w4 := by rw [hm2]; exact m2.2
        clear hm2 m2 la lb a b
        have HB4 := Lib.hid (HB3.out.trans (hb.mono HB3.out.size))
        clear hb HA3 HG3 HB3
        go_wp2_with fail
        go_ret
        exact ⟨rfl, HB4.out⟩




end Go.Proofs.YtofjlpnebfijoaaDoor
