/-
  Prefixes of the program: span.Last, Contains, Inside; addr.Mask, Last, Contains, Inside.
  Prefixes of sites: Via, ViaOf, Site, SiteOf.
  Prefixes of the program: addr.Last, Contains, Inside, Common, checkPrefixes.
  Prefixes of the program: addr.Inside, Common.
  Prefixes of the reference: sign, cmp, LastOf, Holds, Within, CommonOf.
  Orders of addresses: cmp.Compare, cmp.Or, span.Compare, addr.Compare of the program; Order of the reference: both compare the addresses' numbers.
  Quiet regions and calls that also never lower the count of draws: what a sort asks of its comparison.
  The comparisons that the sorts ask: of wide numbers, of addresses; the count of draws never goes down.
-/
import Derived.Test.YtcpafmndjcejjaaGreatDoorSE4
import Derived.StillTailTactics
import Derived.Sort.Grow
set_option linter.unusedVariables false
namespace Go.Proofs.YtcpafmndjcejjaaGreatDoor
open Go.RowKit Go
set_option linter.unusedVariables false

theorem addr_eql (s1 s2 : Bool) (h1 h2 l1 l2 : Int) (w : World) : (binOp .eql 29 (.agg #[.bool s1, .int .u64 h1, .int .u64 l1]) (.agg #[.bool s2, .int .u64 h2, .int .u64 l2])).run Tryz.prog w = .ok (.bool (decide ((s1, h1, l1) = (s2, h2, l2)))) w := by
  rw [run_eql_struct, show (10000 : Nat) = 9998 + 2 from rfl, addrEq]; rfl
set_option maxRecDepth 100000 in
set_option maxHeartbeats 1000000 in
theorem spanLast_any (six : Bool) (hi lo n : Nat) (w : World) (h1 : U64N hi) (h2 : U64N lo) (hn : n ≤ lenN six) :
    Calls Tryz.prog 109 #[vP six hi lo (n : Int)] w (Ret (vA six (fHi six hi n) (fLo six lo n)) w) := by
  have HF := Lib.hid fun wx => filled_any six hi lo n wx h1 h2 hn
  generalize fHi six hi n = rh at *
  generalize fLo six lo n = rl at *
  unfold vA at HF ⊢
  unfold vP
  have HP' : Blk ((w.alloc (.cells #[.bool six, .int .u64 (hi : Int), .int .u64 (lo : Int), .int .i64 (n : Int)] 45 (0, 0))).alloc (.cells #[.bool false, .int .u64 0, .int .u64 0] 29 (0, 0))) (w.heap.size) 45 #[.bool six, .int .u64 (hi : Int), .int .u64 (lo : Int), .int .i64 (n : Int)] := by
    have this := Blk.new w 45 #[.bool six, .int .u64 (hi : Int), .int .u64 (lo : Int), .int .i64 (n : Int)]
    exact (this.alloc _)
  have HP := Lib.hid HP'
  clear HP'
  have HR' : Blk ((w.alloc (.cells #[.bool six, .int .u64 (hi : Int), .int .u64 (lo : Int), .int .i64 (n : Int)] 45 (0, 0))).alloc (.cells #[.bool false, .int .u64 0, .int .u64 0] 29 (0, 0))) (w.heap.size + 1) 29 #[.bool false, .int .u64 0, .int .u64 0] := by
    have this := Blk.new (w.alloc (.cells #[.bool six, .int .u64 (hi : Int), .int .u64 (lo : Int), .int .i64 (n : Int)] 45 (0, 0))) 29 #[.bool false, .int .u64 0, .int .u64 0]
    rw [World.size_alloc] at this
    exact this
  have HR := Lib.hid HR'
  clear HR'
  have HB : Hid (Below w.heap.size w ((w.alloc (.cells #[.bool six, .int .u64 (hi : Int), .int .u64 (lo : Int), .int .i64 (n : Int)] 45 (0, 0))).alloc (.cells #[.bool false, .int .u64 0, .int .u64 0] 29 (0, 0)))) := Lib.hid (below_alloc (below_alloc (Below.refl _ _) _) _)
  go_enter Tryz.func109, Tryz.ntmps109
  go_upto_region 1 with fail
  generalize ((w.alloc (.cells #[.bool six, .int .u64 (hi : Int), .int .u64 (lo : Int), .int .i64 (n : Int)] 45 (0, 0))).alloc (.cells #[.bool false, .int .u64 0, .int .u64 0] 29 (0, 0))) = w1 at *
  have p0 := HP.out.cell 0
  have p1 := HP.out.cell 1
  have p2 := HP.out.cell 2
  have p3 := HP.out.cell 3
  simp at p0 p1 p2 p3
  go_wp2_with fail
  refine (HF.out _).mono ?_
  rintro e w2 ⟨rfl, hb⟩
  have HP2 := Lib.hid (HP.out.below hb HP.out.lt)
  have HR2 := Lib.hid (HR.out.below hb HR.out.lt)
  have HB2 := Lib.hid (HB.out.trans (hb.mono HB.out.size))
  clear hb HP HR HB
  clear p0 p1 p2 p3 HF
  have r0 := HR2.out.cell 0
  have r1 := HR2.out.cell 1
  have r2 := HR2.out.cell 2
  have rf := HR2.out.free
  simp at r0 r1 r2
  go_wp2_with fail
  refine bodyPost_ret (v := .agg #[.bool six, .int .u64 (rh : Int), .int .u64 (rl : Int)]) (by simp [results, Tryz.results109, go_sem, r0, r1, r2]) rfl ⟨rfl, ?_⟩
  repeat refine Below.setCell ?_ (by first | (simp; omega) | simp) _
  exact HB2.out



end Go.Proofs.YtcpafmndjcejjaaGreatDoor

namespace Go.Proofs.YtcpafmndjcejjaaGreatDoor
open Go.RowKit Go
set_option linter.unusedVariables false

theorem pFault_zero {six : Bool} {hi lo : Nat} {bits : Int} (h : pFault six hi lo bits = 0) : aFault six hi lo = 0 ∧ 0 ≤ bits ∧ bits ≤ (lenN six : Nat) := by
  unfold pFault at h
  by_cases h1 : aFault six (hi : Int) (lo : Int) ≠ 0
  · rw [if_pos h1] at h; cases h
  · rw [if_neg h1] at h
    by_cases h2 : outB bits 0 (lenN six : Nat) = true
    · rw [if_pos h2] at h; cases h
    · unfold outB at h2
      simp at h2
      exact ⟨by simpa using h1, by omega, by omega⟩
theorem aFault_four {hi lo : Nat} (h : aFault false hi lo = 0) : hi = 0 ∧ lo < 4294967296 := by
  unfold aFault at h
  split at h
  · cases h
  · rename_i hn
    simp at hn
    omega
end Go.Proofs.YtcpafmndjcejjaaGreatDoor

namespace Go.Proofs.YtcpafmndjcejjaaGreatDoor
open Go.RowKit Go
set_option linter.unusedVariables false

theorem pFault_nat {six : Bool} {hi lo : Nat} {bits : Int} (h : pFault six hi lo bits = 0) : ∃ n : Nat, bits = (n : Int) ∧ n ≤ lenN six := by
  obtain ⟨_, h1, h2⟩ := pFault_zero h
  obtain ⟨n, rfl⟩ := Int.eq_ofNat_of_zero_le h1
  exact ⟨n, rfl, by omega⟩
theorem pFault_pok {six : Bool} {hi lo n : Nat} (h : pFault six hi lo (n : Int) = 0) (h1 : U64N hi) (h2 : U64N lo) : POK six hi lo n := by
  obtain ⟨ha, _, hb⟩ := pFault_zero h
  refine ⟨⟨h1, h2, fun e => ?_⟩, by omega, ?_⟩
  · subst e
    obtain ⟨h3, h4⟩ := aFault_four ha
    exact ⟨h3, h4⟩
  · unfold pFault at h
    rw [if_neg (by rw [ha]; decide)] at h
    by_cases h3 : outB (n : Int) 0 (lenN six : Nat) = true
    · rw [if_pos h3] at h; cases h
    · rw [if_neg h3, Int.toNat_natCast] at h
      by_cases h4 : mHi six hi n ≠ hi ∨ mLo six lo n ≠ lo
      · rw [if_pos h4] at h; cases h
      · omega
end Go.Proofs.YtcpafmndjcejjaaGreatDoor

namespace Go.Proofs.YtcpafmndjcejjaaGreatDoor
open Go.RowKit Go
set_option linter.unusedVariables false
end Go.Proofs.YtcpafmndjcejjaaGreatDoor

namespace Go.Proofs.YtcpafmndjcejjaaGreatDoor
open Go.RowKit Go
set_option linter.unusedVariables false

def sgn (x : Int) : Int := if x < 0 then -1 else if x > 0 then 1 else 0
theorem sign_any (x : Int) (w : World) : Calls Tryz.prog 114 #[.int .i64 x] w (Ret (.int .i64 (sgn x)) w) := by
  by_cases h1 : x < 0
  · have e : sgn x = -1 := if_pos h1
    rw [e]
    go_enter Tryz.func114, Tryz.ntmps114
    go_wp2
    go_ret
    exact ⟨rfl, Below.refl _ _⟩
  · by_cases h2 : x > 0
    · have e : sgn x = 1 := by unfold sgn; rw [if_neg h1, if_pos h2]
      rw [e]
      go_enter Tryz.func114, Tryz.ntmps114
      go_wp2
      go_ret
      exact ⟨rfl, Below.refl _ _⟩
    · have e : sgn x = 0 := by unfold sgn; rw [if_neg h1, if_neg h2]
      rw [e]
      go_enter Tryz.func114, Tryz.ntmps114
      go_wp2
      go_ret
      exact ⟨rfl, Below.refl _ _⟩
theorem wv_get9 (six : Bool) (f : Nat → Nat) (d : Nat) (h : d < 9) : (wv six f)[d]? = some (.int .i64 ((dv six f d : Nat) : Int)) := by
  rcases Nat.lt_or_ge d 8 with h8 | h8
  · rw [wv_get _ _ _ h8]; unfold dv; rw [if_pos h8]
  · obtain rfl : d = 8 := by omega
    cases six <;> rfl

set_option maxRecDepth 100000 in
set_option maxHeartbeats 1000000 in
theorem wideCmp_any (s1 s2 : Bool) (f g : Nat → Nat) (w : World) (hf : ∀ d, f d < 65536) (hg : ∀ d, g d < 65536) :
    Calls Tryz.prog 82 #[.agg (wv s1 f), .agg (wv s2 g)] w (Ret (.int .i64 (cN (PW (dv s1 f) 9) (PW (dv s2 g) 9))) w) := by
  have HT : Hid (∀ i, i < 9 → (∀ j, i < j → j < 9 → dv s1 f j = dv s2 g j) → dv s1 f i ≠ dv s2 g i → sgn (((dv s1 f i : Nat) : Int) - ((dv s2 g i : Nat) : Int)) = cN (PW (dv s1 f) 9) (PW (dv s2 g) 9)) := Lib.hid fun i hi hab hne => by
    rw [cmp_top (dv_lt hf) (dv_lt hg) hi hab hne]
    unfold sgn
    by_cases h : dv s1 f i < dv s2 g i
    · rw [if_pos h, if_pos (by omega)]
    · rw [if_neg h, if_neg (by omega), if_pos (by omega)]
  have HS0 : Hid ((∀ j, j < 9 → dv s1 f j = dv s2 g j) → cN (PW (dv s1 f) 9) (PW (dv s2 g) 9) = 0) := Lib.hid cmp_same
  have HF := Lib.hid (dv_lt (six := s1) hf)
  have HH := Lib.hid (dv_lt (six := s2) hg)
  clear hf hg
  generalize cN (PW (dv s1 f) 9) (PW (dv s2 g) 9) = C at *
  have hsz := Tryz.sizeOf86
  have HA' : Blk ((w.alloc (.cells (wv s1 f) 86 (0, 0))).alloc (.cells (wv s2 g) 86 (0, 0))) (w.heap.size) 86 (wv s1 f) := by
    have this := Blk.new w 86 (wv s1 f)
    exact (this.alloc _)
  have HA := Lib.hid HA'
  clear HA'
  have HG' : Blk ((w.alloc (.cells (wv s1 f) 86 (0, 0))).alloc (.cells (wv s2 g) 86 (0, 0))) (w.heap.size + 1) 86 (wv s2 g) := by
    have this := Blk.new (w.alloc (.cells (wv s1 f) 86 (0, 0))) 86 (wv s2 g)
    rw [World.size_alloc] at this
    exact this
  have HG := Lib.hid HG'
  clear HG'
  have HB : Hid (Below w.heap.size w ((w.alloc (.cells (wv s1 f) 86 (0, 0))).alloc (.cells (wv s2 g) 86 (0, 0)))) := Lib.hid (below_alloc (below_alloc (Below.refl _ _) _) _)
  go_enter Tryz.func82, Tryz.ntmps82
  go_upto_region 1 with fail
  generalize ((w.alloc (.cells (wv s1 f) 86 (0, 0))).alloc (.cells (wv s2 g) 86 (0, 0))) = w1 at *
  go_wp2_with fail
  go_loopw [5] (fun i wr => ∃ k : Nat, k ≤ 9 ∧ i = .int .i64 ((k : Int) - 1) ∧ Hid (∀ j, k ≤ j → j < 9 → dv s1 f j = dv s2 g j) ∧ Hid (Blk wr (w.heap.size) 86 (wv s1 f)) ∧ Hid (Blk wr (w.heap.size + 1) 86 (wv s2 g)) ∧ Hid (Below w.heap.size w wr)) (fun i _ => (intOf i + 1).toNat)
  case atStart => exact ⟨9, Nat.le_refl _, rfl, Lib.hid fun j h1 h2 => by omega, HA, HG, HB⟩
  case round =>
    clear HA HG HB
    obtain ⟨k, hk, rfl, HE, HA, HG, HB⟩ := hrel
    by_cases hk0 : k = 0
    · subst hk0
      have hC := HS0.out fun j hj => HE.out j (Nat.zero_le _) hj
      have e0 : (((0 : Nat) : Int) - 1) = -1 := by omega
      rw [e0]
      subst hC
      clear HT HS0 HF HH HE
      go_wp2_with fail
      go_ret
      exact ⟨rfl, HB.out⟩
    · obtain ⟨j, rfl⟩ : ∃ j, k = j + 1 := ⟨k - 1, by omega⟩
      have ej : (((j + 1 : Nat) : Int) - 1) = (j : Int) := by omega
      rw [ej]
      have hj : j < 9 := by omega
      have a := HA.out.cell j
      rw [wv_get9 _ _ _ hj] at a
      have b := HG.out.cell j
      rw [wv_get9 _ _ _ hj] at b
      have hx := HF.out j
      have hy := HH.out j
      have HTj := Lib.hid (HT.out j hj fun i h1 h2 => HE.out i (by omega) h2)
      have HEj : Hid (dv s1 f j = dv s2 g j → ∀ i, j ≤ i → i < 9 → dv s1 f i = dv s2 g i) := Lib.hid fun e i h1 h2 => by
        rcases Nat.eq_or_lt_of_le h1 with h | h
        · subst h; exact e
        · exact HE.out i h h2
      clear HT HS0 HE HF HH
      generalize hxx : dv s1 f j = x at *
      generalize hyy : dv s2 g j = y at *
      have HX := Lib.hid hxx
      have HY := Lib.hid hyy
      clear hxx hyy
      have la := Later.cell_of a
      have lb := Later.cell_of b
      have b1 : (0 : Int) ≤ (j : Int) := by omega
      have b2 : (j : Int) < 9 := by omega
      by_cases hxy : x = y
      · have HE2 := Lib.hid (HEj.out hxy)
        subst hxy
        clear HEj HTj
        go_upto_region 4 with fail
        refine wp_region_later (by kernel_rfl) (by kernel_rfl) ?_
        repeat (go_big_quiet_step (fail))
        refine wpQuiet_nil ?_
        rintro w3 ⟨m2, hm2⟩
        have hb : Below wr.heap.size wr w3 := by rw [hm2]; exact m2.2
        clear hm2 m2 la lb a b
        have HA3 := Lib.hid (HA.out.below hb HA.out.lt)
        have HG3 := Lib.hid (HG.out.below hb HG.out.lt)
        have HB3 := Lib.hid (HB.out.trans (hb.mono HB.out.size))
        clear hb HA HG HB
        go_wp2_with fail
        exact ⟨⟨j, by omega, by go_num, HE2, HA3, HG3, HB3⟩, by simp [intOf]⟩
      · have hC := HTj.out hxy
        have hne : ((x : Int) != (y : Int)) = true := by simp; omega
        have hne2 : ¬ (x : Int) = (y : Int) := by omega
        have HS := Lib.hid fun wx => sign_any ((x : Int) - (y : Int)) wx
        rw [hC] at HS
        clear hC HEj HTj
        go_upto_region 4 with fail
        refine wp_region_later (by kernel_rfl) (by kernel_rfl) ?_
        repeat (go_big_quiet_step (fail))
        refine wpQuiet_nil ?_
        rintro w3 ⟨m2, hm2⟩
        have hb : Below wr.heap.size wr w3 := by rw [hm2]; exact m2.2
        clear hm2 m2 la lb a b
        have HA3 := Lib.hid (HA.out.below hb HA.out.lt)
        have HG3 := Lib.hid (HG.out.below hb HG.out.lt)
        have HB3 := Lib.hid (HB.out.trans (hb.mono HB.out.size))
        clear hb HA HG HB
        have a := HA3.out.cell j
        rw [wv_get9 _ _ _ hj, HX.out] at a
        have b := HG3.out.cell j
        rw [wv_get9 _ _ _ hj, HY.out] at b
        have la := Later.cell_of a
        have lb := Later.cell_of b
        have hS := fun m : Later w3 => Calls.later m (HS.out m.1)
        have e7 : IntKind.i64.wrap ((x : Int) - (y : Int)) = (x : Int) - (y : Int) := by rw [IntKind.wrap_i64]; omega
        have e8 : wrap64 ((x : Int) - (y : Int)) = (x : Int) - (y : Int) := by unfold wrap64; omega
        go_upto_region 5 with fail
        refine wp_region_later (by kernel_rfl) (by kernel_rfl) ?_
        repeat (go_big_quiet_step (fail))
        go_big_quiet_step ((go_at_call 114; exact hS _))
        repeat (go_big_quiet_step (fail))
        refine wpQuiet_nil ?_
        rintro w4 ⟨m2, hm2⟩
        have hb : Below w3.heap.size w3 w4 := by rw [hm2]; exact m2.2
        clear hm2 m2 la lb a b
        have HB4 := Lib.hid (HB3.out.trans (hb.mono HB3.out.size))
        clear hb HA3 HG3 HB3
        go_wp2_with fail
        go_ret
        exact ⟨rfl, HB4.out⟩




end Go.Proofs.YtcpafmndjcejjaaGreatDoor

namespace Go.Proofs.YtcpafmndjcejjaaGreatDoor
open Go.RowKit Go
set_option linter.unusedVariables false

theorem u64_le {x : Nat} (h : U64N x) : 0 ≤ (x : Int) ∧ (x : Int) ≤ 18446744073709551615 := by
  unfold U64N at h
  exact ⟨by omega, by omega⟩
theorem isNaNU_any (x : Int) (w : World) : Calls Tryz.prog 169 #[.int .u64 x] w fun e w' => e = .returned (.bool false) ∧ w' = w := by
  go_enter Tryz.func169, Tryz.ntmps169
  go_wp2
  go_ret
  exact ⟨by simp, rfl⟩
set_option maxHeartbeats 1000000 in
theorem cmpU64_any (a b : Nat) (w : World) (ha : U64N a) (hb : U64N b) : Calls Tryz.prog 144 #[.int .u64 (a : Int), .int .u64 (b : Int)] w fun e w' => e = .returned (.int .i64 (cN a b)) ∧ w' = w := by
  have a1 := u64_le ha
  have b1 := u64_le hb
  clear ha hb
  have HN := Lib.hid fun x wx => isNaNU_any x wx
  by_cases h1 : a < b
  · have e : cN a b = -1 := by unfold cN; rw [if_pos h1]
    rw [e]
    clear e
    go_enter Tryz.func144, Tryz.ntmps144
    go_wp2_with fail
    refine (HN.out _ _).mono ?_
    rintro e w' ⟨rfl, rfl⟩
    go_wp2_with fail
    refine (HN.out _ _).mono ?_
    rintro e w' ⟨rfl, rfl⟩
    go_wp2_with fail
    go_ret
    exact ⟨rfl, rfl⟩
  · by_cases h2 : b < a
    · have e : cN a b = 1 := by unfold cN; rw [if_neg h1, if_pos h2]
      rw [e]
      clear e
      go_enter Tryz.func144, Tryz.ntmps144
      go_wp2_with fail
      refine (HN.out _ _).mono ?_
      rintro e w' ⟨rfl, rfl⟩
      go_wp2_with fail
      refine (HN.out _ _).mono ?_
      rintro e w' ⟨rfl, rfl⟩
      go_wp2_with fail
      go_ret
      exact ⟨rfl, rfl⟩
    · obtain rfl : a = b := by omega
      rw [cN_same]
      clear h1 h2
      go_enter Tryz.func144, Tryz.ntmps144
      go_wp2_with fail
      refine (HN.out _ _).mono ?_
      rintro e w' ⟨rfl, rfl⟩
      go_wp2_with fail
      refine (HN.out _ _).mono ?_
      rintro e w' ⟨rfl, rfl⟩
      go_wp2_with fail
      go_ret
      exact ⟨rfl, rfl⟩
def orI (x y : Int) : Int := if x = 0 then y else x
set_option maxHeartbeats 1000000 in
theorem cmpOr_any (x y : Int) (g c : Nat) (w : World) (h0 : w.cell? ⟨g, 0, none⟩ = some (.int .i64 x)) (h1 : w.cell? ⟨g, 1, none⟩ = some (.int .i64 y)) :
    Calls Tryz.prog 143 #[.slice (some ⟨g, 0, none⟩) 2 c] w fun e w' => e = .returned (.int .i64 (orI x y)) ∧ w' = w := by
  by_cases hx : x = 0
  · subst hx
    have e : orI 0 y = y := if_pos rfl
    rw [e]
    clear e
    by_cases hy : y = 0
    · subst hy
      go_enter Tryz.func143, Tryz.ntmps143
      go_wp2_with fail
      refine wp_loop_rounds 3 ?_
      rw [rounds_succ]
      go_wp2_with fail
      rw [rounds_succ]
      go_wp2_with fail
      rw [rounds_succ]
      go_wp2_with fail
      go_ret
      exact ⟨rfl, rfl⟩
    · have hy2 : (y != 0) = true := by simpa using hy
      go_enter Tryz.func143, Tryz.ntmps143
      go_wp2_with fail
      refine wp_loop_rounds 2 ?_
      rw [rounds_succ]
      go_wp2_with fail
      rw [rounds_succ]
      go_wp2_with fail
      go_ret
      exact ⟨rfl, rfl⟩
  · have e : orI x y = x := if_neg hx
    rw [e]
    clear e
    have hx2 : (x != 0) = true := by simpa using hx
    go_enter Tryz.func143, Tryz.ntmps143
    go_wp2_with fail
    refine wp_loop_rounds 1 ?_
    rw [rounds_succ]
    go_wp2_with fail
    go_ret
    exact ⟨rfl, rfl⟩
theorem cN_lt {a b : Nat} (h : a < b) : cN a b = -1 := by unfold cN; rw [if_pos h]
theorem cN_gt {a b : Nat} (h : b < a) : cN a b = 1 := by unfold cN; rw [if_neg (by omega), if_pos h]
theorem cN_lex (T M h l h2 l2 : Nat) (a : l < M) (b : l2 < M) : cN (T + h * M + l) (T + h2 * M + l2) = orI (cN h h2) (cN l l2) := by
  rcases Nat.lt_trichotomy h h2 with k | rfl | k
  · have := Nat.mul_le_mul_right M (Nat.succ_le_of_lt k)
    rw [Nat.succ_eq_add_one, Nat.add_mul, Nat.one_mul] at this
    rw [cN_lt (show T + h * M + l < T + h2 * M + l2 by omega), cN_lt k]
    rfl
  · rw [cN_same]
    unfold orI
    rw [if_pos rfl]
    unfold cN
    by_cases h1 : l < l2
    · rw [if_pos h1, if_pos (by omega)]
    · by_cases h2 : l2 < l
      · rw [if_neg h1, if_pos h2, if_neg (by omega), if_pos (by omega)]
      · rw [if_neg h1, if_neg h2, if_neg (by omega), if_neg (by omega)]
  · have := Nat.mul_le_mul_right M (Nat.succ_le_of_lt k)
    rw [Nat.succ_eq_add_one, Nat.add_mul, Nat.one_mul] at this
    rw [cN_gt (show T + h2 * M + l2 < T + h * M + l by omega), cN_gt k]
    rfl
theorem cN_num {s : Bool} {h l h2 l2 : Nat} (a2 : U64N l) (a4 : U64N l2) : cN (numA s h l) (numA s h2 l2) = orI (cN h h2) (cN l l2) := by
  unfold numA
  exact cN_lex _ _ _ _ _ _ a2 a4
theorem cN_six {h l h2 l2 : Nat} (a1 : U64N h) (a2 : U64N l) : cN (numA false h l) (numA true h2 l2) = -1 := by
  unfold U64N at a1 a2
  unfold cN numA
  rw [if_pos]
  simp
  omega
theorem cN_six' {h l h2 l2 : Nat} (a3 : U64N h2) (a4 : U64N l2) : cN (numA true h l) (numA false h2 l2) = 1 := by
  unfold U64N at a3 a4
  unfold cN numA
  rw [if_neg, if_pos]
  · simp; omega
  · simp; omega
set_option maxRecDepth 100000 in
set_option maxHeartbeats 1000000 in
theorem spanCompare_any (s1 : Bool) (h1 l1 : Nat) (s2 : Bool) (h2 l2 : Nat) (w : World) (a1 : U64N h1) (a2 : U64N l1) (a3 : U64N h2) (a4 : U64N l2) :
    Calls Tryz.prog 108 #[.agg #[.bool s1, .int .u64 (h1 : Int), .int .u64 (l1 : Int)], .agg #[.bool s2, .int .u64 (h2 : Int), .int .u64 (l2 : Int)]] w (Ret (.int .i64 (cN (numA s1 h1 l1) (numA s2 h2 l2))) w) := by
  have HP' : Blk ((w.alloc (.cells #[.bool s1, .int .u64 (h1 : Int), .int .u64 (l1 : Int)] 29 (0, 0))).alloc (.cells #[.bool s2, .int .u64 (h2 : Int), .int .u64 (l2 : Int)] 29 (0, 0))) (w.heap.size) 29 #[.bool s1, .int .u64 (h1 : Int), .int .u64 (l1 : Int)] :=
    (Blk.new w 29 #[.bool s1, .int .u64 (h1 : Int), .int .u64 (l1 : Int)]).alloc _
  have HP := Lib.hid HP'
  clear HP'
  have HQ' : Blk ((w.alloc (.cells #[.bool s1, .int .u64 (h1 : Int), .int .u64 (l1 : Int)] 29 (0, 0))).alloc (.cells #[.bool s2, .int .u64 (h2 : Int), .int .u64 (l2 : Int)] 29 (0, 0))) (w.heap.size + 1) 29 #[.bool s2, .int .u64 (h2 : Int), .int .u64 (l2 : Int)] := by
    have this := Blk.new (w.alloc (.cells #[.bool s1, .int .u64 (h1 : Int), .int .u64 (l1 : Int)] 29 (0, 0))) 29 #[.bool s2, .int .u64 (h2 : Int), .int .u64 (l2 : Int)]
    rw [World.size_alloc] at this
    exact this
  have HQ := Lib.hid HQ'
  clear HQ'
  have HB : Hid (Below w.heap.size w ((w.alloc (.cells #[.bool s1, .int .u64 (h1 : Int), .int .u64 (l1 : Int)] 29 (0, 0))).alloc (.cells #[.bool s2, .int .u64 (h2 : Int), .int .u64 (l2 : Int)] 29 (0, 0)))) := Lib.hid (below_alloc (below_alloc (Below.refl _ _) _) _)
  by_cases hs : s1 = s2
  · subst hs
    have hC := cN_num (s := s1) (h := h1) (h2 := h2) a2 a4
    rw [hC]
    clear hC
    have HC1 := Lib.hid fun wx => cmpU64_any h1 h2 wx a1 a3
    have HC2 := Lib.hid fun wx => cmpU64_any l1 l2 wx a2 a4
    generalize cN h1 h2 = X at *
    generalize cN l1 l2 = Y at *
    go_enter Tryz.func108, Tryz.ntmps108
    go_upto_region 1 with fail
    generalize ((w.alloc (.cells #[.bool s1, .int .u64 (h1 : Int), .int .u64 (l1 : Int)] 29 (0, 0))).alloc (.cells #[.bool s1, .int .u64 (h2 : Int), .int .u64 (l2 : Int)] 29 (0, 0))) = w1 at *
    have p0 := HP.out.cell 0
    have p1 := HP.out.cell 1
    have p2 := HP.out.cell 2
    simp at p0 p1 p2
    have q0 := HQ.out.cell 0
    have q1 := HQ.out.cell 1
    have q2 := HQ.out.cell 2
    simp at q0 q1 q2
    have hsz : w.heap.size + 1 < w1.heap.size := HQ.out.lt
    go_upto_region 5 with fail
    have k1 := fun (m : Later w1) => m.cell (i := 1) (Nat.lt_of_succ_lt hsz)
    have k2 := fun (m : Later w1) => m.cell (i := 2) (Nat.lt_of_succ_lt hsz)
    have k3 := fun (m : Later w1) => m.cell (i := 1) hsz
    have k4 := fun (m : Later w1) => m.cell (i := 2) hsz
    refine wp_region_later_tail 10 (by kernel_rfl) (by kernel_rfl) ?_
    simp only [List.take_succ_cons, List.take_zero, List.drop_succ_cons, List.drop_zero]
    repeat (go_big_quiet_step (fail))
    go_big_quiet_step ((go_at_call 144; exact Calls.later_same _ ((HC1.out _).mono fun _ _ h => ⟨h.1, h.2.symm⟩)))
    repeat (go_big_quiet_step (fail))
    go_big_quiet_step ((go_at_call 144; exact Calls.later_same _ ((HC2.out _).mono fun _ _ h => ⟨h.1, h.2.symm⟩)))
    refine wpQuiet_nil ?_
    rintro w2 ⟨n2, hn2⟩
    subst hn2
    have HB2 := Lib.hid (HB.out.trans (n2.2.mono HB.out.size))
    obtain ⟨w2, hw2⟩ : ∃ w2, w2 = n2.1 := ⟨_, rfl⟩
    rw [← hw2] at HB2 ⊢
    clear hw2 k1 k2 k3 k4 p0 p1 p2 q0 q1 q2 HC1 HC2
    have HO := Lib.hid fun wx g (h : Blk wx g 3 #[.int .i64 X, .int .i64 Y]) => cmpOr_any X Y g 2 wx ((h.cell 0).trans rfl) ((h.cell 1).trans rfl)
    go_wp2_with fail
    refine (HO.out _ _ (Blk.new w2 _ _)).mono ?_
    rintro e w3 ⟨rfl, rfl⟩
    go_wp2_with fail
    go_ret
    exact ⟨rfl, below_alloc HB2.out _⟩
  · cases s1
    · obtain rfl : s2 = true := by cases s2 with | true => rfl | false => exact absurd rfl hs
      rw [cN_six a1 a2]
      go_enter Tryz.func108, Tryz.ntmps108
      go_upto_region 1 with fail
      generalize ((w.alloc (.cells #[.bool false, .int .u64 (h1 : Int), .int .u64 (l1 : Int)] 29 (0, 0))).alloc (.cells #[.bool true, .int .u64 (h2 : Int), .int .u64 (l2 : Int)] 29 (0, 0))) = w1 at *
      have p0 := HP.out.cell 0
      simp at p0
      have q0 := HQ.out.cell 0
      simp at q0
      go_wp2_with fail
      go_ret
      exact ⟨rfl, HB.out⟩
    · obtain rfl : s2 = false := by cases s2 with | false => rfl | true => exact absurd rfl hs
      rw [cN_six' a3 a4]
      go_enter Tryz.func108, Tryz.ntmps108
      go_upto_region 1 with fail
      generalize ((w.alloc (.cells #[.bool true, .int .u64 (h1 : Int), .int .u64 (l1 : Int)] 29 (0, 0))).alloc (.cells #[.bool false, .int .u64 (h2 : Int), .int .u64 (l2 : Int)] 29 (0, 0))) = w1 at *
      have p0 := HP.out.cell 0
      simp at p0
      have q0 := HQ.out.cell 0
      simp at q0
      go_wp2_with fail
      go_ret
      exact ⟨rfl, HB.out⟩
set_option maxRecDepth 100000 in
set_option maxHeartbeats 1000000 in
theorem aCompare_any (s1 : Bool) (h1 l1 : Nat) (s2 : Bool) (h2 l2 : Nat) (w : World) (a1 : U64N h1) (a2 : U64N l1) (a3 : U64N h2) (a4 : U64N l2) :
    Calls Tryz.prog 75 #[.agg #[.bool s1, .int .u64 (h1 : Int), .int .u64 (l1 : Int)], .agg #[.bool s2, .int .u64 (h2 : Int), .int .u64 (l2 : Int)]] w (Ret (.int .i64 (cN (numA s1 h1 l1) (numA s2 h2 l2))) w) := by
  have HP' : Blk ((w.alloc (.cells #[.bool s1, .int .u64 (h1 : Int), .int .u64 (l1 : Int)] 29 (0, 0))).alloc (.cells #[.bool s2, .int .u64 (h2 : Int), .int .u64 (l2 : Int)] 29 (0, 0))) (w.heap.size) 29 #[.bool s1, .int .u64 (h1 : Int), .int .u64 (l1 : Int)] :=
    (Blk.new w 29 #[.bool s1, .int .u64 (h1 : Int), .int .u64 (l1 : Int)]).alloc _
  have HP := Lib.hid HP'
  clear HP'
  have HQ' : Blk ((w.alloc (.cells #[.bool s1, .int .u64 (h1 : Int), .int .u64 (l1 : Int)] 29 (0, 0))).alloc (.cells #[.bool s2, .int .u64 (h2 : Int), .int .u64 (l2 : Int)] 29 (0, 0))) (w.heap.size + 1) 29 #[.bool s2, .int .u64 (h2 : Int), .int .u64 (l2 : Int)] := by
    have this := Blk.new (w.alloc (.cells #[.bool s1, .int .u64 (h1 : Int), .int .u64 (l1 : Int)] 29 (0, 0))) 29 #[.bool s2, .int .u64 (h2 : Int), .int .u64 (l2 : Int)]
    rw [World.size_alloc] at this
    exact this
  have HQ := Lib.hid HQ'
  clear HQ'
  have HB : Hid (Below w.heap.size w ((w.alloc (.cells #[.bool s1, .int .u64 (h1 : Int), .int .u64 (l1 : Int)] 29 (0, 0))).alloc (.cells #[.bool s2, .int .u64 (h2 : Int), .int .u64 (l2 : Int)] 29 (0, 0)))) := Lib.hid (below_alloc (below_alloc (Below.refl _ _) _) _)
  have HC := Lib.hid fun wx => spanCompare_any s1 h1 l1 s2 h2 l2 wx a1 a2 a3 a4
  generalize cN (numA s1 h1 l1) (numA s2 h2 l2) = C at *
  go_enter Tryz.func75, Tryz.ntmps75
  go_upto_region 1 with fail
  generalize ((w.alloc (.cells #[.bool s1, .int .u64 (h1 : Int), .int .u64 (l1 : Int)] 29 (0, 0))).alloc (.cells #[.bool s2, .int .u64 (h2 : Int), .int .u64 (l2 : Int)] 29 (0, 0))) = w1 at *
  have p0 := HP.out.cell 0
  have p1 := HP.out.cell 1
  have p2 := HP.out.cell 2
  simp at p0 p1 p2
  have q0 := HQ.out.cell 0
  have q1 := HQ.out.cell 1
  have q2 := HQ.out.cell 2
  simp at q0 q1 q2
  go_wp2_with fail
  refine (HC.out _).mono ?_
  rintro e w2 ⟨rfl, hb⟩
  go_wp2_with fail
  go_ret
  exact ⟨rfl, HB.out.trans (hb.mono HB.out.size)⟩
theorem PW_numA (six : Bool) (hi lo : Nat) (h1 : U64N hi) (h2 : U64N lo) : PW (dv six (dg hi lo)) 9 = numA six hi lo := by
  rw [PW_num, PS_dg_hi _ _ h1, PS_dg_lo _ _ h2]
set_option maxRecDepth 100000 in
set_option maxHeartbeats 1000000 in
theorem order_any (s1 : Bool) (h1 l1 : Nat) (s2 : Bool) (h2 l2 : Nat) (w : World) (a1 : U64N h1) (a2 : U64N l1) (a3 : U64N h2) (a4 : U64N l2) :
    Calls Tryz.prog 40 #[.agg #[.bool s1, .int .u64 (h1 : Int), .int .u64 (l1 : Int)], .agg #[.bool s2, .int .u64 (h2 : Int), .int .u64 (l2 : Int)]] w (Ret (.int .i64 (cN (numA s1 h1 l1) (numA s2 h2 l2))) w) := by
  have HP' : Blk ((w.alloc (.cells #[.bool s1, .int .u64 (h1 : Int), .int .u64 (l1 : Int)] 29 (0, 0))).alloc (.cells #[.bool s2, .int .u64 (h2 : Int), .int .u64 (l2 : Int)] 29 (0, 0))) (w.heap.size) 29 #[.bool s1, .int .u64 (h1 : Int), .int .u64 (l1 : Int)] :=
    (Blk.new w 29 #[.bool s1, .int .u64 (h1 : Int), .int .u64 (l1 : Int)]).alloc _
  have HP := Lib.hid HP'
  clear HP'
  have HQ' : Blk ((w.alloc (.cells #[.bool s1, .int .u64 (h1 : Int), .int .u64 (l1 : Int)] 29 (0, 0))).alloc (.cells #[.bool s2, .int .u64 (h2 : Int), .int .u64 (l2 : Int)] 29 (0, 0))) (w.heap.size + 1) 29 #[.bool s2, .int .u64 (h2 : Int), .int .u64 (l2 : Int)] := by
    have this := Blk.new (w.alloc (.cells #[.bool s1, .int .u64 (h1 : Int), .int .u64 (l1 : Int)] 29 (0, 0))) 29 #[.bool s2, .int .u64 (h2 : Int), .int .u64 (l2 : Int)]
    rw [World.size_alloc] at this
    exact this
  have HQ := Lib.hid HQ'
  clear HQ'
  have HB : Hid (Below w.heap.size w ((w.alloc (.cells #[.bool s1, .int .u64 (h1 : Int), .int .u64 (l1 : Int)] 29 (0, 0))).alloc (.cells #[.bool s2, .int .u64 (h2 : Int), .int .u64 (l2 : Int)] 29 (0, 0)))) := Lib.hid (below_alloc (below_alloc (Below.refl _ _) _) _)
  have HO1 := Lib.hid fun wx => of_any s1 h1 l1 wx a1 a2
  have HO2 := Lib.hid fun wx => of_any s2 h2 l2 wx a3 a4
  have HC := Lib.hid fun wx => wideCmp_any s1 s2 (dg h1 l1) (dg h2 l2) wx (dg_lt _ _) (dg_lt _ _)
  rw [PW_numA _ _ _ a1 a2, PW_numA _ _ _ a3 a4] at HC
  rw [wCells_wv] at HO1 HO2
  unfold vA at HO1 HO2
  generalize cN (numA s1 h1 l1) (numA s2 h2 l2) = C at *
  generalize wv s1 (dg h1 l1) = V1 at *
  generalize wv s2 (dg h2 l2) = V2 at *
  go_enter Tryz.func40, Tryz.ntmps40
  go_upto_region 1 with fail
  generalize ((w.alloc (.cells #[.bool s1, .int .u64 (h1 : Int), .int .u64 (l1 : Int)] 29 (0, 0))).alloc (.cells #[.bool s2, .int .u64 (h2 : Int), .int .u64 (l2 : Int)] 29 (0, 0))) = w1 at *
  have p0 := HP.out.cell 0
  have p1 := HP.out.cell 1
  have p2 := HP.out.cell 2
  simp at p0 p1 p2
  have q0 := HQ.out.cell 0
  have q1 := HQ.out.cell 1
  have q2 := HQ.out.cell 2
  simp at q0 q1 q2
  have hsz : w.heap.size + 1 < w1.heap.size := HQ.out.lt
  have k1 := fun (m : Later w1) => m.cell (i := 0) (Nat.lt_of_succ_lt hsz)
  have k2 := fun (m : Later w1) => m.cell (i := 1) (Nat.lt_of_succ_lt hsz)
  have k3 := fun (m : Later w1) => m.cell (i := 2) (Nat.lt_of_succ_lt hsz)
  have k4 := fun (m : Later w1) => m.cell (i := 0) hsz
  have k5 := fun (m : Later w1) => m.cell (i := 1) hsz
  have k6 := fun (m : Later w1) => m.cell (i := 2) hsz
  have hO1 := fun m : Later w1 => Calls.later m (HO1.out m.1)
  have hO2 := fun m : Later w1 => Calls.later m (HO2.out m.1)
  have hC := fun m : Later w1 => Calls.later m (HC.out m.1)
  refine wp_region_later (by kernel_rfl) (by kernel_rfl) ?_
  repeat (go_big_quiet_step (fail))
  go_big_quiet_step ((go_at_call 49; exact hO1 _))
  repeat (go_big_quiet_step (fail))
  go_big_quiet_step ((go_at_call 49; exact hO2 _))
  repeat (go_big_quiet_step (fail))
  go_big_quiet_step ((go_at_call 82; exact hC _))
  repeat (go_big_quiet_step (fail))
  refine wpQuiet_nil ?_
  rintro w2 ⟨n2, hn2⟩
  have hb : Below w1.heap.size w1 w2 := by rw [hn2]; exact n2.2
  clear hn2 n2 hO1 hO2 hC k1 k2 k3 k4 k5 k6
  have HB2 := Lib.hid (HB.out.trans (hb.mono HB.out.size))
  clear hb
  go_wp2_with fail
  go_ret
  exact ⟨rfl, HB2.out⟩
end Go.Proofs.YtcpafmndjcejjaaGreatDoor

namespace Go.Proofs.YtcpafmndjcejjaaGreatDoor
open Go.RowKit Go
set_option linter.unusedVariables false

/-- nothing that was there is changed, and the count of draws has not gone down -/
structure BelD (u v : World) : Prop where
  b : Below u.heap.size u v
  d : u.drawn ≤ v.drawn
theorem BelD.refl (u : World) : BelD u u := ⟨Below.refl _ _, Nat.le_refl _⟩
theorem BelD.trans {u v w : World} (h : BelD u v) (k : BelD v w) : BelD u w := ⟨h.b.trans (k.b.mono h.b.size), Nat.le_trans h.d k.d⟩
theorem BelD.alloc {u v : World} (h : BelD u v) (o : Obj) : BelD u (v.alloc o) := ⟨below_alloc h.b o, h.d⟩
theorem BelD.drewN {u v : World} (h : BelD u v) (n : Nat) : BelD u (v.drewN n) := ⟨below_drewN h.b n, Nat.le_trans h.d (Nat.le_add_right _ _)⟩
theorem BelD.drew {u v : World} (h : BelD u v) : BelD u v.drew := h.drewN 1
/-- as a sort's law spells it -/
theorem BelD.grow {u v : World} (h : BelD u v) : ∃ q os, v = Sort.grow (u.drewN q) os := by
  obtain ⟨hos, htape, hout, hsize, hblock⟩ := h.b
  have hd := h.d
  refine ⟨v.drawn - u.drawn, v.heap.extract u.heap.size v.heap.size, ?_⟩
  obtain ⟨vh, vt, vd, vo, vp⟩ := v
  obtain ⟨uh, ut, ud, uo, up⟩ := u
  simp only at hos htape hout hsize hblock hd
  subst hos htape hout
  have e1 : ud + (vd - ud) = vd := by omega
  have e2 : uh ++ vh.extract uh.size vh.size = vh := by
    apply Array.ext_getElem?
    intro i
    rcases Nat.lt_or_ge i uh.size with hi | hi
    · rw [Array.getElem?_append_left hi]; exact (hblock i hi).symm
    · rw [Array.getElem?_append_right hi, Array.getElem?_extract]
      rcases Nat.lt_or_ge i vh.size with h2 | h2
      · rw [if_pos (by omega), show uh.size + (i - uh.size) = i by omega]
      · rw [if_neg (by omega), Array.getElem?_eq_none h2]
  show (⟨vh, vt, vd, vo, vp⟩ : World) = ⟨uh ++ vh.extract uh.size vh.size, vt, ud + (vd - ud), vo, vp⟩
  rw [e1, e2]
/-- a pure function's contract, with the count of draws -/
def RetD (v : Value) (w : World) (e : Ending) (w' : World) : Prop := e = .returned v ∧ BelD w w'
theorem RetD.ret {v : Value} {w : World} {e : Ending} {w' : World} (h : RetD v w e w') : Ret v w e w' := ⟨h.1, h.2.b⟩
def LaterD (W : World) : Type := { w' : World // BelD W w' }
instance (W : World) : Inhabited (LaterD W) := ⟨⟨W, BelD.refl _⟩⟩
theorem LaterD.cell_of {W : World} {B i : Nat} {v : Value} (h : W.cell? ⟨B, i, none⟩ = some v) (n : LaterD W) : n.1.cell? ⟨B, i, none⟩ = some v := Later.cell_of h ⟨n.1, n.2.b⟩
theorem Calls.laterD {P : Program} {f : FuncId} {args : Array Value} {W : World} {v : Value} (n : LaterD W) (h : Calls P f args n.1 (RetD v n.1)) :
    Calls P f args n.1 fun e w'' => e = .returned v ∧ ∃ m : LaterD W, w'' = m.1 :=
  h.mono fun _ w'' ⟨he, hb⟩ => ⟨he, ⟨w'', n.2.trans hb⟩, rfl⟩
theorem wp_region_laterD {P : Program} {id : Nat} {Q : Exit → Act → World → Prop} {a : Act} {W : World} {l : List Oper} (hm : P.follows .mixedOrders = true) (hB : Region.lexB .any l.toArray = true)
    (h : wpQuiet P l.toArray (fun w' => ∃ n : LaterD W, w' = n.1) (fun a' => ∀ w', (∃ n : LaterD W, w' = n.1) → Q .normal a' w') l a) : (Code.region id l.toArray true).wp P Q a W :=
  wp_region_quiet (C := fun w' => ∃ n : LaterD W, w' = n.1) hm hB ⟨⟨W.drew, (BelD.refl W).drew⟩, rfl⟩ (by simpa using h)
theorem wp_region_laterD_tail {P : Program} {id : Nat} {Q : Exit → Act → World → Prop} {a : Act} {W : World} {l : List Oper} (n : Nat) (hm : P.follows .mixedOrders = true) (hB : Region.lexTailB .any l.toArray n = true)
    (h : wpQuiet P l.toArray (fun w' => ∃ m : LaterD W, w' = m.1) (fun a' => ∀ w', (∃ m : LaterD W, w' = m.1) → wpList P l.toArray Q (l.drop n) a' w') (l.take n) a) : (Code.region id l.toArray true).wp P Q a W := by
  simp only [Region.lexTailB, Bool.and_eq_true, decide_eq_true_eq] at hB
  obtain ⟨⟨⟨⟨hsel, hn⟩, hs⟩, hc⟩, hlex⟩ := hB
  have hn' : n < l.length := by simpa using hn
  have htl : (l.take n).length = n := by simp; omega
  have hdl : (l.drop n).length = l.toArray.size - n := by simp
  have inv0 : HeadInv .any l.toArray n (Array.replicate l.toArray.size false) :=
    ⟨by simp, fun j oj _ hl => (by rw [getD_replicate_false] at hl; cases hl), fun t _ ht => getD_in (by simpa using ht) (getD_replicate_false _ _)⟩
  have H := QL_lex (md := .any) (g := l.toArray.size - n) hsel hs hc hn (l.take n) 0 _ a (fun j hj => by
    have hj' : j < n := by rw [htl] at hj; exact hj
    simp [hj']) (by simpa using htl) inv0 (by rw [htl]; exact hlex) h
  refine wp_region_any hm ?_
  have := any_of_QL (Q' := Q) (g := l.toArray.size - n) (fun listed a' w' hw' hL => by
    have := wpAny_of_seq (md := .any) (Q' := Q) (l.drop n) n listed a' w' (fun j => by simp [List.getElem?_drop]) (by rw [hdl]; exact hL.1) (hL.2 w' hw')
    rwa [hdl] at this) _ _ _ { W with drawn := W.drawn + 1 } ⟨⟨W.drew, (BelD.refl W).drew⟩, rfl⟩ H
  rw [htl, show n + (l.toArray.size - n) = l.toArray.size by omega] at this
  exact this
end Go.Proofs.YtcpafmndjcejjaaGreatDoor

namespace Go.Proofs.YtcpafmndjcejjaaGreatDoor
open Go.RowKit Go
set_option linter.unusedVariables false

/-- nine digits -/
def wd (f : Nat → Nat) : Array Value := #[.int .i64 ((f 0 : Nat) : Int), .int .i64 ((f 1 : Nat) : Int), .int .i64 ((f 2 : Nat) : Int), .int .i64 ((f 3 : Nat) : Int), .int .i64 ((f 4 : Nat) : Int), .int .i64 ((f 5 : Nat) : Int), .int .i64 ((f 6 : Nat) : Int), .int .i64 ((f 7 : Nat) : Int), .int .i64 ((f 8 : Nat) : Int)]
theorem wd_get (f : Nat → Nat) (d : Nat) (h : d < 9) : (wd f)[d]? = some (.int .i64 ((f d : Nat) : Int)) := by
  have : d = 0 ∨ d = 1 ∨ d = 2 ∨ d = 3 ∨ d = 4 ∨ d = 5 ∨ d = 6 ∨ d = 7 ∨ d = 8 := by omega
  rcases this with rfl | rfl | rfl | rfl | rfl | rfl | rfl | rfl | rfl <;> rfl
theorem wv_wd (six : Bool) (f : Nat → Nat) : wv six f = wd (dv six f) := by cases six <;> rfl
theorem signD_any (x : Int) (w : World) : Calls Tryz.prog 114 #[.int .i64 x] w (RetD (.int .i64 (sgn x)) w) := by
  by_cases h1 : x < 0
  · have e : sgn x = -1 := if_pos h1
    rw [e]
    go_enter Tryz.func114, Tryz.ntmps114
    go_wp2
    go_ret
    exact ⟨rfl, BelD.refl _⟩
  · by_cases h2 : x > 0
    · have e : sgn x = 1 := by unfold sgn; rw [if_neg h1, if_pos h2]
      rw [e]
      go_enter Tryz.func114, Tryz.ntmps114
      go_wp2
      go_ret
      exact ⟨rfl, BelD.refl _⟩
    · have e : sgn x = 0 := by unfold sgn; rw [if_neg h1, if_neg h2]
      rw [e]
      go_enter Tryz.func114, Tryz.ntmps114
      go_wp2
      go_ret
      exact ⟨rfl, BelD.refl _⟩
set_option maxRecDepth 100000 in
set_option maxHeartbeats 1000000 in
theorem wideCmpD_any (f g : Nat → Nat) (w : World) (hf : ∀ d, f d < 65536) (hg : ∀ d, g d < 65536) :
    Calls Tryz.prog 82 #[.agg (wd f), .agg (wd g)] w (RetD (.int .i64 (cN (PW f 9) (PW g 9))) w) := by
  have HT : Hid (∀ i, i < 9 → (∀ j, i < j → j < 9 → f j = g j) → f i ≠ g i → sgn (((f i : Nat) : Int) - ((g i : Nat) : Int)) = cN (PW f 9) (PW g 9)) := Lib.hid fun i hi hab hne => by
    rw [cmp_top hf hg hi hab hne]
    unfold sgn
    by_cases h : f i < g i
    · rw [if_pos h, if_pos (by omega)]
    · rw [if_neg h, if_neg (by omega), if_pos (by omega)]
  have HS0 : Hid ((∀ j, j < 9 → f j = g j) → cN (PW f 9) (PW g 9) = 0) := Lib.hid cmp_same
  have HF := Lib.hid hf
  have HH := Lib.hid hg
  clear hf hg
  generalize cN (PW f 9) (PW g 9) = C at *
  have hsz := Tryz.sizeOf86
  have HA' : Blk ((w.alloc (.cells (wd f) 86 (0, 0))).alloc (.cells (wd g) 86 (0, 0))) (w.heap.size) 86 (wd f) := by
    have this := Blk.new w 86 (wd f)
    exact (this.alloc _)
  have HA := Lib.hid HA'
  clear HA'
  have HG' : Blk ((w.alloc (.cells (wd f) 86 (0, 0))).alloc (.cells (wd g) 86 (0, 0))) (w.heap.size + 1) 86 (wd g) := by
    have this := Blk.new (w.alloc (.cells (wd f) 86 (0, 0))) 86 (wd g)
    rw [World.size_alloc] at this
    exact this
  have HG := Lib.hid HG'
  clear HG'
  have HB : Hid (BelD w ((w.alloc (.cells (wd f) 86 (0, 0))).alloc (.cells (wd g) 86 (0, 0)))) := Lib.hid (((BelD.refl _).alloc _).alloc _)
  go_enter Tryz.func82, Tryz.ntmps82
  go_upto_region 1 with fail
  generalize ((w.alloc (.cells (wd f) 86 (0, 0))).alloc (.cells (wd g) 86 (0, 0))) = w1 at *
  go_wp2_with fail
  go_loopw [5] (fun i wr => ∃ k : Nat, k ≤ 9 ∧ i = .int .i64 ((k : Int) - 1) ∧ Hid (∀ j, k ≤ j → j < 9 → f j = g j) ∧ Hid (Blk wr (w.heap.size) 86 (wd f)) ∧ Hid (Blk wr (w.heap.size + 1) 86 (wd g)) ∧ Hid (BelD w wr)) (fun i _ => (intOf i + 1).toNat)
  case atStart => exact ⟨9, Nat.le_refl _, rfl, Lib.hid fun j h1 h2 => by omega, HA, HG, HB⟩
  case round =>
    clear HA HG HB
    obtain ⟨k, hk, rfl, HE, HA, HG, HB⟩ := hrel
    by_cases hk0 : k = 0
    · subst hk0
      have hC := HS0.out fun j hj => HE.out j (Nat.zero_le _) hj
      have e0 : (((0 : Nat) : Int) - 1) = -1 := by omega
      rw [e0]
      subst hC
      clear HT HS0 HF HH HE
      go_wp2_with fail
      go_ret
      exact ⟨rfl, HB.out⟩
    · obtain ⟨j, rfl⟩ : ∃ j, k = j + 1 := ⟨k - 1, by omega⟩
      have ej : (((j + 1 : Nat) : Int) - 1) = (j : Int) := by omega
      rw [ej]
      have hj : j < 9 := by omega
      have a := HA.out.cell j
      rw [wd_get _ _ hj] at a
      have b := HG.out.cell j
      rw [wd_get _ _ hj] at b
      have hx := HF.out j
      have hy := HH.out j
      have HTj := Lib.hid (HT.out j hj fun i h1 h2 => HE.out i (by omega) h2)
      have HEj : Hid (f j = g j → ∀ i, j ≤ i → i < 9 → f i = g i) := Lib.hid fun e i h1 h2 => by
        rcases Nat.eq_or_lt_of_le h1 with h | h
        · subst h; exact e
        · exact HE.out i h h2
      clear HT HS0 HE HF HH
      generalize hxx : f j = x at *
      generalize hyy : g j = y at *
      have HX := Lib.hid hxx
      have HY := Lib.hid hyy
      clear hxx hyy
      have la := LaterD.cell_of a
      have lb := LaterD.cell_of b
      have b1 : (0 : Int) ≤ (j : Int) := by omega
      have b2 : (j : Int) < 9 := by omega
      by_cases hxy : x = y
      · have HE2 := Lib.hid (HEj.out hxy)
        subst hxy
        clear HEj HTj
        go_upto_region 4 with fail
        refine wp_region_laterD (by kernel_rfl) (by kernel_rfl) ?_
        repeat (go_big_quiet_step (fail))
        refine wpQuiet_nil ?_
        rintro w3 ⟨m2, hm2⟩
        have hb : BelD wr w3 := by rw [hm2]; exact m2.2
        clear hm2 m2 la lb a b
        have HA3 := Lib.hid (HA.out.below hb.b HA.out.lt)
        have HG3 := Lib.hid (HG.out.below hb.b HG.out.lt)
        have HB3 := Lib.hid (HB.out.trans hb)
        clear hb HA HG HB
        go_wp2_with fail
        exact ⟨⟨j, by omega, by go_num, HE2, HA3, HG3, HB3⟩, by simp [intOf]⟩
      · have hC := HTj.out hxy
        have hne : ((x : Int) != (y : Int)) = true := by simp; omega
        have hne2 : ¬ (x : Int) = (y : Int) := by omega
        have HS := Lib.hid fun wx => signD_any ((x : Int) - (y : Int)) wx
        rw [hC] at HS
        clear hC HEj HTj
        go_upto_region 4 with fail
        refine wp_region_laterD (by kernel_rfl) (by kernel_rfl) ?_
        repeat (go_big_quiet_step (fail))
        refine wpQuiet_nil ?_
        rintro w3 ⟨m2, hm2⟩
        have hb : BelD wr w3 := by rw [hm2]; exact m2.2
        clear hm2 m2 la lb a b
        have HA3 := Lib.hid (HA.out.below hb.b HA.out.lt)
        have HG3 := Lib.hid (HG.out.below hb.b HG.out.lt)
        have HB3 := Lib.hid (HB.out.trans hb)
        clear hb HA HG HB
        have a := HA3.out.cell j
        rw [wd_get _ _ hj, HX.out] at a
        have b := HG3.out.cell j
        rw [wd_get _ _ hj, HY.out] at b
        have la := LaterD.cell_of a
        have lb := LaterD.cell_of b
        have hS := fun m : LaterD w3 => Calls.laterD m (HS.out m.1)
        have e7 : IntKind.i64.wrap ((x : Int) - (y : Int)) = (x : Int) - (y : Int) := by rw [IntKind.wrap_i64]; omega
        have e8 : wrap64 ((x : Int) - (y : Int)) = (x : Int) - (y : Int) := by unfold wrap64; omega
        go_upto_region 5 with fail
        refine wp_region_laterD (by kernel_rfl) (by kernel_rfl) ?_
        repeat (go_big_quiet_step (fail))
        go_big_quiet_step ((go_at_call 114; exact hS _))
        repeat (go_big_quiet_step (fail))
        refine wpQuiet_nil ?_
        rintro w4 ⟨m2, hm2⟩
        have hb : BelD w3 w4 := by rw [hm2]; exact m2.2
        clear hm2 m2 la lb a b
        have HB4 := Lib.hid (HB3.out.trans hb)
        clear hb HA3 HG3 HB3
        go_wp2_with fail
        go_ret
        exact ⟨rfl, HB4.out⟩
set_option maxRecDepth 100000 in
set_option maxHeartbeats 1000000 in
theorem spanCompareD_any (s1 : Bool) (h1 l1 : Nat) (s2 : Bool) (h2 l2 : Nat) (w : World) (a1 : U64N h1) (a2 : U64N l1) (a3 : U64N h2) (a4 : U64N l2) :
    Calls Tryz.prog 108 #[.agg #[.bool s1, .int .u64 (h1 : Int), .int .u64 (l1 : Int)], .agg #[.bool s2, .int .u64 (h2 : Int), .int .u64 (l2 : Int)]] w (RetD (.int .i64 (cN (numA s1 h1 l1) (numA s2 h2 l2))) w) := by
  have HP' : Blk ((w.alloc (.cells #[.bool s1, .int .u64 (h1 : Int), .int .u64 (l1 : Int)] 29 (0, 0))).alloc (.cells #[.bool s2, .int .u64 (h2 : Int), .int .u64 (l2 : Int)] 29 (0, 0))) (w.heap.size) 29 #[.bool s1, .int .u64 (h1 : Int), .int .u64 (l1 : Int)] :=
    (Blk.new w 29 #[.bool s1, .int .u64 (h1 : Int), .int .u64 (l1 : Int)]).alloc _
  have HP := Lib.hid HP'
  clear HP'
  have HQ' : Blk ((w.alloc (.cells #[.bool s1, .int .u64 (h1 : Int), .int .u64 (l1 : Int)] 29 (0, 0))).alloc (.cells #[.bool s2, .int .u64 (h2 : Int), .int .u64 (l2 : Int)] 29 (0, 0))) (w.heap.size + 1) 29 #[.bool s2, .int .u64 (h2 : Int), .int .u64 (l2 : Int)] := by
    have this := Blk.new (w.alloc (.cells #[.bool s1, .int .u64 (h1 : Int), .int .u64 (l1 : Int)] 29 (0, 0))) 29 #[.bool s2, .int .u64 (h2 : Int), .int .u64 (l2 : Int)]
    rw [World.size_alloc] at this
    exact this
  have HQ := Lib.hid HQ'
  clear HQ'
  have HB : Hid (BelD w ((w.alloc (.cells #[.bool s1, .int .u64 (h1 : Int), .int .u64 (l1 : Int)] 29 (0, 0))).alloc (.cells #[.bool s2, .int .u64 (h2 : Int), .int .u64 (l2 : Int)] 29 (0, 0)))) := Lib.hid (((BelD.refl _).alloc _).alloc _)
  by_cases hs : s1 = s2
  · subst hs
    have hC := cN_num (s := s1) (h := h1) (h2 := h2) a2 a4
    rw [hC]
    clear hC
    have HC1 := Lib.hid fun wx => cmpU64_any h1 h2 wx a1 a3
    have HC2 := Lib.hid fun wx => cmpU64_any l1 l2 wx a2 a4
    generalize cN h1 h2 = X at *
    generalize cN l1 l2 = Y at *
    go_enter Tryz.func108, Tryz.ntmps108
    go_upto_region 1 with fail
    generalize ((w.alloc (.cells #[.bool s1, .int .u64 (h1 : Int), .int .u64 (l1 : Int)] 29 (0, 0))).alloc (.cells #[.bool s1, .int .u64 (h2 : Int), .int .u64 (l2 : Int)] 29 (0, 0))) = w1 at *
    have p0 := HP.out.cell 0
    have p1 := HP.out.cell 1
    have p2 := HP.out.cell 2
    simp at p0 p1 p2
    have q0 := HQ.out.cell 0
    have q1 := HQ.out.cell 1
    have q2 := HQ.out.cell 2
    simp at q0 q1 q2
    have hsz : w.heap.size + 1 < w1.heap.size := HQ.out.lt
    go_upto_region 5 with fail
    have k1 := fun (m : LaterD w1) => Later.cell (W := w1) ⟨m.1, m.2.b⟩ (i := 1) (Nat.lt_of_succ_lt hsz)
    have k2 := fun (m : LaterD w1) => Later.cell (W := w1) ⟨m.1, m.2.b⟩ (i := 2) (Nat.lt_of_succ_lt hsz)
    have k3 := fun (m : LaterD w1) => Later.cell (W := w1) ⟨m.1, m.2.b⟩ (i := 1) hsz
    have k4 := fun (m : LaterD w1) => Later.cell (W := w1) ⟨m.1, m.2.b⟩ (i := 2) hsz
    refine wp_region_laterD_tail 10 (by kernel_rfl) (by kernel_rfl) ?_
    simp only [List.take_succ_cons, List.take_zero, List.drop_succ_cons, List.drop_zero]
    repeat (go_big_quiet_step (fail))
    go_big_quiet_step ((go_at_call 144; exact (HC1.out _).mono fun _ _ h => ⟨h.1, _, h.2⟩))
    repeat (go_big_quiet_step (fail))
    go_big_quiet_step ((go_at_call 144; exact (HC2.out _).mono fun _ _ h => ⟨h.1, _, h.2⟩))
    refine wpQuiet_nil ?_
    rintro w2 ⟨n2, hn2⟩
    subst hn2
    have HB2 := Lib.hid (HB.out.trans n2.2)
    obtain ⟨w2, hw2⟩ : ∃ w2, w2 = n2.1 := ⟨_, rfl⟩
    rw [← hw2] at HB2 ⊢
    clear hw2 k1 k2 k3 k4 p0 p1 p2 q0 q1 q2 HC1 HC2
    have HO := Lib.hid fun wx g (h : Blk wx g 3 #[.int .i64 X, .int .i64 Y]) => cmpOr_any X Y g 2 wx ((h.cell 0).trans rfl) ((h.cell 1).trans rfl)
    go_wp2_with fail
    refine (HO.out _ _ (Blk.new w2 _ _)).mono ?_
    rintro e w3 ⟨rfl, rfl⟩
    go_wp2_with fail
    go_ret
    exact ⟨rfl, HB2.out.alloc _⟩
  · cases s1
    · obtain rfl : s2 = true := by cases s2 with | true => rfl | false => exact absurd rfl hs
      rw [cN_six a1 a2]
      go_enter Tryz.func108, Tryz.ntmps108
      go_upto_region 1 with fail
      generalize ((w.alloc (.cells #[.bool false, .int .u64 (h1 : Int), .int .u64 (l1 : Int)] 29 (0, 0))).alloc (.cells #[.bool true, .int .u64 (h2 : Int), .int .u64 (l2 : Int)] 29 (0, 0))) = w1 at *
      have p0 := HP.out.cell 0
      simp at p0
      have q0 := HQ.out.cell 0
      simp at q0
      go_wp2_with fail
      go_ret
      exact ⟨rfl, HB.out⟩
    · obtain rfl : s2 = false := by cases s2 with | false => rfl | true => exact absurd rfl hs
      rw [cN_six' a3 a4]
      go_enter Tryz.func108, Tryz.ntmps108
      go_upto_region 1 with fail
      generalize ((w.alloc (.cells #[.bool true, .int .u64 (h1 : Int), .int .u64 (l1 : Int)] 29 (0, 0))).alloc (.cells #[.bool false, .int .u64 (h2 : Int), .int .u64 (l2 : Int)] 29 (0, 0))) = w1 at *
      have p0 := HP.out.cell 0
      simp at p0
      have q0 := HQ.out.cell 0
      simp at q0
      go_wp2_with fail
      go_ret
      exact ⟨rfl, HB.out⟩
end Go.Proofs.YtcpafmndjcejjaaGreatDoor
