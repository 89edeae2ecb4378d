/-
  slices.Equal at rows of prefixes and of ranges.
  addr.set, checkPrefixes, Least of the program.
  addr.Least, CheckSet, Ranges of the program.
  addr.CheckSet of the program.
  addr.Ranges and addr.Span of the program.
  A variable made and filled: alloc and store of a whole value at once, the cells whatever.
-/
import Derived.Test.YtaeieigdibanlaaGreatDoorST8
import Derived.Test.YtaeieigdibanlaaGreatDoorST3
import Derived.Deep.MidRow
import Derived.Deep.WholeRow
import Derived.Great.Walk
import Derived.BigQuiet
import Derived.Great.BuildSlice
import Derived.Great.FillDense
set_option linter.unusedVariables false
namespace Go.Proofs.YtaeieigdibanlaaGreatDoor
open Go.RowKit Go
set_option linter.unusedVariables false

theorem pf_ext (x y : Pf) : (((x.1, ((x.2.1 : Nat) : Int), ((x.2.2.1 : Nat) : Int), x.2.2.2) : Bool × Int × Int × Int) = (y.1, ((y.2.1 : Nat) : Int), ((y.2.2.1 : Nat) : Int), y.2.2.2)) ↔ x = y := by
  constructor
  · intro h
    have h1 := congrArg (·.1) h
    have h2 : ((x.2.1 : Nat) : Int) = ((y.2.1 : Nat) : Int) := congrArg (·.2.1) h
    have h3 : ((x.2.2.1 : Nat) : Int) = ((y.2.2.1 : Nat) : Int) := congrArg (·.2.2.1) h
    have h4 := congrArg (·.2.2.2) h
    exact Prod.ext h1 (Prod.ext (by show x.2.1 = y.2.1; omega) (Prod.ext (by show x.2.2.1 = y.2.2.1; omega) h4))
  · rintro rfl; rfl
theorem pf_neq (x y : Pf) (w : World) : (binOp .neq 90 (.agg #[.bool x.1, .int .u64 ((x.2.1 : Nat) : Int), .int .u64 ((x.2.2.1 : Nat) : Int), .int .i64 x.2.2.2]) (.agg #[.bool y.1, .int .u64 ((y.2.1 : Nat) : Int), .int .u64 ((y.2.2.1 : Nat) : Int), .int .i64 y.2.2.2])).run Tryz.prog w = .ok (.bool (!decide (x = y))) w := by
  rw [pfx_neq, decide_eq_decide.2 (pf_ext x y)]
set_option maxRecDepth 100000 in
set_option maxHeartbeats 1000000 in
theorem equal_pf (a1 a2 : Option Addr) (c1 c2 : Nat) (xs ys : List Pf) (w : World) (h1 : RdK layPf w a1 xs) (h2 : RdK layPf w a2 ys) (hs1 : xs.length ≤ 1000000000) :
    Calls Tryz.prog 67 #[.slice a1 xs.length c1, .slice a2 ys.length c2] w fun e w' => e = .returned (.bool (decide (xs = ys))) ∧ ∃ n, w' = w.drewN n := by
  generalize hn : xs.length = n
  rw [hn] at hs1
  have H1 := Lib.hid h1
  have H2 := Lib.hid h2
  clear h1 h2
  by_cases hl : xs.length = ys.length
  · rw [← hl, hn]
    have Hn := Lib.hid hn
    have Hl := Lib.hid hl
    clear hn hl
    go_enter Tryz.func67, Tryz.ntmps67
    go_wp2
    go_loopw [13] (fun i wr => ∃ (k q : Nat), k ≤ n ∧ i = .int .i64 k ∧ Hid (xs.take k = ys.take k) ∧ wr = w.drewN q) (fun i _ => n - (intOf i).toNat)
    case atStart => exact ⟨0, 0, Nat.zero_le _, rfl, Lib.hid rfl, rfl⟩
    case round =>
      obtain ⟨k, q, hk, rfl, Heq, rfl⟩ := hrel
      by_cases hlt : k < n
      · have hkx : k < xs.length := by rw [Hn.out]; exact hlt
        have hky : k < ys.length := by rw [← Hl.out]; exact hkx
        obtain ⟨x, hxk⟩ : ∃ x, xs[k]? = some x := ⟨_, List.getElem?_eq_getElem hkx⟩
        obtain ⟨y, hyk⟩ : ∃ y, ys[k]? = some y := ⟨_, List.getElem?_eq_getElem hky⟩
        have hx : xs.take (k + 1) = xs.take k ++ [x] := by
          have e : xs[k] = x := by rw [List.getElem?_eq_getElem hkx] at hxk; injection hxk
          rw [List.take_succ_eq_append_getElem hkx, e]
        have hy : ys.take (k + 1) = ys.take k ++ [y] := by
          have e : ys[k] = y := by rw [List.getElem?_eq_getElem hky] at hyk; injection hyk
          rw [List.take_succ_eq_append_getElem hky, e]
        have hne : xs = ys → x = y := by
          rintro rfl
          rw [hxk] at hyk
          injection hyk
        have Hx := Lib.hid hx
        have Hy := Lib.hid hy
        have Hne := Lib.hid hne
        obtain ⟨g1, o1, e1, hg1, c10, c11, c12, c13⟩ := H1.out.pf hxk rfl
        obtain ⟨g2, o2, e2, hg2, c20, c21, c22, c23⟩ := H2.out.pf hyk rfl
        have np := fun w => pf_neq x y w
        subst e1 e2
        clear hx hy hne hkx hky hxk hyk hg1 hg2
        generalize x.1 = x0 at *
        generalize x.2.1 = x1 at *
        generalize x.2.2.1 = x2 at *
        generalize x.2.2.2 = x3 at *
        generalize y.1 = y0 at *
        generalize y.2.1 = y1 at *
        generalize y.2.2.1 = y2 at *
        generalize y.2.2.2 = y3 at *
        by_cases hxy : x = y
        · rw [decide_eq_true hxy] at np
          have Hxy := Lib.hid hxy
          clear hxy
          go_wp2_with fail
          go_quiet (fail)
          go_wp2_with fail
          refine ⟨⟨k + 1, _, by omega, by go_num, Lib.hid ?_, rfl⟩, by simp [intOf]; omega⟩
          rw [Hx.out, Hy.out, Heq.out, Hxy.out]
        · rw [decide_eq_false hxy] at np
          have Hxy : Hid (decide (xs = ys) = false) := Lib.hid (decide_eq_false fun e => hxy (Hne.out e))
          clear hxy
          go_wp2_with fail
          go_quiet (fail)
          go_wp2_with fail
          go_ret
          exact ⟨by rw [Hxy.out]; rfl, q + nq, by rw [World.drewN_drewN]⟩
      · obtain rfl : k = n := by omega
        have hxy : xs = ys := by
          have := Heq.out
          rwa [List.take_of_length_le (by rw [Hn.out]; exact Nat.le_refl _), List.take_of_length_le (by rw [← Hl.out, Hn.out]; exact Nat.le_refl _)] at this
        have Hxy := Lib.hid hxy
        clear hxy
        go_wp2
        go_ret
        exact ⟨by simp [Hxy.out], _, rfl⟩
  · have hxy : xs ≠ ys := fun e => hl (by rw [e])
    have Hxy := Lib.hid hxy
    have hnb : ((n : Int) != (ys.length : Int)) = true := by rw [bne_iff_ne]; omega
    have hnb2 : n ≠ ys.length := by omega
    clear hxy hn hl
    go_enter Tryz.func67, Tryz.ntmps67
    go_wp2
    go_ret
    exact ⟨by simp [Hxy.out], 0, rfl⟩
end Go.Proofs.YtaeieigdibanlaaGreatDoor

namespace Go.Proofs.YtaeieigdibanlaaGreatDoor
open Go.RowKit Go
set_option linter.unusedVariables false

/-- the first number of n that is not 0 -/
def firstN (f : Nat → Int) (n : Nat) : Int := (((List.range n).map f).find? (· != 0)).getD 0
theorem firstN_hit (f : Nat → Int) : ∀ (n k : Nat), k < n → (∀ j, j < k → f j = 0) → f k ≠ 0 → firstN f n = f k := by
  intro n
  induction n with
  | zero => intro k hk; omega
  | succ n ih =>
    intro k hk h0 hne
    unfold firstN at ih ⊢
    rw [List.range_succ, List.map_append, List.find?_append]
    rcases Nat.lt_or_ge k n with hlt | hge
    · have := ih k hlt h0 hne
      cases hf : ((List.range n).map f).find? (· != 0) with
      | none => rw [hf] at this; exact absurd this.symm hne
      | some x => rw [hf] at this; simpa using this
    · obtain rfl : k = n := by omega
      have hf : ((List.range k).map f).find? (· != 0) = none := by
        rw [List.find?_eq_none]
        intro x hx
        obtain ⟨j, hj, rfl⟩ := List.mem_map.1 hx
        simp [h0 j (List.mem_range.1 hj)]
      rw [hf]
      simp [hne]
theorem firstN_none (f : Nat → Int) (n : Nat) (h0 : ∀ j, j < n → f j = 0) : firstN f n = 0 := by
  unfold firstN
  have hf : ((List.range n).map f).find? (· != 0) = none := by
    rw [List.find?_eq_none]
    intro x hx
    obtain ⟨j, hj, rfl⟩ := List.mem_map.1 hx
    simp [h0 j (List.mem_range.1 hj)]
  rw [hf]
  rfl
theorem firstN_zero {f : Nat → Int} {n : Nat} (h : firstN f n = 0) : ∀ j, j < n → f j = 0 := by
  intro j
  induction j using Nat.strongRecOn with
  | _ j ih =>
    intro hj
    rcases Classical.em (f j = 0) with h0 | h0
    · exact h0
    · rw [firstN_hit f n j hj (fun i hi => ih i hi (by omega)) h0] at h
      exact absurd h h0
def pfF (p : Pf) : Int := pFault p.1 p.2.1 p.2.2.1 p.2.2.2
def zPf : Pf := (false, 0, 0, 0)
/-- numbers that a uint64 holds -/
def U4 (L : List Pf) : Prop := ∀ p ∈ L, U64N p.2.1 ∧ U64N p.2.2.1
end Go.Proofs.YtaeieigdibanlaaGreatDoor

namespace Go.Proofs.YtaeieigdibanlaaGreatDoor
open Go.RowKit Go
set_option linter.unusedVariables false

/-- the least set of prefixes -/
def lst (L : List Pf) : List Pf := pfs (jn (L.map spP))
theorem jn_vr {L : List Sp} (hv : ∀ p ∈ L, VR p) : ∀ p ∈ jn L, VR p := by
  have hs := jn_srt L
  have hp := jn_perm L
  have := (vr_take hs (fun p h => hv p (hp.mem_iff.1 h)) _ (Nat.le_refl _)).1
  rw [List.take_length] at this
  exact this
theorem sps_vr {L : List Pf} (hv : ∀ p ∈ L, OkPf p) : ∀ p ∈ jn (L.map spP), VR p := jn_vr fun p hp => by
  obtain ⟨q, hq, rfl⟩ := List.mem_map.1 hp
  exact (hv q hq).vr
theorem jn_len (L : List Sp) : (jn L).length ≤ L.length := by
  unfold jn joinL
  have := fold_len (L.mergeSort fun p q => decide (p.1 ≤ q.1)) []
  rw [(jn_perm L).length_eq] at this
  simpa using this
/-- no more than the prefixes of which it is made -/
theorem lst_len {L : List Pf} (hv : ∀ p ∈ L, OkPf p) : (lst L).length ≤ L.length := by
  have hvr : ∀ p ∈ L.map spP, VR p := fun p hp => by
    obtain ⟨q, hq, rfl⟩ := List.mem_map.1 hp
    exact (hv q hq).vr
  have := allB_len (jn_joined fun p hp => (hvr p hp).le) (fun p hp => by
    obtain ⟨q, hq, rfl⟩ := List.mem_map.1 hp
    exact ⟨_, (hv q hq).sp⟩) (fun c hc => by
    have := jn_vr hvr c hc
    rw [LN_six, LN_six, this.s])
  rw [List.length_map] at this
  unfold lst pfs
  rw [List.length_map]
  exact this
end Go.Proofs.YtaeieigdibanlaaGreatDoor

namespace Go.Proofs.YtaeieigdibanlaaGreatDoor
open Go.RowKit Go
set_option linter.unusedVariables false

/-- the fault at a place of a set -/
def fAt (L : List Pf) (i : Nat) : Int := if pfF (L.getD i zPf) ≠ 0 then pfF (L.getD i zPf) else if 0 < i ∧ nuP (L.getD i zPf) ≤ nuP (L.getD (i - 1) zPf) then 7 else 0
theorem fAt_zero {L : List Pf} {i : Nat} (h : fAt L i = 0) : pfF (L.getD i zPf) = 0 := by
  unfold fAt at h
  by_cases h1 : pfF (L.getD i zPf) ≠ 0
  · rw [if_pos h1] at h; exact h
  · simpa using h1
def scanF (L : List Pf) : Int := firstN (fAt L) L.length
/-- CheckSet -/
def setF (L : List Pf) : Int := if 1000 < L.length then 2 else if scanF L ≠ 0 then scanF L else if lst L = L then 0 else 16
set_option maxRecDepth 100000 in
set_option maxHeartbeats 4000000 in
theorem checkSet_any (ad : Option Addr) (n c : Nat) (L : List Pf) (w : World) (h : RdK layPf w ad L) (hn : L.length = n) (hs : n ≤ 100000) (hu : U4 L) :
    Calls Tryz.prog 73 #[.slice ad n c] w (Ret (.int .i64 (setF L)) w) := by
  by_cases hb : 1000 < n
  · have e : setF L = 2 := by unfold setF; rw [hn, if_pos hb]
    rw [e]
    have hb2 : (n : Int) > 1000 := by omega
    clear h hu hn e
    go_enter Tryz.func73, Tryz.ntmps73
    go_wp2_with fail
    go_ret
    exact ⟨rfl, Below.refl _ _⟩
  · have hb2 : ¬ (n : Int) > 1000 := by omega
    have H0 := Lib.hid h
    have Hn := Lib.hid hn
    have Hu := Lib.hid hu
    have HF : Hid (∀ k, k < n → (∀ j, j < k → fAt L j = 0) → fAt L k ≠ 0 → setF L = fAt L k) := Lib.hid fun k hk h1 h2 => by
      have e := firstN_hit (fAt L) n k hk h1 h2
      unfold setF scanF
      rw [hn, if_neg hb, if_pos (by rw [e]; exact h2), e]
    have HZ : Hid ((∀ j, j < n → fAt L j = 0) → (∀ p ∈ L, OkPf p) ∧ (lst L = L → setF L = 0) ∧ (lst L ≠ L → setF L = 16)) := Lib.hid fun h1 => by
      have e := firstN_none (fAt L) n h1
      refine ⟨fun p hp => ?_, fun h2 => ?_, fun h2 => ?_⟩
      · obtain ⟨i, hi, rfl⟩ := List.getElem_of_mem hp
        have := fAt_zero (h1 i (by omega))
        simp only [List.getD, List.getElem?_eq_getElem hi, Option.getD_some] at this
        obtain ⟨u1, u2⟩ := hu _ (List.getElem_mem hi)
        exact okPf_of this u1 u2
      · unfold setF scanF
        rw [hn, if_neg hb, e, if_neg (by decide), if_pos h2]
      · unfold setF scanF
        rw [hn, if_neg hb, e, if_neg (by decide), if_neg h2]
    obtain ⟨af, haf⟩ : ∃ z, setF L = z := ⟨_, rfl⟩
    rw [haf] at HF HZ ⊢
    clear haf h hn hu hb
    go_enter Tryz.func73, Tryz.ntmps73
    go_wp2_with fail
    go_loopw [3, 4, 5, 11] (fun iv bx ev i wr => ∃ (k : Nat), k ≤ n ∧ i = .int .i64 k ∧ Hid (∀ j, j < k → fAt L j = 0) ∧ Hid (Below w.heap.size w wr)) (fun _ _ _ i _ => n - (intOf i).toNat)
    case atStart => exact ⟨0, Nat.zero_le _, rfl, Lib.hid fun j hj => absurd hj (Nat.not_lt_zero _), Lib.hid (Below.refl _ _)⟩
    case round =>
      obtain ⟨k, hk, rfl, HX, HB⟩ := hrel
      by_cases hlt : k < n
      · have hS : k < L.length := by rw [Hn.out]; exact hlt
        obtain ⟨p, hp⟩ : ∃ p, L[k]? = some p := ⟨_, List.getElem?_eq_getElem hS⟩
        have hpd : L.getD k zPf = p := by simp [List.getD, hp]
        have HU := Lib.hid (Hu.out p (List.mem_of_getElem? hp))
        obtain ⟨g, o, had, hg, c0, c1, c2, c3⟩ := (H0.out.below HB.out).pf hp rfl
        subst had
        have HP := Lib.hid fun wx => checkPrefix_any p.1 p.2.1 p.2.2.1 p.2.2.2 wx HU.out.1 HU.out.2
        have HFk := Lib.hid (HF.out k hlt HX.out)
        have HXk : Hid (fAt L k = 0 → ∀ j, j < k + 1 → fAt L j = 0) := Lib.hid fun e j hj => by
          rcases Nat.lt_or_ge j k with h1 | h1
          · exact HX.out j h1
          · obtain rfl : j = k := by omega
            exact e
        have HA : Hid (fAt L k = if pfF p ≠ 0 then pfF p else if 0 < k ∧ nuP p ≤ nuP (L.getD (k - 1) zPf) then 7 else 0) := Lib.hid (by unfold fAt; rw [hpd])
        have HNu : Hid (nuP p = numA p.1 p.2.1 p.2.2.1) := Lib.hid rfl
        unfold pfF at HA
        skip
        clear hp hS hpd hg HX
        generalize hFe : pFault p.1 p.2.1 p.2.2.1 p.2.2.2 = F at *
        clear hFe
        generalize p.1 = a1 at *
        generalize p.2.1 = a2 at *
        generalize p.2.2.1 = a3 at *
        generalize p.2.2.2 = a4 at *
        have HB1 : Hid (Below w.heap.size w (wr.alloc (.cells #[.bool a1, .int .u64 (a2 : Int), .int .u64 (a3 : Int), .int .i64 a4] 90 (0, 0)))) := Lib.hid (Below.alloc HB.out HB.out.size _)
        have HP1 : Hid (Blk (wr.alloc (.cells #[.bool a1, .int .u64 (a2 : Int), .int .u64 (a3 : Int), .int .i64 a4] 90 (0, 0))) wr.heap.size 90 #[.bool a1, .int .u64 (a2 : Int), .int .u64 (a3 : Int), .int .i64 a4]) := Lib.hid (Blk.new wr _ _)
        go_upto_region 6 with fail
        generalize wr.alloc (.cells #[.bool a1, .int .u64 (a2 : Int), .int .u64 (a3 : Int), .int .i64 a4] 90 (0, 0)) = w3 at *
        generalize wr.heap.size = bx at *
        clear HB c0 c1 c2 c3
        have d0 := HP1.out.cell 0
        have d1 := HP1.out.cell 1
        have d2 := HP1.out.cell 2
        have d3 := HP1.out.cell 3
        simp at d0 d1 d2 d3
        go_wp2_with fail
        refine (HP.out _).mono ?_
        rintro e w4 ⟨rfl, hb⟩
        have HB4 := Lib.hid (HB1.out.trans (hb.mono HB1.out.size))
        have HP4 := Lib.hid (HP1.out.below hb HP1.out.lt)
        clear hb HB1 HP1 HP d0 d1 d2 d3
        by_cases hF0 : F = 0
        · rcases Nat.eq_zero_or_pos k with hk0 | hk0
          · have HX2 := Lib.hid (HXk.out (by rw [HA.out, if_neg (by simp [hF0]), if_neg (by omega)]))
            subst hF0 hk0
            have z0 : ((0 : Nat) : Int) = 0 := rfl
            simp only [z0]
            clear HFk HXk HA HNu HU
            go_wp2_with fail
            refine wp_region_later (by kernel_rfl) (by kernel_rfl) ?_
            repeat (go_big_quiet_step (fail))
            refine wpQuiet_nil ?_
            rintro w5 ⟨n5, hn5⟩
            have hb : Below w4.heap.size w4 w5 := by rw [hn5]; exact n5.2
            clear hn5 n5
            have HB5 := Lib.hid (HB4.out.trans (hb.mono HB4.out.size))
            clear hb
            go_wp2_with fail
            exact ⟨⟨1, by omega, by first | rfl | go_num, HX2, HB5⟩, by simp [intOf]; omega⟩
          · obtain ⟨j, hj⟩ : ∃ j, k = j + 1 := ⟨k - 1, by omega⟩
            have hjS : j < L.length := by rw [Hn.out]; omega
            obtain ⟨q, hq⟩ : ∃ q, L[j]? = some q := ⟨_, List.getElem?_eq_getElem hjS⟩
            have hqd : L.getD (k - 1) zPf = q := by rw [hj]; simp [List.getD, hq]
            obtain ⟨hu3, hu4⟩ := Hu.out q (List.mem_of_getElem? hq)
            obtain ⟨g', o', had, hg', b0, b1, b2, b3⟩ := (H0.out.below HB4.out).pf hq rfl
            injection had with had
            injection had with had1 had2
            subst had1 had2
            have HO := Lib.hid fun wx => aCompare_any q.1 q.2.1 q.2.2.1 a1 a2 a3 wx hu3 hu4 HU.out.1 HU.out.2
            have HA2 : Hid (fAt L k = if nuP p ≤ nuP q then 7 else 0) := Lib.hid (by
              rw [HA.out, if_neg (by simp [hF0]), hqd]
              by_cases h1 : nuP p ≤ nuP q
              · rw [if_pos h1, if_pos ⟨hk0, h1⟩]
              · rw [if_neg h1, if_neg (fun h => h1 h.2)])
            have HCg := Lib.hid (cN_ge_iff (nuP q) (nuP p))
            have HNq : Hid (nuP q = numA q.1 q.2.1 q.2.2.1) := Lib.hid rfl
            rw [← HNq.out, ← HNu.out] at HO
            clear hq hqd hjS hu3 hu4 HA HNu HNq hg'
            generalize nuP q = nq at *
            generalize nuP p = np at *
            generalize q.1 = e1 at *
            generalize q.2.1 = e2 at *
            generalize q.2.2.1 = e3 at *
            generalize q.2.2.2 = e4 at *
            have i1 : (k : Int) - 1 = (j : Int) := by omega
            have i2 : decide (0 < k) = true := decide_eq_true hk0
            have i3 : (j : Int) < (n : Int) := by omega
            have i4 : (0 : Int) ≤ (j : Int) := by omega
            have i5 : (k : Int) ≤ 1000 := by omega
            have Hj := Lib.hid hj
            clear hj hk0
            have d0 := HP4.out.cell 0
            have d1 := HP4.out.cell 1
            have d2 := HP4.out.cell 2
            have d3 := HP4.out.cell 3
            simp at d0 d1 d2 d3
            have l0 := Later.cell_of d0
            have l1 := Later.cell_of d1
            have l2 := Later.cell_of d2
            have k0 := Later.cell_of b0
            have k1 := Later.cell_of b1
            have k2 := Later.cell_of b2
            have hO := fun x : Later w4 => Calls.later x (HO.out x.1)
            subst hF0
            generalize cN nq np = C at *
            go_upto_region 9 with fail
            refine wp_region_later (by kernel_rfl) (by kernel_rfl) ?_
            repeat (go_big_quiet_step ((go_at_call 115; exact hO _)))
            refine wpQuiet_nil ?_
            rintro w5 ⟨n5, hn5⟩
            have hb : Below w4.heap.size w4 w5 := by rw [hn5]; exact n5.2
            clear hn5 n5 hO HO l0 l1 l2 k0 k1 k2 d0 d1 d2 d3 b0 b1 b2 b3
            have HB5 := Lib.hid (HB4.out.trans (hb.mono HB4.out.size))
            clear hb HP4 HB4
            by_cases hnn : np ≤ nq
            · have hC0 : C ≥ 0 := HCg.out.2 hnn
              have HE := Lib.hid (HFk.out (by rw [HA2.out, if_pos hnn]; decide))
              have HE2 : Hid (af = 7) := Lib.hid (by rw [HE.out, HA2.out, if_pos hnn])
              clear HFk HXk HA2 HE HU
              go_wp2_with fail
              go_ret
              exact ⟨by rw [HE2.out]; rfl, HB5.out⟩
            · have hC0 : ¬ C ≥ 0 := fun h => hnn (HCg.out.1 h)
              have HX2 := Lib.hid (HXk.out (by rw [HA2.out, if_neg hnn]))
              clear HFk HXk HA2 HU
              go_wp2_with fail
              exact ⟨⟨k + 1, by omega, by go_num, HX2, HB5⟩, by simp [intOf]; omega⟩
        · have hF2 : (F != 0) = true := by simpa using hF0
          have hFA : fAt L k = F := by rw [HA.out, if_pos hF0]
          have HE : Hid (af = F) := Lib.hid (by rw [HFk.out (by rw [hFA]; exact hF0), hFA])
          clear HFk HXk hF0 HA hFA HU
          go_wp2_with fail
          go_ret
          exact ⟨by rw [HE.out]; rfl, HB4.out⟩
      · obtain rfl : k = n := by omega
        obtain ⟨hok, hz0, hz1⟩ := HZ.out HX.out
        have HR := Lib.hid (H0.out.below HB.out)
        have HZ0 := Lib.hid hz0
        have HZ1 := Lib.hid hz1
        have HS := Lib.hid (spanOf_any ad k c L wr HR.out Hn.out hs hok)
        have HJv := Lib.hid (sps_vr hok)
        have HJl := Lib.hid (jn_len (L.map spP))
        have HLl := Lib.hid (lst_len hok)
        have Hlst : Hid (pfs (jn (L.map spP)) = lst L) := Lib.hid rfl
        clear hok hz0 hz1 HZ HF HX Hu
        generalize jn (L.map spP) = J at *
        go_wp2_with fail
        refine HS.out.mono ?_
        rintro e w3 ⟨v, rfl, hO, hB⟩
        obtain ⟨ad3, c3, rfl, _⟩ := hO.form
        have HT := Lib.hid (prefixes_any ad3 J.length c3 J w3 hO.rd rfl (by have := HJl.out; rw [List.length_map, Hn.out] at this; omega) HJv.out)
        rw [Hlst.out] at HT
        have HB3 := Lib.hid (HB.out.trans (hB.mono HB.out.size))
        have HR3 := Lib.hid (HR.out.below hB)
        clear hO hB HB HS HJl HJv Hlst HR
        generalize J.length = jl at *
        go_wp2_with fail
        refine HT.out.mono ?_
        rintro e w4 ⟨v, rfl, hO, hB⟩
        obtain ⟨ad4, c4, rfl, _⟩ := hO.form
        have HQ := Lib.hid (equal_pf ad4 ad c4 c (lst L) L w4 hO.rd (HR3.out.below hB) (by have := HLl.out; rw [Hn.out] at this; omega))
        rw [Hn.out] at HQ
        have HB4 := Lib.hid (HB3.out.trans (hB.mono HB3.out.size))
        clear hO hB HB3 HR3 HT HLl
        generalize (lst L).length = ll at *
        go_wp2_with fail
        refine HQ.out.mono ?_
        rintro e w5 ⟨rfl, q5, rfl⟩
        have HB5 := Lib.hid (below_drewN HB4.out q5)
        by_cases hq : lst L = L
        · have HE := Lib.hid (HZ0.out hq)
          rw [decide_eq_true hq]
          clear hq HQ HZ0 HZ1
          go_wp2_with fail
          go_ret
          exact ⟨by rw [HE.out]; rfl, HB5.out⟩
        · have HE := Lib.hid (HZ1.out hq)
          rw [decide_eq_false hq]
          clear hq HQ HZ0 HZ1
          go_wp2_with fail
          go_ret
          exact ⟨by rw [HE.out]; rfl, HB5.out⟩
end Go.Proofs.YtaeieigdibanlaaGreatDoor

namespace Go.Proofs.YtaeieigdibanlaaGreatDoor
open Go.RowKit Go
set_option linter.unusedVariables false
theorem RdK.one {α : Type} (E : Lay α) (w : World) (x : α) (cs : Array Value) (t : TypeId) (h : cs = (E.enc x).toArray) : RdK E (w.alloc (.cells cs t (0, 0))) (some ⟨w.heap.size, 0, none⟩) [x] := by
  subst h
  intro i y hy
  obtain rfl : i = 0 := by
    rcases i with _ | i
    · rfl
    · simp at hy
  simp at hy
  subst hy
  refine ⟨w.heap.size, 0, rfl, by simp, fun j v hv => ?_⟩
  rw [cell_of_row _ w.heap.size _ _ _ _ (heap_alloc_new w _)]
  simpa using hv
end Go.Proofs.YtaeieigdibanlaaGreatDoor

namespace Go.Proofs.YtaeieigdibanlaaGreatDoor
open Go.RowKit Go
set_option linter.unusedVariables false

theorem alloc_of {P : Program} {ty : TypeId} {z : Value} (hz : ∀ w, (zeroValue ty).run P w = .ok z w) (w : World) : (Instr.alloc ty true (.tuple #[])).run P w = .ok (.pointer (some ⟨w.heap.size, 0, none⟩)) (w.alloc (.cells z.cells ty (0, 0))) := by
  simp [Instr.alloc, hz, newVar, newRow]
/-- a value that is stored whole into the block made last -/
theorem wpList_store_newb {P : Program} {ops : Array Oper} {rest : List Oper} {op : Oper} {a : Act} {Q : Exit → Act → World → Prop} {w : World} {c c' : Array Value} (hgd : op.guard = none) (ty : TypeId) (x y : Operand) (ho : op.op = .store ty x y)
    (hx : a.eval x = .pointer (some ⟨w.heap.size, 0, none⟩)) (hy : a.eval y = .agg c') (hi : (P.info? ty).map (·.size) = some c'.size) (hs : c.size = c'.size) (h1 : c'.all (·.oneCell') = true)
    (h : wpList P ops Q rest (a.put op.dst undef) (w.alloc (.cells c' ty (0, 0)))) : wpList P ops Q (op :: rest) a (w.alloc (.cells c ty (0, 0))) :=
  wpList_store_row hgd ty x y ho w.heap.size c' hx hy ty c (heap_alloc_last w _) hi hs h1 (by rw [World.setRow_alloc_new]; exact h)
/-- alloc, then store: the block is there with the value's cells -/
theorem wpList_var {P : Program} {ops : Array Oper} {rest : List Oper} {o1 o2 : Oper} {a : Act} {Q : Exit → Act → World → Prop} {w : World} (c' : Array Value) (ty : TypeId) {z : Value} (hz : ∀ w, (zeroValue ty).run P w = .ok z w)
    (h1 : o1.guard = none) (e1 : o1.op = .alloc ty) (h2 : o2.guard = none) (x y : Operand) (e2 : o2.op = .store ty x y) (d : Option Tmp) (hd : o1.dst = d)
    (hx : (a.put d (.pointer (some ⟨w.heap.size, 0, none⟩))).eval x = .pointer (some ⟨w.heap.size, 0, none⟩)) (hy : (a.put d (.pointer (some ⟨w.heap.size, 0, none⟩))).eval y = .agg c')
    (m : Nat) (hi : (P.info? ty).map (·.size) = some m) (hm : c'.size = m) (hs : z.cells.size = m) (hone : c'.all (·.oneCell') = true)
    (h : wpList P ops Q rest ((a.put d (.pointer (some ⟨w.heap.size, 0, none⟩))).put o2.dst undef) (w.alloc (.cells c' ty (0, 0)))) : wpList P ops Q (o1 :: o2 :: rest) a w := by
  subst hd hm
  refine wpList_plain h1 fun K hK => ?_
  unfold Oper.wp execOp
  simp only [e1, Sem.run_bind, alloc_of hz w, Sem.run_pure, Result.andThen_ok]
  exact hK _ _ (wpList_store_newb h2 ty x y e2 hx hy hi hs hone h)
/-- a load of many cells; their number said apart -/
theorem wpList_loadn {P : Program} {ops : Array Oper} {rest : List Oper} {op : Oper} {a : Act} {w : World} {Q : Exit → Act → World → Prop} (hgd : op.guard = none) (ty : TypeId) (x : Operand) (ho : op.op = .load ty x)
    (b o : Nat) (hx : a.eval x = .pointer (some ⟨b, o, none⟩)) (cs : List Value) (d : TypeDesc) (hc : w.rangeAt b o cs)
    (hu : P.underlying ty = some d) (hd : d.isRow = true) (m : Nat) (hi : (P.info? ty).map (·.size) = some m) (hm : cs.length = m)
    (h : wpList P ops Q rest (a.put op.dst (.agg cs.toArray)) w) : wpList P ops Q (op :: rest) a w := by
  subst hm
  exact wpList_load_mid hgd ty x ho b o hx cs d hc hu hd hi h
/-- a row of one element out of a whole value, its cells whatever -/
theorem wpList_build1 {P : Program} {ops : Array Oper} {rest : List Oper} {o : Oper} {a : Act} {w : World} {Q : Exit → Act → World → Prop} (hg : o.guard = none) (t e : TypeId) (x : Operand) (ho : o.op = .buildSlice t 1 #[(0, x)])
    (X : Array Value) (hx : a.eval x = .agg X) (m : Nat) (hu : P.underlying t = some (.slice e)) (hi : (P.info? e).map (fun i => (i.size, i.zero.map (fun z => z.cells.size))) = some (m, some m)) (hX : X.size = m) (hpos : 0 < m) (hsmall : m ≤ 2 ^ 24)
    (h : wpList P ops Q rest (a.put o.dst (.slice (some ⟨w.heap.size, 0, none⟩) 1 1)) (w.alloc (.cells X e (0, 0)))) : wpList P ops Q (o :: rest) a w := by
  cases hie : P.info? e with
  | none => rw [hie] at hi; cases hi
  | some ie =>
    rw [hie] at hi
    simp only [Option.map_some, Option.some.injEq, Prod.mk.injEq] at hi
    obtain ⟨h1, h2⟩ := hi
    cases hz : ie.zero with
    | none => rw [hz] at h2; cases h2
    | some z =>
      rw [hz] at h2
      simp only [Option.map_some, Option.some.injEq] at h2
      have hf := Go.Great.fill_whole (s := m) hpos [Value.agg X] ((Array.range (1 * m)).map (z.cells[· % z.cells.size]!)) (fun v hv => by rw [List.mem_singleton] at hv; subst hv; exact hX) (by simp)
      have e2 : (([Value.agg X] : List Value).flatMap fun v => v.cells.toList).toArray = X := by simp [Value.cells]
      rw [e2] at hf
      refine wpList_buildSlice hg t e 1 #[(0, x)] ho X ie z hu hie hz (by rw [h1]; omega) (by rw [h1]; omega) ?_ h
      rw [h1]
      simpa [hx] using hf
theorem Blk.range {w : World} {B : Nat} {t : TypeId} {X : List Value} (h : Blk w B t X.toArray) : w.rangeAt B 0 X := fun j v hv => by
  rw [Nat.zero_add, h.cell j]
  simpa using hv
theorem range_left {w : World} {b o : Nat} {A B : List Value} (h : w.rangeAt b o (A ++ B)) : w.rangeAt b o A := fun j v hv => h j v (by
  have hj := (List.getElem?_eq_some_iff.1 hv).1
  rw [List.getElem?_append_left hj]; exact hv)
theorem range_right {w : World} {b o : Nat} {A B : List Value} (h : w.rangeAt b o (A ++ B)) : w.rangeAt b (o + A.length) B := fun j v hv => by
  have := h (A.length + j) v (by rw [List.getElem?_append_right (Nat.le_add_right _ _), Nat.add_sub_cancel_left]; exact hv)
  rw [← Nat.add_assoc] at this
  exact this
theorem range_below {w w' : World} {b o B : Nat} {A : List Value} (h : w.rangeAt b o A) (hb : Below B w w') (hlt : b < B) : w'.rangeAt b o A := fun j v hv => (hb.cell (p := ⟨b, o + j, none⟩) hlt).trans (h j v hv)
/-- a load of many cells in a quiet region -/
theorem wpQuiet_loadn {P : Program} {ops : Array Oper} {C : World → Prop} {Q : Act → Prop} {o : Oper} {rest : List Oper} {a : Act} (hw : Region.wanted o (yielded ops a.tmps) = true) (ty : TypeId) (x : Operand) (ho : o.op = .load ty x) (dst : Option Tmp) (hdst : o.dst = dst)
    (b off : Nat) (hx : a.eval x = .pointer (some ⟨b, off, none⟩)) (X : Array Value) (hc : ∀ w, C w → w.rangeAt b off X.toList) (d : TypeDesc) (hu : P.underlying ty = some d) (hd : d.isRow = true) (m : Nat) (hi : (P.info? ty).map (·.size) = some m) (hm : X.size = m)
    (h : wpQuiet P ops C Q rest (a.put dst (.agg X))) : wpQuiet P ops C Q (o :: rest) a := by
  subst hm hdst
  refine BigFrame.wpQuiet_want hw fun K hK => ⟨.agg X, fun w hwC => ?_, hK _ h⟩
  have := run_loadAt_mid w b off ty X.toList d (hc w hwC) hu hd (by simpa using hi)
  unfold Oper.quietAt execOp
  simp only [ho, hx, Sem.run_bind, this, Result.andThen_ok, Sem.run_pure]
  exact ⟨rfl, rfl⟩
theorem cN_pos (a b : Nat) : cN a b > 0 ↔ b < a := by unfold cN; split <;> (try split) <;> omega
theorem wN_size (x : Nat) : (wN x).size = 9 := rfl
theorem wN_dig8 (x : Nat) : (wN x).toList[8]? = some (.int .i64 ((digN x 8 : Nat) : Int)) := rfl
theorem qs_split (p : Sp) : layQs.enc p = (wN p.1).toList ++ (wN p.2).toList := Array.toList_append
theorem zero_qs : (Tryz.prog.info? 138).map (fun i => (i.size, i.zero.map (fun z => z.cells.size))) = some (18, some 18) := by kernel_rfl
theorem size_qs : (Tryz.prog.info? 138).map (·.size) = some 18 := by kernel_rfl
theorem size_wide : (Tryz.prog.info? 131).map (·.size) = some 9 := by kernel_rfl
end Go.Proofs.YtaeieigdibanlaaGreatDoor
