/-
  slices.Equal at rows of prefixes and of ranges.
  addr.set, checkPrefixes, Least of the program.
  addr.Least, CheckSet, Ranges of the program.
  Sets as spans of numbers: the spans of their prefixes, gaps, what two have in common, and how many prefixes these need.
  The reference's HasOf: whether an address is in one of some prefixes.
  Spans.Has: binary search in spans.
  Flows: view.FlowFault and the reference's FlowFault are the same function; Back and BackOf.
  Whether a number is in one of some ports: the program's inPorts and the reference's closure of lets.
-/
import Derived.Test.YtgppbebdmbeohaaGreatRD9
import Derived.Test.YtgppbebdmbeohaaGreatRD3
import Derived.Test.YtgppbebdmbeohaaGreatRD4
import Derived.Test.YtgppbebdmbeohaaGreatRD1
set_option linter.unusedVariables false
namespace Go.Proofs.YtgppbebdmbeohaaGreat
open Go.RowKit Go
set_option linter.unusedVariables false

theorem pf_ext (x y : Pf) : (((x.1, ((x.2.1 : Nat) : Int), ((x.2.2.1 : Nat) : Int), x.2.2.2) : Bool × Int × Int × Int) = (y.1, ((y.2.1 : Nat) : Int), ((y.2.2.1 : Nat) : Int), y.2.2.2)) ↔ x = y := by
  constructor
  · intro h
    have h1 := congrArg (·.1) h
    have h2 : ((x.2.1 : Nat) : Int) = ((y.2.1 : Nat) : Int) := congrArg (·.2.1) h
    have h3 : ((x.2.2.1 : Nat) : Int) = ((y.2.2.1 : Nat) : Int) := congrArg (·.2.2.1) h
    have h4 := congrArg (·.2.2.2) h
    exact Prod.ext h1 (Prod.ext (by show x.2.1 = y.2.1; omega) (Prod.ext (by show x.2.2.1 = y.2.2.1; omega) h4))
  · rintro rfl; rfl
theorem pf_neq (x y : Pf) (w : World) : (binOp .neq 114 (.agg #[.bool x.1, .int .u64 ((x.2.1 : Nat) : Int), .int .u64 ((x.2.2.1 : Nat) : Int), .int .i64 x.2.2.2]) (.agg #[.bool y.1, .int .u64 ((y.2.1 : Nat) : Int), .int .u64 ((y.2.2.1 : Nat) : Int), .int .i64 y.2.2.2])).run Tryz.prog w = .ok (.bool (!decide (x = y))) w := by
  rw [pfx_neq, decide_eq_decide.2 (pf_ext x y)]
theorem rgEq (s1 s2 : Bool) (h1 h2 l1 l2 : Int) (t1 t2 : Bool) (m1 m2 k1 k2 : Int) (w : World) : (Op.equalIn 10000 162 (.agg #[.bool s1, .int .u64 h1, .int .u64 l1, .bool t1, .int .u64 m1, .int .u64 k1]) (.agg #[.bool s2, .int .u64 h2, .int .u64 l2, .bool t2, .int .u64 m2, .int .u64 k2])).run Tryz.prog w = .ok (decide ((s1, h1, l1) = (s2, h2, l2)) && decide ((t1, m1, k1) = (t2, m2, k2))) w := by
  have hA := fun s1 s2 h1 h2 l1 l2 => addrEq s1 s2 h1 h2 l1 l2 9997
  have a29 := Tryz.isAgg32
  have z29 := Tryz.sizeOf32
  have hS : Tryz.prog.underlying 162 = some (.struct (Tryz.prog.fieldsOf 162)) := by kernel_rfl
  have hp : Tryz.prog.stoodInHeld 162 = false := by kernel_rfl
  rw [show (10000 : Nat) = 9999 + 1 from rfl, run_equalIn_agg w 9999 162 _ _ hS hp]
  simp only [Program.fieldsOf, Tryz.underlying162]
  simp only [show (9997 : Nat) + 2 = 9999 from rfl] at hA
  go_simp
  by_cases e1 : ((s1, h1, l1) : Bool × Int × Int) = (s2, h2, l2) <;> by_cases e2 : ((t1, m1, k1) : Bool × Int × Int) = (t2, m2, k2) <;> simp_all
theorem rg_guard (op : BinOp) (x y : Operand) (xs ys : Array Value) (w : World) : (eqGuard op 162 x y (.agg xs) (.agg ys)).run Tryz.prog w = .ok () w :=
  run_eqGuard_agg w _ _ _ _ _ _ (by kernel_rfl)
theorem rg_neq {x y : Sp} (hx : VR x) (hy : VR y) (w : World) : (binOp .neq 162 (.agg #[.bool (sixN x.1), .int .u64 ((hiN x.1 : Nat) : Int), .int .u64 ((loN x.1 : Nat) : Int), .bool (sixN x.2), .int .u64 ((hiN x.2 : Nat) : Int), .int .u64 ((loN x.2 : Nat) : Int)]) (.agg #[.bool (sixN y.1), .int .u64 ((hiN y.1 : Nat) : Int), .int .u64 ((loN y.1 : Nat) : Int), .bool (sixN y.2), .int .u64 ((hiN y.2 : Nat) : Int), .int .u64 ((loN y.2 : Nat) : Int)])).run Tryz.prog w = .ok (.bool (!decide (x = y))) w := by
  rw [run_neq_struct, rgEq, decide_eq_decide.2 (aN_same hx.a hy.a), decide_eq_decide.2 (aN_same hx.b hy.b)]
  have e : (decide (x.1 = y.1) && decide (x.2 = y.2)) = decide (x = y) := by
    rw [Bool.eq_iff_iff]
    simp
    exact Prod.ext_iff.symm
  rw [e]
  rfl
set_option maxRecDepth 100000 in
set_option maxHeartbeats 1000000 in
theorem equal_pf (a1 a2 : Option Addr) (c1 c2 : Nat) (xs ys : List Pf) (w : World) (h1 : RdK layPf w a1 xs) (h2 : RdK layPf w a2 ys) (hs1 : xs.length ≤ 1000000000) :
    Calls Tryz.prog 84 #[.slice a1 xs.length c1, .slice a2 ys.length c2] w fun e w' => e = .returned (.bool (decide (xs = ys))) ∧ ∃ n, w' = w.drewN n := by
  generalize hn : xs.length = n
  rw [hn] at hs1
  have H1 := Lib.hid h1
  have H2 := Lib.hid h2
  clear h1 h2
  by_cases hl : xs.length = ys.length
  · rw [← hl, hn]
    have Hn := Lib.hid hn
    have Hl := Lib.hid hl
    clear hn hl
    go_enter Tryz.func84, Tryz.ntmps84
    go_wp2
    go_loopw [13] (fun i wr => ∃ (k q : Nat), k ≤ n ∧ i = .int .i64 k ∧ Hid (xs.take k = ys.take k) ∧ wr = w.drewN q) (fun i _ => n - (intOf i).toNat)
    case atStart => exact ⟨0, 0, Nat.zero_le _, rfl, Lib.hid rfl, rfl⟩
    case round =>
      obtain ⟨k, q, hk, rfl, Heq, rfl⟩ := hrel
      by_cases hlt : k < n
      · have hkx : k < xs.length := by rw [Hn.out]; exact hlt
        have hky : k < ys.length := by rw [← Hl.out]; exact hkx
        obtain ⟨x, hxk⟩ : ∃ x, xs[k]? = some x := ⟨_, List.getElem?_eq_getElem hkx⟩
        obtain ⟨y, hyk⟩ : ∃ y, ys[k]? = some y := ⟨_, List.getElem?_eq_getElem hky⟩
        have hx : xs.take (k + 1) = xs.take k ++ [x] := by
          have e : xs[k] = x := by rw [List.getElem?_eq_getElem hkx] at hxk; injection hxk
          rw [List.take_succ_eq_append_getElem hkx, e]
        have hy : ys.take (k + 1) = ys.take k ++ [y] := by
          have e : ys[k] = y := by rw [List.getElem?_eq_getElem hky] at hyk; injection hyk
          rw [List.take_succ_eq_append_getElem hky, e]
        have hne : xs = ys → x = y := by
          rintro rfl
          rw [hxk] at hyk
          injection hyk
        have Hx := Lib.hid hx
        have Hy := Lib.hid hy
        have Hne := Lib.hid hne
        obtain ⟨g1, o1, e1, hg1, c10, c11, c12, c13⟩ := H1.out.pf hxk rfl
        obtain ⟨g2, o2, e2, hg2, c20, c21, c22, c23⟩ := H2.out.pf hyk rfl
        have np := fun w => pf_neq x y w
        subst e1 e2
        clear hx hy hne hkx hky hxk hyk hg1 hg2
        generalize x.1 = x0 at *
        generalize x.2.1 = x1 at *
        generalize x.2.2.1 = x2 at *
        generalize x.2.2.2 = x3 at *
        generalize y.1 = y0 at *
        generalize y.2.1 = y1 at *
        generalize y.2.2.1 = y2 at *
        generalize y.2.2.2 = y3 at *
        by_cases hxy : x = y
        · rw [decide_eq_true hxy] at np
          have Hxy := Lib.hid hxy
          clear hxy
          go_wp2_with fail
          go_quiet (fail)
          go_wp2_with fail
          refine ⟨⟨k + 1, _, by omega, by go_num, Lib.hid ?_, rfl⟩, by simp [intOf]; omega⟩
          rw [Hx.out, Hy.out, Heq.out, Hxy.out]
        · rw [decide_eq_false hxy] at np
          have Hxy : Hid (decide (xs = ys) = false) := Lib.hid (decide_eq_false fun e => hxy (Hne.out e))
          clear hxy
          go_wp2_with fail
          go_quiet (fail)
          go_wp2_with fail
          go_ret
          exact ⟨by rw [Hxy.out]; rfl, q + nq, by rw [World.drewN_drewN]⟩
      · obtain rfl : k = n := by omega
        have hxy : xs = ys := by
          have := Heq.out
          rwa [List.take_of_length_le (by rw [Hn.out]; exact Nat.le_refl _), List.take_of_length_le (by rw [← Hl.out, Hn.out]; exact Nat.le_refl _)] at this
        have Hxy := Lib.hid hxy
        clear hxy
        go_wp2
        go_ret
        exact ⟨by simp [Hxy.out], _, rfl⟩
  · have hxy : xs ≠ ys := fun e => hl (by rw [e])
    have Hxy := Lib.hid hxy
    have hnb : ((n : Int) != (ys.length : Int)) = true := by rw [bne_iff_ne]; omega
    have hnb2 : n ≠ ys.length := by omega
    clear hxy hn hl
    go_enter Tryz.func84, Tryz.ntmps84
    go_wp2
    go_ret
    exact ⟨by simp [Hxy.out], 0, rfl⟩
end Go.Proofs.YtgppbebdmbeohaaGreat

namespace Go.Proofs.YtgppbebdmbeohaaGreat
open Go.RowKit Go
set_option linter.unusedVariables false

/-- the first number of n that is not 0 -/
def firstN (f : Nat → Int) (n : Nat) : Int := (((List.range n).map f).find? (· != 0)).getD 0
theorem firstN_hit (f : Nat → Int) : ∀ (n k : Nat), k < n → (∀ j, j < k → f j = 0) → f k ≠ 0 → firstN f n = f k := by
  intro n
  induction n with
  | zero => intro k hk; omega
  | succ n ih =>
    intro k hk h0 hne
    unfold firstN at ih ⊢
    rw [List.range_succ, List.map_append, List.find?_append]
    rcases Nat.lt_or_ge k n with hlt | hge
    · have := ih k hlt h0 hne
      cases hf : ((List.range n).map f).find? (· != 0) with
      | none => rw [hf] at this; exact absurd this.symm hne
      | some x => rw [hf] at this; simpa using this
    · obtain rfl : k = n := by omega
      have hf : ((List.range k).map f).find? (· != 0) = none := by
        rw [List.find?_eq_none]
        intro x hx
        obtain ⟨j, hj, rfl⟩ := List.mem_map.1 hx
        simp [h0 j (List.mem_range.1 hj)]
      rw [hf]
      simp [hne]
theorem firstN_none (f : Nat → Int) (n : Nat) (h0 : ∀ j, j < n → f j = 0) : firstN f n = 0 := by
  unfold firstN
  have hf : ((List.range n).map f).find? (· != 0) = none := by
    rw [List.find?_eq_none]
    intro x hx
    obtain ⟨j, hj, rfl⟩ := List.mem_map.1 hx
    simp [h0 j (List.mem_range.1 hj)]
  rw [hf]
  rfl
theorem firstN_zero {f : Nat → Int} {n : Nat} (h : firstN f n = 0) : ∀ j, j < n → f j = 0 := by
  intro j
  induction j using Nat.strongRecOn with
  | _ j ih =>
    intro hj
    rcases Classical.em (f j = 0) with h0 | h0
    · exact h0
    · rw [firstN_hit f n j hj (fun i hi => ih i hi (by omega)) h0] at h
      exact absurd h h0
def pfF (p : Pf) : Int := pFault p.1 p.2.1 p.2.2.1 p.2.2.2
def zPf : Pf := (false, 0, 0, 0)
/-- the first fault of prefixes -/
def listF (L : List Pf) : Int := firstN (fun i => pfF (L.getD i zPf)) L.length
/-- numbers that a uint64 holds -/
def U4 (L : List Pf) : Prop := ∀ p ∈ L, U64N p.2.1 ∧ U64N p.2.2.1
theorem listF_ok {L : List Pf} (h : listF L = 0) (hu : U4 L) : ∀ p ∈ L, OkPf p := fun p hp => by
  obtain ⟨i, hi, rfl⟩ := List.getElem_of_mem hp
  have := firstN_zero h i hi
  simp only [List.getD, List.getElem?_eq_getElem hi, Option.getD_some] at this
  obtain ⟨h1, h2⟩ := hu _ (List.getElem_mem hi)
  exact okPf_of this h1 h2
/-- a bounded set -/
def setBd (n : Nat) : Int := if 1000 < n then 2 else 0
end Go.Proofs.YtgppbebdmbeohaaGreat

namespace Go.Proofs.YtgppbebdmbeohaaGreat
open Go.RowKit Go
set_option linter.unusedVariables false

/-- the least set of prefixes -/
def lst (L : List Pf) : List Pf := pfs (jn (L.map spP))
theorem jn_vr {L : List Sp} (hv : ∀ p ∈ L, VR p) : ∀ p ∈ jn L, VR p := by
  have hs := jn_srt L
  have hp := jn_perm L
  have := (vr_take hs (fun p h => hv p (hp.mem_iff.1 h)) _ (Nat.le_refl _)).1
  rw [List.take_length] at this
  exact this
theorem sps_vr {L : List Pf} (hv : ∀ p ∈ L, OkPf p) : ∀ p ∈ jn (L.map spP), VR p := jn_vr fun p hp => by
  obtain ⟨q, hq, rfl⟩ := List.mem_map.1 hp
  exact (hv q hq).vr
theorem jn_len (L : List Sp) : (jn L).length ≤ L.length := by
  unfold jn joinL
  have := fold_len (L.mergeSort fun p q => decide (p.1 ≤ q.1)) []
  rw [(jn_perm L).length_eq] at this
  simpa using this
/-- no more than the prefixes of which it is made -/
theorem lst_len {L : List Pf} (hv : ∀ p ∈ L, OkPf p) : (lst L).length ≤ L.length := by
  have hvr : ∀ p ∈ L.map spP, VR p := fun p hp => by
    obtain ⟨q, hq, rfl⟩ := List.mem_map.1 hp
    exact (hv q hq).vr
  have := allB_len (jn_joined fun p hp => (hvr p hp).le) (fun p hp => by
    obtain ⟨q, hq, rfl⟩ := List.mem_map.1 hp
    exact ⟨_, (hv q hq).sp⟩) (fun c hc => by
    have := jn_vr hvr c hc
    rw [LN_six, LN_six, this.s])
  rw [List.length_map] at this
  unfold lst pfs
  rw [List.length_map]
  exact this
/-- Least's error -/
def leastF (L : List Pf) : Int := if 1000 < L.length then 2 else listF L
def leastR (L : List Pf) : List Pf := if leastF L = 0 then lst L else []
end Go.Proofs.YtgppbebdmbeohaaGreat

namespace Go.Proofs.YtgppbebdmbeohaaGreat
open Go.RowKit Go
set_option linter.unusedVariables false

theorem ok_block {x n : Nat} (hv : VN x) (hn : n ≤ LN x) (hd : 2 ^ (LN x - n) ∣ x) : OkPf (pfOf (x, n)) ∧ nuP (pfOf (x, n)) = x ∧ spP (pfOf (x, n)) = (x, x + (2 ^ (LN x - n) - 1)) := by
  have ha := ok_aN hv
  have hln : n ≤ lenN (sixN x) := by rw [← LN_six]; exact hn
  have hc : clr x (LN x - n) = x := clr_dvd.2 hd
  have hm := mask_num (n := n) ha
  rw [num_aN hv, ← LN_six, hc] at hm
  have h1 := aN_num (mask_aok ha hln)
  rw [hm] at h1
  have hnu : nuP (pfOf (x, n)) = x := num_aN hv
  have hP : POK (sixN x) (hiN x) (loN x) n := ⟨ha, hln, h1.2.2.1.symm, h1.2.2.2.symm⟩
  refine ⟨⟨rfl, hP⟩, hnu, ?_⟩
  unfold spP
  rw [hnu]
  show (x, fil x (LN x - n)) = _
  rw [fil_of hd]
theorem mem_allB {S : List Sp} (hv : ∀ p ∈ S, VR p) {c : Nat × Nat} (hc : c ∈ allB S) : VN c.1 ∧ c.2 ≤ LN c.1 ∧ 2 ^ (LN c.1 - c.2) ∣ c.1 ∧ ∃ p ∈ S, LN c.1 = LN p.1 ∧ p.1 ≤ c.1 ∧ c.1 + (2 ^ (LN c.1 - c.2) - 1) ≤ p.2 := by
  obtain ⟨p, hp, hc⟩ := List.mem_flatMap.1 hc
  obtain ⟨h1, h2, h3⟩ := (blks_ok (LN p.1) p.1 p.2).each c hc
  obtain ⟨v, l, s⟩ := blk_vn (hv p hp) h1 h2
  refine ⟨v, ?_, ?_, p, hp, l, h1, ?_⟩
  · rw [l]; exact h3.le
  · rw [l]; exact h3.dvd
  · rw [l]; exact h3.fits
theorem okPf_pfs {S : List Sp} (hv : ∀ p ∈ S, VR p) : ∀ q ∈ pfs S, OkPf q := fun q hq => by
  obtain ⟨c, hc, rfl⟩ := List.mem_map.1 hq
  obtain ⟨a, b, d, _⟩ := mem_allB hv hc
  exact (ok_block a b d).1
theorem inS_pfs {S : List Sp} (hv : ∀ p ∈ S, VR p) (x : Nat) : InS ((pfs S).map spP) x ↔ InS S x := by
  constructor
  · rintro ⟨q, hq, h1, h2⟩
    obtain ⟨r, hr, rfl⟩ := List.mem_map.1 hq
    obtain ⟨c, hc, rfl⟩ := List.mem_map.1 hr
    obtain ⟨a, b, d, p, hp, _, l1, l2⟩ := mem_allB hv hc
    rw [show c = (c.1, c.2) from rfl, (ok_block a b d).2.2] at h1 h2
    simp only at h1 h2
    exact ⟨p, hp, by omega, by omega⟩
  · rintro ⟨p, hp, h1, h2⟩
    obtain ⟨q, hq, l1, l2⟩ := ((blks_ok (LN p.1) p.1 p.2).mem x).2 ⟨h1, h2⟩
    obtain ⟨c, hc, rfl⟩ := List.mem_map.1 hq
    have hca : c ∈ allB S := List.mem_flatMap.2 ⟨p, hp, hc⟩
    obtain ⟨a, b, d, _⟩ := mem_allB hv hca
    have hl := (blk_vn (hv p hp) ((blks_ok (LN p.1) p.1 p.2).each c hc).1 ((blks_ok (LN p.1) p.1 p.2).each c hc).2.1).2.1
    refine ⟨spP (pfOf (c.1, c.2)), List.mem_map.2 ⟨_, List.mem_map.2 ⟨c, hca, rfl⟩, rfl⟩, ?_⟩
    rw [(ok_block a b d).2.2]
    unfold spB at l1 l2
    simp only at l1 l2 ⊢
    rw [← hl] at l2
    exact ⟨l1, l2⟩
/-- the spans of prefixes -/
def spn (L : List Pf) : List Sp := jn (L.map spP)
theorem spn_vr {L : List Pf} (hv : ∀ p ∈ L, OkPf p) : ∀ p ∈ spn L, VR p := sps_vr hv
theorem sps_le {L : List Pf} (hv : ∀ p ∈ L, OkPf p) : ∀ p ∈ L.map spP, p.1 ≤ p.2 := fun p hp => by
  obtain ⟨q, hq, rfl⟩ := List.mem_map.1 hp
  exact (hv q hq).vr.le
theorem spn_can {L : List Pf} (hv : ∀ p ∈ L, OkPf p) : Can (spn L) := (jn_joined (sps_le hv)).can
theorem inS_spn {L : List Pf} (hv : ∀ p ∈ L, OkPf p) (x : Nat) : InS (spn L) x ↔ InS (L.map spP) x := (jn_joined (sps_le hv)).mem x
theorem spn_len (L : List Pf) : (spn L).length ≤ L.length := by
  have := jn_len (L.map spP)
  rw [List.length_map] at this
  exact this
theorem spn_pfs {S : List Sp} (hc : Can S) (hv : ∀ p ∈ S, VR p) : spn (pfs S) = S :=
  can_unique (spn_can (okPf_pfs hv)) hc fun x => (inS_spn (okPf_pfs hv) x).trans (inS_pfs hv x)
theorem lst_eq (L : List Pf) : lst L = pfs (spn L) := rfl
/-- joined spans are those with the same numbers -/
theorem jn_can {L : List Sp} (hv : ∀ p ∈ L, VR p) : Can (jn L) ∧ (∀ x, InS (jn L) x ↔ InS L x) ∧ ∀ p ∈ jn L, VR p :=
  ⟨(jn_joined fun p hp => (hv p hp).le).can, (jn_joined fun p hp => (hv p hp).le).mem, jn_vr hv⟩
theorem vr_append {A B : List Sp} (hA : ∀ p ∈ A, VR p) (hB : ∀ p ∈ B, VR p) : ∀ p ∈ A ++ B, VR p := fun p hp => (List.mem_append.1 hp).elim (hA p) (hB p)
theorem ok_append {A B : List Pf} (hA : ∀ p ∈ A, OkPf p) (hB : ∀ p ∈ B, OkPf p) : ∀ p ∈ A ++ B, OkPf p := fun p hp => (List.mem_append.1 hp).elim (hA p) (hB p)
theorem vr_vn {S : List Sp} (hv : ∀ p ∈ S, VR p) {x : Nat} (h : InS S x) : VN x := by
  obtain ⟨p, hp, h1, h2⟩ := h
  exact (blk_vn (hv p hp) h1 h2).1
/-- the union of two sets -/
theorem union_eq {a b : List Pf} (ha : ∀ p ∈ a, OkPf p) (hb : ∀ p ∈ b, OkPf p) : spn (a ++ b) = jn (spn a ++ spn b) := by
  have hj := jn_can (vr_append (spn_vr ha) (spn_vr hb))
  refine can_unique (spn_can (ok_append ha hb)) hj.1 fun x => ?_
  rw [inS_spn (ok_append ha hb), List.map_append, inS_append, hj.2.1, inS_append, inS_spn ha, inS_spn hb]

/-- the spans between those of a list, from a number to the last one -/
def gapsF (top : Nat) : List Sp → Nat → List Sp
  | [], x => if x ≤ top then [(x, top)] else []
  | r :: S, x => (if x < r.1 then [(x, r.1 - 1)] else []) ++ gapsF top S (r.2 + 1)
def fam (six : Bool) (S : List Sp) : List Sp := S.filter fun p => sixN p.1 == six
def loF (six : Bool) : Nat := if six = true then 2 ^ 128 else 0
def topF (six : Bool) : Nat := if six = true then 2 ^ 129 - 1 else 2 ^ 32 - 1
def gapsOf (six : Bool) (S : List Sp) : List Sp := gapsF (topF six) (fam six S) (loF six)
/-- the spans between those of a list, of all addresses -/
def gaps (S : List Sp) : List Sp := gapsOf false S ++ gapsOf true S
theorem gapsF_ok (top : Nat) : ∀ (S : List Sp) (x : Nat), Can S → (∀ p ∈ S, x ≤ p.1 ∧ p.2 ≤ top) →
    (∀ t, InS (gapsF top S x) t ↔ x ≤ t ∧ t ≤ top ∧ ¬ InS S t) ∧ Can (gapsF top S x) ∧ ∀ p ∈ gapsF top S x, x ≤ p.1 ∧ p.2 ≤ top
  | [], x, _, _ => by
    unfold gapsF
    by_cases h : x ≤ top
    · rw [if_pos h]
      refine ⟨fun t => ?_, ⟨List.pairwise_singleton _ _, fun p hp => ?_⟩, fun p hp => ?_⟩
      · rw [inS_cons]
        simp [inS_nil]
      · rw [List.mem_singleton.1 hp]; exact h
      · rw [List.mem_singleton.1 hp]; exact ⟨Nat.le_refl _, Nat.le_refl _⟩
    · rw [if_neg h]
      refine ⟨fun t => ⟨fun h2 => absurd h2 (inS_nil _), fun h2 => by omega⟩, ⟨List.Pairwise.nil, by simp⟩, by simp⟩
  | r :: S, x, hc, hb => by
    have hr := hb r (List.mem_cons_self ..)
    obtain ⟨r1, r2⟩ := hc.head
    have hn : ∀ p ∈ S, r.2 + 1 ≤ p.1 ∧ p.2 ≤ top := fun p hp => by
      have := (List.pairwise_cons.1 hc.1).1 p hp
      exact ⟨by omega, (hb p (List.mem_cons_of_mem _ hp)).2⟩
    obtain ⟨i1, i2, i3⟩ := gapsF_ok top S (r.2 + 1) hc.tail hn
    have hA : ∀ t, InS S t → r.2 + 1 < t := r2
    unfold gapsF
    refine ⟨fun t => ?_, ?_, fun p hp => ?_⟩
    · rw [inS_append, i1, inS_cons]
      by_cases h : x < r.1
      · rw [if_pos h, inS_cons]
        simp only [inS_nil, or_false]
        constructor
        · rintro (h1 | h1)
          · refine ⟨by omega, by omega, ?_⟩
            rintro (h2 | h2)
            · omega
            · have := hA t h2; omega
          · refine ⟨by omega, by omega, ?_⟩
            rintro (h2 | h2)
            · omega
            · exact h1.2.2 h2
        · rintro ⟨h1, h2, h3⟩
          rcases Nat.lt_or_ge t r.1 with h4 | h4
          · exact .inl ⟨h1, by omega⟩
          · refine .inr ⟨?_, h2, fun h5 => h3 (.inr h5)⟩
            rcases Nat.lt_or_ge r.2 t with h6 | h6
            · exact h6
            · exact absurd (.inl ⟨h4, h6⟩) h3
      · rw [if_neg h]
        simp only [inS_nil, false_or]
        constructor
        · rintro ⟨h1, h2, h3⟩
          refine ⟨by omega, h2, ?_⟩
          rintro (h4 | h4)
          · omega
          · exact h3 h4
        · rintro ⟨h1, h2, h3⟩
          refine ⟨?_, h2, fun h5 => h3 (.inr h5)⟩
          rcases Nat.lt_or_ge r.2 t with h6 | h6
          · exact h6
          · exact absurd (.inl ⟨by omega, h6⟩) h3
    · by_cases h : x < r.1
      · rw [if_pos h]
        refine ⟨List.pairwise_cons.2 ⟨fun q hq => ?_, i2.1⟩, fun p hp => ?_⟩
        · have := (i3 q hq).1
          show r.1 - 1 + 1 < q.1
          omega
        · rcases List.mem_cons.1 hp with rfl | hp
          · show x ≤ r.1 - 1
            omega
          · exact i2.2 p hp
      · rw [if_neg h]
        exact i2
    · rcases List.mem_append.1 hp with hp | hp
      · by_cases h : x < r.1
        · rw [if_pos h] at hp
          rw [List.mem_singleton.1 hp]
          show x ≤ x ∧ r.1 - 1 ≤ top
          omega
        · rw [if_neg h] at hp; cases hp
      · have := i3 p hp
        omega
theorem vn_fam {x : Nat} (h : VN x) : loF (sixN x) ≤ x ∧ x ≤ topF (sixN x) := by
  unfold loF topF
  rcases h.cases with ⟨a, _, _, d⟩ | ⟨a, b, c, d⟩
  · rw [a]; simp; omega
  · rw [a]
    rcases h with h | h
    · simp; omega
    · simp; omega
theorem fam_vn {six : Bool} {x : Nat} (h1 : loF six ≤ x) (h2 : x ≤ topF six) : VN x ∧ sixN x = six := by
  unfold loF topF at *
  cases six
  · simp at h1 h2
    exact ⟨.inl (by omega), decide_eq_false (by omega)⟩
  · simp at h1 h2
    exact ⟨.inr ⟨by omega, by omega⟩, decide_eq_true (by omega)⟩
theorem can_filter {S : List Sp} (h : Can S) (f : Sp → Bool) : Can (S.filter f) :=
  ⟨h.1.sublist List.filter_sublist, fun p hp => h.2 p (List.mem_filter.1 hp).1⟩
theorem fam_bd {S : List Sp} (hv : ∀ p ∈ S, VR p) (six : Bool) : ∀ p ∈ fam six S, loF six ≤ p.1 ∧ p.2 ≤ topF six := fun p hp => by
  obtain ⟨h1, h2⟩ := List.mem_filter.1 hp
  have h2 : sixN p.1 = six := by simpa using h2
  have hp := hv p h1
  have a := vn_fam hp.a
  have b := vn_fam hp.b
  rw [← hp.s, h2] at b
  rw [h2] at a
  exact ⟨a.1, b.2⟩
theorem gapsOf_ok {S : List Sp} (hc : Can S) (hv : ∀ p ∈ S, VR p) (six : Bool) :
    (∀ t, InS (gapsOf six S) t ↔ VN t ∧ sixN t = six ∧ ¬ InS S t) ∧ Can (gapsOf six S) ∧ ∀ p ∈ gapsOf six S, loF six ≤ p.1 ∧ p.2 ≤ topF six := by
  obtain ⟨h1, h2, h3⟩ := gapsF_ok (topF six) (fam six S) (loF six) (can_filter hc _) (fam_bd hv six)
  refine ⟨fun t => (h1 t).trans ?_, h2, h3⟩
  constructor
  · rintro ⟨a, b, c⟩
    obtain ⟨v, s⟩ := fam_vn a b
    refine ⟨v, s, ?_⟩
    rintro ⟨p, hp, l1, l2⟩
    refine c ⟨p, List.mem_filter.2 ⟨hp, ?_⟩, l1, l2⟩
    have := (blk_vn (hv p hp) l1 l2).2.2
    rw [← this, s]
    simp
  · rintro ⟨v, s, c⟩
    have := vn_fam v
    rw [s] at this
    refine ⟨this.1, this.2, ?_⟩
    rintro ⟨p, hp, l1, l2⟩
    exact c ⟨p, (List.mem_filter.1 hp).1, l1, l2⟩
theorem vr_fam {six : Bool} {p : Sp} (h : loF six ≤ p.1 ∧ p.2 ≤ topF six) (hle : p.1 ≤ p.2) : VR p := by
  obtain ⟨a, b⟩ := fam_vn h.1 (Nat.le_trans hle h.2)
  obtain ⟨c, d⟩ := fam_vn (Nat.le_trans h.1 hle) h.2
  exact ⟨a, c, b.trans d.symm, hle⟩
theorem gaps_ok {S : List Sp} (hc : Can S) (hv : ∀ p ∈ S, VR p) : Can (gaps S) ∧ (∀ t, InS (gaps S) t ↔ VN t ∧ ¬ InS S t) ∧ ∀ p ∈ gaps S, VR p := by
  obtain ⟨a1, a2, a3⟩ := gapsOf_ok hc hv false
  obtain ⟨b1, b2, b3⟩ := gapsOf_ok hc hv true
  unfold gaps
  refine ⟨⟨List.pairwise_append.2 ⟨a2.1, b2.1, fun p hp q hq => ?_⟩, fun p hp => (List.mem_append.1 hp).elim (a2.2 p) (b2.2 p)⟩, fun t => ?_, fun p hp => ?_⟩
  · have h1 := (a3 p hp).2
    have h2 := (b3 q hq).1
    unfold topF at h1
    unfold loF at h2
    simp at h1 h2
    omega
  · rw [inS_append, a1, b1]
    cases sixN t <;> simp
  · rcases List.mem_append.1 hp with hp | hp
    · exact vr_fam (a3 p hp) (a2.2 p hp)
    · exact vr_fam (b3 p hp) (b2.2 p hp)
theorem gapsF_len (top : Nat) : ∀ (S : List Sp) (x : Nat), (gapsF top S x).length ≤ S.length + 1
  | [], x => by unfold gapsF; split <;> simp
  | r :: S, x => by
    have := gapsF_len top S (r.2 + 1)
    unfold gapsF
    rw [List.length_append]
    split <;> simp <;> omega
theorem gaps_len (S : List Sp) : (gaps S).length ≤ 2 * S.length + 2 := by
  have h1 := gapsF_len (topF false) (fam false S) (loF false)
  have h2 := gapsF_len (topF true) (fam true S) (loF true)
  have h3 : (fam false S).length ≤ S.length := List.length_filter_le _ _
  have h4 : (fam true S).length ≤ S.length := List.length_filter_le _ _
  unfold gaps gapsOf
  rw [List.length_append]
  omega

/-- what two lists of spans have in common -/
def both : List Sp → List Sp → List Sp
  | [], _ => []
  | _ :: _, [] => []
  | p :: A, q :: B => (if max p.1 q.1 ≤ min p.2 q.2 then [(max p.1 q.1, min p.2 q.2)] else []) ++ if p.2 < q.2 then both A (q :: B) else both (p :: A) B
termination_by A B => A.length + B.length
theorem both_nil (A : List Sp) : both A [] = [] := by cases A <;> simp [both]
theorem both_nil' (A : List Sp) : both [] A = [] := by simp [both]
theorem both_cons (p q : Sp) (A B : List Sp) : both (p :: A) (q :: B) = (if max p.1 q.1 ≤ min p.2 q.2 then [(max p.1 q.1, min p.2 q.2)] else []) ++ if p.2 < q.2 then both A (q :: B) else both (p :: A) B := by rw [both]
theorem both_mem (n : Nat) : ∀ (A B : List Sp), A.length + B.length ≤ n → Can A → Can B → ∀ x, InS (both A B) x ↔ InS A x ∧ InS B x := by
  induction n with
  | zero =>
    intro A B h hA hB x
    have : A = [] := by cases A with | nil => rfl | cons => simp at h
    subst this
    rw [both_nil']
    simp [inS_nil]
  | succ n ih =>
    intro A B h hA hB x
    cases A with
    | nil => rw [both_nil']; simp [inS_nil]
    | cons p A =>
      cases B with
      | nil => rw [both_nil]; simp [inS_nil]
      | cons q B =>
        simp only [List.length_cons] at h
        have hp := hA.head
        have hq := hB.head
        rw [both_cons, inS_append]
        have e1 : InS (if max p.1 q.1 ≤ min p.2 q.2 then [(max p.1 q.1, min p.2 q.2)] else []) x ↔ (p.1 ≤ x ∧ x ≤ p.2) ∧ (q.1 ≤ x ∧ x ≤ q.2) := by
          by_cases hc : max p.1 q.1 ≤ min p.2 q.2
          · rw [if_pos hc, inS_cons]
            simp only [inS_nil, or_false]
            omega
          · rw [if_neg hc]
            simp only [inS_nil, false_iff]
            omega
        rw [e1]
        by_cases hlt : p.2 < q.2
        · rw [if_pos hlt, ih A (q :: B) (by simp only [List.length_cons]; omega) hA.tail hB, inS_cons, inS_cons]
          constructor
          · rintro (h1 | h1)
            · exact ⟨.inl h1.1, .inl h1.2⟩
            · exact ⟨.inr h1.1, h1.2⟩
          · rintro ⟨h1 | h1, h2⟩
            · rcases h2 with h2 | h2
              · exact .inl ⟨h1, h2⟩
              · have := hq.2 x h2; omega
            · exact .inr ⟨h1, h2⟩
        · rw [if_neg hlt, ih (p :: A) B (by simp only [List.length_cons]; omega) hA hB.tail, inS_cons, inS_cons]
          constructor
          · rintro (h1 | h1)
            · exact ⟨.inl h1.1, .inl h1.2⟩
            · exact ⟨h1.1, .inr h1.2⟩
          · rintro ⟨h1, h2 | h2⟩
            · rcases h1 with h1 | h1
              · exact .inl ⟨h1, h2⟩
              · have := hp.2 x h1; omega
            · exact .inr ⟨h1, h2⟩
theorem both_vr (n : Nat) : ∀ (A B : List Sp), A.length + B.length ≤ n → (∀ p ∈ A, VR p) → (∀ p ∈ B, VR p) → (∀ p ∈ both A B, VR p) ∧ (both A B).length ≤ A.length + B.length := by
  induction n with
  | zero =>
    intro A B h hA hB
    have : A = [] := by cases A with | nil => rfl | cons => simp at h
    subst this
    rw [both_nil']
    simp
  | succ n ih =>
    intro A B h hA hB
    cases A with
    | nil => rw [both_nil']; simp
    | cons p A =>
      cases B with
      | nil => rw [both_nil]; simp
      | cons q B =>
        simp only [List.length_cons] at h
        have hp := hA p (List.mem_cons_self ..)
        have hq := hB q (List.mem_cons_self ..)
        have hA' : ∀ p ∈ A, VR p := fun r hr => hA r (List.mem_cons_of_mem _ hr)
        have hB' : ∀ p ∈ B, VR p := fun r hr => hB r (List.mem_cons_of_mem _ hr)
        rw [both_cons]
        have e1 : (∀ r ∈ (if max p.1 q.1 ≤ min p.2 q.2 then [(max p.1 q.1, min p.2 q.2)] else []), VR r) ∧ (if max p.1 q.1 ≤ min p.2 q.2 then [(max p.1 q.1, min p.2 q.2)] else []).length ≤ 1 := by
          by_cases hc : max p.1 q.1 ≤ min p.2 q.2
          · rw [if_pos hc]
            refine ⟨fun r hr => ?_, Nat.le_refl _⟩
            rw [List.mem_singleton.1 hr]
            have a := blk_vn hp (x := max p.1 q.1) (by omega) (by omega)
            have b := blk_vn hp (x := min p.2 q.2) (by omega) (by omega)
            exact ⟨a.1, b.1, a.2.2.trans b.2.2.symm, hc⟩
          · rw [if_neg hc]
            exact ⟨by simp, by simp⟩
        generalize (if max p.1 q.1 ≤ min p.2 q.2 then [(max p.1 q.1, min p.2 q.2)] else [] : List Sp) = E at *
        by_cases hlt : p.2 < q.2
        · rw [if_pos hlt]
          obtain ⟨i1, i2⟩ := ih A (q :: B) (by simp only [List.length_cons]; omega) hA' hB
          refine ⟨fun r hr => (List.mem_append.1 hr).elim (e1.1 r) (i1 r), ?_⟩
          have := e1.2
          simp only [List.length_append, List.length_cons] at i2 ⊢
          omega
        · rw [if_neg hlt]
          obtain ⟨i1, i2⟩ := ih (p :: A) B (by simp only [List.length_cons]; omega) hA hB'
          refine ⟨fun r hr => (List.mem_append.1 hr).elim (e1.1 r) (i1 r), ?_⟩
          have := e1.2
          simp only [List.length_append, List.length_cons] at i2 ⊢
          omega
/-- the reference's way: the rest of both rests -/
def restR (a : List Pf) : List Pf := pfs (gaps (spn a))
def unionR (a b : List Pf) : List Pf := lst (a ++ b)
def bothR (a b : List Pf) : List Pf := restR (unionR (restR a) (restR b))
def withoutR (a b : List Pf) : List Pf := bothR a (restR b)
theorem ok_restR {a : List Pf} (ha : ∀ p ∈ a, OkPf p) : ∀ p ∈ restR a, OkPf p := okPf_pfs (gaps_ok (spn_can ha) (spn_vr ha)).2.2
theorem ok_lst {a : List Pf} (ha : ∀ p ∈ a, OkPf p) : ∀ p ∈ lst a, OkPf p := okPf_pfs (spn_vr ha)
theorem ok_unionR {a b : List Pf} (ha : ∀ p ∈ a, OkPf p) (hb : ∀ p ∈ b, OkPf p) : ∀ p ∈ unionR a b, OkPf p := ok_lst (ok_append ha hb)
theorem spn_restR {a : List Pf} (ha : ∀ p ∈ a, OkPf p) : spn (restR a) = gaps (spn a) :=
  spn_pfs (gaps_ok (spn_can ha) (spn_vr ha)).1 (gaps_ok (spn_can ha) (spn_vr ha)).2.2
theorem spn_lst {a : List Pf} (ha : ∀ p ∈ a, OkPf p) : spn (lst a) = spn a := spn_pfs (spn_can ha) (spn_vr ha)
theorem both_ok {A B : List Sp} (hA : Can A) (hB : Can B) (vA : ∀ p ∈ A, VR p) (vB : ∀ p ∈ B, VR p) :
    Can (jn (both A B)) ∧ (∀ x, InS (jn (both A B)) x ↔ InS A x ∧ InS B x) ∧ ∀ p ∈ jn (both A B), VR p := by
  obtain ⟨h1, h2, h3⟩ := jn_can (both_vr _ A B (Nat.le_refl _) vA vB).1
  exact ⟨h1, fun x => (h2 x).trans (both_mem _ A B (Nat.le_refl _) hA hB x), h3⟩
/-- what two sets have in common, both ways -/
theorem both_eq {a b : List Pf} (ha : ∀ p ∈ a, OkPf p) (hb : ∀ p ∈ b, OkPf p) : bothR a b = pfs (jn (both (spn a) (spn b))) := by
  have hu := ok_unionR (ok_restR ha) (ok_restR hb)
  have ga := gaps_ok (spn_can ha) (spn_vr ha)
  have gb := gaps_ok (spn_can hb) (spn_vr hb)
  have gu := gaps_ok (spn_can hu) (spn_vr hu)
  obtain ⟨h1, h2, h3⟩ := both_ok (spn_can ha) (spn_can hb) (spn_vr ha) (spn_vr hb)
  unfold bothR
  rw [show restR (unionR (restR a) (restR b)) = pfs (gaps (spn (unionR (restR a) (restR b)))) from rfl]
  congr 1
  refine can_unique gu.1 h1 fun x => ?_
  have hr := ok_append (ok_restR ha) (ok_restR hb)
  rw [gu.2.1, h2]
  unfold unionR
  rw [spn_lst hr, inS_spn hr, List.map_append, inS_append, ← inS_spn (ok_restR ha), ← inS_spn (ok_restR hb), spn_restR ha, spn_restR hb, ga.2.1, gb.2.1]
  constructor
  · rintro ⟨v, h⟩
    constructor
    · exact Classical.byContradiction fun h4 => h (.inl ⟨v, h4⟩)
    · exact Classical.byContradiction fun h4 => h (.inr ⟨v, h4⟩)
  · rintro ⟨h4, h5⟩
    refine ⟨vr_vn (spn_vr ha) h4, ?_⟩
    rintro (h | h)
    · exact h.2 h4
    · exact h.2 h5
theorem without_eq {a b : List Pf} (ha : ∀ p ∈ a, OkPf p) (hb : ∀ p ∈ b, OkPf p) : withoutR a b = pfs (jn (both (spn a) (gaps (spn b)))) := by
  unfold withoutR
  rw [both_eq ha (ok_restR hb), spn_restR hb]

/-- the other block of the next longer one -/
def sib (i a : Nat) : Nat := if a / 2 ^ i % 2 = 0 then (a / 2 ^ i + 1) * 2 ^ i else (a / 2 ^ i - 1) * 2 ^ i
theorem blks_gb {L y : Nat} (x : Nat) : ∀ c ∈ blks L x y, c.2 = gB L c.1 y := by
  refine blks_ind (fun x l => ∀ c ∈ l, c.2 = gB L c.1 y) (fun x h c hc => by cases hc) (fun x h hg ih c hc => ?_) x
  rcases List.mem_cons.1 hc with rfl | hc
  · rfl
  · exact ih c hc
theorem can_out {S : List Sp} (hc : Can S) {s : Sp} (hs : s ∈ S) : ¬ InS S (s.2 + 1) ∧ (0 < s.1 → ¬ InS S (s.1 - 1)) := by
  have hle := hc.2 s hs
  have key : ∀ s' ∈ S, s' = s ∨ s.2 + 1 < s'.1 ∨ s'.2 + 1 < s.1 := fun s' hs' => by
    rcases List.mem_iff_getElem.1 hs with ⟨i, hi, rfl⟩
    rcases List.mem_iff_getElem.1 hs' with ⟨k, hk, rfl⟩
    have hpw := List.pairwise_iff_getElem.1 hc.1
    rcases Nat.lt_trichotomy i k with hik | hik | hik
    · exact .inr (.inl (hpw i k hi hk hik))
    · subst hik; exact .inl rfl
    · exact .inr (.inr (hpw k i hk hi hik))
  constructor
  · rintro ⟨s', hs', h1, h2⟩
    rcases key s' hs' with rfl | h | h <;> omega
  · rintro h0 ⟨s', hs', h1, h2⟩
    rcases key s' hs' with rfl | h | h <;> omega
theorem sib_hit {i P k' x : Nat} (hx : x = 2 * k' * 2 ^ i ∨ x = (2 * k' + 1) * 2 ^ i) (h1 : 2 * k' * 2 ^ i ≤ P) (h2 : P < (2 * k' + 2) * 2 ^ i) (h3 : ¬ (x ≤ P ∧ P < x + 2 ^ i)) : sib i P = x := by
  have hp := two_pos i
  unfold sib
  generalize 2 ^ i = Q at *
  have e1 : (2 * k' + 1) * Q = 2 * k' * Q + Q := by rw [Nat.add_mul, Nat.one_mul]
  have e2 : (2 * k' + 2) * Q = 2 * k' * Q + 2 * Q := by rw [Nat.add_mul]
  rcases hx with rfl | rfl
  · have : P / Q = 2 * k' + 1 := by
      rw [Nat.div_eq_iff (by omega)]
      omega
    rw [this, if_neg (by omega), Nat.add_sub_cancel]
  · have : P / Q = 2 * k' := by
      rw [Nat.div_eq_iff (by omega)]
      omega
    rw [this, if_pos (by omega)]
theorem sibs_len (B : List Sp) : (B.flatMap fun (p : Sp) => (List.range 128).map fun i => sib i p.1).length = 128 * B.length := by
  induction B with
  | nil => rfl
  | cons b B ih =>
    rw [List.flatMap_cons, List.length_append, ih]
    simp
    omega
/-- how many prefixes a set needs: what is in two lists of prefixes, and not in a third one -/
theorem cover_len {S : List Sp} (hS : Can S) (hv : ∀ p ∈ S, VR p) {A C B : List Sp} (hA : ∀ p ∈ A, ∃ j, PfxSp p j) (hC : ∀ p ∈ C, ∃ j, PfxSp p j) (hB : ∀ p ∈ B, ∃ j, PfxSp p j)
    (h : ∀ x, InS S x ↔ InS A x ∧ InS C x ∧ ¬ InS B x) : (allB S).length ≤ A.length + C.length + 128 * B.length + 2 := by
  have hlen : (A.map Prod.fst ++ C.map Prod.fst ++ B.flatMap (fun (p : Sp) => (List.range 128).map fun i => sib i p.1) ++ [0, 2 ^ 128]).length = A.length + C.length + 128 * B.length + 2 := by
    have := sibs_len B
    rw [List.length_append, List.length_append, List.length_append, this]
    simp
  rw [← hlen]
  have := nodup_le (l := (allB S).map Prod.fst) (m := A.map Prod.fst ++ C.map Prod.fst ++ B.flatMap (fun (p : Sp) => (List.range 128).map fun i => sib i p.1) ++ [0, 2 ^ 128]) (by rw [List.pairwise_map]; exact allB_first hS) fun x hx => by
    obtain ⟨c, hc, rfl⟩ := List.mem_map.1 hx
    obtain ⟨vc, lc, dc, _⟩ := mem_allB hv hc
    obtain ⟨s, hs, hc⟩ := List.mem_flatMap.1 hc
    have hL := (blk_vn (hv s hs) ((blks_ok (LN s.1) s.1 s.2).each c hc).1 ((blks_ok (LN s.1) s.1 s.2).each c hc).2.1).2.1
    obtain ⟨b1, b2, hg⟩ := (blks_ok (LN s.1) s.1 s.2).each c hc
    have hgb := blks_gb s.1 c hc
    rw [List.mem_append, List.mem_append, List.mem_append]
    obtain ⟨i, hi⟩ : ∃ i, LN s.1 - c.2 = i := ⟨_, rfl⟩
    have hdv := hg.dvd
    have hft := hg.fits
    rw [hi] at hdv hft
    have hLb : LN s.1 ≤ 128 := by unfold LN; split <;> omega
    have hxS : ∀ t, c.1 ≤ t → t < c.1 + 2 ^ i → InS S t := fun t h1 h2 => ⟨s, hs, by omega, by omega⟩
    have hpi := two_pos i
    rcases Nat.lt_or_ge i (LN s.1) with hiL | hiL
    · obtain ⟨k, hk⟩ := hdv
      obtain ⟨k', hk'⟩ : ∃ k', k = 2 * k' ∨ k = 2 * k' + 1 := ⟨k / 2, by omega⟩
      have hx2 : c.1 = 2 * k' * 2 ^ i ∨ c.1 = (2 * k' + 1) * 2 ^ i := by
        rcases hk' with rfl | rfl
        · exact .inl (by rw [hk, Nat.mul_comm])
        · exact .inr (by rw [hk, Nat.mul_comm])
      have hps : 2 ^ (i + 1) = 2 * 2 ^ i := by rw [Nat.pow_succ, Nat.mul_comm]
      have e1 : (2 * k' + 1) * 2 ^ i = 2 * k' * 2 ^ i + 2 ^ i := by rw [Nat.add_mul, Nat.one_mul]
      have e2 : (2 * k' + 2) * 2 ^ i = 2 * k' * 2 ^ i + 2 * 2 ^ i := by rw [Nat.add_mul]
      obtain ⟨z, hz⟩ : ∃ z, 2 * k' * 2 ^ i = z := ⟨_, rfl⟩
      have hzd : 2 ^ (i + 1) ∣ z := ⟨k', by rw [hps, ← hz]; rw [Nat.mul_comm 2 k', Nat.mul_assoc, Nat.mul_comm]⟩
      -- a number of the next longer block that is not in the set
      have hout : ∃ t, z ≤ t ∧ t < z + 2 ^ (i + 1) ∧ ¬ InS S t := by
        have ho := can_out hS hs
        rcases Nat.lt_or_ge z s.1 with h1 | h1
        · exact ⟨s.1 - 1, by omega, by omega, ho.2 (by omega)⟩
        · rcases Nat.lt_or_ge s.2 (z + 2 ^ (i + 1) - 1) with h2 | h2
          · exact ⟨s.2 + 1, by omega, by omega, ho.1⟩
          · exfalso
            have hzc := blks_top (L := LN s.1) (a := s.1) (y := s.2) s.1 (Nat.le_refl _) (fun z j _ _ h3 h4 => by omega) c hc z (i + 1) (by omega) hzd h1 (by omega) (by omega) (by omega)
            have := gB_top (L := LN s.1) (x := c.1) (y := s.2) (j := i + 1) (by omega) (by rw [← hzc]; exact hzd) (by rw [← hzc]; omega)
            rw [← hgb, hi] at this
            omega
      obtain ⟨t, t1, t2, tS⟩ := hout
      have hxin := (h c.1).1 (hxS c.1 (Nat.le_refl _) (by omega))
      have side : ∀ D : List Sp, (∀ p ∈ D, ∃ j, PfxSp p j) → InS D c.1 → ¬ InS D t → c.1 ∈ D.map Prod.fst := fun D hD h1 h2 => by
        obtain ⟨p, hp, l1, l2⟩ := h1
        obtain ⟨j, hj⟩ := hD p hp
        have hpj := two_pos j
        rw [hj.snd] at l2
        rcases Nat.lt_or_ge i j with hij | hij
        · exfalso
          have := nest (t := c.1) hzd hj.dvd hij (by omega) (by omega) l1 (by omega)
          exact h2 ⟨p, hp, by omega, by rw [hj.snd]; omega⟩
        · have := nest (t := c.1) hj.dvd (by rw [hk]; exact Nat.dvd_mul_right _ _ : 2 ^ i ∣ c.1) hij l1 (by omega) (Nat.le_refl _) (by omega)
          exact List.mem_map.2 ⟨p, hp, by omega⟩
      by_cases hBt : InS B t
      · obtain ⟨p, hp, l1, l2⟩ := hBt
        obtain ⟨j, hj⟩ := hB p hp
        have hpj := two_pos j
        rw [hj.snd] at l2
        have hij : j ≤ i := by
          rcases Nat.lt_or_ge i j with hij | hij
          · exfalso
            have := nest (t := t) hzd hj.dvd hij t1 t2 l1 (by omega)
            exact hxin.2.2 ⟨p, hp, by omega, by rw [hj.snd]; omega⟩
          · exact hij
        have hn := nest (t := t) hj.dvd hzd (by omega) l1 (by omega) t1 t2
        have hno : ¬ (c.1 ≤ p.1 ∧ p.1 < c.1 + 2 ^ i) := fun hh => by
          have := (h p.1).1 (hxS p.1 hh.1 hh.2)
          exact this.2.2 ⟨p, hp, Nat.le_refl _, by rw [hj.snd]; omega⟩
        have hsb : sib i p.1 = c.1 := sib_hit hx2 (by omega) (by omega) hno
        exact .inl (.inr (List.mem_flatMap.2 ⟨p, hp, List.mem_map.2 ⟨i, List.mem_range.2 (by omega), hsb⟩⟩))
      · by_cases hAt : InS A t
        · have hCt : ¬ InS C t := fun hct => tS ((h t).2 ⟨hAt, hct, hBt⟩)
          exact .inl (.inl (.inr (side C hC hxin.2.1 hCt)))
        · exact .inl (.inl (.inl (side A hA hxin.1 hAt)))
    · refine .inr ?_
      obtain rfl : i = LN s.1 := by omega
      rw [← hL] at hdv
      obtain ⟨k, hk⟩ := hdv
      rcases vc.cases with ⟨a, _, _, d⟩ | ⟨a, b, b', b''⟩
      · have hl : LN c.1 = 32 := by rw [LN_six, a]; rfl
        rw [hl] at hk
        have : k = 0 := by omega
        rw [hk, this]
        simp
      · have hl : LN c.1 = 128 := by rw [LN_six, a]; rfl
        rw [hl] at hk
        have hb : 2 ^ 128 ≤ c.1 ∧ c.1 < 2 ^ 129 := by
          rcases vc with h | h
          · have := of_decide_eq_true a; omega
          · exact h
        have : k = 1 := by omega
        rw [hk, this]
        simp
  rw [List.length_map] at this
  exact this
end Go.Proofs.YtgppbebdmbeohaaGreat

namespace Go.Proofs.YtgppbebdmbeohaaGreat
open Go.RowKit Go
set_option linter.unusedVariables false

/-- whether a number is in the range of a prefix -/
def inP (p : Pf) (x : Nat) : Bool := decide ((spP p).1 ≤ x) && decide (x ≤ (spP p).2)
theorem any_inP (L : List Pf) (x : Nat) : (L.any fun p => inP p x) = true ↔ InS (L.map spP) x := by
  rw [List.any_eq_true]
  unfold InS inP
  constructor
  · rintro ⟨p, hp, h⟩
    simp at h
    exact ⟨spP p, List.mem_map.2 ⟨p, hp, rfl⟩, h⟩
  · rintro ⟨q, hq, h⟩
    obtain ⟨p, hp, rfl⟩ := List.mem_map.1 hq
    exact ⟨p, hp, by simpa using h⟩
theorem holdsN {p : Pf} {x : Nat} (w : World) (hp : OkPf p) (hx : VN x) : Calls Tryz.prog 142 #[.agg (pfC p).toArray, .agg (aN x)] w (Ret (.bool (inP p x)) w) := by
  have h := holds_any p.1 p.2.1 p.2.2.1 p.2.2.2.toNat (sixN x) (hiN x) (loN x) w hp.ok.1.1 hp.ok.1.2.1 (hiN_u x) (loN_u x) hp.ok.2.1
  have e : holdsB p.1 p.2.1 p.2.2.1 p.2.2.2.toNat (sixN x) (hiN x) (loN x) = inP p x := by
    unfold holdsB inP spP
    rw [num_aN hx, fill_num hp.ok.1, LN_six, hp.num.2.1]
    rfl
  rw [e] at h
  have ec : (pfC p).toArray = #[.bool p.1, .int .u64 ((p.2.1 : Nat) : Int), .int .u64 ((p.2.2.1 : Nat) : Int), .int .i64 ((p.2.2.2.toNat : Nat) : Int)] := by
    unfold pfC
    rw [← hp.nn]
  rw [ec]
  exact h
set_option maxRecDepth 100000 in
set_option maxHeartbeats 1000000 in
theorem hasOf1_any {p : Pf} {x : Nat} (bx : Nat) (w : World) (hp : OkPf p) (hx : VN x) (hb : Blk w bx 32 (aN x)) : Calls Tryz.prog 141 #[.agg (pfC p).toArray, .pointer (some ⟨bx, 0, none⟩)] w (Ret (.bool (inP p x)) w) := by
  have HH := Lib.hid fun wx => holdsN wx hp hx
  obtain ⟨p1, p2, p3, p4, hpc, -, -⟩ := pf_cells hp
  rw [hpc] at HH ⊢
  have HX := Lib.hid hb
  clear hb hx hpc hp
  unfold aN at HX HH
  generalize inP p x = R at *
  generalize sixN x = x1 at *
  generalize hiN x = x2 at *
  generalize loN x = x3 at *
  have HP1 : Hid (Blk (w.alloc (.cells #[.bool p1, .int .u64 (p2 : Int), .int .u64 (p3 : Int), .int .i64 (p4 : Int)] 114 (0, 0))) w.heap.size 114 #[.bool p1, .int .u64 (p2 : Int), .int .u64 (p3 : Int), .int .i64 (p4 : Int)]) := Lib.hid (Blk.new w _ _)
  have HX1 : Hid (Blk (w.alloc (.cells #[.bool p1, .int .u64 (p2 : Int), .int .u64 (p3 : Int), .int .i64 (p4 : Int)] 114 (0, 0))) bx 32 #[.bool x1, .int .u64 (x2 : Int), .int .u64 (x3 : Int)]) := Lib.hid (HX.out.alloc _)
  have HB1 : Hid (Below w.heap.size w (w.alloc (.cells #[.bool p1, .int .u64 (p2 : Int), .int .u64 (p3 : Int), .int .i64 (p4 : Int)] 114 (0, 0)))) := Lib.hid (below_alloc (Below.refl _ _) _)
  go_enter Tryz.func141, Tryz.ntmps141
  go_upto_region 1 with fail
  generalize (w.alloc (.cells #[.bool p1, .int .u64 (p2 : Int), .int .u64 (p3 : Int), .int .i64 (p4 : Int)] 114 (0, 0))) = w2 at *
  have c0 := HP1.out.cell 0
  have c1 := HP1.out.cell 1
  have c2 := HP1.out.cell 2
  have c3 := HP1.out.cell 3
  simp at c0 c1 c2 c3
  have d0 := HX1.out.cell 0
  have d1 := HX1.out.cell 1
  have d2 := HX1.out.cell 2
  simp at d0 d1 d2
  go_wp2_with fail
  refine (HH.out _).mono ?_
  rintro e w3 ⟨rfl, hb⟩
  have HB3 := Lib.hid (HB1.out.trans (hb.mono HB1.out.size))
  clear hb c0 c1 c2 c3 d0 d1 d2
  go_wp2_with fail
  go_ret
  exact ⟨rfl, HB3.out⟩
set_option maxRecDepth 100000 in
set_option maxHeartbeats 2000000 in
theorem indexHas_any (ad : Option Addr) (n c bx : Nat) (L : List Pf) (x : Nat) (w : World) (h : RdK layPf w ad L) (hn : L.length = n) (hs : n ≤ 1000000) (hv : ∀ p ∈ L, OkPf p) (hx : VN x) (hb : Blk w bx 32 (aN x)) :
    Calls Tryz.prog 158 #[.slice ad n c, .func (.func 141) #[] #[.pointer (some ⟨bx, 0, none⟩)]] w fun e w' => ∃ k : Int, e = .returned (.int .i64 k) ∧ decide (0 ≤ k) = (L.any fun p => inP p x) ∧ Below w.heap.size w w' := by
  have H0 := Lib.hid h
  have Hn := Lib.hid hn
  have Hv := Lib.hid hv
  have HX := Lib.hid hb
  have Hx := Lib.hid hx
  clear h hn hv hb hx
  go_enter Tryz.func158, Tryz.ntmps158
  go_wp2_with fail
  go_loopw [5, 8] (fun s5 i wr => ∃ k : Nat, k ≤ n ∧ i = .int .i64 (k : Int) ∧ Hid (∀ j p, j < k → L[j]? = some p → inP p x = false) ∧ Hid (Below w.heap.size w wr)) (fun _ i _ => n - (intOf i).toNat)
  case atStart => exact ⟨0, Nat.zero_le _, rfl, Lib.hid fun j p hj => absurd hj (Nat.not_lt_zero _), Lib.hid (Below.refl _ _)⟩
  case round =>
    obtain ⟨k, hk, rfl, HN, HB⟩ := hrel
    by_cases hlt : k < n
    · have hS : k < L.length := by rw [Hn.out]; exact hlt
      obtain ⟨p, hp⟩ : ∃ p, L[k]? = some p := ⟨_, List.getElem?_eq_getElem hS⟩
      have hok := Hv.out p (List.mem_of_getElem? hp)
      have HC := Lib.hid fun wx (hb : Blk wx bx 32 (aN x)) => hasOf1_any bx wx hok Hx.out hb
      obtain ⟨p1, p2, p3, p4, hpc, -, -⟩ := pf_cells hok
      obtain ⟨g, o, had, hg, c0, c1, c2, c3⟩ := (H0.out.below HB.out).pf hp hpc
      rw [hpc] at HC
      have Hp := Lib.hid hp
      have Hpm := Lib.hid (List.mem_of_getElem? hp)
      have HXr := Lib.hid (HX.out.below HB.out HX.out.lt)
      subst had
      clear hp hS hok hpc hg
      go_wp2_with fail
      refine (HC.out _ HXr.out).mono ?_
      rintro e w3 ⟨rfl, hb⟩
      have HB3 := Lib.hid (HB.out.trans (hb.mono HB.out.size))
      clear hb HC HXr c0 c1 c2 c3
      cases hR : inP p x
      · have HN2 : Hid (∀ j q, j < k + 1 → L[j]? = some q → inP q x = false) := Lib.hid fun j q hj hq => by
          rcases Nat.lt_or_ge j k with h1 | h1
          · exact HN.out j q h1 hq
          · obtain rfl : j = k := by omega
            rw [Hp.out] at hq
            exact (Option.some.inj hq) ▸ hR
        clear hR
        go_wp2_with fail
        exact ⟨⟨k + 1, by omega, by go_num, HN2, HB3⟩, by simp [intOf]; omega⟩
      · have HT : Hid ((L.any fun p => inP p x) = true) := Lib.hid (List.any_eq_true.2 ⟨p, Hpm.out, hR⟩)
        clear hR
        go_wp2_with fail
        go_ret
        exact ⟨(k : Int), rfl, by rw [HT.out]; exact decide_eq_true (by omega), HB3.out⟩
    · obtain rfl : k = n := by omega
      have HT : Hid ((L.any fun p => inP p x) = false) := Lib.hid (by
        rw [Bool.eq_false_iff]
        intro h
        obtain ⟨p, hp, hR⟩ := List.any_eq_true.1 h
        obtain ⟨j, hj, rfl⟩ := List.getElem_of_mem hp
        have := HN.out j _ (by rw [← Hn.out]; exact hj) (List.getElem?_eq_getElem hj)
        rw [this] at hR; cases hR)
      go_wp2_with fail
      go_ret
      exact ⟨-1, rfl, by rw [HT.out]; rfl, HB.out⟩
set_option maxRecDepth 100000 in
set_option maxHeartbeats 1000000 in
theorem containsHas_any (ad : Option Addr) (n c bx : Nat) (L : List Pf) (x : Nat) (w : World) (h : RdK layPf w ad L) (hn : L.length = n) (hs : n ≤ 1000000) (hv : ∀ p ∈ L, OkPf p) (hx : VN x) (hb : Blk w bx 32 (aN x)) :
    Calls Tryz.prog 140 #[.slice ad n c, .func (.func 141) #[] #[.pointer (some ⟨bx, 0, none⟩)]] w (Ret (.bool (L.any fun p => inP p x)) w) := by
  have HI := Lib.hid (indexHas_any ad n c bx L x w h hn hs hv hx hb)
  clear h hn hs hv hx hb
  generalize (L.any fun p => inP p x) = R at *
  go_enter Tryz.func140, Tryz.ntmps140
  go_wp2_with fail
  refine HI.out.mono ?_
  rintro e w3 ⟨k, rfl, hk, hb⟩
  have HB := Lib.hid hb
  clear hb HI
  cases R
  · have hk0 : ¬ 0 ≤ k := of_decide_eq_false hk
    have hk1 : ¬ k ≥ 0 := hk0
    go_wp2_with fail
    go_ret
    exact ⟨rfl, HB.out⟩
  · have hk0 : 0 ≤ k := of_decide_eq_true hk
    have hk1 : k ≥ 0 := hk0
    go_wp2_with fail
    go_ret
    exact ⟨rfl, HB.out⟩
set_option maxRecDepth 100000 in
set_option maxHeartbeats 1000000 in
theorem hasOf_any (ad : Option Addr) (n c : Nat) (L : List Pf) (x : Nat) (w : World) (h : RdK layPf w ad L) (hn : L.length = n) (hs : n ≤ 1000000) (hv : ∀ p ∈ L, OkPf p) (hx : VN x) :
    Calls Tryz.prog 102 #[.slice ad n c, .agg (aN x)] w (Ret (.bool (L.any fun p => inP p x)) w) := by
  have hb0 : Below w.heap.size w (w.alloc (.cells (aN x) 32 (0, 0))) := below_alloc (Below.refl _ _) _
  have HC := Lib.hid (containsHas_any ad n c w.heap.size L x (w.alloc (.cells (aN x) 32 (0, 0))) (h.below hb0) hn hs hv hx (Blk.new w _ _))
  have HB0 := Lib.hid hb0
  clear h hn hs hv hx hb0
  generalize (L.any fun p => inP p x) = R at *
  unfold aN at HC HB0 ⊢
  generalize sixN x = x1 at *
  generalize hiN x = x2 at *
  generalize loN x = x3 at *
  go_enter Tryz.func102, Tryz.ntmps102
  go_wp2_with fail
  refine HC.out.mono ?_
  rintro e w3 ⟨rfl, hb⟩
  have HB3 := Lib.hid (HB0.out.trans (hb.mono HB0.out.size))
  clear hb HC HB0
  go_wp2_with fail
  go_ret
  exact ⟨rfl, HB3.out⟩
end Go.Proofs.YtgppbebdmbeohaaGreat

namespace Go.Proofs.YtgppbebdmbeohaaGreat
open Go.RowKit Go
set_option linter.unusedVariables false

set_option maxRecDepth 100000 in
set_option maxHeartbeats 1000000 in
theorem has1_any (p : Sp) (x : Nat) (w : World) (hp : VN p.1) (hx : VN x) : Calls Tryz.prog 139 #[.agg (rgC p).toArray, .agg (aN x)] w (Ret (.int .i64 (cN p.1 x)) w) := by
  have HC := Lib.hid fun wx => spanCompareN wx hp hx
  obtain ⟨a1, a2, a3, a4, a5, a6, hpc, ha, -, -, -⟩ := rg_cells p
  rw [ha] at HC
  rw [hpc]
  unfold aN at HC ⊢
  generalize cN p.1 x = R at *
  clear hp hx hpc ha
  generalize sixN x = x1 at *
  generalize hiN x = x2 at *
  generalize loN x = x3 at *
  have HP : Hid (Blk ((w.alloc (.cells #[.bool a1, .int .u64 (a2 : Int), .int .u64 (a3 : Int), .bool a4, .int .u64 (a5 : Int), .int .u64 (a6 : Int)] 162 (0, 0))).alloc (.cells #[.bool x1, .int .u64 (x2 : Int), .int .u64 (x3 : Int)] 32 (0, 0))) w.heap.size 162 #[.bool a1, .int .u64 (a2 : Int), .int .u64 (a3 : Int), .bool a4, .int .u64 (a5 : Int), .int .u64 (a6 : Int)]) := Lib.hid ((Blk.new w _ _).alloc _)
  have HX : Hid (Blk ((w.alloc (.cells #[.bool a1, .int .u64 (a2 : Int), .int .u64 (a3 : Int), .bool a4, .int .u64 (a5 : Int), .int .u64 (a6 : Int)] 162 (0, 0))).alloc (.cells #[.bool x1, .int .u64 (x2 : Int), .int .u64 (x3 : Int)] 32 (0, 0))) (w.heap.size + 1) 32 #[.bool x1, .int .u64 (x2 : Int), .int .u64 (x3 : Int)]) := Lib.hid (by
    have this := Blk.new (w.alloc (.cells #[.bool a1, .int .u64 (a2 : Int), .int .u64 (a3 : Int), .bool a4, .int .u64 (a5 : Int), .int .u64 (a6 : Int)] 162 (0, 0))) 32 #[.bool x1, .int .u64 (x2 : Int), .int .u64 (x3 : Int)]
    rw [World.size_alloc] at this
    exact this)
  have HB : Hid (Below w.heap.size w ((w.alloc (.cells #[.bool a1, .int .u64 (a2 : Int), .int .u64 (a3 : Int), .bool a4, .int .u64 (a5 : Int), .int .u64 (a6 : Int)] 162 (0, 0))).alloc (.cells #[.bool x1, .int .u64 (x2 : Int), .int .u64 (x3 : Int)] 32 (0, 0)))) := Lib.hid (below_alloc (below_alloc (Below.refl _ _) _) _)
  go_enter Tryz.func139, Tryz.ntmps139
  go_upto_region 1 with fail
  generalize ((w.alloc (.cells #[.bool a1, .int .u64 (a2 : Int), .int .u64 (a3 : Int), .bool a4, .int .u64 (a5 : Int), .int .u64 (a6 : Int)] 162 (0, 0))).alloc (.cells #[.bool x1, .int .u64 (x2 : Int), .int .u64 (x3 : Int)] 32 (0, 0))) = w2 at *
  have c0 := HP.out.cell 0
  have c1 := HP.out.cell 1
  have c2 := HP.out.cell 2
  have d0 := HX.out.cell 0
  have d1 := HX.out.cell 1
  have d2 := HX.out.cell 2
  simp at c0 c1 c2 d0 d1 d2
  go_wp2_with fail
  refine (HC.out _).mono ?_
  rintro e w3 ⟨rfl, hb⟩
  have HB3 := Lib.hid (HB.out.trans (hb.b.mono HB.out.size))
  clear hb c0 c1 c2 d0 d1 d2
  go_wp2_with fail
  go_ret
  exact ⟨rfl, HB3.out⟩
/-- what a binary search of a number finds among first numbers that do not fall -/
structure Bin (L : List Sp) (x k : Nat) (b : Bool) : Prop where
  le : k ≤ L.length
  lo : ∀ j p, j < k → L[j]? = some p → p.1 < x
  hi : ∀ j p, k ≤ j → L[j]? = some p → x ≤ p.1
  eq : b = true ↔ ∃ p, L[k]? = some p ∧ p.1 = x
theorem hs_neg {a b : Nat} : cN a b < 0 ↔ a < b := by
  unfold cN
  by_cases h : a < b
  · rw [if_pos h]; exact ⟨fun _ => h, fun _ => by omega⟩
  · rw [if_neg h]
    by_cases h2 : b < a
    · rw [if_pos h2]; exact ⟨fun h3 => by omega, fun h3 => absurd h3 h⟩
    · rw [if_neg h2]; exact ⟨fun h3 => by omega, fun h3 => absurd h3 h⟩
theorem hs_zero {a b : Nat} : cN a b = 0 ↔ a = b := by
  unfold cN
  by_cases h : a < b
  · rw [if_pos h]; exact ⟨fun h3 => by omega, fun h3 => by omega⟩
  · rw [if_neg h]
    by_cases h2 : b < a
    · rw [if_pos h2]; exact ⟨fun h3 => by omega, fun h3 => by omega⟩
    · rw [if_neg h2]; exact ⟨fun h3 => by omega, fun h3 => rfl⟩
set_option maxRecDepth 100000 in
set_option maxHeartbeats 4000000 in
theorem bin_any (ad : Option Addr) (n c : Nat) (L : List Sp) (x : Nat) (w : World) (h : RdK layRg w ad L) (hn : L.length = n) (hs : n ≤ 1000000) (hv : ∀ p ∈ L, VR p) (hx : VN x) (hm : ∀ (j i : Nat) (p q : Sp), j ≤ i → L[j]? = some p → L[i]? = some q → p.1 ≤ q.1) :
    Calls Tryz.prog 138 #[.slice ad n c, .agg (aN x), .func (.func 139) #[] #[]] w fun e w' => ∃ (k : Nat) (b : Bool), e = .returned (.tuple #[.int .i64 (k : Int), .bool b]) ∧ Bin L x k b ∧ Below w.heap.size w w' := by
  have H0 := Lib.hid h
  have Hn := Lib.hid hn
  have Hv := Lib.hid hv
  have Hx := Lib.hid hx
  have Hm := Lib.hid hm
  clear h hn hv hx hm
  have HX : Hid (Blk (w.alloc (.cells (aN x) 32 (0, 0))) w.heap.size 32 (aN x)) := Lib.hid (Blk.new w _ _)
  have HB : Hid (Below w.heap.size w (w.alloc (.cells (aN x) 32 (0, 0)))) := Lib.hid (below_alloc (Below.refl _ _) _)
  have HE : Hid (aN x = #[.bool (sixN x), .int .u64 ((hiN x : Nat) : Int), .int .u64 ((loN x : Nat) : Int)]) := Lib.hid rfl
  rw [HE.out] at HX HB ⊢
  generalize sixN x = x1 at *
  generalize hiN x = x2 at *
  generalize loN x = x3 at *
  go_enter Tryz.func138, Tryz.ntmps138
  go_upto_region 1 with fail
  generalize (w.alloc (.cells #[.bool x1, .int .u64 (x2 : Int), .int .u64 (x3 : Int)] 32 (0, 0))) = w2 at *
  go_wp2_with fail
  go_loopw [9, 10, 11] (fun iv jv s11 wr => ∃ i j : Nat, i ≤ j ∧ j ≤ n ∧ iv = .int .i64 (i : Int) ∧ jv = .int .i64 (j : Int) ∧ Hid (∀ m p, m < i → L[m]? = some p → p.1 < x) ∧ Hid (∀ m p, j ≤ m → L[m]? = some p → x ≤ p.1) ∧ Hid (Below w.heap.size w wr) ∧ Hid (Blk wr w.heap.size 32 #[.bool x1, .int .u64 (x2 : Int), .int .u64 (x3 : Int)])) (fun iv jv _ _ => (intOf jv).toNat - (intOf iv).toNat)
  case atStart => exact ⟨0, n, Nat.zero_le _, Nat.le_refl _, rfl, rfl, Lib.hid fun m p hj => absurd hj (Nat.not_lt_zero _), Lib.hid (fun m p hj hp => absurd (List.getElem?_eq_some_iff.1 hp).1 (by have := Hn.out; omega)), HB, HX⟩
  case round =>
    obtain ⟨i, j, hij, hjn, rfl, rfl, HLo, HHi, HBr, HXr⟩ := hrel
    by_cases hlt : i < j
    · obtain ⟨m, hme, him, hmj⟩ : ∃ m : Nat, ((i : Int) + (j : Int)) / 2 = (m : Int) ∧ i ≤ m ∧ m < j := ⟨(i + j) / 2, by omega, by omega, by omega⟩
      have hS : m < L.length := by rw [Hn.out]; omega
      obtain ⟨p, hp⟩ : ∃ p, L[m]? = some p := ⟨_, List.getElem?_eq_getElem hS⟩
      have hok := Hv.out p (List.mem_of_getElem? hp)
      have HC := Lib.hid fun wx => has1_any p x wx hok.a Hx.out
      rw [HE.out] at HC
      obtain ⟨a1, a2, a3, a4, a5, a6, hpc, -, -, -, -⟩ := rg_cells p
      obtain ⟨g, o, had, hg, c0, c1, c2, c3, c4, c5⟩ := (H0.out.below HBr.out).rg hp hpc
      rw [hpc] at HC
      obtain ⟨C, hC⟩ : ∃ C : Int, cN p.1 x = C := ⟨_, rfl⟩
      have HCl : Hid (C < 0 ↔ p.1 < x) := Lib.hid (by rw [← hC]; exact hs_neg)
      rw [hC] at HC
      have Hp := Lib.hid hp
      have hmn : (m : Int) < (n : Int) := by omega
      subst had
      clear hp hS hok hpc hg hC
      go_upto_region 5 with fail
      have d0 := HXr.out.cell 0
      have d1 := HXr.out.cell 1
      have d2 := HXr.out.cell 2
      simp at d0 d1 d2
      have k0 := Later.cell_of c0
      have k1 := Later.cell_of c1
      have k2 := Later.cell_of c2
      have k3 := Later.cell_of c3
      have k4 := Later.cell_of c4
      have k5 := Later.cell_of c5
      have l0 := Later.cell_of d0
      have l1 := Later.cell_of d1
      have l2 := Later.cell_of d2
      have hD := fun X : Later wr => Calls.later X (HC.out X.1)
      refine wp_region_later (by kernel_rfl) (by kernel_rfl) ?_
      repeat (go_big_quiet_step ((go_at_call 139; exact hD _)))
      refine wpQuiet_nil ?_
      rintro w8 ⟨n8, hn8⟩
      have hb : Below wr.heap.size wr w8 := by rw [hn8]; exact n8.2
      clear hn8 n8
      have HB8 := Lib.hid (HBr.out.trans (hb.mono HBr.out.size))
      have HX8 := Lib.hid (HXr.out.below hb HXr.out.lt)
      clear hb hD HC k0 k1 k2 k3 k4 k5 l0 l1 l2 c0 c1 c2 c3 c4 c5 d0 d1 d2 HBr HXr
      by_cases hpx : p.1 < x
      · have hC0 : C < 0 := HCl.out.2 hpx
        have HLo2 : Hid (∀ m' q, m' < m + 1 → L[m']? = some q → q.1 < x) := Lib.hid fun m' q h1 h2 => Nat.lt_of_le_of_lt (Hm.out m' m q p (by omega) h2 Hp.out) hpx
        clear HLo HCl
        go_wp2_with fail
        exact ⟨⟨m + 1, j, by omega, by omega, by go_num, rfl, HLo2, HHi, HB8, HX8⟩, by simp [intOf]; omega⟩
      · have hC0 : ¬ C < 0 := fun h => hpx (HCl.out.1 h)
        have HHi2 : Hid (∀ m' q, m ≤ m' → L[m']? = some q → x ≤ q.1) := Lib.hid fun m' q h1 h2 => Nat.le_trans (Nat.le_of_not_lt hpx) (Hm.out m m' p q h1 Hp.out h2)
        clear HHi HCl
        go_wp2_with fail
        exact ⟨⟨i, m, by omega, by omega, rfl, rfl, HLo, HHi2, HB8, HX8⟩, by simp [intOf]; omega⟩
    · obtain rfl : i = j := by omega
      by_cases hin : i < n
      · have hS : i < L.length := by rw [Hn.out]; exact hin
        obtain ⟨p, hp⟩ : ∃ p, L[i]? = some p := ⟨_, List.getElem?_eq_getElem hS⟩
        have hok := Hv.out p (List.mem_of_getElem? hp)
        have HC := Lib.hid fun wx => has1_any p x wx hok.a Hx.out
        rw [HE.out] at HC
        obtain ⟨a1, a2, a3, a4, a5, a6, hpc, -, -, -, -⟩ := rg_cells p
        obtain ⟨g, o, had, hg, c0, c1, c2, c3, c4, c5⟩ := (H0.out.below HBr.out).rg hp hpc
        rw [hpc] at HC
        obtain ⟨C, hC⟩ : ∃ C : Int, cN p.1 x = C := ⟨_, rfl⟩
        have HCl : Hid (C = 0 ↔ p.1 = x) := Lib.hid (by rw [← hC]; exact hs_zero)
        rw [hC] at HC
        have HBin : Hid (Bin L x i (C == 0)) := Lib.hid ⟨by have := Hn.out; omega, HLo.out, HHi.out, by
          rw [beq_iff_eq, HCl.out]
          exact ⟨fun h => ⟨p, hp, h⟩, fun ⟨q, h1, h2⟩ => by rw [hp] at h1; rw [Option.some.inj h1]; exact h2⟩⟩
        have hmn : (i : Int) < (n : Int) := by omega
        subst had
        clear hp hS hok hpc hg hC HCl
        go_upto_region 8 with fail
        have d0 := HXr.out.cell 0
        have d1 := HXr.out.cell 1
        have d2 := HXr.out.cell 2
        simp at d0 d1 d2
        have k0 := Later.cell_of c0
        have k1 := Later.cell_of c1
        have k2 := Later.cell_of c2
        have k3 := Later.cell_of c3
        have k4 := Later.cell_of c4
        have k5 := Later.cell_of c5
        have l0 := Later.cell_of d0
        have l1 := Later.cell_of d1
        have l2 := Later.cell_of d2
        have hD := fun X : Later wr => Calls.later X (HC.out X.1)
        refine wp_region_later (by kernel_rfl) (by kernel_rfl) ?_
        repeat (go_big_quiet_step ((go_at_call 139; exact hD _)))
        refine wpQuiet_nil ?_
        rintro w8 ⟨n8, hn8⟩
        have hb : Below wr.heap.size wr w8 := by rw [hn8]; exact n8.2
        clear hn8 n8
        have HB8 := Lib.hid (HBr.out.trans (hb.mono HBr.out.size))
        clear hb hD HC k0 k1 k2 k3 k4 k5 l0 l1 l2 c0 c1 c2 c3 c4 c5 d0 d1 d2 HBr HXr
        go_wp2_with fail
        go_ret2
        first | exact ⟨i, _, rfl, HBin.out, HB8.out⟩ | exact ⟨i, .inl ⟨rfl, HBin.out, HB8.out⟩⟩
      · have hin' : ¬ (i : Int) < (n : Int) := by omega
        have HBin : Hid (Bin L x i false) := Lib.hid ⟨by have := Hn.out; omega, HLo.out, HHi.out, by
          constructor
          · intro h; cases h
          · rintro ⟨p, h1, h2⟩
            exact absurd (List.getElem?_eq_some_iff.1 h1).1 (by have := Hn.out; omega)⟩
        go_upto_region 8 with fail
        refine wp_region_later (by kernel_rfl) (by kernel_rfl) ?_
        repeat (go_big_quiet_step (fail))
        refine wpQuiet_nil ?_
        rintro w8 ⟨n8, hn8⟩
        have hb : Below wr.heap.size wr w8 := by rw [hn8]; exact n8.2
        clear hn8 n8
        have HB8 := Lib.hid (HBr.out.trans (hb.mono HBr.out.size))
        clear hb HBr HXr
        go_wp2_with fail
        go_ret2
        first | exact ⟨i, _, rfl, HBin.out, HB8.out⟩ | exact ⟨i, .inl ⟨rfl, HBin.out, HB8.out⟩⟩
/-- whether a number is in spans, told by what a search finds -/
theorem bin_has {L : List Sp} {x k : Nat} {b : Bool} (hc : Can L) (h : Bin L x k b) : (b = true ∨ ∃ p, 0 < k ∧ L[k - 1]? = some p ∧ x ≤ p.2) ↔ InS L x := by
  constructor
  · rintro (hb | ⟨p, hk, hp, hx⟩)
    · obtain ⟨p, hp, hx⟩ := h.eq.1 hb
      have hm := List.mem_of_getElem? hp
      exact ⟨p, hm, by omega, by have := hc.2 p hm; omega⟩
    · have := h.lo (k - 1) p (by omega) hp
      exact ⟨p, List.mem_of_getElem? hp, by omega, hx⟩
  · rintro ⟨p, hm, h1, h2⟩
    obtain ⟨j, hj, rfl⟩ := List.getElem_of_mem hm
    have hjs := List.getElem?_eq_getElem hj
    rcases Nat.lt_or_ge j k with hjk | hjk
    · right
      have hk1 : k - 1 < L.length := by have := h.le; omega
      refine ⟨L[k - 1], by omega, List.getElem?_eq_getElem hk1, ?_⟩
      rcases Nat.lt_or_ge j (k - 1) with h3 | h3
      · have h4 := List.pairwise_iff_getElem.1 hc.1 j (k - 1) hj hk1 h3
        have h5 := hc.2 _ (List.getElem_mem hk1)
        have h6 := h.lo (k - 1) _ (by omega) (List.getElem?_eq_getElem hk1)
        omega
      · have : j = k - 1 := by omega
        subst this
        exact h2
    · left
      have hx := h.hi j _ hjk hjs
      have hxe : x = L[j].1 := by omega
      rcases Nat.lt_or_ge k j with h3 | h3
      · have hk1 : k < L.length := by omega
        have h4 := List.pairwise_iff_getElem.1 hc.1 k j hk1 hj h3
        have h5 := hc.2 _ (List.getElem_mem hk1)
        have h6 := h.hi k _ (Nat.le_refl _) (List.getElem?_eq_getElem hk1)
        omega
      · have : j = k := by omega
        subst this
        exact h.eq.2 ⟨_, hjs, hxe.symm⟩
theorem can_mono {L : List Sp} (hc : Can L) (j i : Nat) (p q : Sp) (h : j ≤ i) (h1 : L[j]? = some p) (h2 : L[i]? = some q) : p.1 ≤ q.1 := by
  obtain ⟨a1, rfl⟩ := List.getElem?_eq_some_iff.1 h1
  obtain ⟨a2, rfl⟩ := List.getElem?_eq_some_iff.1 h2
  rcases Nat.lt_or_ge j i with h3 | h3
  · have h4 := List.pairwise_iff_getElem.1 hc.1 j i a1 a2 h3
    have h5 := hc.2 _ (List.getElem_mem a1)
    omega
  · have : j = i := by omega
    subst this
    exact Nat.le_refl _
set_option maxRecDepth 100000 in
set_option maxHeartbeats 8000000 in
theorem has_any (ad : Option Addr) (n c : Nat) (L : List Sp) (x : Nat) (w : World) (h : RdK layRg w ad L) (hn : L.length = n) (hs : n ≤ 1000000) (hv : ∀ p ∈ L, VR p) (hx : VN x) (hc : Can L) :
    Calls Tryz.prog 99 #[.slice ad n c, .agg (aN x)] w fun e w' => ∃ b : Bool, e = .returned (.bool b) ∧ (b = true ↔ InS L x) ∧ Below w.heap.size w w' := by
  have H0 := Lib.hid h
  have Hn := Lib.hid hn
  have Hv := Lib.hid hv
  have Hx := Lib.hid hx
  have Hc := Lib.hid hc
  have HBS := Lib.hid fun wx (h : RdK layRg wx ad L) => bin_any ad n c L x wx h hn hs hv hx (can_mono hc)
  clear h hn hv hx hc
  have HX : Hid (Blk (w.alloc (.cells (aN x) 32 (0, 0))) w.heap.size 32 (aN x)) := Lib.hid (Blk.new w _ _)
  have HB : Hid (Below w.heap.size w (w.alloc (.cells (aN x) 32 (0, 0)))) := Lib.hid (below_alloc (Below.refl _ _) _)
  have HE : Hid (aN x = #[.bool (sixN x), .int .u64 ((hiN x : Nat) : Int), .int .u64 ((loN x : Nat) : Int)]) := Lib.hid rfl
  have HSx : Hid (sixN x = sixN x) := Lib.hid rfl
  obtain ⟨x1, hx1⟩ : ∃ x1 : Bool, sixN x = x1 := ⟨_, rfl⟩
  obtain ⟨x2, hx2⟩ : ∃ x2 : Nat, hiN x = x2 := ⟨_, rfl⟩
  obtain ⟨x3, hx3⟩ : ∃ x3 : Nat, loN x = x3 := ⟨_, rfl⟩
  rw [hx1, hx2, hx3] at HE
  have HS1 := Lib.hid hx1
  rw [HE.out] at HX HB HBS ⊢
  clear hx1 hx2 hx3 HSx
  go_enter Tryz.func99, Tryz.ntmps99
  go_upto_region 1 with fail
  generalize (w.alloc (.cells #[.bool x1, .int .u64 (x2 : Int), .int .u64 (x3 : Int)] 32 (0, 0))) = w2 at *
  have d0 := HX.out.cell 0
  have d1 := HX.out.cell 1
  have d2 := HX.out.cell 2
  simp at d0 d1 d2
  go_wp2_with fail
  refine (HBS.out _ (H0.out.below HB.out)).mono ?_
  rintro e w3 ⟨k, b, rfl, hbin, hb⟩
  have HB3 := Lib.hid (HB.out.trans (hb.mono HB.out.size))
  have HX3 := Lib.hid (HX.out.below hb HX.out.lt)
  have HBin := Lib.hid hbin
  have HH := Lib.hid (bin_has Hc.out hbin)
  clear hb hbin HBS HB HX d0 d1 d2
  go_upto_region 2 with fail
  have d0 := HX3.out.cell 0
  have d1 := HX3.out.cell 1
  have d2 := HX3.out.cell 2
  simp at d0 d1 d2
  have l0 := Later.cell_of d0
  have l1 := Later.cell_of d1
  have l2 := Later.cell_of d2
  cases b
  · by_cases hk : 0 < k
    · have hS : k - 1 < L.length := by have := HBin.out.le; omega
      obtain ⟨p, hp⟩ : ∃ p, L[k - 1]? = some p := ⟨_, List.getElem?_eq_getElem hS⟩
      have hok := Hv.out p (List.mem_of_getElem? hp)
      have hlo := HBin.out.lo (k - 1) p (by omega) hp
      have HC := Lib.hid fun wx => spanCompareN (y := p.2) wx Hx.out hok.b
      rw [HE.out] at HC
      obtain ⟨a1, a2, a3, a4, a5, a6, hpc, -, hp2, hs1, -⟩ := rg_cells p
      rw [hp2] at HC
      obtain ⟨g, o, had, hg, c0, c1, c2, c3, c4, c5⟩ := (H0.out.below HB3.out).rg hp hpc
      obtain ⟨C, hC⟩ : ∃ C : Int, cN x p.2 = C := ⟨_, rfl⟩
      have hCl : C ≤ 0 ↔ x ≤ p.2 := by rw [← hC]; exact cN_le x p.2
      rw [hC] at HC
      have HR : Hid (((a1 == x1) = true ∧ C ≤ 0) ↔ InS L x) := Lib.hid (by
        rw [← HH.out]
        constructor
        · rintro ⟨-, h⟩; exact .inr ⟨p, hk, hp, hCl.1 h⟩
        · rintro (h | ⟨q, h1, h2, h3⟩)
          · cases h
          · rw [hp] at h2
            have hq := Option.some.inj h2
            rw [← hq] at h3
            refine ⟨?_, hCl.2 h3⟩
            rw [beq_iff_eq, hs1, ← HS1.out]
            exact (blk_vn hok (by omega) h3).2.2.symm)
      have hk1 : ((k : Int) - 1) = ((k - 1 : Nat) : Int) := by omega
      have hkn : ((k - 1 : Nat) : Int) < (n : Int) := by have := Hn.out; omega
      have hkp : (k : Int) > 0 := by omega
      subst had
      clear hp hS hok hpc hg hC hCl hlo hp2 hs1 HH
      generalize k - 1 = k' at *
      have k0 := Later.cell_of c0
      have k1 := Later.cell_of c1
      have k2 := Later.cell_of c2
      have k3 := Later.cell_of c3
      have k4 := Later.cell_of c4
      have k5 := Later.cell_of c5
      have hD := fun X : Later w3 => Calls.later X ((HC.out X.1).mono fun _ _ h => h.ret)
      cases hsx : (a1 == x1)
      · have HR0 : Hid (¬ InS L x) := Lib.hid fun h => by have := (HR.out.2 h).1; rw [hsx] at this; cases this
        refine wp_region_later (by kernel_rfl) (by kernel_rfl) ?_
        repeat (go_big_quiet_step (fail))
        refine wpQuiet_nil ?_
        rintro w8 ⟨n8, hn8⟩
        have hb : Below w3.heap.size w3 w8 := by rw [hn8]; exact n8.2
        clear hn8 n8
        have HB8 := Lib.hid (HB3.out.trans (hb.mono HB3.out.size))
        clear hb hD HC k0 k1 k2 k3 k4 k5 l0 l1 l2 c0 c1 c2 c3 c4 c5 d0 d1 d2 HB3 HX3
        go_wp2_with fail
        go_ret
        first | exact ⟨false, rfl, ⟨fun h => (by cases h), fun h => absurd h HR0.out⟩, HB8.out⟩ | exact .inl ⟨rfl, ⟨fun h => (by cases h), fun h => absurd h HR0.out⟩, HB8.out⟩ | exact .inl ⟨rfl, HR0.out, HB8.out⟩
      · have HR0 : Hid (decide (C ≤ 0) = true ↔ InS L x) := Lib.hid (by rw [decide_eq_true_iff, ← HR.out]; exact ⟨fun h => ⟨hsx, h⟩, fun h => h.2⟩)
        refine wp_region_later (by kernel_rfl) (by kernel_rfl) ?_
        repeat (go_big_quiet_step ((go_at_call 131; exact hD _)))
        refine wpQuiet_nil ?_
        rintro w8 ⟨n8, hn8⟩
        have hb : Below w3.heap.size w3 w8 := by rw [hn8]; exact n8.2
        clear hn8 n8
        have HB8 := Lib.hid (HB3.out.trans (hb.mono HB3.out.size))
        clear hb hD HC k0 k1 k2 k3 k4 k5 l0 l1 l2 c0 c1 c2 c3 c4 c5 d0 d1 d2 HB3 HX3
        go_wp2_with fail
        go_ret
        exact ⟨_, rfl, HR0.out, HB8.out⟩
    · have hk0 : ¬ (k : Int) > 0 := by omega
      have HR0 : Hid (¬ InS L x) := Lib.hid fun h => by
        rcases HH.out.2 h with h | ⟨p, h1, _⟩
        · cases h
        · exact hk h1
      clear HH
      refine wp_region_later (by kernel_rfl) (by kernel_rfl) ?_
      repeat (go_big_quiet_step (fail))
      refine wpQuiet_nil ?_
      rintro w8 ⟨n8, hn8⟩
      have hb : Below w3.heap.size w3 w8 := by rw [hn8]; exact n8.2
      clear hn8 n8
      have HB8 := Lib.hid (HB3.out.trans (hb.mono HB3.out.size))
      clear hb l0 l1 l2 d0 d1 d2 HB3 HX3
      go_wp2_with fail
      go_ret
      first | exact ⟨false, rfl, ⟨fun h => (by cases h), fun h => absurd h HR0.out⟩, HB8.out⟩ | exact .inl ⟨rfl, ⟨fun h => (by cases h), fun h => absurd h HR0.out⟩, HB8.out⟩ | exact .inl ⟨rfl, HR0.out, HB8.out⟩
  · have HR0 : Hid (InS L x) := Lib.hid (HH.out.1 (.inl rfl))
    clear HH
    refine wp_region_later (by kernel_rfl) (by kernel_rfl) ?_
    repeat (go_big_quiet_step (fail))
    refine wpQuiet_nil ?_
    rintro w8 ⟨n8, hn8⟩
    have hb : Below w3.heap.size w3 w8 := by rw [hn8]; exact n8.2
    clear hn8 n8
    have HB8 := Lib.hid (HB3.out.trans (hb.mono HB3.out.size))
    clear hb l0 l1 l2 d0 d1 d2 HB3 HX3
    go_wp2_with fail
    go_ret
    first | exact ⟨true, rfl, ⟨fun _ => HR0.out, fun _ => rfl⟩, HB8.out⟩ | exact .inr ⟨rfl, ⟨fun _ => HR0.out, fun _ => rfl⟩, HB8.out⟩ | exact .inr ⟨rfl, HR0.out, HB8.out⟩
end Go.Proofs.YtgppbebdmbeohaaGreat

namespace Go.Proofs.YtgppbebdmbeohaaGreat
open Go.RowKit
set_option linter.unusedVariables false

def badPort (p n : Int) : Bool := outB n 0 65535 || (n != 0 && !hasPorts p)
theorem badPort_yes {p n : Int} (h : hasPorts p = true) : badPort p n = outB n 0 65535 := by simp [badPort, h]
theorem badPort_no {p n : Int} (h : hasPorts p = false) : badPort p n = outB n 0 0 := by
  simp only [badPort, h, outB, Bool.not_false, Bool.and_true]
  rw [Bool.eq_iff_iff]
  simp
  omega
def flowFault (f : FV) : Int :=
  if outB f.p 1 255 = true then 1
  else if aFault f.s1 f.h1 f.l1 ≠ 0 then aFault f.s1 f.h1 f.l1
  else if aFault f.s2 f.h2 f.l2 ≠ 0 then aFault f.s2 f.h2 f.l2
  else if f.s1 ≠ f.s2 then 10
  else if badPort f.p f.fp = true ∨ badPort f.p f.tp = true then 1 else 0

theorem idxA0 (s1 : Bool) (h1 l1 : Int) (s2 : Bool) (h2 l2 : Int) (w : World) : (Instr.index 126 (.agg #[.bool s1, .int .u64 h1, .int .u64 l1, .bool s2, .int .u64 h2, .int .u64 l2]) (.int .i64 0)).run Tryz.prog w = .ok (.agg #[.bool s1, .int .u64 h1, .int .u64 l1]) w := by kernel_rfl
theorem idxA1 (s1 : Bool) (h1 l1 : Int) (s2 : Bool) (h2 l2 : Int) (w : World) : (Instr.index 126 (.agg #[.bool s1, .int .u64 h1, .int .u64 l1, .bool s2, .int .u64 h2, .int .u64 l2]) (.int .i64 1)).run Tryz.prog w = .ok (.agg #[.bool s2, .int .u64 h2, .int .u64 l2]) w := by kernel_rfl
theorem idxI0 (x y : Int) (w : World) : (Instr.index 127 (.agg #[.int .i64 x, .int .i64 y]) (.int .i64 0)).run Tryz.prog w = .ok (.int .i64 x) w := by kernel_rfl
theorem idxI1 (x y : Int) (w : World) : (Instr.index 127 (.agg #[.int .i64 x, .int .i64 y]) (.int .i64 1)).run Tryz.prog w = .ok (.int .i64 y) w := by kernel_rfl

set_option maxRecDepth 100000 in
set_option maxHeartbeats 1000000 in
theorem vFlowFault_any (f : FV) (w : World) (h : f.ok) : Calls Tryz.prog 46 #[.agg f.cells] w (Ret (.int .i64 (flowFault f)) w) := by
  obtain ⟨p, s1, h1, l1, s2, h2, l2, fp, tp⟩ := f
  obtain ⟨hp, b1, b2, b3, b4, hf, ht⟩ := h
  simp only [FV.cells]
  have i0 := idxA0
  have i1 := idxA1
  have j0 := idxI0
  have j1 := idxI1
  have HB := Lib.hid (And.intro b1 (And.intro b2 (And.intro b3 b4)))
  clear b1 b2 b3 b4
  go_enter Tryz.func46, Tryz.ntmps46
  go_wp2_with (go_at_call 39; refine (outside_any _ _ _ _).mono ?_; rintro e w' ⟨rfl, rfl⟩)
  · go_ret
    exact ⟨by simp [flowFault, *], (Below.refl _ _).alloc (Nat.le_refl _) _⟩
  · refine wp_loop_rounds 3 ?_
    rw [rounds_succ]
    go_wp2_with (first | rw [rounds_succ] | (go_at_call 94; refine (checkAddr_any _ _ _ _ (by first | exact HB.out.1 | exact HB.out.2.2.1) (by first | exact HB.out.2.1 | exact HB.out.2.2.2)).mono ?_; rintro e w' ⟨rfl, o, rfl⟩))
    · go_ret; exact ⟨by simp_all [flowFault], by repeat (first | exact Below.refl _ _ | apply below_alloc | apply below_drewN)⟩
    · go_ret; exact ⟨by simp_all [flowFault], by repeat (first | exact Below.refl _ _ | apply below_alloc | apply below_drewN)⟩
    · go_ret; exact ⟨by simp_all [flowFault], by repeat (first | exact Below.refl _ _ | apply below_alloc | apply below_drewN)⟩
    · refine wp_loop_rounds 3 ?_
      rw [rounds_succ]
      go_wp2_with (first | rw [rounds_succ] | (go_at_call 39; refine (outside_any _ _ _ _).mono ?_; rintro e w' ⟨rfl, rfl⟩) | (go_at_call 95; refine (hasPorts_any _ _).mono ?_; rintro e w' ⟨rfl, rfl⟩))
      all_goals (go_ret; refine ⟨?_, by repeat (first | exact Below.refl _ _ | apply below_alloc | apply below_drewN)⟩)
      all_goals (clear i0 i1 j0 j1; simp_all [flowFault, badPort])
set_option maxRecDepth 100000 in
set_option maxHeartbeats 1000000 in
theorem qFlowFault_any (f : FV) (w : World) (h : f.ok) : Calls Tryz.prog 11 #[.agg f.cells] w (Ret (.int .i64 (flowFault f)) w) := by
  obtain ⟨p, s1, h1, l1, s2, h2, l2, fp, tp⟩ := f
  obtain ⟨hp, b1, b2, b3, b4, hf, ht⟩ := h
  simp only [FV.cells]
  have HB := Lib.hid (And.intro b1 (And.intro b2 (And.intro b3 b4)))
  clear b1 b2 b3 b4
  go_enter Tryz.func11, Tryz.ntmps11
  go_wp2_with (go_at_call 34; refine (in_any _ _ _ _).mono ?_; rintro e w' ⟨rfl, rfl⟩)
  · go_ret
    exact ⟨by simp_all [flowFault, inB_out], by repeat (first | exact Below.refl _ _ | apply below_alloc | apply below_drewN)⟩
  · refine wp_loop_rounds 3 ?_
    rw [rounds_succ]
    go_wp2_with (first | rw [rounds_succ] | (go_at_call 49; refine (addrFault_any _ _ _ _ (by first | exact HB.out.1 | exact HB.out.2.2.1) (by first | exact HB.out.2.1 | exact HB.out.2.2.2)).mono ?_; rintro e w' ⟨rfl, o, rfl⟩) | (go_at_call 34; refine (in_any _ _ _ _).mono ?_; rintro e w' ⟨rfl, rfl⟩))
    all_goals (go_ret; refine ⟨?_, by repeat (first | exact Below.refl _ _ | apply below_alloc | apply below_drewN)⟩)
    all_goals clear HB
    all_goals by_cases hP : hasPorts p = true
    all_goals first
      | (have hb := fun n => badPort_yes (n := n) hP; simp_all [flowFault, inB_out, hasPorts]; done)
      | (have hb := fun n => badPort_no (n := n) (Bool.eq_false_iff.2 hP); simp_all [flowFault, inB_out, hasPorts]; done)
end Go.Proofs.YtgppbebdmbeohaaGreat

namespace Go.Proofs.YtgppbebdmbeohaaGreat
open Go.RowKit Go
set_option linter.unusedVariables false

def poC (p : Int × Int) : List Value := [.int .i64 p.1, .int .i64 p.2]
def layPo : Lay (Int × Int) := ⟨poC, 2, 78, by decide, fun _ => rfl, fun p v hv => by simp [poC] at hv; rcases hv with rfl | rfl <;> rfl⟩
/-- whether a number is in a range of ports -/
def inPo (p : Int × Int) (x : Int) : Bool := decide (p.1 ≤ x) && decide (x ≤ p.2)
theorem RdK.po {w : World} {ad : Option Addr} {L : List (Int × Int)} (h : RdK layPo w ad L) {k : Nat} {p : Int × Int} (hp : L[k]? = some p) :
    ∃ g o, ad = some ⟨g, o, none⟩ ∧ g < w.heap.size ∧ w.cell? ⟨g, o + k * 2, none⟩ = some (.int .i64 p.1) ∧ w.cell? ⟨g, o + k * 2 + 1, none⟩ = some (.int .i64 p.2) := by
  obtain ⟨g, o, e, hg, h0⟩ := h k p hp
  have hE : layPo.enc p = [.int .i64 p.1, .int .i64 p.2] := rfl
  have hK : layPo.K = 2 := rfl
  rw [hE, hK] at h0
  exact ⟨g, o, e, hg, h0 0 _ rfl, h0 1 _ rfl⟩
set_option maxRecDepth 100000 in
set_option maxHeartbeats 1000000 in
theorem inPorts1_any (p1 p2 x : Int) (bx : Nat) (w : World) (hb : w.cell? ⟨bx, 0, none⟩ = some (.int .i64 x)) (hl : bx < w.heap.size) : Calls Tryz.prog 137 #[.agg #[.int .i64 p1, .int .i64 p2], .pointer (some ⟨bx, 0, none⟩)] w (Ret (.bool (inPo (p1, p2) x)) w) := by
  have HI : Hid (inPo (p1, p2) x = (decide (p1 ≤ x) && decide (x ≤ p2))) := Lib.hid rfl
  rw [HI.out]
  have hB : Below w.heap.size w (w.alloc (.cells #[.int .i64 p1, .int .i64 p2] 78 (0, 0))) := below_alloc (Below.refl _ _) _
  have HX : Hid ((w.alloc (.cells #[.int .i64 p1, .int .i64 p2] 78 (0, 0))).cell? ⟨bx, 0, none⟩ = some (.int .i64 x)) := Lib.hid ((hB.cell (p := ⟨bx, 0, none⟩) hl).trans hb)
  have HP : Hid (Blk (w.alloc (.cells #[.int .i64 p1, .int .i64 p2] 78 (0, 0))) w.heap.size 78 #[.int .i64 p1, .int .i64 p2]) := Lib.hid (Blk.new w _ _)
  have HB := Lib.hid hB
  clear hB hb hl
  go_enter Tryz.func137, Tryz.ntmps137
  go_upto_region 1 with fail
  generalize (w.alloc (.cells #[.int .i64 p1, .int .i64 p2] 78 (0, 0))) = w2 at *
  have c0 := HP.out.cell 0
  have c1 := HP.out.cell 1
  simp at c0 c1
  have d0 := HX.out
  by_cases h1 : p1 ≤ x
  · go_wp2_with fail
    go_ret
    exact ⟨by simp [h1], HB.out⟩
  · go_wp2_with fail
    go_ret
    exact ⟨by rw [show decide (p1 ≤ x) = false from decide_eq_false (by omega)]; rfl, HB.out⟩
set_option maxRecDepth 100000 in
set_option maxHeartbeats 1000000 in
theorem qlets1_any (p1 p2 x : Int) (bx : Nat) (w : World) (hb : w.cell? ⟨bx, 8, none⟩ = some (.int .i64 x)) (hl : bx < w.heap.size) : Calls Tryz.prog 104 #[.agg #[.int .i64 p1, .int .i64 p2], .pointer (some ⟨bx, 0, none⟩)] w (Ret (.bool (inPo (p1, p2) x)) w) := by
  have HI : Hid (inB x p1 p2 = inPo (p1, p2) x) := Lib.hid rfl
  rw [← HI.out]
  have hB : Below w.heap.size w (w.alloc (.cells #[.int .i64 p1, .int .i64 p2] 78 (0, 0))) := below_alloc (Below.refl _ _) _
  have HX : Hid ((w.alloc (.cells #[.int .i64 p1, .int .i64 p2] 78 (0, 0))).cell? ⟨bx, 8, none⟩ = some (.int .i64 x)) := Lib.hid ((hB.cell (p := ⟨bx, 8, none⟩) hl).trans hb)
  have HP : Hid (Blk (w.alloc (.cells #[.int .i64 p1, .int .i64 p2] 78 (0, 0))) w.heap.size 78 #[.int .i64 p1, .int .i64 p2]) := Lib.hid (Blk.new w _ _)
  have HB := Lib.hid hB
  clear hB hb hl
  go_enter Tryz.func104, Tryz.ntmps104
  go_upto_region 1 with fail
  generalize (w.alloc (.cells #[.int .i64 p1, .int .i64 p2] 78 (0, 0))) = w2 at *
  have c0 := HP.out.cell 0
  have c1 := HP.out.cell 1
  simp at c0 c1
  have d0 := HX.out
  go_wp2_with (go_at_call 34; refine (in_any _ _ _ _).mono ?_; rintro e w' ⟨rfl, rfl⟩)
  go_ret
  exact ⟨rfl, HB.out⟩
set_option maxRecDepth 100000 in
set_option maxHeartbeats 2000000 in
theorem indexPoP_any (ad : Option Addr) (n c bx : Nat) (L : List (Int × Int)) (x : Int) (w : World) (h : RdK layPo w ad L) (hn : L.length = n) (hs : n ≤ 1000000) (hb : w.cell? ⟨bx, 0, none⟩ = some (.int .i64 x)) (hl : bx < w.heap.size) :
    Calls Tryz.prog 143 #[.slice ad n c, .func (.func 137) #[] #[.pointer (some ⟨bx, 0, none⟩)]] w fun e w' => ∃ k : Int, e = .returned (.int .i64 k) ∧ decide (0 ≤ k) = (L.any fun p => inPo p x) ∧ Below w.heap.size w w' := by
  have H0 := Lib.hid h
  have Hn := Lib.hid hn
  have HX := Lib.hid hb
  have Hl := Lib.hid hl
  clear h hn hb hl
  go_enter Tryz.func143, Tryz.ntmps143
  go_wp2_with fail
  go_loopw [5, 8] (fun s5 i wr => ∃ k : Nat, k ≤ n ∧ i = .int .i64 (k : Int) ∧ Hid (∀ j p, j < k → L[j]? = some p → inPo p x = false) ∧ Hid (Below w.heap.size w wr)) (fun _ i _ => n - (intOf i).toNat)
  case atStart => exact ⟨0, Nat.zero_le _, rfl, Lib.hid fun j p hj => absurd hj (Nat.not_lt_zero _), Lib.hid (Below.refl _ _)⟩
  case round =>
    obtain ⟨k, hk, rfl, HN, HB⟩ := hrel
    by_cases hlt : k < n
    · have hS : k < L.length := by rw [Hn.out]; exact hlt
      obtain ⟨p, hp⟩ : ∃ p, L[k]? = some p := ⟨_, List.getElem?_eq_getElem hS⟩
      obtain ⟨g, o, had, hg, c0, c1⟩ := (H0.out.below HB.out).po hp
      obtain ⟨p1, p2⟩ := p
      have HXr := Lib.hid ((HB.out.cell (p := ⟨bx, 0, none⟩) Hl.out).trans HX.out)
      have HC := Lib.hid (inPorts1_any p1 p2 x bx wr HXr.out (Nat.lt_of_lt_of_le Hl.out HB.out.size))
      have Hp := Lib.hid hp
      have Hpm := Lib.hid (List.mem_of_getElem? hp)
      subst had
      clear hp hS hg HXr
      simp only at c0 c1
      go_wp2_with fail
      refine HC.out.mono ?_
      rintro e w3 ⟨rfl, hb⟩
      have HB3 := Lib.hid (HB.out.trans (hb.mono HB.out.size))
      clear hb HC c0 c1
      cases hR : inPo (p1, p2) x
      · have HN2 : Hid (∀ j q, j < k + 1 → L[j]? = some q → inPo q x = false) := Lib.hid fun j q hj hq => by
          rcases Nat.lt_or_ge j k with h1 | h1
          · exact HN.out j q h1 hq
          · obtain rfl : j = k := by omega
            rw [Hp.out] at hq
            exact (Option.some.inj hq) ▸ hR
        clear hR
        go_wp2_with fail
        exact ⟨⟨k + 1, by omega, by go_num, HN2, HB3⟩, by simp [intOf]; omega⟩
      · have HT : Hid ((L.any fun p => inPo p x) = true) := Lib.hid (List.any_eq_true.2 ⟨_, Hpm.out, hR⟩)
        clear hR
        go_wp2_with fail
        go_ret
        exact ⟨(k : Int), rfl, by rw [HT.out]; exact decide_eq_true (by omega), HB3.out⟩
    · obtain rfl : k = n := by omega
      have HT : Hid ((L.any fun p => inPo p x) = false) := Lib.hid (by
        rw [Bool.eq_false_iff]
        intro h
        obtain ⟨p, hp, hR⟩ := List.any_eq_true.1 h
        obtain ⟨j, hj, rfl⟩ := List.getElem_of_mem hp
        have := HN.out j _ (by rw [← Hn.out]; exact hj) (List.getElem?_eq_getElem hj)
        rw [this] at hR; cases hR)
      go_wp2_with fail
      go_ret
      exact ⟨-1, rfl, by rw [HT.out]; rfl, HB.out⟩
set_option maxRecDepth 100000 in
set_option maxHeartbeats 1000000 in
theorem containsPoP_any (ad : Option Addr) (n c bx : Nat) (L : List (Int × Int)) (x : Int) (w : World) (h : RdK layPo w ad L) (hn : L.length = n) (hs : n ≤ 1000000) (hb : w.cell? ⟨bx, 0, none⟩ = some (.int .i64 x)) (hl : bx < w.heap.size) :
    Calls Tryz.prog 103 #[.slice ad n c, .func (.func 137) #[] #[.pointer (some ⟨bx, 0, none⟩)]] w (Ret (.bool (L.any fun p => inPo p x)) w) := by
  have HI := Lib.hid (indexPoP_any ad n c bx L x w h hn hs hb hl)
  clear h hn hs hb hl
  generalize (L.any fun p => inPo p x) = R at *
  go_enter Tryz.func103, Tryz.ntmps103
  go_wp2_with fail
  refine HI.out.mono ?_
  rintro e w3 ⟨k, rfl, hk, hb⟩
  have HB := Lib.hid hb
  clear hb HI
  cases R
  · have hk0 : ¬ 0 ≤ k := of_decide_eq_false hk
    have hk1 : ¬ k ≥ 0 := hk0
    go_wp2_with fail
    go_ret
    exact ⟨rfl, HB.out⟩
  · have hk0 : 0 ≤ k := of_decide_eq_true hk
    have hk1 : k ≥ 0 := hk0
    go_wp2_with fail
    go_ret
    exact ⟨rfl, HB.out⟩
set_option maxRecDepth 100000 in
set_option maxHeartbeats 2000000 in
theorem indexPoQ_any (ad : Option Addr) (n c bx : Nat) (L : List (Int × Int)) (x : Int) (w : World) (h : RdK layPo w ad L) (hn : L.length = n) (hs : n ≤ 1000000) (hb : w.cell? ⟨bx, 8, none⟩ = some (.int .i64 x)) (hl : bx < w.heap.size) :
    Calls Tryz.prog 143 #[.slice ad n c, .func (.func 104) #[] #[.pointer (some ⟨bx, 0, none⟩)]] w fun e w' => ∃ k : Int, e = .returned (.int .i64 k) ∧ decide (0 ≤ k) = (L.any fun p => inPo p x) ∧ Below w.heap.size w w' := by
  have H0 := Lib.hid h
  have Hn := Lib.hid hn
  have HX := Lib.hid hb
  have Hl := Lib.hid hl
  clear h hn hb hl
  go_enter Tryz.func143, Tryz.ntmps143
  go_wp2_with fail
  go_loopw [5, 8] (fun s5 i wr => ∃ k : Nat, k ≤ n ∧ i = .int .i64 (k : Int) ∧ Hid (∀ j p, j < k → L[j]? = some p → inPo p x = false) ∧ Hid (Below w.heap.size w wr)) (fun _ i _ => n - (intOf i).toNat)
  case atStart => exact ⟨0, Nat.zero_le _, rfl, Lib.hid fun j p hj => absurd hj (Nat.not_lt_zero _), Lib.hid (Below.refl _ _)⟩
  case round =>
    obtain ⟨k, hk, rfl, HN, HB⟩ := hrel
    by_cases hlt : k < n
    · have hS : k < L.length := by rw [Hn.out]; exact hlt
      obtain ⟨p, hp⟩ : ∃ p, L[k]? = some p := ⟨_, List.getElem?_eq_getElem hS⟩
      obtain ⟨g, o, had, hg, c0, c1⟩ := (H0.out.below HB.out).po hp
      obtain ⟨p1, p2⟩ := p
      have HXr := Lib.hid ((HB.out.cell (p := ⟨bx, 8, none⟩) Hl.out).trans HX.out)
      have HC := Lib.hid (qlets1_any p1 p2 x bx wr HXr.out (Nat.lt_of_lt_of_le Hl.out HB.out.size))
      have Hp := Lib.hid hp
      have Hpm := Lib.hid (List.mem_of_getElem? hp)
      subst had
      clear hp hS hg HXr
      simp only at c0 c1
      go_wp2_with fail
      refine HC.out.mono ?_
      rintro e w3 ⟨rfl, hb⟩
      have HB3 := Lib.hid (HB.out.trans (hb.mono HB.out.size))
      clear hb HC c0 c1
      cases hR : inPo (p1, p2) x
      · have HN2 : Hid (∀ j q, j < k + 1 → L[j]? = some q → inPo q x = false) := Lib.hid fun j q hj hq => by
          rcases Nat.lt_or_ge j k with h1 | h1
          · exact HN.out j q h1 hq
          · obtain rfl : j = k := by omega
            rw [Hp.out] at hq
            exact (Option.some.inj hq) ▸ hR
        clear hR
        go_wp2_with fail
        exact ⟨⟨k + 1, by omega, by go_num, HN2, HB3⟩, by simp [intOf]; omega⟩
      · have HT : Hid ((L.any fun p => inPo p x) = true) := Lib.hid (List.any_eq_true.2 ⟨_, Hpm.out, hR⟩)
        clear hR
        go_wp2_with fail
        go_ret
        exact ⟨(k : Int), rfl, by rw [HT.out]; exact decide_eq_true (by omega), HB3.out⟩
    · obtain rfl : k = n := by omega
      have HT : Hid ((L.any fun p => inPo p x) = false) := Lib.hid (by
        rw [Bool.eq_false_iff]
        intro h
        obtain ⟨p, hp, hR⟩ := List.any_eq_true.1 h
        obtain ⟨j, hj, rfl⟩ := List.getElem_of_mem hp
        have := HN.out j _ (by rw [← Hn.out]; exact hj) (List.getElem?_eq_getElem hj)
        rw [this] at hR; cases hR)
      go_wp2_with fail
      go_ret
      exact ⟨-1, rfl, by rw [HT.out]; rfl, HB.out⟩
set_option maxRecDepth 100000 in
set_option maxHeartbeats 1000000 in
theorem containsPoQ_any (ad : Option Addr) (n c bx : Nat) (L : List (Int × Int)) (x : Int) (w : World) (h : RdK layPo w ad L) (hn : L.length = n) (hs : n ≤ 1000000) (hb : w.cell? ⟨bx, 8, none⟩ = some (.int .i64 x)) (hl : bx < w.heap.size) :
    Calls Tryz.prog 103 #[.slice ad n c, .func (.func 104) #[] #[.pointer (some ⟨bx, 0, none⟩)]] w (Ret (.bool (L.any fun p => inPo p x)) w) := by
  have HI := Lib.hid (indexPoQ_any ad n c bx L x w h hn hs hb hl)
  clear h hn hs hb hl
  generalize (L.any fun p => inPo p x) = R at *
  go_enter Tryz.func103, Tryz.ntmps103
  go_wp2_with fail
  refine HI.out.mono ?_
  rintro e w3 ⟨k, rfl, hk, hb⟩
  have HB := Lib.hid hb
  clear hb HI
  cases R
  · have hk0 : ¬ 0 ≤ k := of_decide_eq_false hk
    have hk1 : ¬ k ≥ 0 := hk0
    go_wp2_with fail
    go_ret
    exact ⟨rfl, HB.out⟩
  · have hk0 : 0 ≤ k := of_decide_eq_true hk
    have hk1 : k ≥ 0 := hk0
    go_wp2_with fail
    go_ret
    exact ⟨rfl, HB.out⟩
set_option maxRecDepth 100000 in
set_option maxHeartbeats 1000000 in
theorem inPorts_any (ad : Option Addr) (n c : Nat) (L : List (Int × Int)) (x : Int) (w : World) (h : RdK layPo w ad L) (hn : L.length = n) (hs : n ≤ 1000000) :
    Calls Tryz.prog 98 #[.slice ad n c, .int .i64 x] w (Ret (.bool (L.any fun p => inPo p x)) w) := by
  have hb0 : Below w.heap.size w (w.alloc (.cells #[.int .i64 x] 3 (0, 0))) := below_alloc (Below.refl _ _) _
  have hX : Blk (w.alloc (.cells #[.int .i64 x] 3 (0, 0))) w.heap.size 3 #[.int .i64 x] := Blk.new w _ _
  have hc0 : (w.alloc (.cells #[.int .i64 x] 3 (0, 0))).cell? ⟨w.heap.size, 0, none⟩ = some (.int .i64 x) := by first | exact hX.cell 0 | simp
  have HC := Lib.hid (containsPoP_any ad n c w.heap.size L x (w.alloc (.cells #[.int .i64 x] 3 (0, 0))) (h.below hb0) hn hs hc0 hX.lt)
  have HB0 := Lib.hid hb0
  clear h hn hs hb0 hX hc0
  generalize (L.any fun p => inPo p x) = R at *
  go_enter Tryz.func98, Tryz.ntmps98
  go_wp2_with fail
  refine HC.out.mono ?_
  rintro e w3 ⟨rfl, hb⟩
  have HB3 := Lib.hid (HB0.out.trans (hb.mono HB0.out.size))
  clear hb HC HB0
  go_wp2_with fail
  go_ret
  exact ⟨rfl, HB3.out⟩
end Go.Proofs.YtgppbebdmbeohaaGreat
