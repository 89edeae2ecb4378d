/-
  Spans.Rest: the gaps between ranges, of all addresses.
-/
import Derived.Test.YtaeieigdibanlaaGreatDoorST13
import Derived.Test.YtaeieigdibanlaaGreatDoorST12
set_option linter.unusedVariables false
namespace Go.Proofs.YtaeieigdibanlaaGreatDoor
open Go.RowKit Go
set_option linter.unusedVariables false

/-- the gaps of the first families -/
def gapsTo (S : List Sp) : Nat → List Sp
  | 0 => []
  | 1 => gapsOf false S
  | _ => gaps S
theorem gapsTo_succ (S : List Sp) (i : Nat) (h : i < 2) : gapsTo S (i + 1) = gapsTo S i ++ gapsOf (decide (i = 1)) S := by
  have : i = 0 ∨ i = 1 := by omega
  rcases this with rfl | rfl
  · rfl
  · rfl
theorem aN_lo (six : Bool) : aN (loF six) = #[.bool six, .int .u64 0, .int .u64 0] := by
  cases six <;> rfl
theorem lo_vn (six : Bool) : VN (loF six) ∧ sixN (loF six) = six := by
  have h : loF six ≤ topF six := by cases six <;> decide
  exact fam_vn (Nat.le_refl _) h
theorem top_fam {x : Nat} {six : Bool} (h : VN x) (hs : sixN x = six) : topN x = topF six := by
  rw [top_val h, hs]; rfl
theorem fam_drop {S : List Sp} {k : Nat} {r : Sp} (hr : S[k]? = some r) (six : Bool) : fam six (S.drop k) = if sixN r.1 = six then r :: fam six (S.drop (k + 1)) else fam six (S.drop (k + 1)) := by
  have hk := (List.getElem?_eq_some_iff.1 hr).1
  have e : S[k] = r := by rw [List.getElem?_eq_getElem hk] at hr; injection hr
  rw [List.drop_eq_getElem_cons hk, e]
  unfold fam
  by_cases h : sixN r.1 = six
  · rw [if_pos h, List.filter_cons_of_pos (by simpa using h)]
  · rw [if_neg h, List.filter_cons_of_neg (by simpa using h)]
/-- where the walk over the ranges stands -/
structure GapSt (S : List Sp) (six left : Bool) (k x : Nat) (D : List Sp) : Prop where
  vx : VN x
  sx : sixN x = six
  eq : D ++ (if left = true then gapsF (topF six) (fam six (S.drop k)) x else []) = gapsOf six S
  up : left = true → ∀ p ∈ fam six (S.drop k), x ≤ p.1
  no : left = false → fam six (S.drop k) = []
theorem gapSt_zero {S : List Sp} (hv : ∀ p ∈ S, VR p) (six : Bool) : GapSt S six true 0 (loF six) [] :=
  ⟨(lo_vn six).1, (lo_vn six).2, rfl, fun _ p hp => (fam_bd hv six p hp).1, fun h => by cases h⟩
theorem GapSt.skip {S : List Sp} {six left : Bool} {k x : Nat} {D : List Sp} (h : GapSt S six left k x D) {r : Sp} (hr : S[k]? = some r) (hs : sixN r.1 ≠ six) : GapSt S six left (k + 1) x D := by
  have e := fam_drop hr six
  rw [if_neg hs] at e
  exact ⟨h.vx, h.sx, by rw [← e]; exact h.eq, by rw [← e]; exact h.up, by rw [← e]; exact h.no⟩
theorem GapSt.hit {S : List Sp} (hc : Can S) (hv : ∀ p ∈ S, VR p) {six left : Bool} {k x : Nat} {D : List Sp} (h : GapSt S six left k x D) {r : Sp} (hr : S[k]? = some r) (hs : sixN r.1 = six) :
    left = true ∧ x ≤ r.1 ∧ (x < r.1 → VN (r.1 - 1) ∧ sixN (r.1 - 1) = sixN r.1 ∧ 0 < r.1) ∧ GapSt S six (!decide (r.2 = topN r.2)) (k + 1) (if r.2 = topN r.2 then r.2 else r.2 + 1) (D ++ if x < r.1 then [(x, r.1 - 1)] else []) := by
  have e := fam_drop hr six
  rw [if_pos hs] at e
  have hrv := hv r (List.mem_of_getElem? hr)
  have hl : left = true := by
    cases left
    · have := h.no rfl
      rw [e] at this; cases this
    · rfl
  subst hl
  have hxr := h.up rfl r (by rw [e]; exact List.mem_cons_self ..)
  have hs2 : sixN r.2 = six := hrv.s.symm.trans hs
  have ht := top_fam hrv.b hs2
  have hq : ∀ p ∈ fam six (S.drop (k + 1)), r.2 + 1 < p.1 ∧ p.1 ≤ p.2 ∧ p.2 ≤ topF six := fun p hp => by
    have hpS : p ∈ S.drop (k + 1) := (List.mem_filter.1 hp).1
    have hk := (List.getElem?_eq_some_iff.1 hr).1
    have ek : S[k] = r := by rw [List.getElem?_eq_getElem hk] at hr; injection hr
    have hcd : Can (S.drop k) := ⟨hc.1.sublist (List.drop_sublist _ _), fun q hq => hc.2 q (List.mem_of_mem_drop hq)⟩
    rw [List.drop_eq_getElem_cons hk, ek] at hcd
    have h1 := (List.pairwise_cons.1 hcd.1).1 p hpS
    have hpm : p ∈ S := List.mem_of_mem_drop hpS
    exact ⟨h1, (hv p hpm).le, (fam_bd hv six p (List.mem_filter.2 ⟨hpm, (List.mem_filter.1 hp).2⟩)).2⟩
  have heq := h.eq
  rw [if_pos rfl, e] at heq
  unfold gapsF at heq
  refine ⟨rfl, hxr, fun hlt => ?_, ?_⟩
  · have h1 : VN (r.1 - 1) ∧ sixN (r.1 - 1) = six := by
      have a := vn_fam h.vx
      have b := vn_fam hrv.a
      rw [h.sx] at a
      rw [hs] at b
      exact fam_vn (by omega) (by omega)
    exact ⟨h1.1, h1.2.trans hs.symm, by omega⟩
  · by_cases h2 : r.2 = topN r.2
    · have hnil : fam six (S.drop (k + 1)) = [] := by
        cases hf : fam six (S.drop (k + 1)) with
        | nil => rfl
        | cons q Q =>
          have := hq q (by rw [hf]; exact List.mem_cons_self ..)
          rw [ht] at h2
          omega
      rw [if_pos h2, decide_eq_true h2]
      refine ⟨hrv.b, hs2, ?_, fun h => by simp at h, fun _ => hnil⟩
      rw [hnil] at heq
      unfold gapsF at heq
      rw [ht] at h2
      rw [if_neg (by omega : ¬ r.2 + 1 ≤ topF six), List.append_nil] at heq
      simpa using heq
    · have hn := next_num hrv.b h2
      rw [if_neg h2, decide_eq_false h2]
      refine ⟨hn.1, hn.2.1.trans hs2, ?_, fun _ p hp => ?_, fun h => by simp at h⟩
      · rw [if_pos (by rfl : (!false) = true), List.append_assoc]
        exact heq
      · have := hq p hp; omega
theorem GapSt.done {S : List Sp} {six left : Bool} {k x : Nat} {D : List Sp} (h : GapSt S six left k x D) (hk : S.length ≤ k) : D ++ (if left = true then [(x, topN x)] else []) = gapsOf six S := by
  have he := h.eq
  rw [List.drop_eq_nil_of_le hk] at he
  have : fam six ([] : List Sp) = [] := rfl
  rw [this] at he
  unfold gapsF at he
  have hx := (vn_fam h.vx).2
  rw [h.sx] at hx
  rw [if_pos hx, ← top_fam h.vx h.sx] at he
  exact he
theorem GapSt.len {S : List Sp} {six left : Bool} {k x : Nat} {D : List Sp} (h : GapSt S six left k x D) : D.length ≤ S.length + 1 := by
  have e := congrArg List.length h.eq
  rw [List.length_append] at e
  have := gapsF_len (topF six) (fam six S) (loF six)
  have h2 : (fam six S).length ≤ S.length := List.length_filter_le _ _
  unfold gapsOf at e
  omega
theorem gapsTo_len (S : List Sp) (i : Nat) : (gapsTo S i).length ≤ 2 * S.length + 2 := by
  have h := gaps_len S
  rcases i with _ | _ | i
  · simp [gapsTo]
  · have : (gaps S).length = (gapsOf false S).length + (gapsOf true S).length := by unfold gaps; rw [List.length_append]
    show (gapsOf false S).length ≤ _
    omega
  · exact h
/-- what the region of 'append(out, Range{at, before(r.First)})' has yielded -/
def reR (br : Nat) (out : Value) (xa ra pa v6 : Array Value) : Nat → Value → World → Prop
  | 0, v, _ => v = out
  | 1, v, _ => v = .agg xa
  | 2, v, _ => v = .pointer (some ⟨br, 0, none⟩)
  | 3, v, _ => v = .agg ra
  | 4, v, _ => v = .agg pa
  | 5, v, _ => v = .agg v6
  | _, v, w => ∃ B, v = .slice (some ⟨B, 0, none⟩) 1 1 ∧ Blk w B 143 v6
theorem reR_keep {br : Nat} {out : Value} {xa ra pa v6 : Array Value} (p : Nat) (v : Value) (u w : World) (h : reR br out xa ra pa v6 p v u) (hb : Below u.heap.size u w) : reR br out xa ra pa v6 p v w := by
  rcases p with _ | _ | _ | _ | _ | _ | p
  all_goals first | exact h | (obtain ⟨B, h1, h2⟩ := h; exact ⟨B, h1, h2.below hb h2.lt⟩)
def rfR (out : Value) (xa pa v6 : Array Value) : Nat → Value → World → Prop
  | 0, v, _ => v = out
  | 1, v, _ => v = .agg xa
  | 2, v, _ => v = .agg xa
  | 3, v, _ => v = .agg pa
  | 4, v, _ => v = .agg v6
  | _, v, w => ∃ B, v = .slice (some ⟨B, 0, none⟩) 1 1 ∧ Blk w B 143 v6
theorem rfR_keep {out : Value} {xa pa v6 : Array Value} (p : Nat) (v : Value) (u w : World) (h : rfR out xa pa v6 p v u) (hb : Below u.heap.size u w) : rfR out xa pa v6 p v w := by
  rcases p with _ | _ | _ | _ | _ | p
  all_goals first | exact h | (obtain ⟨B, h1, h2⟩ := h; exact ⟨B, h1, h2.below hb h2.lt⟩)
set_option maxRecDepth 100000 in
set_option maxHeartbeats 4000000 in
theorem rest_any (ad : Option Addr) (n c : Nat) (S : List Sp) (w : World) (h : RdK layRg w ad S) (hn : S.length = n) (hs : n ≤ 10000) (hc : Can S) (hv : ∀ p ∈ S, VR p) :
    Calls Tryz.prog 79 #[.slice ad n c] w fun e w' => ∃ v, e = .returned v ∧ OwnK layRg w' w.heap.size v (gaps S) ∧ Below w.heap.size w w' := by
  have Hv := Lib.hid hv
  have Hc := Lib.hid hc
  have H0 := Lib.hid h
  have Hn := Lib.hid hn
  clear h hn hv hc
  have HB0 : Hid (Below w.heap.size w (w.alloc (.cells #[.bool false, .bool true] 4 (0, 0)))) := Lib.hid (below_alloc (Below.refl _ _) _)
  have HW0 : Hid (Blk (w.alloc (.cells #[.bool false, .bool true] 4 (0, 0))) w.heap.size 4 #[.bool false, .bool true]) := Lib.hid (Blk.new w _ _)
  go_enter Tryz.func79, Tryz.ntmps79
  go_upto_block 0 with fail
  generalize (w.alloc (.cells #[.bool false, .bool true] 4 (0, 0))) = w1 at *
  generalize hbb : w.heap.size = bb at *
  have Hbb := Lib.hid hbb
  clear hbb
  have HS1 : Hid (RdK layRg w1 ad S) := Lib.hid (H0.out.below (by rw [Hbb.out]; exact HB0.out))
  clear H0
  go_wp2_with fail
  go_loopw [3, 5, 6, 7, 9, 12] (fun out s5 s6 s7 s9 i wr => ∃ j : Nat, j ≤ 2 ∧ i = .int .i64 (j : Int) ∧ Hid (OwnK layRg wr w1.heap.size out (gapsTo S j)) ∧ Hid (Below w1.heap.size w1 wr)) (fun _ _ _ _ _ i _ => 2 - (intOf i).toNat)
  case atStart => exact ⟨0, by omega, rfl, Lib.hid (OwnK.nil _ _ _), Lib.hid (Below.refl _ _)⟩
  case round =>
    obtain ⟨j, hj, rfl, HO, HB⟩ := hrel
    by_cases hlt : j < 2
    · obtain ⟨six, hsix⟩ : ∃ b : Bool, decide (j = 1) = b := ⟨_, rfl⟩
      have hcell : wr.cell? ⟨bb, j, none⟩ = some (.bool six) := by
        rw [(HW0.out.below HB.out HW0.out.lt).cell j, ← hsix]
        have : j = 0 ∨ j = 1 := by omega
        rcases this with rfl | rfl <;> rfl
      have HGs : Hid (gapsTo S (j + 1) = gapsTo S j ++ gapsOf six S) := Lib.hid (by rw [gapsTo_succ S j hlt, hsix])
      have HGl : Hid ((gapsTo S j).length ≤ 2 * 10000 + 2) := Lib.hid (by have := gapsTo_len S j; rw [Hn.out] at this; omega)
      have hAx : Blk (wr.alloc (.cells #[.bool six, .int .u64 0, .int .u64 0] 33 (0, 0))) wr.heap.size 33 #[.bool six, .int .u64 0, .int .u64 0] := Blk.new wr _ _
      have HA1 : Hid (Blk (wr.alloc (.cells #[.bool six, .int .u64 0, .int .u64 0] 33 (0, 0))) wr.heap.size 33 (aN (loF six))) := Lib.hid (by rw [aN_lo]; exact hAx)
      have HB1 : Hid (Below w1.heap.size w1 (wr.alloc (.cells #[.bool six, .int .u64 0, .int .u64 0] 33 (0, 0)))) := Lib.hid (Below.alloc HB.out HB.out.size _)
      have HO1 : Hid (OwnK layRg (wr.alloc (.cells #[.bool six, .int .u64 0, .int .u64 0] 33 (0, 0))) w1.heap.size u3 (gapsTo S j ++ [])) := Lib.hid (by rw [List.append_nil]; exact HO.out.alloc _)
      have hwA : w1.heap.size ≤ wr.heap.size := HB.out.size
      have HG0 := Lib.hid (gapSt_zero Hv.out six)
      clear hsix hAx
      have hj2 : (j : Int) < 2 := by omega
      have hj3 : decide ((j : Int) < 2) = true := decide_eq_true hj2
      go_upto_block 2 with fail
      generalize (wr.alloc (.cells #[.bool six, .int .u64 0, .int .u64 0] 33 (0, 0))) = w3 at *
      generalize wr.heap.size = ba at *
      clear HB HO hcell
      go_wp2_with fail
      go_loopw [3, 7, 9, 20] (fun out lf s9 i wx => ∃ (k x : Nat) (left : Bool) (D : List Sp), k ≤ n ∧ i = .int .i64 (k : Int) ∧ lf = .bool left ∧ Hid (GapSt S six left k x D) ∧ Hid (OwnK layRg wx w1.heap.size out (gapsTo S j ++ D)) ∧ Hid (Blk wx ba 33 (aN x)) ∧ Hid (Below w1.heap.size w1 wx)) (fun _ _ _ i _ => n - (intOf i).toNat)
      case atStart => exact ⟨0, loF six, true, [], Nat.zero_le _, rfl, rfl, HG0, HO1, HA1, HB1⟩
      case round =>
        clear HO1 HA1 HB1 HG0
        obtain ⟨k, x, left, D, hk, rfl, rfl, HG, HO, HA, HB⟩ := hrel
        have HE : Hid (aN x = #[.bool (sixN x), .int .u64 ((hiN x : Nat) : Int), .int .u64 ((loN x : Nat) : Int)]) := Lib.hid rfl
        have HDl : Hid (D.length ≤ 10001) := Lib.hid (by have := HG.out.len; rw [Hn.out] at this; omega)
        by_cases hlt2 : k < n
        · have hS : k < S.length := by rw [Hn.out]; exact hlt2
          obtain ⟨r, hr⟩ : ∃ r, S[k]? = some r := ⟨_, List.getElem?_eq_getElem hS⟩
          obtain ⟨a1, a2, a3, a4, a5, a6, hpc, hp1, hp2, h1s, h2s⟩ := rg_cells r
          obtain ⟨g, o, had, hg, c0, c1, c2, c3, c4, c5⟩ := (HS1.out.below HB.out).rg hr hpc
          subst had
          have HVr := Lib.hid (Hv.out r (List.mem_of_getElem? hr))
          have HEr : Hid (layRg.enc r = [.bool a1, .int .u64 (a2 : Int), .int .u64 (a3 : Int), .bool a4, .int .u64 (a5 : Int), .int .u64 (a6 : Int)]) := Lib.hid hpc
          have HNx := Lib.hid fun wx => nextN wx HVr.out.b
          have HCm := Lib.hid fun wx => spanCompareN wx HG.out.vx HVr.out.a
          have HCl := Lib.hid (cN_lt_iff x r.1)
          rw [hp2] at HNx
          rw [hp1] at HCm
          have Ha1 := Lib.hid h1s
          have Hp1 := Lib.hid hp1
          have HBr1 : Hid (Blk (wr.alloc (.cells #[.bool a1, .int .u64 (a2 : Int), .int .u64 (a3 : Int), .bool a4, .int .u64 (a5 : Int), .int .u64 (a6 : Int)] 143 (0, 0))) wr.heap.size 143 #[.bool a1, .int .u64 (a2 : Int), .int .u64 (a3 : Int), .bool a4, .int .u64 (a5 : Int), .int .u64 (a6 : Int)]) := Lib.hid (Blk.new wr _ _)
          have HA1 : Hid (Blk (wr.alloc (.cells #[.bool a1, .int .u64 (a2 : Int), .int .u64 (a3 : Int), .bool a4, .int .u64 (a5 : Int), .int .u64 (a6 : Int)] 143 (0, 0))) ba 33 (aN x)) := Lib.hid (HA.out.alloc _)
          have HB1 : Hid (Below w1.heap.size w1 (wr.alloc (.cells #[.bool a1, .int .u64 (a2 : Int), .int .u64 (a3 : Int), .bool a4, .int .u64 (a5 : Int), .int .u64 (a6 : Int)] 143 (0, 0)))) := Lib.hid (Below.alloc HB.out HB.out.size _)
          have HO1 : Hid (OwnK layRg (wr.alloc (.cells #[.bool a1, .int .u64 (a2 : Int), .int .u64 (a3 : Int), .bool a4, .int .u64 (a5 : Int), .int .u64 (a6 : Int)] 143 (0, 0))) w1.heap.size u3 (gapsTo S j ++ D)) := Lib.hid (HO.out.alloc _)
          have HLt : Hid (u3.ownBlock ≠ some wr.heap.size) := Lib.hid fun e => absurd (own_lt HO.out _ e) (Nat.lt_irrefl _)
          have HLa : Hid (ba < wr.heap.size) := Lib.hid HA.out.lt
          clear hS hpc hp1 hp2 h1s h2s
          go_upto_region 9 with fail
          generalize (wr.alloc (.cells #[.bool a1, .int .u64 (a2 : Int), .int .u64 (a3 : Int), .bool a4, .int .u64 (a5 : Int), .int .u64 (a6 : Int)] 143 (0, 0))) = w4 at *
          generalize wr.heap.size = br at *
          clear HB HO HA c0 c1 c2 c3 c4 c5 hg
          have e0 := HBr1.out.cell 0
          have e1 := HBr1.out.cell 1
          have e2 := HBr1.out.cell 2
          have e3 := HBr1.out.cell 3
          have e4 := HBr1.out.cell 4
          have e5 := HBr1.out.cell 5
          simp at e0 e1 e2 e3 e4 e5
          by_cases hf : sixN r.1 = six
          · obtain ⟨hl, hxr, hpv, hg2⟩ := HG.out.hit Hc.out Hv.out hr hf
            have HG2 := Lib.hid hg2
            have HPv := Lib.hid hpv
            subst hl
            have hn : (a1 != six) = false := by rw [Ha1.out, hf]; simp
            have hn1 : a1 = six := by rw [Ha1.out, hf]
            subst hn1
            obtain ⟨x', hx'⟩ : ∃ x', (if r.2 = topN r.2 then r.2 else r.2 + 1) = x' := ⟨_, rfl⟩
            obtain ⟨left', hl'⟩ : ∃ l, (!decide (r.2 = topN r.2)) = l := ⟨_, rfl⟩
            rw [hx', hl'] at HNx HG2
            have HE' : Hid (aN x' = #[.bool (sixN x'), .int .u64 ((hiN x' : Nat) : Int), .int .u64 ((loN x' : Nat) : Int)]) := Lib.hid rfl
            rw [HE'.out] at HNx
            clear hx' hl' hg2 hpv hr HG hn hf
            rw [HE.out] at HA1 HCm
            generalize sixN x = x1 at *
            generalize hiN x = x2 at *
            generalize loN x = x3 at *
            generalize sixN x' = v1 at *
            generalize hiN x' = v2 at *
            generalize loN x' = v3 at *
            have f0 := HA1.out.cell 0
            have f1 := HA1.out.cell 1
            have f2 := HA1.out.cell 2
            simp at f0 f1 f2
            generalize cN x r.1 = C at *
            go_upto_region 10 with fail
            go_wp2_with fail
            refine (HCm.out _).mono ?_
            rintro e w5 ⟨rfl, hb⟩
            have HBr5 := Lib.hid (HBr1.out.below hb.b HBr1.out.lt)
            have HA5 := Lib.hid (HA1.out.below hb.b HA1.out.lt)
            have HO5 := Lib.hid (HO1.out.later hb.b)
            have HB5 := Lib.hid (HB1.out.trans (hb.b.mono HB1.out.size))
            clear hb HBr1 HA1 HO1 HB1 e0 e1 e2 e3 e4 e5 f0 f1 f2 HCm
            by_cases hxl : x < r.1
            · have hC : C < 0 := HCl.out.2 hxl
              rw [if_pos hxl] at HG2
              obtain ⟨q1, q2, q3⟩ := HPv.out hxl
              have HBf := Lib.hid fun wx => beforeN wx HVr.out.a q1 q2 q3
              rw [Hp1.out] at HBf
              have HEp : Hid (aN (r.1 - 1) = #[.bool (sixN (r.1 - 1)), .int .u64 ((hiN (r.1 - 1) : Nat) : Int), .int .u64 ((loN (r.1 - 1) : Nat) : Int)]) := Lib.hid rfl
              rw [HEp.out] at HBf
              have HEn : Hid (layRg.enc (x, r.1 - 1) = (aN x).toList ++ (aN (r.1 - 1)).toList) := Lib.hid rfl
              rw [HE.out, HEp.out] at HEn
              generalize sixN (r.1 - 1) = p1 at *
              generalize hiN (r.1 - 1) = p2 at *
              generalize loN (r.1 - 1) = p3 at *
              clear q1 q2 q3 hxl hxr HCl HPv
              go_upto_region 11 with fail
              have f0 := HA5.out.cell 0
              have f1 := HA5.out.cell 1
              have f2 := HA5.out.cell 2
              simp at f0 f1 f2
              have e0 := HBr5.out.cell 0
              have e1 := HBr5.out.cell 1
              have e2 := HBr5.out.cell 2
              have e3 := HBr5.out.cell 3
              have e4 := HBr5.out.cell 4
              have e5 := HBr5.out.cell 5
              simp at e0 e1 e2 e3 e4 e5
              have l0 := Later.cell_of f0
              have l1 := Later.cell_of f1
              have l2 := Later.cell_of f2
              have k0 := Later.cell_of e0
              have k1 := Later.cell_of e1
              have k2 := Later.cell_of e2
              generalize hLL : gapsTo S j ++ D = LL at *
              have HLL : Hid (LL.length ≤ 40000) := Lib.hid (by rw [← hLL, List.length_append]; have := HGl.out; have := HDl.out; omega)
              have HLe := Lib.hid hLL
              clear hLL
              refine wp_region_inv 7 0 (reR br u3 #[.bool x1, .int .u64 (x2 : Int), .int .u64 (x3 : Int)] #[.bool a1, .int .u64 (a2 : Int), .int .u64 (a3 : Int)] #[.bool p1, .int .u64 (p2 : Int), .int .u64 (p3 : Int)] #[.bool x1, .int .u64 (x2 : Int), .int .u64 (x3 : Int), .bool p1, .int .u64 (p2 : Int), .int .u64 (p3 : Int)]) (fun _ w' => Below w5.heap.size w5 w') (fun u v => Below u.heap.size u v) (fun _ => 0)
                (by kernel_rfl) (by kernel_rfl) (by decide) reR_keep (below_drew (Below.refl _ _)) ?hX
              case' hX => (apply Exists.intro; refine ⟨fun T => ?hA, ?hob, ?hend⟩)
              case hA =>
                simp only [setAll, List.take_succ_cons, List.take_zero, Act.put, List.setIfInBounds_toArray, List.set_cons_succ, List.set_cons_zero, Nat.reduceAdd]
                exact rfl
              case hob =>
                clear HBr5 HA5 HO5 HB5 e0 e1 e2 e3 e4 e5 f0 f1 f2 HEn HNx HLe
                go_light
                refine ⟨?_, ?_, ?_, ?_, ?_, ?_, ?_, trivial⟩
                all_goals (intro T wx n0 hC2 hn hp; dsimp only at hn ⊢; unfold Op1)
                · go_simp
                  exact ⟨rfl, Below.refl _ _⟩
                · have z0 := l0 ⟨wx, hC2⟩
                  have z1 := l1 ⟨wx, hC2⟩
                  have z2 := l2 ⟨wx, hC2⟩
                  simp only at z0 z1 z2
                  go_simp
                  exact ⟨rfl, Below.refl _ _⟩
                · go_simp
                  exact ⟨rfl, Below.refl _ _⟩
                · obtain ⟨h0, -⟩ := hp
                  have h0 : T 2 = .pointer (some ⟨br, 0, none⟩) := h0
                  have z0 := k0 ⟨wx, hC2⟩
                  have z1 := k1 ⟨wx, hC2⟩
                  have z2 := k2 ⟨wx, hC2⟩
                  simp only at z0 z1 z2
                  go_simp
                  exact ⟨rfl, Below.refl _ _⟩
                · obtain ⟨h0, -⟩ := hp
                  have h0 : T 3 = .agg #[.bool a1, .int .u64 (a2 : Int), .int .u64 (a3 : Int)] := h0
                  go_simp
                  refine (HBf.out wx).mono ?_
                  rintro e w6 ⟨rfl, hb⟩
                  exact ⟨_, rfl, rfl, hC2.trans (hb.mono hC2.size), hb⟩
                · obtain ⟨h0, h1, -⟩ := hp
                  have h0 : T 1 = .agg #[.bool x1, .int .u64 (x2 : Int), .int .u64 (x3 : Int)] := h0
                  have h1 : T 4 = .agg #[.bool p1, .int .u64 (p2 : Int), .int .u64 (p3 : Int)] := h1
                  go_simp
                  exact ⟨rfl, Below.refl _ _⟩
                · obtain ⟨h0, -⟩ := hp
                  have h0 : T 5 = .agg #[.bool x1, .int .u64 (x2 : Int), .int .u64 (x3 : Int), .bool p1, .int .u64 (p2 : Int), .int .u64 (p3 : Int)] := h0
                  go_simp
                  exact ⟨⟨wx.heap.size, rfl, Blk.new wx _ _⟩, below_alloc hC2 _, below_alloc (Below.refl _ _) _⟩
              case hend =>
                intro T w6 ⟨n0, hn0, hb⟩ hR
                have hT0 : T 0 = u3 := hR 0 (by omega)
                obtain ⟨B, hT6, hBl⟩ := hR 6 (by omega)
                have HO6 := Lib.hid (HO5.out.later hb)
                have HB6 := Lib.hid (HB5.out.trans (hb.mono HB5.out.size))
                have HBr6 := Lib.hid (HBr5.out.below hb HBr5.out.lt)
                have HA6 := Lib.hid (HA5.out.below hb HA5.out.lt)
                have HBl := Lib.hid hBl
                clear hR hb hBl HO5 HB5 HBr5 HA5 e0 e1 e2 e3 e4 e5 f0 f1 f2 l0 l1 l2 k0 k1 k2 HBf
                simp only [List.drop_succ_cons, List.drop_zero]
                refine wpList_app (c := 1) rgE rfl (.tmp 34) (.tmp 40) rfl ?hs HO6.out ?hx (src_blk layRg (x, r.1 - 1) HBl.out ?c0) ?c1 ?c2 ?c3 ?c4 ?_
                case hs => exact hT0
                case hx => exact hT6
                case c0 => exact (congrArg List.toArray HEn.out).symm
                case c1 => exact layRg.one _
                case c2 => unfold maxLen; have := HLL.out; omega
                case c3 => have := HLL.out; omega
                case c4 => exact HB6.out.size
                intro v' w7 hO hG
                have HO7 : Hid (OwnK layRg w7 w1.heap.size v' (gapsTo S j ++ (D ++ [(x, r.1 - 1)]))) := Lib.hid (by rw [← List.append_assoc, HLe.out]; exact OwnK.snoc hO)
                have HB7 := Lib.hid (HB6.out.trans (hG.below HB6.out.size (own_base HO6.out)))
                have HBr7 := Lib.hid (HBr6.out.grew_ne HLt.out hG)
                have HA7 := Lib.hid (HA6.out.grew HO6.out (by decide) hG)
                clear hO hG HO6 HB6 HBr6 HA6 HBl hT0 hT6
                generalize hDD : D ++ [(x, r.1 - 1)] = DD at *
                clear hDD
                have e0 := HBr7.out.cell 0
                have e1 := HBr7.out.cell 1
                have e2 := HBr7.out.cell 2
                have e3 := HBr7.out.cell 3
                have e4 := HBr7.out.cell 4
                have e5 := HBr7.out.cell 5
                simp at e0 e1 e2 e3 e4 e5
                have f0 := HA7.out.cell 0
                have f1 := HA7.out.cell 1
                have f2 := HA7.out.cell 2
                simp at f0 f1 f2
                have ff := HA7.out.free
                go_wp2_with fail
                refine (HNx.out _).mono ?_
                rintro e w8 ⟨rfl, hb⟩
                have HA8 := Lib.hid (HA7.out.below hb HA7.out.lt)
                have HO8 := Lib.hid (HO7.out.later hb)
                have HB8 := Lib.hid (HB7.out.trans (hb.mono HB7.out.size))
                clear hb HA7 HO7 HB7 HBr7 e0 e1 e2 e3 e4 e5 f0 f1 f2 ff HNx
                have f0 := HA8.out.cell 0
                have f1 := HA8.out.cell 1
                have f2 := HA8.out.cell 2
                simp at f0 f1 f2
                have ff := HA8.out.free
                have HSt := Lib.hid (And.intro (((HA8.out.set 0 (.bool v1)).set 1 (.int .u64 (v2 : Int))).set 2 (.int .u64 (v3 : Int))) (And.intro (((HO8.out.far HA8.out (by decide) 0 (.bool v1)).far (HA8.out.set 0 (.bool v1)) (by decide) 1 (.int .u64 (v2 : Int))).far ((HA8.out.set 0 (.bool v1)).set 1 (.int .u64 (v2 : Int))) (by decide) 2 (.int .u64 (v3 : Int))) (((HB8.out.setCell (p := ⟨ba, 0, none⟩) (by simp only; omega) (.bool v1)).setCell (p := ⟨ba, 1, none⟩) (by simp only; omega) (.int .u64 (v2 : Int))).setCell (p := ⟨ba, 2, none⟩) (by simp only; omega) (.int .u64 (v3 : Int)))))
                clear HA8 HO8 HB8
                go_wp2_with fail
                exact ⟨⟨k + 1, x', left', DD, by omega, by go_num, rfl, HG2, Lib.hid HSt.out.2.1, Lib.hid (by rw [HE'.out]; exact HSt.out.1), Lib.hid HSt.out.2.2⟩, by simp [intOf]; omega⟩
            · have hC : ¬ C < 0 := fun h => hxl (HCl.out.1 h)
              rw [if_neg hxl, List.append_nil] at HG2
              have HO7 := HO5
              have HB7 := HB5
              have HBr7 := HBr5
              have HA7 := HA5
              clear HO5 HB5 HBr5 HA5 hxl hxr HCl HPv
              generalize hDD : D = DD at *
              clear hDD
              have e0 := HBr7.out.cell 0
              have e1 := HBr7.out.cell 1
              have e2 := HBr7.out.cell 2
              have e3 := HBr7.out.cell 3
              have e4 := HBr7.out.cell 4
              have e5 := HBr7.out.cell 5
              simp at e0 e1 e2 e3 e4 e5
              have f0 := HA7.out.cell 0
              have f1 := HA7.out.cell 1
              have f2 := HA7.out.cell 2
              simp at f0 f1 f2
              have ff := HA7.out.free
              go_wp2_with fail
              refine (HNx.out _).mono ?_
              rintro e w8 ⟨rfl, hb⟩
              have HA8 := Lib.hid (HA7.out.below hb HA7.out.lt)
              have HO8 := Lib.hid (HO7.out.later hb)
              have HB8 := Lib.hid (HB7.out.trans (hb.mono HB7.out.size))
              clear hb HA7 HO7 HB7 HBr7 e0 e1 e2 e3 e4 e5 f0 f1 f2 ff HNx
              have f0 := HA8.out.cell 0
              have f1 := HA8.out.cell 1
              have f2 := HA8.out.cell 2
              simp at f0 f1 f2
              have ff := HA8.out.free
              have HSt := Lib.hid (And.intro (((HA8.out.set 0 (.bool v1)).set 1 (.int .u64 (v2 : Int))).set 2 (.int .u64 (v3 : Int))) (And.intro (((HO8.out.far HA8.out (by decide) 0 (.bool v1)).far (HA8.out.set 0 (.bool v1)) (by decide) 1 (.int .u64 (v2 : Int))).far ((HA8.out.set 0 (.bool v1)).set 1 (.int .u64 (v2 : Int))) (by decide) 2 (.int .u64 (v3 : Int))) (((HB8.out.setCell (p := ⟨ba, 0, none⟩) (by simp only; omega) (.bool v1)).setCell (p := ⟨ba, 1, none⟩) (by simp only; omega) (.int .u64 (v2 : Int))).setCell (p := ⟨ba, 2, none⟩) (by simp only; omega) (.int .u64 (v3 : Int)))))
              clear HA8 HO8 HB8
              go_wp2_with fail
              exact ⟨⟨k + 1, x', left', DD, by omega, by go_num, rfl, HG2, Lib.hid HSt.out.2.1, Lib.hid (by rw [HE'.out]; exact HSt.out.1), Lib.hid HSt.out.2.2⟩, by simp [intOf]; omega⟩
          · have HG2 := Lib.hid (HG.out.skip hr hf)
            have hns : six = !a1 := by rw [Ha1.out]; revert hf; cases sixN r.1 <;> cases six <;> simp
            subst hns
            clear hr HG hf HNx HCm HCl Ha1 Hp1
            cases a1
            · go_wp2_with fail
              exact ⟨⟨k + 1, x, left, D, by omega, by go_num, rfl, HG2, HO1, HA1, HB1⟩, by simp [intOf]; omega⟩
            · go_wp2_with fail
              exact ⟨⟨k + 1, x, left, D, by omega, by go_num, rfl, HG2, HO1, HA1, HB1⟩, by simp [intOf]; omega⟩
        · obtain rfl : k = n := by omega
          have hdn := HG.out.done (by rw [Hn.out]; exact Nat.le_refl _)
          cases left
          · have HO2 : Hid (OwnK layRg wr w1.heap.size u3 (gapsTo S (j + 1))) := Lib.hid (by
              rw [if_neg (by decide), List.append_nil] at hdn
              rw [HGs.out, ← hdn]; exact HO.out)
            clear hdn HG HO
            go_wp2_with fail
            exact ⟨⟨j + 1, by omega, by go_num, HO2, HB⟩, by simp [intOf]; omega⟩
          · have HDn : Hid (gapsTo S (j + 1) = gapsTo S j ++ D ++ [(x, topN x)]) := Lib.hid (by
              rw [if_pos rfl] at hdn
              rw [HGs.out, ← hdn, List.append_assoc])
            have HFi := Lib.hid fun wx => filledN (n := 0) wx HG.out.vx (Nat.zero_le _)
            rw [Nat.sub_zero] at HFi
            have HTp : Hid (fil x (LN x) = topN x) := Lib.hid rfl
            rw [HTp.out] at HFi
            have HEp : Hid (aN (topN x) = #[.bool (sixN (topN x)), .int .u64 ((hiN (topN x) : Nat) : Int), .int .u64 ((loN (topN x) : Nat) : Int)]) := Lib.hid rfl
            have HEn : Hid (layRg.enc (x, topN x) = (aN x).toList ++ (aN (topN x)).toList) := Lib.hid rfl
            rw [HE.out, HEp.out] at HEn
            rw [HE.out, HEp.out] at HFi
            rw [HE.out] at HA
            clear hdn HG HGs
            generalize topN x = tx at *
            generalize sixN x = x1 at *
            generalize hiN x = x2 at *
            generalize loN x = x3 at *
            generalize sixN tx = p1 at *
            generalize hiN tx = p2 at *
            generalize loN tx = p3 at *
            have f0 := HA.out.cell 0
            have f1 := HA.out.cell 1
            have f2 := HA.out.cell 2
            simp at f0 f1 f2
            go_upto_region 15 with fail
            have l0 := Later.cell_of f0
            have l1 := Later.cell_of f1
            have l2 := Later.cell_of f2
            generalize hLL : gapsTo S j ++ D = LL at *
            have HLL : Hid (LL.length ≤ 40000) := Lib.hid (by rw [← hLL, List.length_append]; have := HGl.out; have := HDl.out; omega)
            clear hLL
            refine wp_region_inv 6 0 (rfR u3 #[.bool x1, .int .u64 (x2 : Int), .int .u64 (x3 : Int)] #[.bool p1, .int .u64 (p2 : Int), .int .u64 (p3 : Int)] #[.bool x1, .int .u64 (x2 : Int), .int .u64 (x3 : Int), .bool p1, .int .u64 (p2 : Int), .int .u64 (p3 : Int)]) (fun _ w' => Below wr.heap.size wr w') (fun u v => Below u.heap.size u v) (fun _ => 0)
              (by kernel_rfl) (by kernel_rfl) (by decide) rfR_keep (below_drew (Below.refl _ _)) ?hXB
            case' hXB => (apply Exists.intro; refine ⟨fun T => ?hAB, ?hobB, ?hendB⟩)
            case hAB =>
              simp only [setAll, List.take_succ_cons, List.take_zero, Act.put, List.setIfInBounds_toArray, List.set_cons_succ, List.set_cons_zero, Nat.reduceAdd]
              exact rfl
            case hobB =>
              clear HA HO HB f0 f1 f2 HEn HDn
              go_light
              refine ⟨?_, ?_, ?_, ?_, ?_, ?_, trivial⟩
              all_goals (intro T wx n0 hC2 hn hp; dsimp only at hn ⊢; unfold Op1)
              · go_simp
                exact ⟨rfl, Below.refl _ _⟩
              · have z0 := l0 ⟨wx, hC2⟩
                have z1 := l1 ⟨wx, hC2⟩
                have z2 := l2 ⟨wx, hC2⟩
                simp only at z0 z1 z2
                go_simp
                exact ⟨rfl, Below.refl _ _⟩
              · have z0 := l0 ⟨wx, hC2⟩
                have z1 := l1 ⟨wx, hC2⟩
                have z2 := l2 ⟨wx, hC2⟩
                simp only at z0 z1 z2
                go_simp
                exact ⟨rfl, Below.refl _ _⟩
              · obtain ⟨h0, -⟩ := hp
                have h0 : T 2 = .agg #[.bool x1, .int .u64 (x2 : Int), .int .u64 (x3 : Int)] := h0
                go_simp
                refine (HFi.out wx).mono ?_
                rintro e w6 ⟨rfl, hb⟩
                exact ⟨_, rfl, rfl, hC2.trans (hb.mono hC2.size), hb⟩
              · obtain ⟨h0, h1, -⟩ := hp
                have h0 : T 1 = .agg #[.bool x1, .int .u64 (x2 : Int), .int .u64 (x3 : Int)] := h0
                have h1 : T 3 = .agg #[.bool p1, .int .u64 (p2 : Int), .int .u64 (p3 : Int)] := h1
                go_simp
                exact ⟨rfl, Below.refl _ _⟩
              · obtain ⟨h0, -⟩ := hp
                have h0 : T 4 = .agg #[.bool x1, .int .u64 (x2 : Int), .int .u64 (x3 : Int), .bool p1, .int .u64 (p2 : Int), .int .u64 (p3 : Int)] := h0
                go_simp
                exact ⟨⟨wx.heap.size, rfl, Blk.new wx _ _⟩, below_alloc hC2 _, below_alloc (Below.refl _ _) _⟩
            case hendB =>
              intro T w6 ⟨n0, hn0, hb⟩ hR
              have hT0 : T 0 = u3 := hR 0 (by omega)
              obtain ⟨B, hT5, hBl⟩ := hR 5 (by omega)
              have HO6 := Lib.hid (HO.out.later hb)
              have HB6 := Lib.hid (HB.out.trans (hb.mono HB.out.size))
              have HBl := Lib.hid hBl
              clear hR hb hBl HO HB HA f0 f1 f2 l0 l1 l2 HFi
              simp only [List.drop_succ_cons, List.drop_zero]
              refine wpList_app (c := 1) rgE rfl (.tmp 50) (.tmp 55) rfl ?hsB HO6.out ?hxB (src_blk layRg (x, tx) HBl.out ?c0B) ?c1B ?c2B ?c3B ?c4B ?_
              case hsB => exact hT0
              case hxB => exact hT5
              case c0B => exact (congrArg List.toArray HEn.out).symm
              case c1B => exact layRg.one _
              case c2B => unfold maxLen; have := HLL.out; omega
              case c3B => have := HLL.out; omega
              case c4B => exact HB6.out.size
              intro v' w7 hO hG
              have HO7 : Hid (OwnK layRg w7 w1.heap.size v' (gapsTo S (j + 1))) := Lib.hid (by rw [HDn.out]; exact OwnK.snoc hO)
              have HB7 := Lib.hid (HB6.out.trans (hG.below HB6.out.size (own_base HO6.out)))
              clear hO hG HO6 HB6 HBl hT0 hT5
              go_wp2
              exact ⟨⟨j + 1, by omega, by go_num, HO7, HB7⟩, by simp [intOf]; omega⟩
    · obtain rfl : j = 2 := by omega
      have hw0 := HB0.out.size
      have hw1 : w.heap.size ≤ w1.heap.size := by rw [Hbb.out] at hw0 ⊢; exact hw0
      have HBf : Hid (Below w.heap.size w wr) := Lib.hid (Below.trans (by rw [Hbb.out]; exact HB0.out) (HB.out.mono hw1))
      have HOf : Hid (OwnK layRg wr w.heap.size u3 (gaps S)) := Lib.hid (HO.out.weak hw1)
      go_wp2_with fail
      go_ret
      exact ⟨_, rfl, HOf.out, HBf.out⟩
end Go.Proofs.YtaeieigdibanlaaGreatDoor
