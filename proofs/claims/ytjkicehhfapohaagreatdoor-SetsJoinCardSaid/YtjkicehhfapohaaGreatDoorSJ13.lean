/-
  The reference's LeastOf and SpanOf.
  Sets as spans of numbers: the spans of their prefixes, gaps, what two have in common, and how many prefixes these need.
  Generators of sets of prefixes.
  The reference's SetFault.
  span.before, span.Later, span.earlier on numbers.
  wide.plus of the reference, at -1: the number before.
  The reference's RangesOf.
  A region that draws its order, by an invariant with a phase, where each operation knows that what depends on it has not run: a bound on the phase.
-/
import Derived.Test.YtjkicehhfapohaaGreatDoorSJ12
import Derived.Test.YtjkicehhfapohaaGreatDoorSJ11
import Derived.Test.YtjkicehhfapohaaGreatDoorSJ9
import Derived.Test.YtjkicehhfapohaaGreatDoorSJ6
import Derived.BigRegion
import Derived.Test.YtjkicehhfapohaaGreatDoorSJ5
import Derived.Shelf.Spec.BitsCarry
import Derived.Test.YtjkicehhfapohaaGreatDoorSJ1
set_option linter.unusedVariables false
namespace Go.Proofs.YtjkicehhfapohaaGreatDoor
open Go.RowKit Go
set_option linter.unusedVariables false

set_option maxRecDepth 100000 in
set_option maxHeartbeats 1000000 in
theorem leastOf_any (ad : Option Addr) (n c : Nat) (L : List Pf) (w : World) (h : RdK layPf w ad L) (hn : L.length = n) (hs : n ≤ 100000) (hv : ∀ p ∈ L, OkPf p) :
    Calls Tryz.prog 22 #[.slice ad n c] w fun e w' => ∃ v, e = .returned v ∧ OwnK layPf w' w.heap.size v (lst L) ∧ Below w.heap.size w w' := by
  have HS := Lib.hid (spansOf_any ad n c L w h hn hs hv)
  have HJv := Lib.hid (sps_vr hv)
  have HJl := Lib.hid (jn_len (L.map spP))
  have Hlst : Hid (pfs (jn (L.map spP)) = lst L) := Lib.hid rfl
  have Hn := Lib.hid hn
  clear h hn hv
  generalize jn (L.map spP) = J at *
  go_enter Tryz.func22, Tryz.ntmps22
  go_wp2_with fail
  refine HS.out.mono ?_
  rintro e w3 ⟨v, rfl, hO, hB⟩
  obtain ⟨ad3, c3, rfl, _⟩ := hO.form
  have HT := Lib.hid (qprefixes_any ad3 J.length c3 J w3 hO.rd rfl (by have := HJl.out; rw [List.length_map, Hn.out] at this; omega) HJv.out)
  rw [Hlst.out] at HT
  have HB3 := Lib.hid hB
  clear hO hB HS HJl HJv Hlst
  generalize J.length = jl at *
  go_wp2_with fail
  refine HT.out.mono ?_
  rintro e w4 ⟨v, rfl, hO, hB⟩
  have HO4 := Lib.hid (hO.weak HB3.out.size)
  have HB4 := Lib.hid (HB3.out.trans (hB.mono HB3.out.size))
  clear hO hB
  go_wp2_with fail
  go_ret
  exact ⟨_, rfl, HO4.out, HB4.out⟩
/-- what the region of SpanOf has yielded -/
def soR (bx : Nat) (pa P1 pb P2 : Array Value) : Nat → Value → World → Prop
  | 0, v, _ => v = .pointer (some ⟨bx, 0, none⟩)
  | 1, v, _ => v = .agg pa
  | 2, v, _ => v = .agg P1
  | 3, v, _ => v = .pointer (some ⟨bx, 3, none⟩)
  | 4, v, _ => v = .agg pb
  | 5, v, _ => v = .agg P2
  | 6, v, _ => v = .agg (P1 ++ P2)
  | _, v, w => ∃ B, v = .slice (some ⟨B, 0, none⟩) 1 1 ∧ Blk w B 82 (P1 ++ P2)
theorem soR_keep {bx : Nat} {pa P1 pb P2 : Array Value} (p : Nat) (v : Value) (u w : World) (h : soR bx pa P1 pb P2 p v u) (hb : Below u.heap.size u w) : soR bx pa P1 pb P2 p v w := by
  rcases p with _ | _ | _ | _ | _ | _ | _ | p
  all_goals first | exact h | (obtain ⟨B, h1, h2⟩ := h; exact ⟨B, h1, h2.below hb h2.lt⟩)
theorem RdK.blk {α : Type} (E : Lay α) {w : World} {B : Nat} {t : TypeId} {cs : Array Value} {x : α} (hb : Blk w B t cs) (h : cs = (E.enc x).toArray) : RdK E w (some ⟨B, 0, none⟩) [x] := by
  subst h
  intro i y hy
  cases i with
  | zero =>
    simp at hy
    subst hy
    refine ⟨B, 0, rfl, hb.lt, fun j v hv => ?_⟩
    rw [show 0 + (0 * E.K + j) = j by omega, hb.cell j]
    simpa using hv
  | succ i => simp at hy
set_option maxRecDepth 100000 in
set_option maxHeartbeats 2000000 in
theorem qspanOf_any (p : Sp) (w : World) (hv : VR p) :
    Calls Tryz.prog 23 #[.agg (layRg.enc p).toArray] w fun e w' => ∃ v, e = .returned v ∧ OwnK layPf w' w.heap.size v (pfs [p]) ∧ Below w.heap.size w w' := by
  obtain ⟨a1, a2, a3, a4, a5, a6, hpc, hp1, hp2, h1s, h2s⟩ := rg_cells p
  have HF1 := Lib.hid fun wx => ofN wx hv.a
  have HF2 := Lib.hid fun wx => ofN wx hv.b
  rw [hp1] at HF1
  rw [hp2] at HF2
  have HE : Hid (layQs.enc p = (wN p.1 ++ wN p.2).toList) := Lib.hid rfl
  have HBd := Lib.hid fun wx => build_qs p.1 p.2 wx
  have HRw := Lib.hid fun wx => row_qs p.1 p.2 wx
  have HV : Hid (∀ q ∈ [p], VR q) := Lib.hid fun q hq => by rw [List.mem_singleton.1 hq]; exact hv
  have HEr : layRg.enc p = [.bool a1, .int .u64 (a2 : Int), .int .u64 (a3 : Int), .bool a4, .int .u64 (a5 : Int), .int .u64 (a6 : Int)] := hpc
  rw [HEr]
  clear hpc hp1 hp2 h1s h2s hv HEr
  generalize wN p.1 = P1 at *
  generalize wN p.2 = P2 at *
  have HB1 : Hid (Below w.heap.size w (w.alloc (.cells #[.bool a1, .int .u64 (a2 : Int), .int .u64 (a3 : Int), .bool a4, .int .u64 (a5 : Int), .int .u64 (a6 : Int)] 35 (0, 0)))) := Lib.hid (below_alloc (Below.refl _ _) _)
  have HP1 : Hid (Blk (w.alloc (.cells #[.bool a1, .int .u64 (a2 : Int), .int .u64 (a3 : Int), .bool a4, .int .u64 (a5 : Int), .int .u64 (a6 : Int)] 35 (0, 0))) w.heap.size 35 #[.bool a1, .int .u64 (a2 : Int), .int .u64 (a3 : Int), .bool a4, .int .u64 (a5 : Int), .int .u64 (a6 : Int)]) := Lib.hid (Blk.new w _ _)
  go_enter Tryz.func23, Tryz.ntmps23
  go_upto_region 1 with fail
  generalize w.alloc (.cells #[.bool a1, .int .u64 (a2 : Int), .int .u64 (a3 : Int), .bool a4, .int .u64 (a5 : Int), .int .u64 (a6 : Int)] 35 (0, 0)) = w3 at *
  obtain ⟨bx, hbx⟩ : ∃ bx, w.heap.size = bx := ⟨_, rfl⟩
  rw [hbx] at HB1 HP1 ⊢
  have Hbx := Lib.hid hbx
  clear hbx
  have d0 := HP1.out.cell 0
  have d1 := HP1.out.cell 1
  have d2 := HP1.out.cell 2
  have d3 := HP1.out.cell 3
  have d4 := HP1.out.cell 4
  have d5 := HP1.out.cell 5
  simp at d0 d1 d2 d3 d4 d5
  have l0 := Later.cell_of d0
  have l1 := Later.cell_of d1
  have l2 := Later.cell_of d2
  have l3 := Later.cell_of d3
  have l4 := Later.cell_of d4
  have l5 := Later.cell_of d5
  refine wp_region_inv 8 0 (soR bx #[.bool a1, .int .u64 (a2 : Int), .int .u64 (a3 : Int)] P1 #[.bool a4, .int .u64 (a5 : Int), .int .u64 (a6 : Int)] P2) (fun _ w' => Below w3.heap.size w3 w') (fun u v => Below u.heap.size u v) (fun _ => 0)
    (by kernel_rfl) (by kernel_rfl) (by decide) soR_keep (below_drew (Below.refl _ _)) ?hX
  case' hX => (apply Exists.intro; refine ⟨fun T => ?hA, ?hob, ?hend⟩)
  case hA =>
    simp only [setAll, List.take_succ_cons, List.take_zero, Act.put, List.setIfInBounds_toArray, List.set_cons_succ, List.set_cons_zero, Nat.reduceAdd]
    exact rfl
  case hob =>
    clear HB1 HP1 d0 d1 d2 d3 d4 d5 HE
    go_light
    refine ⟨?_, ?_, ?_, ?_, ?_, ?_, ?_, ?_, trivial⟩
    all_goals (intro T wx n0 hC hn hp; dsimp only at hn ⊢; unfold Op1)
    · go_simp
      exact ⟨rfl, Below.refl _ _⟩
    · obtain ⟨h0, -⟩ := hp
      have h0 : T 0 = .pointer (some ⟨bx, 0, none⟩) := h0
      have e0 := l0 ⟨wx, hC⟩
      have e1 := l1 ⟨wx, hC⟩
      have e2 := l2 ⟨wx, hC⟩
      simp only at e0 e1 e2
      go_simp
      exact ⟨rfl, Below.refl _ _⟩
    · obtain ⟨h0, -⟩ := hp
      have h0 : T 1 = .agg #[.bool a1, .int .u64 (a2 : Int), .int .u64 (a3 : Int)] := h0
      go_simp
      refine (HF1.out wx).mono ?_
      rintro e w5 ⟨rfl, hb⟩
      exact ⟨_, rfl, rfl, hC.trans (hb.mono hC.size), hb⟩
    · go_simp
      exact ⟨rfl, Below.refl _ _⟩
    · obtain ⟨h0, -⟩ := hp
      have h0 : T 3 = .pointer (some ⟨bx, 3, none⟩) := h0
      have e0 := l3 ⟨wx, hC⟩
      have e1 := l4 ⟨wx, hC⟩
      have e2 := l5 ⟨wx, hC⟩
      simp only at e0 e1 e2
      go_simp
      exact ⟨rfl, Below.refl _ _⟩
    · obtain ⟨h0, -⟩ := hp
      have h0 : T 4 = .agg #[.bool a4, .int .u64 (a5 : Int), .int .u64 (a6 : Int)] := h0
      go_simp
      refine (HF2.out wx).mono ?_
      rintro e w5 ⟨rfl, hb⟩
      exact ⟨_, rfl, rfl, hC.trans (hb.mono hC.size), hb⟩
    · obtain ⟨h0, h1, -⟩ := hp
      have h0 : T 2 = .agg P1 := h0
      have h1 : T 5 = .agg P2 := h1
      rw [exec_build _ _ rfl #[(0, .agg P1), (1, .agg P2)] (by rw [← h0, ← h1]; simp [Act.eval]) (HBd.out wx)]
      exact ⟨rfl, hC, Below.refl _ _⟩
    · obtain ⟨h0, -⟩ := hp
      have h0 : T 6 = .agg (P1 ++ P2) := h0
      rw [exec_row _ _ _ rfl #[(0, .agg (P1 ++ P2))] (by rw [← h0]; simp [Act.eval]) (HRw.out wx)]
      exact ⟨⟨wx.heap.size, rfl, Blk.new wx _ _⟩, below_alloc hC _, below_alloc (Below.refl _ _) _⟩
  case hend =>
    intro T w4 ⟨n0, hn0, hb⟩ hR
    obtain ⟨B, hT7, hBl⟩ := hR 7 (by omega)
    have hRd : RdK layQs w4 (some ⟨B, 0, none⟩) [p] := RdK.blk layQs hBl (by rw [HE.out])
    have HT := Lib.hid (qprefixes_any (some ⟨B, 0, none⟩) 1 1 [p] w4 hRd rfl (by decide) HV.out)
    have hs3 : bx ≤ w3.heap.size := by have := HB1.out.size; rw [Hbx.out] at this; exact this
    have HB4 := Lib.hid (HB1.out.trans (hb.mono hs3))
    have hs4 : bx ≤ w4.heap.size := Nat.le_trans hs3 hb.size
    clear hR hb hBl HB1 HP1 d0 d1 d2 d3 d4 d5 l0 l1 l2 l3 l4 l5 hRd HF1 HF2 HBd HRw HV
    simp only [List.drop_succ_cons, List.drop_zero]
    rw [hT7]
    go_wp2_with fail
    refine HT.out.mono ?_
    rintro e w5 ⟨v, rfl, hO, hB⟩
    have HO5 := Lib.hid (hO.weak hs4)
    have HB5 := Lib.hid (HB4.out.trans (hB.mono hs4))
    clear hO hB
    go_wp2_with fail
    go_ret
    exact ⟨_, rfl, by rw [Hbx.out]; exact HO5.out, by rw [Hbx.out]; exact HB5.out⟩
end Go.Proofs.YtjkicehhfapohaaGreatDoor

namespace Go.Proofs.YtjkicehhfapohaaGreatDoor
open Go.RowKit Go
set_option linter.unusedVariables false

theorem ok_block {x n : Nat} (hv : VN x) (hn : n ≤ LN x) (hd : 2 ^ (LN x - n) ∣ x) : OkPf (pfOf (x, n)) ∧ nuP (pfOf (x, n)) = x ∧ spP (pfOf (x, n)) = (x, x + (2 ^ (LN x - n) - 1)) := by
  have ha := ok_aN hv
  have hln : n ≤ lenN (sixN x) := by rw [← LN_six]; exact hn
  have hc : clr x (LN x - n) = x := clr_dvd.2 hd
  have hm := mask_num (n := n) ha
  rw [num_aN hv, ← LN_six, hc] at hm
  have h1 := aN_num (mask_aok ha hln)
  rw [hm] at h1
  have hnu : nuP (pfOf (x, n)) = x := num_aN hv
  have hP : POK (sixN x) (hiN x) (loN x) n := ⟨ha, hln, h1.2.2.1.symm, h1.2.2.2.symm⟩
  refine ⟨⟨rfl, hP⟩, hnu, ?_⟩
  unfold spP
  rw [hnu]
  show (x, fil x (LN x - n)) = _
  rw [fil_of hd]
theorem mem_allB {S : List Sp} (hv : ∀ p ∈ S, VR p) {c : Nat × Nat} (hc : c ∈ allB S) : VN c.1 ∧ c.2 ≤ LN c.1 ∧ 2 ^ (LN c.1 - c.2) ∣ c.1 ∧ ∃ p ∈ S, LN c.1 = LN p.1 ∧ p.1 ≤ c.1 ∧ c.1 + (2 ^ (LN c.1 - c.2) - 1) ≤ p.2 := by
  obtain ⟨p, hp, hc⟩ := List.mem_flatMap.1 hc
  obtain ⟨h1, h2, h3⟩ := (blks_ok (LN p.1) p.1 p.2).each c hc
  obtain ⟨v, l, s⟩ := blk_vn (hv p hp) h1 h2
  refine ⟨v, ?_, ?_, p, hp, l, h1, ?_⟩
  · rw [l]; exact h3.le
  · rw [l]; exact h3.dvd
  · rw [l]; exact h3.fits
theorem okPf_pfs {S : List Sp} (hv : ∀ p ∈ S, VR p) : ∀ q ∈ pfs S, OkPf q := fun q hq => by
  obtain ⟨c, hc, rfl⟩ := List.mem_map.1 hq
  obtain ⟨a, b, d, _⟩ := mem_allB hv hc
  exact (ok_block a b d).1
theorem inS_pfs {S : List Sp} (hv : ∀ p ∈ S, VR p) (x : Nat) : InS ((pfs S).map spP) x ↔ InS S x := by
  constructor
  · rintro ⟨q, hq, h1, h2⟩
    obtain ⟨r, hr, rfl⟩ := List.mem_map.1 hq
    obtain ⟨c, hc, rfl⟩ := List.mem_map.1 hr
    obtain ⟨a, b, d, p, hp, _, l1, l2⟩ := mem_allB hv hc
    rw [show c = (c.1, c.2) from rfl, (ok_block a b d).2.2] at h1 h2
    simp only at h1 h2
    exact ⟨p, hp, by omega, by omega⟩
  · rintro ⟨p, hp, h1, h2⟩
    obtain ⟨q, hq, l1, l2⟩ := ((blks_ok (LN p.1) p.1 p.2).mem x).2 ⟨h1, h2⟩
    obtain ⟨c, hc, rfl⟩ := List.mem_map.1 hq
    have hca : c ∈ allB S := List.mem_flatMap.2 ⟨p, hp, hc⟩
    obtain ⟨a, b, d, _⟩ := mem_allB hv hca
    have hl := (blk_vn (hv p hp) ((blks_ok (LN p.1) p.1 p.2).each c hc).1 ((blks_ok (LN p.1) p.1 p.2).each c hc).2.1).2.1
    refine ⟨spP (pfOf (c.1, c.2)), List.mem_map.2 ⟨_, List.mem_map.2 ⟨c, hca, rfl⟩, rfl⟩, ?_⟩
    rw [(ok_block a b d).2.2]
    unfold spB at l1 l2
    simp only at l1 l2 ⊢
    rw [← hl] at l2
    exact ⟨l1, l2⟩
/-- the spans of prefixes -/
def spn (L : List Pf) : List Sp := jn (L.map spP)
theorem spn_vr {L : List Pf} (hv : ∀ p ∈ L, OkPf p) : ∀ p ∈ spn L, VR p := sps_vr hv
theorem sps_le {L : List Pf} (hv : ∀ p ∈ L, OkPf p) : ∀ p ∈ L.map spP, p.1 ≤ p.2 := fun p hp => by
  obtain ⟨q, hq, rfl⟩ := List.mem_map.1 hp
  exact (hv q hq).vr.le
theorem spn_can {L : List Pf} (hv : ∀ p ∈ L, OkPf p) : Can (spn L) := (jn_joined (sps_le hv)).can
theorem inS_spn {L : List Pf} (hv : ∀ p ∈ L, OkPf p) (x : Nat) : InS (spn L) x ↔ InS (L.map spP) x := (jn_joined (sps_le hv)).mem x
theorem spn_len (L : List Pf) : (spn L).length ≤ L.length := by
  have := jn_len (L.map spP)
  rw [List.length_map] at this
  exact this
theorem spn_pfs {S : List Sp} (hc : Can S) (hv : ∀ p ∈ S, VR p) : spn (pfs S) = S :=
  can_unique (spn_can (okPf_pfs hv)) hc fun x => (inS_spn (okPf_pfs hv) x).trans (inS_pfs hv x)
theorem lst_eq (L : List Pf) : lst L = pfs (spn L) := rfl
/-- joined spans are those with the same numbers -/
theorem jn_can {L : List Sp} (hv : ∀ p ∈ L, VR p) : Can (jn L) ∧ (∀ x, InS (jn L) x ↔ InS L x) ∧ ∀ p ∈ jn L, VR p :=
  ⟨(jn_joined fun p hp => (hv p hp).le).can, (jn_joined fun p hp => (hv p hp).le).mem, jn_vr hv⟩
theorem vr_append {A B : List Sp} (hA : ∀ p ∈ A, VR p) (hB : ∀ p ∈ B, VR p) : ∀ p ∈ A ++ B, VR p := fun p hp => (List.mem_append.1 hp).elim (hA p) (hB p)
theorem ok_append {A B : List Pf} (hA : ∀ p ∈ A, OkPf p) (hB : ∀ p ∈ B, OkPf p) : ∀ p ∈ A ++ B, OkPf p := fun p hp => (List.mem_append.1 hp).elim (hA p) (hB p)
theorem vr_vn {S : List Sp} (hv : ∀ p ∈ S, VR p) {x : Nat} (h : InS S x) : VN x := by
  obtain ⟨p, hp, h1, h2⟩ := h
  exact (blk_vn (hv p hp) h1 h2).1
/-- the union of two sets -/
theorem union_eq {a b : List Pf} (ha : ∀ p ∈ a, OkPf p) (hb : ∀ p ∈ b, OkPf p) : spn (a ++ b) = jn (spn a ++ spn b) := by
  have hj := jn_can (vr_append (spn_vr ha) (spn_vr hb))
  refine can_unique (spn_can (ok_append ha hb)) hj.1 fun x => ?_
  rw [inS_spn (ok_append ha hb), List.map_append, inS_append, hj.2.1, inS_append, inS_spn ha, inS_spn hb]

/-- the spans between those of a list, from a number to the last one -/
def gapsF (top : Nat) : List Sp → Nat → List Sp
  | [], x => if x ≤ top then [(x, top)] else []
  | r :: S, x => (if x < r.1 then [(x, r.1 - 1)] else []) ++ gapsF top S (r.2 + 1)
def fam (six : Bool) (S : List Sp) : List Sp := S.filter fun p => sixN p.1 == six
def loF (six : Bool) : Nat := if six = true then 2 ^ 128 else 0
def topF (six : Bool) : Nat := if six = true then 2 ^ 129 - 1 else 2 ^ 32 - 1
def gapsOf (six : Bool) (S : List Sp) : List Sp := gapsF (topF six) (fam six S) (loF six)
/-- the spans between those of a list, of all addresses -/
def gaps (S : List Sp) : List Sp := gapsOf false S ++ gapsOf true S
theorem gapsF_ok (top : Nat) : ∀ (S : List Sp) (x : Nat), Can S → (∀ p ∈ S, x ≤ p.1 ∧ p.2 ≤ top) →
    (∀ t, InS (gapsF top S x) t ↔ x ≤ t ∧ t ≤ top ∧ ¬ InS S t) ∧ Can (gapsF top S x) ∧ ∀ p ∈ gapsF top S x, x ≤ p.1 ∧ p.2 ≤ top
  | [], x, _, _ => by
    unfold gapsF
    by_cases h : x ≤ top
    · rw [if_pos h]
      refine ⟨fun t => ?_, ⟨List.pairwise_singleton _ _, fun p hp => ?_⟩, fun p hp => ?_⟩
      · rw [inS_cons]
        simp [inS_nil]
      · rw [List.mem_singleton.1 hp]; exact h
      · rw [List.mem_singleton.1 hp]; exact ⟨Nat.le_refl _, Nat.le_refl _⟩
    · rw [if_neg h]
      refine ⟨fun t => ⟨fun h2 => absurd h2 (inS_nil _), fun h2 => by omega⟩, ⟨List.Pairwise.nil, by simp⟩, by simp⟩
  | r :: S, x, hc, hb => by
    have hr := hb r (List.mem_cons_self ..)
    obtain ⟨r1, r2⟩ := hc.head
    have hn : ∀ p ∈ S, r.2 + 1 ≤ p.1 ∧ p.2 ≤ top := fun p hp => by
      have := (List.pairwise_cons.1 hc.1).1 p hp
      exact ⟨by omega, (hb p (List.mem_cons_of_mem _ hp)).2⟩
    obtain ⟨i1, i2, i3⟩ := gapsF_ok top S (r.2 + 1) hc.tail hn
    have hA : ∀ t, InS S t → r.2 + 1 < t := r2
    unfold gapsF
    refine ⟨fun t => ?_, ?_, fun p hp => ?_⟩
    · rw [inS_append, i1, inS_cons]
      by_cases h : x < r.1
      · rw [if_pos h, inS_cons]
        simp only [inS_nil, or_false]
        constructor
        · rintro (h1 | h1)
          · refine ⟨by omega, by omega, ?_⟩
            rintro (h2 | h2)
            · omega
            · have := hA t h2; omega
          · refine ⟨by omega, by omega, ?_⟩
            rintro (h2 | h2)
            · omega
            · exact h1.2.2 h2
        · rintro ⟨h1, h2, h3⟩
          rcases Nat.lt_or_ge t r.1 with h4 | h4
          · exact .inl ⟨h1, by omega⟩
          · refine .inr ⟨?_, h2, fun h5 => h3 (.inr h5)⟩
            rcases Nat.lt_or_ge r.2 t with h6 | h6
            · exact h6
            · exact absurd (.inl ⟨h4, h6⟩) h3
      · rw [if_neg h]
        simp only [inS_nil, false_or]
        constructor
        · rintro ⟨h1, h2, h3⟩
          refine ⟨by omega, h2, ?_⟩
          rintro (h4 | h4)
          · omega
          · exact h3 h4
        · rintro ⟨h1, h2, h3⟩
          refine ⟨?_, h2, fun h5 => h3 (.inr h5)⟩
          rcases Nat.lt_or_ge r.2 t with h6 | h6
          · exact h6
          · exact absurd (.inl ⟨by omega, h6⟩) h3
    · by_cases h : x < r.1
      · rw [if_pos h]
        refine ⟨List.pairwise_cons.2 ⟨fun q hq => ?_, i2.1⟩, fun p hp => ?_⟩
        · have := (i3 q hq).1
          show r.1 - 1 + 1 < q.1
          omega
        · rcases List.mem_cons.1 hp with rfl | hp
          · show x ≤ r.1 - 1
            omega
          · exact i2.2 p hp
      · rw [if_neg h]
        exact i2
    · rcases List.mem_append.1 hp with hp | hp
      · by_cases h : x < r.1
        · rw [if_pos h] at hp
          rw [List.mem_singleton.1 hp]
          show x ≤ x ∧ r.1 - 1 ≤ top
          omega
        · rw [if_neg h] at hp; cases hp
      · have := i3 p hp
        omega
theorem vn_fam {x : Nat} (h : VN x) : loF (sixN x) ≤ x ∧ x ≤ topF (sixN x) := by
  unfold loF topF
  rcases h.cases with ⟨a, _, _, d⟩ | ⟨a, b, c, d⟩
  · rw [a]; simp; omega
  · rw [a]
    rcases h with h | h
    · simp; omega
    · simp; omega
theorem fam_vn {six : Bool} {x : Nat} (h1 : loF six ≤ x) (h2 : x ≤ topF six) : VN x ∧ sixN x = six := by
  unfold loF topF at *
  cases six
  · simp at h1 h2
    exact ⟨.inl (by omega), decide_eq_false (by omega)⟩
  · simp at h1 h2
    exact ⟨.inr ⟨by omega, by omega⟩, decide_eq_true (by omega)⟩
theorem can_filter {S : List Sp} (h : Can S) (f : Sp → Bool) : Can (S.filter f) :=
  ⟨h.1.sublist List.filter_sublist, fun p hp => h.2 p (List.mem_filter.1 hp).1⟩
theorem fam_bd {S : List Sp} (hv : ∀ p ∈ S, VR p) (six : Bool) : ∀ p ∈ fam six S, loF six ≤ p.1 ∧ p.2 ≤ topF six := fun p hp => by
  obtain ⟨h1, h2⟩ := List.mem_filter.1 hp
  have h2 : sixN p.1 = six := by simpa using h2
  have hp := hv p h1
  have a := vn_fam hp.a
  have b := vn_fam hp.b
  rw [← hp.s, h2] at b
  rw [h2] at a
  exact ⟨a.1, b.2⟩
theorem gapsOf_ok {S : List Sp} (hc : Can S) (hv : ∀ p ∈ S, VR p) (six : Bool) :
    (∀ t, InS (gapsOf six S) t ↔ VN t ∧ sixN t = six ∧ ¬ InS S t) ∧ Can (gapsOf six S) ∧ ∀ p ∈ gapsOf six S, loF six ≤ p.1 ∧ p.2 ≤ topF six := by
  obtain ⟨h1, h2, h3⟩ := gapsF_ok (topF six) (fam six S) (loF six) (can_filter hc _) (fam_bd hv six)
  refine ⟨fun t => (h1 t).trans ?_, h2, h3⟩
  constructor
  · rintro ⟨a, b, c⟩
    obtain ⟨v, s⟩ := fam_vn a b
    refine ⟨v, s, ?_⟩
    rintro ⟨p, hp, l1, l2⟩
    refine c ⟨p, List.mem_filter.2 ⟨hp, ?_⟩, l1, l2⟩
    have := (blk_vn (hv p hp) l1 l2).2.2
    rw [← this, s]
    simp
  · rintro ⟨v, s, c⟩
    have := vn_fam v
    rw [s] at this
    refine ⟨this.1, this.2, ?_⟩
    rintro ⟨p, hp, l1, l2⟩
    exact c ⟨p, (List.mem_filter.1 hp).1, l1, l2⟩
theorem vr_fam {six : Bool} {p : Sp} (h : loF six ≤ p.1 ∧ p.2 ≤ topF six) (hle : p.1 ≤ p.2) : VR p := by
  obtain ⟨a, b⟩ := fam_vn h.1 (Nat.le_trans hle h.2)
  obtain ⟨c, d⟩ := fam_vn (Nat.le_trans h.1 hle) h.2
  exact ⟨a, c, b.trans d.symm, hle⟩
theorem gaps_ok {S : List Sp} (hc : Can S) (hv : ∀ p ∈ S, VR p) : Can (gaps S) ∧ (∀ t, InS (gaps S) t ↔ VN t ∧ ¬ InS S t) ∧ ∀ p ∈ gaps S, VR p := by
  obtain ⟨a1, a2, a3⟩ := gapsOf_ok hc hv false
  obtain ⟨b1, b2, b3⟩ := gapsOf_ok hc hv true
  unfold gaps
  refine ⟨⟨List.pairwise_append.2 ⟨a2.1, b2.1, fun p hp q hq => ?_⟩, fun p hp => (List.mem_append.1 hp).elim (a2.2 p) (b2.2 p)⟩, fun t => ?_, fun p hp => ?_⟩
  · have h1 := (a3 p hp).2
    have h2 := (b3 q hq).1
    unfold topF at h1
    unfold loF at h2
    simp at h1 h2
    omega
  · rw [inS_append, a1, b1]
    cases sixN t <;> simp
  · rcases List.mem_append.1 hp with hp | hp
    · exact vr_fam (a3 p hp) (a2.2 p hp)
    · exact vr_fam (b3 p hp) (b2.2 p hp)
theorem gapsF_len (top : Nat) : ∀ (S : List Sp) (x : Nat), (gapsF top S x).length ≤ S.length + 1
  | [], x => by unfold gapsF; split <;> simp
  | r :: S, x => by
    have := gapsF_len top S (r.2 + 1)
    unfold gapsF
    rw [List.length_append]
    split <;> simp <;> omega
theorem gaps_len (S : List Sp) : (gaps S).length ≤ 2 * S.length + 2 := by
  have h1 := gapsF_len (topF false) (fam false S) (loF false)
  have h2 := gapsF_len (topF true) (fam true S) (loF true)
  have h3 : (fam false S).length ≤ S.length := List.length_filter_le _ _
  have h4 : (fam true S).length ≤ S.length := List.length_filter_le _ _
  unfold gaps gapsOf
  rw [List.length_append]
  omega

/-- what two lists of spans have in common -/
def both : List Sp → List Sp → List Sp
  | [], _ => []
  | _ :: _, [] => []
  | p :: A, q :: B => (if max p.1 q.1 ≤ min p.2 q.2 then [(max p.1 q.1, min p.2 q.2)] else []) ++ if p.2 < q.2 then both A (q :: B) else both (p :: A) B
termination_by A B => A.length + B.length
theorem both_nil (A : List Sp) : both A [] = [] := by cases A <;> simp [both]
theorem both_nil' (A : List Sp) : both [] A = [] := by simp [both]
theorem both_cons (p q : Sp) (A B : List Sp) : both (p :: A) (q :: B) = (if max p.1 q.1 ≤ min p.2 q.2 then [(max p.1 q.1, min p.2 q.2)] else []) ++ if p.2 < q.2 then both A (q :: B) else both (p :: A) B := by rw [both]
theorem both_mem (n : Nat) : ∀ (A B : List Sp), A.length + B.length ≤ n → Can A → Can B → ∀ x, InS (both A B) x ↔ InS A x ∧ InS B x := by
  induction n with
  | zero =>
    intro A B h hA hB x
    have : A = [] := by cases A with | nil => rfl | cons => simp at h
    subst this
    rw [both_nil']
    simp [inS_nil]
  | succ n ih =>
    intro A B h hA hB x
    cases A with
    | nil => rw [both_nil']; simp [inS_nil]
    | cons p A =>
      cases B with
      | nil => rw [both_nil]; simp [inS_nil]
      | cons q B =>
        simp only [List.length_cons] at h
        have hp := hA.head
        have hq := hB.head
        rw [both_cons, inS_append]
        have e1 : InS (if max p.1 q.1 ≤ min p.2 q.2 then [(max p.1 q.1, min p.2 q.2)] else []) x ↔ (p.1 ≤ x ∧ x ≤ p.2) ∧ (q.1 ≤ x ∧ x ≤ q.2) := by
          by_cases hc : max p.1 q.1 ≤ min p.2 q.2
          · rw [if_pos hc, inS_cons]
            simp only [inS_nil, or_false]
            omega
          · rw [if_neg hc]
            simp only [inS_nil, false_iff]
            omega
        rw [e1]
        by_cases hlt : p.2 < q.2
        · rw [if_pos hlt, ih A (q :: B) (by simp only [List.length_cons]; omega) hA.tail hB, inS_cons, inS_cons]
          constructor
          · rintro (h1 | h1)
            · exact ⟨.inl h1.1, .inl h1.2⟩
            · exact ⟨.inr h1.1, h1.2⟩
          · rintro ⟨h1 | h1, h2⟩
            · rcases h2 with h2 | h2
              · exact .inl ⟨h1, h2⟩
              · have := hq.2 x h2; omega
            · exact .inr ⟨h1, h2⟩
        · rw [if_neg hlt, ih (p :: A) B (by simp only [List.length_cons]; omega) hA hB.tail, inS_cons, inS_cons]
          constructor
          · rintro (h1 | h1)
            · exact ⟨.inl h1.1, .inl h1.2⟩
            · exact ⟨h1.1, .inr h1.2⟩
          · rintro ⟨h1, h2 | h2⟩
            · rcases h1 with h1 | h1
              · exact .inl ⟨h1, h2⟩
              · have := hp.2 x h1; omega
            · exact .inr ⟨h1, h2⟩
theorem both_vr (n : Nat) : ∀ (A B : List Sp), A.length + B.length ≤ n → (∀ p ∈ A, VR p) → (∀ p ∈ B, VR p) → (∀ p ∈ both A B, VR p) ∧ (both A B).length ≤ A.length + B.length := by
  induction n with
  | zero =>
    intro A B h hA hB
    have : A = [] := by cases A with | nil => rfl | cons => simp at h
    subst this
    rw [both_nil']
    simp
  | succ n ih =>
    intro A B h hA hB
    cases A with
    | nil => rw [both_nil']; simp
    | cons p A =>
      cases B with
      | nil => rw [both_nil]; simp
      | cons q B =>
        simp only [List.length_cons] at h
        have hp := hA p (List.mem_cons_self ..)
        have hq := hB q (List.mem_cons_self ..)
        have hA' : ∀ p ∈ A, VR p := fun r hr => hA r (List.mem_cons_of_mem _ hr)
        have hB' : ∀ p ∈ B, VR p := fun r hr => hB r (List.mem_cons_of_mem _ hr)
        rw [both_cons]
        have e1 : (∀ r ∈ (if max p.1 q.1 ≤ min p.2 q.2 then [(max p.1 q.1, min p.2 q.2)] else []), VR r) ∧ (if max p.1 q.1 ≤ min p.2 q.2 then [(max p.1 q.1, min p.2 q.2)] else []).length ≤ 1 := by
          by_cases hc : max p.1 q.1 ≤ min p.2 q.2
          · rw [if_pos hc]
            refine ⟨fun r hr => ?_, Nat.le_refl _⟩
            rw [List.mem_singleton.1 hr]
            have a := blk_vn hp (x := max p.1 q.1) (by omega) (by omega)
            have b := blk_vn hp (x := min p.2 q.2) (by omega) (by omega)
            exact ⟨a.1, b.1, a.2.2.trans b.2.2.symm, hc⟩
          · rw [if_neg hc]
            exact ⟨by simp, by simp⟩
        generalize (if max p.1 q.1 ≤ min p.2 q.2 then [(max p.1 q.1, min p.2 q.2)] else [] : List Sp) = E at *
        by_cases hlt : p.2 < q.2
        · rw [if_pos hlt]
          obtain ⟨i1, i2⟩ := ih A (q :: B) (by simp only [List.length_cons]; omega) hA' hB
          refine ⟨fun r hr => (List.mem_append.1 hr).elim (e1.1 r) (i1 r), ?_⟩
          have := e1.2
          simp only [List.length_append, List.length_cons] at i2 ⊢
          omega
        · rw [if_neg hlt]
          obtain ⟨i1, i2⟩ := ih (p :: A) B (by simp only [List.length_cons]; omega) hA hB'
          refine ⟨fun r hr => (List.mem_append.1 hr).elim (e1.1 r) (i1 r), ?_⟩
          have := e1.2
          simp only [List.length_append, List.length_cons] at i2 ⊢
          omega
/-- the reference's way: the rest of both rests -/
def restR (a : List Pf) : List Pf := pfs (gaps (spn a))
def unionR (a b : List Pf) : List Pf := lst (a ++ b)
def bothR (a b : List Pf) : List Pf := restR (unionR (restR a) (restR b))
def withoutR (a b : List Pf) : List Pf := bothR a (restR b)
theorem ok_restR {a : List Pf} (ha : ∀ p ∈ a, OkPf p) : ∀ p ∈ restR a, OkPf p := okPf_pfs (gaps_ok (spn_can ha) (spn_vr ha)).2.2
theorem ok_lst {a : List Pf} (ha : ∀ p ∈ a, OkPf p) : ∀ p ∈ lst a, OkPf p := okPf_pfs (spn_vr ha)
theorem ok_unionR {a b : List Pf} (ha : ∀ p ∈ a, OkPf p) (hb : ∀ p ∈ b, OkPf p) : ∀ p ∈ unionR a b, OkPf p := ok_lst (ok_append ha hb)
theorem spn_restR {a : List Pf} (ha : ∀ p ∈ a, OkPf p) : spn (restR a) = gaps (spn a) :=
  spn_pfs (gaps_ok (spn_can ha) (spn_vr ha)).1 (gaps_ok (spn_can ha) (spn_vr ha)).2.2
theorem spn_lst {a : List Pf} (ha : ∀ p ∈ a, OkPf p) : spn (lst a) = spn a := spn_pfs (spn_can ha) (spn_vr ha)
theorem both_ok {A B : List Sp} (hA : Can A) (hB : Can B) (vA : ∀ p ∈ A, VR p) (vB : ∀ p ∈ B, VR p) :
    Can (jn (both A B)) ∧ (∀ x, InS (jn (both A B)) x ↔ InS A x ∧ InS B x) ∧ ∀ p ∈ jn (both A B), VR p := by
  obtain ⟨h1, h2, h3⟩ := jn_can (both_vr _ A B (Nat.le_refl _) vA vB).1
  exact ⟨h1, fun x => (h2 x).trans (both_mem _ A B (Nat.le_refl _) hA hB x), h3⟩
/-- what two sets have in common, both ways -/
theorem both_eq {a b : List Pf} (ha : ∀ p ∈ a, OkPf p) (hb : ∀ p ∈ b, OkPf p) : bothR a b = pfs (jn (both (spn a) (spn b))) := by
  have hu := ok_unionR (ok_restR ha) (ok_restR hb)
  have ga := gaps_ok (spn_can ha) (spn_vr ha)
  have gb := gaps_ok (spn_can hb) (spn_vr hb)
  have gu := gaps_ok (spn_can hu) (spn_vr hu)
  obtain ⟨h1, h2, h3⟩ := both_ok (spn_can ha) (spn_can hb) (spn_vr ha) (spn_vr hb)
  unfold bothR
  rw [show restR (unionR (restR a) (restR b)) = pfs (gaps (spn (unionR (restR a) (restR b)))) from rfl]
  congr 1
  refine can_unique gu.1 h1 fun x => ?_
  have hr := ok_append (ok_restR ha) (ok_restR hb)
  rw [gu.2.1, h2]
  unfold unionR
  rw [spn_lst hr, inS_spn hr, List.map_append, inS_append, ← inS_spn (ok_restR ha), ← inS_spn (ok_restR hb), spn_restR ha, spn_restR hb, ga.2.1, gb.2.1]
  constructor
  · rintro ⟨v, h⟩
    constructor
    · exact Classical.byContradiction fun h4 => h (.inl ⟨v, h4⟩)
    · exact Classical.byContradiction fun h4 => h (.inr ⟨v, h4⟩)
  · rintro ⟨h4, h5⟩
    refine ⟨vr_vn (spn_vr ha) h4, ?_⟩
    rintro (h | h)
    · exact h.2 h4
    · exact h.2 h5
theorem without_eq {a b : List Pf} (ha : ∀ p ∈ a, OkPf p) (hb : ∀ p ∈ b, OkPf p) : withoutR a b = pfs (jn (both (spn a) (gaps (spn b)))) := by
  unfold withoutR
  rw [both_eq ha (ok_restR hb), spn_restR hb]

/-- the other block of the next longer one -/
def sib (i a : Nat) : Nat := if a / 2 ^ i % 2 = 0 then (a / 2 ^ i + 1) * 2 ^ i else (a / 2 ^ i - 1) * 2 ^ i
theorem blks_gb {L y : Nat} (x : Nat) : ∀ c ∈ blks L x y, c.2 = gB L c.1 y := by
  refine blks_ind (fun x l => ∀ c ∈ l, c.2 = gB L c.1 y) (fun x h c hc => by cases hc) (fun x h hg ih c hc => ?_) x
  rcases List.mem_cons.1 hc with rfl | hc
  · rfl
  · exact ih c hc
theorem can_out {S : List Sp} (hc : Can S) {s : Sp} (hs : s ∈ S) : ¬ InS S (s.2 + 1) ∧ (0 < s.1 → ¬ InS S (s.1 - 1)) := by
  have hle := hc.2 s hs
  have key : ∀ s' ∈ S, s' = s ∨ s.2 + 1 < s'.1 ∨ s'.2 + 1 < s.1 := fun s' hs' => by
    rcases List.mem_iff_getElem.1 hs with ⟨i, hi, rfl⟩
    rcases List.mem_iff_getElem.1 hs' with ⟨k, hk, rfl⟩
    have hpw := List.pairwise_iff_getElem.1 hc.1
    rcases Nat.lt_trichotomy i k with hik | hik | hik
    · exact .inr (.inl (hpw i k hi hk hik))
    · subst hik; exact .inl rfl
    · exact .inr (.inr (hpw k i hk hi hik))
  constructor
  · rintro ⟨s', hs', h1, h2⟩
    rcases key s' hs' with rfl | h | h <;> omega
  · rintro h0 ⟨s', hs', h1, h2⟩
    rcases key s' hs' with rfl | h | h <;> omega
theorem sib_hit {i P k' x : Nat} (hx : x = 2 * k' * 2 ^ i ∨ x = (2 * k' + 1) * 2 ^ i) (h1 : 2 * k' * 2 ^ i ≤ P) (h2 : P < (2 * k' + 2) * 2 ^ i) (h3 : ¬ (x ≤ P ∧ P < x + 2 ^ i)) : sib i P = x := by
  have hp := two_pos i
  unfold sib
  generalize 2 ^ i = Q at *
  have e1 : (2 * k' + 1) * Q = 2 * k' * Q + Q := by rw [Nat.add_mul, Nat.one_mul]
  have e2 : (2 * k' + 2) * Q = 2 * k' * Q + 2 * Q := by rw [Nat.add_mul]
  rcases hx with rfl | rfl
  · have : P / Q = 2 * k' + 1 := by
      rw [Nat.div_eq_iff (by omega)]
      omega
    rw [this, if_neg (by omega), Nat.add_sub_cancel]
  · have : P / Q = 2 * k' := by
      rw [Nat.div_eq_iff (by omega)]
      omega
    rw [this, if_pos (by omega)]
theorem sibs_len (B : List Sp) : (B.flatMap fun (p : Sp) => (List.range 128).map fun i => sib i p.1).length = 128 * B.length := by
  induction B with
  | nil => rfl
  | cons b B ih =>
    rw [List.flatMap_cons, List.length_append, ih]
    simp
    omega
/-- how many prefixes a set needs: what is in two lists of prefixes, and not in a third one -/
theorem cover_len {S : List Sp} (hS : Can S) (hv : ∀ p ∈ S, VR p) {A C B : List Sp} (hA : ∀ p ∈ A, ∃ j, PfxSp p j) (hC : ∀ p ∈ C, ∃ j, PfxSp p j) (hB : ∀ p ∈ B, ∃ j, PfxSp p j)
    (h : ∀ x, InS S x ↔ InS A x ∧ InS C x ∧ ¬ InS B x) : (allB S).length ≤ A.length + C.length + 128 * B.length + 2 := by
  have hlen : (A.map Prod.fst ++ C.map Prod.fst ++ B.flatMap (fun (p : Sp) => (List.range 128).map fun i => sib i p.1) ++ [0, 2 ^ 128]).length = A.length + C.length + 128 * B.length + 2 := by
    have := sibs_len B
    rw [List.length_append, List.length_append, List.length_append, this]
    simp
  rw [← hlen]
  have := nodup_le (l := (allB S).map Prod.fst) (m := A.map Prod.fst ++ C.map Prod.fst ++ B.flatMap (fun (p : Sp) => (List.range 128).map fun i => sib i p.1) ++ [0, 2 ^ 128]) (by rw [List.pairwise_map]; exact allB_first hS) fun x hx => by
    obtain ⟨c, hc, rfl⟩ := List.mem_map.1 hx
    obtain ⟨vc, lc, dc, _⟩ := mem_allB hv hc
    obtain ⟨s, hs, hc⟩ := List.mem_flatMap.1 hc
    have hL := (blk_vn (hv s hs) ((blks_ok (LN s.1) s.1 s.2).each c hc).1 ((blks_ok (LN s.1) s.1 s.2).each c hc).2.1).2.1
    obtain ⟨b1, b2, hg⟩ := (blks_ok (LN s.1) s.1 s.2).each c hc
    have hgb := blks_gb s.1 c hc
    rw [List.mem_append, List.mem_append, List.mem_append]
    obtain ⟨i, hi⟩ : ∃ i, LN s.1 - c.2 = i := ⟨_, rfl⟩
    have hdv := hg.dvd
    have hft := hg.fits
    rw [hi] at hdv hft
    have hLb : LN s.1 ≤ 128 := by unfold LN; split <;> omega
    have hxS : ∀ t, c.1 ≤ t → t < c.1 + 2 ^ i → InS S t := fun t h1 h2 => ⟨s, hs, by omega, by omega⟩
    have hpi := two_pos i
    rcases Nat.lt_or_ge i (LN s.1) with hiL | hiL
    · obtain ⟨k, hk⟩ := hdv
      obtain ⟨k', hk'⟩ : ∃ k', k = 2 * k' ∨ k = 2 * k' + 1 := ⟨k / 2, by omega⟩
      have hx2 : c.1 = 2 * k' * 2 ^ i ∨ c.1 = (2 * k' + 1) * 2 ^ i := by
        rcases hk' with rfl | rfl
        · exact .inl (by rw [hk, Nat.mul_comm])
        · exact .inr (by rw [hk, Nat.mul_comm])
      have hps : 2 ^ (i + 1) = 2 * 2 ^ i := by rw [Nat.pow_succ, Nat.mul_comm]
      have e1 : (2 * k' + 1) * 2 ^ i = 2 * k' * 2 ^ i + 2 ^ i := by rw [Nat.add_mul, Nat.one_mul]
      have e2 : (2 * k' + 2) * 2 ^ i = 2 * k' * 2 ^ i + 2 * 2 ^ i := by rw [Nat.add_mul]
      obtain ⟨z, hz⟩ : ∃ z, 2 * k' * 2 ^ i = z := ⟨_, rfl⟩
      have hzd : 2 ^ (i + 1) ∣ z := ⟨k', by rw [hps, ← hz]; rw [Nat.mul_comm 2 k', Nat.mul_assoc, Nat.mul_comm]⟩
      -- a number of the next longer block that is not in the set
      have hout : ∃ t, z ≤ t ∧ t < z + 2 ^ (i + 1) ∧ ¬ InS S t := by
        have ho := can_out hS hs
        rcases Nat.lt_or_ge z s.1 with h1 | h1
        · exact ⟨s.1 - 1, by omega, by omega, ho.2 (by omega)⟩
        · rcases Nat.lt_or_ge s.2 (z + 2 ^ (i + 1) - 1) with h2 | h2
          · exact ⟨s.2 + 1, by omega, by omega, ho.1⟩
          · exfalso
            have hzc := blks_top (L := LN s.1) (a := s.1) (y := s.2) s.1 (Nat.le_refl _) (fun z j _ _ h3 h4 => by omega) c hc z (i + 1) (by omega) hzd h1 (by omega) (by omega) (by omega)
            have := gB_top (L := LN s.1) (x := c.1) (y := s.2) (j := i + 1) (by omega) (by rw [← hzc]; exact hzd) (by rw [← hzc]; omega)
            rw [← hgb, hi] at this
            omega
      obtain ⟨t, t1, t2, tS⟩ := hout
      have hxin := (h c.1).1 (hxS c.1 (Nat.le_refl _) (by omega))
      have side : ∀ D : List Sp, (∀ p ∈ D, ∃ j, PfxSp p j) → InS D c.1 → ¬ InS D t → c.1 ∈ D.map Prod.fst := fun D hD h1 h2 => by
        obtain ⟨p, hp, l1, l2⟩ := h1
        obtain ⟨j, hj⟩ := hD p hp
        have hpj := two_pos j
        rw [hj.snd] at l2
        rcases Nat.lt_or_ge i j with hij | hij
        · exfalso
          have := nest (t := c.1) hzd hj.dvd hij (by omega) (by omega) l1 (by omega)
          exact h2 ⟨p, hp, by omega, by rw [hj.snd]; omega⟩
        · have := nest (t := c.1) hj.dvd (by rw [hk]; exact Nat.dvd_mul_right _ _ : 2 ^ i ∣ c.1) hij l1 (by omega) (Nat.le_refl _) (by omega)
          exact List.mem_map.2 ⟨p, hp, by omega⟩
      by_cases hBt : InS B t
      · obtain ⟨p, hp, l1, l2⟩ := hBt
        obtain ⟨j, hj⟩ := hB p hp
        have hpj := two_pos j
        rw [hj.snd] at l2
        have hij : j ≤ i := by
          rcases Nat.lt_or_ge i j with hij | hij
          · exfalso
            have := nest (t := t) hzd hj.dvd hij t1 t2 l1 (by omega)
            exact hxin.2.2 ⟨p, hp, by omega, by rw [hj.snd]; omega⟩
          · exact hij
        have hn := nest (t := t) hj.dvd hzd (by omega) l1 (by omega) t1 t2
        have hno : ¬ (c.1 ≤ p.1 ∧ p.1 < c.1 + 2 ^ i) := fun hh => by
          have := (h p.1).1 (hxS p.1 hh.1 hh.2)
          exact this.2.2 ⟨p, hp, Nat.le_refl _, by rw [hj.snd]; omega⟩
        have hsb : sib i p.1 = c.1 := sib_hit hx2 (by omega) (by omega) hno
        exact .inl (.inr (List.mem_flatMap.2 ⟨p, hp, List.mem_map.2 ⟨i, List.mem_range.2 (by omega), hsb⟩⟩))
      · by_cases hAt : InS A t
        · have hCt : ¬ InS C t := fun hct => tS ((h t).2 ⟨hAt, hct, hBt⟩)
          exact .inl (.inl (.inr (side C hC hxin.2.1 hCt)))
        · exact .inl (.inl (.inl (side A hA hxin.1 hAt)))
    · refine .inr ?_
      obtain rfl : i = LN s.1 := by omega
      rw [← hL] at hdv
      obtain ⟨k, hk⟩ := hdv
      rcases vc.cases with ⟨a, _, _, d⟩ | ⟨a, b, b', b''⟩
      · have hl : LN c.1 = 32 := by rw [LN_six, a]; rfl
        rw [hl] at hk
        have : k = 0 := by omega
        rw [hk, this]
        simp
      · have hl : LN c.1 = 128 := by rw [LN_six, a]; rfl
        rw [hl] at hk
        have hb : 2 ^ 128 ≤ c.1 ∧ c.1 < 2 ^ 129 := by
          rcases vc with h | h
          · have := of_decide_eq_true a; omega
          · exact h
        have : k = 1 := by omega
        rw [hk, this]
        simp
  rw [List.length_map] at this
  exact this
end Go.Proofs.YtjkicehhfapohaaGreatDoor

namespace Go.Proofs.YtjkicehhfapohaaGreatDoor
open Go.RowKit Go
set_option linter.unusedVariables false

theorem OkPf.u4 {p : Pf} (h : OkPf p) : U64N p.2.1 ∧ U64N p.2.2.1 := ⟨h.ok.1.1, h.ok.1.2.1⟩
theorem u4_ok {L : List Pf} (h : ∀ p ∈ L, OkPf p) : U4 L := fun p hp => (h p hp).u4
set_option maxRecDepth 100000 in
set_option maxHeartbeats 1000000 in
theorem prefixes_gen (b m k : Nat) (w : World) (h : Strm w b m) (hk : k ≤ 1000) (hm : m + 5 * k + 20 < 1099511627776) :
    Calls Tryz.prog 6 #[.pointer (some ⟨b, 0, none⟩), .int .i64 (k : Int)] w fun e w' => ∃ v L, e = .returned v ∧ OwnK layPf w' w.heap.size v L ∧ L.length = k ∧ (∀ p ∈ L, OkPf p) ∧ Gen b w w' (m + 5 * k) := by
  have hblt := h.lt
  have HG0 : Hid (Gen b w w m) := Lib.hid (Gen.start h)
  clear h
  go_enter Tryz.func6, Tryz.ntmps6
  go_wp2_with fail
  go_loopw [5, 7] (fun out i wr => ∃ (j : Nat) (L : List Pf), j ≤ k ∧ i = .int .i64 (j : Int) ∧ Hid (OwnK layPf wr w.heap.size out L) ∧ Hid (L.length = j) ∧ Hid (∀ p ∈ L, OkPf p) ∧ Hid (Gen b w wr (m + 5 * j))) (fun _ i _ => k - (intOf i).toNat)
  case atStart => exact ⟨0, [], Nat.zero_le _, rfl, Lib.hid (OwnK.nil _ _ _), Lib.hid rfl, Lib.hid (by simp), HG0⟩
  case round =>
    obtain ⟨j, L, hj, rfl, HO, HL, HK, HG⟩ := hrel
    by_cases hlt : j < k
    · go_wp2_with fail
      refine (rightPrefix_ok b (m + 5 * j) _ HG.out.s (by omega)).mono ?_
      rintro e w2 ⟨⟨q1, q2, q3, q4⟩, rfl, hok, hg⟩
      have HO2 : Hid (OwnK layPf w2 w.heap.size u5 L) := Lib.hid (HO.out.gen hg hblt)
      have HG2 : Hid (Gen b w w2 (m + 5 * (j + 1))) := Lib.hid ((HG.out.trans hg).mono (by omega))
      have HK2 : Hid (∀ p ∈ L ++ [(q1, q2, q3, q4)], OkPf p) := Lib.hid (ok_append HK.out fun p hp => by rw [List.mem_singleton.1 hp]; exact hok)
      clear hg HO HG hok HK
      simp only [pfC]
      go_wp2_with (at_builtin; refine wpList_app pfE rfl (.tmp 9) (.tmp 12) rfl rfl (World.ownsRow.alloc HO2.out _) rfl (src_new layPf _ (q1, q2, q3, q4) _ _ ?c0) ?c1 ?c2 ?c3 ?c4 ?_)
      case c0 => rfl
      case c1 => exact layPf.one _
      case c2 => have := HL.out; unfold maxLen; omega
      case c3 => have := HL.out; omega
      case c4 => have := HG2.out.g.size; simp; omega
      intro v' w' hO hG
      have HO' : Hid (OwnK layPf w' w.heap.size v' (L ++ [(q1, q2, q3, q4)])) := Lib.hid (OwnK.snoc hO)
      have HG' : Hid (Gen b w w' (m + 5 * (j + 1))) := Lib.hid (HG2.out.below (hG.allocFirst.below HG2.out.g.size (own_base HO2.out)) (Nat.le_refl _) hblt)
      clear hO hG HO2 HG2
      go_wp2
      exact ⟨⟨j + 1, L ++ [(q1, q2, q3, q4)], by omega, by go_num, HO', Lib.hid (by rw [List.length_append, HL.out]; rfl), HK2, HG'⟩, by simp [intOf]; omega⟩
    · obtain rfl : j = k := by omega
      go_wp2_with fail
      go_ret
      exact ⟨_, L, rfl, HO.out, HL.out, HK.out, HG.out⟩
set_option maxRecDepth 100000 in
set_option maxHeartbeats 1000000 in
theorem rightSet_gen (b m : Nat) (w : World) (h : Strm w b m) (hm : m + 50 < 1099511627776) :
    Calls Tryz.prog 35 #[.pointer (some ⟨b, 0, none⟩)] w fun e w' => ∃ v L, e = .returned v ∧ OwnK layPf w' w.heap.size v L ∧ L.length ≤ 5 ∧ (∀ p ∈ L, OkPf p) ∧ Gen b w w' (m + 26) := by
  have hblt := h.lt
  have HG0 : Hid (Gen b w w m) := Lib.hid (Gen.start h)
  clear h
  go_enter Tryz.func35, Tryz.ntmps35
  go_wp2_with fail
  refine (range_gen b m _ _ _ HG0.out.s (by omega) (by omega) (by omega)).mono ?_
  rintro e w1 ⟨y, rfl, ⟨hy0, hy1⟩, hg⟩
  obtain ⟨k, rfl⟩ := Int.eq_ofNat_of_zero_le hy0
  have hk : k ≤ 5 := by omega
  have HG1 := Lib.hid (HG0.out.trans hg)
  clear hg HG0 hy0 hy1
  go_wp2_with fail
  refine (prefixes_gen b (m + 1) k _ HG1.out.s (by omega) (by omega)).mono ?_
  rintro e w2 ⟨v, L, rfl, hO, hl, hok, hg⟩
  have HG2 := Lib.hid (HG1.out.trans hg)
  obtain ⟨ad, c, rfl, _⟩ := hO.form
  have HS := Lib.hid (leastOf_any ad k c L w2 (by rw [hl] at hO; exact hO.rd) hl (by omega) hok)
  have HK := Lib.hid (ok_lst hok)
  have HLl : Hid ((lst L).length ≤ 5) := Lib.hid (by have := lst_len hok; omega)
  rw [hl]
  clear hO hl hok hg HG1
  go_wp2_with fail
  refine HS.out.mono ?_
  rintro e w3 ⟨v, rfl, hO, hB⟩
  have hs := HG2.out.g.size
  have HO3 := Lib.hid (hO.weak hs)
  have HG3 := Lib.hid (HG2.out.below0 hB (Nat.lt_of_lt_of_le hblt hs))
  clear hO hB HG2
  go_wp2_with fail
  go_ret
  exact ⟨_, _, rfl, HO3.out, HLl.out, HK.out, HG3.out.mono (by omega)⟩
theorem u4_app {L M : List Pf} (h : U4 L) (k : U4 M) : U4 (L ++ M) := fun p hp => (List.mem_append.1 hp).elim (h p) (k p)
set_option maxRecDepth 100000 in
set_option maxHeartbeats 4000000 in
theorem set_gen (b m : Nat) (w : World) (h : Strm w b m) (hm : m + 100 < 1099511627776) :
    Calls Tryz.prog 5 #[.pointer (some ⟨b, 0, none⟩)] w fun e w' => ∃ v L, e = .returned v ∧ OwnK layPf w' w.heap.size v L ∧ L.length ≤ 6 ∧ U4 L ∧ Gen b w w' (m + 50) := by
  have hblt := h.lt
  have HG0 : Hid (Gen b w w m) := Lib.hid (Gen.start h)
  clear h
  go_enter Tryz.func5, Tryz.ntmps5
  go_wp2_with fail
  refine (rightSet_gen b m _ HG0.out.s (by omega)).mono ?_
  rintro e w1 ⟨v, L, rfl, hO, hl, hok, hg⟩
  have HO1 := Lib.hid hO
  have HG1 := Lib.hid (HG0.out.trans hg)
  have HU1 := Lib.hid (u4_ok hok)
  clear hO hok hg HG0
  go_wp2_with fail
  refine (flip_gen b (m + 26) _ _ HG1.out.s (by omega) (by omega)).mono ?_
  rintro e w2 ⟨kk, rfl, hg⟩
  have HO2 := Lib.hid (HO1.out.gen hg hblt)
  have HG2 := Lib.hid (HG1.out.trans hg)
  clear hg HO1 HG1
  go_upto_if 7 with fail
  go_cut [3] (fun s wx => ∃ L : List Pf, L.length ≤ 6 ∧ U4 L ∧ OwnK layPf wx w.heap.size s L ∧ Gen b w wx (m + 45))
  case first =>
    cases kk
    · go_wp2_with fail
      go_meet
      case rel => exact ⟨L, by omega, HU1.out, HO2.out, HG2.out.mono (by omega)⟩
    · go_wp2_with fail
      refine (prefix_gen b (m + 26 + 1) _ HG2.out.s (by omega)).mono ?_
      rintro e w3 ⟨q1, q2, q3, q4, rfl, h1, h2, -, hg⟩
      have HO3 := Lib.hid (HO2.out.gen hg hblt)
      have HG3 := Lib.hid (HG2.out.trans hg)
      have HU3 : Hid (U4 (L ++ [(q1, q2, q3, q4)])) := Lib.hid (u4_app HU1.out fun p hp => by rw [List.mem_singleton.1 hp]; exact ⟨h1, h2⟩)
      clear hg h1 h2 HO2 HG2
      unfold vP
      go_wp2_with (at_builtin; refine wpList_app pfE rfl (.tmp 8) (.tmp 11) rfl rfl (World.ownsRow.alloc HO3.out _) rfl (src_new layPf _ (q1, q2, q3, q4) _ _ ?c0) ?c1 ?c2 ?c3 ?c4 ?_)
      case c0 => rfl
      case c1 => exact layPf.one _
      case c2 => unfold maxLen; omega
      case c3 => omega
      case c4 => have := HG3.out.g.size; simp; omega
      intro v' w' hO hG
      have HO' := Lib.hid (OwnK.snoc (x := (q1, q2, q3, q4)) hO)
      have HG' := Lib.hid (HG3.out.below (hG.allocFirst.below HG3.out.g.size (own_base HO3.out)) (Nat.le_refl _) hblt)
      clear hO hG HO3 HG3
      go_wp2_with fail
      go_meet
      case rel => exact ⟨_, by rw [List.length_append]; simp; omega, HU3.out, HO'.out, HG'.out.mono (by omega)⟩
  case rest =>
    clear HO2 HG2 HU1 hl
    obtain ⟨L, hl, hu, hO, hG⟩ := hcut
    obtain ⟨ad, c, hv, _, _, _⟩ := hO.form
    have HO := Lib.hid hO
    have HG := Lib.hid hG
    have HU := Lib.hid hu
    clear hO hG hu
    subst hv
    obtain ⟨n, hn⟩ : ∃ n, L.length = n := ⟨_, rfl⟩
    rw [hn] at HO hl ⊢
    have Hn := Lib.hid hn
    clear hn
    by_cases h1 : 1 < n
    · have g1 : ((n : Int) > 1) := by omega
      go_wp2_with fail
      refine (flip_gen b (m + 45) _ _ HG.out.s (by omega) (by omega)).mono ?_
      rintro e w2 ⟨kk, rfl, hg⟩
      have HO2 := Lib.hid (HO.out.gen hg hblt)
      have HG2 := Lib.hid (HG.out.trans hg)
      clear hg HO HG
      cases kk
      · go_wp2_with fail
        go_ret
        exact ⟨_, L, rfl, HO2.out, by rw [Hn.out]; exact hl, HU.out, HG2.out.mono (by omega)⟩
      · have h0L : 0 < L.length := by rw [Hn.out]; omega
        have h1L : 1 < L.length := by rw [Hn.out]; omega
        obtain ⟨⟨x1, x2, x3, x4⟩, hx⟩ : ∃ x, L[0]? = some x := ⟨_, List.getElem?_eq_getElem h0L⟩
        obtain ⟨⟨y1, y2, y3, y4⟩, hy⟩ : ∃ y, L[1]? = some y := ⟨_, List.getElem?_eq_getElem h1L⟩
        obtain ⟨g, c', hv, hg, hgl, hc1, hc2⟩ := HO2.out.one (by omega)
        rw [Hn.out] at hv hc1
        injection hv with hv1 _ hv3
        subst hv1 hv3
        have HO3 : Hid (OwnK layPf w2 w.heap.size (.slice (some ⟨g, 0, none⟩) n c) L) := HO2
        clear HO2
        have e0 : ∀ j v, (pfC (x1, x2, x3, x4))[j]? = some v → w2.cell? ⟨g, 0 * 4 + j, none⟩ = some v := fun j v hv => HO3.out.get hx hv
        have e1 : ∀ j v, (pfC (y1, y2, y3, y4))[j]? = some v → w2.cell? ⟨g, 1 * 4 + j, none⟩ = some v := fun j v hv => HO3.out.get hy hv
        have a0 := e0 0 _ rfl
        have a1 := e0 1 _ rfl
        have a2 := e0 2 _ rfl
        have a3 := e0 3 _ rfl
        have b0 := e1 0 _ rfl
        have b1 := e1 1 _ rfl
        have b2 := e1 2 _ rfl
        have b3 := e1 3 _ rfl
        simp only [Nat.zero_mul, Nat.zero_add, Nat.one_mul, Nat.reduceAdd] at a0 a1 a2 a3 b0 b1 b2 b3
        have hfz : ∀ i, w2.frozen? ⟨g, i, none⟩ = false := fun i => HO3.out.frozen i
        have HSw : Hid (∀ wx : World, OwnK layPf wx w.heap.size (.slice (some ⟨g, 0, none⟩) n c) L → ∃ L', L'.length ≤ 6 ∧ U4 L' ∧ OwnK layPf (setCs (setCs wx g (0 * 4 + 0) (pfC (y1, y2, y3, y4))) g (1 * 4 + 0) (pfC (x1, x2, x3, x4))) w.heap.size (.slice (some ⟨g, 0, none⟩) n c) L') := Lib.hid fun wx hO => by
          have k1 := OwnK.sets (i := 0) (j := 0) (y := (y1, y2, y3, y4)) hO (pfC (y1, y2, y3, y4)) hx (by show 0 + 4 ≤ 4; decide) rfl
          have k2 := OwnK.sets (i := 1) (j := 0) (y := (x1, x2, x3, x4)) k1 (pfC (x1, x2, x3, x4)) (x := (y1, y2, y3, y4)) (by rw [List.getElem?_set_ne (by decide)]; exact hy) (by show 0 + 4 ≤ 4; decide) rfl
          refine ⟨_, ?_, fun p hp => ?_, k2⟩
          · rw [List.length_set, List.length_set, Hn.out]; exact hl
          · rcases List.mem_or_eq_of_mem_set hp with hp | rfl
            · rcases List.mem_or_eq_of_mem_set hp with hp | rfl
              · exact HU.out p hp
              · exact HU.out _ (List.mem_of_getElem? hy)
            · exact HU.out _ (List.mem_of_getElem? hx)
        have i0 : (0 : Int) < (n : Int) := by omega
        have i1 : (1 : Int) < (n : Int) := by omega
        clear e0 e1 hx hy HU Hn h0L h1L
        go_upto_region 5 with fail
        go_region
        go_wp2_with fail
        obtain ⟨L', hL', hU', hO'⟩ := HSw.out _ HO3.out
        have hgB : w.heap.size ≤ g := HO3.out.block.2.1
        have hbg : b < g := Nat.lt_of_lt_of_le hblt hgB
        have hO2 := OwnK.later hO' (below_drew (Below.refl _ _))
        go_ret
        refine ⟨_, L', rfl, hO2, hL', hU', ?_⟩
        refine Gen.mono (m := m + 45 + 1) (Gen.drew ?_) (by omega)
        repeat refine Gen.setCell ?_ _ _ hgB hbg
        exact HG2.out
    · have g1 : ¬ ((n : Int) > 1) := by omega
      go_wp2_with fail
      go_ret
      exact ⟨_, rfl, L, HO.out, by rw [Hn.out]; exact hl, HU.out, HG.out.mono (by omega)⟩
end Go.Proofs.YtjkicehhfapohaaGreatDoor

namespace Go.Proofs.YtjkicehhfapohaaGreatDoor
open Go.RowKit Go
set_option linter.unusedVariables false

set_option maxRecDepth 100000 in
set_option maxHeartbeats 4000000 in
theorem setFault_any (ad : Option Addr) (n c : Nat) (L : List Pf) (w : World) (h : RdK layPf w ad L) (hn : L.length = n) (hs : n ≤ 100000) (hu : U4 L) :
    Calls Tryz.prog 19 #[.slice ad n c] w (Ret (.int .i64 (setF L)) w) := by
  by_cases hb : 1000 < n
  · have e : setF L = 2 := by unfold setF; rw [hn, if_pos hb]
    rw [e]
    have hb2 : (n : Int) > 1000 := by omega
    clear h hu hn e
    go_enter Tryz.func19, Tryz.ntmps19
    go_wp2_with fail
    go_ret
    exact ⟨rfl, Below.refl _ _⟩
  · have hb2 : ¬ (n : Int) > 1000 := by omega
    have H0 := Lib.hid h
    have Hn := Lib.hid hn
    have Hu := Lib.hid hu
    have HF : Hid (∀ k, k < n → (∀ j, j < k → fAt L j = 0) → fAt L k ≠ 0 → setF L = fAt L k) := Lib.hid fun k hk h1 h2 => by
      have e := firstN_hit (fAt L) n k hk h1 h2
      unfold setF scanF
      rw [hn, if_neg hb, if_pos (by rw [e]; exact h2), e]
    have HZ : Hid ((∀ j, j < n → fAt L j = 0) → (∀ p ∈ L, OkPf p) ∧ (lst L = L → setF L = 0) ∧ (lst L ≠ L → setF L = 16)) := Lib.hid fun h1 => by
      have e := firstN_none (fAt L) n h1
      refine ⟨fun p hp => ?_, fun h2 => ?_, fun h2 => ?_⟩
      · obtain ⟨i, hi, rfl⟩ := List.getElem_of_mem hp
        have := fAt_zero (h1 i (by omega))
        simp only [List.getD, List.getElem?_eq_getElem hi, Option.getD_some] at this
        obtain ⟨u1, u2⟩ := hu _ (List.getElem_mem hi)
        exact okPf_of this u1 u2
      · unfold setF scanF
        rw [hn, if_neg hb, e, if_neg (by decide), if_pos h2]
      · unfold setF scanF
        rw [hn, if_neg hb, e, if_neg (by decide), if_neg h2]
    obtain ⟨af, haf⟩ : ∃ z, setF L = z := ⟨_, rfl⟩
    rw [haf] at HF HZ ⊢
    clear haf h hn hu hb
    go_enter Tryz.func19, Tryz.ntmps19
    go_wp2_with fail
    go_loopw [3, 4, 5, 11] (fun iv bx ev i wr => ∃ (k : Nat), k ≤ n ∧ i = .int .i64 k ∧ Hid (∀ j, j < k → fAt L j = 0) ∧ Hid (Below w.heap.size w wr)) (fun _ _ _ i _ => n - (intOf i).toNat)
    case atStart => exact ⟨0, Nat.zero_le _, rfl, Lib.hid fun j hj => absurd hj (Nat.not_lt_zero _), Lib.hid (Below.refl _ _)⟩
    case round =>
      obtain ⟨k, hk, rfl, HX, HB⟩ := hrel
      by_cases hlt : k < n
      · have hS : k < L.length := by rw [Hn.out]; exact hlt
        obtain ⟨p, hp⟩ : ∃ p, L[k]? = some p := ⟨_, List.getElem?_eq_getElem hS⟩
        have hpd : L.getD k zPf = p := by simp [List.getD, hp]
        have HU := Lib.hid (Hu.out p (List.mem_of_getElem? hp))
        obtain ⟨g, o, had, hg, c0, c1, c2, c3⟩ := (H0.out.below HB.out).pf hp rfl
        subst had
        have HP := Lib.hid fun wx => prefixFault_any p.1 p.2.1 p.2.2.1 p.2.2.2 wx HU.out.1 HU.out.2
        have HFk := Lib.hid (HF.out k hlt HX.out)
        have HXk : Hid (fAt L k = 0 → ∀ j, j < k + 1 → fAt L j = 0) := Lib.hid fun e j hj => by
          rcases Nat.lt_or_ge j k with h1 | h1
          · exact HX.out j h1
          · obtain rfl : j = k := by omega
            exact e
        have HA : Hid (fAt L k = if pfF p ≠ 0 then pfF p else if 0 < k ∧ nuP p ≤ nuP (L.getD (k - 1) zPf) then 7 else 0) := Lib.hid (by unfold fAt; rw [hpd])
        have HNu : Hid (nuP p = numA p.1 p.2.1 p.2.2.1) := Lib.hid rfl
        unfold pfF at HA
        unfold vP at HP
        clear hp hS hpd hg HX
        generalize hFe : pFault p.1 p.2.1 p.2.2.1 p.2.2.2 = F at *
        clear hFe
        generalize p.1 = a1 at *
        generalize p.2.1 = a2 at *
        generalize p.2.2.1 = a3 at *
        generalize p.2.2.2 = a4 at *
        have HB1 : Hid (Below w.heap.size w (wr.alloc (.cells #[.bool a1, .int .u64 (a2 : Int), .int .u64 (a3 : Int), .int .i64 a4] 39 (0, 0)))) := Lib.hid (Below.alloc HB.out HB.out.size _)
        have HP1 : Hid (Blk (wr.alloc (.cells #[.bool a1, .int .u64 (a2 : Int), .int .u64 (a3 : Int), .int .i64 a4] 39 (0, 0))) wr.heap.size 39 #[.bool a1, .int .u64 (a2 : Int), .int .u64 (a3 : Int), .int .i64 a4]) := Lib.hid (Blk.new wr _ _)
        go_upto_region 6 with fail
        generalize wr.alloc (.cells #[.bool a1, .int .u64 (a2 : Int), .int .u64 (a3 : Int), .int .i64 a4] 39 (0, 0)) = w3 at *
        generalize wr.heap.size = bx at *
        clear HB c0 c1 c2 c3
        have d0 := HP1.out.cell 0
        have d1 := HP1.out.cell 1
        have d2 := HP1.out.cell 2
        have d3 := HP1.out.cell 3
        simp at d0 d1 d2 d3
        go_wp2_with fail
        refine (HP.out _).mono ?_
        rintro e w4 ⟨rfl, hb⟩
        have HB4 := Lib.hid (HB1.out.trans (hb.mono HB1.out.size))
        have HP4 := Lib.hid (HP1.out.below hb HP1.out.lt)
        clear hb HB1 HP1 HP d0 d1 d2 d3
        by_cases hF0 : F = 0
        · rcases Nat.eq_zero_or_pos k with hk0 | hk0
          · have HX2 := Lib.hid (HXk.out (by rw [HA.out, if_neg (by simp [hF0]), if_neg (by omega)]))
            subst hF0 hk0
            have z0 : ((0 : Nat) : Int) = 0 := rfl
            simp only [z0]
            clear HFk HXk HA HNu HU
            go_wp2_with fail
            refine wp_region_later (by kernel_rfl) (by kernel_rfl) ?_
            repeat (go_big_quiet_step (fail))
            refine wpQuiet_nil ?_
            rintro w5 ⟨n5, hn5⟩
            have hb : Below w4.heap.size w4 w5 := by rw [hn5]; exact n5.2
            clear hn5 n5
            have HB5 := Lib.hid (HB4.out.trans (hb.mono HB4.out.size))
            clear hb
            go_wp2_with fail
            exact ⟨⟨1, by omega, by first | rfl | go_num, HX2, HB5⟩, by simp [intOf]; omega⟩
          · obtain ⟨j, hj⟩ : ∃ j, k = j + 1 := ⟨k - 1, by omega⟩
            have hjS : j < L.length := by rw [Hn.out]; omega
            obtain ⟨q, hq⟩ : ∃ q, L[j]? = some q := ⟨_, List.getElem?_eq_getElem hjS⟩
            have hqd : L.getD (k - 1) zPf = q := by rw [hj]; simp [List.getD, hq]
            obtain ⟨hu3, hu4⟩ := Hu.out q (List.mem_of_getElem? hq)
            obtain ⟨g', o', had, hg', b0, b1, b2, b3⟩ := (H0.out.below HB4.out).pf hq rfl
            injection had with had
            injection had with had1 had2
            subst had1 had2
            have HO := Lib.hid fun wx => order_any q.1 q.2.1 q.2.2.1 a1 a2 a3 wx hu3 hu4 HU.out.1 HU.out.2
            have HA2 : Hid (fAt L k = if nuP p ≤ nuP q then 7 else 0) := Lib.hid (by
              rw [HA.out, if_neg (by simp [hF0]), hqd]
              by_cases h1 : nuP p ≤ nuP q
              · rw [if_pos h1, if_pos ⟨hk0, h1⟩]
              · rw [if_neg h1, if_neg (fun h => h1 h.2)])
            have HCg := Lib.hid (cN_ge_iff (nuP q) (nuP p))
            have HNq : Hid (nuP q = numA q.1 q.2.1 q.2.2.1) := Lib.hid rfl
            rw [← HNq.out, ← HNu.out] at HO
            clear hq hqd hjS hu3 hu4 HA HNu HNq hg'
            generalize nuP q = nq at *
            generalize nuP p = np at *
            generalize q.1 = e1 at *
            generalize q.2.1 = e2 at *
            generalize q.2.2.1 = e3 at *
            generalize q.2.2.2 = e4 at *
            have i1 : (k : Int) - 1 = (j : Int) := by omega
            have i2 : decide (0 < k) = true := decide_eq_true hk0
            have i3 : (j : Int) < (n : Int) := by omega
            have i4 : (0 : Int) ≤ (j : Int) := by omega
            have i5 : (k : Int) ≤ 1000 := by omega
            have Hj := Lib.hid hj
            clear hj hk0
            have d0 := HP4.out.cell 0
            have d1 := HP4.out.cell 1
            have d2 := HP4.out.cell 2
            have d3 := HP4.out.cell 3
            simp at d0 d1 d2 d3
            have l0 := Later.cell_of d0
            have l1 := Later.cell_of d1
            have l2 := Later.cell_of d2
            have k0 := Later.cell_of b0
            have k1 := Later.cell_of b1
            have k2 := Later.cell_of b2
            have hO := fun x : Later w4 => Calls.later x (HO.out x.1)
            subst hF0
            generalize cN nq np = C at *
            go_upto_region 9 with fail
            refine wp_region_later (by kernel_rfl) (by kernel_rfl) ?_
            repeat (go_big_quiet_step ((go_at_call 10; exact hO _)))
            refine wpQuiet_nil ?_
            rintro w5 ⟨n5, hn5⟩
            have hb : Below w4.heap.size w4 w5 := by rw [hn5]; exact n5.2
            clear hn5 n5 hO HO l0 l1 l2 k0 k1 k2 d0 d1 d2 d3 b0 b1 b2 b3
            have HB5 := Lib.hid (HB4.out.trans (hb.mono HB4.out.size))
            clear hb HP4 HB4
            by_cases hnn : np ≤ nq
            · have hC0 : C ≥ 0 := HCg.out.2 hnn
              have HE := Lib.hid (HFk.out (by rw [HA2.out, if_pos hnn]; decide))
              have HE2 : Hid (af = 7) := Lib.hid (by rw [HE.out, HA2.out, if_pos hnn])
              clear HFk HXk HA2 HE HU
              go_wp2_with fail
              go_ret
              exact ⟨by rw [HE2.out]; rfl, HB5.out⟩
            · have hC0 : ¬ C ≥ 0 := fun h => hnn (HCg.out.1 h)
              have HX2 := Lib.hid (HXk.out (by rw [HA2.out, if_neg hnn]))
              clear HFk HXk HA2 HU
              go_wp2_with fail
              exact ⟨⟨k + 1, by omega, by go_num, HX2, HB5⟩, by simp [intOf]; omega⟩
        · have hF2 : (F != 0) = true := by simpa using hF0
          have hFA : fAt L k = F := by rw [HA.out, if_pos hF0]
          have HE : Hid (af = F) := Lib.hid (by rw [HFk.out (by rw [hFA]; exact hF0), hFA])
          clear HFk HXk hF0 HA hFA HU
          go_wp2_with fail
          go_ret
          exact ⟨by rw [HE.out]; rfl, HB4.out⟩
      · obtain rfl : k = n := by omega
        obtain ⟨hok, hz0, hz1⟩ := HZ.out HX.out
        have HR := Lib.hid (H0.out.below HB.out)
        have HZ0 := Lib.hid hz0
        have HZ1 := Lib.hid hz1
        have HS := Lib.hid (leastOf_any ad k c L wr HR.out Hn.out hs hok)
        have HLl := Lib.hid (lst_len hok)
        clear hok hz0 hz1 HZ HF HX Hu
        go_wp2_with fail
        refine HS.out.mono ?_
        rintro e w4 ⟨v, rfl, hO, hB⟩
        obtain ⟨ad4, c4, rfl, _⟩ := hO.form
        have HQ := Lib.hid (equal_pf ad4 ad c4 c (lst L) L w4 hO.rd (HR.out.below hB) (by have := HLl.out; rw [Hn.out] at this; omega))
        rw [Hn.out] at HQ
        have HB4 := Lib.hid (HB.out.trans (hB.mono HB.out.size))
        clear hO hB HB HR HS HLl
        generalize (lst L).length = ll at *
        go_wp2_with fail
        refine HQ.out.mono ?_
        rintro e w5 ⟨rfl, q5, rfl⟩
        have HB5 := Lib.hid (below_drewN HB4.out q5)
        by_cases hq : lst L = L
        · have HE := Lib.hid (HZ0.out hq)
          rw [decide_eq_true hq]
          clear hq HQ HZ0 HZ1
          go_wp2_with fail
          go_ret
          exact ⟨by rw [HE.out]; rfl, HB5.out⟩
        · have HE := Lib.hid (HZ1.out hq)
          rw [decide_eq_false hq]
          clear hq HQ HZ0 HZ1
          go_wp2_with fail
          go_ret
          exact ⟨by rw [HE.out]; rfl, HB5.out⟩
end Go.Proofs.YtjkicehhfapohaaGreatDoor

namespace Go.Proofs.YtjkicehhfapohaaGreatDoor
open Go.RowKit Go
set_option linter.unusedVariables false

theorem prev_num {x : Nat} (hx : VN x) (hp : VN (x - 1)) (hs : sixN (x - 1) = sixN x) (h0 : 0 < x) :
    hiN (x - 1) = hiN x - (if loN x < 1 + 0 then 1 else 0) ∧ loN (x - 1) = (loN x + 18446744073709551616 - 1 - 0) % 18446744073709551616 ∧ (if loN x < 1 + 0 then 1 else 0) ≤ hiN x ∧ hiN x < 18446744073709551616 := by
  have u1 := hiN_u x
  have u2 := loN_u x
  unfold U64N at u1 u2
  rcases hx.cases with ⟨a, b, c, d⟩ | ⟨a, b, c, d⟩ <;> rcases hp.cases with ⟨a', b', c', d'⟩ | ⟨a', b', c', d'⟩
  · rw [b, b', c, c']
    have : ¬ x < 1 + 0 := by omega
    rw [if_neg this]
    omega
  · rw [a, a'] at hs; cases hs
  · rw [a, a'] at hs; cases hs
  · have u3 := hiN_u (x - 1)
    have u4 := loN_u (x - 1)
    unfold U64N at u3 u4
    by_cases hl : loN x < 1 + 0
    · rw [if_pos hl]
      omega
    · rw [if_neg hl]
      omega
theorem sub64_one (x : Nat) (w : World) : (callFunc 97 #[.int .u64 (x : Int), .int .u64 1, .int .u64 0]).run Tryz.prog w = .ok (.value (.tuple #[.int .u64 (((x + 18446744073709551616 - 1 - 0) % 18446744073709551616 : Nat) : Int), .int .u64 ((if x < 1 + 0 then 1 else 0 : Nat) : Int)])) w := by
  rw [run_callFunc_extern Tryz.func97 (by kernel_rfl) (by kernel_rfl) (by kernel_rfl) (e := Go.Proofs.sub64Entry) (by kernel_rfl)]
  have := Go.Proofs.run_sub64 (P := Tryz.prog) x 1 0 (by decide) w
  rw [show ((1 : Nat) : Int) = 1 from rfl, show ((0 : Nat) : Int) = 0 from rfl] at this
  rw [this]
  rfl
set_option maxRecDepth 100000 in
set_option maxHeartbeats 1000000 in
theorem beforeN {x : Nat} (w : World) (hx : VN x) (hp : VN (x - 1)) (hs : sixN (x - 1) = sixN x) (h0 : 0 < x) : Calls Tryz.prog 82 #[.agg (aN x)] w (Ret (.agg (aN (x - 1))) w) := by
  obtain ⟨n1, n2, n3, n4⟩ := prev_num hx hp hs h0
  have hSub := sub64_one (loN x)
  have HE : Hid (aN (x - 1) = #[.bool (sixN x), .int .u64 ((hiN (x - 1) : Nat) : Int), .int .u64 ((loN (x - 1) : Nat) : Int)]) := Lib.hid (by unfold aN; rw [hs])
  rw [n1, n2] at HE
  obtain ⟨C, hC⟩ : ∃ C : Nat, (if loN x < 1 + 0 then 1 else 0) = C := ⟨_, rfl⟩
  obtain ⟨L, hL⟩ : ∃ L : Nat, (loN x + 18446744073709551616 - 1 - 0) % 18446744073709551616 = L := ⟨_, rfl⟩
  rw [hC, hL] at hSub HE
  rw [hC] at n3
  obtain ⟨D, hD⟩ : ∃ D : Nat, hiN x - C = D := ⟨_, rfl⟩
  have e0 : ((hiN x : Nat) : Int) - (C : Int) = (D : Int) := by omega
  have e1 : D ≤ 18446744073709551615 := by omega
  rw [hD] at HE
  have HA : Hid (Blk ((w.alloc (.cells (aN x) 32 (0, 0))).alloc (.cells #[.bool false, .int .u64 0, .int .u64 0] 32 (0, 0))) w.heap.size 32 (aN x)) := Lib.hid ((Blk.new w 32 (aN x)).alloc _)
  have HR : Hid (Blk ((w.alloc (.cells (aN x) 32 (0, 0))).alloc (.cells #[.bool false, .int .u64 0, .int .u64 0] 32 (0, 0))) (w.heap.size + 1) 32 #[.bool false, .int .u64 0, .int .u64 0]) := Lib.hid (by
    have this := Blk.new (w.alloc (.cells (aN x) 32 (0, 0))) 32 #[.bool false, .int .u64 0, .int .u64 0]
    rw [World.size_alloc] at this
    exact this)
  have HB : Hid (Below w.heap.size w ((w.alloc (.cells (aN x) 32 (0, 0))).alloc (.cells #[.bool false, .int .u64 0, .int .u64 0] 32 (0, 0)))) := Lib.hid (below_alloc (below_alloc (Below.refl _ _) _) _)
  clear n1 n2 n3 n4 hC hL hD hx hp hs h0
  rw [HE.out]
  have HE2 : Hid (aN x = #[.bool (sixN x), .int .u64 ((hiN x : Nat) : Int), .int .u64 ((loN x : Nat) : Int)]) := Lib.hid rfl
  rw [HE2.out] at HA HR HB ⊢
  clear HE HE2
  generalize sixN x = sx at *
  generalize hiN x = hx at *
  generalize loN x = lx at *
  go_enter Tryz.func82, Tryz.ntmps82
  go_upto_region 1 with fail
  generalize ((w.alloc (.cells #[.bool sx, .int .u64 (hx : Int), .int .u64 (lx : Int)] 32 (0, 0))).alloc (.cells #[.bool false, .int .u64 0, .int .u64 0] 32 (0, 0))) = w2 at *
  have p0 := HA.out.cell 0
  have p1 := HA.out.cell 1
  have p2 := HA.out.cell 2
  simp at p0 p1 p2
  have r0 := HR.out.cell 0
  have r1 := HR.out.cell 1
  have r2 := HR.out.cell 2
  simp at r0 r1 r2
  have pf := HA.out.free
  have rf := HR.out.free
  go_wp2_with fail
  refine bodyPost_ret (v := .agg #[.bool sx, .int .u64 (D : Int), .int .u64 (L : Int)]) (by simp [results, Tryz.results82, go_sem, r0, r1, r2]) rfl ⟨rfl, ?_⟩
  repeat refine Below.setCell ?_ (by first | (simp; omega) | simp) _
  exact HB.out
set_option maxRecDepth 100000 in
set_option maxHeartbeats 1000000 in
theorem laterN {x y : Nat} (w : World) (hx : VN x) (hy : VN y) : Calls Tryz.prog 80 #[.agg (aN x), .agg (aN y)] w (Ret (.agg (aN (max x y))) w) := by
  have HC := Lib.hid fun wx => spanCompareN wx hx hy
  have HV0 : Hid (cN x y > 0 → aN (max x y) = aN x) := Lib.hid fun h => by
    rw [cN_gt_iff] at h
    rw [show max x y = x by omega]
  have HV1 : Hid (¬ cN x y > 0 → aN (max x y) = aN y) := Lib.hid fun h => by
    rw [cN_gt_iff] at h
    rw [show max x y = y by omega]
  generalize aN (max x y) = V at *
  generalize cN x y = C at *
  have HP : Hid (Blk (((w.alloc (.cells (aN x) 32 (0, 0))).alloc (.cells (aN y) 32 (0, 0))).alloc (.cells #[.bool false, .int .u64 0, .int .u64 0] 32 (0, 0))) w.heap.size 32 (aN x)) := Lib.hid (((Blk.new w 32 (aN x)).alloc _).alloc _)
  have HQ : Hid (Blk (((w.alloc (.cells (aN x) 32 (0, 0))).alloc (.cells (aN y) 32 (0, 0))).alloc (.cells #[.bool false, .int .u64 0, .int .u64 0] 32 (0, 0))) (w.heap.size + 1) 32 (aN y)) := Lib.hid (by
    have this := (Blk.new (w.alloc (.cells (aN x) 32 (0, 0))) 32 (aN y)).alloc (.cells #[.bool false, .int .u64 0, .int .u64 0] 32 (0, 0))
    rw [World.size_alloc] at this
    exact this)
  have HR : Hid (Blk (((w.alloc (.cells (aN x) 32 (0, 0))).alloc (.cells (aN y) 32 (0, 0))).alloc (.cells #[.bool false, .int .u64 0, .int .u64 0] 32 (0, 0))) (w.heap.size + 1 + 1) 32 #[.bool false, .int .u64 0, .int .u64 0]) := Lib.hid (by
    have this := Blk.new ((w.alloc (.cells (aN x) 32 (0, 0))).alloc (.cells (aN y) 32 (0, 0))) 32 #[.bool false, .int .u64 0, .int .u64 0]
    rw [World.size_alloc, World.size_alloc] at this
    exact this)
  have HB : Hid (Below w.heap.size w (((w.alloc (.cells (aN x) 32 (0, 0))).alloc (.cells (aN y) 32 (0, 0))).alloc (.cells #[.bool false, .int .u64 0, .int .u64 0] 32 (0, 0)))) := Lib.hid (below_alloc (below_alloc (below_alloc (Below.refl _ _) _) _) _)
  clear hx hy
  unfold aN at HC HV0 HV1 HP HQ HR HB ⊢
  generalize sixN x = x1 at *
  generalize hiN x = x2 at *
  generalize loN x = x3 at *
  generalize sixN y = y1 at *
  generalize hiN y = y2 at *
  generalize loN y = y3 at *
  go_enter Tryz.func80, Tryz.ntmps80
  go_upto_region 1 with fail
  generalize (((w.alloc (.cells #[.bool x1, .int .u64 (x2 : Int), .int .u64 (x3 : Int)] 32 (0, 0))).alloc (.cells #[.bool y1, .int .u64 (y2 : Int), .int .u64 (y3 : Int)] 32 (0, 0))).alloc (.cells #[.bool false, .int .u64 0, .int .u64 0] 32 (0, 0))) = w2 at *
  have p0 := HP.out.cell 0
  have p1 := HP.out.cell 1
  have p2 := HP.out.cell 2
  simp at p0 p1 p2
  have q0 := HQ.out.cell 0
  have q1 := HQ.out.cell 1
  have q2 := HQ.out.cell 2
  simp at q0 q1 q2
  go_wp2_with fail
  refine (HC.out _).mono ?_
  rintro e w3 ⟨rfl, hb⟩
  have HP3 := Lib.hid (HP.out.below hb.b HP.out.lt)
  have HQ3 := Lib.hid (HQ.out.below hb.b HQ.out.lt)
  have HR3 := Lib.hid (HR.out.below hb.b HR.out.lt)
  have HB3 := Lib.hid (HB.out.trans (hb.b.mono HB.out.size))
  clear hb HC HP HQ HR HB p0 p1 p2 q0 q1 q2
  have p0 := HP3.out.cell 0
  have p1 := HP3.out.cell 1
  have p2 := HP3.out.cell 2
  simp at p0 p1 p2
  have q0 := HQ3.out.cell 0
  have q1 := HQ3.out.cell 1
  have q2 := HQ3.out.cell 2
  simp at q0 q1 q2
  have r0 := HR3.out.cell 0
  have r1 := HR3.out.cell 1
  have r2 := HR3.out.cell 2
  simp at r0 r1 r2
  have rf := HR3.out.free
  by_cases hc : C > 0
  · have HE := Lib.hid (HV0.out hc)
    clear HV0 HV1
    go_wp2_with fail
    refine bodyPost_ret (v := .agg #[.bool x1, .int .u64 (x2 : Int), .int .u64 (x3 : Int)]) (by simp [results, Tryz.results80, go_sem, r0, r1, r2]) rfl ⟨by rw [HE.out], ?_⟩
    repeat refine Below.setCell ?_ (by first | (simp; omega) | simp) _
    exact HB3.out
  · have HE := Lib.hid (HV1.out (by omega))
    clear HV0 HV1
    go_wp2_with fail
    refine bodyPost_ret (v := .agg #[.bool y1, .int .u64 (y2 : Int), .int .u64 (y3 : Int)]) (by simp [results, Tryz.results80, go_sem, r0, r1, r2]) rfl ⟨by rw [HE.out], ?_⟩
    repeat refine Below.setCell ?_ (by first | (simp; omega) | simp) _
    exact HB3.out
set_option maxRecDepth 100000 in
set_option maxHeartbeats 1000000 in
theorem earlierN {x y : Nat} (w : World) (hx : VN x) (hy : VN y) : Calls Tryz.prog 81 #[.agg (aN x), .agg (aN y)] w (Ret (.agg (aN (min x y))) w) := by
  have HC := Lib.hid fun wx => spanCompareN wx hx hy
  have HV0 : Hid (cN x y < 0 → aN (min x y) = aN x) := Lib.hid fun h => by
    rw [cN_lt_iff] at h
    rw [show min x y = x by omega]
  have HV1 : Hid (¬ cN x y < 0 → aN (min x y) = aN y) := Lib.hid fun h => by
    rw [cN_lt_iff] at h
    rw [show min x y = y by omega]
  generalize aN (min x y) = V at *
  generalize cN x y = C at *
  have HP : Hid (Blk (((w.alloc (.cells (aN x) 32 (0, 0))).alloc (.cells (aN y) 32 (0, 0))).alloc (.cells #[.bool false, .int .u64 0, .int .u64 0] 32 (0, 0))) w.heap.size 32 (aN x)) := Lib.hid (((Blk.new w 32 (aN x)).alloc _).alloc _)
  have HQ : Hid (Blk (((w.alloc (.cells (aN x) 32 (0, 0))).alloc (.cells (aN y) 32 (0, 0))).alloc (.cells #[.bool false, .int .u64 0, .int .u64 0] 32 (0, 0))) (w.heap.size + 1) 32 (aN y)) := Lib.hid (by
    have this := (Blk.new (w.alloc (.cells (aN x) 32 (0, 0))) 32 (aN y)).alloc (.cells #[.bool false, .int .u64 0, .int .u64 0] 32 (0, 0))
    rw [World.size_alloc] at this
    exact this)
  have HR : Hid (Blk (((w.alloc (.cells (aN x) 32 (0, 0))).alloc (.cells (aN y) 32 (0, 0))).alloc (.cells #[.bool false, .int .u64 0, .int .u64 0] 32 (0, 0))) (w.heap.size + 1 + 1) 32 #[.bool false, .int .u64 0, .int .u64 0]) := Lib.hid (by
    have this := Blk.new ((w.alloc (.cells (aN x) 32 (0, 0))).alloc (.cells (aN y) 32 (0, 0))) 32 #[.bool false, .int .u64 0, .int .u64 0]
    rw [World.size_alloc, World.size_alloc] at this
    exact this)
  have HB : Hid (Below w.heap.size w (((w.alloc (.cells (aN x) 32 (0, 0))).alloc (.cells (aN y) 32 (0, 0))).alloc (.cells #[.bool false, .int .u64 0, .int .u64 0] 32 (0, 0)))) := Lib.hid (below_alloc (below_alloc (below_alloc (Below.refl _ _) _) _) _)
  clear hx hy
  unfold aN at HC HV0 HV1 HP HQ HR HB ⊢
  generalize sixN x = x1 at *
  generalize hiN x = x2 at *
  generalize loN x = x3 at *
  generalize sixN y = y1 at *
  generalize hiN y = y2 at *
  generalize loN y = y3 at *
  go_enter Tryz.func81, Tryz.ntmps81
  go_upto_region 1 with fail
  generalize (((w.alloc (.cells #[.bool x1, .int .u64 (x2 : Int), .int .u64 (x3 : Int)] 32 (0, 0))).alloc (.cells #[.bool y1, .int .u64 (y2 : Int), .int .u64 (y3 : Int)] 32 (0, 0))).alloc (.cells #[.bool false, .int .u64 0, .int .u64 0] 32 (0, 0))) = w2 at *
  have p0 := HP.out.cell 0
  have p1 := HP.out.cell 1
  have p2 := HP.out.cell 2
  simp at p0 p1 p2
  have q0 := HQ.out.cell 0
  have q1 := HQ.out.cell 1
  have q2 := HQ.out.cell 2
  simp at q0 q1 q2
  go_wp2_with fail
  refine (HC.out _).mono ?_
  rintro e w3 ⟨rfl, hb⟩
  have HP3 := Lib.hid (HP.out.below hb.b HP.out.lt)
  have HQ3 := Lib.hid (HQ.out.below hb.b HQ.out.lt)
  have HR3 := Lib.hid (HR.out.below hb.b HR.out.lt)
  have HB3 := Lib.hid (HB.out.trans (hb.b.mono HB.out.size))
  clear hb HC HP HQ HR HB p0 p1 p2 q0 q1 q2
  have p0 := HP3.out.cell 0
  have p1 := HP3.out.cell 1
  have p2 := HP3.out.cell 2
  simp at p0 p1 p2
  have q0 := HQ3.out.cell 0
  have q1 := HQ3.out.cell 1
  have q2 := HQ3.out.cell 2
  simp at q0 q1 q2
  have r0 := HR3.out.cell 0
  have r1 := HR3.out.cell 1
  have r2 := HR3.out.cell 2
  simp at r0 r1 r2
  have rf := HR3.out.free
  by_cases hc : C < 0
  · have HE := Lib.hid (HV0.out hc)
    clear HV0 HV1
    go_wp2_with fail
    refine bodyPost_ret (v := .agg #[.bool x1, .int .u64 (x2 : Int), .int .u64 (x3 : Int)]) (by simp [results, Tryz.results81, go_sem, r0, r1, r2]) rfl ⟨by rw [HE.out], ?_⟩
    repeat refine Below.setCell ?_ (by first | (simp; omega) | simp) _
    exact HB3.out
  · have HE := Lib.hid (HV1.out (by omega))
    clear HV0 HV1
    go_wp2_with fail
    refine bodyPost_ret (v := .agg #[.bool y1, .int .u64 (y2 : Int), .int .u64 (y3 : Int)]) (by simp [results, Tryz.results81, go_sem, r0, r1, r2]) rfl ⟨by rw [HE.out], ?_⟩
    repeat refine Below.setCell ?_ (by first | (simp; omega) | simp) _
    exact HB3.out
end Go.Proofs.YtjkicehhfapohaaGreatDoor

namespace Go.Proofs.YtjkicehhfapohaaGreatDoor
open Go.RowKit Go
set_option linter.unusedVariables false

/-- what is borrowed from a digit -/
def borN (x k : Nat) : Nat := if x % 65536 ^ k = 0 then 1 else 0
theorem borN_zero (x : Nat) : borN x 0 = 1 := by simp [borN, Nat.mod_one]
theorem borN_le (x k : Nat) : borN x k ≤ 1 := by unfold borN; split <;> omega
theorem borN_dig (x k : Nat) (h : 0 < x) : digN (x - 1) k = (digN x k + 65536 - borN x k) % 65536 := by
  have hp : 0 < 65536 ^ k := Nat.pow_pos (by decide)
  unfold digN borN
  obtain ⟨P, hP⟩ : ∃ P, 65536 ^ k = P := ⟨_, rfl⟩
  rw [hP] at hp ⊢
  have hm := Nat.mod_add_div x P
  have hl := Nat.mod_lt x hp
  obtain ⟨q, hq⟩ : ∃ q, x / P = q := ⟨_, rfl⟩
  obtain ⟨r, hr⟩ : ∃ r, x % P = r := ⟨_, rfl⟩
  rw [hq, hr] at hm
  rw [hr] at hl
  rw [hq, hr]
  by_cases h0 : r = 0
  · subst h0
    rw [if_pos rfl]
    have hq1 : 1 ≤ q := by
      rcases Nat.eq_zero_or_pos q with h1 | h1
      · subst h1; omega
      · exact h1
    obtain ⟨q', rfl⟩ : ∃ q', q = q' + 1 := ⟨q - 1, by omega⟩
    have e : x - 1 = (P - 1) + P * q' := by rw [Nat.mul_add] at hm; omega
    rw [e, Nat.add_mul_div_left _ _ hp, Nat.div_eq_of_lt (by omega)]
    omega
  · rw [if_neg h0]
    have e : x - 1 = (r - 1) + P * q := by omega
    rw [e, Nat.add_mul_div_left _ _ hp, Nat.div_eq_of_lt (by omega)]
    omega
theorem borN_succ (x k : Nat) : borN x (k + 1) = if digN x k < borN x k then 1 else 0 := by
  have hp : 0 < 65536 ^ k := Nat.pow_pos (by decide)
  unfold digN borN
  rw [Nat.mod_pow_succ]
  obtain ⟨P, hP⟩ : ∃ P, 65536 ^ k = P := ⟨_, rfl⟩
  rw [hP] at hp ⊢
  obtain ⟨r, hr⟩ : ∃ r, x % P = r := ⟨_, rfl⟩
  obtain ⟨d, hd⟩ : ∃ d, x / P % 65536 = d := ⟨_, rfl⟩
  rw [hr, hd]
  by_cases h0 : r = 0
  · subst h0
    rw [if_pos rfl]
    by_cases h1 : d = 0
    · subst h1; simp
    · have : 0 < P * d := Nat.mul_pos hp (by omega)
      rw [if_neg (by omega), if_neg (by omega)]
  · rw [if_neg h0, if_neg (by omega), if_neg (by omega)]
def mixM (x k : Nat) (j : Nat) : Nat := if j < k then digN (x - 1) j else digN x j
theorem mixM_step (x k : Nat) (h : k < 9) (hx : 0 < x) : (wd (mixM x k)).setIfInBounds k (.int .i64 (((digN x k + 65536 - borN x k) % 65536 : Nat) : Int)) = wd (mixM x (k + 1)) := by
  rw [wd_set _ _ h]
  refine wd_congr fun d _ => ?_
  unfold mixM
  by_cases h1 : d = k
  · subst h1; rw [if_pos rfl, if_pos (by omega), borN_dig _ _ hx]
  · rw [if_neg h1]
    by_cases h2 : d < k
    · rw [if_pos h2, if_pos (by omega)]
    · rw [if_neg h2, if_neg (by omega)]
set_option maxRecDepth 100000 in
set_option maxHeartbeats 2000000 in
theorem minusN (x : Nat) (w : World) (hx0 : 0 < x) : Calls Tryz.prog 75 #[.agg (wN x), .int .i64 (-1)] w (Ret (.agg (wN (x - 1))) w) := by
  have HZ : Hid (mixM x 9 = mixM x 9 ∧ wd (mixM x 9) = wN (x - 1)) := Lib.hid ⟨rfl, wd_congr fun d hd => by unfold mixM; rw [if_pos hd]⟩
  have H0 : Hid (wN x = wd (mixM x 0)) := Lib.hid (wd_congr fun d _ => by unfold mixM; rw [if_neg (by omega)])
  rw [H0.out]
  have HP' : Blk ((w.alloc (.cells (wd (mixM x 0)) 66 (0, 0))).alloc (.cells #[.int .i64 0, .int .i64 0, .int .i64 0, .int .i64 0, .int .i64 0, .int .i64 0, .int .i64 0, .int .i64 0, .int .i64 0] 66 (0, 0))) (w.heap.size) 66 (wd (mixM x 0)) := (Blk.new w _ _).alloc _
  have HR' : Blk ((w.alloc (.cells (wd (mixM x 0)) 66 (0, 0))).alloc (.cells #[.int .i64 0, .int .i64 0, .int .i64 0, .int .i64 0, .int .i64 0, .int .i64 0, .int .i64 0, .int .i64 0, .int .i64 0] 66 (0, 0))) (w.heap.size + 1) 66 #[.int .i64 0, .int .i64 0, .int .i64 0, .int .i64 0, .int .i64 0, .int .i64 0, .int .i64 0, .int .i64 0, .int .i64 0] := by
    have this := Blk.new (w.alloc (.cells (wd (mixM x 0)) 66 (0, 0))) 66 #[.int .i64 0, .int .i64 0, .int .i64 0, .int .i64 0, .int .i64 0, .int .i64 0, .int .i64 0, .int .i64 0, .int .i64 0]
    rw [World.size_alloc] at this
    exact this
  have HP := Lib.hid HP'
  have HR := Lib.hid HR'
  have HB : Hid (Below w.heap.size w ((w.alloc (.cells (wd (mixM x 0)) 66 (0, 0))).alloc (.cells #[.int .i64 0, .int .i64 0, .int .i64 0, .int .i64 0, .int .i64 0, .int .i64 0, .int .i64 0, .int .i64 0, .int .i64 0] 66 (0, 0)))) := Lib.hid (below_alloc (below_alloc (Below.refl _ _) _) _)
  clear HP' HR'
  have hsz := Tryz.sizeOf66
  have Hc0 := Lib.hid (borN_zero x)
  have Hx0 := Lib.hid hx0
  clear hx0
  go_enter Tryz.func75, Tryz.ntmps75
  go_upto_region 1 with fail
  generalize ((w.alloc (.cells (wd (mixM x 0)) 66 (0, 0))).alloc (.cells #[.int .i64 0, .int .i64 0, .int .i64 0, .int .i64 0, .int .i64 0, .int .i64 0, .int .i64 0, .int .i64 0, .int .i64 0] 66 (0, 0))) = w1 at *
  go_wp2_with fail
  go_loopw [1, 5, 6] (fun nv iv i wr => ∃ k : Nat, k ≤ 9 ∧ i = .int .i64 (k : Int) ∧ nv = .int .i64 (-((borN x k : Nat) : Int)) ∧ Hid (Blk wr w.heap.size 66 (wd (mixM x k))) ∧ Hid (Blk wr (w.heap.size + 1) 66 #[.int .i64 0, .int .i64 0, .int .i64 0, .int .i64 0, .int .i64 0, .int .i64 0, .int .i64 0, .int .i64 0, .int .i64 0]) ∧ Hid (Below w.heap.size w wr)) (fun _ _ i _ => 9 - (intOf i).toNat)
  case atStart => exact ⟨0, by omega, rfl, by rw [Hc0.out]; rfl, HP, HR, HB⟩
  case round =>
    clear HP HR HB
    obtain ⟨k, hk, rfl, rfl, HP, HR, HB⟩ := hrel
    by_cases hlt : k < 9
    · have hc := borN_le x k
      have hd := digN_lt x k
      have hcell : wr.cell? ⟨w.heap.size, k, none⟩ = some (.int .i64 ((digN x k : Nat) : Int)) := by
        rw [HP.out.cell k, wd_get _ _ hlt]
        unfold mixM
        rw [if_neg (Nat.lt_irrefl k)]
      have hfr := HP.out.free k
      obtain ⟨v, hv⟩ : ∃ v, (digN x k + 65536 - borN x k) % 65536 = v := ⟨_, rfl⟩
      have HP2 : Hid (Blk (wr.setCell ⟨w.heap.size, k, none⟩ (.int .i64 (v : Int))) w.heap.size 66 (wd (mixM x (k + 1)))) := Lib.hid (by
        rw [← mixM_step x k hlt Hx0.out, hv]
        exact HP.out.set k _)
      have HR2 : Hid (Blk (wr.setCell ⟨w.heap.size, k, none⟩ (.int .i64 (v : Int))) (w.heap.size + 1) 66 #[.int .i64 0, .int .i64 0, .int .i64 0, .int .i64 0, .int .i64 0, .int .i64 0, .int .i64 0, .int .i64 0, .int .i64 0]) := Lib.hid (HR.out.far (by omega) _ _)
      have HB2 : Hid (Below w.heap.size w (wr.setCell ⟨w.heap.size, k, none⟩ (.int .i64 (v : Int)))) := Lib.hid (below_set HB.out (Nat.le_refl _) _ _)
      have Hs := Lib.hid (borN_succ x k)
      clear HP HR HB
      generalize borN x k = c1 at *
      generalize digN x k = d1 at *
      have b1 : (0 : Int) ≤ (k : Int) := by omega
      have b2 : (k : Int) < 9 := by omega
      rcases Nat.lt_or_ge d1 c1 with hdc | hdc
      · obtain rfl : c1 = 1 := by omega
        obtain rfl : d1 = 0 := by omega
        obtain rfl : v = 65535 := by omega
        have ha : bits .and .i64 (-1) 65535 = 65535 := by decide
        clear hc hd hv
        simp only [Int.cast_ofNat_Int] at *
        go_wp2_with fail
        exact ⟨⟨k + 1, by omega, by go_num, by rw [Hs.out]; rfl, HP2, HR2, HB2⟩, by simp [intOf]; omega⟩
      · obtain ⟨s, hs⟩ : ∃ s, d1 - c1 = s := ⟨_, rfl⟩
        have hs2 : -(c1 : Int) + (d1 : Int) = (s : Int) := by omega
        obtain rfl : v = s := by omega
        have ha := i64_and65535 v
        have hm : v % 65536 = v := by omega
        rw [hm] at ha
        have hv1 : v < 65536 := by omega
        have hv2 : ((v : Int) / 65536) = 0 := by omega
        have Hz : Hid (borN x (k + 1) = 0) := Lib.hid (by rw [Hs.out, if_neg (by omega)])
        clear hc hd hv hs hm hdc Hs
        go_wp2_with fail
        exact ⟨⟨k + 1, by omega, by go_num, by rw [Hz.out]; first | rfl | simp, HP2, HR2, HB2⟩, by simp [intOf]; omega⟩
    · obtain rfl : k = 9 := by omega
      rw [← HZ.out.2]
      go_wp2_with (first | refine wpList_load_row rfl 66 (.tmp 2) rfl w.heap.size rfl 66 (wd (mixM x 9)) (0, 0) _ HP.out Tryz.underlying66 rfl (by kernel_rfl) ?_ | refine wpList_store_row rfl 66 (.tmp 4) (.tmp 21) rfl (w.heap.size + 1) (wd (mixM x 9)) rfl rfl 66 #[.int .i64 0, .int .i64 0, .int .i64 0, .int .i64 0, .int .i64 0, .int .i64 0, .int .i64 0, .int .i64 0, .int .i64 0] HR.out (by kernel_rfl) rfl (wd_one _) ?_)
      refine bodyPost_ret (v := .agg (wd (mixM x 9))) (results_cell_row Tryz.results75 _ _ (w.heap.size + 1) 66 (wd (mixM x 9)) (0, 0) _ rfl (HR.out.row _) Tryz.underlying66 rfl (by kernel_rfl)) rfl ⟨by rw [HZ.out.2], belowRow HB.out (by omega) _⟩
end Go.Proofs.YtjkicehhfapohaaGreatDoor

namespace Go.Proofs.YtjkicehhfapohaaGreatDoor
open Go.RowKit Go
set_option linter.unusedVariables false

theorem exec_loadn {P : Program} {ρ : Operand → Value} {o : Oper} {w : World} (ty : TypeId) (x : Operand) (ho : o.op = .load ty x) (b off : Nat) (hx : ρ x = .pointer (some ⟨b, off, none⟩)) (X : Array Value) (hc : w.rangeAt b off X.toList) (d : TypeDesc) (hu : P.underlying ty = some d) (hd : d.isRow = true) (m : Nat) (hi : (P.info? ty).map (·.size) = some m) (hm : X.size = m) : (execOp ρ o).run P w = .ok (.value (.agg X)) w := by
  subst hm
  have := run_loadAt_mid w b off ty X.toList d hc hu hd (by simpa using hi)
  unfold execOp
  simp only [ho, hx, Sem.run_bind, this, Result.andThen_ok, Sem.run_pure]
/-- what the region of 'append(out, Range{..})' has yielded -/
def roR (bx : Nat) (out : Value) (pa P1 pb P2 v6 : Array Value) : Nat → Value → World → Prop
  | 0, v, _ => v = out
  | 1, v, _ => v = .pointer (some ⟨bx, 0, none⟩)
  | 2, v, _ => v = .agg P1
  | 3, v, _ => v = .agg pa
  | 4, v, _ => v = .pointer (some ⟨bx, 9, none⟩)
  | 5, v, _ => v = .agg P2
  | 6, v, _ => v = .agg pb
  | 7, v, _ => v = .agg v6
  | _, v, w => ∃ B, v = .slice (some ⟨B, 0, none⟩) 1 1 ∧ Blk w B 35 v6
theorem roR_keep {bx : Nat} {out : Value} {pa P1 pb P2 v6 : Array Value} (p : Nat) (v : Value) (u w : World) (h : roR bx out pa P1 pb P2 v6 p v u) (hb : Below u.heap.size u w) : roR bx out pa P1 pb P2 v6 p v w := by
  rcases p with _ | _ | _ | _ | _ | _ | _ | _ | p
  all_goals first | exact h | (obtain ⟨B, h1, h2⟩ := h; exact ⟨B, h1, h2.below hb h2.lt⟩)
set_option maxRecDepth 100000 in
set_option maxHeartbeats 2000000 in
theorem rangesOf_any (ad : Option Addr) (n c : Nat) (L : List Pf) (w : World) (h : RdK layPf w ad L) (hn : L.length = n) (hs : n ≤ 100000) (hv : ∀ p ∈ L, OkPf p) :
    Calls Tryz.prog 25 #[.slice ad n c] w fun e w' => ∃ v, e = .returned v ∧ OwnK layRg w' w.heap.size v (jn (L.map spP)) ∧ Below w.heap.size w w' := by
  have HS := Lib.hid (spansOf_any ad n c L w h hn hs hv)
  have HJv := Lib.hid (sps_vr hv)
  have HJl : Hid ((jn (L.map spP)).length ≤ 100000) := Lib.hid (by have := jn_len (L.map spP); rw [List.length_map, hn] at this; omega)
  clear h hn hv hs
  generalize jn (L.map spP) = S at *
  go_enter Tryz.func25, Tryz.ntmps25
  go_wp2_with fail
  refine HS.out.mono ?_
  rintro e w3 ⟨v, rfl, hO, hB⟩
  obtain ⟨ad3, c3, rfl, _⟩ := hO.form
  have H0 : Hid (RdK layQs w3 ad3 S) := Lib.hid hO.rd
  have HB3 := Lib.hid hB
  have Hn : Hid (S.length = S.length) := Lib.hid rfl
  obtain ⟨m, hm⟩ : ∃ m, S.length = m := ⟨_, rfl⟩
  have Hm := Lib.hid hm
  have hs : m ≤ 100000 := by rw [← hm]; exact HJl.out
  rw [hm]
  clear hO hB HS HJl hm Hn
  go_wp2_with fail
  go_loopw [3, 5, 9] (fun out bx i wr => ∃ k : Nat, k ≤ m ∧ i = .int .i64 (k : Int) ∧ Hid (OwnK layRg wr w3.heap.size out (S.take k)) ∧ Hid (Below w3.heap.size w3 wr)) (fun _ _ i _ => m - (intOf i).toNat)
  case atStart => exact ⟨0, Nat.zero_le _, rfl, Lib.hid (OwnK.nil _ _ _), Lib.hid (Below.refl _ _)⟩
  case round =>
    obtain ⟨k, hk, rfl, HO, HB⟩ := hrel
    by_cases hlt : k < m
    · have hS : k < S.length := by rw [Hm.out]; exact hlt
      obtain ⟨p, hp⟩ : ∃ p, S[k]? = some p := ⟨_, List.getElem?_eq_getElem hS⟩
      obtain ⟨g, o, had, hg, hcs⟩ := (H0.out.below HB.out).qs hp
      subst had
      have hvp := HJv.out p (List.mem_of_getElem? hp)
      obtain ⟨a1, a2, a3, a4, a5, a6, hpc, hp1, hp2, h1s, h2s⟩ := rg_cells p
      have HF1 := Lib.hid fun wx => wideAddrN wx hvp.a
      have HF2 := Lib.hid fun wx => wideAddrN wx hvp.b
      rw [hp1] at HF1
      rw [hp2] at HF2
      have HT1 : Hid (S.take (k + 1) = S.take k ++ [p]) := Lib.hid (by
        have : S[k] = p := by rw [List.getElem?_eq_getElem hS] at hp; injection hp
        rw [List.take_succ_eq_append_getElem hS, this])
      have HE : Hid (layRg.enc p = [.bool a1, .int .u64 (a2 : Int), .int .u64 (a3 : Int), .bool a4, .int .u64 (a5 : Int), .int .u64 (a6 : Int)]) := Lib.hid hpc
      have hXs := qs_split p
      obtain ⟨X, hX⟩ : ∃ X, layQs.enc p = X := ⟨_, rfl⟩
      have HX1 : Hid (X.toArray.size = 18) := Lib.hid (by rw [List.size_toArray, ← hX]; rfl)
      have HX2 : Hid (X.toArray.all (·.oneCell') = true) := Lib.hid (all_oneCell_toArray (by rw [← hX]; exact layQs.one p))
      have HS1 := Lib.hid (wN_size p.1)
      have HS2 := Lib.hid (wN_size p.2)
      rw [hX] at hcs hXs
      have HXs := Lib.hid hXs
      have HRA : Hid (wr.rangeAt g (o + k * 18) X) := Lib.hid hcs
      clear hp hS hcs hX hXs hvp hpc hp1 hp2 h1s h2s
      generalize wN p.1 = P1 at *
      generalize wN p.2 = P2 at *
      have hlen : (S.take k).length = k := by rw [List.length_take, Hm.out]; omega
      have HLn := Lib.hid hlen
      clear hlen
      have HB1 : Hid (Below w3.heap.size w3 (wr.alloc (.cells X.toArray 82 (0, 0)))) := Lib.hid (Below.alloc HB.out HB.out.size _)
      have HP1 : Hid (Blk (wr.alloc (.cells X.toArray 82 (0, 0))) wr.heap.size 82 X.toArray) := Lib.hid (Blk.new wr _ _)
      have HO1 : Hid (OwnK layRg (wr.alloc (.cells X.toArray 82 (0, 0))) w3.heap.size u3 (S.take k)) := Lib.hid (HO.out.alloc _)
      go_upto_region 5 with (first | (refine wpList_loadn rfl 82 _ rfl g (o + k * 18) rfl _ _ HRA.out Tryz.underlying82 rfl 18 size_qs (by simpa using HX1.out) ?_; go_simp) | (refine wpList_var X.toArray 82 Tryz.zeroValue82 rfl rfl rfl _ _ rfl _ rfl ?_ ?_ 18 size_qs HX1.out ?_ HX2.out ?_; all_goals (try rfl); try go_simp))
      generalize wr.alloc (.cells X.toArray 82 (0, 0)) = w4 at *
      generalize wr.heap.size = bx at *
      clear HB HO HRA hg
      have HR1 : Hid (∀ wx, Below w4.heap.size w4 wx → wx.rangeAt bx 0 P1.toList) := Lib.hid fun wx hb => by
        have := HP1.out.range
        rw [HXs.out] at this
        exact range_below (range_left this) hb HP1.out.lt
      have HR2 : Hid (∀ wx, Below w4.heap.size w4 wx → wx.rangeAt bx 9 P2.toList) := Lib.hid fun wx hb => by
        have := HP1.out.range
        rw [HXs.out] at this
        have := range_right this
        rw [Array.length_toList, HS1.out] at this
        exact range_below this hb HP1.out.lt
      generalize hLL : S.take k = LL at *
      clear hLL
      refine wp_region_inv 9 0 (roR bx u3 #[.bool a1, .int .u64 (a2 : Int), .int .u64 (a3 : Int)] P1 #[.bool a4, .int .u64 (a5 : Int), .int .u64 (a6 : Int)] P2 #[.bool a1, .int .u64 (a2 : Int), .int .u64 (a3 : Int), .bool a4, .int .u64 (a5 : Int), .int .u64 (a6 : Int)]) (fun _ w' => Below w4.heap.size w4 w') (fun u v => Below u.heap.size u v) (fun _ => 0)
        (by kernel_rfl) (by kernel_rfl) (by decide) roR_keep (below_drew (Below.refl _ _)) ?hX
      case' hX => (apply Exists.intro; refine ⟨fun T => ?hA, ?hob, ?hend⟩)
      case hA =>
        simp only [setAll, List.take_succ_cons, List.take_zero, Act.put, List.setIfInBounds_toArray, List.set_cons_succ, List.set_cons_zero, Nat.reduceAdd]
        exact rfl
      case hob =>
        clear HO1 HB1 HP1 HT1 HE HLn HX1 HX2
        go_light
        refine ⟨?_, ?_, ?_, ?_, ?_, ?_, ?_, ?_, ?_, trivial⟩
        all_goals (intro T wx n0 hC hn hp; dsimp only at hn ⊢; unfold Op1)
        · go_simp
          exact ⟨rfl, Below.refl _ _⟩
        · go_simp
          exact ⟨rfl, Below.refl _ _⟩
        · obtain ⟨h0, -⟩ := hp
          have h0 : T 1 = .pointer (some ⟨bx, 0, none⟩) := h0
          rw [exec_loadn 66 _ rfl bx 0 h0 P1 (HR1.out wx hC) _ Tryz.underlying66 rfl 9 size_wide HS1.out]
          exact ⟨rfl, hC, Below.refl _ _⟩
        · obtain ⟨h0, -⟩ := hp
          have h0 : T 2 = .agg P1 := h0
          go_simp
          refine (HF1.out wx).mono ?_
          rintro e w5 ⟨rfl, hb⟩
          exact ⟨_, rfl, rfl, hC.trans (hb.mono hC.size), hb⟩
        · go_simp
          exact ⟨rfl, Below.refl _ _⟩
        · obtain ⟨h0, -⟩ := hp
          have h0 : T 4 = .pointer (some ⟨bx, 9, none⟩) := h0
          rw [exec_loadn 66 _ rfl bx 9 h0 P2 (HR2.out wx hC) _ Tryz.underlying66 rfl 9 size_wide HS2.out]
          exact ⟨rfl, hC, Below.refl _ _⟩
        · obtain ⟨h0, -⟩ := hp
          have h0 : T 5 = .agg P2 := h0
          go_simp
          refine (HF2.out wx).mono ?_
          rintro e w5 ⟨rfl, hb⟩
          exact ⟨_, rfl, rfl, hC.trans (hb.mono hC.size), hb⟩
        · obtain ⟨h0, h1, -⟩ := hp
          have h0 : T 3 = .agg #[.bool a1, .int .u64 (a2 : Int), .int .u64 (a3 : Int)] := h0
          have h1 : T 6 = .agg #[.bool a4, .int .u64 (a5 : Int), .int .u64 (a6 : Int)] := h1
          go_simp
          exact ⟨rfl, Below.refl _ _⟩
        · obtain ⟨h0, -⟩ := hp
          have h0 : T 7 = .agg #[.bool a1, .int .u64 (a2 : Int), .int .u64 (a3 : Int), .bool a4, .int .u64 (a5 : Int), .int .u64 (a6 : Int)] := h0
          go_simp
          exact ⟨⟨wx.heap.size, rfl, Blk.new wx _ _⟩, below_alloc hC _, below_alloc (Below.refl _ _) _⟩
      case hend =>
        intro T w5 ⟨n0, hn0, hb⟩ hR
        have hT0 : T 0 = u3 := hR 0 (by omega)
        obtain ⟨B, hT8, hBl⟩ := hR 8 (by omega)
        have HO4 := Lib.hid (HO1.out.later hb)
        have HB4 := Lib.hid (HB1.out.trans (hb.mono HB1.out.size))
        have HBl := Lib.hid hBl
        clear hR hb hBl HO1 HB1 HP1 HR1 HR2
        simp only [List.drop_succ_cons, List.drop_zero]
        refine wpList_app (c := 1) rgE2 rfl (.tmp 13) (.tmp 21) rfl ?hs HO4.out ?hx (src_blk layRg p HBl.out ?c0) ?c1 ?c2 ?c3 ?c4 ?_
        case hs => exact hT0
        case hx => exact hT8
        case c0 => exact (congrArg List.toArray HE.out).symm
        case c1 => exact layRg.one p
        case c2 => unfold maxLen; rw [HLn.out]; omega
        case c3 => rw [HLn.out]; omega
        case c4 => exact HB4.out.size
        intro v' w' hO hG
        have HO' : Hid (OwnK layRg w' w3.heap.size v' (S.take (k + 1))) := Lib.hid (by rw [HT1.out]; exact OwnK.snoc hO)
        have HB' : Hid (Below w3.heap.size w3 w') := Lib.hid (HB4.out.trans (hG.below HB4.out.size (own_base HO4.out)))
        clear hO hG
        go_wp2
        exact ⟨⟨k + 1, by omega, by go_num, HO', HB'⟩, by simp [intOf]; omega⟩
    · obtain rfl : k = m := by omega
      have hT : S.take k = S := List.take_of_length_le (by rw [Hm.out]; exact Nat.le_refl _)
      have HO2 : Hid (OwnK layRg wr w3.heap.size u3 S) := Lib.hid (by have := HO.out; rw [hT] at this; exact this)
      clear hT HO
      go_wp2_with fail
      go_ret
      exact ⟨_, rfl, HO2.out.weak HB3.out.size, HB3.out.trans (HB.out.mono HB3.out.size)⟩
end Go.Proofs.YtjkicehhfapohaaGreatDoor

namespace Go.Proofs.YtjkicehhfapohaaGreatDoor.Lm
open Go Go.Proofs.YtjkicehhfapohaaGreatDoor

section
variable {P : Program} {ops : Array Oper} {Q : Exit → Act → World → Prop} {N total : Nat} {a0 : Act}
variable {R : Nat → Value → Nat → World → Prop} {C : Nat → World → Prop} {S : Nat → World → Nat → World → Prop} {cost lim : Nat → Nat}

/-- i and what depends on it -/
def msk (ops : Array Oper) (i : Nat) : Array Bool := (Array.range ops.size).map fun j => j == i || bef ops j i
theorem msk_get (ops : Array Oper) (i j : Nat) (hj : j < ops.size) : (msk ops i).getD j false = (j == i || bef ops j i) := by
  simp [msk, Array.getD, hj]
def limB (ops : Array Oper) (N total : Nat) (cost lim : Nat → Nat) : Bool := (List.range N).all fun i => decide (total ≤ lim i + sumCost cost (msk ops i) ops.size)

theorem limB_spec {ops : Array Oper} {N total : Nat} {cost lim : Nat → Nat} (h : limB ops N total cost lim = true) : ∀ i, i < N → total ≤ lim i + sumCost cost (msk ops i) ops.size := by
  simpa [limB] using h
theorem sumCost_disj {cost : Nat → Nat} {listed mask : Array Bool} : ∀ k, (∀ j, j < k → listed.getD j false = true → mask.getD j false = false) → sumCost cost listed k + sumCost cost mask k ≤ sumCost cost (Array.replicate k true) k
  | 0, _ => by simp [sumCost]
  | k + 1, h => by
    have ih := sumCost_disj (cost := cost) (listed := listed) (mask := mask) k fun j hj => h j (by omega)
    have hk := h k (by omega)
    have hfull : ∀ m, m ≤ k → sumCost cost (Array.replicate (k + 1) true) m = sumCost cost (Array.replicate k true) m := by
      intro m
      induction m with
      | zero => intro _; rfl
      | succ m ihm =>
        intro hm
        simp only [sumCost, ihm (by omega)]
        simp [Array.getD, show m < k by omega, show m < k + 1 by omega]
    simp only [sumCost, hfull k (Nat.le_refl _)]
    have h1 : (Array.replicate (k + 1) true).getD k false = true := by simp [Array.getD]
    simp only [h1, if_true]
    cases hl : listed.getD k false
    · simp only [Bool.false_eq_true, if_false]
      cases hm : mask.getD k false <;> simp <;> omega
    · simp only [hk hl, if_true, Bool.false_eq_true, if_false]
      omega

/-- What is asked of operation i. -/
def Ob (P : Program) (ops : Array Oper) (a0 : Act) (R : Nat → Value → Nat → World → Prop) (C : Nat → World → Prop) (S : Nat → World → Nat → World → Prop) (cost lim : Nat → Nat) (N : Nat) (i : Nat) (o : Oper) : Prop :=
  ∀ (T : Nat → Value) (w : World) (n : Nat), C n w → n ≤ lim i → (∀ p, p < ops.size → bef ops i p = true → R p (T p) n w) →
    if Region.wanted o (yielded ops (setAll (ops.toList.take N) 0 T a0).tmps) then
      Op1 P o (setAll (ops.toList.take N) 0 T a0).eval w fun v w' => R i v (n + cost i) w' ∧ C (n + cost i) w' ∧ S n w (n + cost i) w'
    else R i undef (n + cost i) w ∧ C (n + cost i) w ∧ S n w (n + cost i) w

theorem region_any (hB : InvB ops N a0.tmps.size) (hS : ∀ p v n w n' w', R p v n w → S n w n' w' → R p v n' w')
    (htot : sumCost cost (Array.replicate ops.size true) ops.size ≤ total) (hlm : ∀ i, i < N → total ≤ lim i + sumCost cost (msk ops i) ops.size)
    (hob : ∀ (i : Nat) (o : Oper), ops[i]? = some o → i < N → Ob P ops a0 R C S cost lim N i o)
    (hend : ∀ T w, (∃ n, n ≤ total ∧ C n w ∧ ∀ p, p < N → R p (T p) n w) → wpList P ops Q (ops.toList.drop N) (setAll (ops.toList.take N) 0 T a0) w) :
    ∀ (fuel : Nat) (listed : Array Bool) (a : Act) (w : World), listed.size = ops.size → fuel + cnt listed ops.size = ops.size →
      (∀ j, j < ops.size → listed.getD j false = true → ∀ p, p < ops.size → bef ops j p = true → listed.getD p false = true) →
      ((∃ T, (∀ j, N ≤ j → listed.getD j false = false) ∧ Fits ops a0 listed T a ∧ C (sumCost cost listed ops.size) w ∧ ∀ j, j < ops.size → listed.getD j false = true → R j (T j) (sumCost cost listed ops.size) w) ∨
       (∃ k, N ≤ k ∧ k ≤ ops.size ∧ (∀ j, j < ops.size → (listed.getD j false = true ↔ j < k)) ∧ wpList P ops Q (ops.toList.drop k) a w)) →
      wpAny P .any ops Q fuel listed a w := by
  -- the whole head is there: the two frames are one
  have whole : ∀ (listed : Array Bool) (T : Nat → Value) (a : Act), (∀ j, N ≤ j → listed.getD j false = false) → (∀ j, j < N → listed.getD j false = true) → Fits ops a0 listed T a → a = setAll (ops.toList.take N) 0 T a0 := by
    intro listed T a ht hh hF
    have h1 : a.defers = (setAll (ops.toList.take N) 0 T a0).defers := by rw [setAll_defers, hF.defers]
    have h2 : a.tmps = (setAll (ops.toList.take N) 0 T a0).tmps := by
      refine Array.ext_getElem? fun t => ?_
      rcases Nat.lt_or_ge t a0.tmps.size with hts | hts
      · rw [setAll_get T t _ 0 a0 hts]
        cases hw : lastW t (ops.toList.take N) 0 with
        | some j =>
          obtain ⟨_, o', ho', hd⟩ := lastW_some _ _ hw
          simp only [Nat.sub_zero, List.getElem?_take] at ho'
          split at ho'
          · rename_i hjN
            exact hF.set j o' t (by simpa using ho') (hh j hjN) hd
          · cases ho'
        | none =>
          refine hF.rest t fun j o' hj hlj hd => ?_
          have hjN : j < N := by
            rcases Nat.lt_or_ge j N with h | h
            · exact h
            · rw [ht j h] at hlj; cases hlj
          exact lastW_none _ _ hw j o' (by rw [List.getElem?_take, if_pos hjN]; simpa using hj) hd
      · rw [Array.getElem?_eq_none (by rw [hF.size]; exact hts), Array.getElem?_eq_none (by rw [setAll_size]; exact hts)]
    cases a; cases hb : setAll (ops.toList.take N) 0 T a0; simp_all
  -- nothing ready: all is listed
  have allListed : ∀ (listed : Array Bool), listed.size = ops.size → Region.ready .any ops listed = [] → ∀ j, j < ops.size → listed.getD j false = true := by
    intro listed hsz hr j
    induction j using Nat.strongRecOn with
    | _ j ih =>
      intro hj
      cases hlj : listed.getD j false with
      | true => rfl
      | false =>
        exfalso
        obtain ⟨o, ho⟩ : ∃ o, ops[j]? = some o := ⟨ops[j], Array.getElem?_eq_getElem hj⟩
        have : j ∈ Region.ready .any ops listed := mem_ready.2 ⟨by simpa [Array.getD, hsz, hj] using hlj, o, ho, fun e he hb => ih e.on (hB.back j o e ho he hb) (by have := hB.back j o e ho he hb; omega)⟩
        rw [hr] at this; cases this
  -- the end
  have fin : ∀ (listed : Array Bool) (a : Act) (w : World), (∀ j, j < ops.size → listed.getD j false = true) →
      ((∃ T, (∀ j, N ≤ j → listed.getD j false = false) ∧ Fits ops a0 listed T a ∧ C (sumCost cost listed ops.size) w ∧ ∀ j, j < ops.size → listed.getD j false = true → R j (T j) (sumCost cost listed ops.size) w) ∨
       (∃ k, N ≤ k ∧ k ≤ ops.size ∧ (∀ j, j < ops.size → (listed.getD j false = true ↔ j < k)) ∧ wpList P ops Q (ops.toList.drop k) a w)) → Q .normal a w := by
    intro listed a w hall h
    rcases h with ⟨T, ht, hF, hC, hR⟩ | ⟨k, hk1, hk2, hk3, hk4⟩
    · have hN : N = ops.size := by
        rcases Nat.lt_or_ge N ops.size with h | h
        · have h1 := ht N (Nat.le_refl _)
          rw [hall N h] at h1; cases h1
        · have := hB.le; omega
      have ha := whole listed T a ht (fun j hj => hall j (by omega)) hF
      have := hend T w ⟨_, Nat.le_trans (sumCost_le _) htot, hC, fun p hp => hR p (by omega) (hall p (by omega))⟩
      rw [← ha, List.drop_eq_nil_of_le (by simp; omega)] at this
      exact this
    · have : k = ops.size := by
        rcases Nat.lt_or_ge k ops.size with h | h
        · have := (hk3 k h).1 (hall k h); omega
        · omega
      rw [List.drop_eq_nil_of_le (by simp; omega)] at hk4
      exact hk4
  intro fuel
  induction fuel with
  | zero =>
    intro listed a w hsz hf hd h
    have hall := cnt_full ops.size (by omega : cnt listed ops.size = ops.size)
    refine ⟨?_, fin listed a w hall h⟩
    refine List.eq_nil_iff_forall_not_mem.2 fun i hi => ?_
    obtain ⟨h1, o, ho, _⟩ := mem_ready.1 hi
    have := hall i (Array.getElem?_eq_some_iff.1 ho).1
    rw [(getD_false h1).2] at this; cases this
  | succ fuel ih =>
    intro listed a w hsz hf hd h
    refine ⟨fun hr => fin listed a w (allListed listed hsz hr) h, fun i hi => ?_⟩
    obtain ⟨h1, o, ho, hafter⟩ := mem_ready.1 hi
    have hilt : i < ops.size := (Array.getElem?_eq_some_iff.1 ho).1
    have hset : ∀ j, (listed.setIfInBounds i true).getD j false = true ↔ (j = i ∨ listed.getD j false = true) := fun j => by
      by_cases hj : i = j
      · subst hj; simp [Array.getD, hsz, hilt]
      · rw [getD_set_ne false hj]; simp [Ne.symm hj]
    have hbef : ∀ p, p < ops.size → bef ops i p = true → listed.getD p false = true := fun p hp hb => by
      obtain ⟨e, he, hbi, hor⟩ := hB.clos i p o ho hp hb
      have h2 := hafter e he hbi
      rcases hor with rfl | hor
      · exact h2
      · exact hd e.on (by have := hB.back i o e ho he hbi; omega) h2 p hp hor
    have hsz' : (listed.setIfInBounds i true).size = ops.size := by simpa using hsz
    have hf' : fuel + cnt (listed.setIfInBounds i true) ops.size = ops.size := by
      have := sumCost_set (cost := fun _ => 1) h1 ops.size
      simp only [cnt, hilt, if_true] at this hf ⊢
      omega
    have hd' : ∀ j, j < ops.size → (listed.setIfInBounds i true).getD j false = true → ∀ p, p < ops.size → bef ops j p = true → (listed.setIfInBounds i true).getD p false = true := by
      intro j hj hl p hp hb
      rcases (hset j).1 hl with rfl | hl'
      · exact (hset p).2 (.inr (hbef p hp hb))
      · exact (hset p).2 (.inr (hd j hj hl' p hp hb))
    rcases h with ⟨T, ht, hF, hC, hR⟩ | ⟨k, hk1, hk2, hk3, hk4⟩
    · rcases Nat.lt_or_ge i N with hiN | hiN
      · -- a step of the head
        have hpN : ∀ p, bef ops i p = true → p < ops.size → listed.getD p false = true ∧ p < N := fun p hb hp => by
          have := hbef p hp hb
          refine ⟨this, ?_⟩
          rcases Nat.lt_or_ge p N with h | h
          · exact h
          · rw [ht p h] at this; cases this
        have hag := hF.agree hB ht ho hpN
        have hsum := sumCost_set (cost := cost) h1 ops.size
        simp only [hilt, if_true] at hsum
        have hlim : sumCost cost listed ops.size ≤ lim i := by
          have h5 := sumCost_disj (cost := cost) (listed := listed) (mask := msk ops i) ops.size fun j hj hl => by
            rw [msk_get ops i j hj]
            cases hji : j == i
            · cases hbf : bef ops j i
              · rfl
              · have := hd j hj hl i hilt hbf
                rw [(getD_false h1).2] at this; cases this
            · obtain rfl : j = i := by simpa using hji
              rw [(getD_false h1).2] at hl; cases hl
          have h6 := hlm i hiN
          omega
        have hO := hob i o ho hiN T w _ hC hlim fun p hp hb => hR p hp (hbef p hp hb)
        have next : ∀ v w', R i v (sumCost cost listed ops.size + cost i) w' ∧ C (sumCost cost listed ops.size + cost i) w' ∧ S (sumCost cost listed ops.size) w (sumCost cost listed ops.size + cost i) w' → wpAny P .any ops Q fuel (listed.setIfInBounds i true) (a.put o.dst v) w' := fun v w' ⟨q1, q2, q3⟩ =>
          ih _ _ _ hsz' hf' hd' (.inl ⟨fun j => if j = i then v else T j, fun j hj => by
              rw [getD_set_ne false (by omega)]; exact ht j hj, hF.put hB ho h1 v, by rw [hsum]; exact q2, fun j hj hl => by
              by_cases hji : j = i
              · subst hji; rw [hsum]; simpa using q1
              · simp only [hji, if_false]
                rw [hsum]; exact hS j _ _ _ _ _ (hR j hj (((hset j).1 hl).resolve_left hji)) q3⟩)
        unfold wpOp
        simp only [ho]
        rw [wanted_of_get (a := a) (b := setAll (ops.toList.take N) 0 T a0) o hag]
        split
        · rename_i hw
          rw [if_pos hw] at hO
          refine .inl (Op1.wp (post := fun v w' => R i v (sumCost cost listed ops.size + cost i) w' ∧ C (sumCost cost listed ops.size + cost i) w' ∧ S (sumCost cost listed ops.size) w (sumCost cost listed ops.size + cost i) w') ?_ next)
          unfold Op1 at hO ⊢
          rw [execOp_congr o (Region.noSelect_spec hB.sel i o · · ho) (eval_of_get o hag)]
          exact hO
        · rename_i hw
          rw [if_neg hw] at hO
          exact next undef w hO
      · -- the tail begins
        have hall : ∀ j, j < i → listed.getD j false = true := fun j hj => hbef j (by omega) (hB.tail i j hiN hilt hj)
        have hiN' : i = N := by
          rcases Nat.lt_or_ge N i with h | h
          · have h2 := ht N (Nat.le_refl _)
            rw [hall N h] at h2; cases h2
          · omega
        subst hiN'
        have ha := whole listed T a ht hall hF
        have hw := hend T w ⟨_, Nat.le_trans (sumCost_le _) htot, hC, fun p hp => hR p (by omega) (hall p hp)⟩
        rw [← ha] at hw
        have hdr : ops.toList.drop i = o :: ops.toList.drop (i + 1) := by
          rw [List.drop_eq_getElem_cons (by simpa using hilt)]
          congr 1
          have := (Array.getElem?_eq_some_iff.1 ho).2
          simpa using this
        rw [hdr] at hw
        have hwop : wpOp P ops Q i (wpList P ops Q (ops.toList.drop (i + 1))) a w := by unfold wpOp; simp only [ho]; exact hw
        refine wpOp_mono (fun a' w' h' => ih _ _ _ hsz' hf' hd' (.inr ⟨i + 1, by omega, by omega, fun j hj => ?_, h'⟩)) hwop
        rw [hset j]
        constructor
        · rintro (rfl | hl)
          · omega
          · rcases Nat.lt_or_ge j i with h | h
            · omega
            · rw [ht j h] at hl; cases hl
        · intro hj'
          by_cases hji : j = i
          · exact .inl hji
          · exact .inr (hall j (by omega))
    · -- a step of the tail
      have hik : i = k := by
        have hnl := (getD_false h1).2
        have h2 : ¬ i < k := fun hlt => by rw [(hk3 i hilt).2 hlt] at hnl; cases hnl
        rcases Nat.lt_or_ge k i with h | h
        · have h3 := hbef k (by omega) (hB.tail i k (by omega) hilt h)
          have := (hk3 k (by omega)).1 h3; omega
        · omega
      subst hik
      have hdr : ops.toList.drop i = o :: ops.toList.drop (i + 1) := by
        rw [List.drop_eq_getElem_cons (by simpa using hilt)]
        congr 1
        have := (Array.getElem?_eq_some_iff.1 ho).2
        simpa using this
      rw [hdr] at hk4
      have hwop : wpOp P ops Q i (wpList P ops Q (ops.toList.drop (i + 1))) a w := by unfold wpOp; simp only [ho]; exact hk4
      refine wpOp_mono (fun a' w' h' => ih _ _ _ hsz' hf' hd' (.inr ⟨i + 1, by omega, by omega, fun j hj => ?_, h'⟩)) hwop
      rw [hset j, hk3 j hj]
      omega

/-- what the forerunners have left -/
def AfterAll (R : Nat → Value → Nat → World → Prop) (T : Nat → Value) (n : Nat) (w : World) : List Edge → Prop
  | [] => True
  | e :: l => match Region.binds .any e with
    | true => R e.on (T e.on) n w ∧ AfterAll R T n w l
    | false => AfterAll R T n w l

theorem afterAll_of {R : Nat → Value → Nat → World → Prop} {T : Nat → Value} {n : Nat} {w : World} : ∀ (l : List Edge), (∀ e ∈ l, Region.binds .any e = true → R e.on (T e.on) n w) → AfterAll R T n w l
  | [], _ => trivial
  | e :: l, h => by
    have ih := afterAll_of l fun e' he' => h e' (List.mem_cons_of_mem _ he')
    unfold AfterAll
    cases hb : Region.binds .any e with
    | true => exact ⟨h e (List.mem_cons_self ..) hb, ih⟩
    | false => exact ih

/-- what is asked of operation i, put plainly -/
def Ob' (P : Program) (A : (Nat → Value) → Act) (R : Nat → Value → Nat → World → Prop) (C : Nat → World → Prop) (S : Nat → World → Nat → World → Prop) (cost lim : Nat → Nat) (i : Nat) (o : Oper) : Prop :=
  ∀ (T : Nat → Value) (w : World) (n : Nat), C n w → n ≤ lim i → AfterAll R T n w o.after.toList →
    match o.guard with
    | none => Op1 P o (A T).eval w fun v w' => R i v (n + cost i) w' ∧ C (n + cost i) w' ∧ S n w (n + cost i) w'
    | some (g, want) => (T g = .bool want → Op1 P o (A T).eval w fun v w' => R i v (n + cost i) w' ∧ C (n + cost i) w' ∧ S n w (n + cost i) w') ∧
        (T g ≠ .bool want → R i undef (n + cost i) w ∧ C (n + cost i) w ∧ S n w (n + cost i) w)

/-- what is asked of each operation of the head -/
def ObAll (P : Program) (A : (Nat → Value) → Act) (R : Nat → Value → Nat → World → Prop) (C : Nat → World → Prop) (S : Nat → World → Nat → World → Prop) (cost lim : Nat → Nat) : List Oper → Nat → Prop
  | [], _ => True
  | o :: l, k => Ob' P A R C S cost lim k o ∧ ObAll P A R C S cost lim l (k + 1)

theorem ObAll.get {A : (Nat → Value) → Act} : ∀ (l : List Oper) (k : Nat), ObAll P A R C S cost lim l k → ∀ (i : Nat) (o : Oper), l[i]? = some o → Ob' P A R C S cost lim (k + i) o
  | [], _, _, i, o, ho => by simp at ho
  | o' :: l, k, h, i, o, ho => by
    cases i with
    | zero => simp at ho; subst ho; exact h.1
    | succ i =>
      have := ObAll.get l (k + 1) h.2 i o (by simpa using ho)
      rwa [show k + (i + 1) = k + 1 + i by omega]

theorem ob_of {A : (Nat → Value) → Act} (hB : InvB ops N a0.tmps.size) (hE : edgeB ops = true) {i : Nat} {o : Oper} (ho : ops[i]? = some o) (hi : i < N) (hA : ∀ T, setAll (ops.toList.take N) 0 T a0 = A T) (h : Ob' P A R C S cost lim i o) : Ob P ops a0 R C S cost lim N i o := by
  intro T w n hC hn hp
  have hlt := (Array.getElem?_eq_some_iff.1 ho).1
  have hE' := hE
  simp only [edgeB, List.all_eq_true, List.mem_range] at hE'
  have hEi := hE' i hlt
  simp only [ho, Bool.and_eq_true] at hEi
  obtain ⟨he1, he2⟩ := hEi
  rw [Array.all_eq_true_iff_forall_mem] at he1
  have hAft : AfterAll R T n w o.after.toList := afterAll_of _ fun e he hb => by
    have hm : e ∈ o.after := by simpa using he
    have h1 := he1 e hm
    simp only [hb, Bool.not_true, Bool.false_or] at h1
    exact hp e.on (by have := hB.back i o e ho hm hb; omega) h1
  have h0 := h T w n hC hn hAft
  unfold Region.wanted
  cases hg : o.guard with
  | none =>
    simp only [hg] at h0
    rw [hA T]
    exact h0
  | some gw =>
    obtain ⟨g, want⟩ := gw
    simp only [hg] at h0 he2
    obtain ⟨hbg, hgs⟩ := hB.guard i o g want ho hg
    obtain ⟨og, hog⟩ : ∃ og, ops[g]? = some og := ⟨ops[g], Array.getElem?_eq_getElem hgs⟩
    simp only [hog, Option.bind_some] at he2
    obtain ⟨d, hd⟩ := Option.isSome_iff_exists.1 he2
    have hgi : g < i := by
      have : ∀ k, ∀ (i : Nat) (o : Oper), i < k → ops[i]? = some o → ∀ p, p < ops.size → bef ops i p = true → p < i := by
        intro k
        induction k with
        | zero => intro i o hk; omega
        | succ k ih =>
          intro i o hk hio p hps hb
          obtain ⟨e, he, hbi, hor⟩ := hB.clos i p o hio hps hb
          have h5 := hB.back i o e hio he hbi
          rcases hor with rfl | hor
          · exact h5
          · obtain ⟨o', ho'⟩ : ∃ o', ops[e.on]? = some o' := ⟨ops[e.on]'(by have := (Array.getElem?_eq_some_iff.1 hio).1; omega), Array.getElem?_eq_getElem _⟩
            have := ih e.on o' (by omega) ho' p hps hor
            omega
      exact this (i + 1) i o (by omega) ho g hgs hbg
    have hts : d < a0.tmps.size := hB.size g og d hog hd
    have hget : (setAll (ops.toList.take N) 0 T a0).tmps[d]? = some (T g) := by
      rw [setAll_get T d _ 0 a0 hts]
      cases hw : lastW d (ops.toList.take N) 0 with
      | some j =>
        obtain ⟨_, o', ho', hd'⟩ := lastW_some _ _ hw
        simp only [Nat.sub_zero, List.getElem?_take] at ho'
        split at ho'
        · have hj : ops[j]? = some o' := by simpa using ho'
          have := hB.uniq j g o' og d hj hog hd' hd
          simp [this]
        · cases ho'
      | none =>
        exfalso
        exact lastW_none _ _ hw g og (by rw [List.getElem?_take, if_pos (by omega)]; simpa using hog) hd
    have hy : yielded ops (setAll (ops.toList.take N) 0 T a0).tmps g = match T g with | .bool b => some b | _ => none := by
      unfold yielded
      simp only [hog, Option.bind_some, hd, hget]
      cases T g <;> rfl
    simp only [hy]
    by_cases hT : T g = .bool want
    · simp only [hT]
      simp only [beq_self_eq_true, if_true]
      rw [hA T]
      exact h0.1 hT
    · have hf : ((match T g with | .bool b => some b | _ => none) == some want) = false := by
        cases hv : T g <;> simp
        intro e
        exact hT (by rw [hv, e])
      simp only [hf]
      exact h0.2 hT
end

/-- A REGION THAT DRAWS ITS ORDER, BY AN INVARIANT. N: the operations of the head; the others wait for all before them. -/
theorem wp_region_lim {P : Program} {Q : Exit → Act → World → Prop} {id : Nat} {l : List Oper} {a0 : Act} {w : World} (N total : Nat) (R : Nat → Value → Nat → World → Prop) (C : Nat → World → Prop) (S : Nat → World → Nat → World → Prop) (cost lim : Nat → Nat)
    (hm : P.follows .mixedOrders = true) (hB : (invB l.toArray N a0.tmps.size && edgeB l.toArray) = true) (htot : sumCost cost (Array.replicate l.toArray.size true) l.toArray.size ≤ total) (hlm : limB l.toArray N total cost lim = true)
    (hS : ∀ p v n w n' w', R p v n w → S n w n' w' → R p v n' w') (hC : C 0 w.drew)
    (h : ∃ A : (Nat → Value) → Act, (∀ T, setAll (l.take N) 0 T a0 = A T) ∧ ObAll P A R C S cost lim (l.take N) 0 ∧
      ∀ T w', (∃ n, n ≤ total ∧ C n w' ∧ ∀ p, p < N → R p (T p) n w') → wpList P l.toArray Q (l.drop N) (A T) w') :
    (Code.region id l.toArray true).wp P Q a0 w := by
  obtain ⟨A, hA, hob, hend⟩ := h
  simp only [Bool.and_eq_true] at hB
  refine wp_region_any hm ?_
  have key := region_any (P := P) (Q := Q) (ops := l.toArray) (a0 := a0) (R := R) (C := C) (S := S) (cost := cost) (lim := lim) (total := total) (invB_spec hB.1) hS htot (limB_spec hlm)
    (fun i o ho hi => ob_of (invB_spec hB.1) hB.2 ho hi (fun T => by simpa using hA T) (by
      have := ObAll.get _ _ hob i o (by rw [List.getElem?_take, if_pos hi]; simpa using ho)
      simpa using this))
    (fun T w' hc => by
      have := hend T w' hc
      rw [← hA T] at this
      simpa using this)
    l.toArray.size (Array.replicate l.toArray.size false) a0 w.drew (by simp)
  have h0 : ∀ j, (Array.replicate l.toArray.size false).getD j false = false := fun j => getD_replicate_false _ _
  have hz : ∀ (c : Nat → Nat) k, sumCost c (Array.replicate l.toArray.size false) k = 0 := by
    intro c k
    induction k with
    | zero => rfl
    | succ k ih => simp only [sumCost, ih, h0]; rfl
  have hF : Fits l.toArray a0 (Array.replicate l.toArray.size false) (fun _ => undef) a0 := by
    refine ⟨rfl, rfl, ?_, fun t _ => rfl⟩
    intro j o d _ hl
    rw [h0] at hl
    cases hl
  refine key (by simp only [cnt, hz]; omega) ?_ (.inl ⟨fun _ => undef, fun j _ => h0 j, hF, by rw [hz]; exact hC, ?_⟩)
  · intro j _ hl
    rw [h0] at hl
    cases hl
  · intro j _ hl
    rw [h0] at hl
    cases hl
theorem wpAny_seq {P : Program} {ops : Array Oper} {Q : Exit → Act → World → Prop} (hback : ∀ (i : Nat) (o : Oper) e, ops[i]? = some o → e ∈ o.after → Region.binds .any e = true → e.on < i) :
    ∀ (fuel k : Nat) (listed : Array Bool) (a : Act) (w : World), listed.size = ops.size → fuel + k = ops.size → (∀ j, j < ops.size → (listed.getD j false = true ↔ j < k)) → wpAny P .any ops Q fuel listed a w → wpList P ops Q (ops.toList.drop k) a w
  | 0, k, listed, a, w, hsz, hf, hl, h => by
    rw [List.drop_eq_nil_of_le (by simp; omega)]
    exact h.2
  | fuel + 1, k, listed, a, w, hsz, hf, hl, h => by
    have hk : k < ops.size := by omega
    have ho : ops[k]? = some ops[k] := Array.getElem?_eq_getElem hk
    have hkf : listed.getD k true = false := by
      have : ¬ listed.getD k false = true := fun e => by have := (hl k hk).1 e; omega
      simpa [Array.getD, hsz, hk] using this
    have hr : k ∈ Region.ready .any ops listed := mem_ready.2 ⟨hkf, _, ho, fun e he hb => (hl e.on (by have := hback k _ e ho he hb; omega)).2 (hback k _ e ho he hb)⟩
    have h1 := h.2 k hr
    have hdr : ops.toList.drop k = ops[k] :: ops.toList.drop (k + 1) := by
      rw [List.drop_eq_getElem_cons (by simpa using hk)]
      simp
    rw [hdr]
    have h2 := wpOp_mono (fun a' w' h' => wpAny_seq hback fuel (k + 1) (listed.setIfInBounds k true) a' w' (by simpa using hsz) (by omega) (fun j hj => by
      by_cases hjk : k = j
      · subst hjk; simp [Array.getD, hsz, hk]
      · rw [getD_set_ne false hjk, hl j hj]; omega) h') h1
    unfold wpOp at h2
    simp only [ho] at h2
    exact h2

/-- A REGION IN THE ORDER OF ITS TEXT, BY THE SAME INVARIANT. N: the operations of the head; the others wait for all before them. -/
theorem wp_region_seq {P : Program} {Q : Exit → Act → World → Prop} {id : Nat} {l : List Oper} {a0 : Act} {w : World} (N total : Nat) (R : Nat → Value → Nat → World → Prop) (C : Nat → World → Prop) (S : Nat → World → Nat → World → Prop) (cost lim : Nat → Nat)
    (hm : P.follows .mixedOrders = true) (hB : (invB l.toArray N a0.tmps.size && edgeB l.toArray) = true) (htot : sumCost cost (Array.replicate l.toArray.size true) l.toArray.size ≤ total) (hlm : limB l.toArray N total cost lim = true)
    (hS : ∀ p v n w n' w', R p v n w → S n w n' w' → R p v n' w') (hC : C 0 w)
    (h : ∃ A : (Nat → Value) → Act, (∀ T, setAll (l.take N) 0 T a0 = A T) ∧ ObAll P A R C S cost lim (l.take N) 0 ∧
      ∀ T w', (∃ n, n ≤ total ∧ C n w' ∧ ∀ p, p < N → R p (T p) n w') → wpList P l.toArray Q (l.drop N) (A T) w') :
    (Code.region id l.toArray false).wp P Q a0 w := by
  obtain ⟨A, hA, hob, hend⟩ := h
  simp only [Bool.and_eq_true] at hB
  have key := region_any (P := P) (Q := Q) (ops := l.toArray) (a0 := a0) (R := R) (C := C) (S := S) (cost := cost) (lim := lim) (total := total) (invB_spec hB.1) hS htot (limB_spec hlm)
    (fun i o ho hi => ob_of (invB_spec hB.1) hB.2 ho hi (fun T => by simpa using hA T) (by
      have := ObAll.get _ _ hob i o (by rw [List.getElem?_take, if_pos hi]; simpa using ho)
      simpa using this))
    (fun T w' hc => by
      have := hend T w' hc
      rw [← hA T] at this
      simpa using this)
    l.toArray.size (Array.replicate l.toArray.size false) a0 w (by simp)
  have h0 : ∀ j, (Array.replicate l.toArray.size false).getD j false = false := fun j => getD_replicate_false _ _
  have hz : ∀ (c : Nat → Nat) k, sumCost c (Array.replicate l.toArray.size false) k = 0 := by
    intro c k
    induction k with
    | zero => rfl
    | succ k ih => simp only [sumCost, ih, h0]; rfl
  have hF : Fits l.toArray a0 (Array.replicate l.toArray.size false) (fun _ => undef) a0 := by
    refine ⟨rfl, rfl, ?_, fun t _ => rfl⟩
    intro j o d _ hl
    rw [h0] at hl
    cases hl
  refine wp_region_lit ?_
  have hfin : wpAny P .any l.toArray Q l.toArray.size (Array.replicate l.toArray.size false) a0 w → wpList P l.toArray Q l a0 w := fun h => by
    have := wpAny_seq (invB_spec hB.1).back l.toArray.size 0 _ a0 w (by simp) (by omega) (fun j _ => by rw [h0]; simp) h
    simpa using this
  refine hfin (key (by simp only [cnt, hz]; omega) ?_ (.inl ⟨fun _ => undef, fun j _ => h0 j, hF, by rw [hz]; exact hC, ?_⟩))
  · intro j _ hl
    rw [h0] at hl
    cases hl
  · intro j _ hl
    rw [h0] at hl
    cases hl
end Go.Proofs.YtjkicehhfapohaaGreatDoor.Lm
