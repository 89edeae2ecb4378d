/-
  The reference's LeastOf and SpanOf.
  Sets as spans of numbers: the spans of their prefixes, gaps, what two have in common, and how many prefixes these need.
  Generators of sets of prefixes.
  The reference's SetFault.
  A set covers another one, in plain words: nothing of the one lies in the other's rest just if their union is the other.
  span.before, span.Later, span.earlier on numbers.
  Spans.Both.
  Spans.Or.
-/
import Derived.Test.YtaeieigdibanlaaGreatDoorST12
import Derived.Test.YtaeieigdibanlaaGreatDoorST11
import Derived.Test.YtaeieigdibanlaaGreatDoorST9
import Derived.Test.YtaeieigdibanlaaGreatDoorST6
import Derived.BigRegion
import Derived.Test.YtaeieigdibanlaaGreatDoorST5
import Derived.Shelf.Spec.BitsCarry
set_option linter.unusedVariables false
namespace Go.Proofs.YtaeieigdibanlaaGreatDoor
open Go.RowKit Go
set_option linter.unusedVariables false

set_option maxRecDepth 100000 in
set_option maxHeartbeats 1000000 in
theorem leastOf_any (ad : Option Addr) (n c : Nat) (L : List Pf) (w : World) (h : RdK layPf w ad L) (hn : L.length = n) (hs : n ≤ 100000) (hv : ∀ p ∈ L, OkPf p) :
    Calls Tryz.prog 29 #[.slice ad n c] w fun e w' => ∃ v, e = .returned v ∧ OwnK layPf w' w.heap.size v (lst L) ∧ Below w.heap.size w w' := by
  have HS := Lib.hid (spansOf_any ad n c L w h hn hs hv)
  have HJv := Lib.hid (sps_vr hv)
  have HJl := Lib.hid (jn_len (L.map spP))
  have Hlst : Hid (pfs (jn (L.map spP)) = lst L) := Lib.hid rfl
  have Hn := Lib.hid hn
  clear h hn hv
  generalize jn (L.map spP) = J at *
  go_enter Tryz.func29, Tryz.ntmps29
  go_wp2_with fail
  refine HS.out.mono ?_
  rintro e w3 ⟨v, rfl, hO, hB⟩
  obtain ⟨ad3, c3, rfl, _⟩ := hO.form
  have HT := Lib.hid (qprefixes_any ad3 J.length c3 J w3 hO.rd rfl (by have := HJl.out; rw [List.length_map, Hn.out] at this; omega) HJv.out)
  rw [Hlst.out] at HT
  have HB3 := Lib.hid hB
  clear hO hB HS HJl HJv Hlst
  generalize J.length = jl at *
  go_wp2_with fail
  refine HT.out.mono ?_
  rintro e w4 ⟨v, rfl, hO, hB⟩
  have HO4 := Lib.hid (hO.weak HB3.out.size)
  have HB4 := Lib.hid (HB3.out.trans (hB.mono HB3.out.size))
  clear hO hB
  go_wp2_with fail
  go_ret
  exact ⟨_, rfl, HO4.out, HB4.out⟩
theorem RdK.blk {α : Type} (E : Lay α) {w : World} {B : Nat} {t : TypeId} {cs : Array Value} {x : α} (hb : Blk w B t cs) (h : cs = (E.enc x).toArray) : RdK E w (some ⟨B, 0, none⟩) [x] := by
  subst h
  intro i y hy
  cases i with
  | zero =>
    simp at hy
    subst hy
    refine ⟨B, 0, rfl, hb.lt, fun j v hv => ?_⟩
    rw [show 0 + (0 * E.K + j) = j by omega, hb.cell j]
    simpa using hv
  | succ i => simp at hy
end Go.Proofs.YtaeieigdibanlaaGreatDoor

namespace Go.Proofs.YtaeieigdibanlaaGreatDoor
open Go.RowKit Go
set_option linter.unusedVariables false

theorem ok_block {x n : Nat} (hv : VN x) (hn : n ≤ LN x) (hd : 2 ^ (LN x - n) ∣ x) : OkPf (pfOf (x, n)) ∧ nuP (pfOf (x, n)) = x ∧ spP (pfOf (x, n)) = (x, x + (2 ^ (LN x - n) - 1)) := by
  have ha := ok_aN hv
  have hln : n ≤ lenN (sixN x) := by rw [← LN_six]; exact hn
  have hc : clr x (LN x - n) = x := clr_dvd.2 hd
  have hm := mask_num (n := n) ha
  rw [num_aN hv, ← LN_six, hc] at hm
  have h1 := aN_num (mask_aok ha hln)
  rw [hm] at h1
  have hnu : nuP (pfOf (x, n)) = x := num_aN hv
  have hP : POK (sixN x) (hiN x) (loN x) n := ⟨ha, hln, h1.2.2.1.symm, h1.2.2.2.symm⟩
  refine ⟨⟨rfl, hP⟩, hnu, ?_⟩
  unfold spP
  rw [hnu]
  show (x, fil x (LN x - n)) = _
  rw [fil_of hd]
theorem mem_allB {S : List Sp} (hv : ∀ p ∈ S, VR p) {c : Nat × Nat} (hc : c ∈ allB S) : VN c.1 ∧ c.2 ≤ LN c.1 ∧ 2 ^ (LN c.1 - c.2) ∣ c.1 ∧ ∃ p ∈ S, LN c.1 = LN p.1 ∧ p.1 ≤ c.1 ∧ c.1 + (2 ^ (LN c.1 - c.2) - 1) ≤ p.2 := by
  obtain ⟨p, hp, hc⟩ := List.mem_flatMap.1 hc
  obtain ⟨h1, h2, h3⟩ := (blks_ok (LN p.1) p.1 p.2).each c hc
  obtain ⟨v, l, s⟩ := blk_vn (hv p hp) h1 h2
  refine ⟨v, ?_, ?_, p, hp, l, h1, ?_⟩
  · rw [l]; exact h3.le
  · rw [l]; exact h3.dvd
  · rw [l]; exact h3.fits
theorem okPf_pfs {S : List Sp} (hv : ∀ p ∈ S, VR p) : ∀ q ∈ pfs S, OkPf q := fun q hq => by
  obtain ⟨c, hc, rfl⟩ := List.mem_map.1 hq
  obtain ⟨a, b, d, _⟩ := mem_allB hv hc
  exact (ok_block a b d).1
theorem inS_pfs {S : List Sp} (hv : ∀ p ∈ S, VR p) (x : Nat) : InS ((pfs S).map spP) x ↔ InS S x := by
  constructor
  · rintro ⟨q, hq, h1, h2⟩
    obtain ⟨r, hr, rfl⟩ := List.mem_map.1 hq
    obtain ⟨c, hc, rfl⟩ := List.mem_map.1 hr
    obtain ⟨a, b, d, p, hp, _, l1, l2⟩ := mem_allB hv hc
    rw [show c = (c.1, c.2) from rfl, (ok_block a b d).2.2] at h1 h2
    simp only at h1 h2
    exact ⟨p, hp, by omega, by omega⟩
  · rintro ⟨p, hp, h1, h2⟩
    obtain ⟨q, hq, l1, l2⟩ := ((blks_ok (LN p.1) p.1 p.2).mem x).2 ⟨h1, h2⟩
    obtain ⟨c, hc, rfl⟩ := List.mem_map.1 hq
    have hca : c ∈ allB S := List.mem_flatMap.2 ⟨p, hp, hc⟩
    obtain ⟨a, b, d, _⟩ := mem_allB hv hca
    have hl := (blk_vn (hv p hp) ((blks_ok (LN p.1) p.1 p.2).each c hc).1 ((blks_ok (LN p.1) p.1 p.2).each c hc).2.1).2.1
    refine ⟨spP (pfOf (c.1, c.2)), List.mem_map.2 ⟨_, List.mem_map.2 ⟨c, hca, rfl⟩, rfl⟩, ?_⟩
    rw [(ok_block a b d).2.2]
    unfold spB at l1 l2
    simp only at l1 l2 ⊢
    rw [← hl] at l2
    exact ⟨l1, l2⟩
/-- the spans of prefixes -/
def spn (L : List Pf) : List Sp := jn (L.map spP)
theorem spn_vr {L : List Pf} (hv : ∀ p ∈ L, OkPf p) : ∀ p ∈ spn L, VR p := sps_vr hv
theorem sps_le {L : List Pf} (hv : ∀ p ∈ L, OkPf p) : ∀ p ∈ L.map spP, p.1 ≤ p.2 := fun p hp => by
  obtain ⟨q, hq, rfl⟩ := List.mem_map.1 hp
  exact (hv q hq).vr.le
theorem spn_can {L : List Pf} (hv : ∀ p ∈ L, OkPf p) : Can (spn L) := (jn_joined (sps_le hv)).can
theorem inS_spn {L : List Pf} (hv : ∀ p ∈ L, OkPf p) (x : Nat) : InS (spn L) x ↔ InS (L.map spP) x := (jn_joined (sps_le hv)).mem x
theorem spn_len (L : List Pf) : (spn L).length ≤ L.length := by
  have := jn_len (L.map spP)
  rw [List.length_map] at this
  exact this
theorem spn_pfs {S : List Sp} (hc : Can S) (hv : ∀ p ∈ S, VR p) : spn (pfs S) = S :=
  can_unique (spn_can (okPf_pfs hv)) hc fun x => (inS_spn (okPf_pfs hv) x).trans (inS_pfs hv x)
theorem lst_eq (L : List Pf) : lst L = pfs (spn L) := rfl
/-- joined spans are those with the same numbers -/
theorem jn_can {L : List Sp} (hv : ∀ p ∈ L, VR p) : Can (jn L) ∧ (∀ x, InS (jn L) x ↔ InS L x) ∧ ∀ p ∈ jn L, VR p :=
  ⟨(jn_joined fun p hp => (hv p hp).le).can, (jn_joined fun p hp => (hv p hp).le).mem, jn_vr hv⟩
theorem ok_append {A B : List Pf} (hA : ∀ p ∈ A, OkPf p) (hB : ∀ p ∈ B, OkPf p) : ∀ p ∈ A ++ B, OkPf p := fun p hp => (List.mem_append.1 hp).elim (hA p) (hB p)
theorem vr_vn {S : List Sp} (hv : ∀ p ∈ S, VR p) {x : Nat} (h : InS S x) : VN x := by
  obtain ⟨p, hp, h1, h2⟩ := h
  exact (blk_vn (hv p hp) h1 h2).1
/-- the spans between those of a list, from a number to the last one -/
def gapsF (top : Nat) : List Sp → Nat → List Sp
  | [], x => if x ≤ top then [(x, top)] else []
  | r :: S, x => (if x < r.1 then [(x, r.1 - 1)] else []) ++ gapsF top S (r.2 + 1)
def fam (six : Bool) (S : List Sp) : List Sp := S.filter fun p => sixN p.1 == six
def loF (six : Bool) : Nat := if six = true then 2 ^ 128 else 0
def topF (six : Bool) : Nat := if six = true then 2 ^ 129 - 1 else 2 ^ 32 - 1
def gapsOf (six : Bool) (S : List Sp) : List Sp := gapsF (topF six) (fam six S) (loF six)
/-- the spans between those of a list, of all addresses -/
def gaps (S : List Sp) : List Sp := gapsOf false S ++ gapsOf true S
theorem gapsF_ok (top : Nat) : ∀ (S : List Sp) (x : Nat), Can S → (∀ p ∈ S, x ≤ p.1 ∧ p.2 ≤ top) →
    (∀ t, InS (gapsF top S x) t ↔ x ≤ t ∧ t ≤ top ∧ ¬ InS S t) ∧ Can (gapsF top S x) ∧ ∀ p ∈ gapsF top S x, x ≤ p.1 ∧ p.2 ≤ top
  | [], x, _, _ => by
    unfold gapsF
    by_cases h : x ≤ top
    · rw [if_pos h]
      refine ⟨fun t => ?_, ⟨List.pairwise_singleton _ _, fun p hp => ?_⟩, fun p hp => ?_⟩
      · rw [inS_cons]
        simp [inS_nil]
      · rw [List.mem_singleton.1 hp]; exact h
      · rw [List.mem_singleton.1 hp]; exact ⟨Nat.le_refl _, Nat.le_refl _⟩
    · rw [if_neg h]
      refine ⟨fun t => ⟨fun h2 => absurd h2 (inS_nil _), fun h2 => by omega⟩, ⟨List.Pairwise.nil, by simp⟩, by simp⟩
  | r :: S, x, hc, hb => by
    have hr := hb r (List.mem_cons_self ..)
    obtain ⟨r1, r2⟩ := hc.head
    have hn : ∀ p ∈ S, r.2 + 1 ≤ p.1 ∧ p.2 ≤ top := fun p hp => by
      have := (List.pairwise_cons.1 hc.1).1 p hp
      exact ⟨by omega, (hb p (List.mem_cons_of_mem _ hp)).2⟩
    obtain ⟨i1, i2, i3⟩ := gapsF_ok top S (r.2 + 1) hc.tail hn
    have hA : ∀ t, InS S t → r.2 + 1 < t := r2
    unfold gapsF
    refine ⟨fun t => ?_, ?_, fun p hp => ?_⟩
    · rw [inS_append, i1, inS_cons]
      by_cases h : x < r.1
      · rw [if_pos h, inS_cons]
        simp only [inS_nil, or_false]
        constructor
        · rintro (h1 | h1)
          · refine ⟨by omega, by omega, ?_⟩
            rintro (h2 | h2)
            · omega
            · have := hA t h2; omega
          · refine ⟨by omega, by omega, ?_⟩
            rintro (h2 | h2)
            · omega
            · exact h1.2.2 h2
        · rintro ⟨h1, h2, h3⟩
          rcases Nat.lt_or_ge t r.1 with h4 | h4
          · exact .inl ⟨h1, by omega⟩
          · refine .inr ⟨?_, h2, fun h5 => h3 (.inr h5)⟩
            rcases Nat.lt_or_ge r.2 t with h6 | h6
            · exact h6
            · exact absurd (.inl ⟨h4, h6⟩) h3
      · rw [if_neg h]
        simp only [inS_nil, false_or]
        constructor
        · rintro ⟨h1, h2, h3⟩
          refine ⟨by omega, h2, ?_⟩
          rintro (h4 | h4)
          · omega
          · exact h3 h4
        · rintro ⟨h1, h2, h3⟩
          refine ⟨?_, h2, fun h5 => h3 (.inr h5)⟩
          rcases Nat.lt_or_ge r.2 t with h6 | h6
          · exact h6
          · exact absurd (.inl ⟨by omega, h6⟩) h3
    · by_cases h : x < r.1
      · rw [if_pos h]
        refine ⟨List.pairwise_cons.2 ⟨fun q hq => ?_, i2.1⟩, fun p hp => ?_⟩
        · have := (i3 q hq).1
          show r.1 - 1 + 1 < q.1
          omega
        · rcases List.mem_cons.1 hp with rfl | hp
          · show x ≤ r.1 - 1
            omega
          · exact i2.2 p hp
      · rw [if_neg h]
        exact i2
    · rcases List.mem_append.1 hp with hp | hp
      · by_cases h : x < r.1
        · rw [if_pos h] at hp
          rw [List.mem_singleton.1 hp]
          show x ≤ x ∧ r.1 - 1 ≤ top
          omega
        · rw [if_neg h] at hp; cases hp
      · have := i3 p hp
        omega
theorem vn_fam {x : Nat} (h : VN x) : loF (sixN x) ≤ x ∧ x ≤ topF (sixN x) := by
  unfold loF topF
  rcases h.cases with ⟨a, _, _, d⟩ | ⟨a, b, c, d⟩
  · rw [a]; simp; omega
  · rw [a]
    rcases h with h | h
    · simp; omega
    · simp; omega
theorem fam_vn {six : Bool} {x : Nat} (h1 : loF six ≤ x) (h2 : x ≤ topF six) : VN x ∧ sixN x = six := by
  unfold loF topF at *
  cases six
  · simp at h1 h2
    exact ⟨.inl (by omega), decide_eq_false (by omega)⟩
  · simp at h1 h2
    exact ⟨.inr ⟨by omega, by omega⟩, decide_eq_true (by omega)⟩
theorem can_filter {S : List Sp} (h : Can S) (f : Sp → Bool) : Can (S.filter f) :=
  ⟨h.1.sublist List.filter_sublist, fun p hp => h.2 p (List.mem_filter.1 hp).1⟩
theorem fam_bd {S : List Sp} (hv : ∀ p ∈ S, VR p) (six : Bool) : ∀ p ∈ fam six S, loF six ≤ p.1 ∧ p.2 ≤ topF six := fun p hp => by
  obtain ⟨h1, h2⟩ := List.mem_filter.1 hp
  have h2 : sixN p.1 = six := by simpa using h2
  have hp := hv p h1
  have a := vn_fam hp.a
  have b := vn_fam hp.b
  rw [← hp.s, h2] at b
  rw [h2] at a
  exact ⟨a.1, b.2⟩
theorem gapsOf_ok {S : List Sp} (hc : Can S) (hv : ∀ p ∈ S, VR p) (six : Bool) :
    (∀ t, InS (gapsOf six S) t ↔ VN t ∧ sixN t = six ∧ ¬ InS S t) ∧ Can (gapsOf six S) ∧ ∀ p ∈ gapsOf six S, loF six ≤ p.1 ∧ p.2 ≤ topF six := by
  obtain ⟨h1, h2, h3⟩ := gapsF_ok (topF six) (fam six S) (loF six) (can_filter hc _) (fam_bd hv six)
  refine ⟨fun t => (h1 t).trans ?_, h2, h3⟩
  constructor
  · rintro ⟨a, b, c⟩
    obtain ⟨v, s⟩ := fam_vn a b
    refine ⟨v, s, ?_⟩
    rintro ⟨p, hp, l1, l2⟩
    refine c ⟨p, List.mem_filter.2 ⟨hp, ?_⟩, l1, l2⟩
    have := (blk_vn (hv p hp) l1 l2).2.2
    rw [← this, s]
    simp
  · rintro ⟨v, s, c⟩
    have := vn_fam v
    rw [s] at this
    refine ⟨this.1, this.2, ?_⟩
    rintro ⟨p, hp, l1, l2⟩
    exact c ⟨p, (List.mem_filter.1 hp).1, l1, l2⟩
theorem vr_fam {six : Bool} {p : Sp} (h : loF six ≤ p.1 ∧ p.2 ≤ topF six) (hle : p.1 ≤ p.2) : VR p := by
  obtain ⟨a, b⟩ := fam_vn h.1 (Nat.le_trans hle h.2)
  obtain ⟨c, d⟩ := fam_vn (Nat.le_trans h.1 hle) h.2
  exact ⟨a, c, b.trans d.symm, hle⟩
theorem gaps_ok {S : List Sp} (hc : Can S) (hv : ∀ p ∈ S, VR p) : Can (gaps S) ∧ (∀ t, InS (gaps S) t ↔ VN t ∧ ¬ InS S t) ∧ ∀ p ∈ gaps S, VR p := by
  obtain ⟨a1, a2, a3⟩ := gapsOf_ok hc hv false
  obtain ⟨b1, b2, b3⟩ := gapsOf_ok hc hv true
  unfold gaps
  refine ⟨⟨List.pairwise_append.2 ⟨a2.1, b2.1, fun p hp q hq => ?_⟩, fun p hp => (List.mem_append.1 hp).elim (a2.2 p) (b2.2 p)⟩, fun t => ?_, fun p hp => ?_⟩
  · have h1 := (a3 p hp).2
    have h2 := (b3 q hq).1
    unfold topF at h1
    unfold loF at h2
    simp at h1 h2
    omega
  · rw [inS_append, a1, b1]
    cases sixN t <;> simp
  · rcases List.mem_append.1 hp with hp | hp
    · exact vr_fam (a3 p hp) (a2.2 p hp)
    · exact vr_fam (b3 p hp) (b2.2 p hp)
theorem gapsF_len (top : Nat) : ∀ (S : List Sp) (x : Nat), (gapsF top S x).length ≤ S.length + 1
  | [], x => by unfold gapsF; split <;> simp
  | r :: S, x => by
    have := gapsF_len top S (r.2 + 1)
    unfold gapsF
    rw [List.length_append]
    split <;> simp <;> omega
theorem gaps_len (S : List Sp) : (gaps S).length ≤ 2 * S.length + 2 := by
  have h1 := gapsF_len (topF false) (fam false S) (loF false)
  have h2 := gapsF_len (topF true) (fam true S) (loF true)
  have h3 : (fam false S).length ≤ S.length := List.length_filter_le _ _
  have h4 : (fam true S).length ≤ S.length := List.length_filter_le _ _
  unfold gaps gapsOf
  rw [List.length_append]
  omega

/-- what two lists of spans have in common -/
def both : List Sp → List Sp → List Sp
  | [], _ => []
  | _ :: _, [] => []
  | p :: A, q :: B => (if max p.1 q.1 ≤ min p.2 q.2 then [(max p.1 q.1, min p.2 q.2)] else []) ++ if p.2 < q.2 then both A (q :: B) else both (p :: A) B
termination_by A B => A.length + B.length
theorem both_nil (A : List Sp) : both A [] = [] := by cases A <;> simp [both]
theorem both_nil' (A : List Sp) : both [] A = [] := by simp [both]
theorem both_cons (p q : Sp) (A B : List Sp) : both (p :: A) (q :: B) = (if max p.1 q.1 ≤ min p.2 q.2 then [(max p.1 q.1, min p.2 q.2)] else []) ++ if p.2 < q.2 then both A (q :: B) else both (p :: A) B := by rw [both]
theorem both_mem (n : Nat) : ∀ (A B : List Sp), A.length + B.length ≤ n → Can A → Can B → ∀ x, InS (both A B) x ↔ InS A x ∧ InS B x := by
  induction n with
  | zero =>
    intro A B h hA hB x
    have : A = [] := by cases A with | nil => rfl | cons => simp at h
    subst this
    rw [both_nil']
    simp [inS_nil]
  | succ n ih =>
    intro A B h hA hB x
    cases A with
    | nil => rw [both_nil']; simp [inS_nil]
    | cons p A =>
      cases B with
      | nil => rw [both_nil]; simp [inS_nil]
      | cons q B =>
        simp only [List.length_cons] at h
        have hp := hA.head
        have hq := hB.head
        rw [both_cons, inS_append]
        have e1 : InS (if max p.1 q.1 ≤ min p.2 q.2 then [(max p.1 q.1, min p.2 q.2)] else []) x ↔ (p.1 ≤ x ∧ x ≤ p.2) ∧ (q.1 ≤ x ∧ x ≤ q.2) := by
          by_cases hc : max p.1 q.1 ≤ min p.2 q.2
          · rw [if_pos hc, inS_cons]
            simp only [inS_nil, or_false]
            omega
          · rw [if_neg hc]
            simp only [inS_nil, false_iff]
            omega
        rw [e1]
        by_cases hlt : p.2 < q.2
        · rw [if_pos hlt, ih A (q :: B) (by simp only [List.length_cons]; omega) hA.tail hB, inS_cons, inS_cons]
          constructor
          · rintro (h1 | h1)
            · exact ⟨.inl h1.1, .inl h1.2⟩
            · exact ⟨.inr h1.1, h1.2⟩
          · rintro ⟨h1 | h1, h2⟩
            · rcases h2 with h2 | h2
              · exact .inl ⟨h1, h2⟩
              · have := hq.2 x h2; omega
            · exact .inr ⟨h1, h2⟩
        · rw [if_neg hlt, ih (p :: A) B (by simp only [List.length_cons]; omega) hA hB.tail, inS_cons, inS_cons]
          constructor
          · rintro (h1 | h1)
            · exact ⟨.inl h1.1, .inl h1.2⟩
            · exact ⟨h1.1, .inr h1.2⟩
          · rintro ⟨h1, h2 | h2⟩
            · rcases h1 with h1 | h1
              · exact .inl ⟨h1, h2⟩
              · have := hp.2 x h1; omega
            · exact .inr ⟨h1, h2⟩
theorem both_vr (n : Nat) : ∀ (A B : List Sp), A.length + B.length ≤ n → (∀ p ∈ A, VR p) → (∀ p ∈ B, VR p) → (∀ p ∈ both A B, VR p) ∧ (both A B).length ≤ A.length + B.length := by
  induction n with
  | zero =>
    intro A B h hA hB
    have : A = [] := by cases A with | nil => rfl | cons => simp at h
    subst this
    rw [both_nil']
    simp
  | succ n ih =>
    intro A B h hA hB
    cases A with
    | nil => rw [both_nil']; simp
    | cons p A =>
      cases B with
      | nil => rw [both_nil]; simp
      | cons q B =>
        simp only [List.length_cons] at h
        have hp := hA p (List.mem_cons_self ..)
        have hq := hB q (List.mem_cons_self ..)
        have hA' : ∀ p ∈ A, VR p := fun r hr => hA r (List.mem_cons_of_mem _ hr)
        have hB' : ∀ p ∈ B, VR p := fun r hr => hB r (List.mem_cons_of_mem _ hr)
        rw [both_cons]
        have e1 : (∀ r ∈ (if max p.1 q.1 ≤ min p.2 q.2 then [(max p.1 q.1, min p.2 q.2)] else []), VR r) ∧ (if max p.1 q.1 ≤ min p.2 q.2 then [(max p.1 q.1, min p.2 q.2)] else []).length ≤ 1 := by
          by_cases hc : max p.1 q.1 ≤ min p.2 q.2
          · rw [if_pos hc]
            refine ⟨fun r hr => ?_, Nat.le_refl _⟩
            rw [List.mem_singleton.1 hr]
            have a := blk_vn hp (x := max p.1 q.1) (by omega) (by omega)
            have b := blk_vn hp (x := min p.2 q.2) (by omega) (by omega)
            exact ⟨a.1, b.1, a.2.2.trans b.2.2.symm, hc⟩
          · rw [if_neg hc]
            exact ⟨by simp, by simp⟩
        generalize (if max p.1 q.1 ≤ min p.2 q.2 then [(max p.1 q.1, min p.2 q.2)] else [] : List Sp) = E at *
        by_cases hlt : p.2 < q.2
        · rw [if_pos hlt]
          obtain ⟨i1, i2⟩ := ih A (q :: B) (by simp only [List.length_cons]; omega) hA' hB
          refine ⟨fun r hr => (List.mem_append.1 hr).elim (e1.1 r) (i1 r), ?_⟩
          have := e1.2
          simp only [List.length_append, List.length_cons] at i2 ⊢
          omega
        · rw [if_neg hlt]
          obtain ⟨i1, i2⟩ := ih (p :: A) B (by simp only [List.length_cons]; omega) hA hB'
          refine ⟨fun r hr => (List.mem_append.1 hr).elim (e1.1 r) (i1 r), ?_⟩
          have := e1.2
          simp only [List.length_append, List.length_cons] at i2 ⊢
          omega
/-- the reference's way: the rest of both rests -/
def restR (a : List Pf) : List Pf := pfs (gaps (spn a))
def unionR (a b : List Pf) : List Pf := lst (a ++ b)
def bothR (a b : List Pf) : List Pf := restR (unionR (restR a) (restR b))
theorem ok_restR {a : List Pf} (ha : ∀ p ∈ a, OkPf p) : ∀ p ∈ restR a, OkPf p := okPf_pfs (gaps_ok (spn_can ha) (spn_vr ha)).2.2
theorem ok_lst {a : List Pf} (ha : ∀ p ∈ a, OkPf p) : ∀ p ∈ lst a, OkPf p := okPf_pfs (spn_vr ha)
theorem ok_unionR {a b : List Pf} (ha : ∀ p ∈ a, OkPf p) (hb : ∀ p ∈ b, OkPf p) : ∀ p ∈ unionR a b, OkPf p := ok_lst (ok_append ha hb)
theorem spn_restR {a : List Pf} (ha : ∀ p ∈ a, OkPf p) : spn (restR a) = gaps (spn a) :=
  spn_pfs (gaps_ok (spn_can ha) (spn_vr ha)).1 (gaps_ok (spn_can ha) (spn_vr ha)).2.2
theorem spn_lst {a : List Pf} (ha : ∀ p ∈ a, OkPf p) : spn (lst a) = spn a := spn_pfs (spn_can ha) (spn_vr ha)
theorem both_ok {A B : List Sp} (hA : Can A) (hB : Can B) (vA : ∀ p ∈ A, VR p) (vB : ∀ p ∈ B, VR p) :
    Can (jn (both A B)) ∧ (∀ x, InS (jn (both A B)) x ↔ InS A x ∧ InS B x) ∧ ∀ p ∈ jn (both A B), VR p := by
  obtain ⟨h1, h2, h3⟩ := jn_can (both_vr _ A B (Nat.le_refl _) vA vB).1
  exact ⟨h1, fun x => (h2 x).trans (both_mem _ A B (Nat.le_refl _) hA hB x), h3⟩
/-- what two sets have in common, both ways -/
theorem both_eq {a b : List Pf} (ha : ∀ p ∈ a, OkPf p) (hb : ∀ p ∈ b, OkPf p) : bothR a b = pfs (jn (both (spn a) (spn b))) := by
  have hu := ok_unionR (ok_restR ha) (ok_restR hb)
  have ga := gaps_ok (spn_can ha) (spn_vr ha)
  have gb := gaps_ok (spn_can hb) (spn_vr hb)
  have gu := gaps_ok (spn_can hu) (spn_vr hu)
  obtain ⟨h1, h2, h3⟩ := both_ok (spn_can ha) (spn_can hb) (spn_vr ha) (spn_vr hb)
  unfold bothR
  rw [show restR (unionR (restR a) (restR b)) = pfs (gaps (spn (unionR (restR a) (restR b)))) from rfl]
  congr 1
  refine can_unique gu.1 h1 fun x => ?_
  have hr := ok_append (ok_restR ha) (ok_restR hb)
  rw [gu.2.1, h2]
  unfold unionR
  rw [spn_lst hr, inS_spn hr, List.map_append, inS_append, ← inS_spn (ok_restR ha), ← inS_spn (ok_restR hb), spn_restR ha, spn_restR hb, ga.2.1, gb.2.1]
  constructor
  · rintro ⟨v, h⟩
    constructor
    · exact Classical.byContradiction fun h4 => h (.inl ⟨v, h4⟩)
    · exact Classical.byContradiction fun h4 => h (.inr ⟨v, h4⟩)
  · rintro ⟨h4, h5⟩
    refine ⟨vr_vn (spn_vr ha) h4, ?_⟩
    rintro (h | h)
    · exact h.2 h4
    · exact h.2 h5
/-- the other block of the next longer one -/
def sib (i a : Nat) : Nat := if a / 2 ^ i % 2 = 0 then (a / 2 ^ i + 1) * 2 ^ i else (a / 2 ^ i - 1) * 2 ^ i
theorem blks_gb {L y : Nat} (x : Nat) : ∀ c ∈ blks L x y, c.2 = gB L c.1 y := by
  refine blks_ind (fun x l => ∀ c ∈ l, c.2 = gB L c.1 y) (fun x h c hc => by cases hc) (fun x h hg ih c hc => ?_) x
  rcases List.mem_cons.1 hc with rfl | hc
  · rfl
  · exact ih c hc
theorem can_out {S : List Sp} (hc : Can S) {s : Sp} (hs : s ∈ S) : ¬ InS S (s.2 + 1) ∧ (0 < s.1 → ¬ InS S (s.1 - 1)) := by
  have hle := hc.2 s hs
  have key : ∀ s' ∈ S, s' = s ∨ s.2 + 1 < s'.1 ∨ s'.2 + 1 < s.1 := fun s' hs' => by
    rcases List.mem_iff_getElem.1 hs with ⟨i, hi, rfl⟩
    rcases List.mem_iff_getElem.1 hs' with ⟨k, hk, rfl⟩
    have hpw := List.pairwise_iff_getElem.1 hc.1
    rcases Nat.lt_trichotomy i k with hik | hik | hik
    · exact .inr (.inl (hpw i k hi hk hik))
    · subst hik; exact .inl rfl
    · exact .inr (.inr (hpw k i hk hi hik))
  constructor
  · rintro ⟨s', hs', h1, h2⟩
    rcases key s' hs' with rfl | h | h <;> omega
  · rintro h0 ⟨s', hs', h1, h2⟩
    rcases key s' hs' with rfl | h | h <;> omega
theorem sib_hit {i P k' x : Nat} (hx : x = 2 * k' * 2 ^ i ∨ x = (2 * k' + 1) * 2 ^ i) (h1 : 2 * k' * 2 ^ i ≤ P) (h2 : P < (2 * k' + 2) * 2 ^ i) (h3 : ¬ (x ≤ P ∧ P < x + 2 ^ i)) : sib i P = x := by
  have hp := two_pos i
  unfold sib
  generalize 2 ^ i = Q at *
  have e1 : (2 * k' + 1) * Q = 2 * k' * Q + Q := by rw [Nat.add_mul, Nat.one_mul]
  have e2 : (2 * k' + 2) * Q = 2 * k' * Q + 2 * Q := by rw [Nat.add_mul]
  rcases hx with rfl | rfl
  · have : P / Q = 2 * k' + 1 := by
      rw [Nat.div_eq_iff (by omega)]
      omega
    rw [this, if_neg (by omega), Nat.add_sub_cancel]
  · have : P / Q = 2 * k' := by
      rw [Nat.div_eq_iff (by omega)]
      omega
    rw [this, if_pos (by omega)]
theorem sibs_len (B : List Sp) : (B.flatMap fun (p : Sp) => (List.range 128).map fun i => sib i p.1).length = 128 * B.length := by
  induction B with
  | nil => rfl
  | cons b B ih =>
    rw [List.flatMap_cons, List.length_append, ih]
    simp
    omega
/-- how many prefixes a set needs: what is in two lists of prefixes, and not in a third one -/
theorem cover_len {S : List Sp} (hS : Can S) (hv : ∀ p ∈ S, VR p) {A C B : List Sp} (hA : ∀ p ∈ A, ∃ j, PfxSp p j) (hC : ∀ p ∈ C, ∃ j, PfxSp p j) (hB : ∀ p ∈ B, ∃ j, PfxSp p j)
    (h : ∀ x, InS S x ↔ InS A x ∧ InS C x ∧ ¬ InS B x) : (allB S).length ≤ A.length + C.length + 128 * B.length + 2 := by
  have hlen : (A.map Prod.fst ++ C.map Prod.fst ++ B.flatMap (fun (p : Sp) => (List.range 128).map fun i => sib i p.1) ++ [0, 2 ^ 128]).length = A.length + C.length + 128 * B.length + 2 := by
    have := sibs_len B
    rw [List.length_append, List.length_append, List.length_append, this]
    simp
  rw [← hlen]
  have := nodup_le (l := (allB S).map Prod.fst) (m := A.map Prod.fst ++ C.map Prod.fst ++ B.flatMap (fun (p : Sp) => (List.range 128).map fun i => sib i p.1) ++ [0, 2 ^ 128]) (by rw [List.pairwise_map]; exact allB_first hS) fun x hx => by
    obtain ⟨c, hc, rfl⟩ := List.mem_map.1 hx
    obtain ⟨vc, lc, dc, _⟩ := mem_allB hv hc
    obtain ⟨s, hs, hc⟩ := List.mem_flatMap.1 hc
    have hL := (blk_vn (hv s hs) ((blks_ok (LN s.1) s.1 s.2).each c hc).1 ((blks_ok (LN s.1) s.1 s.2).each c hc).2.1).2.1
    obtain ⟨b1, b2, hg⟩ := (blks_ok (LN s.1) s.1 s.2).each c hc
    have hgb := blks_gb s.1 c hc
    rw [List.mem_append, List.mem_append, List.mem_append]
    obtain ⟨i, hi⟩ : ∃ i, LN s.1 - c.2 = i := ⟨_, rfl⟩
    have hdv := hg.dvd
    have hft := hg.fits
    rw [hi] at hdv hft
    have hLb : LN s.1 ≤ 128 := by unfold LN; split <;> omega
    have hxS : ∀ t, c.1 ≤ t → t < c.1 + 2 ^ i → InS S t := fun t h1 h2 => ⟨s, hs, by omega, by omega⟩
    have hpi := two_pos i
    rcases Nat.lt_or_ge i (LN s.1) with hiL | hiL
    · obtain ⟨k, hk⟩ := hdv
      obtain ⟨k', hk'⟩ : ∃ k', k = 2 * k' ∨ k = 2 * k' + 1 := ⟨k / 2, by omega⟩
      have hx2 : c.1 = 2 * k' * 2 ^ i ∨ c.1 = (2 * k' + 1) * 2 ^ i := by
        rcases hk' with rfl | rfl
        · exact .inl (by rw [hk, Nat.mul_comm])
        · exact .inr (by rw [hk, Nat.mul_comm])
      have hps : 2 ^ (i + 1) = 2 * 2 ^ i := by rw [Nat.pow_succ, Nat.mul_comm]
      have e1 : (2 * k' + 1) * 2 ^ i = 2 * k' * 2 ^ i + 2 ^ i := by rw [Nat.add_mul, Nat.one_mul]
      have e2 : (2 * k' + 2) * 2 ^ i = 2 * k' * 2 ^ i + 2 * 2 ^ i := by rw [Nat.add_mul]
      obtain ⟨z, hz⟩ : ∃ z, 2 * k' * 2 ^ i = z := ⟨_, rfl⟩
      have hzd : 2 ^ (i + 1) ∣ z := ⟨k', by rw [hps, ← hz]; rw [Nat.mul_comm 2 k', Nat.mul_assoc, Nat.mul_comm]⟩
      -- a number of the next longer block that is not in the set
      have hout : ∃ t, z ≤ t ∧ t < z + 2 ^ (i + 1) ∧ ¬ InS S t := by
        have ho := can_out hS hs
        rcases Nat.lt_or_ge z s.1 with h1 | h1
        · exact ⟨s.1 - 1, by omega, by omega, ho.2 (by omega)⟩
        · rcases Nat.lt_or_ge s.2 (z + 2 ^ (i + 1) - 1) with h2 | h2
          · exact ⟨s.2 + 1, by omega, by omega, ho.1⟩
          · exfalso
            have hzc := blks_top (L := LN s.1) (a := s.1) (y := s.2) s.1 (Nat.le_refl _) (fun z j _ _ h3 h4 => by omega) c hc z (i + 1) (by omega) hzd h1 (by omega) (by omega) (by omega)
            have := gB_top (L := LN s.1) (x := c.1) (y := s.2) (j := i + 1) (by omega) (by rw [← hzc]; exact hzd) (by rw [← hzc]; omega)
            rw [← hgb, hi] at this
            omega
      obtain ⟨t, t1, t2, tS⟩ := hout
      have hxin := (h c.1).1 (hxS c.1 (Nat.le_refl _) (by omega))
      have side : ∀ D : List Sp, (∀ p ∈ D, ∃ j, PfxSp p j) → InS D c.1 → ¬ InS D t → c.1 ∈ D.map Prod.fst := fun D hD h1 h2 => by
        obtain ⟨p, hp, l1, l2⟩ := h1
        obtain ⟨j, hj⟩ := hD p hp
        have hpj := two_pos j
        rw [hj.snd] at l2
        rcases Nat.lt_or_ge i j with hij | hij
        · exfalso
          have := nest (t := c.1) hzd hj.dvd hij (by omega) (by omega) l1 (by omega)
          exact h2 ⟨p, hp, by omega, by rw [hj.snd]; omega⟩
        · have := nest (t := c.1) hj.dvd (by rw [hk]; exact Nat.dvd_mul_right _ _ : 2 ^ i ∣ c.1) hij l1 (by omega) (Nat.le_refl _) (by omega)
          exact List.mem_map.2 ⟨p, hp, by omega⟩
      by_cases hBt : InS B t
      · obtain ⟨p, hp, l1, l2⟩ := hBt
        obtain ⟨j, hj⟩ := hB p hp
        have hpj := two_pos j
        rw [hj.snd] at l2
        have hij : j ≤ i := by
          rcases Nat.lt_or_ge i j with hij | hij
          · exfalso
            have := nest (t := t) hzd hj.dvd hij t1 t2 l1 (by omega)
            exact hxin.2.2 ⟨p, hp, by omega, by rw [hj.snd]; omega⟩
          · exact hij
        have hn := nest (t := t) hj.dvd hzd (by omega) l1 (by omega) t1 t2
        have hno : ¬ (c.1 ≤ p.1 ∧ p.1 < c.1 + 2 ^ i) := fun hh => by
          have := (h p.1).1 (hxS p.1 hh.1 hh.2)
          exact this.2.2 ⟨p, hp, Nat.le_refl _, by rw [hj.snd]; omega⟩
        have hsb : sib i p.1 = c.1 := sib_hit hx2 (by omega) (by omega) hno
        exact .inl (.inr (List.mem_flatMap.2 ⟨p, hp, List.mem_map.2 ⟨i, List.mem_range.2 (by omega), hsb⟩⟩))
      · by_cases hAt : InS A t
        · have hCt : ¬ InS C t := fun hct => tS ((h t).2 ⟨hAt, hct, hBt⟩)
          exact .inl (.inl (.inr (side C hC hxin.2.1 hCt)))
        · exact .inl (.inl (.inl (side A hA hxin.1 hAt)))
    · refine .inr ?_
      obtain rfl : i = LN s.1 := by omega
      rw [← hL] at hdv
      obtain ⟨k, hk⟩ := hdv
      rcases vc.cases with ⟨a, _, _, d⟩ | ⟨a, b, b', b''⟩
      · have hl : LN c.1 = 32 := by rw [LN_six, a]; rfl
        rw [hl] at hk
        have : k = 0 := by omega
        rw [hk, this]
        simp
      · have hl : LN c.1 = 128 := by rw [LN_six, a]; rfl
        rw [hl] at hk
        have hb : 2 ^ 128 ≤ c.1 ∧ c.1 < 2 ^ 129 := by
          rcases vc with h | h
          · have := of_decide_eq_true a; omega
          · exact h
        have : k = 1 := by omega
        rw [hk, this]
        simp
  rw [List.length_map] at this
  exact this
end Go.Proofs.YtaeieigdibanlaaGreatDoor

namespace Go.Proofs.YtaeieigdibanlaaGreatDoor
open Go.RowKit Go
set_option linter.unusedVariables false

theorem OkPf.u4 {p : Pf} (h : OkPf p) : U64N p.2.1 ∧ U64N p.2.2.1 := ⟨h.ok.1.1, h.ok.1.2.1⟩
theorem u4_ok {L : List Pf} (h : ∀ p ∈ L, OkPf p) : U4 L := fun p hp => (h p hp).u4
set_option maxRecDepth 100000 in
set_option maxHeartbeats 1000000 in
theorem prefixes_gen (b m k : Nat) (w : World) (h : Strm w b m) (hk : k ≤ 1000) (hm : m + 5 * k + 20 < 1099511627776) :
    Calls Tryz.prog 30 #[.pointer (some ⟨b, 0, none⟩), .int .i64 (k : Int)] w fun e w' => ∃ v L, e = .returned v ∧ OwnK layPf w' w.heap.size v L ∧ L.length = k ∧ (∀ p ∈ L, OkPf p) ∧ Gen b w w' (m + 5 * k) := by
  have hblt := h.lt
  have HG0 : Hid (Gen b w w m) := Lib.hid (Gen.start h)
  clear h
  go_enter Tryz.func30, Tryz.ntmps30
  go_wp2_with fail
  go_loopw [5, 7] (fun out i wr => ∃ (j : Nat) (L : List Pf), j ≤ k ∧ i = .int .i64 (j : Int) ∧ Hid (OwnK layPf wr w.heap.size out L) ∧ Hid (L.length = j) ∧ Hid (∀ p ∈ L, OkPf p) ∧ Hid (Gen b w wr (m + 5 * j))) (fun _ i _ => k - (intOf i).toNat)
  case atStart => exact ⟨0, [], Nat.zero_le _, rfl, Lib.hid (OwnK.nil _ _ _), Lib.hid rfl, Lib.hid (by simp), HG0⟩
  case round =>
    obtain ⟨j, L, hj, rfl, HO, HL, HK, HG⟩ := hrel
    by_cases hlt : j < k
    · go_wp2_with fail
      refine (rightPrefix_ok b (m + 5 * j) _ HG.out.s (by omega)).mono ?_
      rintro e w2 ⟨⟨q1, q2, q3, q4⟩, rfl, hok, hg⟩
      have HO2 : Hid (OwnK layPf w2 w.heap.size u5 L) := Lib.hid (HO.out.gen hg hblt)
      have HG2 : Hid (Gen b w w2 (m + 5 * (j + 1))) := Lib.hid ((HG.out.trans hg).mono (by omega))
      have HK2 : Hid (∀ p ∈ L ++ [(q1, q2, q3, q4)], OkPf p) := Lib.hid (ok_append HK.out fun p hp => by rw [List.mem_singleton.1 hp]; exact hok)
      clear hg HO HG hok HK
      simp only [pfC]
      go_wp2_with (at_builtin; refine wpList_app pfE rfl (.tmp 9) (.tmp 12) rfl rfl (World.ownsRow.alloc HO2.out _) rfl (src_new layPf _ (q1, q2, q3, q4) _ _ ?c0) ?c1 ?c2 ?c3 ?c4 ?_)
      case c0 => rfl
      case c1 => exact layPf.one _
      case c2 => have := HL.out; unfold maxLen; omega
      case c3 => have := HL.out; omega
      case c4 => have := HG2.out.g.size; simp; omega
      intro v' w' hO hG
      have HO' : Hid (OwnK layPf w' w.heap.size v' (L ++ [(q1, q2, q3, q4)])) := Lib.hid (OwnK.snoc hO)
      have HG' : Hid (Gen b w w' (m + 5 * (j + 1))) := Lib.hid (HG2.out.below (hG.allocFirst.below HG2.out.g.size (own_base HO2.out)) (Nat.le_refl _) hblt)
      clear hO hG HO2 HG2
      go_wp2
      exact ⟨⟨j + 1, L ++ [(q1, q2, q3, q4)], by omega, by go_num, HO', Lib.hid (by rw [List.length_append, HL.out]; rfl), HK2, HG'⟩, by simp [intOf]; omega⟩
    · obtain rfl : j = k := by omega
      go_wp2_with fail
      go_ret
      exact ⟨_, L, rfl, HO.out, HL.out, HK.out, HG.out⟩
set_option maxRecDepth 100000 in
set_option maxHeartbeats 1000000 in
theorem rightSet_gen (b m : Nat) (w : World) (h : Strm w b m) (hm : m + 50 < 1099511627776) :
    Calls Tryz.prog 62 #[.pointer (some ⟨b, 0, none⟩)] w fun e w' => ∃ v L, e = .returned v ∧ OwnK layPf w' w.heap.size v L ∧ L.length ≤ 5 ∧ (∀ p ∈ L, OkPf p) ∧ Gen b w w' (m + 26) := by
  have hblt := h.lt
  have HG0 : Hid (Gen b w w m) := Lib.hid (Gen.start h)
  clear h
  go_enter Tryz.func62, Tryz.ntmps62
  go_wp2_with fail
  refine (range_gen b m _ _ _ HG0.out.s (by omega) (by omega) (by omega)).mono ?_
  rintro e w1 ⟨y, rfl, ⟨hy0, hy1⟩, hg⟩
  obtain ⟨k, rfl⟩ := Int.eq_ofNat_of_zero_le hy0
  have hk : k ≤ 5 := by omega
  have HG1 := Lib.hid (HG0.out.trans hg)
  clear hg HG0 hy0 hy1
  go_wp2_with fail
  refine (prefixes_gen b (m + 1) k _ HG1.out.s (by omega) (by omega)).mono ?_
  rintro e w2 ⟨v, L, rfl, hO, hl, hok, hg⟩
  have HG2 := Lib.hid (HG1.out.trans hg)
  obtain ⟨ad, c, rfl, _⟩ := hO.form
  have HS := Lib.hid (leastOf_any ad k c L w2 (by rw [hl] at hO; exact hO.rd) hl (by omega) hok)
  have HK := Lib.hid (ok_lst hok)
  have HLl : Hid ((lst L).length ≤ 5) := Lib.hid (by have := lst_len hok; omega)
  rw [hl]
  clear hO hl hok hg HG1
  go_wp2_with fail
  refine HS.out.mono ?_
  rintro e w3 ⟨v, rfl, hO, hB⟩
  have hs := HG2.out.g.size
  have HO3 := Lib.hid (hO.weak hs)
  have HG3 := Lib.hid (HG2.out.below0 hB (Nat.lt_of_lt_of_le hblt hs))
  clear hO hB HG2
  go_wp2_with fail
  go_ret
  exact ⟨_, _, rfl, HO3.out, HLl.out, HK.out, HG3.out.mono (by omega)⟩
theorem u4_app {L M : List Pf} (h : U4 L) (k : U4 M) : U4 (L ++ M) := fun p hp => (List.mem_append.1 hp).elim (h p) (k p)
set_option maxRecDepth 100000 in
set_option maxHeartbeats 4000000 in
theorem set_gen (b m : Nat) (w : World) (h : Strm w b m) (hm : m + 100 < 1099511627776) :
    Calls Tryz.prog 25 #[.pointer (some ⟨b, 0, none⟩)] w fun e w' => ∃ v L, e = .returned v ∧ OwnK layPf w' w.heap.size v L ∧ L.length ≤ 6 ∧ U4 L ∧ Gen b w w' (m + 50) := by
  have hblt := h.lt
  have HG0 : Hid (Gen b w w m) := Lib.hid (Gen.start h)
  clear h
  go_enter Tryz.func25, Tryz.ntmps25
  go_wp2_with fail
  refine (rightSet_gen b m _ HG0.out.s (by omega)).mono ?_
  rintro e w1 ⟨v, L, rfl, hO, hl, hok, hg⟩
  have HO1 := Lib.hid hO
  have HG1 := Lib.hid (HG0.out.trans hg)
  have HU1 := Lib.hid (u4_ok hok)
  clear hO hok hg HG0
  go_wp2_with fail
  refine (flip_gen b (m + 26) _ _ HG1.out.s (by omega) (by omega)).mono ?_
  rintro e w2 ⟨kk, rfl, hg⟩
  have HO2 := Lib.hid (HO1.out.gen hg hblt)
  have HG2 := Lib.hid (HG1.out.trans hg)
  clear hg HO1 HG1
  go_upto_if 7 with fail
  go_cut [3] (fun s wx => ∃ L : List Pf, L.length ≤ 6 ∧ U4 L ∧ OwnK layPf wx w.heap.size s L ∧ Gen b w wx (m + 45))
  case first =>
    cases kk
    · go_wp2_with fail
      go_meet
      case rel => exact ⟨L, by omega, HU1.out, HO2.out, HG2.out.mono (by omega)⟩
    · go_wp2_with fail
      refine (prefix_gen b (m + 26 + 1) _ HG2.out.s (by omega)).mono ?_
      rintro e w3 ⟨q1, q2, q3, q4, rfl, h1, h2, -, hg⟩
      have HO3 := Lib.hid (HO2.out.gen hg hblt)
      have HG3 := Lib.hid (HG2.out.trans hg)
      have HU3 : Hid (U4 (L ++ [(q1, q2, q3, q4)])) := Lib.hid (u4_app HU1.out fun p hp => by rw [List.mem_singleton.1 hp]; exact ⟨h1, h2⟩)
      clear hg h1 h2 HO2 HG2
      unfold vP
      go_wp2_with (at_builtin; refine wpList_app pfE rfl (.tmp 8) (.tmp 11) rfl rfl (World.ownsRow.alloc HO3.out _) rfl (src_new layPf _ (q1, q2, q3, q4) _ _ ?c0) ?c1 ?c2 ?c3 ?c4 ?_)
      case c0 => rfl
      case c1 => exact layPf.one _
      case c2 => unfold maxLen; omega
      case c3 => omega
      case c4 => have := HG3.out.g.size; simp; omega
      intro v' w' hO hG
      have HO' := Lib.hid (OwnK.snoc (x := (q1, q2, q3, q4)) hO)
      have HG' := Lib.hid (HG3.out.below (hG.allocFirst.below HG3.out.g.size (own_base HO3.out)) (Nat.le_refl _) hblt)
      clear hO hG HO3 HG3
      go_wp2_with fail
      go_meet
      case rel => exact ⟨_, by rw [List.length_append]; simp; omega, HU3.out, HO'.out, HG'.out.mono (by omega)⟩
  case rest =>
    clear HO2 HG2 HU1 hl
    obtain ⟨L, hl, hu, hO, hG⟩ := hcut
    obtain ⟨ad, c, hv, _, _, _⟩ := hO.form
    have HO := Lib.hid hO
    have HG := Lib.hid hG
    have HU := Lib.hid hu
    clear hO hG hu
    subst hv
    obtain ⟨n, hn⟩ : ∃ n, L.length = n := ⟨_, rfl⟩
    rw [hn] at HO hl ⊢
    have Hn := Lib.hid hn
    clear hn
    by_cases h1 : 1 < n
    · have g1 : ((n : Int) > 1) := by omega
      go_wp2_with fail
      refine (flip_gen b (m + 45) _ _ HG.out.s (by omega) (by omega)).mono ?_
      rintro e w2 ⟨kk, rfl, hg⟩
      have HO2 := Lib.hid (HO.out.gen hg hblt)
      have HG2 := Lib.hid (HG.out.trans hg)
      clear hg HO HG
      cases kk
      · go_wp2_with fail
        go_ret
        exact ⟨_, L, rfl, HO2.out, by rw [Hn.out]; exact hl, HU.out, HG2.out.mono (by omega)⟩
      · have h0L : 0 < L.length := by rw [Hn.out]; omega
        have h1L : 1 < L.length := by rw [Hn.out]; omega
        obtain ⟨⟨x1, x2, x3, x4⟩, hx⟩ : ∃ x, L[0]? = some x := ⟨_, List.getElem?_eq_getElem h0L⟩
        obtain ⟨⟨y1, y2, y3, y4⟩, hy⟩ : ∃ y, L[1]? = some y := ⟨_, List.getElem?_eq_getElem h1L⟩
        obtain ⟨g, c', hv, hg, hgl, hc1, hc2⟩ := HO2.out.one (by omega)
        rw [Hn.out] at hv hc1
        injection hv with hv1 _ hv3
        subst hv1 hv3
        have HO3 : Hid (OwnK layPf w2 w.heap.size (.slice (some ⟨g, 0, none⟩) n c) L) := HO2
        clear HO2
        have e0 : ∀ j v, (pfC (x1, x2, x3, x4))[j]? = some v → w2.cell? ⟨g, 0 * 4 + j, none⟩ = some v := fun j v hv => HO3.out.get hx hv
        have e1 : ∀ j v, (pfC (y1, y2, y3, y4))[j]? = some v → w2.cell? ⟨g, 1 * 4 + j, none⟩ = some v := fun j v hv => HO3.out.get hy hv
        have a0 := e0 0 _ rfl
        have a1 := e0 1 _ rfl
        have a2 := e0 2 _ rfl
        have a3 := e0 3 _ rfl
        have b0 := e1 0 _ rfl
        have b1 := e1 1 _ rfl
        have b2 := e1 2 _ rfl
        have b3 := e1 3 _ rfl
        simp only [Nat.zero_mul, Nat.zero_add, Nat.one_mul, Nat.reduceAdd] at a0 a1 a2 a3 b0 b1 b2 b3
        have hfz : ∀ i, w2.frozen? ⟨g, i, none⟩ = false := fun i => HO3.out.frozen i
        have HSw : Hid (∀ wx : World, OwnK layPf wx w.heap.size (.slice (some ⟨g, 0, none⟩) n c) L → ∃ L', L'.length ≤ 6 ∧ U4 L' ∧ OwnK layPf (setCs (setCs wx g (0 * 4 + 0) (pfC (y1, y2, y3, y4))) g (1 * 4 + 0) (pfC (x1, x2, x3, x4))) w.heap.size (.slice (some ⟨g, 0, none⟩) n c) L') := Lib.hid fun wx hO => by
          have k1 := OwnK.sets (i := 0) (j := 0) (y := (y1, y2, y3, y4)) hO (pfC (y1, y2, y3, y4)) hx (by show 0 + 4 ≤ 4; decide) rfl
          have k2 := OwnK.sets (i := 1) (j := 0) (y := (x1, x2, x3, x4)) k1 (pfC (x1, x2, x3, x4)) (x := (y1, y2, y3, y4)) (by rw [List.getElem?_set_ne (by decide)]; exact hy) (by show 0 + 4 ≤ 4; decide) rfl
          refine ⟨_, ?_, fun p hp => ?_, k2⟩
          · rw [List.length_set, List.length_set, Hn.out]; exact hl
          · rcases List.mem_or_eq_of_mem_set hp with hp | rfl
            · rcases List.mem_or_eq_of_mem_set hp with hp | rfl
              · exact HU.out p hp
              · exact HU.out _ (List.mem_of_getElem? hy)
            · exact HU.out _ (List.mem_of_getElem? hx)
        have i0 : (0 : Int) < (n : Int) := by omega
        have i1 : (1 : Int) < (n : Int) := by omega
        clear e0 e1 hx hy HU Hn h0L h1L
        go_upto_region 5 with fail
        go_region
        go_wp2_with fail
        obtain ⟨L', hL', hU', hO'⟩ := HSw.out _ HO3.out
        have hgB : w.heap.size ≤ g := HO3.out.block.2.1
        have hbg : b < g := Nat.lt_of_lt_of_le hblt hgB
        have hO2 := OwnK.later hO' (below_drew (Below.refl _ _))
        go_ret
        refine ⟨_, L', rfl, hO2, hL', hU', ?_⟩
        refine Gen.mono (m := m + 45 + 1) (Gen.drew ?_) (by omega)
        repeat refine Gen.setCell ?_ _ _ hgB hbg
        exact HG2.out
    · have g1 : ¬ ((n : Int) > 1) := by omega
      go_wp2_with fail
      go_ret
      exact ⟨_, rfl, L, HO.out, by rw [Hn.out]; exact hl, HU.out, HG.out.mono (by omega)⟩
end Go.Proofs.YtaeieigdibanlaaGreatDoor

namespace Go.Proofs.YtaeieigdibanlaaGreatDoor
open Go.RowKit Go
set_option linter.unusedVariables false

set_option maxRecDepth 100000 in
set_option maxHeartbeats 4000000 in
theorem setFault_any (ad : Option Addr) (n c : Nat) (L : List Pf) (w : World) (h : RdK layPf w ad L) (hn : L.length = n) (hs : n ≤ 100000) (hu : U4 L) :
    Calls Tryz.prog 27 #[.slice ad n c] w (Ret (.int .i64 (setF L)) w) := by
  by_cases hb : 1000 < n
  · have e : setF L = 2 := by unfold setF; rw [hn, if_pos hb]
    rw [e]
    have hb2 : (n : Int) > 1000 := by omega
    clear h hu hn e
    go_enter Tryz.func27, Tryz.ntmps27
    go_wp2_with fail
    go_ret
    exact ⟨rfl, Below.refl _ _⟩
  · have hb2 : ¬ (n : Int) > 1000 := by omega
    have H0 := Lib.hid h
    have Hn := Lib.hid hn
    have Hu := Lib.hid hu
    have HF : Hid (∀ k, k < n → (∀ j, j < k → fAt L j = 0) → fAt L k ≠ 0 → setF L = fAt L k) := Lib.hid fun k hk h1 h2 => by
      have e := firstN_hit (fAt L) n k hk h1 h2
      unfold setF scanF
      rw [hn, if_neg hb, if_pos (by rw [e]; exact h2), e]
    have HZ : Hid ((∀ j, j < n → fAt L j = 0) → (∀ p ∈ L, OkPf p) ∧ (lst L = L → setF L = 0) ∧ (lst L ≠ L → setF L = 16)) := Lib.hid fun h1 => by
      have e := firstN_none (fAt L) n h1
      refine ⟨fun p hp => ?_, fun h2 => ?_, fun h2 => ?_⟩
      · obtain ⟨i, hi, rfl⟩ := List.getElem_of_mem hp
        have := fAt_zero (h1 i (by omega))
        simp only [List.getD, List.getElem?_eq_getElem hi, Option.getD_some] at this
        obtain ⟨u1, u2⟩ := hu _ (List.getElem_mem hi)
        exact okPf_of this u1 u2
      · unfold setF scanF
        rw [hn, if_neg hb, e, if_neg (by decide), if_pos h2]
      · unfold setF scanF
        rw [hn, if_neg hb, e, if_neg (by decide), if_neg h2]
    obtain ⟨af, haf⟩ : ∃ z, setF L = z := ⟨_, rfl⟩
    rw [haf] at HF HZ ⊢
    clear haf h hn hu hb
    go_enter Tryz.func27, Tryz.ntmps27
    go_wp2_with fail
    go_loopw [3, 4, 5, 11] (fun iv bx ev i wr => ∃ (k : Nat), k ≤ n ∧ i = .int .i64 k ∧ Hid (∀ j, j < k → fAt L j = 0) ∧ Hid (Below w.heap.size w wr)) (fun _ _ _ i _ => n - (intOf i).toNat)
    case atStart => exact ⟨0, Nat.zero_le _, rfl, Lib.hid fun j hj => absurd hj (Nat.not_lt_zero _), Lib.hid (Below.refl _ _)⟩
    case round =>
      obtain ⟨k, hk, rfl, HX, HB⟩ := hrel
      by_cases hlt : k < n
      · have hS : k < L.length := by rw [Hn.out]; exact hlt
        obtain ⟨p, hp⟩ : ∃ p, L[k]? = some p := ⟨_, List.getElem?_eq_getElem hS⟩
        have hpd : L.getD k zPf = p := by simp [List.getD, hp]
        have HU := Lib.hid (Hu.out p (List.mem_of_getElem? hp))
        obtain ⟨g, o, had, hg, c0, c1, c2, c3⟩ := (H0.out.below HB.out).pf hp rfl
        subst had
        have HP := Lib.hid fun wx => prefixFault_any p.1 p.2.1 p.2.2.1 p.2.2.2 wx HU.out.1 HU.out.2
        have HFk := Lib.hid (HF.out k hlt HX.out)
        have HXk : Hid (fAt L k = 0 → ∀ j, j < k + 1 → fAt L j = 0) := Lib.hid fun e j hj => by
          rcases Nat.lt_or_ge j k with h1 | h1
          · exact HX.out j h1
          · obtain rfl : j = k := by omega
            exact e
        have HA : Hid (fAt L k = if pfF p ≠ 0 then pfF p else if 0 < k ∧ nuP p ≤ nuP (L.getD (k - 1) zPf) then 7 else 0) := Lib.hid (by unfold fAt; rw [hpd])
        have HNu : Hid (nuP p = numA p.1 p.2.1 p.2.2.1) := Lib.hid rfl
        unfold pfF at HA
        unfold vP at HP
        clear hp hS hpd hg HX
        generalize hFe : pFault p.1 p.2.1 p.2.2.1 p.2.2.2 = F at *
        clear hFe
        generalize p.1 = a1 at *
        generalize p.2.1 = a2 at *
        generalize p.2.2.1 = a3 at *
        generalize p.2.2.2 = a4 at *
        have HB1 : Hid (Below w.heap.size w (wr.alloc (.cells #[.bool a1, .int .u64 (a2 : Int), .int .u64 (a3 : Int), .int .i64 a4] 90 (0, 0)))) := Lib.hid (Below.alloc HB.out HB.out.size _)
        have HP1 : Hid (Blk (wr.alloc (.cells #[.bool a1, .int .u64 (a2 : Int), .int .u64 (a3 : Int), .int .i64 a4] 90 (0, 0))) wr.heap.size 90 #[.bool a1, .int .u64 (a2 : Int), .int .u64 (a3 : Int), .int .i64 a4]) := Lib.hid (Blk.new wr _ _)
        go_upto_region 6 with fail
        generalize wr.alloc (.cells #[.bool a1, .int .u64 (a2 : Int), .int .u64 (a3 : Int), .int .i64 a4] 90 (0, 0)) = w3 at *
        generalize wr.heap.size = bx at *
        clear HB c0 c1 c2 c3
        have d0 := HP1.out.cell 0
        have d1 := HP1.out.cell 1
        have d2 := HP1.out.cell 2
        have d3 := HP1.out.cell 3
        simp at d0 d1 d2 d3
        go_wp2_with fail
        refine (HP.out _).mono ?_
        rintro e w4 ⟨rfl, hb⟩
        have HB4 := Lib.hid (HB1.out.trans (hb.mono HB1.out.size))
        have HP4 := Lib.hid (HP1.out.below hb HP1.out.lt)
        clear hb HB1 HP1 HP d0 d1 d2 d3
        by_cases hF0 : F = 0
        · rcases Nat.eq_zero_or_pos k with hk0 | hk0
          · have HX2 := Lib.hid (HXk.out (by rw [HA.out, if_neg (by simp [hF0]), if_neg (by omega)]))
            subst hF0 hk0
            have z0 : ((0 : Nat) : Int) = 0 := rfl
            simp only [z0]
            clear HFk HXk HA HNu HU
            go_wp2_with fail
            refine wp_region_later (by kernel_rfl) (by kernel_rfl) ?_
            repeat (go_big_quiet_step (fail))
            refine wpQuiet_nil ?_
            rintro w5 ⟨n5, hn5⟩
            have hb : Below w4.heap.size w4 w5 := by rw [hn5]; exact n5.2
            clear hn5 n5
            have HB5 := Lib.hid (HB4.out.trans (hb.mono HB4.out.size))
            clear hb
            go_wp2_with fail
            exact ⟨⟨1, by omega, by first | rfl | go_num, HX2, HB5⟩, by simp [intOf]; omega⟩
          · obtain ⟨j, hj⟩ : ∃ j, k = j + 1 := ⟨k - 1, by omega⟩
            have hjS : j < L.length := by rw [Hn.out]; omega
            obtain ⟨q, hq⟩ : ∃ q, L[j]? = some q := ⟨_, List.getElem?_eq_getElem hjS⟩
            have hqd : L.getD (k - 1) zPf = q := by rw [hj]; simp [List.getD, hq]
            obtain ⟨hu3, hu4⟩ := Hu.out q (List.mem_of_getElem? hq)
            obtain ⟨g', o', had, hg', b0, b1, b2, b3⟩ := (H0.out.below HB4.out).pf hq rfl
            injection had with had
            injection had with had1 had2
            subst had1 had2
            have HO := Lib.hid fun wx => order_any q.1 q.2.1 q.2.2.1 a1 a2 a3 wx hu3 hu4 HU.out.1 HU.out.2
            have HA2 : Hid (fAt L k = if nuP p ≤ nuP q then 7 else 0) := Lib.hid (by
              rw [HA.out, if_neg (by simp [hF0]), hqd]
              by_cases h1 : nuP p ≤ nuP q
              · rw [if_pos h1, if_pos ⟨hk0, h1⟩]
              · rw [if_neg h1, if_neg (fun h => h1 h.2)])
            have HCg := Lib.hid (cN_ge_iff (nuP q) (nuP p))
            have HNq : Hid (nuP q = numA q.1 q.2.1 q.2.2.1) := Lib.hid rfl
            rw [← HNq.out, ← HNu.out] at HO
            clear hq hqd hjS hu3 hu4 HA HNu HNq hg'
            generalize nuP q = nq at *
            generalize nuP p = np at *
            generalize q.1 = e1 at *
            generalize q.2.1 = e2 at *
            generalize q.2.2.1 = e3 at *
            generalize q.2.2.2 = e4 at *
            have i1 : (k : Int) - 1 = (j : Int) := by omega
            have i2 : decide (0 < k) = true := decide_eq_true hk0
            have i3 : (j : Int) < (n : Int) := by omega
            have i4 : (0 : Int) ≤ (j : Int) := by omega
            have i5 : (k : Int) ≤ 1000 := by omega
            have Hj := Lib.hid hj
            clear hj hk0
            have d0 := HP4.out.cell 0
            have d1 := HP4.out.cell 1
            have d2 := HP4.out.cell 2
            have d3 := HP4.out.cell 3
            simp at d0 d1 d2 d3
            have l0 := Later.cell_of d0
            have l1 := Later.cell_of d1
            have l2 := Later.cell_of d2
            have k0 := Later.cell_of b0
            have k1 := Later.cell_of b1
            have k2 := Later.cell_of b2
            have hO := fun x : Later w4 => Calls.later x (HO.out x.1)
            subst hF0
            generalize cN nq np = C at *
            go_upto_region 9 with fail
            refine wp_region_later (by kernel_rfl) (by kernel_rfl) ?_
            repeat (go_big_quiet_step ((go_at_call 66; exact hO _)))
            refine wpQuiet_nil ?_
            rintro w5 ⟨n5, hn5⟩
            have hb : Below w4.heap.size w4 w5 := by rw [hn5]; exact n5.2
            clear hn5 n5 hO HO l0 l1 l2 k0 k1 k2 d0 d1 d2 d3 b0 b1 b2 b3
            have HB5 := Lib.hid (HB4.out.trans (hb.mono HB4.out.size))
            clear hb HP4 HB4
            by_cases hnn : np ≤ nq
            · have hC0 : C ≥ 0 := HCg.out.2 hnn
              have HE := Lib.hid (HFk.out (by rw [HA2.out, if_pos hnn]; decide))
              have HE2 : Hid (af = 7) := Lib.hid (by rw [HE.out, HA2.out, if_pos hnn])
              clear HFk HXk HA2 HE HU
              go_wp2_with fail
              go_ret
              exact ⟨by rw [HE2.out]; rfl, HB5.out⟩
            · have hC0 : ¬ C ≥ 0 := fun h => hnn (HCg.out.1 h)
              have HX2 := Lib.hid (HXk.out (by rw [HA2.out, if_neg hnn]))
              clear HFk HXk HA2 HU
              go_wp2_with fail
              exact ⟨⟨k + 1, by omega, by go_num, HX2, HB5⟩, by simp [intOf]; omega⟩
        · have hF2 : (F != 0) = true := by simpa using hF0
          have hFA : fAt L k = F := by rw [HA.out, if_pos hF0]
          have HE : Hid (af = F) := Lib.hid (by rw [HFk.out (by rw [hFA]; exact hF0), hFA])
          clear HFk HXk hF0 HA hFA HU
          go_wp2_with fail
          go_ret
          exact ⟨by rw [HE.out]; rfl, HB4.out⟩
      · obtain rfl : k = n := by omega
        obtain ⟨hok, hz0, hz1⟩ := HZ.out HX.out
        have HR := Lib.hid (H0.out.below HB.out)
        have HZ0 := Lib.hid hz0
        have HZ1 := Lib.hid hz1
        have HS := Lib.hid (leastOf_any ad k c L wr HR.out Hn.out hs hok)
        have HLl := Lib.hid (lst_len hok)
        clear hok hz0 hz1 HZ HF HX Hu
        go_wp2_with fail
        refine HS.out.mono ?_
        rintro e w4 ⟨v, rfl, hO, hB⟩
        obtain ⟨ad4, c4, rfl, _⟩ := hO.form
        have HQ := Lib.hid (equal_pf ad4 ad c4 c (lst L) L w4 hO.rd (HR.out.below hB) (by have := HLl.out; rw [Hn.out] at this; omega))
        rw [Hn.out] at HQ
        have HB4 := Lib.hid (HB.out.trans (hB.mono HB.out.size))
        clear hO hB HB HR HS HLl
        generalize (lst L).length = ll at *
        go_wp2_with fail
        refine HQ.out.mono ?_
        rintro e w5 ⟨rfl, q5, rfl⟩
        have HB5 := Lib.hid (below_drewN HB4.out q5)
        by_cases hq : lst L = L
        · have HE := Lib.hid (HZ0.out hq)
          rw [decide_eq_true hq]
          clear hq HQ HZ0 HZ1
          go_wp2_with fail
          go_ret
          exact ⟨by rw [HE.out]; rfl, HB5.out⟩
        · have HE := Lib.hid (HZ1.out hq)
          rw [decide_eq_false hq]
          clear hq HQ HZ0 HZ1
          go_wp2_with fail
          go_ret
          exact ⟨by rw [HE.out]; rfl, HB5.out⟩
end Go.Proofs.YtaeieigdibanlaaGreatDoor

namespace Go.Proofs.YtaeieigdibanlaaGreatDoor
open Go.RowKit Go
set_option linter.unusedVariables false

theorem covers_eq {a b : List Pf} (ha : ∀ p ∈ a, OkPf p) (hb : ∀ p ∈ b, OkPf p) (hl : lst a = a) : jn (both (spn b) (gaps (spn a))) = [] ↔ unionR a b = a := by
  have hab := ok_append ha hb
  have hg := gaps_ok (spn_can ha) (spn_vr ha)
  obtain ⟨-, hm, hv⟩ := both_ok (spn_can hb) hg.1 (spn_vr hb) hg.2.2
  have hin : ∀ x, InS (spn (a ++ b)) x ↔ InS (spn a) x ∨ InS (spn b) x := fun x => by
    rw [inS_spn hab, inS_spn ha, inS_spn hb, List.map_append, inS_append]
  constructor
  · intro h
    have hsub : ∀ x, InS (spn b) x → InS (spn a) x := fun x hx => by
      rcases Classical.em (InS (spn a) x) with h1 | h1
      · exact h1
      · have := (hm x).2 ⟨hx, (hg.2.1 x).2 ⟨vr_vn (spn_vr hb) hx, h1⟩⟩
        rw [h] at this
        exact absurd this (inS_nil x)
    have he : spn (a ++ b) = spn a := can_unique (spn_can hab) (spn_can ha) fun x => by
      rw [hin]
      exact ⟨fun h => h.elim id (hsub x), .inl⟩
    show lst (a ++ b) = a
    rw [lst_eq, he, ← lst_eq, hl]
  · intro h
    have h : lst (a ++ b) = a := h
    have he : spn (a ++ b) = spn a := by rw [← spn_lst hab, h]
    cases hB : jn (both (spn b) (gaps (spn a))) with
    | nil => rfl
    | cons p T =>
      exfalso
      have hp : InS (jn (both (spn b) (gaps (spn a)))) p.1 := ⟨p, by rw [hB]; simp, Nat.le_refl _, (hv p (by rw [hB]; simp)).le⟩
      obtain ⟨h1, h2⟩ := (hm _).1 hp
      have h3 := ((hg.2.1 _).1 h2).2
      apply h3
      rw [← he]
      exact (hin _).2 (.inr h1)
end Go.Proofs.YtaeieigdibanlaaGreatDoor

namespace Go.Proofs.YtaeieigdibanlaaGreatDoor
open Go.RowKit Go
set_option linter.unusedVariables false

theorem prev_num {x : Nat} (hx : VN x) (hp : VN (x - 1)) (hs : sixN (x - 1) = sixN x) (h0 : 0 < x) :
    hiN (x - 1) = hiN x - (if loN x < 1 + 0 then 1 else 0) ∧ loN (x - 1) = (loN x + 18446744073709551616 - 1 - 0) % 18446744073709551616 ∧ (if loN x < 1 + 0 then 1 else 0) ≤ hiN x ∧ hiN x < 18446744073709551616 := by
  have u1 := hiN_u x
  have u2 := loN_u x
  unfold U64N at u1 u2
  rcases hx.cases with ⟨a, b, c, d⟩ | ⟨a, b, c, d⟩ <;> rcases hp.cases with ⟨a', b', c', d'⟩ | ⟨a', b', c', d'⟩
  · rw [b, b', c, c']
    have : ¬ x < 1 + 0 := by omega
    rw [if_neg this]
    omega
  · rw [a, a'] at hs; cases hs
  · rw [a, a'] at hs; cases hs
  · have u3 := hiN_u (x - 1)
    have u4 := loN_u (x - 1)
    unfold U64N at u3 u4
    by_cases hl : loN x < 1 + 0
    · rw [if_pos hl]
      omega
    · rw [if_neg hl]
      omega
theorem sub64_one (x : Nat) (w : World) : (callFunc 155 #[.int .u64 (x : Int), .int .u64 1, .int .u64 0]).run Tryz.prog w = .ok (.value (.tuple #[.int .u64 (((x + 18446744073709551616 - 1 - 0) % 18446744073709551616 : Nat) : Int), .int .u64 ((if x < 1 + 0 then 1 else 0 : Nat) : Int)])) w := by
  rw [run_callFunc_extern Tryz.func155 (by kernel_rfl) (by kernel_rfl) (by kernel_rfl) (e := Go.Proofs.sub64Entry) (by kernel_rfl)]
  have := Go.Proofs.run_sub64 (P := Tryz.prog) x 1 0 (by decide) w
  rw [show ((1 : Nat) : Int) = 1 from rfl, show ((0 : Nat) : Int) = 0 from rfl] at this
  rw [this]
  rfl
set_option maxRecDepth 100000 in
set_option maxHeartbeats 1000000 in
theorem beforeN {x : Nat} (w : World) (hx : VN x) (hp : VN (x - 1)) (hs : sixN (x - 1) = sixN x) (h0 : 0 < x) : Calls Tryz.prog 124 #[.agg (aN x)] w (Ret (.agg (aN (x - 1))) w) := by
  obtain ⟨n1, n2, n3, n4⟩ := prev_num hx hp hs h0
  have hSub := sub64_one (loN x)
  have HE : Hid (aN (x - 1) = #[.bool (sixN x), .int .u64 ((hiN (x - 1) : Nat) : Int), .int .u64 ((loN (x - 1) : Nat) : Int)]) := Lib.hid (by unfold aN; rw [hs])
  rw [n1, n2] at HE
  obtain ⟨C, hC⟩ : ∃ C : Nat, (if loN x < 1 + 0 then 1 else 0) = C := ⟨_, rfl⟩
  obtain ⟨L, hL⟩ : ∃ L : Nat, (loN x + 18446744073709551616 - 1 - 0) % 18446744073709551616 = L := ⟨_, rfl⟩
  rw [hC, hL] at hSub HE
  rw [hC] at n3
  obtain ⟨D, hD⟩ : ∃ D : Nat, hiN x - C = D := ⟨_, rfl⟩
  have e0 : ((hiN x : Nat) : Int) - (C : Int) = (D : Int) := by omega
  have e1 : D ≤ 18446744073709551615 := by omega
  rw [hD] at HE
  have HA : Hid (Blk ((w.alloc (.cells (aN x) 33 (0, 0))).alloc (.cells #[.bool false, .int .u64 0, .int .u64 0] 33 (0, 0))) w.heap.size 33 (aN x)) := Lib.hid ((Blk.new w 33 (aN x)).alloc _)
  have HR : Hid (Blk ((w.alloc (.cells (aN x) 33 (0, 0))).alloc (.cells #[.bool false, .int .u64 0, .int .u64 0] 33 (0, 0))) (w.heap.size + 1) 33 #[.bool false, .int .u64 0, .int .u64 0]) := Lib.hid (by
    have this := Blk.new (w.alloc (.cells (aN x) 33 (0, 0))) 33 #[.bool false, .int .u64 0, .int .u64 0]
    rw [World.size_alloc] at this
    exact this)
  have HB : Hid (Below w.heap.size w ((w.alloc (.cells (aN x) 33 (0, 0))).alloc (.cells #[.bool false, .int .u64 0, .int .u64 0] 33 (0, 0)))) := Lib.hid (below_alloc (below_alloc (Below.refl _ _) _) _)
  clear n1 n2 n3 n4 hC hL hD hx hp hs h0
  rw [HE.out]
  have HE2 : Hid (aN x = #[.bool (sixN x), .int .u64 ((hiN x : Nat) : Int), .int .u64 ((loN x : Nat) : Int)]) := Lib.hid rfl
  rw [HE2.out] at HA HR HB ⊢
  clear HE HE2
  generalize sixN x = sx at *
  generalize hiN x = hx at *
  generalize loN x = lx at *
  go_enter Tryz.func124, Tryz.ntmps124
  go_upto_region 1 with fail
  generalize ((w.alloc (.cells #[.bool sx, .int .u64 (hx : Int), .int .u64 (lx : Int)] 33 (0, 0))).alloc (.cells #[.bool false, .int .u64 0, .int .u64 0] 33 (0, 0))) = w2 at *
  have p0 := HA.out.cell 0
  have p1 := HA.out.cell 1
  have p2 := HA.out.cell 2
  simp at p0 p1 p2
  have r0 := HR.out.cell 0
  have r1 := HR.out.cell 1
  have r2 := HR.out.cell 2
  simp at r0 r1 r2
  have pf := HA.out.free
  have rf := HR.out.free
  go_wp2_with fail
  refine bodyPost_ret (v := .agg #[.bool sx, .int .u64 (D : Int), .int .u64 (L : Int)]) (by simp [results, Tryz.results124, go_sem, r0, r1, r2]) rfl ⟨rfl, ?_⟩
  repeat refine Below.setCell ?_ (by first | (simp; omega) | simp) _
  exact HB.out
set_option maxRecDepth 100000 in
set_option maxHeartbeats 1000000 in
theorem laterN {x y : Nat} (w : World) (hx : VN x) (hy : VN y) : Calls Tryz.prog 122 #[.agg (aN x), .agg (aN y)] w (Ret (.agg (aN (max x y))) w) := by
  have HC := Lib.hid fun wx => spanCompareN wx hx hy
  have HV0 : Hid (cN x y > 0 → aN (max x y) = aN x) := Lib.hid fun h => by
    rw [cN_gt_iff] at h
    rw [show max x y = x by omega]
  have HV1 : Hid (¬ cN x y > 0 → aN (max x y) = aN y) := Lib.hid fun h => by
    rw [cN_gt_iff] at h
    rw [show max x y = y by omega]
  generalize aN (max x y) = V at *
  generalize cN x y = C at *
  have HP : Hid (Blk (((w.alloc (.cells (aN x) 33 (0, 0))).alloc (.cells (aN y) 33 (0, 0))).alloc (.cells #[.bool false, .int .u64 0, .int .u64 0] 33 (0, 0))) w.heap.size 33 (aN x)) := Lib.hid (((Blk.new w 33 (aN x)).alloc _).alloc _)
  have HQ : Hid (Blk (((w.alloc (.cells (aN x) 33 (0, 0))).alloc (.cells (aN y) 33 (0, 0))).alloc (.cells #[.bool false, .int .u64 0, .int .u64 0] 33 (0, 0))) (w.heap.size + 1) 33 (aN y)) := Lib.hid (by
    have this := (Blk.new (w.alloc (.cells (aN x) 33 (0, 0))) 33 (aN y)).alloc (.cells #[.bool false, .int .u64 0, .int .u64 0] 33 (0, 0))
    rw [World.size_alloc] at this
    exact this)
  have HR : Hid (Blk (((w.alloc (.cells (aN x) 33 (0, 0))).alloc (.cells (aN y) 33 (0, 0))).alloc (.cells #[.bool false, .int .u64 0, .int .u64 0] 33 (0, 0))) (w.heap.size + 1 + 1) 33 #[.bool false, .int .u64 0, .int .u64 0]) := Lib.hid (by
    have this := Blk.new ((w.alloc (.cells (aN x) 33 (0, 0))).alloc (.cells (aN y) 33 (0, 0))) 33 #[.bool false, .int .u64 0, .int .u64 0]
    rw [World.size_alloc, World.size_alloc] at this
    exact this)
  have HB : Hid (Below w.heap.size w (((w.alloc (.cells (aN x) 33 (0, 0))).alloc (.cells (aN y) 33 (0, 0))).alloc (.cells #[.bool false, .int .u64 0, .int .u64 0] 33 (0, 0)))) := Lib.hid (below_alloc (below_alloc (below_alloc (Below.refl _ _) _) _) _)
  clear hx hy
  unfold aN at HC HV0 HV1 HP HQ HR HB ⊢
  generalize sixN x = x1 at *
  generalize hiN x = x2 at *
  generalize loN x = x3 at *
  generalize sixN y = y1 at *
  generalize hiN y = y2 at *
  generalize loN y = y3 at *
  go_enter Tryz.func122, Tryz.ntmps122
  go_upto_region 1 with fail
  generalize (((w.alloc (.cells #[.bool x1, .int .u64 (x2 : Int), .int .u64 (x3 : Int)] 33 (0, 0))).alloc (.cells #[.bool y1, .int .u64 (y2 : Int), .int .u64 (y3 : Int)] 33 (0, 0))).alloc (.cells #[.bool false, .int .u64 0, .int .u64 0] 33 (0, 0))) = w2 at *
  have p0 := HP.out.cell 0
  have p1 := HP.out.cell 1
  have p2 := HP.out.cell 2
  simp at p0 p1 p2
  have q0 := HQ.out.cell 0
  have q1 := HQ.out.cell 1
  have q2 := HQ.out.cell 2
  simp at q0 q1 q2
  go_wp2_with fail
  refine (HC.out _).mono ?_
  rintro e w3 ⟨rfl, hb⟩
  have HP3 := Lib.hid (HP.out.below hb.b HP.out.lt)
  have HQ3 := Lib.hid (HQ.out.below hb.b HQ.out.lt)
  have HR3 := Lib.hid (HR.out.below hb.b HR.out.lt)
  have HB3 := Lib.hid (HB.out.trans (hb.b.mono HB.out.size))
  clear hb HC HP HQ HR HB p0 p1 p2 q0 q1 q2
  have p0 := HP3.out.cell 0
  have p1 := HP3.out.cell 1
  have p2 := HP3.out.cell 2
  simp at p0 p1 p2
  have q0 := HQ3.out.cell 0
  have q1 := HQ3.out.cell 1
  have q2 := HQ3.out.cell 2
  simp at q0 q1 q2
  have r0 := HR3.out.cell 0
  have r1 := HR3.out.cell 1
  have r2 := HR3.out.cell 2
  simp at r0 r1 r2
  have rf := HR3.out.free
  by_cases hc : C > 0
  · have HE := Lib.hid (HV0.out hc)
    clear HV0 HV1
    go_wp2_with fail
    refine bodyPost_ret (v := .agg #[.bool x1, .int .u64 (x2 : Int), .int .u64 (x3 : Int)]) (by simp [results, Tryz.results122, go_sem, r0, r1, r2]) rfl ⟨by rw [HE.out], ?_⟩
    repeat refine Below.setCell ?_ (by first | (simp; omega) | simp) _
    exact HB3.out
  · have HE := Lib.hid (HV1.out (by omega))
    clear HV0 HV1
    go_wp2_with fail
    refine bodyPost_ret (v := .agg #[.bool y1, .int .u64 (y2 : Int), .int .u64 (y3 : Int)]) (by simp [results, Tryz.results122, go_sem, r0, r1, r2]) rfl ⟨by rw [HE.out], ?_⟩
    repeat refine Below.setCell ?_ (by first | (simp; omega) | simp) _
    exact HB3.out
set_option maxRecDepth 100000 in
set_option maxHeartbeats 1000000 in
theorem earlierN {x y : Nat} (w : World) (hx : VN x) (hy : VN y) : Calls Tryz.prog 123 #[.agg (aN x), .agg (aN y)] w (Ret (.agg (aN (min x y))) w) := by
  have HC := Lib.hid fun wx => spanCompareN wx hx hy
  have HV0 : Hid (cN x y < 0 → aN (min x y) = aN x) := Lib.hid fun h => by
    rw [cN_lt_iff] at h
    rw [show min x y = x by omega]
  have HV1 : Hid (¬ cN x y < 0 → aN (min x y) = aN y) := Lib.hid fun h => by
    rw [cN_lt_iff] at h
    rw [show min x y = y by omega]
  generalize aN (min x y) = V at *
  generalize cN x y = C at *
  have HP : Hid (Blk (((w.alloc (.cells (aN x) 33 (0, 0))).alloc (.cells (aN y) 33 (0, 0))).alloc (.cells #[.bool false, .int .u64 0, .int .u64 0] 33 (0, 0))) w.heap.size 33 (aN x)) := Lib.hid (((Blk.new w 33 (aN x)).alloc _).alloc _)
  have HQ : Hid (Blk (((w.alloc (.cells (aN x) 33 (0, 0))).alloc (.cells (aN y) 33 (0, 0))).alloc (.cells #[.bool false, .int .u64 0, .int .u64 0] 33 (0, 0))) (w.heap.size + 1) 33 (aN y)) := Lib.hid (by
    have this := (Blk.new (w.alloc (.cells (aN x) 33 (0, 0))) 33 (aN y)).alloc (.cells #[.bool false, .int .u64 0, .int .u64 0] 33 (0, 0))
    rw [World.size_alloc] at this
    exact this)
  have HR : Hid (Blk (((w.alloc (.cells (aN x) 33 (0, 0))).alloc (.cells (aN y) 33 (0, 0))).alloc (.cells #[.bool false, .int .u64 0, .int .u64 0] 33 (0, 0))) (w.heap.size + 1 + 1) 33 #[.bool false, .int .u64 0, .int .u64 0]) := Lib.hid (by
    have this := Blk.new ((w.alloc (.cells (aN x) 33 (0, 0))).alloc (.cells (aN y) 33 (0, 0))) 33 #[.bool false, .int .u64 0, .int .u64 0]
    rw [World.size_alloc, World.size_alloc] at this
    exact this)
  have HB : Hid (Below w.heap.size w (((w.alloc (.cells (aN x) 33 (0, 0))).alloc (.cells (aN y) 33 (0, 0))).alloc (.cells #[.bool false, .int .u64 0, .int .u64 0] 33 (0, 0)))) := Lib.hid (below_alloc (below_alloc (below_alloc (Below.refl _ _) _) _) _)
  clear hx hy
  unfold aN at HC HV0 HV1 HP HQ HR HB ⊢
  generalize sixN x = x1 at *
  generalize hiN x = x2 at *
  generalize loN x = x3 at *
  generalize sixN y = y1 at *
  generalize hiN y = y2 at *
  generalize loN y = y3 at *
  go_enter Tryz.func123, Tryz.ntmps123
  go_upto_region 1 with fail
  generalize (((w.alloc (.cells #[.bool x1, .int .u64 (x2 : Int), .int .u64 (x3 : Int)] 33 (0, 0))).alloc (.cells #[.bool y1, .int .u64 (y2 : Int), .int .u64 (y3 : Int)] 33 (0, 0))).alloc (.cells #[.bool false, .int .u64 0, .int .u64 0] 33 (0, 0))) = w2 at *
  have p0 := HP.out.cell 0
  have p1 := HP.out.cell 1
  have p2 := HP.out.cell 2
  simp at p0 p1 p2
  have q0 := HQ.out.cell 0
  have q1 := HQ.out.cell 1
  have q2 := HQ.out.cell 2
  simp at q0 q1 q2
  go_wp2_with fail
  refine (HC.out _).mono ?_
  rintro e w3 ⟨rfl, hb⟩
  have HP3 := Lib.hid (HP.out.below hb.b HP.out.lt)
  have HQ3 := Lib.hid (HQ.out.below hb.b HQ.out.lt)
  have HR3 := Lib.hid (HR.out.below hb.b HR.out.lt)
  have HB3 := Lib.hid (HB.out.trans (hb.b.mono HB.out.size))
  clear hb HC HP HQ HR HB p0 p1 p2 q0 q1 q2
  have p0 := HP3.out.cell 0
  have p1 := HP3.out.cell 1
  have p2 := HP3.out.cell 2
  simp at p0 p1 p2
  have q0 := HQ3.out.cell 0
  have q1 := HQ3.out.cell 1
  have q2 := HQ3.out.cell 2
  simp at q0 q1 q2
  have r0 := HR3.out.cell 0
  have r1 := HR3.out.cell 1
  have r2 := HR3.out.cell 2
  simp at r0 r1 r2
  have rf := HR3.out.free
  by_cases hc : C < 0
  · have HE := Lib.hid (HV0.out hc)
    clear HV0 HV1
    go_wp2_with fail
    refine bodyPost_ret (v := .agg #[.bool x1, .int .u64 (x2 : Int), .int .u64 (x3 : Int)]) (by simp [results, Tryz.results123, go_sem, r0, r1, r2]) rfl ⟨by rw [HE.out], ?_⟩
    repeat refine Below.setCell ?_ (by first | (simp; omega) | simp) _
    exact HB3.out
  · have HE := Lib.hid (HV1.out (by omega))
    clear HV0 HV1
    go_wp2_with fail
    refine bodyPost_ret (v := .agg #[.bool y1, .int .u64 (y2 : Int), .int .u64 (y3 : Int)]) (by simp [results, Tryz.results123, go_sem, r0, r1, r2]) rfl ⟨by rw [HE.out], ?_⟩
    repeat refine Below.setCell ?_ (by first | (simp; omega) | simp) _
    exact HB3.out
end Go.Proofs.YtaeieigdibanlaaGreatDoor

namespace Go.Proofs.YtaeieigdibanlaaGreatDoor
open Go.RowKit Go
set_option linter.unusedVariables false

/-- what the region of two ranges' common part has yielded -/
def boR (ga oa na ca gb ob nb cb i k w0 : Nat) (a1 : Bool) (a2 a3 : Nat) (a4 : Bool) (a5 a6 : Nat) (b1 : Bool) (b2 b3 : Nat) (b4 : Bool) (b5 b6 : Nat) (v1 : Bool) (v2 v3 : Nat) (v4 : Bool) (v5 v6 : Nat) : Nat → Value → World → Prop
  | 0, v, _ => v = .slice (some ⟨ga, oa, none⟩) na ca
  | 1, v, _ => v = .int .i64 (i : Int)
  | 2, v, _ => v = .pointer (some ⟨ga, oa + i * 6, none⟩)
  | 3, v, _ => v = .pointer (some ⟨ga, oa + i * 6, none⟩)
  | 4, v, _ => v = .agg #[.bool a1, .int .u64 (a2 : Int), .int .u64 (a3 : Int)]
  | 5, v, _ => v = .slice (some ⟨gb, ob, none⟩) nb cb
  | 6, v, _ => v = .int .i64 (k : Int)
  | 7, v, _ => v = .pointer (some ⟨gb, ob + k * 6, none⟩)
  | 8, v, _ => v = .pointer (some ⟨gb, ob + k * 6, none⟩)
  | 9, v, _ => v = .agg #[.bool b1, .int .u64 (b2 : Int), .int .u64 (b3 : Int)]
  | 10, v, _ => v = .agg #[.bool v1, .int .u64 (v2 : Int), .int .u64 (v3 : Int)]
  | 11, v, _ => v = .slice (some ⟨ga, oa, none⟩) na ca
  | 12, v, _ => v = .int .i64 (i : Int)
  | 13, v, _ => v = .pointer (some ⟨ga, oa + i * 6, none⟩)
  | 14, v, _ => v = .pointer (some ⟨ga, oa + i * 6 + 3, none⟩)
  | 15, v, _ => v = .agg #[.bool a4, .int .u64 (a5 : Int), .int .u64 (a6 : Int)]
  | 16, v, _ => v = .slice (some ⟨gb, ob, none⟩) nb cb
  | 17, v, _ => v = .int .i64 (k : Int)
  | 18, v, _ => v = .pointer (some ⟨gb, ob + k * 6, none⟩)
  | 19, v, _ => v = .pointer (some ⟨gb, ob + k * 6 + 3, none⟩)
  | 20, v, _ => v = .agg #[.bool b4, .int .u64 (b5 : Int), .int .u64 (b6 : Int)]
  | 21, v, _ => v = .agg #[.bool v4, .int .u64 (v5 : Int), .int .u64 (v6 : Int)]
  | 22, v, _ => v = .agg #[.bool v1, .int .u64 (v2 : Int), .int .u64 (v3 : Int), .bool v4, .int .u64 (v5 : Int), .int .u64 (v6 : Int)]
  | _, v, w => ∃ B, v = .pointer (some ⟨B, 0, none⟩) ∧ w0 ≤ B ∧ Blk w B 143 #[.bool false, .int .u64 0, .int .u64 0, .bool false, .int .u64 0, .int .u64 0]
theorem boR_keep (ga oa na ca gb ob nb cb i k w0 : Nat) (a1 : Bool) (a2 a3 : Nat) (a4 : Bool) (a5 a6 : Nat) (b1 : Bool) (b2 b3 : Nat) (b4 : Bool) (b5 b6 : Nat) (v1 : Bool) (v2 v3 : Nat) (v4 : Bool) (v5 v6 : Nat) (p : Nat) (v : Value) (u w : World) (h : boR ga oa na ca gb ob nb cb i k w0 a1 a2 a3 a4 a5 a6 b1 b2 b3 b4 b5 b6 v1 v2 v3 v4 v5 v6 p v u) (hb : Below u.heap.size u w) : boR ga oa na ca gb ob nb cb i k w0 a1 a2 a3 a4 a5 a6 b1 b2 b3 b4 b5 b6 v1 v2 v3 v4 v5 v6 p v w := by
  rcases p with _ | _ | _ | _ | _ | _ | _ | _ | _ | _ | _ | _ | _ | _ | _ | _ | _ | _ | _ | _ | _ | _ | _ | p
  all_goals first | exact h | (obtain ⟨B, h1, h2, h3⟩ := h; exact ⟨B, h1, h2, h3.below hb h3.lt⟩)
theorem zero_rg : (Tryz.prog.info? 143).map (fun i => (i.size, i.zero.map (fun z => z.cells.size))) = some (6, some 6) := by kernel_rfl
theorem drop_cons {α : Type} {l : List α} {i : Nat} {x : α} (h : l[i]? = some x) : l.drop i = x :: l.drop (i + 1) := by
  have hi := (List.getElem?_eq_some_iff.1 h).1
  have e : l[i] = x := by rw [List.getElem?_eq_getElem hi] at h; injection h
  rw [List.drop_eq_getElem_cons hi, e]
set_option maxRecDepth 100000 in
set_option maxHeartbeats 16000000 in
theorem sboth_any (ad1 ad2 : Option Addr) (na ca nb cb : Nat) (LA LB : List Sp) (w : World) (h1 : RdK layRg w ad1 LA) (h2 : RdK layRg w ad2 LB) (hn1 : LA.length = na) (hn2 : LB.length = nb) (hs1 : na ≤ 10000) (hs2 : nb ≤ 10000) (hv1 : ∀ p ∈ LA, VR p) (hv2 : ∀ p ∈ LB, VR p) :
    Calls Tryz.prog 78 #[.slice ad1 na ca, .slice ad2 nb cb] w fun e w' => ∃ v, e = .returned v ∧ OwnK layRg w' w.heap.size v (jn (both LA LB)) ∧ Below w.heap.size w w' := by
  have H1 := Lib.hid h1
  have H2 := Lib.hid h2
  have Hn1 := Lib.hid hn1
  have Hn2 := Lib.hid hn2
  have Hv1 := Lib.hid hv1
  have Hv2 := Lib.hid hv2
  have HBv := Lib.hid (both_vr _ LA LB (Nat.le_refl _) hv1 hv2)
  clear h1 h2 hn1 hn2 hv1 hv2
  obtain ⟨BB, hBB⟩ : ∃ BB, both LA LB = BB := ⟨_, rfl⟩
  rw [hBB] at HBv ⊢
  have HBl : Hid (BB.length ≤ na + nb) := Lib.hid (by have := HBv.out.2; rw [Hn1.out, Hn2.out] at this; exact this)
  have H00 : Hid ([] ++ both (LA.drop 0) (LB.drop 0) = BB) := Lib.hid (by rw [List.drop_zero, List.drop_zero]; exact hBB)
  clear hBB
  go_enter Tryz.func78, Tryz.ntmps78
  go_wp2_with fail
  go_loopw [5, 6, 7, 8] (fun out iv kv s8 wr => ∃ (i k : Nat) (D : List Sp), i ≤ na ∧ k ≤ nb ∧ iv = .int .i64 (i : Int) ∧ kv = .int .i64 (k : Int) ∧ Hid (D ++ both (LA.drop i) (LB.drop k) = BB) ∧ Hid (OwnK layRg wr w.heap.size out D) ∧ Hid (Below w.heap.size w wr)) (fun _ iv kv _ _ => (na - (intOf iv).toNat) + (nb - (intOf kv).toNat))
  case atStart => exact ⟨0, 0, [], Nat.zero_le _, Nat.zero_le _, rfl, rfl, H00, Lib.hid (OwnK.nil _ _ _), Lib.hid (Below.refl _ _)⟩
  case round =>
    obtain ⟨i, k, D, hi, hk, rfl, rfl, HD, HO, HB⟩ := hrel
    have HDl : Hid (D.length ≤ na + nb) := Lib.hid (by have e := congrArg List.length HD.out; rw [List.length_append] at e; have := HBl.out; omega)
    have HFin : Hid (i = na ∨ k = nb → D = BB) := Lib.hid fun h => by
      have e := HD.out
      rcases h with h | h
      · rw [List.drop_eq_nil_of_le (show LA.length ≤ i by rw [Hn1.out]; omega), both_nil', List.append_nil] at e; exact e
      · rw [List.drop_eq_nil_of_le (show LB.length ≤ k by rw [Hn2.out]; omega), both_nil, List.append_nil] at e; exact e
    by_cases hlt1 : i < na
    · by_cases hlt2 : k < nb
      · have hS1 : i < LA.length := by rw [Hn1.out]; exact hlt1
        have hS2 : k < LB.length := by rw [Hn2.out]; exact hlt2
        obtain ⟨p, hp⟩ : ∃ p, LA[i]? = some p := ⟨_, List.getElem?_eq_getElem hS1⟩
        obtain ⟨q, hq⟩ : ∃ q, LB[k]? = some q := ⟨_, List.getElem?_eq_getElem hS2⟩
        have hVp := Hv1.out p (List.mem_of_getElem? hp)
        have hVq := Hv2.out q (List.mem_of_getElem? hq)
        obtain ⟨a1, a2, a3, a4, a5, a6, hpc, hp1, hp2, -, -⟩ := rg_cells p
        obtain ⟨b1, b2, b3, b4, b5, b6, hqc, hq1, hq2, -, -⟩ := rg_cells q
        obtain ⟨ga, oa, had, hga, c0, c1, c2, c3, c4, c5⟩ := (H1.out.below HB.out).rg hp hpc
        subst had
        obtain ⟨gb, ob, had, hgb, d0, d1, d2, d3, d4, d5⟩ := (H2.out.below HB.out).rg hq hqc
        subst had
        have hD := HD.out
        rw [drop_cons hp, drop_cons hq, both_cons] at hD
        have HLa := Lib.hid fun wx => laterN wx hVp.a hVq.a
        have HEa := Lib.hid fun wx => earlierN wx hVp.b hVq.b
        have hvm : VN (max p.1 q.1) := (Nat.le_total p.1 q.1).elim (fun h => by rw [Nat.max_eq_right h]; exact hVq.a) (fun h => by rw [Nat.max_eq_left h]; exact hVp.a)
        have hvn : VN (min p.2 q.2) := (Nat.le_total p.2 q.2).elim (fun h => by rw [Nat.min_eq_left h]; exact hVp.b) (fun h => by rw [Nat.min_eq_right h]; exact hVq.b)
        have HC1 := Lib.hid fun wx => spanCompareN wx hvm hvn
        have HC2 := Lib.hid fun wx => spanCompareN wx hVp.b hVq.b
        have HEn : Hid (layRg.enc (max p.1 q.1, min p.2 q.2) = (aN (max p.1 q.1)).toList ++ (aN (min p.2 q.2)).toList) := Lib.hid rfl
        have HM1 : Hid (aN (max p.1 q.1) = #[.bool (sixN (max p.1 q.1)), .int .u64 ((hiN (max p.1 q.1) : Nat) : Int), .int .u64 ((loN (max p.1 q.1) : Nat) : Int)]) := Lib.hid rfl
        have HM2 : Hid (aN (min p.2 q.2) = #[.bool (sixN (min p.2 q.2)), .int .u64 ((hiN (min p.2 q.2) : Nat) : Int), .int .u64 ((loN (min p.2 q.2) : Nat) : Int)]) := Lib.hid rfl
        have HCl1 := Lib.hid (cN_le (max p.1 q.1) (min p.2 q.2))
        have HCl2 := Lib.hid (cN_lt_iff p.2 q.2)
        have HD1 := Lib.hid hD
        rw [hp1, hq1] at HLa
        rw [hp2, hq2] at HEa HC2
        rw [HM1.out] at HLa HC1 HEn
        rw [HM2.out] at HEa HC1 HEn
        have Hpd := Lib.hid (drop_cons hp)
        have Hqd := Lib.hid (drop_cons hq)
        generalize hMx : max p.1 q.1 = mx at *
        generalize hMn : min p.2 q.2 = mn at *
        have HCA : Hid (∀ wx : World, Below w.heap.size w wx → wx.cell? ⟨ga, oa + i * 6 + 3, none⟩ = some (.bool a4) ∧ wx.cell? ⟨ga, oa + i * 6 + 4, none⟩ = some (.int .u64 (a5 : Int)) ∧ wx.cell? ⟨ga, oa + i * 6 + 5, none⟩ = some (.int .u64 (a6 : Int))) := Lib.hid fun wx hb => by
          obtain ⟨g', o', had, _, _, _, _, z3, z4, z5⟩ := (H1.out.below hb).rg hp hpc
          injection had with had
          injection had with e1 e2
          subst e1 e2
          exact ⟨z3, z4, z5⟩
        have HCB : Hid (∀ wx : World, Below w.heap.size w wx → wx.cell? ⟨gb, ob + k * 6 + 3, none⟩ = some (.bool b4) ∧ wx.cell? ⟨gb, ob + k * 6 + 4, none⟩ = some (.int .u64 (b5 : Int)) ∧ wx.cell? ⟨gb, ob + k * 6 + 5, none⟩ = some (.int .u64 (b6 : Int))) := Lib.hid fun wx hb => by
          obtain ⟨g', o', had, _, _, _, _, z3, z4, z5⟩ := (H2.out.below hb).rg hq hqc
          injection had with had
          injection had with e1 e2
          subst e1 e2
          exact ⟨z3, z4, z5⟩
        clear hMx hMn hD hVp hVq hpc hqc hp1 hp2 hq1 hq2 hvm hvn hS1 hS2 HM1 HM2 hp hq
        generalize sixN mx = v1 at *
        generalize hiN mx = v2 at *
        generalize loN mx = v3 at *
        generalize sixN mn = v4 at *
        generalize hiN mn = v5 at *
        generalize loN mn = v6 at *
        generalize cN mx mn = C1 at *
        generalize cN p.2 q.2 = C2 at *
        go_upto_region 4 with fail
        have k0 := Later.cell_of c0
        have k1 := Later.cell_of c1
        have k2 := Later.cell_of c2
        have k3 := Later.cell_of c3
        have k4 := Later.cell_of c4
        have k5 := Later.cell_of c5
        have l0 := Later.cell_of d0
        have l1 := Later.cell_of d1
        have l2 := Later.cell_of d2
        have l3 := Later.cell_of d3
        have l4 := Later.cell_of d4
        have l5 := Later.cell_of d5
        have HO0 := HO
        refine wp_region_inv 24 0 (boR ga oa na ca gb ob nb cb i k wr.heap.size a1 a2 a3 a4 a5 a6 b1 b2 b3 b4 b5 b6 v1 v2 v3 v4 v5 v6) (fun _ w' => Below wr.heap.size wr w') (fun u v => Below u.heap.size u v) (fun _ => 0)
          (by kernel_rfl) (by kernel_rfl) (by decide) (boR_keep ga oa na ca gb ob nb cb i k wr.heap.size a1 a2 a3 a4 a5 a6 b1 b2 b3 b4 b5 b6 v1 v2 v3 v4 v5 v6) (below_drew (Below.refl _ _)) ?hX
        case' hX => (apply Exists.intro; refine ⟨fun T => ?hA, ?hob, ?hend⟩)
        case hA =>
          simp only [setAll, List.take_succ_cons, List.take_zero, Act.put, List.setIfInBounds_toArray, List.set_cons_succ, List.set_cons_zero, Nat.reduceAdd]
          exact rfl
        case hob =>
          have i1 : (i : Int) < (na : Int) := by omega
          have i2 : (k : Int) < (nb : Int) := by omega
          have i3 : (0 : Int) ≤ (i : Int) := by omega
          have i4 : (0 : Int) ≤ (k : Int) := by omega
          clear HCA HCB Hpd Hqd HC2 Hn1 Hn2 HO HO0 HB HD HD1 HDl HFin HC1 HEn HCl1 HCl2 H1 H2 Hv1 Hv2 HBv HBl H00 c0 c1 c2 c3 c4 c5 d0 d1 d2 d3 d4 d5
          go_light
          refine ⟨?_, ?_, ?_, ?_, ?_, ?_, ?_, ?_, ?_, ?_, ?_, ?_, ?_, ?_, ?_, ?_, ?_, ?_, ?_, ?_, ?_, ?_, ?_, ?_, trivial⟩
          all_goals (intro T wx n0 hC hn hp; dsimp only at hn ⊢; unfold Op1)
          · clear k0 k1 k2 k3 k4 k5 l0 l1 l2 l3 l4 l5
            go_simp
            exact ⟨rfl, Below.refl _ _⟩
          · clear k0 k1 k2 k3 k4 k5 l0 l1 l2 l3 l4 l5
            go_simp
            exact ⟨rfl, Below.refl _ _⟩
          · obtain ⟨q0, q1, -⟩ := hp
            have q0 : T 0 = .slice (some ⟨ga, oa, none⟩) na ca := q0
            have q1 : T 1 = .int .i64 (i : Int) := q1
            clear k0 k1 k2 k3 k4 k5 l0 l1 l2 l3 l4 l5
            go_simp
            exact ⟨rfl, Below.refl _ _⟩
          · obtain ⟨q2, -⟩ := hp
            have q2 : T 2 = .pointer (some ⟨ga, oa + i * 6, none⟩) := q2
            clear k0 k1 k2 k3 k4 k5 l0 l1 l2 l3 l4 l5
            go_simp
            exact ⟨rfl, Below.refl _ _⟩
          · obtain ⟨q3, -⟩ := hp
            have q3 : T 3 = .pointer (some ⟨ga, oa + i * 6, none⟩) := q3
            have e0 := k0 ⟨wx, hC⟩
            have e1 := k1 ⟨wx, hC⟩
            have e2 := k2 ⟨wx, hC⟩
            simp only at e0 e1 e2
            clear k0 k1 k2 k3 k4 k5 l0 l1 l2 l3 l4 l5
            go_simp
            exact ⟨rfl, Below.refl _ _⟩
          · clear k0 k1 k2 k3 k4 k5 l0 l1 l2 l3 l4 l5
            go_simp
            exact ⟨rfl, Below.refl _ _⟩
          · clear k0 k1 k2 k3 k4 k5 l0 l1 l2 l3 l4 l5
            go_simp
            exact ⟨rfl, Below.refl _ _⟩
          · obtain ⟨q5, q6, -⟩ := hp
            have q5 : T 5 = .slice (some ⟨gb, ob, none⟩) nb cb := q5
            have q6 : T 6 = .int .i64 (k : Int) := q6
            clear k0 k1 k2 k3 k4 k5 l0 l1 l2 l3 l4 l5
            go_simp
            exact ⟨rfl, Below.refl _ _⟩
          · obtain ⟨q7, -⟩ := hp
            have q7 : T 7 = .pointer (some ⟨gb, ob + k * 6, none⟩) := q7
            clear k0 k1 k2 k3 k4 k5 l0 l1 l2 l3 l4 l5
            go_simp
            exact ⟨rfl, Below.refl _ _⟩
          · obtain ⟨q8, -⟩ := hp
            have q8 : T 8 = .pointer (some ⟨gb, ob + k * 6, none⟩) := q8
            have e0 := l0 ⟨wx, hC⟩
            have e1 := l1 ⟨wx, hC⟩
            have e2 := l2 ⟨wx, hC⟩
            simp only at e0 e1 e2
            clear k0 k1 k2 k3 k4 k5 l0 l1 l2 l3 l4 l5
            go_simp
            exact ⟨rfl, Below.refl _ _⟩
          · obtain ⟨q4, q9, -⟩ := hp
            have q4 : T 4 = .agg #[.bool a1, .int .u64 (a2 : Int), .int .u64 (a3 : Int)] := q4
            have q9 : T 9 = .agg #[.bool b1, .int .u64 (b2 : Int), .int .u64 (b3 : Int)] := q9
            clear k0 k1 k2 k3 k4 k5 l0 l1 l2 l3 l4 l5
            go_simp
            refine (HLa.out wx).mono ?_
            rintro e w5 ⟨rfl, hb⟩
            exact ⟨_, rfl, rfl, hC.trans (hb.mono hC.size), hb⟩
          · clear k0 k1 k2 k3 k4 k5 l0 l1 l2 l3 l4 l5
            go_simp
            exact ⟨rfl, Below.refl _ _⟩
          · clear k0 k1 k2 k3 k4 k5 l0 l1 l2 l3 l4 l5
            go_simp
            exact ⟨rfl, Below.refl _ _⟩
          · obtain ⟨q11, q12, -⟩ := hp
            have q11 : T 11 = .slice (some ⟨ga, oa, none⟩) na ca := q11
            have q12 : T 12 = .int .i64 (i : Int) := q12
            clear k0 k1 k2 k3 k4 k5 l0 l1 l2 l3 l4 l5
            go_simp
            exact ⟨rfl, Below.refl _ _⟩
          · obtain ⟨q13, -⟩ := hp
            have q13 : T 13 = .pointer (some ⟨ga, oa + i * 6, none⟩) := q13
            clear k0 k1 k2 k3 k4 k5 l0 l1 l2 l3 l4 l5
            go_simp
            exact ⟨rfl, Below.refl _ _⟩
          · obtain ⟨q14, -⟩ := hp
            have q14 : T 14 = .pointer (some ⟨ga, oa + i * 6 + 3, none⟩) := q14
            have e0 := k3 ⟨wx, hC⟩
            have e1 := k4 ⟨wx, hC⟩
            have e2 := k5 ⟨wx, hC⟩
            simp only at e0 e1 e2
            clear k0 k1 k2 k3 k4 k5 l0 l1 l2 l3 l4 l5
            go_simp
            exact ⟨rfl, Below.refl _ _⟩
          · clear k0 k1 k2 k3 k4 k5 l0 l1 l2 l3 l4 l5
            go_simp
            exact ⟨rfl, Below.refl _ _⟩
          · clear k0 k1 k2 k3 k4 k5 l0 l1 l2 l3 l4 l5
            go_simp
            exact ⟨rfl, Below.refl _ _⟩
          · obtain ⟨q16, q17, -⟩ := hp
            have q16 : T 16 = .slice (some ⟨gb, ob, none⟩) nb cb := q16
            have q17 : T 17 = .int .i64 (k : Int) := q17
            clear k0 k1 k2 k3 k4 k5 l0 l1 l2 l3 l4 l5
            go_simp
            exact ⟨rfl, Below.refl _ _⟩
          · obtain ⟨q18, -⟩ := hp
            have q18 : T 18 = .pointer (some ⟨gb, ob + k * 6, none⟩) := q18
            clear k0 k1 k2 k3 k4 k5 l0 l1 l2 l3 l4 l5
            go_simp
            exact ⟨rfl, Below.refl _ _⟩
          · obtain ⟨q19, -⟩ := hp
            have q19 : T 19 = .pointer (some ⟨gb, ob + k * 6 + 3, none⟩) := q19
            have e0 := l3 ⟨wx, hC⟩
            have e1 := l4 ⟨wx, hC⟩
            have e2 := l5 ⟨wx, hC⟩
            simp only at e0 e1 e2
            clear k0 k1 k2 k3 k4 k5 l0 l1 l2 l3 l4 l5
            go_simp
            exact ⟨rfl, Below.refl _ _⟩
          · obtain ⟨q15, q20, q10, -⟩ := hp
            have q15 : T 15 = .agg #[.bool a4, .int .u64 (a5 : Int), .int .u64 (a6 : Int)] := q15
            have q20 : T 20 = .agg #[.bool b4, .int .u64 (b5 : Int), .int .u64 (b6 : Int)] := q20
            have q10 : T 10 = .agg #[.bool v1, .int .u64 (v2 : Int), .int .u64 (v3 : Int)] := q10
            clear k0 k1 k2 k3 k4 k5 l0 l1 l2 l3 l4 l5
            go_simp
            refine (HEa.out wx).mono ?_
            rintro e w5 ⟨rfl, hb⟩
            exact ⟨_, rfl, rfl, hC.trans (hb.mono hC.size), hb⟩
          · obtain ⟨q10, q21, -⟩ := hp
            have q10 : T 10 = .agg #[.bool v1, .int .u64 (v2 : Int), .int .u64 (v3 : Int)] := q10
            have q21 : T 21 = .agg #[.bool v4, .int .u64 (v5 : Int), .int .u64 (v6 : Int)] := q21
            clear k0 k1 k2 k3 k4 k5 l0 l1 l2 l3 l4 l5
            go_simp
            exact ⟨rfl, Below.refl _ _⟩
          · clear k0 k1 k2 k3 k4 k5 l0 l1 l2 l3 l4 l5
            go_simp
            exact ⟨⟨wx.heap.size, rfl, hC.size, Blk.new wx _ _⟩, below_alloc hC _, below_alloc (Below.refl _ _) _⟩
        case hend =>
          intro T w4 ⟨n0, hn0, hb⟩ hR
          have hT22 : T 22 = .agg #[.bool v1, .int .u64 (v2 : Int), .int .u64 (v3 : Int), .bool v4, .int .u64 (v5 : Int), .int .u64 (v6 : Int)] := hR 22 (by omega)
          obtain ⟨B, hT23, hwB, hBl⟩ := hR 23 (by omega)
          have hBw : w.heap.size ≤ B := Nat.le_trans HB.out.size hwB
          have HO4 := Lib.hid (HO.out.later hb)
          have HB4 := Lib.hid (HB.out.trans (hb.mono HB.out.size))
          have hne : u5.ownBlock ≠ some B := fun e => by have := own_lt HO.out _ e; omega
          have HNe := Lib.hid hne
          have HHp := Lib.hid (show w4.heap[B]? = some (.cells #[.bool false, .int .u64 0, .int .u64 0, .bool false, .int .u64 0, .int .u64 0] 143 (0, 0)) from hBl)
          have HBs : Hid (Blk (w4.setRow B #[.bool v1, .int .u64 (v2 : Int), .int .u64 (v3 : Int), .bool v4, .int .u64 (v5 : Int), .int .u64 (v6 : Int)]) B 143 #[.bool v1, .int .u64 (v2 : Int), .int .u64 (v3 : Int), .bool v4, .int .u64 (v5 : Int), .int .u64 (v6 : Int)]) := Lib.hid (hBl.setRow _)
          have HBx : Hid (Below w.heap.size w (w4.setRow B #[.bool v1, .int .u64 (v2 : Int), .int .u64 (v3 : Int), .bool v4, .int .u64 (v5 : Int), .int .u64 (v6 : Int)])) := Lib.hid (below_setRow HB4.out hBw _)
          have HOs : Hid (OwnK layRg (w4.setRow B #[.bool v1, .int .u64 (v2 : Int), .int .u64 (v3 : Int), .bool v4, .int .u64 (v5 : Int), .int .u64 (v6 : Int)]) w.heap.size u5 D) := Lib.hid (by
            refine World.ownsRow.kept HO4.out ⟨rfl, rfl, rfl, by rw [setRow_size]; exact Nat.le_refl _, fun j hj hne2 => setRow_other w4 B j _ (by intro e; subst e; exact hne2 rfl)⟩ ?_ (row := some B)
            exact .inr hne)
          clear hR hb hBl HO HO0 HB HO4 HB4 hne HLa HEa hwB c0 c1 c2 c3 c4 c5 d0 d1 d2 d3 d4 d5 k0 k1 k2 k3 k4 k5 l0 l1 l2 l3 l4 l5
          simp only [List.drop_succ_cons, List.drop_zero]
          rw [hT22, hT23]
          clear hT22 hT23
          generalize T 0 = t0 at *
          generalize T 1 = t1 at *
          generalize T 2 = t2 at *
          generalize T 3 = t3 at *
          generalize T 4 = t4 at *
          generalize T 5 = t5 at *
          generalize T 6 = t6 at *
          generalize T 7 = t7 at *
          generalize T 8 = t8 at *
          generalize T 9 = t9 at *
          generalize T 10 = t10 at *
          generalize T 11 = t11 at *
          generalize T 12 = t12 at *
          generalize T 13 = t13 at *
          generalize T 14 = t14 at *
          generalize T 15 = t15 at *
          generalize T 16 = t16 at *
          generalize T 17 = t17 at *
          generalize T 18 = t18 at *
          generalize T 19 = t19 at *
          generalize T 20 = t20 at *
          generalize T 21 = t21 at *
          go_upto_region 5 with (refine wpList_store_row rfl 143 (.tmp 8) (.tmp 41) rfl B #[.bool v1, .int .u64 (v2 : Int), .int .u64 (v3 : Int), .bool v4, .int .u64 (v5 : Int), .int .u64 (v6 : Int)] rfl rfl 143 #[.bool false, .int .u64 0, .int .u64 0, .bool false, .int .u64 0, .int .u64 0] HHp.out (by kernel_rfl) rfl (by simp [Value.oneCell']) ?_; dsimp only [Act.put])
          generalize (w4.setRow B #[.bool v1, .int .u64 (v2 : Int), .int .u64 (v3 : Int), .bool v4, .int .u64 (v5 : Int), .int .u64 (v6 : Int)]) = w5 at *
          clear HHp
          have e0 := HBs.out.cell 0
          have e1 := HBs.out.cell 1
          have e2 := HBs.out.cell 2
          have e3 := HBs.out.cell 3
          have e4 := HBs.out.cell 4
          have e5 := HBs.out.cell 5
          simp at e0 e1 e2 e3 e4 e5
          go_wp2_with fail
          refine (HC1.out _).mono ?_
          rintro e w6 ⟨rfl, hb⟩
          have HB6 := Lib.hid (HBx.out.trans (hb.b.mono HBx.out.size))
          have HO6 := Lib.hid (HOs.out.later hb.b)
          have HBs6 := Lib.hid (HBs.out.below hb.b HBs.out.lt)
          clear hb HBx HOs HBs e0 e1 e2 e3 e4 e5 HC1
          go_upto_if 47 with fail
          go_cut [5] (fun out wx => ∃ D' : List Sp, D' = D ++ (if mx ≤ mn then [(mx, mn)] else []) ∧ OwnK layRg wx w.heap.size out D' ∧ Below w.heap.size w wx)
          case first =>
            as_aux_lemma =>
              by_cases hc : mx ≤ mn
              · have hC0 : C1 ≤ 0 := HCl1.out.2 hc
                clear HCl1
                have e0 := HBs6.out.cell 0
                have e1 := HBs6.out.cell 1
                have e2 := HBs6.out.cell 2
                have e3 := HBs6.out.cell 3
                have e4 := HBs6.out.cell 4
                have e5 := HBs6.out.cell 5
                simp at e0 e1 e2 e3 e4 e5
                go_wp2_with (first | (refine wpList_build1 rfl 101 143 _ rfl #[.bool v1, .int .u64 (v2 : Int), .int .u64 (v3 : Int), .bool v4, .int .u64 (v5 : Int), .int .u64 (v6 : Int)] rfl 6 Tryz.underlying101 zero_rg rfl (by decide) (by decide) ?_; go_simp) | (at_builtin; refine wpList_app rgE rfl (.tmp 48) (.tmp 50) rfl rfl (World.ownsRow.alloc HO6.out _) rfl (src_new layRg _ (mx, mn) _ _ ?c0) ?c1 ?c2 ?c3 ?c4 ?_))
                case c0 => first | exact (congrArg List.toArray HEn.out).symm | (rw [HEn.out]; rfl)
                case c1 => exact layRg.one _
                case c2 => unfold maxLen; have := HDl.out; omega
                case c3 => have := HDl.out; omega
                case c4 => have := HB6.out.size; simp; omega
                intro v' w7 hO hG
                have HO7 : Hid (OwnK layRg w7 w.heap.size v' (D ++ [(mx, mn)])) := Lib.hid (OwnK.snoc hO)
                have HB7 : Hid (Below w.heap.size w w7) := Lib.hid ((Below.alloc HB6.out HB6.out.size _).trans (hG.below (by have := HB6.out.size; simp; omega) (own_base HO6.out)))
                clear hO hG
                go_wp2_with fail
                go_meet
                case rel => exact ⟨D ++ [(mx, mn)], by rw [if_pos hc], HO7.out, HB7.out⟩
              · have hC0 : ¬ C1 ≤ 0 := fun h => hc (HCl1.out.1 h)
                clear HCl1
                go_wp2_with fail
                go_meet
                case rel => exact ⟨D, by rw [if_neg hc, List.append_nil], HO6.out, HB6.out⟩
          case rest =>
            as_aux_lemma =>
              obtain ⟨D', hD', hO, hB⟩ := hcut
              have HO7 := Lib.hid hO
              have HB7 := Lib.hid hB
              have HD2 : Hid (D' ++ (if p.2 < q.2 then both (LA.drop (i + 1)) (q :: LB.drop (k + 1)) else both (p :: LA.drop (i + 1)) (LB.drop (k + 1))) = BB) := Lib.hid (by rw [hD', List.append_assoc]; exact HD1.out)
              have HRa := (H1.out.below hB)
              have HRb := (H2.out.below hB)
              clear hO hB hD' HO6 HB6 HBs6 HD1 HEn HCl1
              have hcA := HCA.out _ HB7.out
              have hcB := HCB.out _ HB7.out
              obtain ⟨c3, c4, c5⟩ := hcA
              obtain ⟨d3, d4, d5⟩ := hcB
              have l3 := Later.cell_of c3
              have l4 := Later.cell_of c4
              have l5 := Later.cell_of c5
              have m3 := Later.cell_of d3
              have m4 := Later.cell_of d4
              have m5 := Later.cell_of d5
              have hC := fun X : Later wc => Calls.later X ((HC2.out X.1).mono fun _ _ h => h.ret)
              have i1 : (i : Int) < (na : Int) := by omega
              have i2 : (k : Int) < (nb : Int) := by omega
              go_upto_region 7 with fail
              refine wp_region_later (by kernel_rfl) (by kernel_rfl) ?_
              repeat (go_big_quiet_step ((go_at_call 121; exact hC _)))
              refine wpQuiet_nil ?_
              rintro w8 ⟨n8, hn8⟩
              have hb : Below wc.heap.size wc w8 := by rw [hn8]; exact n8.2
              clear hn8 n8
              have HO8 := Lib.hid (HO7.out.later hb)
              have HB8 := Lib.hid (HB7.out.trans (hb.mono HB7.out.size))
              clear hb hC l3 l4 l5 m3 m4 m5 c3 c4 c5 d3 d4 d5 HO7 HB7 HRa HRb
              by_cases hpq : p.2 < q.2
              · have hC0 : C2 < 0 := HCl2.out.2 hpq
                have HD3 : Hid (D' ++ both (LA.drop (i + 1)) (LB.drop k) = BB) := Lib.hid (by rw [Hqd.out]; have := HD2.out; rw [if_pos hpq] at this; exact this)
                clear HD2 HCl2
                go_wp2_with fail
                exact ⟨⟨i + 1, k, D', by omega, by omega, by go_num, rfl, HD3, HO8, HB8⟩, by simp [intOf]; omega⟩
              · have hC0 : ¬ C2 < 0 := fun h => hpq (HCl2.out.1 h)
                have HD3 : Hid (D' ++ both (LA.drop i) (LB.drop (k + 1)) = BB) := Lib.hid (by rw [Hpd.out]; have := HD2.out; rw [if_neg hpq] at this; exact this)
                clear HD2 HCl2
                go_wp2_with fail
                exact ⟨⟨i, k + 1, D', by omega, by omega, rfl, by go_num, HD3, HO8, HB8⟩, by simp [intOf]; omega⟩
      · have hkn : k = nb := by omega
        have hDB := HFin.out (.inr hkn)
        subst hDB
        obtain ⟨ad3, c3, hv3, _⟩ := HO.out.form
        subst hv3
        have HJ := Lib.hid (joined_any ad3 D.length c3 D wr HO.out.rd rfl (by have := HDl.out; omega) HBv.out.1)
        clear HFin HD HO HBv HBl H00
        go_wp2_with fail
        refine HJ.out.mono ?_
        rintro e w2 ⟨v, rfl, hO, hb⟩
        go_wp2_with fail
        go_ret
        exact ⟨_, rfl, hO.weak HB.out.size, HB.out.trans (hb.mono HB.out.size)⟩
    · have hin : i = na := by omega
      have hDB := HFin.out (.inl hin)
      subst hDB
      obtain ⟨ad3, c3, hv3, _⟩ := HO.out.form
      subst hv3
      have HJ := Lib.hid (joined_any ad3 D.length c3 D wr HO.out.rd rfl (by have := HDl.out; omega) HBv.out.1)
      clear HFin HD HO HBv HBl H00
      go_wp2_with fail
      refine HJ.out.mono ?_
      rintro e w2 ⟨v, rfl, hO, hb⟩
      go_wp2_with fail
      go_ret
      exact ⟨_, rfl, hO.weak HB.out.size, HB.out.trans (hb.mono HB.out.size)⟩
end Go.Proofs.YtaeieigdibanlaaGreatDoor

namespace Go.Proofs.YtaeieigdibanlaaGreatDoor
open Go.RowKit Go
set_option linter.unusedVariables false

end Go.Proofs.YtaeieigdibanlaaGreatDoor
