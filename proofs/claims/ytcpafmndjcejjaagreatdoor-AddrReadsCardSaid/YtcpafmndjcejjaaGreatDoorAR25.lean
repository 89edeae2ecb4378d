/-
  An address read in a looser way, in plain words: the program's way and the reference's.
  A region that draws its order, by an invariant with a phase, where each operation knows that what depends on it has not run: a bound on the phase.
  cmp.Or of a row of ints, cmp.Compare of ints, the order of bools, slices.Compare of two rows of two ints.
  The program's order of flows and of reports; the count of draws never goes down.
  The reference's order of flows and of reports; the count of draws never goes down.
  Rows of structs whose cells are set many at once.
  The stable sort of reports by their order: program and reference (at most twenty).
  The insertion sort of a list whose last part stands right already, in plain words.
-/
import Derived.Test.YtcpafmndjcejjaaGreatDoorAR24
import Derived.Laws.CopyOwn
import Derived.Test.YtcpafmndjcejjaaGreatDoorAR1
import Derived.Test.YtcpafmndjcejjaaGreatDoorAR7
import Derived.Test.YtcpafmndjcejjaaGreatDoorAR4
import Derived.Test.YtcpafmndjcejjaaGreatDoorAR8
import Derived.Test.YtcpafmndjcejjaaGreatDoorAR5
import Derived.Test.YtcpafmndjcejjaaGreatDoorAR10
import Derived.Deep.MidRow
set_option linter.unusedVariables false
namespace Go.Proofs.YtcpafmndjcejjaaGreatDoor
open Go.RowKit Go Go.Sort
set_option linter.unusedVariables false

/-- the groups of an address: a ahead, b at the end, zeros between -/
def gq (a b : List Nat) (i : Nat) : Nat := if 8 - b.length ≤ i then b.getD (i - (8 - b.length)) 0 else a.getD i 0
def wdg (g : Nat → Nat) : Nat → Nat
  | 0 => 0
  | k + 1 => wdg g k * 65536 + g k
theorem wdg_lt {g : Nat → Nat} (h : ∀ i, g i < 65536) : ∀ k, wdg g k < 65536 ^ k
  | 0 => by show 0 < 1; decide
  | k + 1 => by
    have h1 := wdg_lt h k
    have h2 := h k
    show wdg g k * 65536 + g k < _
    rw [Nat.pow_succ]
    generalize 65536 ^ k = P at *
    omega
/-- eight groups out of two lists of them -/
def mkA (gap : Bool) (A B : Option (List Nat)) : Option (Bool × Nat × Nat) := match A, B with
  | some a, some b => if ((gap && decide (7 < a.length + b.length)) || (!gap && !decide (a.length = 8))) = true then none else some (true, wdg (gq a b) 4, wdg (fun i => gq a b (4 + i)) 4)
  | _, _ => none
def cutC (s : List UInt8) : List UInt8 × List UInt8 × Bool := Lib.cut s [58, 58]
def sixF (s : List UInt8) : Option (Bool × Nat × Nat) := mkA (cutC s).2.2 (grpF (cutC s).1 (!(cutC s).2.2)) (grpF (cutC s).2.1 true)
def looseF (s : List UInt8) : Option (Bool × Nat × Nat) := if s.contains 58 = true then sixF s else (fourF s).map fun n => (false, 0, n)
theorem grpL_lt {last : Bool} : ∀ (L : List (List UInt8)) (out G : List Nat), (∀ g ∈ out, g < 65536) → (∀ x ∈ L, x.length ≤ 1000000) → grpL last L out = some G → ∀ g ∈ G, g < 65536
  | [], out, G, h, _, hG => by
    have : out = G := by simpa [grpL] using hG
    rw [← this]; exact h
  | x :: xs, out, G, h, hx, hG => by
    unfold grpL at hG
    by_cases hc : (last && xs.isEmpty && x.contains 46) = true
    · rw [if_pos hc] at hG
      cases hf : fourF x with
      | none => rw [hf] at hG; cases hG
      | some n =>
        rw [hf] at hG
        injection hG with hG
        subst hG
        have := fourF_lt hf
        intro g hg
        rcases List.mem_append.1 hg with hg | hg
        · exact h g hg
        · simp at hg
          rcases hg with rfl | rfl <;> omega
    · rw [if_neg hc] at hG
      by_cases hk : hexOk x = true
      · rw [if_pos hk] at hG
        refine grpL_lt xs _ G (fun g hg => ?_) (fun y hy => hx y (List.mem_cons_of_mem _ hy)) hG
        rcases List.mem_append.1 hg with hg | hg
        · exact h g hg
        · have : g = hxV x := by simpa using hg
          subst this
          unfold hexOk at hk
          simp at hk
          exact hxV_lt (by rw [List.all_eq_true]; exact hk.2) hk.1.2
      · rw [if_neg hk] at hG; cases hG
theorem grpF_lt {s : List UInt8} {last : Bool} {G : List Nat} (hs : s.length ≤ 1000000) (h : grpF s last = some G) : ∀ g ∈ G, g < 65536 := by
  unfold grpF at h
  by_cases h0 : s = []
  · rw [if_pos h0] at h
    injection h with h
    subst h
    simp
  · rw [if_neg h0] at h
    exact grpL_lt _ [] G (by simp) (fun x hx => Nat.le_trans (spl_mem 58 s x hx).2.2 hs) h
theorem grpL_len {last : Bool} : ∀ (L : List (List UInt8)) (out G : List Nat), grpL last L out = some G → G.length ≤ out.length + L.length + 1
  | [], out, G, hG => by
    have : out = G := by simpa [grpL] using hG
    rw [← this]; simp <;> omega
  | x :: xs, out, G, hG => by
    unfold grpL at hG
    by_cases hc : (last && xs.isEmpty && x.contains 46) = true
    · rw [if_pos hc] at hG
      cases hf : fourF x with
      | none => rw [hf] at hG; cases hG
      | some n =>
        rw [hf] at hG
        injection hG with hG
        subst hG
        simp <;> omega
    · rw [if_neg hc] at hG
      by_cases hk : hexOk x = true
      · rw [if_pos hk] at hG
        have := grpL_len xs _ G hG
        simp at this ⊢
        omega
      · rw [if_neg hk] at hG; cases hG
theorem grpF_len {s : List UInt8} {last : Bool} {G : List Nat} (h : grpF s last = some G) : G.length ≤ s.length + 2 := by
  unfold grpF at h
  by_cases h0 : s = []
  · rw [if_pos h0] at h
    injection h with h
    subst h
    simp
  · rw [if_neg h0] at h
    have h1 := grpL_len _ [] G h
    rw [spl_len] at h1
    have := List.count_le_length (a := (58 : UInt8)) (l := s)
    simp at h1
    omega
theorem getD_lt {L : List Nat} (h : ∀ g ∈ L, g < 65536) (i : Nat) : L.getD i 0 < 65536 := by
  rw [List.getD_eq_getElem?_getD]
  cases e : L[i]? with
  | none => simp
  | some x => exact h x (List.mem_of_getElem? e)
theorem gq_lt {a b : List Nat} (ha : ∀ g ∈ a, g < 65536) (hb : ∀ g ∈ b, g < 65536) (i : Nat) : gq a b i < 65536 := by
  unfold gq
  split
  · exact getD_lt hb _
  · exact getD_lt ha _
theorem fouL_all : ∀ (L : List (List UInt8)) (acc n : Nat), fouL L acc = some n → ∀ x ∈ L, ∃ m, d255 x = some m
  | [], _, _, _, x, hx => by simp at hx
  | y :: ys, acc, n, h, x, hx => by
    unfold fouL at h
    cases hd : d255 y with
    | none => rw [hd] at h; cases h
    | some m =>
      rw [hd] at h
      rcases List.mem_cons.1 hx with rfl | hx
      · exact ⟨m, hd⟩
      · exact fouL_all ys _ n h x hx
theorem four_colon {s : List UInt8} {n : Nat} (h : fourF s = some n) : s.contains 58 = false := by
  rw [← Bool.not_eq_true]
  intro hc
  have hm : (58 : UInt8) ∈ s := by simpa using hc
  unfold fourF at h
  by_cases h4 : (spl 46 s).length = 4
  · rw [if_pos h4] at h
    rcases mem_spl 46 s 58 hm with e | ⟨p, hp, hb⟩
    · revert e; decide
    · obtain ⟨m, hd⟩ := fouL_all _ _ _ h p hp
      unfold d255 at hd
      by_cases hn : numL p = true ∧ decV p ≤ 255
      · have := hn.1
        unfold numL at this
        rw [Bool.and_eq_true, Bool.and_eq_true] at this
        have := List.all_eq_true.1 this.1.2 _ hb
        revert this
        decide
      · rw [if_neg hn] at hd; cases hd
  · rw [if_neg h4] at h; cases h
theorem index_none {s sub : List UInt8} (h : s.contains 58 = false) (hs : sub = [58, 58]) : Lib.cut s sub = (s, [], false) := by
  subst hs
  unfold Lib.cut
  rw [if_neg]
  intro h0
  rcases Lib.index_spec s [58, 58] with ⟨h1, _⟩ | ⟨i, h1, h2, h3, _⟩
  · omega
  · have hm : (58 : UInt8) ∈ s := by
      have : ∀ (s : List UInt8) (i : Nat), Lib.occAt s [58, 58] i = true → (58 : UInt8) ∈ s := by
        intro s i ho
        unfold Lib.occAt at ho
        have : ([58, 58] : List UInt8).isPrefixOf (s.drop i) = true := by simpa using ho
        have h5 := List.isPrefixOf_iff_prefix.1 this
        have h6 := h5.subset (show (58 : UInt8) ∈ [58, 58] by simp)
        exact List.mem_of_mem_drop h6
      exact this s i h3
    have : s.contains 58 = true := by simpa using hm
    rw [h] at this; cases this
theorem spl_none {c : UInt8} {s : List UInt8} (h : s.contains c = false) : spl c s = [s] := by
  induction s with
  | nil => rfl
  | cons b l ih =>
    have hb : ¬ b = c := fun e => by subst e; simp at h
    have hl : l.contains c = false := by
      rw [← Bool.not_eq_true]
      intro hc
      have : (b :: l).contains c = true := by simp at hc ⊢; exact .inr hc
      rw [h] at this; cases this
    simp only [spl]
    rw [if_neg hb, ih hl]
/-- the reference tries four numbers first -/
theorem loose_same (s : List UInt8) : looseF s = match fourF s with
    | some n => some (false, 0, n)
    | none => if s = [] then none else sixF s := by
  unfold looseF
  cases hf : fourF s with
  | some n => rw [four_colon hf, if_neg (by decide)]; rfl
  | none =>
    by_cases hc : s.contains 58 = true
    · rw [if_pos hc]
      have : s ≠ [] := fun e => by subst e; simp at hc
      show sixF s = if s = [] then none else sixF s
      rw [if_neg this]
    · rw [if_neg hc]
      have hc := eq_false_of_ne_true hc
      show none = if s = [] then none else sixF s
      by_cases h0 : s = []
      · rw [if_pos h0]
      · rw [if_neg h0]
        unfold sixF cutC
        rw [index_none hc rfl]
        show none = mkA false (grpF s true) (grpF [] true)
        have hg : grpF s true = grpL true [s] [] := by unfold grpF; rw [if_neg h0, spl_none hc]
        rw [hg]
        unfold grpL
        by_cases hd : s.contains 46 = true
        · rw [if_pos (by rw [hd]; rfl), hf]; rfl
        · rw [if_neg (by rw [eq_false_of_ne_true hd]; simp)]
          by_cases hk : hexOk s = true
          · rw [if_pos hk]; rfl
          · rw [if_neg hk]; rfl
/-! ### the row of eight groups -/
def gs8 (a b : List Nat) : List Nat := splice (splice (List.replicate 8 0) 0 a) (8 - b.length) b
theorem splice_map {α β : Type} (f : α → β) (L : List α) (off : Nat) (cs : List α) : (splice L off cs).map f = splice (L.map f) off (cs.map f) := by
  unfold splice
  simp [List.map_take, List.map_drop]
theorem gs8_get {a b : List Nat} (h : a.length + b.length ≤ 8) {i : Nat} (hi : i < 8) : (gs8 a b)[i]? = some (gq a b i) := by
  unfold gs8 gq
  have h1 : (splice (List.replicate 8 0) 0 a)[i]? = some (a.getD i 0) := by
    unfold splice
    rw [List.take_zero, List.nil_append, Nat.zero_add]
    rcases Nat.lt_or_ge i a.length with hl | hl
    · rw [List.getElem?_append_left hl, List.getD_eq_getElem?_getD, List.getElem?_eq_getElem hl]; rfl
    · rw [List.getElem?_append_right hl, List.getElem?_drop, List.getElem?_replicate, if_pos (by omega), List.getD_eq_getElem?_getD, List.getElem?_eq_none hl]; rfl
  have hl1 : (splice (List.replicate 8 0) 0 a).length = 8 := by rw [length_splice _ _ _ (by simp; omega)]; simp
  generalize splice (List.replicate 8 0) 0 a = S at *
  unfold splice
  by_cases hb : 8 - b.length ≤ i
  · rw [if_pos hb, List.getElem?_append_right (by rw [List.length_take, hl1]; omega), List.length_take, hl1, Nat.min_eq_left (by omega), List.getElem?_append_left (by omega), List.getD_eq_getElem?_getD, List.getElem?_eq_getElem (by omega)]
    rfl
  · rw [if_neg hb, List.getElem?_append_left (by rw [List.length_take, hl1]; omega), List.getElem?_take, if_pos (by omega)]
    exact h1
theorem wdg_or {g : Nat → Nat} (h : ∀ i, g i < 65536) {k : Nat} (hk : k < 4) : bits .or .u64 ((wdg g k : Int) * 65536) (g k : Int) = ((wdg g (k + 1) : Nat) : Int) := by
  have h1 := wdg_lt h k
  have h2 := h k
  have h3 : 65536 ^ k ≤ 65536 ^ 3 := Nat.pow_le_pow_right (by decide) (by omega)
  have h4 : wdg g k < 281474976710656 := Nat.lt_of_lt_of_le h1 (Nat.le_trans h3 (by decide))
  rw [show ((wdg g k : Int) * 65536) = ((wdg g k * 65536 : Nat) : Int) by omega, bits_or_u64_nat _ _ (by omega) (by omega)]
  have := Nat.shiftLeft_add_eq_or_of_lt (b := g k) (i := 16) (by omega) (wdg g k)
  rw [Nat.shiftLeft_eq] at this
  show ((wdg g k * 65536 ||| g k : Nat) : Int) = ((wdg g k * 65536 + g k : Nat) : Int)
  rw [show (65536 : Nat) = 2 ^ 16 from rfl, ← this]
end Go.Proofs.YtcpafmndjcejjaaGreatDoor

namespace Go.Proofs.YtcpafmndjcejjaaGreatDoor.Lm
open Go Go.Proofs.YtcpafmndjcejjaaGreatDoor

section
variable {P : Program} {ops : Array Oper} {Q : Exit → Act → World → Prop} {N total : Nat} {a0 : Act}
variable {R : Nat → Value → Nat → World → Prop} {C : Nat → World → Prop} {S : Nat → World → Nat → World → Prop} {cost lim : Nat → Nat}

/-- i and what depends on it -/
def msk (ops : Array Oper) (i : Nat) : Array Bool := (Array.range ops.size).map fun j => j == i || bef ops j i
theorem msk_get (ops : Array Oper) (i j : Nat) (hj : j < ops.size) : (msk ops i).getD j false = (j == i || bef ops j i) := by
  simp [msk, Array.getD, hj]
def limB (ops : Array Oper) (N total : Nat) (cost lim : Nat → Nat) : Bool := (List.range N).all fun i => decide (total ≤ lim i + sumCost cost (msk ops i) ops.size)

theorem limB_spec {ops : Array Oper} {N total : Nat} {cost lim : Nat → Nat} (h : limB ops N total cost lim = true) : ∀ i, i < N → total ≤ lim i + sumCost cost (msk ops i) ops.size := by
  simpa [limB] using h
theorem sumCost_disj {cost : Nat → Nat} {listed mask : Array Bool} : ∀ k, (∀ j, j < k → listed.getD j false = true → mask.getD j false = false) → sumCost cost listed k + sumCost cost mask k ≤ sumCost cost (Array.replicate k true) k
  | 0, _ => by simp [sumCost]
  | k + 1, h => by
    have ih := sumCost_disj (cost := cost) (listed := listed) (mask := mask) k fun j hj => h j (by omega)
    have hk := h k (by omega)
    have hfull : ∀ m, m ≤ k → sumCost cost (Array.replicate (k + 1) true) m = sumCost cost (Array.replicate k true) m := by
      intro m
      induction m with
      | zero => intro _; rfl
      | succ m ihm =>
        intro hm
        simp only [sumCost, ihm (by omega)]
        simp [Array.getD, show m < k by omega, show m < k + 1 by omega]
    simp only [sumCost, hfull k (Nat.le_refl _)]
    have h1 : (Array.replicate (k + 1) true).getD k false = true := by simp [Array.getD]
    simp only [h1, if_true]
    cases hl : listed.getD k false
    · simp only [Bool.false_eq_true, if_false]
      cases hm : mask.getD k false <;> simp <;> omega
    · simp only [hk hl, if_true, Bool.false_eq_true, if_false]
      omega

/-- What is asked of operation i. -/
def Ob (P : Program) (ops : Array Oper) (a0 : Act) (R : Nat → Value → Nat → World → Prop) (C : Nat → World → Prop) (S : Nat → World → Nat → World → Prop) (cost lim : Nat → Nat) (N : Nat) (i : Nat) (o : Oper) : Prop :=
  ∀ (T : Nat → Value) (w : World) (n : Nat), C n w → n ≤ lim i → (∀ p, p < ops.size → bef ops i p = true → R p (T p) n w) →
    if Region.wanted o (yielded ops (setAll (ops.toList.take N) 0 T a0).tmps) then
      Op1 P o (setAll (ops.toList.take N) 0 T a0).eval w fun v w' => R i v (n + cost i) w' ∧ C (n + cost i) w' ∧ S n w (n + cost i) w'
    else R i undef (n + cost i) w ∧ C (n + cost i) w ∧ S n w (n + cost i) w

theorem region_any (hB : InvB ops N a0.tmps.size) (hS : ∀ p v n w n' w', R p v n w → S n w n' w' → R p v n' w')
    (htot : sumCost cost (Array.replicate ops.size true) ops.size ≤ total) (hlm : ∀ i, i < N → total ≤ lim i + sumCost cost (msk ops i) ops.size)
    (hob : ∀ (i : Nat) (o : Oper), ops[i]? = some o → i < N → Ob P ops a0 R C S cost lim N i o)
    (hend : ∀ T w, (∃ n, n ≤ total ∧ C n w ∧ ∀ p, p < N → R p (T p) n w) → wpList P ops Q (ops.toList.drop N) (setAll (ops.toList.take N) 0 T a0) w) :
    ∀ (fuel : Nat) (listed : Array Bool) (a : Act) (w : World), listed.size = ops.size → fuel + cnt listed ops.size = ops.size →
      (∀ j, j < ops.size → listed.getD j false = true → ∀ p, p < ops.size → bef ops j p = true → listed.getD p false = true) →
      ((∃ T, (∀ j, N ≤ j → listed.getD j false = false) ∧ Fits ops a0 listed T a ∧ C (sumCost cost listed ops.size) w ∧ ∀ j, j < ops.size → listed.getD j false = true → R j (T j) (sumCost cost listed ops.size) w) ∨
       (∃ k, N ≤ k ∧ k ≤ ops.size ∧ (∀ j, j < ops.size → (listed.getD j false = true ↔ j < k)) ∧ wpList P ops Q (ops.toList.drop k) a w)) →
      wpAny P .any ops Q fuel listed a w := by
  -- the whole head is there: the two frames are one
  have whole : ∀ (listed : Array Bool) (T : Nat → Value) (a : Act), (∀ j, N ≤ j → listed.getD j false = false) → (∀ j, j < N → listed.getD j false = true) → Fits ops a0 listed T a → a = setAll (ops.toList.take N) 0 T a0 := by
    intro listed T a ht hh hF
    have h1 : a.defers = (setAll (ops.toList.take N) 0 T a0).defers := by rw [setAll_defers, hF.defers]
    have h2 : a.tmps = (setAll (ops.toList.take N) 0 T a0).tmps := by
      refine Array.ext_getElem? fun t => ?_
      rcases Nat.lt_or_ge t a0.tmps.size with hts | hts
      · rw [setAll_get T t _ 0 a0 hts]
        cases hw : lastW t (ops.toList.take N) 0 with
        | some j =>
          obtain ⟨_, o', ho', hd⟩ := lastW_some _ _ hw
          simp only [Nat.sub_zero, List.getElem?_take] at ho'
          split at ho'
          · rename_i hjN
            exact hF.set j o' t (by simpa using ho') (hh j hjN) hd
          · cases ho'
        | none =>
          refine hF.rest t fun j o' hj hlj hd => ?_
          have hjN : j < N := by
            rcases Nat.lt_or_ge j N with h | h
            · exact h
            · rw [ht j h] at hlj; cases hlj
          exact lastW_none _ _ hw j o' (by rw [List.getElem?_take, if_pos hjN]; simpa using hj) hd
      · rw [Array.getElem?_eq_none (by rw [hF.size]; exact hts), Array.getElem?_eq_none (by rw [setAll_size]; exact hts)]
    cases a; cases hb : setAll (ops.toList.take N) 0 T a0; simp_all
  -- nothing ready: all is listed
  have allListed : ∀ (listed : Array Bool), listed.size = ops.size → Region.ready .any ops listed = [] → ∀ j, j < ops.size → listed.getD j false = true := by
    intro listed hsz hr j
    induction j using Nat.strongRecOn with
    | _ j ih =>
      intro hj
      cases hlj : listed.getD j false with
      | true => rfl
      | false =>
        exfalso
        obtain ⟨o, ho⟩ : ∃ o, ops[j]? = some o := ⟨ops[j], Array.getElem?_eq_getElem hj⟩
        have : j ∈ Region.ready .any ops listed := mem_ready.2 ⟨by simpa [Array.getD, hsz, hj] using hlj, o, ho, fun e he hb => ih e.on (hB.back j o e ho he hb) (by have := hB.back j o e ho he hb; omega)⟩
        rw [hr] at this; cases this
  -- the end
  have fin : ∀ (listed : Array Bool) (a : Act) (w : World), (∀ j, j < ops.size → listed.getD j false = true) →
      ((∃ T, (∀ j, N ≤ j → listed.getD j false = false) ∧ Fits ops a0 listed T a ∧ C (sumCost cost listed ops.size) w ∧ ∀ j, j < ops.size → listed.getD j false = true → R j (T j) (sumCost cost listed ops.size) w) ∨
       (∃ k, N ≤ k ∧ k ≤ ops.size ∧ (∀ j, j < ops.size → (listed.getD j false = true ↔ j < k)) ∧ wpList P ops Q (ops.toList.drop k) a w)) → Q .normal a w := by
    intro listed a w hall h
    rcases h with ⟨T, ht, hF, hC, hR⟩ | ⟨k, hk1, hk2, hk3, hk4⟩
    · have hN : N = ops.size := by
        rcases Nat.lt_or_ge N ops.size with h | h
        · have h1 := ht N (Nat.le_refl _)
          rw [hall N h] at h1; cases h1
        · have := hB.le; omega
      have ha := whole listed T a ht (fun j hj => hall j (by omega)) hF
      have := hend T w ⟨_, Nat.le_trans (sumCost_le _) htot, hC, fun p hp => hR p (by omega) (hall p (by omega))⟩
      rw [← ha, List.drop_eq_nil_of_le (by simp; omega)] at this
      exact this
    · have : k = ops.size := by
        rcases Nat.lt_or_ge k ops.size with h | h
        · have := (hk3 k h).1 (hall k h); omega
        · omega
      rw [List.drop_eq_nil_of_le (by simp; omega)] at hk4
      exact hk4
  intro fuel
  induction fuel with
  | zero =>
    intro listed a w hsz hf hd h
    have hall := cnt_full ops.size (by omega : cnt listed ops.size = ops.size)
    refine ⟨?_, fin listed a w hall h⟩
    refine List.eq_nil_iff_forall_not_mem.2 fun i hi => ?_
    obtain ⟨h1, o, ho, _⟩ := mem_ready.1 hi
    have := hall i (Array.getElem?_eq_some_iff.1 ho).1
    rw [(getD_false h1).2] at this; cases this
  | succ fuel ih =>
    intro listed a w hsz hf hd h
    refine ⟨fun hr => fin listed a w (allListed listed hsz hr) h, fun i hi => ?_⟩
    obtain ⟨h1, o, ho, hafter⟩ := mem_ready.1 hi
    have hilt : i < ops.size := (Array.getElem?_eq_some_iff.1 ho).1
    have hset : ∀ j, (listed.setIfInBounds i true).getD j false = true ↔ (j = i ∨ listed.getD j false = true) := fun j => by
      by_cases hj : i = j
      · subst hj; simp [Array.getD, hsz, hilt]
      · rw [getD_set_ne false hj]; simp [Ne.symm hj]
    have hbef : ∀ p, p < ops.size → bef ops i p = true → listed.getD p false = true := fun p hp hb => by
      obtain ⟨e, he, hbi, hor⟩ := hB.clos i p o ho hp hb
      have h2 := hafter e he hbi
      rcases hor with rfl | hor
      · exact h2
      · exact hd e.on (by have := hB.back i o e ho he hbi; omega) h2 p hp hor
    have hsz' : (listed.setIfInBounds i true).size = ops.size := by simpa using hsz
    have hf' : fuel + cnt (listed.setIfInBounds i true) ops.size = ops.size := by
      have := sumCost_set (cost := fun _ => 1) h1 ops.size
      simp only [cnt, hilt, if_true] at this hf ⊢
      omega
    have hd' : ∀ j, j < ops.size → (listed.setIfInBounds i true).getD j false = true → ∀ p, p < ops.size → bef ops j p = true → (listed.setIfInBounds i true).getD p false = true := by
      intro j hj hl p hp hb
      rcases (hset j).1 hl with rfl | hl'
      · exact (hset p).2 (.inr (hbef p hp hb))
      · exact (hset p).2 (.inr (hd j hj hl' p hp hb))
    rcases h with ⟨T, ht, hF, hC, hR⟩ | ⟨k, hk1, hk2, hk3, hk4⟩
    · rcases Nat.lt_or_ge i N with hiN | hiN
      · -- a step of the head
        have hpN : ∀ p, bef ops i p = true → p < ops.size → listed.getD p false = true ∧ p < N := fun p hb hp => by
          have := hbef p hp hb
          refine ⟨this, ?_⟩
          rcases Nat.lt_or_ge p N with h | h
          · exact h
          · rw [ht p h] at this; cases this
        have hag := hF.agree hB ht ho hpN
        have hsum := sumCost_set (cost := cost) h1 ops.size
        simp only [hilt, if_true] at hsum
        have hlim : sumCost cost listed ops.size ≤ lim i := by
          have h5 := sumCost_disj (cost := cost) (listed := listed) (mask := msk ops i) ops.size fun j hj hl => by
            rw [msk_get ops i j hj]
            cases hji : j == i
            · cases hbf : bef ops j i
              · rfl
              · have := hd j hj hl i hilt hbf
                rw [(getD_false h1).2] at this; cases this
            · obtain rfl : j = i := by simpa using hji
              rw [(getD_false h1).2] at hl; cases hl
          have h6 := hlm i hiN
          omega
        have hO := hob i o ho hiN T w _ hC hlim fun p hp hb => hR p hp (hbef p hp hb)
        have next : ∀ v w', R i v (sumCost cost listed ops.size + cost i) w' ∧ C (sumCost cost listed ops.size + cost i) w' ∧ S (sumCost cost listed ops.size) w (sumCost cost listed ops.size + cost i) w' → wpAny P .any ops Q fuel (listed.setIfInBounds i true) (a.put o.dst v) w' := fun v w' ⟨q1, q2, q3⟩ =>
          ih _ _ _ hsz' hf' hd' (.inl ⟨fun j => if j = i then v else T j, fun j hj => by
              rw [getD_set_ne false (by omega)]; exact ht j hj, hF.put hB ho h1 v, by rw [hsum]; exact q2, fun j hj hl => by
              by_cases hji : j = i
              · subst hji; rw [hsum]; simpa using q1
              · simp only [hji, if_false]
                rw [hsum]; exact hS j _ _ _ _ _ (hR j hj (((hset j).1 hl).resolve_left hji)) q3⟩)
        unfold wpOp
        simp only [ho]
        rw [wanted_of_get (a := a) (b := setAll (ops.toList.take N) 0 T a0) o hag]
        split
        · rename_i hw
          rw [if_pos hw] at hO
          refine .inl (Op1.wp (post := fun v w' => R i v (sumCost cost listed ops.size + cost i) w' ∧ C (sumCost cost listed ops.size + cost i) w' ∧ S (sumCost cost listed ops.size) w (sumCost cost listed ops.size + cost i) w') ?_ next)
          unfold Op1 at hO ⊢
          rw [execOp_congr o (Region.noSelect_spec hB.sel i o · · ho) (eval_of_get o hag)]
          exact hO
        · rename_i hw
          rw [if_neg hw] at hO
          exact next undef w hO
      · -- the tail begins
        have hall : ∀ j, j < i → listed.getD j false = true := fun j hj => hbef j (by omega) (hB.tail i j hiN hilt hj)
        have hiN' : i = N := by
          rcases Nat.lt_or_ge N i with h | h
          · have h2 := ht N (Nat.le_refl _)
            rw [hall N h] at h2; cases h2
          · omega
        subst hiN'
        have ha := whole listed T a ht hall hF
        have hw := hend T w ⟨_, Nat.le_trans (sumCost_le _) htot, hC, fun p hp => hR p (by omega) (hall p hp)⟩
        rw [← ha] at hw
        have hdr : ops.toList.drop i = o :: ops.toList.drop (i + 1) := by
          rw [List.drop_eq_getElem_cons (by simpa using hilt)]
          congr 1
          have := (Array.getElem?_eq_some_iff.1 ho).2
          simpa using this
        rw [hdr] at hw
        have hwop : wpOp P ops Q i (wpList P ops Q (ops.toList.drop (i + 1))) a w := by unfold wpOp; simp only [ho]; exact hw
        refine wpOp_mono (fun a' w' h' => ih _ _ _ hsz' hf' hd' (.inr ⟨i + 1, by omega, by omega, fun j hj => ?_, h'⟩)) hwop
        rw [hset j]
        constructor
        · rintro (rfl | hl)
          · omega
          · rcases Nat.lt_or_ge j i with h | h
            · omega
            · rw [ht j h] at hl; cases hl
        · intro hj'
          by_cases hji : j = i
          · exact .inl hji
          · exact .inr (hall j (by omega))
    · -- a step of the tail
      have hik : i = k := by
        have hnl := (getD_false h1).2
        have h2 : ¬ i < k := fun hlt => by rw [(hk3 i hilt).2 hlt] at hnl; cases hnl
        rcases Nat.lt_or_ge k i with h | h
        · have h3 := hbef k (by omega) (hB.tail i k (by omega) hilt h)
          have := (hk3 k (by omega)).1 h3; omega
        · omega
      subst hik
      have hdr : ops.toList.drop i = o :: ops.toList.drop (i + 1) := by
        rw [List.drop_eq_getElem_cons (by simpa using hilt)]
        congr 1
        have := (Array.getElem?_eq_some_iff.1 ho).2
        simpa using this
      rw [hdr] at hk4
      have hwop : wpOp P ops Q i (wpList P ops Q (ops.toList.drop (i + 1))) a w := by unfold wpOp; simp only [ho]; exact hk4
      refine wpOp_mono (fun a' w' h' => ih _ _ _ hsz' hf' hd' (.inr ⟨i + 1, by omega, by omega, fun j hj => ?_, h'⟩)) hwop
      rw [hset j, hk3 j hj]
      omega

/-- what the forerunners have left -/
def AfterAll (R : Nat → Value → Nat → World → Prop) (T : Nat → Value) (n : Nat) (w : World) : List Edge → Prop
  | [] => True
  | e :: l => match Region.binds .any e with
    | true => R e.on (T e.on) n w ∧ AfterAll R T n w l
    | false => AfterAll R T n w l

theorem afterAll_of {R : Nat → Value → Nat → World → Prop} {T : Nat → Value} {n : Nat} {w : World} : ∀ (l : List Edge), (∀ e ∈ l, Region.binds .any e = true → R e.on (T e.on) n w) → AfterAll R T n w l
  | [], _ => trivial
  | e :: l, h => by
    have ih := afterAll_of l fun e' he' => h e' (List.mem_cons_of_mem _ he')
    unfold AfterAll
    cases hb : Region.binds .any e with
    | true => exact ⟨h e (List.mem_cons_self ..) hb, ih⟩
    | false => exact ih

/-- what is asked of operation i, put plainly -/
def Ob' (P : Program) (A : (Nat → Value) → Act) (R : Nat → Value → Nat → World → Prop) (C : Nat → World → Prop) (S : Nat → World → Nat → World → Prop) (cost lim : Nat → Nat) (i : Nat) (o : Oper) : Prop :=
  ∀ (T : Nat → Value) (w : World) (n : Nat), C n w → n ≤ lim i → AfterAll R T n w o.after.toList →
    match o.guard with
    | none => Op1 P o (A T).eval w fun v w' => R i v (n + cost i) w' ∧ C (n + cost i) w' ∧ S n w (n + cost i) w'
    | some (g, want) => (T g = .bool want → Op1 P o (A T).eval w fun v w' => R i v (n + cost i) w' ∧ C (n + cost i) w' ∧ S n w (n + cost i) w') ∧
        (T g ≠ .bool want → R i undef (n + cost i) w ∧ C (n + cost i) w ∧ S n w (n + cost i) w)

/-- what is asked of each operation of the head -/
def ObAll (P : Program) (A : (Nat → Value) → Act) (R : Nat → Value → Nat → World → Prop) (C : Nat → World → Prop) (S : Nat → World → Nat → World → Prop) (cost lim : Nat → Nat) : List Oper → Nat → Prop
  | [], _ => True
  | o :: l, k => Ob' P A R C S cost lim k o ∧ ObAll P A R C S cost lim l (k + 1)

theorem ObAll.get {A : (Nat → Value) → Act} : ∀ (l : List Oper) (k : Nat), ObAll P A R C S cost lim l k → ∀ (i : Nat) (o : Oper), l[i]? = some o → Ob' P A R C S cost lim (k + i) o
  | [], _, _, i, o, ho => by simp at ho
  | o' :: l, k, h, i, o, ho => by
    cases i with
    | zero => simp at ho; subst ho; exact h.1
    | succ i =>
      have := ObAll.get l (k + 1) h.2 i o (by simpa using ho)
      rwa [show k + (i + 1) = k + 1 + i by omega]

theorem ob_of {A : (Nat → Value) → Act} (hB : InvB ops N a0.tmps.size) (hE : edgeB ops = true) {i : Nat} {o : Oper} (ho : ops[i]? = some o) (hi : i < N) (hA : ∀ T, setAll (ops.toList.take N) 0 T a0 = A T) (h : Ob' P A R C S cost lim i o) : Ob P ops a0 R C S cost lim N i o := by
  intro T w n hC hn hp
  have hlt := (Array.getElem?_eq_some_iff.1 ho).1
  have hE' := hE
  simp only [edgeB, List.all_eq_true, List.mem_range] at hE'
  have hEi := hE' i hlt
  simp only [ho, Bool.and_eq_true] at hEi
  obtain ⟨he1, he2⟩ := hEi
  rw [Array.all_eq_true_iff_forall_mem] at he1
  have hAft : AfterAll R T n w o.after.toList := afterAll_of _ fun e he hb => by
    have hm : e ∈ o.after := by simpa using he
    have h1 := he1 e hm
    simp only [hb, Bool.not_true, Bool.false_or] at h1
    exact hp e.on (by have := hB.back i o e ho hm hb; omega) h1
  have h0 := h T w n hC hn hAft
  unfold Region.wanted
  cases hg : o.guard with
  | none =>
    simp only [hg] at h0
    rw [hA T]
    exact h0
  | some gw =>
    obtain ⟨g, want⟩ := gw
    simp only [hg] at h0 he2
    obtain ⟨hbg, hgs⟩ := hB.guard i o g want ho hg
    obtain ⟨og, hog⟩ : ∃ og, ops[g]? = some og := ⟨ops[g], Array.getElem?_eq_getElem hgs⟩
    simp only [hog, Option.bind_some] at he2
    obtain ⟨d, hd⟩ := Option.isSome_iff_exists.1 he2
    have hgi : g < i := by
      have : ∀ k, ∀ (i : Nat) (o : Oper), i < k → ops[i]? = some o → ∀ p, p < ops.size → bef ops i p = true → p < i := by
        intro k
        induction k with
        | zero => intro i o hk; omega
        | succ k ih =>
          intro i o hk hio p hps hb
          obtain ⟨e, he, hbi, hor⟩ := hB.clos i p o hio hps hb
          have h5 := hB.back i o e hio he hbi
          rcases hor with rfl | hor
          · exact h5
          · obtain ⟨o', ho'⟩ : ∃ o', ops[e.on]? = some o' := ⟨ops[e.on]'(by have := (Array.getElem?_eq_some_iff.1 hio).1; omega), Array.getElem?_eq_getElem _⟩
            have := ih e.on o' (by omega) ho' p hps hor
            omega
      exact this (i + 1) i o (by omega) ho g hgs hbg
    have hts : d < a0.tmps.size := hB.size g og d hog hd
    have hget : (setAll (ops.toList.take N) 0 T a0).tmps[d]? = some (T g) := by
      rw [setAll_get T d _ 0 a0 hts]
      cases hw : lastW d (ops.toList.take N) 0 with
      | some j =>
        obtain ⟨_, o', ho', hd'⟩ := lastW_some _ _ hw
        simp only [Nat.sub_zero, List.getElem?_take] at ho'
        split at ho'
        · have hj : ops[j]? = some o' := by simpa using ho'
          have := hB.uniq j g o' og d hj hog hd' hd
          simp [this]
        · cases ho'
      | none =>
        exfalso
        exact lastW_none _ _ hw g og (by rw [List.getElem?_take, if_pos (by omega)]; simpa using hog) hd
    have hy : yielded ops (setAll (ops.toList.take N) 0 T a0).tmps g = match T g with | .bool b => some b | _ => none := by
      unfold yielded
      simp only [hog, Option.bind_some, hd, hget]
      cases T g <;> rfl
    simp only [hy]
    by_cases hT : T g = .bool want
    · simp only [hT]
      simp only [beq_self_eq_true, if_true]
      rw [hA T]
      exact h0.1 hT
    · have hf : ((match T g with | .bool b => some b | _ => none) == some want) = false := by
        cases hv : T g <;> simp
        intro e
        exact hT (by rw [hv, e])
      simp only [hf]
      exact h0.2 hT
end

/-- A REGION THAT DRAWS ITS ORDER, BY AN INVARIANT. N: the operations of the head; the others wait for all before them. -/
theorem wp_region_lim {P : Program} {Q : Exit → Act → World → Prop} {id : Nat} {l : List Oper} {a0 : Act} {w : World} (N total : Nat) (R : Nat → Value → Nat → World → Prop) (C : Nat → World → Prop) (S : Nat → World → Nat → World → Prop) (cost lim : Nat → Nat)
    (hm : P.follows .mixedOrders = true) (hB : (invB l.toArray N a0.tmps.size && edgeB l.toArray) = true) (htot : sumCost cost (Array.replicate l.toArray.size true) l.toArray.size ≤ total) (hlm : limB l.toArray N total cost lim = true)
    (hS : ∀ p v n w n' w', R p v n w → S n w n' w' → R p v n' w') (hC : C 0 w.drew)
    (h : ∃ A : (Nat → Value) → Act, (∀ T, setAll (l.take N) 0 T a0 = A T) ∧ ObAll P A R C S cost lim (l.take N) 0 ∧
      ∀ T w', (∃ n, n ≤ total ∧ C n w' ∧ ∀ p, p < N → R p (T p) n w') → wpList P l.toArray Q (l.drop N) (A T) w') :
    (Code.region id l.toArray true).wp P Q a0 w := by
  obtain ⟨A, hA, hob, hend⟩ := h
  simp only [Bool.and_eq_true] at hB
  refine wp_region_any hm ?_
  have key := region_any (P := P) (Q := Q) (ops := l.toArray) (a0 := a0) (R := R) (C := C) (S := S) (cost := cost) (lim := lim) (total := total) (invB_spec hB.1) hS htot (limB_spec hlm)
    (fun i o ho hi => ob_of (invB_spec hB.1) hB.2 ho hi (fun T => by simpa using hA T) (by
      have := ObAll.get _ _ hob i o (by rw [List.getElem?_take, if_pos hi]; simpa using ho)
      simpa using this))
    (fun T w' hc => by
      have := hend T w' hc
      rw [← hA T] at this
      simpa using this)
    l.toArray.size (Array.replicate l.toArray.size false) a0 w.drew (by simp)
  have h0 : ∀ j, (Array.replicate l.toArray.size false).getD j false = false := fun j => getD_replicate_false _ _
  have hz : ∀ (c : Nat → Nat) k, sumCost c (Array.replicate l.toArray.size false) k = 0 := by
    intro c k
    induction k with
    | zero => rfl
    | succ k ih => simp only [sumCost, ih, h0]; rfl
  have hF : Fits l.toArray a0 (Array.replicate l.toArray.size false) (fun _ => undef) a0 := by
    refine ⟨rfl, rfl, ?_, fun t _ => rfl⟩
    intro j o d _ hl
    rw [h0] at hl
    cases hl
  refine key (by simp only [cnt, hz]; omega) ?_ (.inl ⟨fun _ => undef, fun j _ => h0 j, hF, by rw [hz]; exact hC, ?_⟩)
  · intro j _ hl
    rw [h0] at hl
    cases hl
  · intro j _ hl
    rw [h0] at hl
    cases hl
theorem wpAny_seq {P : Program} {ops : Array Oper} {Q : Exit → Act → World → Prop} (hback : ∀ (i : Nat) (o : Oper) e, ops[i]? = some o → e ∈ o.after → Region.binds .any e = true → e.on < i) :
    ∀ (fuel k : Nat) (listed : Array Bool) (a : Act) (w : World), listed.size = ops.size → fuel + k = ops.size → (∀ j, j < ops.size → (listed.getD j false = true ↔ j < k)) → wpAny P .any ops Q fuel listed a w → wpList P ops Q (ops.toList.drop k) a w
  | 0, k, listed, a, w, hsz, hf, hl, h => by
    rw [List.drop_eq_nil_of_le (by simp; omega)]
    exact h.2
  | fuel + 1, k, listed, a, w, hsz, hf, hl, h => by
    have hk : k < ops.size := by omega
    have ho : ops[k]? = some ops[k] := Array.getElem?_eq_getElem hk
    have hkf : listed.getD k true = false := by
      have : ¬ listed.getD k false = true := fun e => by have := (hl k hk).1 e; omega
      simpa [Array.getD, hsz, hk] using this
    have hr : k ∈ Region.ready .any ops listed := mem_ready.2 ⟨hkf, _, ho, fun e he hb => (hl e.on (by have := hback k _ e ho he hb; omega)).2 (hback k _ e ho he hb)⟩
    have h1 := h.2 k hr
    have hdr : ops.toList.drop k = ops[k] :: ops.toList.drop (k + 1) := by
      rw [List.drop_eq_getElem_cons (by simpa using hk)]
      simp
    rw [hdr]
    have h2 := wpOp_mono (fun a' w' h' => wpAny_seq hback fuel (k + 1) (listed.setIfInBounds k true) a' w' (by simpa using hsz) (by omega) (fun j hj => by
      by_cases hjk : k = j
      · subst hjk; simp [Array.getD, hsz, hk]
      · rw [getD_set_ne false hjk, hl j hj]; omega) h') h1
    unfold wpOp at h2
    simp only [ho] at h2
    exact h2

/-- A REGION IN THE ORDER OF ITS TEXT, BY THE SAME INVARIANT. N: the operations of the head; the others wait for all before them. -/
theorem wp_region_seq {P : Program} {Q : Exit → Act → World → Prop} {id : Nat} {l : List Oper} {a0 : Act} {w : World} (N total : Nat) (R : Nat → Value → Nat → World → Prop) (C : Nat → World → Prop) (S : Nat → World → Nat → World → Prop) (cost lim : Nat → Nat)
    (hm : P.follows .mixedOrders = true) (hB : (invB l.toArray N a0.tmps.size && edgeB l.toArray) = true) (htot : sumCost cost (Array.replicate l.toArray.size true) l.toArray.size ≤ total) (hlm : limB l.toArray N total cost lim = true)
    (hS : ∀ p v n w n' w', R p v n w → S n w n' w' → R p v n' w') (hC : C 0 w)
    (h : ∃ A : (Nat → Value) → Act, (∀ T, setAll (l.take N) 0 T a0 = A T) ∧ ObAll P A R C S cost lim (l.take N) 0 ∧
      ∀ T w', (∃ n, n ≤ total ∧ C n w' ∧ ∀ p, p < N → R p (T p) n w') → wpList P l.toArray Q (l.drop N) (A T) w') :
    (Code.region id l.toArray false).wp P Q a0 w := by
  obtain ⟨A, hA, hob, hend⟩ := h
  simp only [Bool.and_eq_true] at hB
  have key := region_any (P := P) (Q := Q) (ops := l.toArray) (a0 := a0) (R := R) (C := C) (S := S) (cost := cost) (lim := lim) (total := total) (invB_spec hB.1) hS htot (limB_spec hlm)
    (fun i o ho hi => ob_of (invB_spec hB.1) hB.2 ho hi (fun T => by simpa using hA T) (by
      have := ObAll.get _ _ hob i o (by rw [List.getElem?_take, if_pos hi]; simpa using ho)
      simpa using this))
    (fun T w' hc => by
      have := hend T w' hc
      rw [← hA T] at this
      simpa using this)
    l.toArray.size (Array.replicate l.toArray.size false) a0 w (by simp)
  have h0 : ∀ j, (Array.replicate l.toArray.size false).getD j false = false := fun j => getD_replicate_false _ _
  have hz : ∀ (c : Nat → Nat) k, sumCost c (Array.replicate l.toArray.size false) k = 0 := by
    intro c k
    induction k with
    | zero => rfl
    | succ k ih => simp only [sumCost, ih, h0]; rfl
  have hF : Fits l.toArray a0 (Array.replicate l.toArray.size false) (fun _ => undef) a0 := by
    refine ⟨rfl, rfl, ?_, fun t _ => rfl⟩
    intro j o d _ hl
    rw [h0] at hl
    cases hl
  refine wp_region_lit ?_
  have hfin : wpAny P .any l.toArray Q l.toArray.size (Array.replicate l.toArray.size false) a0 w → wpList P l.toArray Q l a0 w := fun h => by
    have := wpAny_seq (invB_spec hB.1).back l.toArray.size 0 _ a0 w (by simp) (by omega) (fun j _ => by rw [h0]; simp) h
    simpa using this
  refine hfin (key (by simp only [cnt, hz]; omega) ?_ (.inl ⟨fun _ => undef, fun j _ => h0 j, hF, by rw [hz]; exact hC, ?_⟩))
  · intro j _ hl
    rw [h0] at hl
    cases hl
  · intro j _ hl
    rw [h0] at hl
    cases hl
end Go.Proofs.YtcpafmndjcejjaaGreatDoor.Lm

namespace Go.Proofs.YtcpafmndjcejjaaGreatDoor
open Go.RowKit Go
set_option linter.unusedVariables false
end Go.Proofs.YtcpafmndjcejjaaGreatDoor

namespace Go.Proofs.YtcpafmndjcejjaaGreatDoor
open Go.RowKit Go
set_option linter.unusedVariables false
end Go.Proofs.YtcpafmndjcejjaaGreatDoor

namespace Go.Proofs.YtcpafmndjcejjaaGreatDoor
open Go.RowKit Go
set_option linter.unusedVariables false
end Go.Proofs.YtcpafmndjcejjaaGreatDoor

namespace Go.Proofs.YtcpafmndjcejjaaGreatDoor
open Go.RowKit Go
set_option linter.unusedVariables false

theorem heap_setCells_same {g : Nat} {t : TypeId} : ∀ (vs : List Value) (o : Nat) (w : World) (cur : Array Value), w.heap[g]? = some (.cells cur t (0, 0)) → ∃ cur', (w.setCells g o vs).heap[g]? = some (.cells cur' t (0, 0)) ∧ cur'.size = cur.size
  | [], _, w, cur, h => ⟨cur, h, rfl⟩
  | v :: r, o, w, cur, h => by
    obtain ⟨cur', h1, h2⟩ := heap_setCells_same r (o + 1) (w.setCell ⟨g, o, none⟩ v) (cur.setIfInBounds o v) (heap_setCell_same w g o cur t v h)
    exact ⟨cur', h1, by rw [h2]; simp⟩
theorem grown_setCells (g : Nat) : ∀ (vs : List Value) (o : Nat) (w : World), w.grownBy (w.setCells g o vs) (some g)
  | [], _, w => World.grownBy.refl _ _
  | v :: r, o, w => by
    have h1 : w.grownBy (w.setCell ⟨g, o, none⟩ v) (some g) := ⟨rfl, rfl, rfl, by simp, fun i hi hne => Below.heap_setCell w ⟨g, o, none⟩ v i (fun e => hne (by rw [e]))⟩
    exact grown_trans h1 (grown_setCells g r (o + 1) (w.setCell ⟨g, o, none⟩ v))
section
variable {α : Type} {E : Lay α}
theorem OwnK.of_cells {w : World} {B g n c : Nat} {cur : Array Value} {L : List α} (hl : L.length = n) (hB : B ≤ g) (hnc : n ≤ c) (hc : c ≤ maxLen) (hh : w.heap[g]? = some (.cells cur E.ty (0, 0))) (hs : cur.size = c * E.K)
    (hcell : ∀ (k : Nat) (x : α), L[k]? = some x → ∀ (j : Nat) (v : Value), (E.enc x)[j]? = some v → w.cell? ⟨g, k * E.K + j, none⟩ = some v) : OwnK E w B (.slice (some ⟨g, 0, none⟩) n c) L := by
  subst hl
  refine ⟨E.all_len L, .inr ⟨g, c, cur, rfl, hB, hh, hnc, hc, hs, ?_⟩⟩
  apply List.ext_getElem?
  intro t
  have hle : L.length * E.K ≤ c * E.K := Nat.mul_le_mul_right _ hnc
  rcases Nat.lt_or_ge t (L.length * E.K) with h | h
  · obtain ⟨x, hx, he⟩ := E.all_cut L t h
    rw [List.getElem?_take, if_pos h, he]
    have hj : t % E.K < (E.enc x).length := by rw [E.len]; exact Nat.mod_lt _ E.pos
    have := hcell (t / E.K) x hx (t % E.K) _ (List.getElem?_eq_getElem hj)
    rw [show t / E.K * E.K + t % E.K = t by rw [Nat.mul_comm]; exact Nat.div_add_mod t E.K, cell_of_row w g _ _ _ _ hh] at this
    rw [List.getElem?_eq_getElem hj, ← this]
    simp
  · rw [List.getElem?_eq_none (by rw [List.length_take]; simp; omega), List.getElem?_eq_none (by rw [E.all_len]; exact h)]
theorem OwnK.cellsAt {w : World} {B g n c : Nat} {L : List α} (h : OwnK E w B (.slice (some ⟨g, 0, none⟩) n c) L) {k : Nat} {x : α} (hx : L[k]? = some x) : w.rangeAt g (k * E.K) (E.enc x) := fun j v hv => h.get hx hv
theorem OwnK.there {w : World} {B g n c : Nat} {L : List α} (h : OwnK E w B (.slice (some ⟨g, 0, none⟩) n c) L) {o m : Nat} (hm : o + m ≤ n * E.K) : w.there g o m := fun j hj => by
  obtain ⟨hn, _, hc, _, cur, hg, hs, _⟩ := h.block
  refine ⟨?_, h.frozen _⟩
  rw [cell_of_row w g _ _ _ _ hg, Array.getElem?_eq_getElem (by have := Nat.mul_le_mul_right E.K hc; omega)]
  rfl
theorem mul_apart {i k K : Nat} (h : i ≠ k) : k * K + K ≤ i * K ∨ i * K + K ≤ k * K := by
  rcases Nat.lt_or_ge i k with h1 | h1
  · right; have := Nat.mul_le_mul_right K (show i + 1 ≤ k by omega); rw [Nat.add_mul] at this; omega
  · left; have := Nat.mul_le_mul_right K (show k + 1 ≤ i by omega); rw [Nat.add_mul] at this; omega
/-- an element is laid over another one -/
theorem OwnK.setRow {w : World} {B g n c : Nat} {L : List α} (h : OwnK E w B (.slice (some ⟨g, 0, none⟩) n c) L) {i : Nat} (hi : i < n) (y : α) : OwnK E (w.setCells g (i * E.K) (E.enc y)) B (.slice (some ⟨g, 0, none⟩) n c) (L.set i y) := by
  have hth := h.there (o := i * E.K) (m := E.K) (by have := Nat.mul_le_mul_right E.K (show i + 1 ≤ n by omega); rw [Nat.add_mul] at this; omega)
  obtain ⟨hn, hB, hc, hm, cur, hg, hs, ht⟩ := h.block
  obtain ⟨cur', h1, h2⟩ := heap_setCells_same (E.enc y) (i * E.K) w cur hg
  refine OwnK.of_cells (by rw [List.length_set]; exact hn.symm) hB hc hm h1 (by rw [h2, hs]) fun k x hx j v hv => ?_
  by_cases e : k = i
  · subst e
    rw [List.getElem?_set_self (by rw [← hn]; exact hi)] at hx
    injection hx with hx
    subst hx
    exact World.rangeAt_setCells_same w g (k * E.K) (E.enc y) (by rw [E.len]; exact hth) j v hv
  · rw [List.getElem?_set_ne (fun h => e h.symm)] at hx
    exact World.rangeAt_setCells_apart (h.cellsAt hx) g (i * E.K) (E.enc y) (.inr (by rw [E.len, E.len]; exact mul_apart (fun h => e h.symm))) j v hv
/-- the first elements stay, whatever is laid behind them -/
theorem OwnK.cut {w : World} {B g n c : Nat} {L : List α} (h : OwnK E w B (.slice (some ⟨g, 0, none⟩) n c) L) {i : Nat} (hi : i ≤ n) (vs : List Value) : OwnK E (w.setCells g (i * E.K) vs) B (.slice (some ⟨g, 0, none⟩) i c) (L.take i) := by
  obtain ⟨hn, hB, hc, hm, cur, hg, hs, ht⟩ := h.block
  obtain ⟨cur', h1, h2⟩ := heap_setCells_same vs (i * E.K) w cur hg
  refine OwnK.of_cells (by rw [List.length_take]; omega) hB (by omega) hm h1 (by rw [h2, hs]) fun k x hx j v hv => ?_
  have hk : k < i := by
    have := (List.getElem?_eq_some_iff.1 hx).1
    rw [List.length_take] at this; omega
  rw [List.getElem?_take, if_pos hk] at hx
  refine World.rangeAt_setCells_apart (h.cellsAt hx) g (i * E.K) vs (.inr (.inl ?_)) j v hv
  rw [E.len]
  have := Nat.mul_le_mul_right E.K (show k + 1 ≤ i by omega)
  rw [Nat.add_mul] at this; omega
theorem OwnK.take {w : World} {B g n c : Nat} {L : List α} (h : OwnK E w B (.slice (some ⟨g, 0, none⟩) n c) L) {i : Nat} (hi : i ≤ n) : OwnK E w B (.slice (some ⟨g, 0, none⟩) i c) (L.take i) := h.cut hi []
end
end Go.Proofs.YtcpafmndjcejjaaGreatDoor

namespace Go.Proofs.YtcpafmndjcejjaaGreatDoor
open Go.RowKit Go Go.Sort
set_option linter.unusedVariables false
section
variable {α : Type} [Inhabited α] {E : Lay α}
end
end Go.Proofs.YtcpafmndjcejjaaGreatDoor

namespace Go.Proofs.YtcpafmndjcejjaaGreatDoor
open Go.RowKit Go Go.Sort
set_option linter.unusedVariables false

section
variable {α : Type} [Inhabited α]
end
end Go.Proofs.YtcpafmndjcejjaaGreatDoor
