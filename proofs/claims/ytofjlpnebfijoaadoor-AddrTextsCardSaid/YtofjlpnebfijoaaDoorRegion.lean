/-
  A region that draws its order, by an invariant: each operation, run once all its forerunners have run, yields a value that meets its own predicate; the last operations, which wait for all others, are walked in order. Conditions: the closed check invB.
-/
import Derived.WalkKit
import Derived.StillTail
import Derived.KernelRfl
import Derived.Deep.QuietTactic
import Derived.BigQuiet
namespace Go.Proofs.YtofjlpnebfijoaaDoor
open Go

/-- One operation with its operands' values: it yields a value and a world with the post, and does not panic. -/
def Op1 (P : Program) (o : Oper) (ρ : Operand → Value) (w : World) (post : Value → World → Prop) : Prop :=
  match (execOp ρ o).run P w with
  | .ok (.value v) w' => post v w'
  | .ok .skip w' => post undef w'
  | .ok (.enter f args) w' => Calls P f args w' fun e w'' => ∃ v, e = .returned v ∧ post v w''
  | _ => False

theorem Op1.wp {P : Program} {o : Oper} {a : Act} {w : World} {post : Value → World → Prop} {K : Act → World → Prop} {Q : Exit → Act → World → Prop}
    (h : Op1 P o a.eval w post) (hK : ∀ v w', post v w' → K (a.put o.dst v) w') : o.wp P a w K Q := by
  unfold Oper.wp
  unfold Op1 at h
  generalize (execOp a.eval o).run P w = r at *
  cases r with
  | halt x w' => exact h.elim
  | ok n w' =>
    cases n <;> simp only [Oper.upon] at h ⊢
    case value v => exact hK _ _ h
    case skip => exact hK _ _ h
    case enter f args => exact Calls.mono h fun e w'' ⟨v, he, hp⟩ => by subst he; exact hK _ _ hp

theorem Op1.mono {P : Program} {o : Oper} {ρ : Operand → Value} {w : World} {post post' : Value → World → Prop} (h : Op1 P o ρ w post) (hp : ∀ v w', post v w' → post' v w') : Op1 P o ρ w post' := by
  unfold Op1 at *
  generalize (execOp ρ o).run P w = r at *
  cases r with
  | halt x w' => exact h.elim
  | ok n w' =>
    cases n <;> simp only at h ⊢
    case value v => exact hp _ _ h
    case skip => exact hp _ _ h
    case enter f args => exact Calls.mono h fun e w'' ⟨v, he, hh⟩ => ⟨v, he, hp _ _ hh⟩

def setAll : List Oper → Nat → (Nat → Value) → Act → Act
  | [], _, _, a => a
  | o :: l, k, T, a => setAll l (k + 1) T (a.put o.dst (T k))

/-- who writes slot t: the last one -/
def lastW (t : Tmp) : List Oper → Nat → Option Nat
  | [], _ => none
  | o :: l, k => match lastW t l (k + 1) with
    | some j => some j
    | none => if o.dst = some t then some k else none

theorem put_size (a : Act) (d : Option Tmp) (v : Value) : (a.put d v).tmps.size = a.tmps.size := by cases d <;> simp [Act.put]
theorem put_get (a : Act) (d : Option Tmp) (v : Value) (t : Nat) (ht : t < a.tmps.size) : (a.put d v).tmps[t]? = if d = some t then some v else a.tmps[t]? := by
  cases d with
  | none => simp [Act.put]
  | some d =>
    by_cases h : d = t
    · subst h; simp [Act.put, ht]
    · simp [Act.put, Array.getElem?_setIfInBounds_ne h, h]

theorem setAll_size (T : Nat → Value) : ∀ (l : List Oper) (k : Nat) (a : Act), (setAll l k T a).tmps.size = a.tmps.size
  | [], _, _ => rfl
  | o :: l, k, a => by rw [setAll, setAll_size T l, put_size]
theorem setAll_defers (T : Nat → Value) : ∀ (l : List Oper) (k : Nat) (a : Act), (setAll l k T a).defers = a.defers
  | [], _, _ => rfl
  | o :: l, k, a => by rw [setAll, setAll_defers T l]; cases o.dst <;> rfl
theorem setAll_get (T : Nat → Value) (t : Nat) : ∀ (l : List Oper) (k : Nat) (a : Act), t < a.tmps.size →
    (setAll l k T a).tmps[t]? = match lastW t l k with | some j => some (T j) | none => a.tmps[t]?
  | [], _, _, _ => rfl
  | o :: l, k, a, ht => by
    rw [setAll, setAll_get T t l (k + 1) _ (by rw [put_size]; exact ht), lastW]
    cases h : lastW t l (k + 1) with
    | some j => rfl
    | none =>
      simp only [put_get a _ _ t ht]
      by_cases h2 : o.dst = some t <;> simp [h2]

theorem lastW_some {t : Tmp} {j : Nat} : ∀ (l : List Oper) (k : Nat), lastW t l k = some j → k ≤ j ∧ ∃ o, l[j - k]? = some o ∧ o.dst = some t
  | [], _, h => by cases h
  | o :: l, k, h => by
    rw [lastW] at h
    cases h2 : lastW t l (k + 1) with
    | some i =>
      simp only [h2, Option.some.injEq] at h
      subst h
      obtain ⟨hk, o', ho, hd⟩ := lastW_some l (k + 1) h2
      refine ⟨by omega, o', ?_, hd⟩
      rw [show i - k = (i - (k + 1)) + 1 by omega]
      simpa using ho
    | none =>
      simp only [h2] at h
      by_cases h3 : o.dst = some t
      · simp only [h3, if_true, Option.some.injEq] at h
        subst h
        exact ⟨Nat.le_refl _, o, by simp, h3⟩
      · simp [h3] at h
theorem lastW_none {t : Tmp} : ∀ (l : List Oper) (k : Nat), lastW t l k = none → ∀ (i : Nat) (o : Oper), l[i]? = some o → o.dst ≠ some t
  | [], _, _, i, o, ho => by simp at ho
  | o' :: l, k, h, i, o, ho => by
    rw [lastW] at h
    cases h2 : lastW t l (k + 1) with
    | some j => simp [h2] at h
    | none =>
      simp only [h2] at h
      cases i with
      | zero =>
        simp at ho; subst ho
        intro hd; simp [hd] at h
      | succ i => exact lastW_none l (k + 1) h2 i o (by simpa using ho)

def bef (ops : Array Oper) (i p : Nat) : Bool := ((Region.before ops).getD i 0).testBit p

/-- The closed check. -/
def invB (ops : Array Oper) (N sz : Nat) : Bool :=
  Region.noSelect ops && decide (N ≤ ops.size) &&
  (List.range ops.size).all fun i => match ops[i]? with
    | none => true
    | some o =>
      ((List.range ops.size).all fun j => j == i || match ops[j]? with
        | none => true
        | some o' => o.dst == none || !(o.dst == o'.dst)) &&
      (match o.dst with | some d => decide (d < sz) | none => true) &&
      ((List.range N).all fun j => match ops[j]? with
        | none => true
        | some o' => match o'.dst with
          | none => true
          | some d => !(o.looksAt ops).contains d || bef ops i j) &&
      (match o.guard with | some (g, _) => bef ops i g && decide (g < ops.size) | none => true) &&
      ((List.range ops.size).all fun p => !bef ops i p || o.after.any fun e => Region.binds .any e && (e.on == p || bef ops e.on p)) &&
      (o.after.all fun e => !Region.binds .any e || decide (e.on < i)) &&
      (decide (i < N) || (List.range i).all fun j => bef ops i j)

structure InvB (ops : Array Oper) (N sz : Nat) : Prop where
  sel : Region.noSelect ops = true
  le : N ≤ ops.size
  uniq : ∀ (i j : Nat) (o o' : Oper) d, ops[i]? = some o → ops[j]? = some o' → o.dst = some d → o'.dst = some d → i = j
  size : ∀ (i : Nat) (o : Oper) d, ops[i]? = some o → o.dst = some d → d < sz
  looks : ∀ (i j : Nat) (o o' : Oper) d, j < N → ops[i]? = some o → ops[j]? = some o' → o'.dst = some d → d ∈ o.looksAt ops → bef ops i j = true
  guard : ∀ (i : Nat) (o : Oper) g b, ops[i]? = some o → o.guard = some (g, b) → bef ops i g = true ∧ g < ops.size
  clos : ∀ (i p : Nat) (o : Oper), ops[i]? = some o → p < ops.size → bef ops i p = true → ∃ e ∈ o.after, Region.binds .any e = true ∧ (e.on = p ∨ bef ops e.on p = true)
  back : ∀ (i : Nat) (o : Oper) e, ops[i]? = some o → e ∈ o.after → Region.binds .any e = true → e.on < i
  tail : ∀ (i j : Nat), N ≤ i → i < ops.size → j < i → bef ops i j = true

theorem invB_spec {ops : Array Oper} {N sz : Nat} (h : invB ops N sz = true) : InvB ops N sz := by
  simp only [invB, Bool.and_eq_true, List.all_eq_true, List.mem_range, decide_eq_true_eq] at h
  obtain ⟨⟨h1, h2⟩, h3⟩ := h
  have lt : ∀ {i : Nat} {o : Oper}, ops[i]? = some o → i < ops.size := fun ho => (Array.getElem?_eq_some_iff.1 ho).1
  have get : ∀ {i : Nat} {o : Oper} (ho : ops[i]? = some o), _ := fun {i o} ho => by
    have := h3 i (lt ho)
    simp only [ho, Bool.and_eq_true] at this
    exact this
  refine ⟨h1, h2, ?_, ?_, ?_, ?_, ?_, ?_, ?_⟩
  · intro i j o o' d hi hj hd hd'
    have := (get hi).1.1.1.1.1.1
    simp only [List.all_eq_true, List.mem_range] at this
    have := this j (lt hj)
    simp only [hj, hd, hd'] at this
    simp at this
    exact this.symm
  · intro i o d hi hd
    have := (get hi).1.1.1.1.1.2
    simpa [hd] using this
  · intro i j o o' d hjN hi hj hd hm
    have := (get hi).1.1.1.1.2
    simp only [List.all_eq_true, List.mem_range] at this
    have := this j hjN
    simp only [hj, hd] at this
    simpa [hm] using this
  · intro i o g b hi hg
    have := (get hi).1.1.1.2
    simpa [hg] using this
  · intro i p o hi hp hb
    have := (get hi).1.1.2
    simp only [List.all_eq_true, List.mem_range] at this
    have := this p hp
    simp only [hb, Bool.not_true, Bool.false_or, Array.any_eq_true', Bool.and_eq_true, Bool.or_eq_true, beq_iff_eq] at this
    obtain ⟨e, he, h5, h6⟩ := this
    exact ⟨e, he, h5, h6⟩
  · intro i o e hi he hb
    have := (get hi).1.2
    rw [Array.all_eq_true_iff_forall_mem] at this
    have := this e he
    simpa [hb] using this
  · intro i j hN hi hj
    obtain ⟨o, ho⟩ : ∃ o, ops[i]? = some o := ⟨ops[i], Array.getElem?_eq_getElem hi⟩
    have := (get ho).2
    simp only [Bool.or_eq_true, decide_eq_true_eq, List.all_eq_true, List.mem_range] at this
    exact this.resolve_left (by omega) j hj

section
variable {P : Program} {ops : Array Oper} {Q : Exit → Act → World → Prop} {N total : Nat} {a0 : Act}
variable {R : Nat → Value → World → Prop} {C : Nat → World → Prop} {S : World → World → Prop} {cost : Nat → Nat}

/-- What is asked of operation i. -/
def Ob (P : Program) (ops : Array Oper) (a0 : Act) (R : Nat → Value → World → Prop) (C : Nat → World → Prop) (S : World → World → Prop) (cost : Nat → Nat) (total N : Nat) (i : Nat) (o : Oper) : Prop :=
  ∀ (T : Nat → Value) (w : World) (n : Nat), C n w → n + cost i ≤ total → (∀ p, p < ops.size → bef ops i p = true → R p (T p) w) →
    if Region.wanted o (yielded ops (setAll (ops.toList.take N) 0 T a0).tmps) then
      Op1 P o (setAll (ops.toList.take N) 0 T a0).eval w fun v w' => R i v w' ∧ C (n + cost i) w' ∧ S w w'
    else R i undef w ∧ C (n + cost i) w ∧ S w w

def sumCost (cost : Nat → Nat) (listed : Array Bool) : Nat → Nat
  | 0 => 0
  | k + 1 => sumCost cost listed k + if listed.getD k false then cost k else 0

theorem sumCost_set {listed : Array Bool} {i : Nat} (hi : listed.getD i true = false) : ∀ k, sumCost cost (listed.setIfInBounds i true) k = sumCost cost listed k + if i < k then cost i else 0
  | 0 => rfl
  | k + 1 => by
    have hlt : i < listed.size := by
      rcases Nat.lt_or_ge i listed.size with h | h
      · exact h
      · simp [Array.getD, Nat.not_lt.2 h] at hi
    have hif : listed.getD i false = false := by simpa [Array.getD, hlt] using hi
    rw [sumCost, sumCost, sumCost_set hi k]
    by_cases hik : i = k
    · subst hik
      have : (listed.setIfInBounds i true).getD i false = true := by simp [Array.getD, hlt]
      simp [this, hif]
    · have h2 : (listed.setIfInBounds i true).getD k false = listed.getD k false := getD_set_ne false hik
      rw [h2]
      have : (i < k + 1) ↔ i < k := by omega
      simp only [this]
      omega
theorem sumCost_le {listed : Array Bool} : ∀ k, sumCost cost listed k ≤ sumCost cost (Array.replicate k true) k := by
  have gen : ∀ k m, k ≤ m → sumCost cost listed k ≤ sumCost cost (Array.replicate m true) k := by
    intro k
    induction k with
    | zero => intro m _; exact Nat.le_refl _
    | succ k ih =>
      intro m hm
      have h1 := ih m (by omega)
      have h2 : (Array.replicate m true).getD k false = true := by simp [Array.getD]; omega
      simp only [sumCost, h2, if_true]
      split <;> omega
  exact fun k => gen k k (Nat.le_refl _)
def cnt (listed : Array Bool) : Nat → Nat := sumCost (fun _ => 1) listed
theorem cnt_le (listed : Array Bool) : ∀ k, cnt listed k ≤ k
  | 0 => Nat.le_refl _
  | k + 1 => by have := cnt_le listed k; simp only [cnt, sumCost] at *; split <;> omega
theorem cnt_full {listed : Array Bool} : ∀ k, cnt listed k = k → ∀ j, j < k → listed.getD j false = true
  | 0, _, j, hj => by omega
  | k + 1, h, j, hj => by
    have h1 := cnt_le listed k
    simp only [cnt, sumCost] at h h1
    by_cases hk : listed.getD k false = true
    · simp only [hk, if_true] at h
      rcases Nat.lt_or_ge j k with h2 | h2
      · exact cnt_full k (by simp only [cnt]; omega) j h2
      · obtain rfl : j = k := by omega
        exact hk
    · simp only [hk] at h
      simp at h
      omega

/-- The listed operations' values stand in the frame; all else is as it was. -/
structure Fits (ops : Array Oper) (a0 : Act) (listed : Array Bool) (T : Nat → Value) (a : Act) : Prop where
  defers : a.defers = a0.defers
  size : a.tmps.size = a0.tmps.size
  set : ∀ (j : Nat) (o : Oper) d, ops[j]? = some o → listed.getD j false = true → o.dst = some d → a.tmps[d]? = some (T j)
  rest : ∀ t, (∀ (j : Nat) (o : Oper), ops[j]? = some o → listed.getD j false = true → o.dst ≠ some t) → a.tmps[t]? = a0.tmps[t]?

theorem getD_false {listed : Array Bool} {i : Nat} (h : listed.getD i true = false) : i < listed.size ∧ listed.getD i false = false := by
  have hlt : i < listed.size := by
    rcases Nat.lt_or_ge i listed.size with h2 | h2
    · exact h2
    · simp [Array.getD, Nat.not_lt.2 h2] at h
  exact ⟨hlt, by simpa [Array.getD, hlt] using h⟩

theorem Fits.put {listed : Array Bool} {T : Nat → Value} {a : Act} (hB : InvB ops N a0.tmps.size) (h : Fits ops a0 listed T a) {i : Nat} {o : Oper} (ho : ops[i]? = some o) (hi : listed.getD i true = false) (v : Value) :
    Fits ops a0 (listed.setIfInBounds i true) (fun j => if j = i then v else T j) (a.put o.dst v) := by
  obtain ⟨hlt, hif⟩ := getD_false hi
  have hset : ∀ j, (listed.setIfInBounds i true).getD j false = true ↔ (j = i ∨ listed.getD j false = true) := fun j => by
    by_cases hj : i = j
    · subst hj; simp [Array.getD, hlt]
    · rw [getD_set_ne false hj]; simp [Ne.symm hj]
  refine ⟨by rw [← h.defers]; cases o.dst <;> rfl, by rw [put_size, h.size], ?_, ?_⟩
  · intro j o' d hj hl hd
    have hds := hB.size j o' d hj hd
    rw [put_get _ _ _ _ (by rw [h.size]; exact hds)]
    rcases (hset j).1 hl with rfl | hl'
    · rw [ho] at hj; injection hj with hj; subst hj
      simp [hd]
    · have hne : j ≠ i := fun e => by subst e; rw [hif] at hl'; cases hl'
      have : o.dst ≠ some d := fun e => hne (hB.uniq j i o' o d hj ho hd e)
      simp only [this, if_false, hne]
      exact h.set j o' d hj hl' hd
  · intro t ht
    have h1 : o.dst ≠ some t := ht i o ho ((hset i).2 (.inl rfl))
    have h2 := h.rest t fun j o' hj hl => ht j o' hj ((hset j).2 (.inr hl))
    rw [← h2]
    cases hd : o.dst with
    | none => simp [Act.put]
    | some d => simp only [Act.put]; rw [Array.getElem?_setIfInBounds_ne (fun e => h1 (by rw [hd, e]))]

/-- At a ready operation of the head the frame and the whole one agree on what it looks at. -/
theorem Fits.agree {listed : Array Bool} {T : Nat → Value} {a : Act} (hB : InvB ops N a0.tmps.size) (h : Fits ops a0 listed T a) (htl : ∀ j, N ≤ j → listed.getD j false = false) {i : Nat} {o : Oper} (ho : ops[i]? = some o)
    (hl : ∀ p, bef ops i p = true → p < ops.size → listed.getD p false = true ∧ p < N) (t : Tmp) (ht : t ∈ o.looksAt ops) : a.tmps[t]? = (setAll (ops.toList.take N) 0 T a0).tmps[t]? := by
  rcases Nat.lt_or_ge t a0.tmps.size with hts | hts
  · rw [setAll_get T t _ 0 a0 hts]
    cases hw : lastW t (ops.toList.take N) 0 with
    | some j =>
      obtain ⟨_, o', ho', hd⟩ := lastW_some _ _ hw
      simp only [Nat.sub_zero, List.getElem?_take] at ho'
      split at ho'
      · rename_i hjN
        have hj : ops[j]? = some o' := by simpa using ho'
        have hb := hB.looks i j o o' t (by simpa using hjN) ho hj hd ht
        exact h.set j o' t hj (hl j hb (Array.getElem?_eq_some_iff.1 hj).1).1 hd
      · cases ho'
    | none =>
      refine h.rest t fun j o' hj hlj hd => ?_
      have hjN : j < N := by
        rcases Nat.lt_or_ge j N with h2 | h2
        · exact h2
        · rw [htl j h2] at hlj; cases hlj
      exact lastW_none _ _ hw j o' (by rw [List.getElem?_take, if_pos hjN]; simpa using hj) hd
  · rw [Array.getElem?_eq_none (by rw [h.size]; exact hts), Array.getElem?_eq_none (by rw [setAll_size]; exact hts)]

theorem eval_of_get {a b : Act} (o : Oper) (h : ∀ t, t ∈ o.looksAt ops → a.tmps[t]? = b.tmps[t]?) : ∀ x ∈ o.op.operands, a.eval x = b.eval x := by
  intro x hx
  cases x with
  | tmp t =>
    have := h t (List.mem_append_left _ (List.mem_filterMap.2 ⟨.tmp t, by simpa using hx, rfl⟩))
    simp [Act.eval, Array.getD_eq_getD_getElem?, this]
  | _ => rfl
theorem wanted_of_get {a b : Act} (o : Oper) (h : ∀ t, t ∈ o.looksAt ops → a.tmps[t]? = b.tmps[t]?) : Region.wanted o (yielded ops a.tmps) = Region.wanted o (yielded ops b.tmps) := by
  unfold Region.wanted
  cases hg : o.guard with
  | none => rfl
  | some gw =>
    obtain ⟨g, want⟩ := gw
    have hy : yielded ops a.tmps g = yielded ops b.tmps g := by
      unfold yielded
      cases ht : (ops[g]?).bind (·.dst) with
      | none => rfl
      | some t =>
        have := h t (List.mem_append_right _ (by simp [hg, ht]))
        simp [this]
    simp only [hy]

theorem region_any (hB : InvB ops N a0.tmps.size) (hS : ∀ p v w w', R p v w → S w w' → R p v w')
    (htot : sumCost cost (Array.replicate ops.size true) ops.size ≤ total)
    (hob : ∀ (i : Nat) (o : Oper), ops[i]? = some o → i < N → Ob P ops a0 R C S cost total N i o)
    (hend : ∀ T w, (∃ n, n ≤ total ∧ C n w) → (∀ p, p < N → R p (T p) w) → wpList P ops Q (ops.toList.drop N) (setAll (ops.toList.take N) 0 T a0) w) :
    ∀ (fuel : Nat) (listed : Array Bool) (a : Act) (w : World), listed.size = ops.size → fuel + cnt listed ops.size = ops.size →
      (∀ j, j < ops.size → listed.getD j false = true → ∀ p, p < ops.size → bef ops j p = true → listed.getD p false = true) →
      ((∃ T, (∀ j, N ≤ j → listed.getD j false = false) ∧ Fits ops a0 listed T a ∧ C (sumCost cost listed ops.size) w ∧ ∀ j, j < ops.size → listed.getD j false = true → R j (T j) w) ∨
       (∃ k, N ≤ k ∧ k ≤ ops.size ∧ (∀ j, j < ops.size → (listed.getD j false = true ↔ j < k)) ∧ wpList P ops Q (ops.toList.drop k) a w)) →
      wpAny P .any ops Q fuel listed a w := by
  -- the whole head is there: the two frames are one
  have whole : ∀ (listed : Array Bool) (T : Nat → Value) (a : Act), (∀ j, N ≤ j → listed.getD j false = false) → (∀ j, j < N → listed.getD j false = true) → Fits ops a0 listed T a → a = setAll (ops.toList.take N) 0 T a0 := by
    intro listed T a ht hh hF
    have h1 : a.defers = (setAll (ops.toList.take N) 0 T a0).defers := by rw [setAll_defers, hF.defers]
    have h2 : a.tmps = (setAll (ops.toList.take N) 0 T a0).tmps := by
      refine Array.ext_getElem? fun t => ?_
      rcases Nat.lt_or_ge t a0.tmps.size with hts | hts
      · rw [setAll_get T t _ 0 a0 hts]
        cases hw : lastW t (ops.toList.take N) 0 with
        | some j =>
          obtain ⟨_, o', ho', hd⟩ := lastW_some _ _ hw
          simp only [Nat.sub_zero, List.getElem?_take] at ho'
          split at ho'
          · rename_i hjN
            exact hF.set j o' t (by simpa using ho') (hh j hjN) hd
          · cases ho'
        | none =>
          refine hF.rest t fun j o' hj hlj hd => ?_
          have hjN : j < N := by
            rcases Nat.lt_or_ge j N with h | h
            · exact h
            · rw [ht j h] at hlj; cases hlj
          exact lastW_none _ _ hw j o' (by rw [List.getElem?_take, if_pos hjN]; simpa using hj) hd
      · rw [Array.getElem?_eq_none (by rw [hF.size]; exact hts), Array.getElem?_eq_none (by rw [setAll_size]; exact hts)]
    cases a; cases hb : setAll (ops.toList.take N) 0 T a0; simp_all
  -- nothing ready: all is listed
  have allListed : ∀ (listed : Array Bool), listed.size = ops.size → Region.ready .any ops listed = [] → ∀ j, j < ops.size → listed.getD j false = true := by
    intro listed hsz hr j
    induction j using Nat.strongRecOn with
    | _ j ih =>
      intro hj
      cases hlj : listed.getD j false with
      | true => rfl
      | false =>
        exfalso
        obtain ⟨o, ho⟩ : ∃ o, ops[j]? = some o := ⟨ops[j], Array.getElem?_eq_getElem hj⟩
        have : j ∈ Region.ready .any ops listed := mem_ready.2 ⟨by simpa [Array.getD, hsz, hj] using hlj, o, ho, fun e he hb => ih e.on (hB.back j o e ho he hb) (by have := hB.back j o e ho he hb; omega)⟩
        rw [hr] at this; cases this
  -- the end
  have fin : ∀ (listed : Array Bool) (a : Act) (w : World), (∀ j, j < ops.size → listed.getD j false = true) →
      ((∃ T, (∀ j, N ≤ j → listed.getD j false = false) ∧ Fits ops a0 listed T a ∧ C (sumCost cost listed ops.size) w ∧ ∀ j, j < ops.size → listed.getD j false = true → R j (T j) w) ∨
       (∃ k, N ≤ k ∧ k ≤ ops.size ∧ (∀ j, j < ops.size → (listed.getD j false = true ↔ j < k)) ∧ wpList P ops Q (ops.toList.drop k) a w)) → Q .normal a w := by
    intro listed a w hall h
    rcases h with ⟨T, ht, hF, hC, hR⟩ | ⟨k, hk1, hk2, hk3, hk4⟩
    · have hN : N = ops.size := by
        rcases Nat.lt_or_ge N ops.size with h | h
        · have h1 := ht N (Nat.le_refl _)
          rw [hall N h] at h1; cases h1
        · have := hB.le; omega
      have ha := whole listed T a ht (fun j hj => hall j (by omega)) hF
      have := hend T w ⟨_, Nat.le_trans (sumCost_le _) htot, hC⟩ fun p hp => hR p (by omega) (hall p (by omega))
      rw [← ha, List.drop_eq_nil_of_le (by simp; omega)] at this
      exact this
    · have : k = ops.size := by
        rcases Nat.lt_or_ge k ops.size with h | h
        · have := (hk3 k h).1 (hall k h); omega
        · omega
      rw [List.drop_eq_nil_of_le (by simp; omega)] at hk4
      exact hk4
  intro fuel
  induction fuel with
  | zero =>
    intro listed a w hsz hf hd h
    have hall := cnt_full ops.size (by omega : cnt listed ops.size = ops.size)
    refine ⟨?_, fin listed a w hall h⟩
    refine List.eq_nil_iff_forall_not_mem.2 fun i hi => ?_
    obtain ⟨h1, o, ho, _⟩ := mem_ready.1 hi
    have := hall i (Array.getElem?_eq_some_iff.1 ho).1
    rw [(getD_false h1).2] at this; cases this
  | succ fuel ih =>
    intro listed a w hsz hf hd h
    refine ⟨fun hr => fin listed a w (allListed listed hsz hr) h, fun i hi => ?_⟩
    obtain ⟨h1, o, ho, hafter⟩ := mem_ready.1 hi
    have hilt : i < ops.size := (Array.getElem?_eq_some_iff.1 ho).1
    have hset : ∀ j, (listed.setIfInBounds i true).getD j false = true ↔ (j = i ∨ listed.getD j false = true) := fun j => by
      by_cases hj : i = j
      · subst hj; simp [Array.getD, hsz, hilt]
      · rw [getD_set_ne false hj]; simp [Ne.symm hj]
    have hbef : ∀ p, p < ops.size → bef ops i p = true → listed.getD p false = true := fun p hp hb => by
      obtain ⟨e, he, hbi, hor⟩ := hB.clos i p o ho hp hb
      have h2 := hafter e he hbi
      rcases hor with rfl | hor
      · exact h2
      · exact hd e.on (by have := hB.back i o e ho he hbi; omega) h2 p hp hor
    have hsz' : (listed.setIfInBounds i true).size = ops.size := by simpa using hsz
    have hf' : fuel + cnt (listed.setIfInBounds i true) ops.size = ops.size := by
      have := sumCost_set (cost := fun _ => 1) h1 ops.size
      simp only [cnt, hilt, if_true] at this hf ⊢
      omega
    have hd' : ∀ j, j < ops.size → (listed.setIfInBounds i true).getD j false = true → ∀ p, p < ops.size → bef ops j p = true → (listed.setIfInBounds i true).getD p false = true := by
      intro j hj hl p hp hb
      rcases (hset j).1 hl with rfl | hl'
      · exact (hset p).2 (.inr (hbef p hp hb))
      · exact (hset p).2 (.inr (hd j hj hl' p hp hb))
    rcases h with ⟨T, ht, hF, hC, hR⟩ | ⟨k, hk1, hk2, hk3, hk4⟩
    · rcases Nat.lt_or_ge i N with hiN | hiN
      · -- a step of the head
        have hpN : ∀ p, bef ops i p = true → p < ops.size → listed.getD p false = true ∧ p < N := fun p hb hp => by
          have := hbef p hp hb
          refine ⟨this, ?_⟩
          rcases Nat.lt_or_ge p N with h | h
          · exact h
          · rw [ht p h] at this; cases this
        have hag := hF.agree hB ht ho hpN
        have hsum := sumCost_set (cost := cost) h1 ops.size
        simp only [hilt, if_true] at hsum
        have hlim : sumCost cost listed ops.size + cost i ≤ total := by rw [← hsum]; exact Nat.le_trans (sumCost_le _) htot
        have hO := hob i o ho hiN T w _ hC hlim fun p hp hb => hR p hp (hbef p hp hb)
        have next : ∀ v w', R i v w' ∧ C (sumCost cost listed ops.size + cost i) w' ∧ S w w' → wpAny P .any ops Q fuel (listed.setIfInBounds i true) (a.put o.dst v) w' := fun v w' ⟨q1, q2, q3⟩ =>
          ih _ _ _ hsz' hf' hd' (.inl ⟨fun j => if j = i then v else T j, fun j hj => by
              rw [getD_set_ne false (by omega)]; exact ht j hj, hF.put hB ho h1 v, by rw [hsum]; exact q2, fun j hj hl => by
              by_cases hji : j = i
              · subst hji; simpa using q1
              · simp only [hji, if_false]
                exact hS j _ _ _ (hR j hj (((hset j).1 hl).resolve_left hji)) q3⟩)
        unfold wpOp
        simp only [ho]
        rw [wanted_of_get (a := a) (b := setAll (ops.toList.take N) 0 T a0) o hag]
        split
        · rename_i hw
          rw [if_pos hw] at hO
          refine .inl (Op1.wp (post := fun v w' => R i v w' ∧ C (sumCost cost listed ops.size + cost i) w' ∧ S w w') ?_ next)
          unfold Op1 at hO ⊢
          rw [execOp_congr o (Region.noSelect_spec hB.sel i o · · ho) (eval_of_get o hag)]
          exact hO
        · rename_i hw
          rw [if_neg hw] at hO
          exact next undef w hO
      · -- the tail begins
        have hall : ∀ j, j < i → listed.getD j false = true := fun j hj => hbef j (by omega) (hB.tail i j hiN hilt hj)
        have hiN' : i = N := by
          rcases Nat.lt_or_ge N i with h | h
          · have h2 := ht N (Nat.le_refl _)
            rw [hall N h] at h2; cases h2
          · omega
        subst hiN'
        have ha := whole listed T a ht hall hF
        have hw := hend T w ⟨_, Nat.le_trans (sumCost_le _) htot, hC⟩ fun p hp => hR p (by omega) (hall p hp)
        rw [← ha] at hw
        have hdr : ops.toList.drop i = o :: ops.toList.drop (i + 1) := by
          rw [List.drop_eq_getElem_cons (by simpa using hilt)]
          congr 1
          have := (Array.getElem?_eq_some_iff.1 ho).2
          simpa using this
        rw [hdr] at hw
        have hwop : wpOp P ops Q i (wpList P ops Q (ops.toList.drop (i + 1))) a w := by unfold wpOp; simp only [ho]; exact hw
        refine wpOp_mono (fun a' w' h' => ih _ _ _ hsz' hf' hd' (.inr ⟨i + 1, by omega, by omega, fun j hj => ?_, h'⟩)) hwop
        rw [hset j]
        constructor
        · rintro (rfl | hl)
          · omega
          · rcases Nat.lt_or_ge j i with h | h
            · omega
            · rw [ht j h] at hl; cases hl
        · intro hj'
          by_cases hji : j = i
          · exact .inl hji
          · exact .inr (hall j (by omega))
    · -- a step of the tail
      have hik : i = k := by
        have hnl := (getD_false h1).2
        have h2 : ¬ i < k := fun hlt => by rw [(hk3 i hilt).2 hlt] at hnl; cases hnl
        rcases Nat.lt_or_ge k i with h | h
        · have h3 := hbef k (by omega) (hB.tail i k (by omega) hilt h)
          have := (hk3 k (by omega)).1 h3; omega
        · omega
      subst hik
      have hdr : ops.toList.drop i = o :: ops.toList.drop (i + 1) := by
        rw [List.drop_eq_getElem_cons (by simpa using hilt)]
        congr 1
        have := (Array.getElem?_eq_some_iff.1 ho).2
        simpa using this
      rw [hdr] at hk4
      have hwop : wpOp P ops Q i (wpList P ops Q (ops.toList.drop (i + 1))) a w := by unfold wpOp; simp only [ho]; exact hk4
      refine wpOp_mono (fun a' w' h' => ih _ _ _ hsz' hf' hd' (.inr ⟨i + 1, by omega, by omega, fun j hj => ?_, h'⟩)) hwop
      rw [hset j, hk3 j hj]
      omega

/-- what the forerunners have left -/
def AfterAll (R : Nat → Value → World → Prop) (T : Nat → Value) (w : World) : List Edge → Prop
  | [] => True
  | e :: l => match Region.binds .any e with
    | true => R e.on (T e.on) w ∧ AfterAll R T w l
    | false => AfterAll R T w l

theorem afterAll_of {R : Nat → Value → World → Prop} {T : Nat → Value} {w : World} : ∀ (l : List Edge), (∀ e ∈ l, Region.binds .any e = true → R e.on (T e.on) w) → AfterAll R T w l
  | [], _ => trivial
  | e :: l, h => by
    have ih := afterAll_of l fun e' he' => h e' (List.mem_cons_of_mem _ he')
    unfold AfterAll
    cases hb : Region.binds .any e with
    | true => exact ⟨h e (List.mem_cons_self ..) hb, ih⟩
    | false => exact ih

/-- what is asked of operation i, put plainly -/
def Ob' (P : Program) (A : (Nat → Value) → Act) (R : Nat → Value → World → Prop) (C : Nat → World → Prop) (S : World → World → Prop) (cost : Nat → Nat) (total : Nat) (i : Nat) (o : Oper) : Prop :=
  ∀ (T : Nat → Value) (w : World) (n : Nat), C n w → n + cost i ≤ total → AfterAll R T w o.after.toList →
    match o.guard with
    | none => Op1 P o (A T).eval w fun v w' => R i v w' ∧ C (n + cost i) w' ∧ S w w'
    | some (g, want) => (T g = .bool want → Op1 P o (A T).eval w fun v w' => R i v w' ∧ C (n + cost i) w' ∧ S w w') ∧
        (T g ≠ .bool want → R i undef w ∧ C (n + cost i) w ∧ S w w)

/-- what is asked of each operation of the head -/
def ObAll (P : Program) (A : (Nat → Value) → Act) (R : Nat → Value → World → Prop) (C : Nat → World → Prop) (S : World → World → Prop) (cost : Nat → Nat) (total : Nat) : List Oper → Nat → Prop
  | [], _ => True
  | o :: l, k => Ob' P A R C S cost total k o ∧ ObAll P A R C S cost total l (k + 1)

theorem ObAll.get {A : (Nat → Value) → Act} : ∀ (l : List Oper) (k : Nat), ObAll P A R C S cost total l k → ∀ (i : Nat) (o : Oper), l[i]? = some o → Ob' P A R C S cost total (k + i) o
  | [], _, _, i, o, ho => by simp at ho
  | o' :: l, k, h, i, o, ho => by
    cases i with
    | zero => simp at ho; subst ho; exact h.1
    | succ i =>
      have := ObAll.get l (k + 1) h.2 i o (by simpa using ho)
      rwa [show k + (i + 1) = k + 1 + i by omega]

/-- the direct forerunners are forerunners; a guard's operation writes a slot -/
def edgeB (ops : Array Oper) : Bool :=
  (List.range ops.size).all fun i => match ops[i]? with
    | none => true
    | some o => (o.after.all fun e => !Region.binds .any e || bef ops i e.on) &&
      (match o.guard with | some (g, _) => ((ops[g]?).bind (·.dst)).isSome | none => true)

theorem ob_of {A : (Nat → Value) → Act} (hB : InvB ops N a0.tmps.size) (hE : edgeB ops = true) {i : Nat} {o : Oper} (ho : ops[i]? = some o) (hi : i < N) (hA : ∀ T, setAll (ops.toList.take N) 0 T a0 = A T) (h : Ob' P A R C S cost total i o) : Ob P ops a0 R C S cost total N i o := by
  intro T w n hC hn hp
  have hlt := (Array.getElem?_eq_some_iff.1 ho).1
  have hE' := hE
  simp only [edgeB, List.all_eq_true, List.mem_range] at hE'
  have hEi := hE' i hlt
  simp only [ho, Bool.and_eq_true] at hEi
  obtain ⟨he1, he2⟩ := hEi
  rw [Array.all_eq_true_iff_forall_mem] at he1
  have hAft : AfterAll R T w o.after.toList := afterAll_of _ fun e he hb => by
    have hm : e ∈ o.after := by simpa using he
    have h1 := he1 e hm
    simp only [hb, Bool.not_true, Bool.false_or] at h1
    exact hp e.on (by have := hB.back i o e ho hm hb; omega) h1
  have h0 := h T w n hC hn hAft
  unfold Region.wanted
  cases hg : o.guard with
  | none =>
    simp only [hg] at h0
    rw [hA T]
    exact h0
  | some gw =>
    obtain ⟨g, want⟩ := gw
    simp only [hg] at h0 he2
    obtain ⟨hbg, hgs⟩ := hB.guard i o g want ho hg
    obtain ⟨og, hog⟩ : ∃ og, ops[g]? = some og := ⟨ops[g], Array.getElem?_eq_getElem hgs⟩
    simp only [hog, Option.bind_some] at he2
    obtain ⟨d, hd⟩ := Option.isSome_iff_exists.1 he2
    have hgi : g < i := by
      have : ∀ k, ∀ (i : Nat) (o : Oper), i < k → ops[i]? = some o → ∀ p, p < ops.size → bef ops i p = true → p < i := by
        intro k
        induction k with
        | zero => intro i o hk; omega
        | succ k ih =>
          intro i o hk hio p hps hb
          obtain ⟨e, he, hbi, hor⟩ := hB.clos i p o hio hps hb
          have h5 := hB.back i o e hio he hbi
          rcases hor with rfl | hor
          · exact h5
          · obtain ⟨o', ho'⟩ : ∃ o', ops[e.on]? = some o' := ⟨ops[e.on]'(by have := (Array.getElem?_eq_some_iff.1 hio).1; omega), Array.getElem?_eq_getElem _⟩
            have := ih e.on o' (by omega) ho' p hps hor
            omega
      exact this (i + 1) i o (by omega) ho g hgs hbg
    have hts : d < a0.tmps.size := hB.size g og d hog hd
    have hget : (setAll (ops.toList.take N) 0 T a0).tmps[d]? = some (T g) := by
      rw [setAll_get T d _ 0 a0 hts]
      cases hw : lastW d (ops.toList.take N) 0 with
      | some j =>
        obtain ⟨_, o', ho', hd'⟩ := lastW_some _ _ hw
        simp only [Nat.sub_zero, List.getElem?_take] at ho'
        split at ho'
        · have hj : ops[j]? = some o' := by simpa using ho'
          have := hB.uniq j g o' og d hj hog hd' hd
          simp [this]
        · cases ho'
      | none =>
        exfalso
        exact lastW_none _ _ hw g og (by rw [List.getElem?_take, if_pos (by omega)]; simpa using hog) hd
    have hy : yielded ops (setAll (ops.toList.take N) 0 T a0).tmps g = match T g with | .bool b => some b | _ => none := by
      unfold yielded
      simp only [hog, Option.bind_some, hd, hget]
      cases T g <;> rfl
    simp only [hy]
    by_cases hT : T g = .bool want
    · simp only [hT]
      simp only [beq_self_eq_true, if_true]
      rw [hA T]
      exact h0.1 hT
    · have hf : ((match T g with | .bool b => some b | _ => none) == some want) = false := by
        cases hv : T g <;> simp
        intro e
        exact hT (by rw [hv, e])
      simp only [hf]
      exact h0.2 hT
end

/-- A REGION THAT DRAWS ITS ORDER, BY AN INVARIANT. N: the operations of the head; the others wait for all before them. -/
theorem wp_region_inv {P : Program} {Q : Exit → Act → World → Prop} {id : Nat} {l : List Oper} {a0 : Act} {w : World} (N total : Nat) (R : Nat → Value → World → Prop) (C : Nat → World → Prop) (S : World → World → Prop) (cost : Nat → Nat)
    (hm : P.follows .mixedOrders = true) (hB : (invB l.toArray N a0.tmps.size && edgeB l.toArray) = true) (htot : sumCost cost (Array.replicate l.toArray.size true) l.toArray.size ≤ total)
    (hS : ∀ p v w w', R p v w → S w w' → R p v w') (hC : C 0 w.drew)
    (h : ∃ A : (Nat → Value) → Act, (∀ T, setAll (l.take N) 0 T a0 = A T) ∧ ObAll P A R C S cost total (l.take N) 0 ∧
      ∀ T w', (∃ n, n ≤ total ∧ C n w') → (∀ p, p < N → R p (T p) w') → wpList P l.toArray Q (l.drop N) (A T) w') :
    (Code.region id l.toArray true).wp P Q a0 w := by
  obtain ⟨A, hA, hob, hend⟩ := h
  simp only [Bool.and_eq_true] at hB
  refine wp_region_any hm ?_
  have key := region_any (P := P) (Q := Q) (ops := l.toArray) (a0 := a0) (R := R) (C := C) (S := S) (cost := cost) (total := total) (invB_spec hB.1) hS htot
    (fun i o ho hi => ob_of (invB_spec hB.1) hB.2 ho hi (fun T => by simpa using hA T) (by
      have := ObAll.get _ _ hob i o (by rw [List.getElem?_take, if_pos hi]; simpa using ho)
      simpa using this))
    (fun T w' hc hr => by
      have := hend T w' hc hr
      rw [← hA T] at this
      simpa using this)
    l.toArray.size (Array.replicate l.toArray.size false) a0 w.drew (by simp)
  have h0 : ∀ j, (Array.replicate l.toArray.size false).getD j false = false := fun j => getD_replicate_false _ _
  have hz : ∀ (c : Nat → Nat) k, sumCost c (Array.replicate l.toArray.size false) k = 0 := by
    intro c k
    induction k with
    | zero => rfl
    | succ k ih => simp only [sumCost, ih, h0]; rfl
  have hF : Fits l.toArray a0 (Array.replicate l.toArray.size false) (fun _ => undef) a0 := by
    refine ⟨rfl, rfl, ?_, fun t _ => rfl⟩
    intro j o d _ hl
    rw [h0] at hl
    cases hl
  refine key (by simp only [cnt, hz]; omega) ?_ (.inl ⟨fun _ => undef, fun j _ => h0 j, hF, by rw [hz]; exact hC, ?_⟩)
  · intro j _ hl
    rw [h0] at hl
    cases hl
  · intro j _ hl
    rw [h0] at hl
    cases hl
open Go.RowKit
/-- a pure function's contract: the value, and nothing that was there is changed -/
def Ret (v : Value) (w : World) (e : Ending) (w' : World) : Prop := e = .returned v ∧ Below w.heap.size w w'

theorem below_alloc {u v : World} (h : Below u.heap.size u v) (o : Obj) : Below u.heap.size u (v.alloc o) := h.alloc h.size o
theorem below_drewN {u v : World} (h : Below u.heap.size u v) (n : Nat) : Below u.heap.size u (v.drewN n) := ⟨h.os, h.tape, h.output, h.size, h.block⟩
theorem below_drew {u v : World} (h : Below u.heap.size u v) : Below u.heap.size u v.drew := ⟨h.os, h.tape, h.output, h.size, h.block⟩
theorem below_set {u v : World} (h : Below u.heap.size u v) {B : Nat} (hB : u.heap.size ≤ B) (i : Nat) (x : Value) : Below u.heap.size u (v.setCell ⟨B, i, none⟩ x) := h.setCell hB x


/-- the worlds in which all that lay in W is unchanged -/
def Later (W : World) : Type := { w' : World // Below W.heap.size W w' }
instance (W : World) : Inhabited (Later W) := ⟨⟨W, Below.refl _ _⟩⟩
theorem Later.cell {W : World} (n : Later W) {B i : Nat} (h : B < W.heap.size) : n.1.cell? ⟨B, i, none⟩ = W.cell? ⟨B, i, none⟩ := n.2.cell (p := ⟨B, i, none⟩) h
theorem Later.cell_of {W : World} {B i : Nat} {v : Value} (h : W.cell? ⟨B, i, none⟩ = some v) (n : Later W) : n.1.cell? ⟨B, i, none⟩ = some v := by
  rw [n.cell (World.block_lt_of_cell? W _ h)]; exact h
theorem Calls.later {P : Program} {f : FuncId} {args : Array Value} {W : World} {v : Value} (n : Later W) (h : Calls P f args n.1 (Ret v n.1)) :
    Calls P f args n.1 fun e w'' => e = .returned v ∧ ∃ m : Later W, w'' = m.1 :=
  h.mono fun _ w'' ⟨he, hb⟩ => ⟨he, ⟨w'', n.2.trans (hb.mono n.2.size)⟩, rfl⟩
theorem Calls.later_same {P : Program} {f : FuncId} {args : Array Value} {W : World} {v : Value} (n : Later W) (h : Calls P f args n.1 fun e w' => e = .returned v ∧ n.1 = w') :
    Calls P f args n.1 fun e w'' => e = .returned v ∧ ∃ m : Later W, w'' = m.1 :=
  h.mono fun _ _ ⟨he, hw⟩ => ⟨he, n, hw.symm⟩

/-- A REGION THAT DRAWS ITS ORDER, whose operations read and whose calls change nothing that lay there and give one value: walked once. -/
theorem wp_region_later {P : Program} {id : Nat} {Q : Exit → Act → World → Prop} {a : Act} {W : World} {l : List Oper} (hm : P.follows .mixedOrders = true) (hB : Region.lexB .any l.toArray = true)
    (h : wpQuiet P l.toArray (fun w' => ∃ n : Later W, w' = n.1) (fun a' => ∀ w', (∃ n : Later W, w' = n.1) → Q .normal a' w') l a) : (Code.region id l.toArray true).wp P Q a W :=
  wp_region_quiet (C := fun w' => ∃ n : Later W, w' = n.1) hm hB ⟨⟨W.drew, below_drew (Below.refl _ _)⟩, rfl⟩ (by simpa using h)
end Go.Proofs.YtofjlpnebfijoaaDoor
