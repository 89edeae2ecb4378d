/-
  Plain law of tables: the fault of a table, what it says of an address (the program's one pass, the reference's search from the longest bits on), what is squeezed out.
  The orders of prefixes: span.ComparePrefixes of the program, prefixOrder of the reference.
  The reference's Key says keyB.
  The program's order of flows and of reports; the count of draws never goes down.
  The reference's order of flows and of reports; the count of draws never goes down.
-/
import Derived.Test.YteccghdegckjhaaGreatDoorTD9
import Derived.Test.YteccghdegckjhaaGreatDoorTD7
import Derived.Test.YteccghdegckjhaaGreatDoorTD4
import Derived.Test.YteccghdegckjhaaGreatDoorTD11
import Derived.Test.YteccghdegckjhaaGreatDoorTD1
import Derived.Test.YteccghdegckjhaaGreatDoorTD5
set_option linter.unusedVariables false
namespace Go.Proofs.YteccghdegckjhaaGreatDoor
open Go.RowKit Go Go.Sort
set_option linter.unusedVariables false

/-- an entry: a prefix and where it leads -/
abbrev En := Pf × List UInt8
def zEn : En := (zPf, [])
/-- prefixes in order -/
def prLt (p q : Pf) : Bool := decide (nuP p < nuP q ∨ (nuP p = nuP q ∧ p.2.2.2 < q.2.2.2))
/-- the fault of an entry -/
def enF (x : En) : Int := if pfF x.1 ≠ 0 then pfF x.1 else if keyB x.2 = false then 5 else 0
def tabAt (T : List En) (i : Nat) : Int := if enF (T.getD i zEn) ≠ 0 then enF (T.getD i zEn) else if 0 < i ∧ prLt (T.getD (i - 1) zEn).1 (T.getD i zEn).1 = false then 7 else 0
/-- CheckTable -/
def tabF (T : List En) : Int := if 500 < T.length then 2 else firstN (tabAt T) T.length
/-- one pass: what is kept -/
def lkStep (x : Nat) (s : List UInt8 × Int) (e : En) : List UInt8 × Int := if s.2 < e.1.2.2.2 ∧ inP e.1 x = true then (e.2, e.1.2.2.2) else s
def lkP (T : List En) (x : Nat) : List UInt8 := (T.foldl (lkStep x) ([], -1)).1
/-- from the longest bits on -/
def lkAt (T : List En) (x : Nat) (b : Nat) : Option En := T.find? fun e => decide (e.1.2.2.2 = (b : Int)) && inP e.1 x
def lkQ (T : List En) (x : Nat) : Nat → Option En
  | 0 => lkAt T x 0
  | b + 1 => match lkAt T x (b + 1) with
    | some e => some e
    | none => lkQ T x b
def OkT (T : List En) : Prop := ∀ e ∈ T, OkPf e.1 ∧ e.2 ≠ []
theorem find_snoc {α : Type} (p : α → Bool) (T : List α) (e : α) : (T ++ [e]).find? p = match T.find? p with
    | some a => some a
    | none => if p e = true then some e else none := by
  rw [List.find?_append]
  cases T.find? p with
  | some a => rfl
  | none =>
    by_cases h : p e = true
    · simp [h]
    · simp [h]
/-- what the pass keeps is what the search finds -/
theorem lkP_inv (x : Nat) (T : List En) : (∀ e ∈ T, 0 ≤ e.1.2.2.2) →
    (T.foldl (lkStep x) ([], -1) = ([], -1) ∧ (∀ e ∈ T, inP e.1 x = false)) ∨
    (∃ e ∈ T, inP e.1 x = true ∧ T.foldl (lkStep x) ([], -1) = (e.2, e.1.2.2.2) ∧ (∀ f ∈ T, inP f.1 x = true → f.1.2.2.2 ≤ e.1.2.2.2) ∧ T.find? (fun f => decide (f.1.2.2.2 = e.1.2.2.2) && inP f.1 x) = some e) := by
  obtain ⟨R, rfl⟩ : ∃ R : List En, T = R.reverse := ⟨T.reverse, (List.reverse_reverse T).symm⟩
  induction R with
  | nil => intro _; left; exact ⟨rfl, fun e h => by cases h⟩
  | cons a R ih =>
    rw [List.reverse_cons]
    generalize R.reverse = T at *
    intro h0
    have h1 : ∀ e ∈ T, 0 ≤ e.1.2.2.2 := fun e h => h0 e (List.mem_append_left _ h)
    have ha : 0 ≤ a.1.2.2.2 := h0 a (List.mem_append_right _ (List.mem_singleton.2 rfl))
    rw [List.foldl_append]
    rcases ih h1 with ⟨e1, e2⟩ | ⟨e, he, e2, e1, e3, e4⟩
    · rw [e1]
      cases hp : inP a.1 x with
      | false =>
        left
        refine ⟨?_, fun e h => ?_⟩
        · simp [lkStep, hp]
        · rcases List.mem_append.1 h with h | h
          · exact e2 e h
          · rw [List.mem_singleton.1 h]; exact hp
      | true =>
        right
        refine ⟨a, List.mem_append_right _ (List.mem_singleton.2 rfl), hp, ?_, fun f hf hfp => ?_, ?_⟩
        · show lkStep x ([], -1) a = _
          unfold lkStep
          rw [if_pos ⟨by show (-1 : Int) < _; omega, hp⟩]
        · rcases List.mem_append.1 hf with h | h
          · rw [e2 f h] at hfp; cases hfp
          · rw [List.mem_singleton.1 h]; exact Int.le_refl _
        · rw [find_snoc]
          have : T.find? (fun f => decide (f.1.2.2.2 = a.1.2.2.2) && inP f.1 x) = none := by
            rw [List.find?_eq_none]
            intro f hf
            simp [e2 f hf]
          rw [this]
          simp [hp]
    · rw [e1]
      by_cases hc : e.1.2.2.2 < a.1.2.2.2 ∧ inP a.1 x = true
      · right
        refine ⟨a, List.mem_append_right _ (List.mem_singleton.2 rfl), hc.2, ?_, fun f hf hfp => ?_, ?_⟩
        · show lkStep x (e.2, e.1.2.2.2) a = _
          unfold lkStep
          rw [if_pos hc]
        · rcases List.mem_append.1 hf with h | h
          · have := e3 f h hfp; omega
          · rw [List.mem_singleton.1 h]; exact Int.le_refl _
        · rw [find_snoc]
          have : T.find? (fun f => decide (f.1.2.2.2 = a.1.2.2.2) && inP f.1 x) = none := by
            rw [List.find?_eq_none]
            intro f hf hh
            simp at hh
            have := e3 f hf hh.2
            omega
          rw [this]
          simp [hc.2]
      · right
        refine ⟨e, List.mem_append_left _ he, e2, ?_, fun f hf hfp => ?_, ?_⟩
        · show lkStep x (e.2, e.1.2.2.2) a = _
          unfold lkStep
          rw [if_neg hc]
        · rcases List.mem_append.1 hf with h | h
          · exact e3 f h hfp
          · rw [List.mem_singleton.1 h] at hfp ⊢
            exact Int.not_lt.1 fun h2 => hc ⟨h2, hfp⟩
        · rw [find_snoc, e4]
theorem lkQ_none {T : List En} {x : Nat} (h : ∀ e ∈ T, inP e.1 x = false) : ∀ b, lkQ T x b = none
  | 0 => by
    show lkAt T x 0 = none
    unfold lkAt
    rw [List.find?_eq_none]
    intro e he
    simp [h e he]
  | b + 1 => by
    have h1 : lkAt T x (b + 1) = none := by
      unfold lkAt
      rw [List.find?_eq_none]
      intro e he
      simp [h e he]
    rw [lkQ, h1]
    exact lkQ_none h b
theorem lkQ_hit {T : List En} {x : Nat} {e : En} {n : Nat} (hn : e.1.2.2.2 = (n : Int)) (h3 : ∀ f ∈ T, inP f.1 x = true → f.1.2.2.2 ≤ e.1.2.2.2) (h4 : T.find? (fun f => decide (f.1.2.2.2 = e.1.2.2.2) && inP f.1 x) = some e) :
    ∀ b, n ≤ b → lkQ T x b = some e
  | 0, h => by
    have : n = 0 := by omega
    subst this
    show lkAt T x 0 = some e
    unfold lkAt
    rw [← h4, hn]
  | b + 1, h => by
    by_cases hb : n = b + 1
    · have h1 : lkAt T x (b + 1) = some e := by
        unfold lkAt
        rw [← h4, hn, hb]
      rw [lkQ, h1]
    · have h1 : lkAt T x (b + 1) = none := by
        unfold lkAt
        rw [List.find?_eq_none]
        intro f hf hh
        simp at hh
        have := h3 f hf hh.2
        omega
      rw [lkQ, h1]
      exact lkQ_hit hn h3 h4 b (by omega)
theorem okPf_bits {p : Pf} (h : OkPf p) : ∃ n : Nat, p.2.2.2 = (n : Int) ∧ n ≤ 128 := by
  obtain ⟨h1, h2⟩ := h
  exact ⟨p.2.2.2.toNat, h1, Nat.le_trans h2.2.1 (by have := lenN_le p.1; omega)⟩
/-- the pass and the search agree -/
theorem lk_same {T : List En} (h : OkT T) (x : Nat) : (lkQ T x 128).isSome = decide (lkP T x ≠ []) ∧ (∀ e, lkQ T x 128 = some e → lkP T x = e.2 ∧ e.2 ≠ []) ∧ (lkQ T x 128 = none → lkP T x = []) := by
  have h0 : ∀ e ∈ T, 0 ≤ e.1.2.2.2 := fun e he => by
    obtain ⟨n, hn, _⟩ := okPf_bits (h e he).1
    omega
  unfold lkP
  rcases lkP_inv x T h0 with ⟨e1, e2⟩ | ⟨e, he, e2, e1, e3, e4⟩
  · rw [lkQ_none e2, e1]
    exact ⟨rfl, fun e h => (by cases h), fun _ => rfl⟩
  · obtain ⟨n, hn, hl⟩ := okPf_bits (h e he).1
    rw [lkQ_hit hn e3 e4 128 hl, e1]
    refine ⟨?_, fun f hf => ?_, fun h => by cases h⟩
    · have := (h e he).2
      simp [this]
    · injection hf with hf
      subst hf
      exact ⟨rfl, (h e he).2⟩
end Go.Proofs.YteccghdegckjhaaGreatDoor

namespace Go.Proofs.YteccghdegckjhaaGreatDoor
open Go.RowKit Go
set_option linter.unusedVariables false

theorem ord_ge (p q : Pf) : (orI (cN (nuP p) (nuP q)) (Lib.compareInt p.2.2.2 q.2.2.2) ≥ 0) ↔ prLt p q = false := by
  unfold orI cN Lib.compareInt prLt
  rw [decide_eq_false_iff_not]
  split <;> (try split) <;> (try split) <;> (try split) <;> omega
theorem ord_ge2 (p q : Pf) : (orI (cN (nuP p) (nuP q)) (sgn (p.2.2.2 - q.2.2.2)) ≥ 0) ↔ prLt p q = false := by
  unfold orI cN sgn prLt
  rw [decide_eq_false_iff_not]
  split <;> (try split) <;> (try split) <;> (try split) <;> omega
def u2P (p : Pf) : Prop := U64N p.2.1 ∧ U64N p.2.2.1
set_option maxRecDepth 100000 in
set_option maxHeartbeats 4000000 in
theorem comparePfx_any (p q : Pf) (w : World) (hp : u2P p) (hq : u2P q) : Calls Tryz.prog 61 #[.agg (pfC p).toArray, .agg (pfC q).toArray] w (RetD (.int .i64 (orI (cN (nuP p) (nuP q)) (Lib.compareInt p.2.2.2 q.2.2.2))) w) := by
  obtain ⟨s1, h1, l1, n1⟩ := p
  obtain ⟨s2, h2, l2, n2⟩ := q
  show Calls Tryz.prog 61 #[.agg #[.bool s1, .int .u64 (h1 : Int), .int .u64 (l1 : Int), .int .i64 n1], .agg #[.bool s2, .int .u64 (h2 : Int), .int .u64 (l2 : Int), .int .i64 n2]] w (RetD (.int .i64 (orI (cN (numA s1 h1 l1) (numA s2 h2 l2)) (Lib.compareInt n1 n2))) w)
  have HC1 := Lib.hid fun wx => spanCompareD_any s1 h1 l1 s2 h2 l2 wx hp.1 hp.2 hq.1 hq.2
  have HC2 := Lib.hid fun wx => cmpInt_any n1 n2 wx
  clear hp hq
  generalize cN (numA s1 h1 l1) (numA s2 h2 l2) = C1 at *
  generalize Lib.compareInt n1 n2 = C2 at *
  have HF : Hid (firstE [C1, C2] = orI C1 C2) := Lib.hid (by rw [firstE_orI, firstE_one])
  rw [← HF.out]
  have HP : Hid (Blk ((w.alloc (.cells #[.bool s1, .int .u64 (h1 : Int), .int .u64 (l1 : Int), .int .i64 n1] 30 (0, 0))).alloc (.cells #[.bool s2, .int .u64 (h2 : Int), .int .u64 (l2 : Int), .int .i64 n2] 30 (0, 0))) w.heap.size 30 #[.bool s1, .int .u64 (h1 : Int), .int .u64 (l1 : Int), .int .i64 n1]) := Lib.hid ((Blk.new w _ _).alloc _)
  have HQ : Hid (Blk ((w.alloc (.cells #[.bool s1, .int .u64 (h1 : Int), .int .u64 (l1 : Int), .int .i64 n1] 30 (0, 0))).alloc (.cells #[.bool s2, .int .u64 (h2 : Int), .int .u64 (l2 : Int), .int .i64 n2] 30 (0, 0))) (w.heap.size + 1) 30 #[.bool s2, .int .u64 (h2 : Int), .int .u64 (l2 : Int), .int .i64 n2]) := Lib.hid (by
    have this := Blk.new (w.alloc (.cells #[.bool s1, .int .u64 (h1 : Int), .int .u64 (l1 : Int), .int .i64 n1] 30 (0, 0))) 30 #[.bool s2, .int .u64 (h2 : Int), .int .u64 (l2 : Int), .int .i64 n2]
    rw [World.size_alloc] at this
    exact this)
  have HB : Hid (BelD w ((w.alloc (.cells #[.bool s1, .int .u64 (h1 : Int), .int .u64 (l1 : Int), .int .i64 n1] 30 (0, 0))).alloc (.cells #[.bool s2, .int .u64 (h2 : Int), .int .u64 (l2 : Int), .int .i64 n2] 30 (0, 0)))) := Lib.hid (((BelD.refl _).alloc _).alloc _)
  go_enter Tryz.func61, Tryz.ntmps61
  go_upto_region 1 with fail
  generalize ((w.alloc (.cells #[.bool s1, .int .u64 (h1 : Int), .int .u64 (l1 : Int), .int .i64 n1] 30 (0, 0))).alloc (.cells #[.bool s2, .int .u64 (h2 : Int), .int .u64 (l2 : Int), .int .i64 n2] 30 (0, 0))) = w1 at *
  generalize w.heap.size = b at HP HQ ⊢
  have a0 := HP.out.cell 0
  have a1 := HP.out.cell 1
  have a2 := HP.out.cell 2
  have a3 := HP.out.cell 3
  simp at a0 a1 a2 a3
  have b0 := HQ.out.cell 0
  have b1 := HQ.out.cell 1
  have b2 := HQ.out.cell 2
  have b3 := HQ.out.cell 3
  simp at b0 b1 b2 b3
  have k0 := LaterD.cell_of a0
  have k1 := LaterD.cell_of a1
  have k2 := LaterD.cell_of a2
  have k3 := LaterD.cell_of a3
  have m0 := LaterD.cell_of b0
  have m1 := LaterD.cell_of b1
  have m2 := LaterD.cell_of b2
  have m3 := LaterD.cell_of b3
  have hC1 := fun m : LaterD w1 => Calls.laterD m (HC1.out m.1)
  refine wp_region_laterD_tail 10 (by kernel_rfl) (by kernel_rfl) ?_
  simp only [List.take_succ_cons, List.take_zero, List.drop_succ_cons, List.drop_zero]
  repeat (go_big_quiet_step (fail))
  go_big_quiet_step ((go_at_call 100; exact hC1 _))
  repeat (go_big_quiet_step (fail))
  go_big_quiet_step ((go_at_call 104; exact (HC2.out _).mono fun _ _ h => ⟨h.1, _, h.2⟩))
  refine wpQuiet_nil ?_
  rintro w2 ⟨n2, hn2⟩
  subst hn2
  have HB2 := Lib.hid (HB.out.trans n2.2)
  obtain ⟨w2, hw2⟩ : ∃ w2, w2 = n2.1 := ⟨_, rfl⟩
  rw [← hw2] at HB2 ⊢
  clear hw2 hC1 HC1 HC2 a0 a1 a2 a3 b0 b1 b2 b3 k0 k1 k2 k3 m0 m1 m2 m3
  go_wp2_with fail
  refine (cmpOrL_any _ 2 2 [C1, C2] _ (rdInts_new _ _ [C1, C2] _ rfl) (by omega)).mono ?_
  rintro e w3 ⟨rfl, rfl⟩
  go_wp2_with fail
  go_ret
  exact ⟨rfl, HB2.out.alloc _⟩
set_option maxRecDepth 100000 in
set_option maxHeartbeats 4000000 in
theorem prefixOrder_any (p q : Pf) (w : World) (hp : u2P p) (hq : u2P q) (h1 : 0 ≤ p.2.2.2 ∧ p.2.2.2 ≤ 128) (h2 : 0 ≤ q.2.2.2 ∧ q.2.2.2 ≤ 128) : Calls Tryz.prog 59 #[.agg (pfC p).toArray, .agg (pfC q).toArray] w (RetD (.int .i64 (orI (cN (nuP p) (nuP q)) (sgn (p.2.2.2 - q.2.2.2)))) w) := by
  obtain ⟨s1, h1', l1, n1⟩ := p
  obtain ⟨s2, h2', l2, n2⟩ := q
  simp only at h1 h2
  show Calls Tryz.prog 59 #[.agg #[.bool s1, .int .u64 (h1' : Int), .int .u64 (l1 : Int), .int .i64 n1], .agg #[.bool s2, .int .u64 (h2' : Int), .int .u64 (l2 : Int), .int .i64 n2]] w (RetD (.int .i64 (orI (cN (numA s1 h1' l1) (numA s2 h2' l2)) (sgn (n1 - n2)))) w)
  have HC1 := Lib.hid fun wx => orderD_any s1 h1' l1 s2 h2' l2 wx hp.1 hp.2 hq.1 hq.2
  have HC2 := Lib.hid fun wx => signD_any (n1 - n2) wx
  clear hp hq
  have HP : Hid (Blk ((w.alloc (.cells #[.bool s1, .int .u64 (h1' : Int), .int .u64 (l1 : Int), .int .i64 n1] 30 (0, 0))).alloc (.cells #[.bool s2, .int .u64 (h2' : Int), .int .u64 (l2 : Int), .int .i64 n2] 30 (0, 0))) w.heap.size 30 #[.bool s1, .int .u64 (h1' : Int), .int .u64 (l1 : Int), .int .i64 n1]) := Lib.hid ((Blk.new w _ _).alloc _)
  have HQ : Hid (Blk ((w.alloc (.cells #[.bool s1, .int .u64 (h1' : Int), .int .u64 (l1 : Int), .int .i64 n1] 30 (0, 0))).alloc (.cells #[.bool s2, .int .u64 (h2' : Int), .int .u64 (l2 : Int), .int .i64 n2] 30 (0, 0))) (w.heap.size + 1) 30 #[.bool s2, .int .u64 (h2' : Int), .int .u64 (l2 : Int), .int .i64 n2]) := Lib.hid (by
    have this := Blk.new (w.alloc (.cells #[.bool s1, .int .u64 (h1' : Int), .int .u64 (l1 : Int), .int .i64 n1] 30 (0, 0))) 30 #[.bool s2, .int .u64 (h2' : Int), .int .u64 (l2 : Int), .int .i64 n2]
    rw [World.size_alloc] at this
    exact this)
  have HB : Hid (BelD w ((w.alloc (.cells #[.bool s1, .int .u64 (h1' : Int), .int .u64 (l1 : Int), .int .i64 n1] 30 (0, 0))).alloc (.cells #[.bool s2, .int .u64 (h2' : Int), .int .u64 (l2 : Int), .int .i64 n2] 30 (0, 0)))) := Lib.hid (((BelD.refl _).alloc _).alloc _)
  generalize cN (numA s1 h1' l1) (numA s2 h2' l2) = C1 at *
  have e7 : IntKind.i64.wrap (n1 - n2) = n1 - n2 := by rw [IntKind.wrap_i64]; omega
  have e8 : wrap64 (n1 - n2) = n1 - n2 := by unfold wrap64; omega
  obtain ⟨C2, hC2⟩ : ∃ z, sgn (n1 - n2) = z := ⟨_, rfl⟩
  rw [hC2] at HC2 ⊢
  clear hC2 h1 h2
  go_enter Tryz.func59, Tryz.ntmps59
  go_upto_region 1 with fail
  generalize ((w.alloc (.cells #[.bool s1, .int .u64 (h1' : Int), .int .u64 (l1 : Int), .int .i64 n1] 30 (0, 0))).alloc (.cells #[.bool s2, .int .u64 (h2' : Int), .int .u64 (l2 : Int), .int .i64 n2] 30 (0, 0))) = w1 at *
  generalize w.heap.size = b at HP HQ ⊢
  have a0 := HP.out.cell 0
  have a1 := HP.out.cell 1
  have a2 := HP.out.cell 2
  simp at a0 a1 a2
  have b0 := HQ.out.cell 0
  have b1 := HQ.out.cell 1
  have b2 := HQ.out.cell 2
  simp at b0 b1 b2
  go_wp2_with fail
  refine (HC1.out _).mono ?_
  rintro e w2 ⟨rfl, hb⟩
  have HB2 := Lib.hid (HB.out.trans hb)
  have HP2 := Lib.hid (HP.out.below hb.b HP.out.lt)
  have HQ2 := Lib.hid (HQ.out.below hb.b HQ.out.lt)
  clear hb HB HP HQ HC1 a0 a1 a2 b0 b1 b2
  by_cases hc : C1 = 0
  · subst hc
    rw [show orI 0 C2 = C2 from rfl]
    have a3 := HP2.out.cell 3
    have b3 := HQ2.out.cell 3
    simp at a3 b3
    go_wp2_with fail
    refine (HC2.out _).mono ?_
    rintro e w3 ⟨rfl, hb⟩
    have HB3 := Lib.hid (HB2.out.trans hb)
    clear hb
    go_wp2_with fail
    go_ret
    exact ⟨rfl, HB3.out⟩
  · have hc1 : (C1 != 0) = true := by simpa using hc
    have HO := Lib.hid (show orI C1 C2 = C1 by unfold orI; simp [hc])
    clear HC2
    go_wp2_with fail
    go_ret
    exact ⟨by rw [HO.out]; rfl, HB2.out⟩
end Go.Proofs.YteccghdegckjhaaGreatDoor

namespace Go.Proofs.YteccghdegckjhaaGreatDoor
open Go.RowKit Go
set_option linter.unusedVariables false

def smallsL : List UInt8 := [97, 98, 99, 100, 101, 102, 103, 104, 105, 106, 107, 108, 109, 110, 111, 112, 113, 114, 115, 116, 117, 118, 119, 120, 121, 122]
def keysL : List UInt8 := [97, 98, 99, 100, 101, 102, 103, 104, 105, 106, 107, 108, 109, 110, 111, 112, 113, 114, 115, 116, 117, 118, 119, 120, 121, 122] ++ [48, 49, 50, 51, 52, 53, 54, 55, 56, 57, 45, 95]
theorem byte_all (p : UInt8 → Bool) (h : ∀ n : Fin 256, p (UInt8.ofNat n.val) = true) (c : UInt8) : p c = true := by
  have := h ⟨c.toNat, c.toNat_lt⟩
  simpa using this
theorem small_set (c : UInt8) : smallC c = smallsL.contains c := by
  have := byte_all (fun c => smallC c == smallsL.contains c) (by decide +kernel) c
  simpa using this
theorem key_set (c : UInt8) : keyC c = keysL.contains c := by
  have := byte_all (fun c => keyC c == keysL.contains c) (by decide +kernel) c
  simpa using this
theorem smalls_ascii : asciiB smallsL := fun j b h => by
  have hm : b ∈ smallsL := List.mem_of_getElem? h
  revert hm b
  intro b _ hm
  exact (by decide +kernel : ∀ b ∈ smallsL, b.toNat < 128) b hm
theorem keys_ascii : asciiB keysL := fun j b h => (by decide +kernel : ∀ b ∈ keysL, b.toNat < 128) b (List.mem_of_getElem? h)
set_option maxRecDepth 100000 in
set_option maxHeartbeats 1000000 in
theorem qKey_any (L : List UInt8) (w : World) (hL : L.length ≤ 1000000) : Calls Tryz.prog 58 #[.string (strL L)] w (Ret (.bool (keyB L)) w) := by
  obtain ⟨B, hB⟩ : ∃ B, keyB L = B := ⟨_, rfl⟩
  rw [hB]
  have HO1 := Lib.hid fun wx => only_any (L.take 1) smallsL wx (by rw [List.length_take]; omega) (by decide) smalls_ascii
  have HO2 := Lib.hid fun wx => only_any L keysL wx hL (by decide) keys_ascii
  have e1 : (L.take 1).all smallsL.contains = (L.take 1).all smallC := by congr 1; funext c; exact (small_set c).symm
  have e2 : L.all keysL.contains = L.all keyC := by congr 1; funext c; exact (key_set c).symm
  rw [e1] at HO1
  rw [e2] at HO2
  clear e1 e2
  have HI := Lib.hid fun wx => in_any (L.length : Int) 1 40 wx
  have hsz := strL_size L
  have hcut := strL_take L 1
  have hX1 : strL smallsL = ⟨#[97, 98, 99, 100, 101, 102, 103, 104, 105, 106, 107, 108, 109, 110, 111, 112, 113, 114, 115, 116, 117, 118, 119, 120, 121, 122]⟩ := rfl
  have hX2 : strL keysL = ⟨#[97, 98, 99, 100, 101, 102, 103, 104, 105, 106, 107, 108, 109, 110, 111, 112, 113, 114, 115, 116, 117, 118, 119, 120, 121, 122, 48, 49, 50, 51, 52, 53, 54, 55, 56, 57, 45, 95]⟩ := rfl
  rw [hX1] at HO1
  rw [hX2] at HO2
  clear hX1 hX2
  have HK : Hid ((decide (1 ≤ L.length ∧ L.length ≤ 40) && (L.take 1).all smallC && L.all keyC) = B) := Lib.hid hB
  generalize (L.take 1).all smallC = A1 at *
  generalize L.all keyC = A2 at *
  generalize strL (L.take 1) = S1 at *
  generalize strL L = S at *
  generalize L.length = n at *
  clear hB
  by_cases hn : 1 ≤ n ∧ n ≤ 40
  · have hin : inB (n : Int) 1 40 = true := by unfold inB; simp; omega
    rw [hin] at HI
    have b1 : (1 : Int) ≤ (n : Int) := by omega
    have hK := HK.out
    rw [show decide (1 ≤ n ∧ n ≤ 40) = true by simp; omega, Bool.true_and] at hK
    clear hin HK
    go_enter Tryz.func58, Tryz.ntmps58
    go_wp2_with fail
    refine (HI.out _).mono ?_
    rintro e w' ⟨rfl, rfl⟩
    go_wp2_with fail
    refine (HO1.out _).mono ?_
    rintro e w2 ⟨rfl, hb⟩
    have HB2 := Lib.hid hb
    clear hb
    cases A1
    · have : B = false := by rw [← hK]; rfl
      subst this
      clear hK
      go_wp2_with fail
      go_ret
      exact ⟨rfl, HB2.out⟩
    · have : B = A2 := by rw [← hK]; rfl
      subst this
      clear hK
      go_wp2_with fail
      refine (HO2.out _).mono ?_
      rintro e w3 ⟨rfl, hb⟩
      have HB3 := Lib.hid (HB2.out.trans (hb.mono HB2.out.size))
      clear hb HB2
      go_wp2_with fail
      go_ret
      exact ⟨rfl, HB3.out⟩
  · have hin : inB (n : Int) 1 40 = false := by unfold inB; simp; omega
    rw [hin] at HI
    have hK := HK.out
    rw [show decide (1 ≤ n ∧ n ≤ 40) = false by simp; omega, Bool.false_and, Bool.false_and] at hK
    subst hK
    clear hin HK
    go_enter Tryz.func58, Tryz.ntmps58
    go_wp2_with fail
    refine (HI.out _).mono ?_
    rintro e w' ⟨rfl, rfl⟩
    go_wp2_with fail
    go_ret
    exact ⟨rfl, Below.refl _ _⟩
end Go.Proofs.YteccghdegckjhaaGreatDoor

namespace Go.Proofs.YteccghdegckjhaaGreatDoor
open Go.RowKit Go
set_option linter.unusedVariables false
end Go.Proofs.YteccghdegckjhaaGreatDoor

namespace Go.Proofs.YteccghdegckjhaaGreatDoor
open Go.RowKit Go
set_option linter.unusedVariables false
end Go.Proofs.YteccghdegckjhaaGreatDoor
