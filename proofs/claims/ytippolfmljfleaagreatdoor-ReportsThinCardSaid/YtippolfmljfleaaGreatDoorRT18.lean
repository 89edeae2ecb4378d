/-
  An address whose last bits are hidden: the program's hidden.
  Reports whose addresses are hidden, in plain words.
  The closure of the reference's HideOf; the program's hidden on the cells of a flow.
  A region that draws its order, by an invariant with a phase, where each operation knows that what depends on it has not run: a bound on the phase.
-/
import Derived.Test.YtippolfmljfleaaGreatDoorRT15
import Derived.Test.YtippolfmljfleaaGreatDoorRT3
import Derived.Test.YtippolfmljfleaaGreatDoorRT13
import Derived.Test.YtippolfmljfleaaGreatDoorRT1
set_option linter.unusedVariables false
namespace Go.Proofs.YtippolfmljfleaaGreatDoor
open Go.RowKit Go
set_option linter.unusedVariables false

set_option maxRecDepth 100000 in
set_option maxHeartbeats 1000000 in
theorem hidden_any (six : Bool) (hi lo b4 b6 : Nat) (w : World) (h1 : hi < 18446744073709551616) (h2 : lo < 18446744073709551616) (h4 : b4 ≤ 32) (h6 : b6 ≤ 128) :
    Calls Tryz.prog 45 #[vA six hi lo, .int .i64 (b4 : Int), .int .i64 (b6 : Int)] w (Ret (vA six (mHi six hi (if six = true then b6 else b4)) (mLo six lo (if six = true then b6 else b4))) w) := by
  have HP : Hid (Blk ((w.alloc (.cells #[.bool six, .int .u64 (hi : Int), .int .u64 (lo : Int)] 41 (0, 0))).alloc (.cells #[.bool false, .int .u64 0, .int .u64 0] 41 (0, 0))) w.heap.size 41 #[.bool six, .int .u64 (hi : Int), .int .u64 (lo : Int)]) := Lib.hid ((Blk.new w _ _).alloc _)
  have HQ : Hid (Blk ((w.alloc (.cells #[.bool six, .int .u64 (hi : Int), .int .u64 (lo : Int)] 41 (0, 0))).alloc (.cells #[.bool false, .int .u64 0, .int .u64 0] 41 (0, 0))) (w.heap.size + 1) 41 #[.bool false, .int .u64 0, .int .u64 0]) := Lib.hid (by
    have this := Blk.new (w.alloc (.cells #[.bool six, .int .u64 (hi : Int), .int .u64 (lo : Int)] 41 (0, 0))) 41 #[.bool false, .int .u64 0, .int .u64 0]
    rw [World.size_alloc] at this
    exact this)
  have HB : Hid (Below w.heap.size w ((w.alloc (.cells #[.bool six, .int .u64 (hi : Int), .int .u64 (lo : Int)] 41 (0, 0))).alloc (.cells #[.bool false, .int .u64 0, .int .u64 0] 41 (0, 0)))) := Lib.hid (below_alloc (below_alloc (Below.refl _ _) _) _)
  have HM := Lib.hid fun wx => masked_any six hi lo (if six = true then b6 else b4) wx h1 h2 (by cases six <;> simp [lenN] <;> omega)
  generalize mHi six hi (if six = true then b6 else b4) = MH at *
  generalize mLo six lo (if six = true then b6 else b4) = ML at *
  unfold vA at *
  clear h1 h2
  go_enter Tryz.func45, Tryz.ntmps45
  go_upto_region 1 with fail
  generalize (w.alloc (.cells #[.bool six, .int .u64 (hi : Int), .int .u64 (lo : Int)] 41 (0, 0))).alloc (.cells #[.bool false, .int .u64 0, .int .u64 0] 41 (0, 0)) = w1 at *
  obtain ⟨bx, hbx⟩ : ∃ q, w.heap.size = q := ⟨_, rfl⟩
  have Hbx := Lib.hid hbx
  rw [hbx] at HP HQ HB ⊢
  clear hbx
  have p0 := HP.out.cell 0
  have p1 := HP.out.cell 1
  have p2 := HP.out.cell 2
  simp at p0 p1 p2
  cases six
  all_goals
    go_wp2_with fail
    refine (HM.out _).mono ?_
    rintro e w2 ⟨rfl, hb⟩
    have HQ2 := Lib.hid (HQ.out.below hb HQ.out.lt)
    have HB2 := Lib.hid (HB.out.trans (hb.mono (by rw [← Hbx.out]; exact HB.out.size)))
    clear hb HP HQ HB HM p0 p1 p2
    have q0 := HQ2.out.cell 0
    have q1 := HQ2.out.cell 1
    have q2 := HQ2.out.cell 2
    have qf := HQ2.out.free
    simp at q0 q1 q2
    have HE : Hid (∀ s : Bool, Below bx w (w2.setCells (bx + 1) 0 [.bool s, .int .u64 (MH : Int), .int .u64 (ML : Int)])) := Lib.hid fun s => (HB2.out.grown (grown_setCells (bx + 1) [.bool s, .int .u64 (MH : Int), .int .u64 (ML : Int)] 0 w2) (by rw [← Hbx.out]; exact HB2.out.size) (fun k hk => by injection hk with hk; omega))
    go_wp2_with fail
    have c3 := fun s : Bool => (HQ2.out.set3 (x' := .bool s) (y' := .int .u64 (MH : Int)) (z' := .int .u64 (ML : Int)))
    first
      | (have d0 := (c3 false).cell 0
         have d1 := (c3 false).cell 1
         have d2 := (c3 false).cell 2
         simp at d0 d1 d2
         refine bodyPost_ret (v := .agg #[.bool false, .int .u64 (MH : Int), .int .u64 (ML : Int)]) (by simp [results, Tryz.results45, go_sem, *]) rfl ⟨rfl, by rw [Hbx.out]; exact HE.out _⟩)
      | (have d0 := (c3 true).cell 0
         have d1 := (c3 true).cell 1
         have d2 := (c3 true).cell 2
         simp at d0 d1 d2
         refine bodyPost_ret (v := .agg #[.bool true, .int .u64 (MH : Int), .int .u64 (ML : Int)]) (by simp [results, Tryz.results45, go_sem, *]) rfl ⟨rfl, by rw [Hbx.out]; exact HE.out _⟩)
end Go.Proofs.YtippolfmljfleaaGreatDoor

namespace Go.Proofs.YtippolfmljfleaaGreatDoor
open Go.RowKit Go
set_option linter.unusedVariables false

/-- a list of which the first k elements are changed -/
def mapM {α : Type} (f : α → α) (L : List α) (k : Nat) : List α := (L.take k).map f ++ L.drop k
theorem mapM_get {α : Type} {f : α → α} {L : List α} {k : Nat} {x : α} (h : L[k]? = some x) : (mapM f L k)[k]? = some x := by
  have hk := (List.getElem?_eq_some_iff.1 h).1
  unfold mapM
  rw [List.getElem?_append_right (by rw [List.length_map, List.length_take]; omega), List.length_map, List.length_take, List.getElem?_drop, Nat.min_eq_left (by omega)]
  simpa using h
theorem mapM_set {α : Type} {f : α → α} {L : List α} {k : Nat} {x : α} (h : L[k]? = some x) : (mapM f L k).set k (f x) = mapM f L (k + 1) := by
  obtain ⟨hk, rfl⟩ := List.getElem?_eq_some_iff.1 h
  unfold mapM
  have hl : ((L.take k).map f).length = k := by rw [List.length_map, List.length_take]; omega
  rw [List.set_append_right _ _ (by omega), hl, Nat.sub_self, List.drop_eq_getElem_cons hk, List.set_cons_zero, List.take_succ_eq_append_getElem hk, List.map_append]
  simp
theorem mapM_zero {α : Type} (f : α → α) (L : List α) : mapM f L 0 = L := by simp [mapM]
theorem mapM_all {α : Type} (f : α → α) (L : List α) (n : Nat) (h : L.length = n) : mapM f L n = L.map f := by
  subst h; simp [mapM]
theorem mapM_len {α : Type} (f : α → α) (L : List α) (k : Nat) : (mapM f L k).length = L.length := by
  unfold mapM
  rw [List.length_append, List.length_map, List.length_take, List.length_drop]; omega
/-- the bits of an address that stay -/
def nB (s : Bool) (b4 b6 : Nat) : Nat := if s = true then b6 else b4
def hHi (s : Bool) (h : Int) (b4 b6 : Nat) : Nat := mHi s h.toNat (nB s b4 b6)
def hLo (s : Bool) (l : Int) (b4 b6 : Nat) : Nat := mLo s l.toNat (nB s b4 b6)
def hideF (b4 b6 : Nat) (f : FV) : FV := { f with h1 := (hHi f.s1 f.h1 b4 b6 : Int), l1 := (hLo f.s1 f.l1 b4 b6 : Int), h2 := (hHi f.s2 f.h2 b4 b6 : Int), l2 := (hLo f.s2 f.l2 b4 b6 : Int) }
theorem hHi_ok {s : Bool} {h : Int} {b4 b6 : Nat} (hu : U64 h) : U64 (hHi s h b4 b6 : Int) := by
  obtain ⟨n, rfl, hn⟩ := nat_of_U64 hu
  have : U64N (hHi s (n : Int) b4 b6) := mHi_lt hn
  unfold U64N at this
  unfold U64
  omega
theorem hLo_ok {s : Bool} {h : Int} {b4 b6 : Nat} (hu : U64 h) : U64 (hLo s h b4 b6 : Int) := by
  obtain ⟨n, rfl, hn⟩ := nat_of_U64 hu
  have : U64N (hLo s (n : Int) b4 b6) := mLo_lt hn
  unfold U64N at this
  unfold U64
  omega
theorem hideF_ok {f : FV} {b4 b6 : Nat} (h : f.ok) : (hideF b4 b6 f).ok := ⟨h.1, hHi_ok h.2.1, hLo_ok h.2.2.1, hHi_ok h.2.2.2.1, hLo_ok h.2.2.2.2.1, h.2.2.2.2.2⟩
def hideR (b4 b6 : Nat) (x : RB) : RB := ⟨{ x.1 with f := hideF b4 b6 x.1.f }, hideF_ok x.2.1, x.2.2⟩
/-- the error of Hide -/
def hidF (L : List RB) (b4 b6 : Int) : Int := if repF L ≠ 0 then repF L else if (outB b4 0 32 || outB b6 0 128) = true then 1 else 0
def hidP (b4 b6 : Int) (L : List RB) : List RB := togL (L.map (hideR b4.toNat b6.toNat))
end Go.Proofs.YtippolfmljfleaaGreatDoor

namespace Go.Proofs.YtippolfmljfleaaGreatDoor
open Go.RowKit Go
set_option linter.unusedVariables false

theorem hidden_F (s : Bool) (h l b4 b6 : Int) (w : World) (hu : U64 h) (lu : U64 l) (h4 : 0 ≤ b4 ∧ b4 ≤ 32) (h6 : 0 ≤ b6 ∧ b6 ≤ 128) :
    Calls Tryz.prog 45 #[.agg #[.bool s, .int .u64 h, .int .u64 l], .int .i64 b4, .int .i64 b6] w (Ret (.agg #[.bool s, .int .u64 (hHi s h b4.toNat b6.toNat : Int), .int .u64 (hLo s l b4.toNat b6.toNat : Int)]) w) := by
  obtain ⟨n, rfl, hn⟩ := nat_of_U64 hu
  obtain ⟨m, rfl, hm⟩ := nat_of_U64 lu
  obtain ⟨x4, rfl⟩ := Int.eq_ofNat_of_zero_le h4.1
  obtain ⟨x6, rfl⟩ := Int.eq_ofNat_of_zero_le h6.1
  have := hidden_any s n m x4 x6 w hn hm (by omega) (by omega)
  exact this
theorem field_pfx (s : Bool) (h l n : Int) (w : World) : (Instr.field 54 (.agg #[.bool s, .int .u64 h, .int .u64 l, .int .i64 n]) 0).run Tryz.prog w = .ok (.agg #[.bool s, .int .u64 h, .int .u64 l]) w := by kernel_rfl
set_option maxRecDepth 100000 in
set_option maxHeartbeats 1000000 in
theorem hideOf1_any (s : Bool) (h l b4 b6 : Int) (p6 p4 : Nat) (w : World) (hu : U64 h) (lu : U64 l) (h4 : 0 ≤ b4 ∧ b4 ≤ 32) (h6 : 0 ≤ b6 ∧ b6 ≤ 128) (H6 : Blk w p6 3 #[.int .i64 b6]) (H4 : Blk w p4 3 #[.int .i64 b4]) :
    Calls Tryz.prog 50 #[.agg #[.bool s, .int .u64 h, .int .u64 l], .pointer (some ⟨p6, 0, none⟩), .pointer (some ⟨p4, 0, none⟩)] w (Ret (.agg #[.bool s, .int .u64 (hHi s h b4.toNat b6.toNat : Int), .int .u64 (hLo s l b4.toNat b6.toNat : Int)]) w) := by
  obtain ⟨hi, rfl, hn⟩ := nat_of_U64 hu
  obtain ⟨lo, rfl, hm⟩ := nat_of_U64 lu
  obtain ⟨x4, rfl⟩ := Int.eq_ofNat_of_zero_le h4.1
  obtain ⟨x6, rfl⟩ := Int.eq_ofNat_of_zero_le h6.1
  have HP : Hid (Blk ((w.alloc (.cells #[.bool s, .int .u64 (hi : Int), .int .u64 (lo : Int)] 41 (0, 0))).alloc (.cells #[.bool false, .int .u64 0, .int .u64 0] 41 (0, 0))) w.heap.size 41 #[.bool s, .int .u64 (hi : Int), .int .u64 (lo : Int)]) := Lib.hid ((Blk.new w _ _).alloc _)
  have HQ : Hid (Blk ((w.alloc (.cells #[.bool s, .int .u64 (hi : Int), .int .u64 (lo : Int)] 41 (0, 0))).alloc (.cells #[.bool false, .int .u64 0, .int .u64 0] 41 (0, 0))) (w.heap.size + 1) 41 #[.bool false, .int .u64 0, .int .u64 0]) := Lib.hid (by
    have this := Blk.new (w.alloc (.cells #[.bool s, .int .u64 (hi : Int), .int .u64 (lo : Int)] 41 (0, 0))) 41 #[.bool false, .int .u64 0, .int .u64 0]
    rw [World.size_alloc] at this
    exact this)
  have HB : Hid (Below w.heap.size w ((w.alloc (.cells #[.bool s, .int .u64 (hi : Int), .int .u64 (lo : Int)] 41 (0, 0))).alloc (.cells #[.bool false, .int .u64 0, .int .u64 0] 41 (0, 0)))) := Lib.hid (below_alloc (below_alloc (Below.refl _ _) _) _)
  have H6' := Lib.hid ((H6.alloc (.cells #[.bool s, .int .u64 (hi : Int), .int .u64 (lo : Int)] 41 (0, 0))).alloc (.cells #[.bool false, .int .u64 0, .int .u64 0] 41 (0, 0)))
  have H4' := Lib.hid ((H4.alloc (.cells #[.bool s, .int .u64 (hi : Int), .int .u64 (lo : Int)] 41 (0, 0))).alloc (.cells #[.bool false, .int .u64 0, .int .u64 0] 41 (0, 0)))
  have HM := Lib.hid fun wx => maskOf_any s hi lo (nB s x4 x6) wx hn hm (by unfold nB; cases s <;> simp <;> omega)
  have HE : Hid (hHi s (hi : Int) ((x4 : Int)).toNat ((x6 : Int)).toNat = mHi s hi (nB s x4 x6) ∧ hLo s (lo : Int) ((x4 : Int)).toNat ((x6 : Int)).toNat = mLo s lo (nB s x4 x6)) := Lib.hid ⟨rfl, rfl⟩
  rw [HE.out.1, HE.out.2]
  generalize mHi s hi (nB s x4 x6) = MH at *
  generalize mLo s lo (nB s x4 x6) = ML at *
  have Hnb : Hid (nB s x4 x6 = if s = true then x6 else x4) := Lib.hid rfl
  generalize nB s x4 x6 = NB at *
  unfold vP vA at HM
  clear hn hm HE hu lu H6 H4
  have fp := field_pfx
  go_enter Tryz.func50, Tryz.ntmps50
  go_upto_region 1 with fail
  generalize (w.alloc (.cells #[.bool s, .int .u64 (hi : Int), .int .u64 (lo : Int)] 41 (0, 0))).alloc (.cells #[.bool false, .int .u64 0, .int .u64 0] 41 (0, 0)) = w1 at *
  obtain ⟨bx, hbx⟩ : ∃ q, w.heap.size = q := ⟨_, rfl⟩
  have Hbx := Lib.hid hbx
  rw [hbx] at HP HQ HB ⊢
  clear hbx
  have p0 := HP.out.cell 0
  have p1 := HP.out.cell 1
  have p2 := HP.out.cell 2
  have z6 := H6'.out.cell 0
  have z4 := H4'.out.cell 0
  simp at p0 p1 p2 z6 z4
  cases s
  all_goals
    have hnb := Hnb.out
    simp at hnb
    subst hnb
    go_wp2_with fail
    refine (HM.out _).mono ?_
    rintro e w2 ⟨rfl, hb⟩
    have HQ2 := Lib.hid (HQ.out.below hb HQ.out.lt)
    have HB2 := Lib.hid (HB.out.trans (hb.mono (by rw [← Hbx.out]; exact HB.out.size)))
    clear hb HP HQ HB HM p0 p1 p2 z6 z4 H6' H4'
    have q0 := HQ2.out.cell 0
    have q1 := HQ2.out.cell 1
    have q2 := HQ2.out.cell 2
    have qf := HQ2.out.free
    simp at q0 q1 q2
    have HE : Hid (∀ s : Bool, Below bx w (w2.setCells (bx + 1) 0 [.bool s, .int .u64 (MH : Int), .int .u64 (ML : Int)])) := Lib.hid fun s => (HB2.out.grown (grown_setCells (bx + 1) [.bool s, .int .u64 (MH : Int), .int .u64 (ML : Int)] 0 w2) (by rw [← Hbx.out]; exact HB2.out.size) (fun k hk => by injection hk with hk; omega))
    go_wp2_with fail
    have c3 := fun s : Bool => (HQ2.out.set3 (x' := .bool s) (y' := .int .u64 (MH : Int)) (z' := .int .u64 (ML : Int)))
    first
      | (have d0 := (c3 false).cell 0
         have d1 := (c3 false).cell 1
         have d2 := (c3 false).cell 2
         simp at d0 d1 d2
         refine bodyPost_ret (v := .agg #[.bool false, .int .u64 (MH : Int), .int .u64 (ML : Int)]) (by simp [results, Tryz.results50, go_sem, *]) rfl ⟨rfl, by rw [Hbx.out]; exact HE.out _⟩)
      | (have d0 := (c3 true).cell 0
         have d1 := (c3 true).cell 1
         have d2 := (c3 true).cell 2
         simp at d0 d1 d2
         refine bodyPost_ret (v := .agg #[.bool true, .int .u64 (MH : Int), .int .u64 (ML : Int)]) (by simp [results, Tryz.results50, go_sem, *]) rfl ⟨rfl, by rw [Hbx.out]; exact HE.out _⟩)
end Go.Proofs.YtippolfmljfleaaGreatDoor

namespace Go.Proofs.YtippolfmljfleaaGreatDoor.Lm
open Go Go.Proofs.YtippolfmljfleaaGreatDoor

section
variable {P : Program} {ops : Array Oper} {Q : Exit → Act → World → Prop} {N total : Nat} {a0 : Act}
variable {R : Nat → Value → Nat → World → Prop} {C : Nat → World → Prop} {S : Nat → World → Nat → World → Prop} {cost lim : Nat → Nat}

/-- i and what depends on it -/
def msk (ops : Array Oper) (i : Nat) : Array Bool := (Array.range ops.size).map fun j => j == i || bef ops j i
theorem msk_get (ops : Array Oper) (i j : Nat) (hj : j < ops.size) : (msk ops i).getD j false = (j == i || bef ops j i) := by
  simp [msk, Array.getD, hj]
def limB (ops : Array Oper) (N total : Nat) (cost lim : Nat → Nat) : Bool := (List.range N).all fun i => decide (total ≤ lim i + sumCost cost (msk ops i) ops.size)

theorem limB_spec {ops : Array Oper} {N total : Nat} {cost lim : Nat → Nat} (h : limB ops N total cost lim = true) : ∀ i, i < N → total ≤ lim i + sumCost cost (msk ops i) ops.size := by
  simpa [limB] using h
theorem sumCost_disj {cost : Nat → Nat} {listed mask : Array Bool} : ∀ k, (∀ j, j < k → listed.getD j false = true → mask.getD j false = false) → sumCost cost listed k + sumCost cost mask k ≤ sumCost cost (Array.replicate k true) k
  | 0, _ => by simp [sumCost]
  | k + 1, h => by
    have ih := sumCost_disj (cost := cost) (listed := listed) (mask := mask) k fun j hj => h j (by omega)
    have hk := h k (by omega)
    have hfull : ∀ m, m ≤ k → sumCost cost (Array.replicate (k + 1) true) m = sumCost cost (Array.replicate k true) m := by
      intro m
      induction m with
      | zero => intro _; rfl
      | succ m ihm =>
        intro hm
        simp only [sumCost, ihm (by omega)]
        simp [Array.getD, show m < k by omega, show m < k + 1 by omega]
    simp only [sumCost, hfull k (Nat.le_refl _)]
    have h1 : (Array.replicate (k + 1) true).getD k false = true := by simp [Array.getD]
    simp only [h1, if_true]
    cases hl : listed.getD k false
    · simp only [Bool.false_eq_true, if_false]
      cases hm : mask.getD k false <;> simp <;> omega
    · simp only [hk hl, if_true, Bool.false_eq_true, if_false]
      omega

/-- What is asked of operation i. -/
def Ob (P : Program) (ops : Array Oper) (a0 : Act) (R : Nat → Value → Nat → World → Prop) (C : Nat → World → Prop) (S : Nat → World → Nat → World → Prop) (cost lim : Nat → Nat) (N : Nat) (i : Nat) (o : Oper) : Prop :=
  ∀ (T : Nat → Value) (w : World) (n : Nat), C n w → n ≤ lim i → (∀ p, p < ops.size → bef ops i p = true → R p (T p) n w) →
    if Region.wanted o (yielded ops (setAll (ops.toList.take N) 0 T a0).tmps) then
      Op1 P o (setAll (ops.toList.take N) 0 T a0).eval w fun v w' => R i v (n + cost i) w' ∧ C (n + cost i) w' ∧ S n w (n + cost i) w'
    else R i undef (n + cost i) w ∧ C (n + cost i) w ∧ S n w (n + cost i) w

theorem region_any (hB : InvB ops N a0.tmps.size) (hS : ∀ p v n w n' w', R p v n w → S n w n' w' → R p v n' w')
    (htot : sumCost cost (Array.replicate ops.size true) ops.size ≤ total) (hlm : ∀ i, i < N → total ≤ lim i + sumCost cost (msk ops i) ops.size)
    (hob : ∀ (i : Nat) (o : Oper), ops[i]? = some o → i < N → Ob P ops a0 R C S cost lim N i o)
    (hend : ∀ T w, (∃ n, n ≤ total ∧ C n w ∧ ∀ p, p < N → R p (T p) n w) → wpList P ops Q (ops.toList.drop N) (setAll (ops.toList.take N) 0 T a0) w) :
    ∀ (fuel : Nat) (listed : Array Bool) (a : Act) (w : World), listed.size = ops.size → fuel + cnt listed ops.size = ops.size →
      (∀ j, j < ops.size → listed.getD j false = true → ∀ p, p < ops.size → bef ops j p = true → listed.getD p false = true) →
      ((∃ T, (∀ j, N ≤ j → listed.getD j false = false) ∧ Fits ops a0 listed T a ∧ C (sumCost cost listed ops.size) w ∧ ∀ j, j < ops.size → listed.getD j false = true → R j (T j) (sumCost cost listed ops.size) w) ∨
       (∃ k, N ≤ k ∧ k ≤ ops.size ∧ (∀ j, j < ops.size → (listed.getD j false = true ↔ j < k)) ∧ wpList P ops Q (ops.toList.drop k) a w)) →
      wpAny P .any ops Q fuel listed a w := by
  -- the whole head is there: the two frames are one
  have whole : ∀ (listed : Array Bool) (T : Nat → Value) (a : Act), (∀ j, N ≤ j → listed.getD j false = false) → (∀ j, j < N → listed.getD j false = true) → Fits ops a0 listed T a → a = setAll (ops.toList.take N) 0 T a0 := by
    intro listed T a ht hh hF
    have h1 : a.defers = (setAll (ops.toList.take N) 0 T a0).defers := by rw [setAll_defers, hF.defers]
    have h2 : a.tmps = (setAll (ops.toList.take N) 0 T a0).tmps := by
      refine Array.ext_getElem? fun t => ?_
      rcases Nat.lt_or_ge t a0.tmps.size with hts | hts
      · rw [setAll_get T t _ 0 a0 hts]
        cases hw : lastW t (ops.toList.take N) 0 with
        | some j =>
          obtain ⟨_, o', ho', hd⟩ := lastW_some _ _ hw
          simp only [Nat.sub_zero, List.getElem?_take] at ho'
          split at ho'
          · rename_i hjN
            exact hF.set j o' t (by simpa using ho') (hh j hjN) hd
          · cases ho'
        | none =>
          refine hF.rest t fun j o' hj hlj hd => ?_
          have hjN : j < N := by
            rcases Nat.lt_or_ge j N with h | h
            · exact h
            · rw [ht j h] at hlj; cases hlj
          exact lastW_none _ _ hw j o' (by rw [List.getElem?_take, if_pos hjN]; simpa using hj) hd
      · rw [Array.getElem?_eq_none (by rw [hF.size]; exact hts), Array.getElem?_eq_none (by rw [setAll_size]; exact hts)]
    cases a; cases hb : setAll (ops.toList.take N) 0 T a0; simp_all
  -- nothing ready: all is listed
  have allListed : ∀ (listed : Array Bool), listed.size = ops.size → Region.ready .any ops listed = [] → ∀ j, j < ops.size → listed.getD j false = true := by
    intro listed hsz hr j
    induction j using Nat.strongRecOn with
    | _ j ih =>
      intro hj
      cases hlj : listed.getD j false with
      | true => rfl
      | false =>
        exfalso
        obtain ⟨o, ho⟩ : ∃ o, ops[j]? = some o := ⟨ops[j], Array.getElem?_eq_getElem hj⟩
        have : j ∈ Region.ready .any ops listed := mem_ready.2 ⟨by simpa [Array.getD, hsz, hj] using hlj, o, ho, fun e he hb => ih e.on (hB.back j o e ho he hb) (by have := hB.back j o e ho he hb; omega)⟩
        rw [hr] at this; cases this
  -- the end
  have fin : ∀ (listed : Array Bool) (a : Act) (w : World), (∀ j, j < ops.size → listed.getD j false = true) →
      ((∃ T, (∀ j, N ≤ j → listed.getD j false = false) ∧ Fits ops a0 listed T a ∧ C (sumCost cost listed ops.size) w ∧ ∀ j, j < ops.size → listed.getD j false = true → R j (T j) (sumCost cost listed ops.size) w) ∨
       (∃ k, N ≤ k ∧ k ≤ ops.size ∧ (∀ j, j < ops.size → (listed.getD j false = true ↔ j < k)) ∧ wpList P ops Q (ops.toList.drop k) a w)) → Q .normal a w := by
    intro listed a w hall h
    rcases h with ⟨T, ht, hF, hC, hR⟩ | ⟨k, hk1, hk2, hk3, hk4⟩
    · have hN : N = ops.size := by
        rcases Nat.lt_or_ge N ops.size with h | h
        · have h1 := ht N (Nat.le_refl _)
          rw [hall N h] at h1; cases h1
        · have := hB.le; omega
      have ha := whole listed T a ht (fun j hj => hall j (by omega)) hF
      have := hend T w ⟨_, Nat.le_trans (sumCost_le _) htot, hC, fun p hp => hR p (by omega) (hall p (by omega))⟩
      rw [← ha, List.drop_eq_nil_of_le (by simp; omega)] at this
      exact this
    · have : k = ops.size := by
        rcases Nat.lt_or_ge k ops.size with h | h
        · have := (hk3 k h).1 (hall k h); omega
        · omega
      rw [List.drop_eq_nil_of_le (by simp; omega)] at hk4
      exact hk4
  intro fuel
  induction fuel with
  | zero =>
    intro listed a w hsz hf hd h
    have hall := cnt_full ops.size (by omega : cnt listed ops.size = ops.size)
    refine ⟨?_, fin listed a w hall h⟩
    refine List.eq_nil_iff_forall_not_mem.2 fun i hi => ?_
    obtain ⟨h1, o, ho, _⟩ := mem_ready.1 hi
    have := hall i (Array.getElem?_eq_some_iff.1 ho).1
    rw [(getD_false h1).2] at this; cases this
  | succ fuel ih =>
    intro listed a w hsz hf hd h
    refine ⟨fun hr => fin listed a w (allListed listed hsz hr) h, fun i hi => ?_⟩
    obtain ⟨h1, o, ho, hafter⟩ := mem_ready.1 hi
    have hilt : i < ops.size := (Array.getElem?_eq_some_iff.1 ho).1
    have hset : ∀ j, (listed.setIfInBounds i true).getD j false = true ↔ (j = i ∨ listed.getD j false = true) := fun j => by
      by_cases hj : i = j
      · subst hj; simp [Array.getD, hsz, hilt]
      · rw [getD_set_ne false hj]; simp [Ne.symm hj]
    have hbef : ∀ p, p < ops.size → bef ops i p = true → listed.getD p false = true := fun p hp hb => by
      obtain ⟨e, he, hbi, hor⟩ := hB.clos i p o ho hp hb
      have h2 := hafter e he hbi
      rcases hor with rfl | hor
      · exact h2
      · exact hd e.on (by have := hB.back i o e ho he hbi; omega) h2 p hp hor
    have hsz' : (listed.setIfInBounds i true).size = ops.size := by simpa using hsz
    have hf' : fuel + cnt (listed.setIfInBounds i true) ops.size = ops.size := by
      have := sumCost_set (cost := fun _ => 1) h1 ops.size
      simp only [cnt, hilt, if_true] at this hf ⊢
      omega
    have hd' : ∀ j, j < ops.size → (listed.setIfInBounds i true).getD j false = true → ∀ p, p < ops.size → bef ops j p = true → (listed.setIfInBounds i true).getD p false = true := by
      intro j hj hl p hp hb
      rcases (hset j).1 hl with rfl | hl'
      · exact (hset p).2 (.inr (hbef p hp hb))
      · exact (hset p).2 (.inr (hd j hj hl' p hp hb))
    rcases h with ⟨T, ht, hF, hC, hR⟩ | ⟨k, hk1, hk2, hk3, hk4⟩
    · rcases Nat.lt_or_ge i N with hiN | hiN
      · -- a step of the head
        have hpN : ∀ p, bef ops i p = true → p < ops.size → listed.getD p false = true ∧ p < N := fun p hb hp => by
          have := hbef p hp hb
          refine ⟨this, ?_⟩
          rcases Nat.lt_or_ge p N with h | h
          · exact h
          · rw [ht p h] at this; cases this
        have hag := hF.agree hB ht ho hpN
        have hsum := sumCost_set (cost := cost) h1 ops.size
        simp only [hilt, if_true] at hsum
        have hlim : sumCost cost listed ops.size ≤ lim i := by
          have h5 := sumCost_disj (cost := cost) (listed := listed) (mask := msk ops i) ops.size fun j hj hl => by
            rw [msk_get ops i j hj]
            cases hji : j == i
            · cases hbf : bef ops j i
              · rfl
              · have := hd j hj hl i hilt hbf
                rw [(getD_false h1).2] at this; cases this
            · obtain rfl : j = i := by simpa using hji
              rw [(getD_false h1).2] at hl; cases hl
          have h6 := hlm i hiN
          omega
        have hO := hob i o ho hiN T w _ hC hlim fun p hp hb => hR p hp (hbef p hp hb)
        have next : ∀ v w', R i v (sumCost cost listed ops.size + cost i) w' ∧ C (sumCost cost listed ops.size + cost i) w' ∧ S (sumCost cost listed ops.size) w (sumCost cost listed ops.size + cost i) w' → wpAny P .any ops Q fuel (listed.setIfInBounds i true) (a.put o.dst v) w' := fun v w' ⟨q1, q2, q3⟩ =>
          ih _ _ _ hsz' hf' hd' (.inl ⟨fun j => if j = i then v else T j, fun j hj => by
              rw [getD_set_ne false (by omega)]; exact ht j hj, hF.put hB ho h1 v, by rw [hsum]; exact q2, fun j hj hl => by
              by_cases hji : j = i
              · subst hji; rw [hsum]; simpa using q1
              · simp only [hji, if_false]
                rw [hsum]; exact hS j _ _ _ _ _ (hR j hj (((hset j).1 hl).resolve_left hji)) q3⟩)
        unfold wpOp
        simp only [ho]
        rw [wanted_of_get (a := a) (b := setAll (ops.toList.take N) 0 T a0) o hag]
        split
        · rename_i hw
          rw [if_pos hw] at hO
          refine .inl (Op1.wp (post := fun v w' => R i v (sumCost cost listed ops.size + cost i) w' ∧ C (sumCost cost listed ops.size + cost i) w' ∧ S (sumCost cost listed ops.size) w (sumCost cost listed ops.size + cost i) w') ?_ next)
          unfold Op1 at hO ⊢
          rw [execOp_congr o (Region.noSelect_spec hB.sel i o · · ho) (eval_of_get o hag)]
          exact hO
        · rename_i hw
          rw [if_neg hw] at hO
          exact next undef w hO
      · -- the tail begins
        have hall : ∀ j, j < i → listed.getD j false = true := fun j hj => hbef j (by omega) (hB.tail i j hiN hilt hj)
        have hiN' : i = N := by
          rcases Nat.lt_or_ge N i with h | h
          · have h2 := ht N (Nat.le_refl _)
            rw [hall N h] at h2; cases h2
          · omega
        subst hiN'
        have ha := whole listed T a ht hall hF
        have hw := hend T w ⟨_, Nat.le_trans (sumCost_le _) htot, hC, fun p hp => hR p (by omega) (hall p hp)⟩
        rw [← ha] at hw
        have hdr : ops.toList.drop i = o :: ops.toList.drop (i + 1) := by
          rw [List.drop_eq_getElem_cons (by simpa using hilt)]
          congr 1
          have := (Array.getElem?_eq_some_iff.1 ho).2
          simpa using this
        rw [hdr] at hw
        have hwop : wpOp P ops Q i (wpList P ops Q (ops.toList.drop (i + 1))) a w := by unfold wpOp; simp only [ho]; exact hw
        refine wpOp_mono (fun a' w' h' => ih _ _ _ hsz' hf' hd' (.inr ⟨i + 1, by omega, by omega, fun j hj => ?_, h'⟩)) hwop
        rw [hset j]
        constructor
        · rintro (rfl | hl)
          · omega
          · rcases Nat.lt_or_ge j i with h | h
            · omega
            · rw [ht j h] at hl; cases hl
        · intro hj'
          by_cases hji : j = i
          · exact .inl hji
          · exact .inr (hall j (by omega))
    · -- a step of the tail
      have hik : i = k := by
        have hnl := (getD_false h1).2
        have h2 : ¬ i < k := fun hlt => by rw [(hk3 i hilt).2 hlt] at hnl; cases hnl
        rcases Nat.lt_or_ge k i with h | h
        · have h3 := hbef k (by omega) (hB.tail i k (by omega) hilt h)
          have := (hk3 k (by omega)).1 h3; omega
        · omega
      subst hik
      have hdr : ops.toList.drop i = o :: ops.toList.drop (i + 1) := by
        rw [List.drop_eq_getElem_cons (by simpa using hilt)]
        congr 1
        have := (Array.getElem?_eq_some_iff.1 ho).2
        simpa using this
      rw [hdr] at hk4
      have hwop : wpOp P ops Q i (wpList P ops Q (ops.toList.drop (i + 1))) a w := by unfold wpOp; simp only [ho]; exact hk4
      refine wpOp_mono (fun a' w' h' => ih _ _ _ hsz' hf' hd' (.inr ⟨i + 1, by omega, by omega, fun j hj => ?_, h'⟩)) hwop
      rw [hset j, hk3 j hj]
      omega

/-- what the forerunners have left -/
def AfterAll (R : Nat → Value → Nat → World → Prop) (T : Nat → Value) (n : Nat) (w : World) : List Edge → Prop
  | [] => True
  | e :: l => match Region.binds .any e with
    | true => R e.on (T e.on) n w ∧ AfterAll R T n w l
    | false => AfterAll R T n w l

theorem afterAll_of {R : Nat → Value → Nat → World → Prop} {T : Nat → Value} {n : Nat} {w : World} : ∀ (l : List Edge), (∀ e ∈ l, Region.binds .any e = true → R e.on (T e.on) n w) → AfterAll R T n w l
  | [], _ => trivial
  | e :: l, h => by
    have ih := afterAll_of l fun e' he' => h e' (List.mem_cons_of_mem _ he')
    unfold AfterAll
    cases hb : Region.binds .any e with
    | true => exact ⟨h e (List.mem_cons_self ..) hb, ih⟩
    | false => exact ih

/-- what is asked of operation i, put plainly -/
def Ob' (P : Program) (A : (Nat → Value) → Act) (R : Nat → Value → Nat → World → Prop) (C : Nat → World → Prop) (S : Nat → World → Nat → World → Prop) (cost lim : Nat → Nat) (i : Nat) (o : Oper) : Prop :=
  ∀ (T : Nat → Value) (w : World) (n : Nat), C n w → n ≤ lim i → AfterAll R T n w o.after.toList →
    match o.guard with
    | none => Op1 P o (A T).eval w fun v w' => R i v (n + cost i) w' ∧ C (n + cost i) w' ∧ S n w (n + cost i) w'
    | some (g, want) => (T g = .bool want → Op1 P o (A T).eval w fun v w' => R i v (n + cost i) w' ∧ C (n + cost i) w' ∧ S n w (n + cost i) w') ∧
        (T g ≠ .bool want → R i undef (n + cost i) w ∧ C (n + cost i) w ∧ S n w (n + cost i) w)

/-- what is asked of each operation of the head -/
def ObAll (P : Program) (A : (Nat → Value) → Act) (R : Nat → Value → Nat → World → Prop) (C : Nat → World → Prop) (S : Nat → World → Nat → World → Prop) (cost lim : Nat → Nat) : List Oper → Nat → Prop
  | [], _ => True
  | o :: l, k => Ob' P A R C S cost lim k o ∧ ObAll P A R C S cost lim l (k + 1)

theorem ObAll.get {A : (Nat → Value) → Act} : ∀ (l : List Oper) (k : Nat), ObAll P A R C S cost lim l k → ∀ (i : Nat) (o : Oper), l[i]? = some o → Ob' P A R C S cost lim (k + i) o
  | [], _, _, i, o, ho => by simp at ho
  | o' :: l, k, h, i, o, ho => by
    cases i with
    | zero => simp at ho; subst ho; exact h.1
    | succ i =>
      have := ObAll.get l (k + 1) h.2 i o (by simpa using ho)
      rwa [show k + (i + 1) = k + 1 + i by omega]

theorem ob_of {A : (Nat → Value) → Act} (hB : InvB ops N a0.tmps.size) (hE : edgeB ops = true) {i : Nat} {o : Oper} (ho : ops[i]? = some o) (hi : i < N) (hA : ∀ T, setAll (ops.toList.take N) 0 T a0 = A T) (h : Ob' P A R C S cost lim i o) : Ob P ops a0 R C S cost lim N i o := by
  intro T w n hC hn hp
  have hlt := (Array.getElem?_eq_some_iff.1 ho).1
  have hE' := hE
  simp only [edgeB, List.all_eq_true, List.mem_range] at hE'
  have hEi := hE' i hlt
  simp only [ho, Bool.and_eq_true] at hEi
  obtain ⟨he1, he2⟩ := hEi
  rw [Array.all_eq_true_iff_forall_mem] at he1
  have hAft : AfterAll R T n w o.after.toList := afterAll_of _ fun e he hb => by
    have hm : e ∈ o.after := by simpa using he
    have h1 := he1 e hm
    simp only [hb, Bool.not_true, Bool.false_or] at h1
    exact hp e.on (by have := hB.back i o e ho hm hb; omega) h1
  have h0 := h T w n hC hn hAft
  unfold Region.wanted
  cases hg : o.guard with
  | none =>
    simp only [hg] at h0
    rw [hA T]
    exact h0
  | some gw =>
    obtain ⟨g, want⟩ := gw
    simp only [hg] at h0 he2
    obtain ⟨hbg, hgs⟩ := hB.guard i o g want ho hg
    obtain ⟨og, hog⟩ : ∃ og, ops[g]? = some og := ⟨ops[g], Array.getElem?_eq_getElem hgs⟩
    simp only [hog, Option.bind_some] at he2
    obtain ⟨d, hd⟩ := Option.isSome_iff_exists.1 he2
    have hgi : g < i := by
      have : ∀ k, ∀ (i : Nat) (o : Oper), i < k → ops[i]? = some o → ∀ p, p < ops.size → bef ops i p = true → p < i := by
        intro k
        induction k with
        | zero => intro i o hk; omega
        | succ k ih =>
          intro i o hk hio p hps hb
          obtain ⟨e, he, hbi, hor⟩ := hB.clos i p o hio hps hb
          have h5 := hB.back i o e hio he hbi
          rcases hor with rfl | hor
          · exact h5
          · obtain ⟨o', ho'⟩ : ∃ o', ops[e.on]? = some o' := ⟨ops[e.on]'(by have := (Array.getElem?_eq_some_iff.1 hio).1; omega), Array.getElem?_eq_getElem _⟩
            have := ih e.on o' (by omega) ho' p hps hor
            omega
      exact this (i + 1) i o (by omega) ho g hgs hbg
    have hts : d < a0.tmps.size := hB.size g og d hog hd
    have hget : (setAll (ops.toList.take N) 0 T a0).tmps[d]? = some (T g) := by
      rw [setAll_get T d _ 0 a0 hts]
      cases hw : lastW d (ops.toList.take N) 0 with
      | some j =>
        obtain ⟨_, o', ho', hd'⟩ := lastW_some _ _ hw
        simp only [Nat.sub_zero, List.getElem?_take] at ho'
        split at ho'
        · have hj : ops[j]? = some o' := by simpa using ho'
          have := hB.uniq j g o' og d hj hog hd' hd
          simp [this]
        · cases ho'
      | none =>
        exfalso
        exact lastW_none _ _ hw g og (by rw [List.getElem?_take, if_pos (by omega)]; simpa using hog) hd
    have hy : yielded ops (setAll (ops.toList.take N) 0 T a0).tmps g = match T g with | .bool b => some b | _ => none := by
      unfold yielded
      simp only [hog, Option.bind_some, hd, hget]
      cases T g <;> rfl
    simp only [hy]
    by_cases hT : T g = .bool want
    · simp only [hT]
      simp only [beq_self_eq_true, if_true]
      rw [hA T]
      exact h0.1 hT
    · have hf : ((match T g with | .bool b => some b | _ => none) == some want) = false := by
        cases hv : T g <;> simp
        intro e
        exact hT (by rw [hv, e])
      simp only [hf]
      exact h0.2 hT
end

/-- A REGION THAT DRAWS ITS ORDER, BY AN INVARIANT. N: the operations of the head; the others wait for all before them. -/
theorem wp_region_lim {P : Program} {Q : Exit → Act → World → Prop} {id : Nat} {l : List Oper} {a0 : Act} {w : World} (N total : Nat) (R : Nat → Value → Nat → World → Prop) (C : Nat → World → Prop) (S : Nat → World → Nat → World → Prop) (cost lim : Nat → Nat)
    (hm : P.follows .mixedOrders = true) (hB : (invB l.toArray N a0.tmps.size && edgeB l.toArray) = true) (htot : sumCost cost (Array.replicate l.toArray.size true) l.toArray.size ≤ total) (hlm : limB l.toArray N total cost lim = true)
    (hS : ∀ p v n w n' w', R p v n w → S n w n' w' → R p v n' w') (hC : C 0 w.drew)
    (h : ∃ A : (Nat → Value) → Act, (∀ T, setAll (l.take N) 0 T a0 = A T) ∧ ObAll P A R C S cost lim (l.take N) 0 ∧
      ∀ T w', (∃ n, n ≤ total ∧ C n w' ∧ ∀ p, p < N → R p (T p) n w') → wpList P l.toArray Q (l.drop N) (A T) w') :
    (Code.region id l.toArray true).wp P Q a0 w := by
  obtain ⟨A, hA, hob, hend⟩ := h
  simp only [Bool.and_eq_true] at hB
  refine wp_region_any hm ?_
  have key := region_any (P := P) (Q := Q) (ops := l.toArray) (a0 := a0) (R := R) (C := C) (S := S) (cost := cost) (lim := lim) (total := total) (invB_spec hB.1) hS htot (limB_spec hlm)
    (fun i o ho hi => ob_of (invB_spec hB.1) hB.2 ho hi (fun T => by simpa using hA T) (by
      have := ObAll.get _ _ hob i o (by rw [List.getElem?_take, if_pos hi]; simpa using ho)
      simpa using this))
    (fun T w' hc => by
      have := hend T w' hc
      rw [← hA T] at this
      simpa using this)
    l.toArray.size (Array.replicate l.toArray.size false) a0 w.drew (by simp)
  have h0 : ∀ j, (Array.replicate l.toArray.size false).getD j false = false := fun j => getD_replicate_false _ _
  have hz : ∀ (c : Nat → Nat) k, sumCost c (Array.replicate l.toArray.size false) k = 0 := by
    intro c k
    induction k with
    | zero => rfl
    | succ k ih => simp only [sumCost, ih, h0]; rfl
  have hF : Fits l.toArray a0 (Array.replicate l.toArray.size false) (fun _ => undef) a0 := by
    refine ⟨rfl, rfl, ?_, fun t _ => rfl⟩
    intro j o d _ hl
    rw [h0] at hl
    cases hl
  refine key (by simp only [cnt, hz]; omega) ?_ (.inl ⟨fun _ => undef, fun j _ => h0 j, hF, by rw [hz]; exact hC, ?_⟩)
  · intro j _ hl
    rw [h0] at hl
    cases hl
  · intro j _ hl
    rw [h0] at hl
    cases hl
theorem wpAny_seq {P : Program} {ops : Array Oper} {Q : Exit → Act → World → Prop} (hback : ∀ (i : Nat) (o : Oper) e, ops[i]? = some o → e ∈ o.after → Region.binds .any e = true → e.on < i) :
    ∀ (fuel k : Nat) (listed : Array Bool) (a : Act) (w : World), listed.size = ops.size → fuel + k = ops.size → (∀ j, j < ops.size → (listed.getD j false = true ↔ j < k)) → wpAny P .any ops Q fuel listed a w → wpList P ops Q (ops.toList.drop k) a w
  | 0, k, listed, a, w, hsz, hf, hl, h => by
    rw [List.drop_eq_nil_of_le (by simp; omega)]
    exact h.2
  | fuel + 1, k, listed, a, w, hsz, hf, hl, h => by
    have hk : k < ops.size := by omega
    have ho : ops[k]? = some ops[k] := Array.getElem?_eq_getElem hk
    have hkf : listed.getD k true = false := by
      have : ¬ listed.getD k false = true := fun e => by have := (hl k hk).1 e; omega
      simpa [Array.getD, hsz, hk] using this
    have hr : k ∈ Region.ready .any ops listed := mem_ready.2 ⟨hkf, _, ho, fun e he hb => (hl e.on (by have := hback k _ e ho he hb; omega)).2 (hback k _ e ho he hb)⟩
    have h1 := h.2 k hr
    have hdr : ops.toList.drop k = ops[k] :: ops.toList.drop (k + 1) := by
      rw [List.drop_eq_getElem_cons (by simpa using hk)]
      simp
    rw [hdr]
    have h2 := wpOp_mono (fun a' w' h' => wpAny_seq hback fuel (k + 1) (listed.setIfInBounds k true) a' w' (by simpa using hsz) (by omega) (fun j hj => by
      by_cases hjk : k = j
      · subst hjk; simp [Array.getD, hsz, hk]
      · rw [getD_set_ne false hjk, hl j hj]; omega) h') h1
    unfold wpOp at h2
    simp only [ho] at h2
    exact h2

/-- A REGION IN THE ORDER OF ITS TEXT, BY THE SAME INVARIANT. N: the operations of the head; the others wait for all before them. -/
theorem wp_region_seq {P : Program} {Q : Exit → Act → World → Prop} {id : Nat} {l : List Oper} {a0 : Act} {w : World} (N total : Nat) (R : Nat → Value → Nat → World → Prop) (C : Nat → World → Prop) (S : Nat → World → Nat → World → Prop) (cost lim : Nat → Nat)
    (hm : P.follows .mixedOrders = true) (hB : (invB l.toArray N a0.tmps.size && edgeB l.toArray) = true) (htot : sumCost cost (Array.replicate l.toArray.size true) l.toArray.size ≤ total) (hlm : limB l.toArray N total cost lim = true)
    (hS : ∀ p v n w n' w', R p v n w → S n w n' w' → R p v n' w') (hC : C 0 w)
    (h : ∃ A : (Nat → Value) → Act, (∀ T, setAll (l.take N) 0 T a0 = A T) ∧ ObAll P A R C S cost lim (l.take N) 0 ∧
      ∀ T w', (∃ n, n ≤ total ∧ C n w' ∧ ∀ p, p < N → R p (T p) n w') → wpList P l.toArray Q (l.drop N) (A T) w') :
    (Code.region id l.toArray false).wp P Q a0 w := by
  obtain ⟨A, hA, hob, hend⟩ := h
  simp only [Bool.and_eq_true] at hB
  have key := region_any (P := P) (Q := Q) (ops := l.toArray) (a0 := a0) (R := R) (C := C) (S := S) (cost := cost) (lim := lim) (total := total) (invB_spec hB.1) hS htot (limB_spec hlm)
    (fun i o ho hi => ob_of (invB_spec hB.1) hB.2 ho hi (fun T => by simpa using hA T) (by
      have := ObAll.get _ _ hob i o (by rw [List.getElem?_take, if_pos hi]; simpa using ho)
      simpa using this))
    (fun T w' hc => by
      have := hend T w' hc
      rw [← hA T] at this
      simpa using this)
    l.toArray.size (Array.replicate l.toArray.size false) a0 w (by simp)
  have h0 : ∀ j, (Array.replicate l.toArray.size false).getD j false = false := fun j => getD_replicate_false _ _
  have hz : ∀ (c : Nat → Nat) k, sumCost c (Array.replicate l.toArray.size false) k = 0 := by
    intro c k
    induction k with
    | zero => rfl
    | succ k ih => simp only [sumCost, ih, h0]; rfl
  have hF : Fits l.toArray a0 (Array.replicate l.toArray.size false) (fun _ => undef) a0 := by
    refine ⟨rfl, rfl, ?_, fun t _ => rfl⟩
    intro j o d _ hl
    rw [h0] at hl
    cases hl
  refine wp_region_lit ?_
  have hfin : wpAny P .any l.toArray Q l.toArray.size (Array.replicate l.toArray.size false) a0 w → wpList P l.toArray Q l a0 w := fun h => by
    have := wpAny_seq (invB_spec hB.1).back l.toArray.size 0 _ a0 w (by simp) (by omega) (fun j _ => by rw [h0]; simp) h
    simpa using this
  refine hfin (key (by simp only [cnt, hz]; omega) ?_ (.inl ⟨fun _ => undef, fun j _ => h0 j, hF, by rw [hz]; exact hC, ?_⟩))
  · intro j _ hl
    rw [h0] at hl
    cases hl
  · intro j _ hl
    rw [h0] at hl
    cases hl
end Go.Proofs.YtippolfmljfleaaGreatDoor.Lm
