/-
  Rows of addresses and of wide numbers: how they lie; the orders; the sorts.
-/
import Derived.Test.YteccghdegckjhaaGreatDoorTD17
import Derived.Test.YteccghdegckjhaaGreatDoorTD9
import Derived.Test.YteccghdegckjhaaGreatDoorTD7
set_option linter.unusedVariables false
namespace Go.Proofs.YteccghdegckjhaaGreatDoor
open Go.RowKit Go
set_option linter.unusedVariables false

def adC (x : Nat) : List Value := [.bool (sixN x), .int .u64 ((hiN x : Nat) : Int), .int .u64 ((loN x : Nat) : Int)]
def layAd : Lay Nat := ⟨adC, 3, 28, by decide, fun _ => rfl, fun p v hv => by simp [adC] at hv; rcases hv with rfl | rfl | rfl <;> rfl⟩
def layWd : Lay Nat := ⟨fun x => (wN x).toList, 9, 71, by decide, fun _ => rfl, fun p v hv => wN_one p v hv⟩
theorem adE : EI Tryz.prog 92 28 3 24 := EI.mk' (z := .agg #[.bool false, .int .u64 0, .int .u64 0]) Tryz.underlying92 (by kernel_rfl) rfl (by decide)
theorem wdE : EI Tryz.prog 103 71 9 72 := EI.mk' (z := .agg #[.int .i64 0, .int .i64 0, .int .i64 0, .int .i64 0, .int .i64 0, .int .i64 0, .int .i64 0, .int .i64 0, .int .i64 0]) Tryz.underlying103 (by kernel_rfl) rfl (by decide)
theorem size_ad : (Tryz.prog.info? 28).map (·.size) = some 3 := by kernel_rfl
theorem under_ad : Tryz.prog.underlying 28 = some (.struct (Tryz.prog.fieldsOf 28)) := by kernel_rfl
theorem zval_ad : ∃ z : Value, z.cells.size = 3 ∧ (∀ w, (zeroValue 28).run Tryz.prog w = .ok z w) ∧ ∀ v ∈ z.cells, v.oneCell' = true := ⟨.agg #[.bool false, .int .u64 0, .int .u64 0], rfl, fun w => by kernel_rfl, fun v hv => by
  simp [Value.cells] at hv
  rcases hv with rfl | rfl | rfl <;> rfl⟩
def eqAd (x y : Nat) : Bool := decide ((sixN x, ((hiN x : Nat) : Int), ((loN x : Nat) : Int)) = ((sixN y, ((hiN y : Nat) : Int), ((loN y : Nat) : Int)) : Bool × Int × Int))
theorem eqAd_iff {x y : Nat} (hx : VN x) (hy : VN y) : eqAd x y = decide (x = y) := by
  unfold eqAd
  rw [decide_eq_decide]
  exact aN_same hx hy
theorem eql_ad (x y : Nat) (w : World) : (binOp .eql 28 (.agg (layAd.enc x).toArray) (.agg (layAd.enc y).toArray)).run Tryz.prog w = .ok (.bool (eqAd x y)) w := addr_eql _ _ _ _ _ _ w
theorem neq_ad (x y : Nat) (w : World) : (binOp .neq 28 (.agg (layAd.enc x).toArray) (.agg (layAd.enc y).toArray)).run Tryz.prog w = .ok (.bool (!eqAd x y)) w := addr_neq _ _ _ _ _ _ w
theorem guard_ad (op : BinOp) (o1 o2 : Operand) (x y : Nat) (w : World) (_ : op = .eql ∨ op = .neq) : (eqGuard op 28 o1 o2 (.agg (layAd.enc x).toArray) (.agg (layAd.enc y).toArray)).run Tryz.prog w = .ok () w := addr_guard _ _ _ _ _ w

def keyAd (x : Nat) : Nat := numA (sixN x) (hiN x) (loN x)
def keyWd (x : Nat) : Nat := x % 65536 ^ 9
theorem keyAd_vn {x : Nat} (h : VN x) : keyAd x = x := num_aN h
theorem keyWd_vn {x : Nat} (h : VN x) : keyWd x = x := Nat.mod_eq_of_lt h.lt10.1
set_option maxRecDepth 100000 in
set_option maxHeartbeats 1000000 in
theorem cmpAd_any (x y : Nat) (w : World) : Calls Tryz.prog 56 #[.agg (layAd.enc x).toArray, .agg (layAd.enc y).toArray] w (RetD (.int .i64 (cfK keyAd x y)) w) := by
  have HC := Lib.hid fun wx => spanCompareD_any (sixN x) (hiN x) (loN x) (sixN y) (hiN y) (loN y) wx (hiN_u _) (loN_u _) (hiN_u _) (loN_u _)
  show Calls Tryz.prog 56 #[.agg #[.bool (sixN x), .int .u64 ((hiN x : Nat) : Int), .int .u64 ((loN x : Nat) : Int)], .agg #[.bool (sixN y), .int .u64 ((hiN y : Nat) : Int), .int .u64 ((loN y : Nat) : Int)]] w (RetD (.int .i64 (cN (numA (sixN x) (hiN x) (loN x)) (numA (sixN y) (hiN y) (loN y)))) w)
  generalize cN (numA (sixN x) (hiN x) (loN x)) (numA (sixN y) (hiN y) (loN y)) = C at *
  generalize sixN x = a1 at *
  generalize hiN x = a2 at *
  generalize loN x = a3 at *
  generalize sixN y = b1 at *
  generalize hiN y = b2 at *
  generalize loN y = b3 at *
  have HP : Hid (Blk ((w.alloc (.cells #[.bool a1, .int .u64 (a2 : Int), .int .u64 (a3 : Int)] 28 (0, 0))).alloc (.cells #[.bool b1, .int .u64 (b2 : Int), .int .u64 (b3 : Int)] 28 (0, 0))) w.heap.size 28 #[.bool a1, .int .u64 (a2 : Int), .int .u64 (a3 : Int)]) := Lib.hid ((Blk.new w _ _).alloc _)
  have HQ : Hid (Blk ((w.alloc (.cells #[.bool a1, .int .u64 (a2 : Int), .int .u64 (a3 : Int)] 28 (0, 0))).alloc (.cells #[.bool b1, .int .u64 (b2 : Int), .int .u64 (b3 : Int)] 28 (0, 0))) (w.heap.size + 1) 28 #[.bool b1, .int .u64 (b2 : Int), .int .u64 (b3 : Int)]) := Lib.hid (by
    have this := Blk.new (w.alloc (.cells #[.bool a1, .int .u64 (a2 : Int), .int .u64 (a3 : Int)] 28 (0, 0))) 28 #[.bool b1, .int .u64 (b2 : Int), .int .u64 (b3 : Int)]
    rw [World.size_alloc] at this
    exact this)
  have HB : Hid (BelD w ((w.alloc (.cells #[.bool a1, .int .u64 (a2 : Int), .int .u64 (a3 : Int)] 28 (0, 0))).alloc (.cells #[.bool b1, .int .u64 (b2 : Int), .int .u64 (b3 : Int)] 28 (0, 0)))) := Lib.hid (((BelD.refl _).alloc _).alloc _)
  go_enter Tryz.func56, Tryz.ntmps56
  go_upto_region 1 with fail
  generalize ((w.alloc (.cells #[.bool a1, .int .u64 (a2 : Int), .int .u64 (a3 : Int)] 28 (0, 0))).alloc (.cells #[.bool b1, .int .u64 (b2 : Int), .int .u64 (b3 : Int)] 28 (0, 0))) = w1 at *
  generalize w.heap.size = b at HP HQ ⊢
  have p0 := HP.out.cell 0
  have p1 := HP.out.cell 1
  have p2 := HP.out.cell 2
  simp at p0 p1 p2
  have q0 := HQ.out.cell 0
  have q1 := HQ.out.cell 1
  have q2 := HQ.out.cell 2
  simp at q0 q1 q2
  go_wp2_with fail
  refine (HC.out _).mono ?_
  rintro e w2 ⟨rfl, hb⟩
  go_wp2_with fail
  go_ret
  exact ⟨rfl, HB.out.trans hb⟩
theorem cmpWd_any (x y : Nat) (w : World) : Calls Tryz.prog 70 #[.agg (layWd.enc x).toArray, .agg (layWd.enc y).toArray] w (RetD (.int .i64 (cfK keyWd x y)) w) := by
  have h := wideCmpD_any (digN x) (digN y) w (digN_lt _) (digN_lt _)
  rw [PW_digN, PW_digN] at h
  exact h
theorem sortAd_any (B n c : Nat) (ad : Option Addr) (M : List Nat) (w : World) (h : OwnK layAd w B (.slice ad n c) M) (hn : M.length = n) (hs : n ≤ 1000000) (hB : B ≤ w.heap.size) :
    Calls Tryz.prog 55 #[.slice ad n c, .func (.func 56) #[] #[]] w fun e w' => e = .returned (.tuple #[]) ∧ ∃ S : List Nat, S.Perm M ∧ S.Pairwise (fun p q => keyAd p ≤ keyAd q) ∧ OwnK layAd w' B (.slice ad n c) S ∧ Below B w w' := by
  rcases Nat.eq_zero_or_pos n with h0 | h0
  · subst h0
    have hM : M = [] := List.eq_nil_of_length_eq_zero hn
    subst hM
    refine (Tryz.slices_SortFunc_Ad_none ad c _ w).mono ?_
    rintro e w' ⟨rfl, rfl⟩
    exact ⟨rfl, [], List.Perm.refl _, List.Pairwise.nil, h, (Below.refl _ _).mono hB⟩
  · obtain ⟨g, c', hv2, _⟩ := h.one (by omega)
    simp at hv2
    obtain ⟨rfl, -, rfl⟩ := hv2
    obtain ⟨hH, hlt⟩ := h.holds
    have eg : ∀ args w, (callFunc 56 args).run Tryz.prog w = .ok (.enter 56 args) w := Go.Proofs.enters_of Tryz.func56 (by kernel_rfl) rfl
    have hp := Tryz.slices_SortFunc_Ad layAd.enc layAd.len layAd.one (cfK keyAd) (swoK keyAd) 56 #[] g 0 c M.toArray w eg (cmpLays_of cmpAd_any) hH hlt (by show M.length < _; omega)
    have hsz : M.toArray.size = n := hn
    rw [hsz] at hp
    refine hp.mono ?_
    rintro e w' ⟨rfl, d', q, os, h1, h2, h3⟩
    rw [← hsz] at h1 h2
    obtain ⟨S, s1, s2, s3, s4⟩ := h.sorted hB h1 h2 h3
    exact ⟨rfl, S, s1, s2, s3, s4⟩
theorem sortWd_any (B n c : Nat) (ad : Option Addr) (M : List Nat) (w : World) (h : OwnK layWd w B (.slice ad n c) M) (hn : M.length = n) (hs : n ≤ 1000000) (hB : B ≤ w.heap.size) :
    Calls Tryz.prog 69 #[.slice ad n c, .func (.func 70) #[] #[]] w fun e w' => e = .returned (.tuple #[]) ∧ ∃ S : List Nat, S.Perm M ∧ S.Pairwise (fun p q => keyWd p ≤ keyWd q) ∧ OwnK layWd w' B (.slice ad n c) S ∧ Below B w w' := by
  rcases Nat.eq_zero_or_pos n with h0 | h0
  · subst h0
    have hM : M = [] := List.eq_nil_of_length_eq_zero hn
    subst hM
    refine (Tryz.slices_SortFunc_Wd_none ad c _ w).mono ?_
    rintro e w' ⟨rfl, rfl⟩
    exact ⟨rfl, [], List.Perm.refl _, List.Pairwise.nil, h, (Below.refl _ _).mono hB⟩
  · obtain ⟨g, c', hv2, _⟩ := h.one (by omega)
    simp at hv2
    obtain ⟨rfl, -, rfl⟩ := hv2
    obtain ⟨hH, hlt⟩ := h.holds
    have eg : ∀ args w, (callFunc 70 args).run Tryz.prog w = .ok (.enter 70 args) w := Go.Proofs.enters_of Tryz.func70 (by kernel_rfl) rfl
    have hp := Tryz.slices_SortFunc_Wd layWd.enc layWd.len layWd.one (cfK keyWd) (swoK keyWd) 70 #[] g 0 c M.toArray w eg (cmpLays_of cmpWd_any) hH hlt (by show M.length < _; omega)
    have hsz : M.toArray.size = n := hn
    rw [hsz] at hp
    refine hp.mono ?_
    rintro e w' ⟨rfl, d', q, os, h1, h2, h3⟩
    rw [← hsz] at h1 h2
    obtain ⟨S, s1, s2, s3, s4⟩ := h.sorted hB h1 h2 h3
    exact ⟨rfl, S, s1, s2, s3, s4⟩
end Go.Proofs.YteccghdegckjhaaGreatDoor
