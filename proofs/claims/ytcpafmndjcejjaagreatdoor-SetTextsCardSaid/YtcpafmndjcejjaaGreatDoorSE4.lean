/-
  Two wide numbers compared.
  The reference's PrefixFault and MaskOf.
  Slices that a call owns, and slices that can be read: append, for every element type. Lemmas of this claim's own.
  The mark of the address laws: addressed is true. And the small functions errs, when.
  Decimal and hexadecimal numerals of small numbers: strconv.FormatUint, FormatInt, Itoa over the laid tables.
  Prefixes and addresses compared: equal ones.
  Addresses as numbers: comparing digit by digit; what a prefix holds, whether one lies in another, what two have in common.
  Generators of prefixes: RightPrefix, Prefix.
-/
import Derived.Test.YtcpafmndjcejjaaGreatDoorSE3
import Derived.ChangeKeysEq
import Derived.Laws.StructEq
import Derived.Test.YtcpafmndjcejjaaGreatDoorSE1
import Derived.Maps.AppendAt
import Derived.Lib.Hide
import Derived.Test.YtcpafmndjcejjaaGreatDoorSE5
import Derived.Test.YtcpafmndjcejjaaGreatDoorSE2
import Derived.Lib.AppendIntMem
import Derived.LaidSub
import Derived.MakeChecks
set_option linter.unusedVariables false
namespace Go.Proofs.YtcpafmndjcejjaaGreatDoor
open Go.RowKit Go
set_option linter.unusedVariables false

def ivs (X : List Int) : Array Value := (X.map (Value.int .i64)).toArray
theorem ivs_get (X : List Int) (i : Nat) (h : i < X.length) : (ivs X)[i]? = some (.int .i64 (X.getD i 0)) := by
  simp [ivs, List.getD, h]
theorem items_int (X Y : List Int) (w : World) : ∀ is : List Nat, (∀ i ∈ is, i < X.length ∧ i < Y.length) →
    (Op.eqItems 9999 3 1 (ivs X) (ivs Y) is).run Tryz.prog w = .ok (decide (∀ i ∈ is, X.getD i 0 = Y.getD i 0)) w
  | [], _ => by simp [Op.eqItems]
  | i :: is, h => by
    have ih := items_int X Y w is fun j hj => h j (List.mem_cons_of_mem _ hj)
    obtain ⟨h1, h2⟩ := h i List.mem_cons_self
    have e1 := ivs_get X i h1
    have e2 := ivs_get Y i h2
    have he := fun x y : Int => run_equalIn_int (P := Tryz.prog) w 9998 3 .i64 .i64 x y (by kernel_rfl)
    have a3 := Tryz.isAgg3
    have z3 := Tryz.sizeOf3
    have p1 : (part 3 (ivs X) (i * 1)).run Tryz.prog w = .ok (.int .i64 (X.getD i 0)) w := by
      rw [Nat.mul_one]; unfold part; simp [Sem.run_bind, a3, e1]
    have p2 : (part 3 (ivs Y) (i * 1)).run Tryz.prog w = .ok (.int .i64 (Y.getD i 0)) w := by
      rw [Nat.mul_one]; unfold part; simp [Sem.run_bind, a3, e2]
    simp only [Op.eqItems, Sem.run_bind, p1, p2, Result.andThen_ok, he]
    by_cases hxy : X.getD i 0 = Y.getD i 0
    · have hf : decide (∀ j ∈ i :: is, X.getD j 0 = Y.getD j 0) = decide (∀ j ∈ is, X.getD j 0 = Y.getD j 0) := by
        rw [decide_eq_decide]; simp only [List.mem_cons, forall_eq_or_imp, hxy, true_and]
      rw [hf, hxy]
      simp [ih]
    · have hf : decide (∀ j ∈ i :: is, X.getD j 0 = Y.getD j 0) = false := by
        rw [decide_eq_false_iff_not]; intro hh; exact hxy (hh i List.mem_cons_self)
      have hb : (X.getD i 0 == Y.getD i 0) = false := beq_false_of_ne hxy
      rw [hf, hb]
      rfl
def wl (six : Bool) (f : Nat → Nat) : List Int := [(f 0 : Nat), (f 1 : Nat), (f 2 : Nat), (f 3 : Nat), (f 4 : Nat), (f 5 : Nat), (f 6 : Nat), (f 7 : Nat), if six = true then 1 else 0]
theorem wv_ivs (six : Bool) (f : Nat → Nat) : wv six f = ivs (wl six f) := rfl
set_option maxRecDepth 100000 in
theorem wide_eq (s1 s2 : Bool) (f g : Nat → Nat) (w : World) : (Op.equalIn 10000 86 (.agg (wv s1 f)) (.agg (wv s2 g))).run Tryz.prog w = .ok (decide (wl s1 f = wl s2 g)) w := by
  obtain ⟨i, hi⟩ : ∃ i, Tryz.prog.info? 3 = some i := Option.isSome_iff_exists.1 (by kernel_rfl)
  have hu : Tryz.prog.underlying 86 = some (.array 9 3) := by kernel_rfl
  have hc : Tryz.prog.cellsOf 3 = 1 := by kernel_rfl
  rw [wv_ivs, wv_ivs, show (10000 : Nat) = 9999 + 1 from rfl, run_equalIn_array (P := Tryz.prog) w 9999 (t := 86) _ _ hu hi, hc, items_int _ _ w (List.range 9) (fun i h => by have := List.mem_range.1 h; simp [wl]; omega)]
  congr 1
  rw [decide_eq_decide]
  constructor
  · intro h
    exact List.ext_getElem (by rfl) fun i h1 h2 => by
      have := h i (List.mem_range.2 h1)
      simpa [List.getD, h1, h2] using this
  · intro h i _
    rw [h]
theorem wide_neq (s1 s2 : Bool) (f g : Nat → Nat) (w : World) : (binOp .neq 86 (.agg (wv s1 f)) (.agg (wv s2 g))).run Tryz.prog w = .ok (.bool (!decide (wl s1 f = wl s2 g))) w := by
  rw [run_neq_struct, wide_eq]; rfl
theorem wide_guard (op : BinOp) (x y : Operand) (xs ys : Array Value) (w : World) : (eqGuard op 86 x y (.agg xs) (.agg ys)).run Tryz.prog w = .ok () w :=
  run_eqGuard_agg w _ _ _ _ _ _ (by kernel_rfl)
theorem wl_inj {s1 s2 : Bool} {f g : Nat → Nat} : wl s1 f = wl s2 g ↔ (s1 = s2 ∧ ∀ d, d < 8 → f d = g d) := by
  unfold wl
  simp only [List.cons.injEq, and_true]
  constructor
  · intro h
    refine ⟨?_, fun d hd => ?_⟩
    · cases s1 <;> cases s2 <;> simp at h ⊢
    · rcases lt8 hd with rfl | rfl | rfl | rfl | rfl | rfl | rfl | rfl <;> omega
  · rintro ⟨rfl, h⟩
    rw [h 0 (by decide), h 1 (by decide), h 2 (by decide), h 3 (by decide), h 4 (by decide), h 5 (by decide), h 6 (by decide), h 7 (by decide)]
    simp
theorem wl_first (six : Bool) (hi lo n : Nat) (h1 : hi < 18446744073709551616) (h2 : lo < 18446744073709551616) :
    decide (wl six (clrF hi lo (lenN six - n)) = wl six (dg hi lo)) = decide (mHi six hi n = hi ∧ mLo six lo n = lo) := by
  rw [decide_eq_decide, ← first_same six hi lo n h1 h2, wl_inj, wv_inj]
  simp
end Go.Proofs.YtcpafmndjcejjaaGreatDoor

namespace Go.Proofs.YtcpafmndjcejjaaGreatDoor
open Go.RowKit Go
set_option linter.unusedVariables false

def vP (six : Bool) (hi lo : Nat) (bits : Int) : Value := .agg #[.bool six, .int .u64 (hi : Int), .int .u64 (lo : Int), .int .i64 bits]
set_option maxRecDepth 100000 in
set_option maxHeartbeats 2000000 in
theorem prefixFault_any (six : Bool) (hi lo : Nat) (bits : Int) (w : World) (h1 : hi < 18446744073709551616) (h2 : lo < 18446744073709551616) :
    Calls Tryz.prog 39 #[vP six hi lo bits] w (Ret (.int .i64 (pFault six hi lo bits)) w) := by
  unfold vP
  have HA := Lib.hid (fun wx => addrFault_any six hi lo wx ⟨by omega, by omega⟩ ⟨by omega, by omega⟩)
  have hP : Blk (w.alloc (.cells #[.bool six, .int .u64 (hi : Int), .int .u64 (lo : Int), .int .i64 bits] 45 (0, 0))) w.heap.size 45 #[.bool six, .int .u64 (hi : Int), .int .u64 (lo : Int), .int .i64 bits] := Blk.new w _ _
  have hB : Below w.heap.size w (w.alloc (.cells #[.bool six, .int .u64 (hi : Int), .int .u64 (lo : Int), .int .i64 bits] 45 (0, 0))) := below_alloc (Below.refl _ _) _
  obtain ⟨pf, hpf⟩ : ∃ pf, pFault six hi lo bits = pf := ⟨_, rfl⟩
  rw [hpf]
  replace hpf := Lib.hid hpf
  go_enter Tryz.func39, Tryz.ntmps39
  go_upto_region 1 with fail
  have HP := Lib.hid hP
  have HB := Lib.hid hB
  clear hP hB
  generalize w.alloc (.cells #[.bool six, .int .u64 (hi : Int), .int .u64 (lo : Int), .int .i64 bits] 45 (0, 0)) = w1 at *
  generalize hP0 : w.heap.size = P0 at *
  replace hP0 := Lib.hid hP0
  have a0 := HP.out.cell 0
  have a1 := HP.out.cell 1
  have a2 := HP.out.cell 2
  have a3 := HP.out.cell 3
  have af := HP.out.free
  simp at a0 a1 a2 a3
  go_wp2_with fail
  refine (HA.out _).mono ?_
  rintro e w2 ⟨rfl, o, rfl⟩
  have HP2 := Lib.hid (HP.out.alloc o)
  have HB2 := Lib.hid (HB.out.trans ((below_alloc (Below.refl w1.heap.size w1) o).mono (Nat.le_of_lt HP.out.lt)))
  have hlt2 := HP2.out.lt
  clear a0 a1 a2 a3 af HP HB
  generalize w1.alloc o = w2 at *
  obtain ⟨af0, haf⟩ : ∃ z, aFault six hi lo = z := ⟨_, rfl⟩
  rw [haf]
  by_cases hz : af0 = 0
  · subst hz
    go_upto_region 4 with fail
    have a0 := HP2.out.cell 0
    have a1 := HP2.out.cell 1
    have a2 := HP2.out.cell 2
    have a3 := HP2.out.cell 3
    simp at a0 a1 a2 a3
    have l0 := Later.cell_of a0
    have l1 := Later.cell_of a1
    have l2 := Later.cell_of a2
    have l3 := Later.cell_of a3
    have hL := fun n : Later w2 => Calls.later n (lengthQ_any six hi lo n.1)
    have hO := fun n : Later w2 => Calls.later_same n (in_any bits 0 (lenN six : Nat) n.1)
    unfold vA at hL
    refine wp_region_later (by kernel_rfl) (by kernel_rfl) ?_
    repeat (go_big_quiet_step (first | (go_at_call 80; exact hL _) | (go_at_call 67; exact hO _)))
    refine wpQuiet_nil ?_
    rintro w5 ⟨n5, rfl⟩
    clear a0 a1 a2 a3 l0 l1 l2 l3 hL hO
    obtain ⟨ob, hob⟩ : ∃ z, inB bits 0 (lenN six : Nat) = z := ⟨_, rfl⟩
    rw [hob]
    have HB5 := Lib.hid (HB2.out.trans (n5.2.mono (Nat.le_of_lt hlt2)))
    have HP5 := Lib.hid (HP2.out.below n5.2 hlt2)
    have hlt5 := HP5.out.lt
    generalize n5.1 = w5 at *
    have hob2 : outB bits 0 (lenN six : Nat) = !ob := by rw [← hob, inB_out]; simp
    cases ob
    · go_wp2_with fail
      have hP0' := hP0.out
      subst hP0'
      go_ret
      refine ⟨?_, HB5.out⟩
      rw [← hpf.out, pFault, if_neg (by rw [haf]; decide), if_pos (by rw [hob2]; rfl)]
      rfl
    · go_upto_region 6 with fail
      have hb : 0 ≤ bits ∧ bits ≤ (lenN six : Nat) := by
        unfold inB at hob
        simp at hob
        omega
      obtain ⟨bn, rfl⟩ := Int.eq_ofNat_of_zero_le hb.1
      have hln := lenN_le six
      have a0 := HP5.out.cell 0
      have a1 := HP5.out.cell 1
      have a2 := HP5.out.cell 2
      have a3 := HP5.out.cell 3
      simp at a0 a1 a2 a3
      have l0 := Later.cell_of a0
      have l1 := Later.cell_of a1
      have l2 := Later.cell_of a2
      have l3 := Later.cell_of a3
      have hF := fun n : Later w5 => Calls.later n (firstOf_any six hi lo bn (lenN six - bn) n.1 h1 h2 (by omega) (by omega) (by omega))
      have hO := fun n : Later w5 => Calls.later n (of_any six hi lo n.1 h1 h2)
      simp only [wCells_wv] at hO
      unfold vA at hF hO
      have hN := fun w => wide_neq six six (clrF hi lo (lenN six - bn)) (dg hi lo) w
      rw [wl_first six hi lo bn h1 h2] at hN
      have hG := wide_guard .neq
      have hpf2 : pf = if mHi six hi bn ≠ hi ∨ mLo six lo bn ≠ lo then 3 else 0 := by
        rw [← hpf.out, pFault, if_neg (by rw [haf]; decide), if_neg (by rw [hob2]; decide)]
        rfl
      obtain ⟨z, hz⟩ : ∃ z, decide (mHi six hi bn = hi ∧ mLo six lo bn = lo) = z := ⟨_, rfl⟩
      rw [hz] at hN
      have Hpf2 : Hid (pf = if z = true then 0 else 3) := Lib.hid (by
        rw [hpf2, ← hz]
        by_cases h : mHi six hi bn = hi ∧ mLo six lo bn = lo
        · rw [if_neg (by omega), if_pos (by simpa using h)]
        · rw [if_pos (by omega), if_neg (by simpa using h)])
      clear hpf2 hz hob hob2 hb
      generalize wv six (clrF hi lo (lenN six - bn)) = WF at *
      generalize wv six (dg hi lo) = WD at *
      refine wp_region_later (by kernel_rfl) (by kernel_rfl) ?_
      repeat (go_big_quiet_step (first | (go_at_call 81; exact hF _) | (go_at_call 49; exact hO _)))
      refine wpQuiet_nil ?_
      rintro w6 ⟨n6, rfl⟩
      have HB6 := Lib.hid (HB5.out.trans (n6.2.mono (Nat.le_of_lt hlt5)))
      clear a0 a1 a2 a3 l0 l1 l2 l3 hF hO hN hG
      cases z
      all_goals
        go_wp2_with fail
        have hP0' := hP0.out
        subst hP0'
        go_ret
        exact ⟨by rw [Hpf2.out]; rfl, HB6.out⟩
  · have hz' : (af0 != 0) = true := by simpa using hz
    go_wp2_with fail
    have hP0' := hP0.out
    subst hP0'
    go_ret
    refine ⟨?_, HB2.out⟩
    have h3 : af0 = 3 := by have := aFault_vals six hi lo; rw [haf] at this; omega
    rw [← hpf.out, pFault, if_pos (by rw [haf]; exact hz), h3]
    rfl
set_option maxRecDepth 100000 in
set_option maxHeartbeats 2000000 in
theorem maskOf_any (six : Bool) (hi lo n : Nat) (w : World) (h1 : hi < 18446744073709551616) (h2 : lo < 18446744073709551616) (hn : n ≤ 128) :
    Calls Tryz.prog 104 #[vA six hi lo, .int .i64 (n : Int)] w (Ret (vP six (mHi six hi n) (mLo six lo n) (n : Int)) w) := by
  have hln := lenN_le six
  have HF := Lib.hid fun wx => firstOf_any six hi lo n (lenN six - n) wx h1 h2 (by omega) (by omega) (by omega)
  have HW := Lib.hid fun wx => wideAddr_any six (clrF hi lo (lenN six - n)) wx (clrF_lt hi lo _)
  rw [clr_lo hi lo _ h2, clr_hi hi lo _ h1, ← mHi_clr, ← mLo_clr] at HW
  generalize wv six (clrF hi lo (lenN six - n)) = WF at *
  generalize mHi six hi n = mh at *
  generalize mLo six lo n = ml at *
  unfold vA at HF HW ⊢
  unfold vP
  have HR0 : Blk ((w.alloc (.cells #[.bool six, .int .u64 (hi : Int), .int .u64 (lo : Int)] 29 (0, 0))).alloc (.cells #[.bool false, .int .u64 0, .int .u64 0, .int .i64 0] 45 (0, 0))) (w.heap.size + 1) 45 #[.bool false, .int .u64 0, .int .u64 0, .int .i64 0] := by
    have := Blk.new (w.alloc (.cells #[.bool six, .int .u64 (hi : Int), .int .u64 (lo : Int)] 29 (0, 0))) 45 #[.bool false, .int .u64 0, .int .u64 0, .int .i64 0]
    rw [World.size_alloc] at this
    exact this
  have HR := Lib.hid HR0
  have HB : Hid (Below w.heap.size w ((w.alloc (.cells #[.bool six, .int .u64 (hi : Int), .int .u64 (lo : Int)] 29 (0, 0))).alloc (.cells #[.bool false, .int .u64 0, .int .u64 0, .int .i64 0] 45 (0, 0)))) := Lib.hid (below_alloc (below_alloc (Below.refl _ _) _) _)
  clear HR0
  go_enter Tryz.func104, Tryz.ntmps104
  go_wp2_with fail
  refine (HF.out _).mono ?_
  rintro e w2 ⟨rfl, hb⟩
  have HR2 := Lib.hid (HR.out.below hb HR.out.lt)
  have HB2 := Lib.hid (HB.out.trans (hb.mono HB.out.size))
  clear hb HR HB HF
  go_wp2_with fail
  refine (HW.out _).mono ?_
  rintro e w3 ⟨rfl, hb⟩
  have HR3 := Lib.hid (HR2.out.below hb HR2.out.lt)
  have HB3 := Lib.hid (HB2.out.trans (hb.mono HB2.out.size))
  clear hb HR2 HB2 HW
  have r0 := HR3.out.cell 0
  have r1 := HR3.out.cell 1
  have r2 := HR3.out.cell 2
  have r3 := HR3.out.cell 3
  have rf := HR3.out.free
  simp at r0 r1 r2 r3
  go_wp2_with fail
  refine bodyPost_ret (v := .agg #[.bool six, .int .u64 (mh : Int), .int .u64 (ml : Int), .int .i64 (n : Int)]) (by simp [results, Tryz.results104, go_sem, r0, r1, r2, r3]) rfl ⟨rfl, ?_⟩
  repeat refine Below.setCell ?_ (by first | (simp; omega) | simp) _
  exact HB3.out
end Go.Proofs.YtcpafmndjcejjaaGreatDoor

namespace Go.Proofs.YtcpafmndjcejjaaGreatDoor
open Go.RowKit Go
set_option linter.unusedVariables false

/-- the element type's row in the program's table -/
structure EI (P : Program) (t e : TypeId) (size bytes : Nat) : Prop where
  ht : P.underlying t = some (.slice e)
  hi : ∃ i z, P.info? e = some i ∧ i.zero = some z ∧ i.size = size ∧ i.bytes = bytes ∧ z.cells.size = size
  hsz : 0 < size
theorem EI.mk' {P : Program} {t e : TypeId} {size bytes : Nat} {z : Value} (ht : P.underlying t = some (.slice e)) (h : (P.info? e).map (fun i => (i.zero, i.size, i.bytes)) = some (some z, size, bytes)) (hz : z.cells.size = size) (hsz : 0 < size) : EI P t e size bytes := by
  obtain ⟨i, h0, h1, h2, h3⟩ := info_parts h
  exact ⟨ht, ⟨i, z, h0, h1, h2, h3, hz⟩, hsz⟩

/-- m elements that can be read at ad: the cells are 'news' -/
def Src (w : World) (ad : Option Addr) (m size : Nat) (news : List Value) : Prop :=
  news.length = m * size ∧ ∀ j u, news[j]? = some u → ∃ a, ad = some a ∧ a.block < w.heap.size ∧ w.cell? (a.add j) = some u

/-- from w to w' the row of v alone was written, and it stays or lies anew -/
structure Grew (w w' : World) (v v' : Value) : Prop where
  g : w.grownBy w' v.ownBlock
  o : v'.ownBlock = v.ownBlock ∨ ∃ k, v'.ownBlock = some k ∧ w.heap.size ≤ k
theorem Grew.refl (w : World) (v : Value) : Grew w w v v := ⟨World.grownBy.refl w _, .inl rfl⟩
theorem Grew.trans {a b c : World} {u v x : Value} (h : Grew a b u v) (k : Grew b c v x) : Grew a c u x := by
  refine ⟨⟨k.g.os.trans h.g.os, k.g.tape.trans h.g.tape, k.g.output.trans h.g.output, Nat.le_trans h.g.size k.g.size, fun i hi hne => ?_⟩, ?_⟩
  · refine (k.g.block i (Nat.lt_of_lt_of_le hi h.g.size) ?_).trans (h.g.block i hi hne)
    rcases h.o with e | ⟨j, e, hj⟩
    · rw [e]; exact hne
    · rw [e]; intro e2; injection e2 with e2; omega
  · rcases k.o with e | ⟨j, e, hj⟩
    · rcases h.o with e2 | ⟨j, e2, hj⟩
      · exact .inl (e.trans e2)
      · exact .inr ⟨j, e.trans e2, hj⟩
    · exact .inr ⟨j, e, Nat.le_trans h.g.size hj⟩
theorem Grew.alloc {a b : World} {u v : Value} (h : Grew a b u v) (o : Obj) : Grew a (b.alloc o) u v :=
  ⟨h.g.trans (World.grownBy_alloc _ _ _), h.o⟩
theorem Grew.allocFirst {a b : World} {u v : Value} {o : Obj} (h : Grew (a.alloc o) b u v) : Grew a b u v := by
  refine ⟨(World.grownBy_alloc a o _).trans h.g, ?_⟩
  rcases h.o with e | ⟨k, e, hk⟩
  · exact .inl e
  · exact .inr ⟨k, e, by simp at hk; omega⟩
theorem Grew.drewN {a b : World} {u v : Value} (h : Grew a b u v) (n : Nat) : Grew a (b.drewN n) u v := ⟨⟨h.g.os, h.g.tape, h.g.output, h.g.size, h.g.block⟩, h.o⟩
/-- nothing below 'base' was written, if the row lies from there on -/
theorem Grew.below {a b : World} {u v : Value} {B : Nat} (h : Grew a b u v) (hB : B ≤ a.heap.size) (hu : ∀ k, u.ownBlock = some k → B ≤ k) : Below B a b :=
  (Below.refl B a).grown h.g hB hu
theorem own_form {w : World} {base : Nat} {e : TypeId} {size : Nat} {v : Value} {n : Nat} {xs : List Value} (h : w.ownsRow base e size v n xs) : ∃ ad c, v = .slice ad n c ∧ Src w ad n size xs ∧ n ≤ c ∧ c ≤ maxLen := by
  rcases h.2 with ⟨rfl, rfl⟩ | ⟨g, cap, cur, rfl, hb, hg, hn, hc, hs, ht⟩
  · have hx : xs = [] := List.eq_nil_of_length_eq_zero (by simpa using h.1)
    subst hx
    exact ⟨none, 0, rfl, ⟨by simp, fun j u hu => by simp at hu⟩, Nat.le_refl _, by unfold maxLen; omega⟩
  · exact ⟨_, cap, rfl, ⟨h.1, fun j u hu => ⟨_, rfl, lt_of_block hg, h.cells (g := g) rfl j u hu⟩⟩, hn, hc⟩
theorem own_base {w : World} {base : Nat} {e : TypeId} {size : Nat} {v : Value} {n : Nat} {xs : List Value} (h : w.ownsRow base e size v n xs) : ∀ k, v.ownBlock = some k → base ≤ k := fun k hk => (h.lt k hk).1
theorem own_lt {w : World} {base : Nat} {e : TypeId} {size : Nat} {v : Value} {n : Nat} {xs : List Value} (h : w.ownsRow base e size v n xs) : ∀ k, v.ownBlock = some k → k < w.heap.size := fun k hk => (h.lt k hk).2
theorem own_weak {w : World} {base base' : Nat} {e : TypeId} {size : Nat} {v : Value} {n : Nat} {xs : List Value} (h : w.ownsRow base e size v n xs) (hb : base' ≤ base) : w.ownsRow base' e size v n xs := by
  refine ⟨h.1, ?_⟩
  rcases h.2 with h2 | ⟨g, cap, cur, hv, hg, r⟩
  · exact .inl h2
  · exact .inr ⟨g, cap, cur, hv, Nat.le_trans hb hg, r⟩
/-- an owned row stays where another world's step leaves its block -/
theorem own_below {w w' : World} {base B : Nat} {e : TypeId} {size : Nat} {v : Value} {n : Nat} {xs : List Value} (h : w.ownsRow base e size v n xs) (hb : Below B w w') (hB : ∀ k, v.ownBlock = some k → k < B) : w'.ownsRow base e size v n xs := by
  refine ⟨h.1, ?_⟩
  rcases h.2 with h2 | ⟨g, cap, cur, rfl, hg, hh, r⟩
  · exact .inl h2
  · exact .inr ⟨g, cap, cur, rfl, hg, (hb.block g (hB g rfl)).trans hh, r⟩
theorem own_later {w w' : World} {base : Nat} {e : TypeId} {size : Nat} {v : Value} {n : Nat} {xs : List Value} (h : w.ownsRow base e size v n xs) (hb : Below w.heap.size w w') : w'.ownsRow base e size v n xs := own_below h hb fun k hk => own_lt h k hk
theorem own_grew {w w' : World} {base : Nat} {e : TypeId} {size : Nat} {v u u' : Value} {n : Nat} {xs : List Value} (h : w.ownsRow base e size v n xs) (hg : Grew w w' u u') (hne : v.ownBlock = none ∨ v.ownBlock ≠ u.ownBlock) : w'.ownsRow base e size v n xs := h.kept hg.g hne
theorem src_later {w w' : World} {ad : Option Addr} {m size : Nat} {news : List Value} (h : Src w ad m size news) (hb : Below w.heap.size w w') : Src w' ad m size news :=
  ⟨h.1, fun j u hu => by
    obtain ⟨a, e, hlt, hc⟩ := h.2 j u hu
    have hlt' : (a.add j).block < w.heap.size := by unfold Addr.add; split <;> exact hlt
    exact ⟨a, e, Nat.lt_of_lt_of_le hlt hb.size, (hb.cell hlt').trans hc⟩⟩
section
variable {P : Program}
theorem run_append_src {t e : TypeId} {size bytes : Nat} (E : EI P t e size bytes) (w : World) (base : Nat) (ty : TypeId) (v : Value) (n : Nat) (xs : List Value) (hown : w.ownsRow base e size v n xs)
    (ad : Option Addr) (m c : Nat) (news : List Value) (hsrc : Src w ad m size news) (h1 : ∀ u ∈ news, u.oneCell' = true)
    (h63 : n + m ≤ maxLen) (hbytes : (n + m) * bytes ≤ 140737488355328) (hbase : base ≤ w.heap.size) :
    ∃ v' w', (Builtin.append_ #[t, t] ty #[v, .slice ad m c]).run P w = .ok v' w' ∧ w'.ownsRow base e size v' (n + m) (xs ++ news) ∧ Grew w w' v v' := by
  obtain ⟨ht, ⟨i, z, hi, hz, hs, hb, hzs⟩, hsz⟩ := E
  cases ad with
  | some a =>
    have hcells : ∀ j u, news[j]? = some u → w.cell? (a.add j) = some u := fun j u hu => by
      obtain ⟨a', e, _, hc⟩ := hsrc.2 j u hu
      injection e with e; subst e; exact hc
    obtain ⟨v', w', hr, h2, h3, _, h5⟩ := run_append_own_at (P := P) w base t ty e i z size bytes ht hi hz hs hb hzs hsz v n xs hown a m c news hsrc.1 hcells h1 h63 hbytes hbase
    exact ⟨v', w', hr, h2, h3, h5.imp id fun h => ⟨_, h, Nat.le_refl _⟩⟩
  | none =>
    have hn : news = [] := by
      cases news with
      | nil => rfl
      | cons x l => obtain ⟨a, e, _⟩ := hsrc.2 0 x rfl; cases e
    subst hn
    have hm : m = 0 := by
      have h0 : m * size = 0 := by have := hsrc.1; simpa using this.symm
      rcases Nat.mul_eq_zero.1 h0 with h | h <;> omega
    subst hm
    have hr : (Builtin.append_ #[t, t] ty #[v, .slice none 0 c]).run P w = .ok v w := by
      rcases hown.2 with ⟨rfl, rfl⟩ | ⟨g, cap, cur, rfl, _, _, hnc, _⟩
      · simp [Builtin.append_, run_underlying ht, sizeOf, typeInfo, hi, Builtin.lenOf, Builtin.firstCells]
      · simp [Builtin.append_, run_underlying ht, sizeOf, typeInfo, hi, Builtin.lenOf, Builtin.firstCells, hnc, storeCells]
    exact ⟨v, w, hr, by simpa using hown, Grew.refl w v⟩

theorem wpList_app {t e : TypeId} {size bytes : Nat} (E : EI P t e size bytes) {w : World} {ops : Array Oper} {rest : List Oper} {o : Oper} {a : Act} {Q : Exit → Act → World → Prop} (hgd : o.guard = none) (s x : Operand)
    (ho : o.op = .call { callee := .builtin .append, args := #[s, x], argTypes := #[t, t] })
    {base : Nat} {v : Value} {n : Nat} {xs : List Value} (hs : a.eval s = v) (hown : w.ownsRow base e size v n xs)
    {ad : Option Addr} {m c : Nat} {news : List Value} (hx : a.eval x = .slice ad m c) (hsrc : Src w ad m size news) (h1 : ∀ u ∈ news, u.oneCell' = true)
    (h63 : n + m ≤ maxLen) (hbytes : (n + m) * bytes ≤ 140737488355328) (hbase : base ≤ w.heap.size)
    (h : ∀ v' w', w'.ownsRow base e size v' (n + m) (xs ++ news) → Grew w w' v v' → wpList P ops Q rest (a.put o.dst v') w') :
    wpList P ops Q (o :: rest) a w := by
  refine wpList_plain hgd fun K hK => ?_
  obtain ⟨v', w', hr, h2, h3⟩ := run_append_src E w base o.type v n xs hown ad m c news hsrc h1 h63 hbytes hbase
  unfold Oper.wp execOp
  simp only [ho, resolve, invoke, builtin, Sem.run_bind, Sem.run_pure, Result.andThen_ok, List.map_toArray, List.map_cons, List.map_nil, hs, hx, hr]
  exact hK _ _ (h v' w' h2 h3)
end

theorem src_one_new (w : World) (x : Value) (t : TypeId) : Src (w.alloc (.cells #[x] t)) (some ⟨w.heap.size, 0, none⟩) 1 1 [x] :=
  ⟨rfl, fun j u hu => ⟨_, rfl, by simp, cell_one_new w x t j u hu⟩⟩
end Go.Proofs.YtcpafmndjcejjaaGreatDoor

namespace Go.Proofs.YtcpafmndjcejjaaGreatDoor
open Go.RowKit Go
set_option linter.unusedVariables false

theorem iFmtU_small (i : Nat) (h : i < 100) (w : World) : Calls Tryz.prog 90 #[.int .u64 (i : Int), .int .i64 10] w fun e w' => e = .returned (.string ⟨(Lib.decDigits i).toArray⟩) ∧ w' = w := by
  have hc := Tryz.internal_strconv_small i h w
  generalize Lib.decDigits i = s at *
  have hi : (i : Int) < 100 := by omega
  have e1 : IntKind.i64.wrap (i : Int) = (i : Int) := by rw [IntKind.wrap_i64]; omega
  have Hc := Lib.hid hc
  clear hc
  go_enter Tryz.func90, Tryz.ntmps90
  go_wp2_with fail
  refine Hc.out.mono ?_
  rintro e w' ⟨rfl, rfl⟩
  go_wp2_with fail
  go_ret
  exact ⟨rfl, rfl⟩
theorem fmtU_small (i : Nat) (h : i < 100) (w : World) : Calls Tryz.prog 57 #[.int .u64 (i : Int), .int .i64 10] w fun e w' => e = .returned (.string ⟨(Lib.decDigits i).toArray⟩) ∧ w' = w := by
  have hc := iFmtU_small i h w
  generalize Lib.decDigits i = s at *
  have Hc := Lib.hid hc
  clear hc
  go_enter Tryz.func57, Tryz.ntmps57
  go_wp2_with fail
  refine Hc.out.mono ?_
  rintro e w' ⟨rfl, rfl⟩
  go_wp2_with fail
  go_ret
  exact ⟨rfl, rfl⟩
/-- an own row of strings -/
def encSs (L : List ByteArray) : List Value := L.map Value.string
def OwnS (w : World) (base : Nat) (v : Value) (L : List ByteArray) : Prop := w.ownsRow base 9 1 v L.length (encSs L)
theorem strE : EI Tryz.prog 76 9 1 16 := EI.mk' (z := .string ⟨#[]⟩) Tryz.underlying76 (by kernel_rfl) rfl (by decide)
theorem OwnS.nil (w : World) (base : Nat) : OwnS w base (.slice none 0 0) [] := World.ownsRow_nil w base _ 1
theorem OwnS.later {w w' : World} {base : Nat} {v : Value} {L : List ByteArray} (h : OwnS w base v L) (hb : Below w.heap.size w w') : OwnS w' base v L := own_later h hb
theorem OwnS.snoc {w : World} {B : Nat} {v : Value} {L : List ByteArray} {s : ByteArray} (h : w.ownsRow B 9 1 v (L.length + 1) (encSs L ++ [.string s])) : OwnS w B v (L ++ [s]) := by
  show w.ownsRow _ _ _ _ _ _
  rw [List.length_append, encSs, List.map_append]
  exact h
theorem OwnS.one {w : World} {B : Nat} {v : Value} {L : List ByteArray} (h : OwnS w B v L) (hl : 1 ≤ L.length) :
    ∃ g c, v = .slice (some ⟨g, 0, none⟩) L.length c ∧ B ≤ g ∧ g < w.heap.size ∧ L.length ≤ c ∧ c ≤ maxLen ∧ ∀ (j : Nat) x, L[j]? = some x → w.cell? ⟨g, j, none⟩ = some (.string x) := by
  rcases h.2 with ⟨rfl, h0⟩ | ⟨g, cap, cur, rfl, hb, hg, hc, hm, hs, ht⟩
  · omega
  · refine ⟨g, cap, rfl, hb, lt_of_block hg, hc, hm, fun j x hx => ?_⟩
    have hj : j < L.length := by
      rcases Nat.lt_or_ge j L.length with h | h
      · exact h
      · rw [List.getElem?_eq_none h] at hx; cases hx
    rw [cell_of_row w g _ _ _ _ hg]
    have h2 : (encSs L)[j]? = some (.string x) := by simp [encSs, hx]
    rw [← ht, List.getElem?_take, if_pos (by omega), Array.getElem?_toList] at h2
    exact h2
set_option maxRecDepth 100000 in
set_option maxHeartbeats 1000000 in
theorem textOf_one (w : World) : Calls Tryz.prog 25 #[.agg #[.bool false, .int .u64 0, .int .u64 1]] w (Ret (.string ⟨#[48, 46, 48, 46, 48, 46, 49]⟩) w) := by
  have h0 := fun w => fmtU_small 0 (by decide) w
  have h1 := fun w => fmtU_small 1 (by decide) w
  rw [show Lib.decDigits 0 = [48] by rw [Lib.decDigits]; rfl] at h0
  rw [show Lib.decDigits 1 = [49] by rw [Lib.decDigits]; rfl] at h1
  have H0 := Lib.hid h0
  have H1 := Lib.hid h1
  clear h0 h1
  have b0 : Go.bits .and .u64 0 255 = 0 := by decide
  have b1 : Go.bits .and .u64 1 255 = 1 := by decide
  have HP : Hid (Blk (w.alloc (.cells #[.bool false, .int .u64 0, .int .u64 1] 29 (0, 0))) w.heap.size 29 #[.bool false, .int .u64 0, .int .u64 1]) := Lib.hid (Blk.new w _ _)
  have HB : Hid (Below w.heap.size w (w.alloc (.cells #[.bool false, .int .u64 0, .int .u64 1] 29 (0, 0)))) := Lib.hid (below_alloc (Below.refl _ _) _)
  go_enter Tryz.func25, Tryz.ntmps25
  go_upto_region 1 with fail
  generalize w.alloc (.cells #[.bool false, .int .u64 0, .int .u64 1] 29 (0, 0)) = w0 at *
  have p0 := HP.out.cell 0
  simp at p0
  go_wp2
  go_loopw [3, 4, 14] (fun v iv i wr => ∃ k : Nat, k ≤ 4 ∧ i = .int .i64 k ∧ Hid (OwnS wr w0.heap.size v (([⟨#[48]⟩, ⟨#[48]⟩, ⟨#[48]⟩, ⟨#[49]⟩] : List ByteArray).take k)) ∧ Hid (Below w0.heap.size w0 wr)) (fun _ _ i _ => 4 - (intOf i).toNat)
  case atStart => exact ⟨0, Nat.zero_le _, rfl, Lib.hid (OwnS.nil _ _), Lib.hid (Below.refl _ _)⟩
  case round =>
    clear p0
    obtain ⟨k, hk, rfl, HO, HBr⟩ := hrel
    have p2 := (HP.out.below HBr.out HP.out.lt).cell 2
    simp at p2
    by_cases hlt : k < 4
    · have hk4 : k = 0 ∨ k = 1 ∨ k = 2 ∨ k = 3 := by omega
      rcases hk4 with rfl | rfl | rfl | rfl
      all_goals
        go_wp2_with fail
        first
          | (refine (H0.out _).mono ?_)
          | (refine (H1.out _).mono ?_)
        rintro e w' ⟨rfl, rfl⟩
        go_wp2_with (at_builtin; refine wpList_app strE rfl (.tmp 17) (.tmp 26) rfl rfl (World.ownsRow.alloc HO.out _) rfl (src_one_new _ _ _) ?c1 ?c2 ?c3 ?c4 ?_)
        case c1 => first | rfl | (intro u hu; simp at hu; subst hu; rfl)
        case c2 => unfold maxLen; simp
        case c3 => simp
        case c4 => have := HBr.out.size; simp; omega
        intro v' w2 hO hG
        have HO' := Lib.hid (OwnS.snoc hO)
        have HB' : Hid (Below w0.heap.size w0 w2) := Lib.hid ((Below.alloc HBr.out HBr.out.size _).trans (hG.below (by have := HBr.out.size; simp; omega) (own_base HO.out)))
        clear hO hG p2
        go_wp2
        exact ⟨⟨_, by decide, rfl, HO', HB'⟩, by simp [intOf]⟩
    · obtain rfl : k = 4 := by omega
      obtain ⟨g, c, hv, _, hg, hc, _, hcell⟩ := HO.out.one (by decide)
      rw [show (([⟨#[48]⟩, ⟨#[48]⟩, ⟨#[48]⟩, ⟨#[49]⟩] : List ByteArray).take 4) = [⟨#[48]⟩, ⟨#[48]⟩, ⟨#[48]⟩, ⟨#[49]⟩] from rfl] at hcell
      have hv' : u3 = .slice (some ⟨g, 0, none⟩) 4 c := hv
      have hc' : 4 ≤ c := hc
      clear hv hc
      subst hv'
      have hJ := Tryz.strings_Join g 0 c [⟨#[48]⟩, ⟨#[48]⟩, ⟨#[48]⟩, ⟨#[49]⟩] ⟨#[46]⟩ wr (fun j x hx => by rw [Nat.zero_add]; exact hcell j x hx) hg (by decide) hc' (by decide)
      rw [show (⟨(Lib.join (([⟨#[48]⟩, ⟨#[48]⟩, ⟨#[48]⟩, ⟨#[49]⟩] : List ByteArray).map (·.data.toList)) (⟨#[46]⟩ : ByteArray).data.toList).toArray⟩ : ByteArray) = ⟨#[48, 46, 48, 46, 48, 46, 49]⟩ by decide] at hJ
      have HJ := Lib.hid hJ
      clear hJ hcell p2
      go_wp2_with fail
      refine HJ.out.mono ?_
      rintro e w' ⟨rfl, hb⟩
      go_wp2_with fail
      go_ret
      exact ⟨rfl, HB.out.trans ((HBr.out.trans (hb.mono HBr.out.size)).mono HB.out.size)⟩
set_option maxRecDepth 100000 in
theorem addressed_any (w : World) : Calls Tryz.prog 10 #[] w (Ret (.bool true) w) := by
  have hT : ∀ w, Calls Tryz.prog 32 #[.agg #[.bool false, .int .u64 0, .int .u64 1]] w (Ret (.tuple #[.string ⟨#[48, 46, 48, 46, 48, 46, 49]⟩, .int .i64 0]) w) := fun w => by
    have HC := Lib.hid fun wx => checkAddr_any false 0 1 wx ⟨by decide, by decide⟩ ⟨by decide, by decide⟩
    have HT := Lib.hid fun wx => textOf_one wx
    have HP : Hid (Blk (w.alloc (.cells #[.bool false, .int .u64 0, .int .u64 1] 29 (0, 0))) w.heap.size 29 #[.bool false, .int .u64 0, .int .u64 1]) := Lib.hid (Blk.new w _ _)
    have HB : Hid (Below w.heap.size w (w.alloc (.cells #[.bool false, .int .u64 0, .int .u64 1] 29 (0, 0)))) := Lib.hid (below_alloc (Below.refl _ _) _)
    go_enter Tryz.func32, Tryz.ntmps32
    go_upto_region 1 with fail
    generalize w.alloc (.cells #[.bool false, .int .u64 0, .int .u64 1] 29 (0, 0)) = w0 at *
    have p0 := HP.out.cell 0
    have p1 := HP.out.cell 1
    have p2 := HP.out.cell 2
    simp at p0 p1 p2
    go_wp2_with fail
    refine (HC.out _).mono ?_
    rintro e w' ⟨rfl, o, rfl⟩
    have q0 := (HP.out.alloc o).cell 0
    have q1 := (HP.out.alloc o).cell 1
    have q2 := (HP.out.alloc o).cell 2
    simp at q0 q1 q2
    have ha : aFault false 0 1 = 0 := by decide
    go_wp2_with fail
    refine (HT.out _).mono ?_
    rintro e w2 ⟨rfl, hb⟩
    go_wp2_with fail
    go_ret2
    exact ⟨rfl, (below_alloc HB.out o).trans (hb.mono (by have := HB.out.size; simp; omega))⟩
  have HT := Lib.hid hT
  clear hT
  go_enter Tryz.func10, Tryz.ntmps10
  go_wp2_with fail
  refine (HT.out _).mono ?_
  rintro e w2 ⟨rfl, hb⟩
  go_wp2
  go_ret
  exact ⟨rfl, hb⟩
end Go.Proofs.YtcpafmndjcejjaaGreatDoor

namespace Go.Proofs.YtcpafmndjcejjaaGreatDoor
open Go.RowKit Go Go.Sort
set_option linter.unusedVariables false

theorem tab_below {w w' : World} {name : String} {k : IntKind} {zs : List Int} (h : Lib.TabIs Tryz.prog w name k zs) (hb : Below w.heap.size w w') : Lib.TabIs Tryz.prog w' name k zs := by
  unfold Lib.TabIs World.var? at *
  cases hg : Tryz.prog.globalNamed name with
  | none => simp [hg] at h
  | some g =>
    simp only [hg, Option.bind_some] at h ⊢
    have hlt : g < w.heap.size := by
      rcases Nat.lt_or_ge g w.heap.size with h' | h'
      · exact h'
      · rw [Array.getElem?_eq_none h'] at h; simp at h
    rw [hb.block g hlt]
    exact h
theorem below_grow {B : Nat} {u w : World} (h : Below B u w) (hB : B ≤ w.heap.size) (k : Nat) (os : Array Obj) : Below B u (grow (w.drewN k) os) :=
  ⟨h.os, h.tape, h.output, Nat.le_trans h.size (by show w.heap.size ≤ (w.heap ++ os).size; simp), fun i hi => (Lib.heap_grow_old w k os i (Nat.lt_of_lt_of_le hi hB)).trans (h.block i hi)⟩
/-- the two tables that numerals read -/
def Tabs (w : World) : Prop := Lib.TabIs Tryz.prog w "internal/strconv.uint64pow10" .u64 Lib.pow10Tab ∧ T16 w
theorem Tabs.below {w w' : World} (h : Tabs w) (hb : Below w.heap.size w w') : Tabs w' := ⟨tab_below h.1 hb, h.2.below hb⟩
set_option maxRecDepth 100000 in
set_option maxHeartbeats 2000000 in
theorem iFmtU_big (u : Nat) (h1 : 100 ≤ u) (h2 : u < 18446744073709551616) (w : World) (htab : Lib.TabIs Tryz.prog w "internal/strconv.uint64pow10" .u64 Lib.pow10Tab) :
    Calls Tryz.prog 90 #[.int .u64 (u : Int), .int .i64 10] w (Ret (.string ⟨(Lib.decDigits u).toArray⟩) w) := by
  have hu64 : u < 18446744073709551616 := by omega
  have hnd20 : Lib.nDigits u ≤ 20 := by have := Lib.numDigits_eq u (by omega) hu64; split at this <;> omega
  have hal : Tryz.prog.arrayLen 142 = 24 := by kernel_rfl
  have hsl : ∀ W, (Instr.sliceAt 142 (.pointer (some ⟨w.heap.size, 0, none⟩)) none (some (.int .i64 (Lib.nDigits u : Int))) none).run Tryz.prog W = .ok (.slice (some ⟨w.heap.size, 0, none⟩) (Lib.nDigits u) 24) W := fun W => by
    rw [run_sliceAt_array_h W 142 ⟨w.heap.size, 0, none⟩ (by kernel_rfl) .i64 (Lib.nDigits u : Int) (by omega) (by rw [hal]; omega)]
    go_simp
  have hH0 := Lib.holds_zero0 w 142 (Lib.nDigits u) (by omega)
  have hfmt := Tryz.internal_strconv_formatBase10 w.heap.size 0 24 u (Array.replicate (Lib.nDigits u) 0) (w.alloc (.cells Lib.zeros24 142)) hH0 (by rw [Array.size_replicate]; exact Lib.lt_pow_nDigits u) hu64 (by rw [Array.size_replicate]; omega)
  rw [Array.size_replicate] at hfmt
  unfold Lib.zeros24 at hfmt hH0
  have HH0 := Lib.hid hH0
  have Hfmt := Lib.hid hfmt
  have Hnd := Lib.hid (Tryz.internal_strconv_numDigits u (by omega) hu64 (w.alloc (.cells #[.int .u8 0, .int .u8 0, .int .u8 0, .int .u8 0, .int .u8 0, .int .u8 0, .int .u8 0, .int .u8 0, .int .u8 0, .int .u8 0, .int .u8 0, .int .u8 0, .int .u8 0, .int .u8 0, .int .u8 0, .int .u8 0, .int .u8 0, .int .u8 0, .int .u8 0, .int .u8 0, .int .u8 0, .int .u8 0, .int .u8 0, .int .u8 0] 142)) (Lib.tabIs_alloc htab _))
  have hu3 : ¬ (u : Int) < 100 := by omega
  clear hH0 hal hfmt htab
  go_enter Tryz.func90, Tryz.ntmps90
  go_wp2_with fail
  refine Hnd.out.mono ?_
  rintro e w' ⟨rfl, rfl⟩
  clear Hnd
  go_wp2_with fail
  refine Hfmt.out.mono ?_
  rintro e w' ⟨rfl, k, v', dk, rfl, hF⟩
  have hcv : (convert 65 9 (.slice (some ⟨w.heap.size, 0, none⟩) (Lib.nDigits u) 24)).run Tryz.prog ((putRow (fun (b : UInt8) => Value.int .u8 (b.toNat : Int)) (w.alloc (.cells #[.int .u8 0, .int .u8 0, .int .u8 0, .int .u8 0, .int .u8 0, .int .u8 0, .int .u8 0, .int .u8 0, .int .u8 0, .int .u8 0, .int .u8 0, .int .u8 0, .int .u8 0, .int .u8 0, .int .u8 0, .int .u8 0, .int .u8 0, .int .u8 0, .int .u8 0, .int .u8 0, .int .u8 0, .int .u8 0, .int .u8 0, .int .u8 0] 142)) w.heap.size 0 dk).drewN k) = .ok (.string ⟨(Lib.decDigits u).toArray⟩) ((putRow (fun (b : UInt8) => Value.int .u8 (b.toNat : Int)) (w.alloc (.cells #[.int .u8 0, .int .u8 0, .int .u8 0, .int .u8 0, .int .u8 0, .int .u8 0, .int .u8 0, .int .u8 0, .int .u8 0, .int .u8 0, .int .u8 0, .int .u8 0, .int .u8 0, .int .u8 0, .int .u8 0, .int .u8 0, .int .u8 0, .int .u8 0, .int .u8 0, .int .u8 0, .int .u8 0, .int .u8 0, .int .u8 0, .int .u8 0] 142)) w.heap.size 0 dk).drewN k) := by
    have h := run_convert_bytes_back (P := Tryz.prog) ((putRow (fun (b : UInt8) => Value.int .u8 (b.toNat : Int)) (w.alloc (.cells #[.int .u8 0, .int .u8 0, .int .u8 0, .int .u8 0, .int .u8 0, .int .u8 0, .int .u8 0, .int .u8 0, .int .u8 0, .int .u8 0, .int .u8 0, .int .u8 0, .int .u8 0, .int .u8 0, .int .u8 0, .int .u8 0, .int .u8 0, .int .u8 0, .int .u8 0, .int .u8 0, .int .u8 0, .int .u8 0, .int .u8 0, .int .u8 0] 142)) w.heap.size 0 dk).drewN k) 65 9 5 ⟨w.heap.size, 0, none⟩ 24 (Lib.decDigits u) (by kernel_rfl) (by kernel_rfl) (by kernel_rfl) (fun j hj => by
      rw [Lib.row_is_numeral hF j hj, Lib.add_plain, World.cell?_drewN]
      exact cell?_putRow (fun (b : UInt8) => Value.int .u8 (b.toNat : Int)) _ w.heap.size 0 _ dk HH0.out (by rw [hF.size, Array.size_replicate]) j (by rw [hF.size]; rw [Lib.decDigits_length] at hj; exact hj))
    rw [Lib.decDigits_length] at h
    exact h
  obtain ⟨os, eo⟩ := Lib.fin_at w (.cells #[.int .u8 0, .int .u8 0, .int .u8 0, .int .u8 0, .int .u8 0, .int .u8 0, .int .u8 0, .int .u8 0, .int .u8 0, .int .u8 0, .int .u8 0, .int .u8 0, .int .u8 0, .int .u8 0, .int .u8 0, .int .u8 0, .int .u8 0, .int .u8 0, .int .u8 0, .int .u8 0, .int .u8 0, .int .u8 0, .int .u8 0, .int .u8 0] 142) dk k 0
  have HB : Hid (Below w.heap.size w ((putRow (fun (b : UInt8) => Value.int .u8 (b.toNat : Int)) (w.alloc (.cells #[.int .u8 0, .int .u8 0, .int .u8 0, .int .u8 0, .int .u8 0, .int .u8 0, .int .u8 0, .int .u8 0, .int .u8 0, .int .u8 0, .int .u8 0, .int .u8 0, .int .u8 0, .int .u8 0, .int .u8 0, .int .u8 0, .int .u8 0, .int .u8 0, .int .u8 0, .int .u8 0, .int .u8 0, .int .u8 0, .int .u8 0, .int .u8 0] 142)) w.heap.size 0 dk).drewN k)) := Lib.hid (by rw [eo]; exact below_grow (Below.refl _ _) (Nat.le_refl _) _ _)
  clear eo hF HH0 Hfmt
  go_wp2
  go_ret
  exact ⟨rfl, HB.out⟩
theorem fmtU10_any (u : Nat) (h2 : u < 18446744073709551616) (w : World) (htab : Lib.TabIs Tryz.prog w "internal/strconv.uint64pow10" .u64 Lib.pow10Tab) :
    Calls Tryz.prog 57 #[.int .u64 (u : Int), .int .i64 10] w (Ret (.string ⟨(Lib.decDigits u).toArray⟩) w) := by
  rcases Nat.lt_or_ge u 100 with h | h
  · refine (fmtU_small u h w).mono ?_
    rintro e w' ⟨rfl, rfl⟩
    exact ⟨rfl, Below.refl _ _⟩
  · have H := Lib.hid (iFmtU_big u h h2 w htab)
    generalize Lib.decDigits u = s at *
    clear htab
    go_enter Tryz.func57, Tryz.ntmps57
    go_wp2_with fail
    refine H.out.mono ?_
    rintro e w' ⟨rfl, hb⟩
    go_wp2_with fail
    go_ret
    exact ⟨rfl, hb⟩
theorem itoa_any (u : Nat) (h2 : u < 1000) (w : World) (htab : Lib.TabIs Tryz.prog w "internal/strconv.uint64pow10" .u64 Lib.pow10Tab) :
    Calls Tryz.prog 50 #[.int .i64 (u : Int)] w (Ret (.string ⟨(Lib.decDigits u).toArray⟩) w) := by
  refine (Tryz.strconv_Itoa (u : Int) (by omega) (by omega) w htab).mono ?_
  rintro e w' ⟨rfl, k, os, rfl⟩
  exact ⟨by rw [Lib.itoa_nonneg], below_grow (Below.refl _ _) (Nat.le_refl _) _ _⟩
theorem bits_any (u : Nat) (w : World) (hu : u < 65536) (h : T16 w) : Calls Tryz.prog 123 #[.slice none 0 0, .int .u64 (u : Int), .int .i64 16, .bool false, .bool false] w (Ret (.tuple #[.slice none 0 0, .string (hexS u)]) w) := by
  rcases Nat.lt_or_ge u 16 with h1 | h1
  · exact bits1_any u w (by omega) h1 h
  rcases Nat.lt_or_ge u 256 with h2 | h2
  · exact bits2_any u w h1 h2 h
  rcases Nat.lt_or_ge u 4096 with h3 | h3
  · exact bits3_any u w h2 h3 h
  · exact bits4_any u w h3 hu h
theorem iFmtU16_any (u : Nat) (w : World) (hu : u < 65536) (h : T16 w) : Calls Tryz.prog 90 #[.int .u64 (u : Int), .int .i64 16] w (Ret (.string (hexS u)) w) := by
  have H := Lib.hid fun wx (hb : Below w.heap.size w wx) => bits_any u wx hu (h.below hb)
  generalize hexS u = s at *
  clear h
  go_enter Tryz.func90, Tryz.ntmps90
  go_wp2_with fail
  refine (H.out _ (by first | exact Below.refl _ _ | exact below_alloc (Below.refl _ _) _)).mono ?_
  rintro e w' ⟨rfl, hb⟩
  go_wp2_with fail
  go_ret
  exact ⟨rfl, by first | exact hb | exact (below_alloc (Below.refl _ _) _).trans (hb.mono (by simp))⟩
theorem fmtU16_any (u : Nat) (w : World) (hu : u < 65536) (h : T16 w) : Calls Tryz.prog 57 #[.int .u64 (u : Int), .int .i64 16] w (Ret (.string (hexS u)) w) := by
  have H := Lib.hid (iFmtU16_any u w hu h)
  generalize hexS u = s at *
  clear h
  go_enter Tryz.func57, Tryz.ntmps57
  go_wp2_with fail
  refine H.out.mono ?_
  rintro e w' ⟨rfl, hb⟩
  go_wp2_with fail
  go_ret
  exact ⟨rfl, hb⟩
theorem iFmtI16_any (u : Nat) (w : World) (hu : u < 65536) (h : T16 w) : Calls Tryz.prog 88 #[.int .i64 (u : Int), .int .i64 16] w (Ret (.string (hexS u)) w) := by
  have H := Lib.hid fun wx (hb : Below w.heap.size w wx) => bits_any u wx hu (h.below hb)
  generalize hexS u = s at *
  have e1 : IntKind.u64.wrap (u : Int) = (u : Int) := by rw [IntKind.wrap_u64]; omega
  have e2 : ¬ (u : Int) < 0 := by omega
  clear h
  go_enter Tryz.func88, Tryz.ntmps88
  go_wp2_with fail
  refine (H.out _ (by first | exact Below.refl _ _ | exact below_alloc (Below.refl _ _) _)).mono ?_
  rintro e w' ⟨rfl, hb⟩
  go_wp2_with fail
  go_ret
  exact ⟨rfl, by first | exact hb | exact (below_alloc (Below.refl _ _) _).trans (hb.mono (by simp))⟩
theorem fmtI16_any (u : Nat) (w : World) (hu : u < 65536) (h : T16 w) : Calls Tryz.prog 53 #[.int .i64 (u : Int), .int .i64 16] w (Ret (.string (hexS u)) w) := by
  have H := Lib.hid (iFmtI16_any u w hu h)
  generalize hexS u = s at *
  clear h
  go_enter Tryz.func53, Tryz.ntmps53
  go_wp2_with fail
  refine H.out.mono ?_
  rintro e w' ⟨rfl, hb⟩
  go_wp2_with fail
  go_ret
  exact ⟨rfl, hb⟩
end Go.Proofs.YtcpafmndjcejjaaGreatDoor

namespace Go.Proofs.YtcpafmndjcejjaaGreatDoor
open Go.RowKit Go
set_option linter.unusedVariables false

theorem addrEq (s1 s2 : Bool) (h1 h2 l1 l2 : Int) (d : Nat) (w : World) : (Op.equalIn (d + 2) 29 (.agg #[.bool s1, .int .u64 h1, .int .u64 l1]) (.agg #[.bool s2, .int .u64 h2, .int .u64 l2])).run Tryz.prog w = .ok (decide ((s1, h1, l1) = (s2, h2, l2))) w := by
  have u4 := Tryz.underlying4
  have a4 := Tryz.isAgg4
  have z4 := Tryz.sizeOf4
  have u27 := Tryz.underlying27
  have a27 := Tryz.isAgg27
  have z27 := Tryz.sizeOf27
  have hS : Tryz.prog.underlying 29 = some (.struct (Tryz.prog.fieldsOf 29)) := by kernel_rfl
  have hp : Tryz.prog.stoodInHeld 29 = false := by kernel_rfl
  rw [run_equalIn_agg w (d + 1) 29 _ _ hS hp]
  simp only [Program.fieldsOf, Tryz.underlying29]
  go_simp
  cases s1 <;> cases s2 <;> by_cases e1 : h1 = h2 <;> by_cases e2 : l1 = l2 <;> simp [e1, e2]
theorem pfxEq (s1 s2 : Bool) (h1 h2 l1 l2 b1 b2 : Int) (w : World) : (Op.equalIn 10000 45 (.agg #[.bool s1, .int .u64 h1, .int .u64 l1, .int .i64 b1]) (.agg #[.bool s2, .int .u64 h2, .int .u64 l2, .int .i64 b2])).run Tryz.prog w = .ok (decide ((s1, h1, l1, b1) = (s2, h2, l2, b2))) w := by
  have hA := addrEq s1 s2 h1 h2 l1 l2 9997
  have u3 := Tryz.underlying3
  have a3 := Tryz.isAgg3
  have z3 := Tryz.sizeOf3
  have a29 := Tryz.isAgg29
  have z29 := Tryz.sizeOf29
  have hS : Tryz.prog.underlying 45 = some (.struct (Tryz.prog.fieldsOf 45)) := by kernel_rfl
  have hp : Tryz.prog.stoodInHeld 45 = false := by kernel_rfl
  rw [show (10000 : Nat) = 9999 + 1 from rfl, run_equalIn_agg w 9999 45 _ _ hS hp]
  simp only [Program.fieldsOf, Tryz.underlying45]
  simp only [show (9997 : Nat) + 2 = 9999 from rfl] at hA
  go_simp
  cases s1 <;> cases s2 <;> by_cases e1 : h1 = h2 <;> by_cases e2 : l1 = l2 <;> by_cases e3 : b1 = b2 <;> simp [e1, e2, e3]
theorem pfx_neq (s1 s2 : Bool) (h1 h2 l1 l2 b1 b2 : Int) (w : World) : (binOp .neq 45 (.agg #[.bool s1, .int .u64 h1, .int .u64 l1, .int .i64 b1]) (.agg #[.bool s2, .int .u64 h2, .int .u64 l2, .int .i64 b2])).run Tryz.prog w = .ok (.bool (!decide ((s1, h1, l1, b1) = (s2, h2, l2, b2)))) w := by
  rw [run_neq_struct, pfxEq]; rfl
end Go.Proofs.YtcpafmndjcejjaaGreatDoor

namespace Go.Proofs.YtcpafmndjcejjaaGreatDoor
open Go
set_option linter.unusedVariables false

/-! ### Digits -/
def PW (F : Nat → Nat) : Nat → Nat
  | 0 => 0
  | k + 1 => PW F k + F k * 65536 ^ k
theorem PW_lt {F : Nat → Nat} (h : ∀ d, F d < 65536) : ∀ k, PW F k < 65536 ^ k
  | 0 => by simp [PW]
  | k + 1 => by
    have h1 := PW_lt h k
    have h2 := h k
    have h3 : F k * 65536 ^ k ≤ 65535 * 65536 ^ k := Nat.mul_le_mul_right _ (by omega)
    rw [PW, Nat.pow_succ]
    omega
theorem PW_digit {F G : Nat → Nat} (hF : ∀ d, F d < 65536) {i : Nat} (h : F i < G i) : PW F (i + 1) < PW G (i + 1) := by
  have h1 := PW_lt hF i
  have h2 : (F i + 1) * 65536 ^ i ≤ G i * 65536 ^ i := Nat.mul_le_mul_right _ h
  rw [Nat.add_mul, Nat.one_mul] at h2
  simp only [PW]
  omega
theorem PW_above {F G : Nat → Nat} {i : Nat} : ∀ k, (∀ j, i ≤ j → j < i + k → F j = G j) → PW F (i + k) + PW G i = PW G (i + k) + PW F i
  | 0, _ => by simp only [Nat.add_zero]; omega
  | k + 1, h => by
    have h1 := PW_above k fun j h1 h2 => h j h1 (by omega)
    have h2 := h (i + k) (by omega) (by omega)
    rw [← Nat.add_assoc, PW, PW, h2]
    omega
/-- compared -/
def cN (a b : Nat) : Int := if a < b then -1 else if b < a then 1 else 0
theorem cN_le (a b : Nat) : (cN a b ≤ 0) ↔ a ≤ b := by unfold cN; split <;> (try split) <;> omega
theorem cmp_top {F G : Nat → Nat} (hF : ∀ d, F d < 65536) (hG : ∀ d, G d < 65536) {i : Nat} (hi : i < 9) (hab : ∀ j, i < j → j < 9 → F j = G j) (hne : F i ≠ G i) : cN (PW F 9) (PW G 9) = if F i < G i then -1 else 1 := by
  have h1 := PW_above (F := F) (G := G) (i := i + 1) (9 - (i + 1)) fun j h1 h2 => hab j (by omega) (by omega)
  rw [show i + 1 + (9 - (i + 1)) = 9 by omega] at h1
  unfold cN
  rcases Nat.lt_or_ge (F i) (G i) with h | h
  · have := PW_digit hF h
    rw [if_pos h, if_pos (show PW F 9 < PW G 9 by omega)]
  · have := PW_digit hG (show G i < F i by omega)
    rw [if_neg (show ¬ F i < G i by omega), if_neg (show ¬ PW F 9 < PW G 9 by omega), if_pos (show PW G 9 < PW F 9 by omega)]
theorem PW_congr {F G : Nat → Nat} : ∀ k, (∀ j, j < k → F j = G j) → PW F k = PW G k
  | 0, _ => rfl
  | k + 1, h => by rw [PW, PW, PW_congr k fun j hj => h j (by omega), h k (by omega)]
theorem cN_same (a : Nat) : cN a a = 0 := by unfold cN; rw [if_neg (Nat.lt_irrefl a), if_neg (Nat.lt_irrefl a)]
theorem cmp_same {F G : Nat → Nat} (hab : ∀ j, j < 9 → F j = G j) : cN (PW F 9) (PW G 9) = 0 := by
  rw [PW_congr 9 hab, cN_same]
def dv (six : Bool) (f : Nat → Nat) (d : Nat) : Nat := if d < 8 then f d else if six = true then 1 else 0
theorem dv_lt {six : Bool} {f : Nat → Nat} (h : ∀ d, f d < 65536) (d : Nat) : dv six f d < 65536 := by
  unfold dv; split
  · exact h d
  · split <;> decide
def numA (six : Bool) (hi lo : Nat) : Nat := (if six = true then 1 else 0) * 2 ^ 128 + hi * 2 ^ 64 + lo
theorem PW_num (six : Bool) (f : Nat → Nat) : PW (dv six f) 9 = numA six (PS f 4 4) (PS f 0 4) := by
  rw [PS_four, PS_four]
  simp only [PW, dv, numA, Nat.reduceLT, Nat.reducePow, Nat.reduceAdd, if_true, Nat.zero_add, Nat.mul_one, Nat.lt_irrefl, if_false]
  omega
/-! ### Masks of whole numbers -/
theorem big_low (x y k : Nat) (hk : k ≤ 64) : (x + 2 ^ 64 * y) % 2 ^ k = x % 2 ^ k := by
  have e : 2 ^ 64 = 2 ^ k * 2 ^ (64 - k) := by rw [← Nat.pow_add, show k + (64 - k) = 64 by omega]
  rw [e, Nat.mul_assoc, Nat.add_mul_mod_self_left]
theorem big_high (x y k : Nat) (hx : x < 2 ^ 64) (hk : 64 ≤ k) : (x + 2 ^ 64 * y) % 2 ^ k = x + 2 ^ 64 * (y % 2 ^ (k - 64)) := by
  have e : 2 ^ k = 2 ^ 64 * 2 ^ (k - 64) := by rw [← Nat.pow_add, show 64 + (k - 64) = k by omega]
  rw [e, Nat.mod_mul, Nat.add_mul_mod_self_left, Nat.mod_eq_of_lt hx, Nat.add_mul_div_left _ _ (by decide : 0 < 2 ^ 64), Nat.div_eq_of_lt hx, Nat.zero_add]
theorem clr_big (hi lo k : Nat) (hl : lo < 2 ^ 64) (hk : k ≤ 128) : clr hi (min (k - 64) 64) * 2 ^ 64 + clr lo (min k 64) = clr (hi * 2 ^ 64 + lo) k := by
  unfold clr
  rw [show hi * 2 ^ 64 + lo = lo + 2 ^ 64 * hi by omega]
  rcases Nat.le_total k 64 with h | h
  · rw [big_low lo hi k h, Nat.min_eq_left h, show k - 64 = 0 by omega, Nat.zero_min, Nat.pow_zero, Nat.mod_one]
    have := Nat.mod_le lo (2 ^ k)
    omega
  · rw [big_high lo hi k hl h, Nat.min_eq_right h, Nat.min_eq_left (by omega), Nat.mod_eq_of_lt hl]
    have := Nat.mod_le hi (2 ^ (k - 64))
    omega
theorem fil_big (hi lo k : Nat) (hl : lo < 2 ^ 64) (hk : k ≤ 128) : fil hi (min (k - 64) 64) * 2 ^ 64 + fil lo (min k 64) = fil (hi * 2 ^ 64 + lo) k := by
  unfold fil
  rw [show hi * 2 ^ 64 + lo = lo + 2 ^ 64 * hi by omega]
  rcases Nat.le_total k 64 with h | h
  · rw [big_low lo hi k h, Nat.min_eq_left h, show k - 64 = 0 by omega, Nat.zero_min, Nat.pow_zero, Nat.mod_one]
    have := Nat.mod_le lo (2 ^ k)
    omega
  · have e : 2 ^ k = 2 ^ 64 * 2 ^ (k - 64) := by rw [← Nat.pow_add, show 64 + (k - 64) = k by omega]
    rw [big_high lo hi k hl h, Nat.min_eq_right h, Nat.min_eq_left (by omega), Nat.mod_eq_of_lt hl, e]
    have := Nat.mod_le hi (2 ^ (k - 64))
    have := Nat.one_le_two_pow (n := k - 64)
    omega
/-! ### Prefixes -/
/-- a right address -/
def AOK (six : Bool) (hi lo : Nat) : Prop := hi < 2 ^ 64 ∧ lo < 2 ^ 64 ∧ (six = false → hi = 0 ∧ lo < 2 ^ 32)
/-- a right prefix of n bits -/
def POK (six : Bool) (hi lo n : Nat) : Prop := AOK six hi lo ∧ n ≤ lenN six ∧ mHi six hi n = hi ∧ mLo six lo n = lo
def xA (hi lo : Nat) : Nat := hi * 2 ^ 64 + lo
theorem mask_x (six : Bool) (hi lo n : Nat) (hl : lo < 2 ^ 64) : xA (mHi six hi n) (mLo six lo n) = clr (xA hi lo) (lenN six - n) := by
  rw [mHi_clr, mLo_clr]
  exact clr_big hi lo (lenN six - n) hl (by have := lenN_le six; omega)
theorem fill_x (six : Bool) (hi lo n : Nat) (hl : lo < 2 ^ 64) : xA (fHi six hi n) (fLo six lo n) = fil (xA hi lo) (lenN six - n) := by
  rw [fHi_fil, fLo_fil]
  exact fil_big hi lo (lenN six - n) hl (by have := lenN_le six; omega)
theorem numA_x (six : Bool) (hi lo : Nat) : numA six hi lo = (if six = true then 1 else 0) * 2 ^ 128 + xA hi lo := by
  unfold numA xA; omega
theorem AOK.lt {six : Bool} {hi lo : Nat} (h : AOK six hi lo) : xA hi lo < 2 ^ 128 ∧ (six = false → xA hi lo < 2 ^ 32) := by
  obtain ⟨h1, h2, h3⟩ := h
  unfold xA
  refine ⟨by omega, fun e => ?_⟩
  obtain ⟨h4, h5⟩ := h3 e
  omega
theorem POK.x {six : Bool} {hi lo n : Nat} (h : POK six hi lo n) : clr (xA hi lo) (lenN six - n) = xA hi lo := by
  rw [← mask_x six hi lo n h.1.2.1, h.2.2.1, h.2.2.2]
theorem mLo_lt2 (six : Bool) (lo n : Nat) (h : lo < 2 ^ 64) : mLo six lo n < 2 ^ 64 := Nat.lt_of_le_of_lt (Nat.sub_le _ _) h
theorem fHi_lt (six : Bool) (hi n : Nat) (h : hi < 2 ^ 64) : fHi six hi n < 2 ^ 64 := by
  rw [fHi_fil, fil_or]
  refine Nat.or_lt_two_pow (Nat.lt_of_le_of_lt (clr_le _ _) h) ?_
  have : 2 ^ min (lenN six - n - 64) 64 ≤ 2 ^ 64 := Nat.pow_le_pow_right (by decide) (Nat.min_le_right _ _)
  have := Nat.one_le_two_pow (n := min (lenN six - n - 64) 64)
  omega
theorem fLo_lt (six : Bool) (lo n : Nat) (h : lo < 2 ^ 64) : fLo six lo n < 2 ^ 64 := by
  rw [fLo_fil, fil_or]
  refine Nat.or_lt_two_pow (Nat.lt_of_le_of_lt (clr_le _ _) h) ?_
  have : 2 ^ min (lenN six - n) 64 ≤ 2 ^ 64 := Nat.pow_le_pow_right (by decide) (Nat.min_le_right _ _)
  have := Nat.one_le_two_pow (n := min (lenN six - n) 64)
  omega
/-- the last address of a right prefix is right -/
theorem POK.last {six : Bool} {hi lo n : Nat} (h : POK six hi lo n) : AOK six (fHi six hi n) (fLo six lo n) := by
  refine ⟨fHi_lt _ _ _ h.1.1, fLo_lt _ _ _ h.1.2.1, fun e => ?_⟩
  subst e
  obtain ⟨h1, h2⟩ := h.1.2.2 rfl
  subst h1
  have hn : n ≤ 32 := h.2.1
  constructor
  · rw [fHi_fil]
    have : min (lenN false - n - 64) 64 = 0 := by show min (32 - n - 64) 64 = 0; omega
    rw [this, fil_zero]
  · rw [fLo_fil, fil_or]
    have hk : min (lenN false - n) 64 ≤ 32 := by show min (32 - n) 64 ≤ 32; omega
    have h3 : 2 ^ min (lenN false - n) 64 ≤ 2 ^ 32 := Nat.pow_le_pow_right (by decide) hk
    have := Nat.one_le_two_pow (n := min (lenN false - n) 64)
    exact Nat.or_lt_two_pow (Nat.lt_of_le_of_lt (clr_le _ _) h2) (by omega)
theorem clr_mono (x j k : Nat) (h : j ≤ k) : clr (clr x j) k = clr x k := by
  refine Nat.eq_of_testBit_eq fun i => ?_
  rw [clr_tb, clr_tb, clr_tb]
  by_cases h1 : k ≤ i
  · simp [h1, show j ≤ i by omega]
  · simp [h1]
/-! ### What two prefixes have in common -/
def down (E : Nat → Bool) : Nat → Nat
  | 0 => 0
  | n + 1 => if E (n + 1) = true then n + 1 else down E n
theorem mask_pok {s : Bool} {h l : Nat} (ha : AOK s h l) {n : Nat} (hn : n ≤ lenN s) : POK s (mHi s h n) (mLo s l n) n := by
  refine ⟨⟨Nat.lt_of_le_of_lt (Nat.sub_le _ _) ha.1, mLo_lt2 _ _ _ ha.2.1, fun e => ?_⟩, hn, ?_, ?_⟩
  · obtain ⟨h1, h2⟩ := ha.2.2 e
    exact ⟨by unfold mHi; rw [h1]; simp, Nat.lt_of_le_of_lt (Nat.sub_le _ _) h2⟩
  · rw [mHi_clr, mHi_clr, clr_mono _ _ _ (Nat.le_refl _)]
  · rw [mLo_clr, mLo_clr, clr_mono _ _ _ (Nat.le_refl _)]
end Go.Proofs.YtcpafmndjcejjaaGreatDoor

namespace Go.Proofs.YtcpafmndjcejjaaGreatDoor
open Go.RowKit Go
set_option linter.unusedVariables false

def U64N (x : Nat) : Prop := x < 18446744073709551616
theorem mHi_lt {six : Bool} {hi n : Nat} (h : U64N hi) : U64N (mHi six hi n) := Nat.lt_of_le_of_lt (Nat.sub_le _ _) h
theorem mLo_lt {six : Bool} {lo n : Nat} (h : U64N lo) : U64N (mLo six lo n) := Nat.lt_of_le_of_lt (Nat.sub_le _ _) h
theorem nat_of_U64 {x : Int} (h : U64 x) : ∃ n : Nat, x = (n : Int) ∧ U64N n := by
  obtain ⟨n, rfl⟩ := Int.eq_ofNat_of_zero_le h.1
  have h1 := h.2
  exact ⟨n, rfl, by unfold U64N; omega⟩
theorem Gen.below0 {b m : Nat} {u v w : World} (h : Gen b u v m) (k : Below v.heap.size v w) (hb : b < v.heap.size) : Gen b u w m := h.below k h.g.size hb
/-- what a generator of prefixes gives -/
def PfxGen (b : Nat) (w : World) (m : Nat) (e : Ending) (w' : World) : Prop :=
  ∃ (six : Bool) (hi lo : Nat) (bits : Int), e = .returned (vP six hi lo bits) ∧ U64N hi ∧ U64N lo ∧ (-1099511627777 ≤ bits ∧ bits ≤ 1099511627777) ∧ Gen b w w' m
set_option maxRecDepth 100000 in
set_option maxHeartbeats 600000 in
theorem rightPrefix_gen (b m : Nat) (w : World) (h : Strm w b m) (hm : m + 10 < 1099511627776) :
    Calls Tryz.prog 71 #[.pointer (some ⟨b, 0, none⟩)] w (PfxGen b w (m + 5)) := by
  have hblt := h.lt
  have HG0 : Hid (Gen b w (w.alloc (.cells #[.bool false, .int .u64 0, .int .u64 0, .int .i64 0] 45 (0, 0))) m) := Lib.hid ((Gen.start h).alloc _)
  have HR0 : Hid (Blk (w.alloc (.cells #[.bool false, .int .u64 0, .int .u64 0, .int .i64 0] 45 (0, 0))) w.heap.size 45 #[.bool false, .int .u64 0, .int .u64 0, .int .i64 0]) := Lib.hid (Blk.new w _ _)
  clear h
  go_enter Tryz.func71, Tryz.ntmps71
  go_wp2_with fail
  refine (mAddr_gen b m _ HG0.out.s (by omega)).mono ?_
  rintro e w1 ⟨six, hi0, lo0, rfl, ⟨hu1, hu2, -⟩, hg⟩
  obtain ⟨hi, rfl, h1⟩ := nat_of_U64 hu1
  obtain ⟨lo, rfl, h2⟩ := nat_of_U64 hu2
  have HU := Lib.hid (And.intro h1 h2)
  have HG1 := Lib.hid ((HG0.out.trans hg).alloc (.cells #[.bool six, .int .u64 (hi : Int), .int .u64 (lo : Int)] 29 (0, 0)))
  have HR1 := Lib.hid ((HR0.out.keep hg.g (by omega)).alloc (.cells #[.bool six, .int .u64 (hi : Int), .int .u64 (lo : Int)] 29 (0, 0)))
  have HA1 : Hid (Blk (w1.alloc (.cells #[.bool six, .int .u64 (hi : Int), .int .u64 (lo : Int)] 29 (0, 0))) w1.heap.size 29 #[.bool six, .int .u64 (hi : Int), .int .u64 (lo : Int)]) := Lib.hid (Blk.new w1 _ _)
  have hw1 : w.heap.size < w1.heap.size := HR0.out.keep hg.g (by omega) |> Blk.lt
  clear hu1 hu2 h1 h2 hg HG0 HR0
  unfold vAddr
  go_upto_region 2 with fail
  generalize w1.alloc (.cells #[.bool six, .int .u64 (hi : Int), .int .u64 (lo : Int)] 29 (0, 0)) = w2 at *
  generalize w1.heap.size = F at *
  have key : ∀ (n : Nat) (wx : World), n ≤ 128 → Calls Tryz.prog 104 #[.agg #[.bool six, .int .u64 (hi : Int), .int .u64 (lo : Int)], .int .i64 (n : Int)] wx (Ret (vP six (mHi six hi n) (mLo six lo n) (n : Int)) wx) := fun n wx hn => maskOf_any six hi lo n wx HU.out.1 HU.out.2 hn
  have HK := Lib.hid key
  clear key
  go_wp2_with fail
  refine (pick_new b (m + 3) _ _ _ _ [0, 8, 24, 27, 28, 29, 30, 31, 32] _ HG1.out.s rfl (by omega) rfl (by decide) rfl).mono ?_
  rintro e w3 ⟨x, rfl, hx, hg⟩
  have hxb : 0 ≤ x ∧ x ≤ 128 := by simp at hx; omega
  obtain ⟨n, rfl⟩ := Int.eq_ofNat_of_zero_le hxb.1
  have hn : n ≤ 128 := by omega
  have HG3 := Lib.hid (HG1.out.trans hg)
  have HR3 := Lib.hid (HR1.out.keep hg.g (by omega))
  have HA3 := Lib.hid (HA1.out.keep hg.g (by omega))
  clear hx hxb hg HG1 HR1 HA1
  have a0 := HA3.out.cell 0
  have a1 := HA3.out.cell 1
  have a2 := HA3.out.cell 2
  simp at a0 a1 a2
  cases six
  · go_wp2_with fail
    refine (HK.out n _ hn).mono ?_
    rintro e w5 ⟨rfl, hb⟩
    have HG5 := Lib.hid (HG3.out.below0 hb HG3.out.s.lt)
    have HR5 := Lib.hid (HR3.out.below hb HR3.out.lt)
    have h1 : U64N (mHi false hi n) := mHi_lt HU.out.1
    have h2 : U64N (mLo false lo n) := mLo_lt HU.out.2
    generalize mHi false hi n = mh at *
    generalize mLo false lo n = ml at *
    have HU2 := Lib.hid (And.intro h1 h2)
    clear h1 h2 hb a0 a1 a2 HG3 HR3 HA3
    have r0 := HR5.out.cell 0
    have r1 := HR5.out.cell 1
    have r2 := HR5.out.cell 2
    have r3 := HR5.out.cell 3
    have rf := HR5.out.free
    simp at r0 r1 r2 r3
    unfold vP
    go_wp2_with fail
    refine bodyPost_ret (v := .agg #[.bool false, .int .u64 (mh : Int), .int .u64 (ml : Int), .int .i64 (n : Int)]) (by simp [results, Tryz.results71, go_sem, r0, r1, r2, r3]) rfl ⟨false, mh, ml, n, rfl, HU2.out.1, HU2.out.2, by omega, ?_⟩
    repeat refine Gen.setCell ?_ _ _ (Nat.le_refl _) hblt
    exact HG5.out.mono (by omega)
  · go_wp2_with fail
    refine (pick_new b (m + 3 + 1) _ _ _ _ [0, 8, 32, 48, 63, 64, 65, 96, 127, 128] _ HG3.out.s rfl (by omega) rfl (by decide) rfl).mono ?_
    rintro e w4 ⟨x, rfl, hx, hg⟩
    have hxb : 0 ≤ x ∧ x ≤ 128 := by simp at hx; omega
    obtain ⟨n2, rfl⟩ := Int.eq_ofNat_of_zero_le hxb.1
    have hn2 : n2 ≤ 128 := by omega
    have HG4 := Lib.hid (HG3.out.trans hg)
    have HR4 := Lib.hid (HR3.out.keep hg.g (by omega))
    have HA4 := Lib.hid (HA3.out.keep hg.g (by omega))
    clear hx hxb hg HG3 HR3 HA3 a0 a1 a2
    have a0 := HA4.out.cell 0
    have a1 := HA4.out.cell 1
    have a2 := HA4.out.cell 2
    simp at a0 a1 a2
    go_wp2_with fail
    refine (HK.out n2 _ hn2).mono ?_
    rintro e w5 ⟨rfl, hb⟩
    have HG5 := Lib.hid (HG4.out.below0 hb HG4.out.s.lt)
    have HR5 := Lib.hid (HR4.out.below hb HR4.out.lt)
    have h1 : U64N (mHi true hi n2) := mHi_lt HU.out.1
    have h2 : U64N (mLo true lo n2) := mLo_lt HU.out.2
    generalize mHi true hi n2 = mh at *
    generalize mLo true lo n2 = ml at *
    have HU2 := Lib.hid (And.intro h1 h2)
    clear h1 h2 hb a0 a1 a2 HG4 HR4 HA4
    have r0 := HR5.out.cell 0
    have r1 := HR5.out.cell 1
    have r2 := HR5.out.cell 2
    have r3 := HR5.out.cell 3
    have rf := HR5.out.free
    simp at r0 r1 r2 r3
    unfold vP
    go_wp2_with fail
    refine bodyPost_ret (v := .agg #[.bool true, .int .u64 (mh : Int), .int .u64 (ml : Int), .int .i64 (n2 : Int)]) (by simp [results, Tryz.results71, go_sem, r0, r1, r2, r3]) rfl ⟨true, mh, ml, n2, rfl, HU2.out.1, HU2.out.2, by omega, ?_⟩
    repeat refine Gen.setCell ?_ _ _ (Nat.le_refl _) hblt
    exact HG5.out.mono (by omega)
set_option maxRecDepth 100000 in
set_option maxHeartbeats 600000 in
theorem prefix_gen (b m : Nat) (w : World) (h : Strm w b m) (hm : m + 20 < 1099511627776) :
    Calls Tryz.prog 34 #[.pointer (some ⟨b, 0, none⟩)] w (PfxGen b w (m + 14)) := by
  have hblt := h.lt
  have HG0 : Hid (Gen b w (w.alloc (.cells #[.bool false, .int .u64 0, .int .u64 0, .int .i64 0] 45 (0, 0))) m) := Lib.hid ((Gen.start h).alloc _)
  have HR0 : Hid (Blk (w.alloc (.cells #[.bool false, .int .u64 0, .int .u64 0, .int .i64 0] 45 (0, 0))) w.heap.size 45 #[.bool false, .int .u64 0, .int .u64 0, .int .i64 0]) := Lib.hid (Blk.new w _ _)
  clear h
  go_enter Tryz.func34, Tryz.ntmps34
  go_wp2_with fail
  refine (rightPrefix_gen b m _ HG0.out.s (by omega)).mono ?_
  rintro e w1 ⟨six, hi, lo, bits, rfl, h1, h2, h3, hg⟩
  have HU := Lib.hid (And.intro h1 (And.intro h2 h3))
  have HG1 := Lib.hid ((HG0.out.trans hg).alloc (.cells #[.bool six, .int .u64 (hi : Int), .int .u64 (lo : Int), .int .i64 bits] 45 (0, 0)))
  have HR1 := Lib.hid ((HR0.out.keep hg.g (by omega)).alloc (.cells #[.bool six, .int .u64 (hi : Int), .int .u64 (lo : Int), .int .i64 bits] 45 (0, 0)))
  have HA1 : Hid (Blk (w1.alloc (.cells #[.bool six, .int .u64 (hi : Int), .int .u64 (lo : Int), .int .i64 bits] 45 (0, 0))) w1.heap.size 45 #[.bool six, .int .u64 (hi : Int), .int .u64 (lo : Int), .int .i64 bits]) := Lib.hid (Blk.new w1 _ _)
  have hw1 : w.heap.size < w1.heap.size := HR0.out.keep hg.g (by omega) |> Blk.lt
  clear h1 h2 h3 hg HG0 HR0
  unfold vP
  go_wp2_with fail
  generalize w1.alloc (.cells #[.bool six, .int .u64 (hi : Int), .int .u64 (lo : Int), .int .i64 bits] 45 (0, 0)) = w2 at *
  generalize w1.heap.size = F at *
  refine (flip_gen b (m + 5) _ _ HG1.out.s (by omega) (by omega)).mono ?_
  rintro e w3 ⟨kk, rfl, hg⟩
  have HG3 := Lib.hid (HG1.out.trans hg)
  have HR3 := Lib.hid (HR1.out.keep hg.g (by omega))
  have HA3 := Lib.hid (HA1.out.keep hg.g (by omega))
  clear hg HG1 HR1 HA1
  have a0 := HA3.out.cell 0
  have a1 := HA3.out.cell 1
  have a2 := HA3.out.cell 2
  have a3 := HA3.out.cell 3
  simp at a0 a1 a2 a3
  cases kk
  · have r0 := HR3.out.cell 0
    have r1 := HR3.out.cell 1
    have r2 := HR3.out.cell 2
    have r3 := HR3.out.cell 3
    have rf := HR3.out.free
    simp at r0 r1 r2 r3
    go_wp2_with fail
    refine bodyPost_ret (v := .agg #[.bool six, .int .u64 (hi : Int), .int .u64 (lo : Int), .int .i64 bits]) (by simp [results, Tryz.results34, go_sem, r0, r1, r2, r3]) rfl ⟨six, hi, lo, bits, rfl, HU.out.1, HU.out.2.1, HU.out.2.2, ?_⟩
    repeat refine Gen.setCell ?_ _ _ (Nat.le_refl _) hblt
    exact HG3.out.mono (by omega)
  · go_wp2_with fail
    refine (raw_gen b (m + 6) _ HG3.out.s (by omega)).mono ?_
    rintro e w4 ⟨six2, hi0, lo0, rfl, ⟨hu1, hu2⟩, hg⟩
    obtain ⟨hi2, rfl, h1⟩ := nat_of_U64 hu1
    obtain ⟨lo2, rfl, h2⟩ := nat_of_U64 hu2
    have HU2 := Lib.hid (And.intro h1 h2)
    have HG4 := Lib.hid (HG3.out.trans hg)
    have HR4 := Lib.hid (HR3.out.keep hg.g (by omega))
    have HA4 := Lib.hid (HA3.out.keep hg.g (by omega))
    clear hg hu1 hu2 h1 h2 HG3 HR3 HA3 a0 a1 a2 a3
    unfold vAddr
    go_wp2_with fail
    refine (odd_gen b (m + 6 + 6) _ _ _ HG4.out.s (by omega) (by omega) (by omega)).mono ?_
    rintro e w5 ⟨x, rfl, hx, hg⟩
    have HG5 := Lib.hid (HG4.out.trans hg)
    have HR5 := Lib.hid (HR4.out.keep hg.g (by omega))
    have HA5 := Lib.hid (HA4.out.keep hg.g (by omega))
    have HX := Lib.hid hx
    have hF := HA5.out.lt
    clear hg hx HG4 HR4 HA4
    have a0 := HA5.out.cell 0
    have a1 := HA5.out.cell 1
    have a2 := HA5.out.cell 2
    have a3 := HA5.out.cell 3
    have af := HA5.out.free
    have r0 := HR5.out.cell 0
    have r1 := HR5.out.cell 1
    have r2 := HR5.out.cell 2
    have r3 := HR5.out.cell 3
    have rf := HR5.out.free
    simp at a0 a1 a2 a3 r0 r1 r2 r3
    have hne : w.heap.size ≠ F := by omega
    go_wp2_with fail
    refine bodyPost_ret (v := .agg #[.bool six2, .int .u64 (hi2 : Int), .int .u64 (lo2 : Int), .int .i64 x]) (by simp [results, Tryz.results34, go_sem, r0, r1, r2, r3]) rfl ⟨six2, hi2, lo2, x, rfl, HU2.out.1, HU2.out.2, HX.out, ?_⟩
    repeat refine Gen.setCell ?_ _ _ (by simp only; omega) (by simp only; omega)
    exact HG5.out.mono (by omega)
end Go.Proofs.YtcpafmndjcejjaaGreatDoor
