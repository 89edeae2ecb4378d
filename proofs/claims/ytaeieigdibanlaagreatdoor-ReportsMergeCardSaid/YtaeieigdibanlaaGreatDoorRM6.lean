/-
  The last of the law's marks: filtered is true.
  Generators of flows and times: contracts of Flow, Times.
  Flows turned round, and times: back, Back, BackOf, CheckTimes, TimesFault, Times, filtered.
  Reports: how they lie; when they are equal; their order.
  Rows of structs whose cells are set many at once.
  Lists without the elements that are alike to the one ahead of them, in plain words.
  Sorting an own row of structs by a number of each element, in the words of an own row.
  The contract of slices.SortFunc at a slice of structs over this program, as the kit's lay-plain.mjs prints it. Condition: the slice has no element, or its cells are known, fewer than 2^62 of them.
-/
import Derived.Test.YtaeieigdibanlaaGreatDoorRM5
import Derived.Test.YtaeieigdibanlaaGreatDoorRM1
import Derived.Laws.StructEq
import Derived.Lib.Bytealg
import Derived.Lib.Small
import Derived.Deep.MidRow
import Derived.Shelf.SlSortCmp.NoneTotal
import Derived.Test.YtaeieigdibanlaaGreatDoorProg
set_option linter.unusedVariables false
namespace Go.Proofs.YtaeieigdibanlaaGreatDoor
open Go.RowKit Go
set_option linter.unusedVariables false
end Go.Proofs.YtaeieigdibanlaaGreatDoor

namespace Go.Proofs.YtaeieigdibanlaaGreatDoor
open Go.RowKit
set_option linter.unusedVariables false

set_option maxHeartbeats 1000000 in
set_option maxRecDepth 100000 in
theorem flow_gen (b m : Nat) (w : World) (h : Strm w b m) (hm : m + 20 < 1099511627776) :
    Calls Tryz.prog 45 #[.pointer (some ⟨b, 0, none⟩)] w fun e w' => ∃ f : FV, e = .returned (.agg f.cells) ∧ f.ok ∧ Gen b w w' (m + 19) := by
  have hblt := h.lt
  go_enter Tryz.func45, Tryz.ntmps45
  go_wp2_with fail
  refine (rightFlow_gen b m _ (h.alloc _) (by omega)).mono ?_
  rintro e w1 ⟨f, rfl, HO, hg⟩
  have HO := Lib.hid HO
  have HA1 : Hid (FBlk w1 w.heap.size FV.zero) := (Blk.new w _ _).keep hg.g (by omega)
  have HG1 := Lib.hid (((Gen.start h).alloc _).trans hg)
  clear hg
  unfold FV.cells
  go_wp2_with fail
  have hlt : w.heap.size < w1.heap.size := Blk.lt HA1.out
  refine (flip_gen b (m + 11) _ _ (HG1.out.s.alloc _) (by omega) (by omega)).mono ?_
  rintro e w2 ⟨kk, rfl, hg⟩
  have HF2 : Hid (FBlk w2 w1.heap.size f) := (Blk.new w1 _ _).keep hg.g (by have := HG1.out.s.lt; omega)
  have HA2 : Hid (FBlk w2 w.heap.size FV.zero) := (Blk.alloc HA1.out _).keep hg.g (by omega)
  have HG2 := Lib.hid ((HG1.out.alloc _).trans hg)
  clear hg HA1 HG1
  generalize w1.heap.size = F at *
  go_upto_if 7 with fail
  go_cut [] (fun wx => ∃ f : FV, FBlk wx F f ∧ f.ok ∧ FBlk wx w.heap.size FV.zero ∧ Gen b w wx (m + 19))
  case rest =>
    clear HF2 HA2 HG2 HO
    obtain ⟨f, HF, HO, HA, HG⟩ := hcut
    obtain ⟨c0, c1, c2, c3, c4, c5, c6, c7, c8, f0⟩ := FBlk.cells HF
    obtain ⟨d0, d1, d2, d3, d4, d5, d6, d7, d8, g0⟩ := FBlk.cells HA
    have HG := Lib.hid HG
    have hne : w.heap.size ≠ F := by omega
    clear HF HA hlt
    go_wp2_with fail
    refine bodyPost_ret (v := .agg f.cells) (by simp [results, Tryz.results45, go_sem, d0, d1, d2, d3, d4, d5, d6, d7, d8, FV.cells]) rfl ⟨f, rfl, HO, ?_⟩
    exact Gen.setB HG.out (Nat.le_refl _) hblt _ _ _ _ _ _ _ _ _ _ _ _ _ _ _ _ _ _
  case first =>
    go_wp2_with fail
    rotate_right
    · go_meet
      case rel => exact ⟨f, HF2.out, HO.out, HA2.out, HG2.out.mono (by omega)⟩
    · refine (next_gen b (m + 12) _ _ HG2.out.s (by omega) (by omega)).mono ?_
      rintro e w3 ⟨k3, rfl, ⟨hk0, hk1⟩, hg⟩
      have HF3 := Lib.hid (HF2.out.keep hg.g (by have := HG2.out.s.lt; omega))
      have HA3 := Lib.hid (HA2.out.keep hg.g (by omega))
      have HG3 := Lib.hid (HG2.out.trans hg)
      clear hg HF2 HA2 HG2
      go_wp2_with fail
      all_goals first
        | (refine (odd_gen b (m + 12 + 1) _ _ _ HG3.out.s (by omega) (by omega) (by omega)).mono ?_
           rintro e w4 ⟨k4, rfl, ⟨hk40, hk41⟩, hg⟩
           have HF4 := HF3.out.keep hg.g (by omega)
           obtain ⟨c0, -, -, -, -, -, -, c7, c8, f0⟩ := FBlk.cells (f := f) HF4
           have HF4 := Lib.hid HF4
           have HA4 := Lib.hid (HA3.out.keep hg.g (by omega))
           have HG4 := Lib.hid (HG3.out.trans hg)
           clear hg HF3 HA3 HG3
           go_wp2_with fail
           go_meet
           case rel =>
             refine ⟨_, by first | exact FBlk.setP (f := f) HF4.out k4 | exact FBlk.setFp (f := f) HF4.out k4 | exact FBlk.setTp (f := f) HF4.out k4, ?_, Blk.far HA4.out (by omega) _ _, Gen.setCell (HG4.out.mono (by omega)) ⟨F, _, none⟩ _ (Nat.le_of_lt hlt) (by simp only; omega)⟩
             have := HO.out
             simp only [FV.ok, I41, U64] at this ⊢
             omega)
        | (refine (raw_gen b (m + 12 + 1) _ HG3.out.s (by omega)).mono ?_
           rintro e w4 ⟨six, hi, lo, rfl, ⟨hu1, hu2⟩, hg⟩
           have HF4 := HF3.out.keep hg.g (by omega)
           obtain ⟨-, c1, c2, c3, -, -, -, -, -, f0⟩ := FBlk.cells (f := f) HF4
           have HF4 := Lib.hid HF4
           have HA4 := Lib.hid (HA3.out.keep hg.g (by omega))
           have HG4 := Lib.hid (HG3.out.trans hg)
           clear hg HF3 HA3 HG3
           unfold vAddr
           go_wp2_with fail
           go_meet
           case rel =>
             refine ⟨_, FBlk.setFrom (f := f) HF4.out six hi lo, ?_, Blk.far (Blk.far (Blk.far HA4.out (by omega) 1 _) (by omega) 2 _) (by omega) 3 _, Gen.setCell (Gen.setCell (Gen.setCell (HG4.out.mono (by omega)) ⟨F, 1, none⟩ _ (Nat.le_of_lt hlt) (by simp only; omega)) ⟨F, 2, none⟩ _ (Nat.le_of_lt hlt) (by simp only; omega)) ⟨F, 3, none⟩ _ (Nat.le_of_lt hlt) (by simp only; omega)⟩
             have := HO.out
             simp only [FV.ok, I41, U64] at this hu1 hu2 ⊢
             omega)
end Go.Proofs.YtaeieigdibanlaaGreatDoor

namespace Go.Proofs.YtaeieigdibanlaaGreatDoor
open Go.RowKit
set_option linter.unusedVariables false

def FV.back (f : FV) : FV := ⟨f.p, f.s2, f.h2, f.l2, f.s1, f.h1, f.l1, f.tp, f.fp⟩

/-! times -/
structure TV where
  y : Int
  t : Int
  d : Int
  o : Int
def TV.cells (x : TV) : Array Value := #[.int .i64 x.y, .int .i64 x.t, .int .i64 x.d, .int .i64 x.o]
def TV.ok (x : TV) : Prop := I41 x.y ∧ I41 x.t ∧ I41 x.d ∧ I41 x.o
def TV.zero : TV := ⟨0, 0, 0, 0⟩
end Go.Proofs.YtaeieigdibanlaaGreatDoor

namespace Go.Proofs.YtaeieigdibanlaaGreatDoor
open Go.RowKit Go
set_option linter.unusedVariables false

/-- a report -/
structure RP where
  node : ByteArray
  hour : Int
  out : Bool
  f : FV
  pk : Int
  sz : Int
def RP.Sm (r : RP) : Prop := r.f.ok ∧ -1099511627777 ≤ r.hour ∧ r.hour ≤ 1099511627777 ∧ r.node.size ≤ 1000
/-- a report whose numbers are not too far off -/
def RB : Type := {r : RP // r.Sm}
theorem fvz_ok : FV.zero.ok := by
  unfold FV.zero FV.ok I41 U64
  simp
instance : Inhabited RB := ⟨⟨⟨⟨#[]⟩, 0, false, FV.zero, 0, 0⟩, fvz_ok, by show -1099511627777 ≤ (0 : Int); decide, by show (0 : Int) ≤ 1099511627777; decide, by decide⟩⟩
def rpC (x : RP) : List Value := [.string x.node, .int .i64 x.hour, .bool x.out, .int .i64 x.f.p, .bool x.f.s1, .int .u64 x.f.h1, .int .u64 x.f.l1, .bool x.f.s2, .int .u64 x.f.h2, .int .u64 x.f.l2, .int .i64 x.f.fp, .int .i64 x.f.tp, .int .i64 x.pk, .int .i64 x.sz]
def layRb : Lay RB := ⟨fun x => rpC x.1, 14, 37, by decide, fun _ => rfl, fun p v hv => by
  simp [rpC] at hv
  rcases hv with rfl | rfl | rfl | rfl | rfl | rfl | rfl | rfl | rfl | rfl | rfl | rfl | rfl | rfl <;> rfl⟩
theorem rbE : EI Tryz.prog 26 37 14 120 := EI.mk' (z := .agg #[.string ⟨#[]⟩, .int .i64 0, .bool false, .int .i64 0, .bool false, .int .u64 0, .int .u64 0, .bool false, .int .u64 0, .int .u64 0, .int .i64 0, .int .i64 0, .int .i64 0, .int .i64 0]) Tryz.underlying26 (by kernel_rfl) rfl (by decide)
theorem size_rb : (Tryz.prog.info? 37).map (·.size) = some 14 := by kernel_rfl
theorem under_rb : Tryz.prog.underlying 37 = some (.struct (Tryz.prog.fieldsOf 37)) := by kernel_rfl
theorem zval_rb : ∃ z : Value, z.cells.size = 14 ∧ (∀ w, (zeroValue 37).run Tryz.prog w = .ok z w) ∧ ∀ v ∈ z.cells, v.oneCell' = true := ⟨.agg #[.string ⟨#[]⟩, .int .i64 0, .bool false, .int .i64 0, .bool false, .int .u64 0, .int .u64 0, .bool false, .int .u64 0, .int .u64 0, .int .i64 0, .int .i64 0, .int .i64 0, .int .i64 0], rfl, fun w => by kernel_rfl, fun v hv => by
  simp [Value.cells] at hv
  rcases hv with rfl | rfl | rfl | rfl | rfl | rfl | rfl | rfl | rfl | rfl | rfl | rfl | rfl | rfl <;> rfl⟩
/-! ### equal -/
def FV.eqR (f g : FV) : Bool := f.p == g.p && (f.s1 == g.s1 && (f.h1 == g.h1 && f.l1 == g.l1)) && (f.s2 == g.s2 && (f.h2 == g.h2 && f.l2 == g.l2)) && f.fp == g.fp && f.tp == g.tp
theorem equalIn_addrR (d : Nat) (w : World) (a : Bool) (b c : Int) (a2 : Bool) (b2 c2 : Int) : (Op.equalIn (d + 2) 33 (.agg #[.bool a, .int .u64 b, .int .u64 c]) (.agg #[.bool a2, .int .u64 b2, .int .u64 c2])).run Tryz.prog w = .ok (a == a2 && (b == b2 && c == c2)) w := by
  have u2 := Tryz.underlying4
  have a2' := Tryz.isAgg4
  have z2 := Tryz.sizeOf4
  have u3 := Tryz.underlying31
  have a3 := Tryz.isAgg31
  have z3 := Tryz.sizeOf31
  have hS5 : Tryz.prog.underlying 33 = some (.struct (Tryz.prog.fieldsOf 33)) := by kernel_rfl
  have hp5 : Tryz.prog.stoodInHeld 33 = false := by kernel_rfl
  rw [run_equalIn_agg w (d + 1) 33 _ _ hS5 hp5]
  simp only [Program.fieldsOf, Tryz.underlying33]
  go_simp
  cases h1 : (a == a2) <;> cases h2 : (b == b2) <;> cases h3 : (c == c2) <;> simp_all
theorem equalIn_flowR (d : Nat) (w : World) (f g : FV) : (Op.equalIn (d + 3) 35 (.agg f.cells) (.agg g.cells)).run Tryz.prog w = .ok (f.eqR g) w := by
  have u1 := Tryz.underlying3
  have a1 := Tryz.isAgg3
  have z1 := Tryz.sizeOf3
  have u5 := Tryz.underlying33
  have a5 := Tryz.isAgg33
  have z5 := Tryz.sizeOf33
  have hS4 : Tryz.prog.underlying 35 = some (.struct (Tryz.prog.fieldsOf 35)) := by kernel_rfl
  have hp4 : Tryz.prog.stoodInHeld 35 = false := by kernel_rfl
  have e5 := equalIn_addrR
  obtain ⟨p, s1, h1, l1, s2, h2, l2, fp, tp⟩ := f
  obtain ⟨p', s1', h1', l1', s2', h2', l2', fp', tp'⟩ := g
  rw [run_equalIn_agg w (d + 2) 35 _ _ hS4 hp4]
  simp only [Program.fieldsOf, Tryz.underlying35, FV.cells, FV.eqR]
  go_simp
  clear u1 a1 z1 u5 a5 z5 hS4 hp4 e5
  repeat' split
  all_goals simp_all
  all_goals (intros; simp_all)
def RP.eqB (x y : RP) : Bool := (x.node == y.node) && ((x.hour == y.hour) && ((x.out == y.out) && ((x.f.eqR y.f) && ((x.pk == y.pk) && (x.sz == y.sz)))))
theorem equalIn_rp (d : Nat) (w : World) (x y : RP) : (Op.equalIn (d + 4) 37 (.agg (rpC x).toArray) (.agg (rpC y).toArray)).run Tryz.prog w = .ok (x.eqB y) w := by
  have u1 := Tryz.underlying3
  have a1 := Tryz.isAgg3
  have z1 := Tryz.sizeOf3
  have u2 := Tryz.underlying4
  have a2 := Tryz.isAgg4
  have z2 := Tryz.sizeOf4
  have u3 := Tryz.underlying9
  have a3 := Tryz.isAgg9
  have z3 := Tryz.sizeOf9
  have u5 := Tryz.underlying35
  have a5 := Tryz.isAgg35
  have z5 := Tryz.sizeOf35
  have hS4 : Tryz.prog.underlying 37 = some (.struct (Tryz.prog.fieldsOf 37)) := by kernel_rfl
  have hp4 : Tryz.prog.stoodInHeld 37 = false := by kernel_rfl
  obtain ⟨nd, hr, ou, f, pk, sz⟩ := x
  obtain ⟨nd', hr', ou', f', pk', sz'⟩ := y
  have e5 := fun w => equalIn_flowR d w f f'
  obtain ⟨p, s1, h1, l1, s2, h2, l2, fp, tp⟩ := f
  obtain ⟨p', s1', h1', l1', s2', h2', l2', fp', tp'⟩ := f'
  rw [run_equalIn_agg w (d + 3) 37 _ _ hS4 hp4]
  simp only [FV.cells] at e5
  simp only [Program.fieldsOf, Tryz.underlying37, rpC, RP.eqB, beq_toListBytes]
  generalize FV.eqR _ _ = E at *
  go_simp
  clear u1 a1 z1 u2 a2 z2 u3 a3 z3 u5 a5 z5 hS4 hp4 e5
  repeat' split
  all_goals (try simp_all)
  all_goals (intros; try simp_all)
def eqRB (x y : RB) : Bool := x.1.eqB y.1
theorem eqGuard_rb (op : BinOp) (x y : Operand) (f g : RB) (w : World) (h : op = .eql ∨ op = .neq) : (eqGuard op 37 x y (.agg (layRb.enc f).toArray) (.agg (layRb.enc g).toArray)).run Tryz.prog w = .ok () w := by
  rcases h with rfl | rfl
  · exact run_eqGuard_agg w _ _ _ _ _ _ (by kernel_rfl)
  · exact run_eqGuard_agg w _ _ _ _ _ _ (by kernel_rfl)
theorem eql_rb (f g : RB) (w : World) : (binOp .eql 37 (.agg (layRb.enc f).toArray) (.agg (layRb.enc g).toArray)).run Tryz.prog w = .ok (.bool (eqRB f g)) w := by
  have h := equalIn_rp 9996 w f.1 g.1
  have e : eqRB f g = f.1.eqB g.1 := rfl
  rw [e]
  show (binOp .eql 37 (.agg (rpC f.1).toArray) (.agg (rpC g.1).toArray)).run Tryz.prog w = _
  generalize (rpC f.1).toArray = X at *
  generalize (rpC g.1).toArray = Y at *
  generalize f.1.eqB g.1 = E at *
  simp only [binOp]
  simp [Op.equal, Op.maxDepth, h]
theorem neq_rb (f g : RB) (w : World) : (binOp .neq 37 (.agg (layRb.enc f).toArray) (.agg (layRb.enc g).toArray)).run Tryz.prog w = .ok (.bool (!eqRB f g)) w := by
  have h := equalIn_rp 9996 w f.1 g.1
  have e : eqRB f g = f.1.eqB g.1 := rfl
  rw [e]
  show (binOp .neq 37 (.agg (rpC f.1).toArray) (.agg (rpC g.1).toArray)).run Tryz.prog w = _
  rw [run_neq_struct, show (10000 : Nat) = 9996 + 4 from rfl, h]
  rfl
theorem eqB_self (x : RP) : x.eqB x = true := by
  unfold RP.eqB FV.eqR
  rw [beq_toListBytes]
  simp
/-! ### order -/
def cA (s : Bool) (h l : Int) (s' : Bool) (h' l' : Int) : Int := cN (numA s h.toNat l.toNat) (numA s' h'.toNat l'.toNat)
def cS (a b : ByteArray) : Int := Lib.compareBytes a.data.toList b.data.toList
def cBo (a b : Bool) : Int := if a = b then 0 else if b = true then -1 else 1
def cF (a b : FV) : Int := orI (Lib.compareInt a.p b.p) (orI (cA a.s1 a.h1 a.l1 b.s1 b.h1 b.l1) (orI (cA a.s2 a.h2 a.l2 b.s2 b.h2 b.l2) (orI (Lib.compareInt a.fp b.fp) (Lib.compareInt a.tp b.tp))))
def cR (a b : RB) : Int := orI (Lib.compareInt a.1.hour b.1.hour) (orI (cS a.1.node b.1.node) (orI (cBo a.1.out b.1.out) (cF a.1.f b.1.f)))
end Go.Proofs.YtaeieigdibanlaaGreatDoor

namespace Go.Proofs.YtaeieigdibanlaaGreatDoor
open Go.RowKit Go
set_option linter.unusedVariables false

theorem heap_setCells_same {g : Nat} {t : TypeId} : ∀ (vs : List Value) (o : Nat) (w : World) (cur : Array Value), w.heap[g]? = some (.cells cur t (0, 0)) → ∃ cur', (w.setCells g o vs).heap[g]? = some (.cells cur' t (0, 0)) ∧ cur'.size = cur.size
  | [], _, w, cur, h => ⟨cur, h, rfl⟩
  | v :: r, o, w, cur, h => by
    obtain ⟨cur', h1, h2⟩ := heap_setCells_same r (o + 1) (w.setCell ⟨g, o, none⟩ v) (cur.setIfInBounds o v) (heap_setCell_same w g o cur t v h)
    exact ⟨cur', h1, by rw [h2]; simp⟩
theorem heap_setCells_other {g j : Nat} (hne : j ≠ g) : ∀ (vs : List Value) (o : Nat) (w : World), (w.setCells g o vs).heap[j]? = w.heap[j]?
  | [], _, w => rfl
  | v :: r, o, w => by
    rw [World.setCells, heap_setCells_other hne r (o + 1)]
    exact Below.heap_setCell w ⟨g, o, none⟩ v j hne
theorem grown_setCells (g : Nat) : ∀ (vs : List Value) (o : Nat) (w : World), w.grownBy (w.setCells g o vs) (some g)
  | [], _, w => World.grownBy.refl _ _
  | v :: r, o, w => by
    have h1 : w.grownBy (w.setCell ⟨g, o, none⟩ v) (some g) := ⟨rfl, rfl, rfl, by simp, fun i hi hne => Below.heap_setCell w ⟨g, o, none⟩ v i (fun e => hne (by rw [e]))⟩
    exact grown_trans h1 (grown_setCells g r (o + 1) (w.setCell ⟨g, o, none⟩ v))
section
variable {α : Type} {E : Lay α}
theorem OwnK.of_cells {w : World} {B g n c : Nat} {cur : Array Value} {L : List α} (hl : L.length = n) (hB : B ≤ g) (hnc : n ≤ c) (hc : c ≤ maxLen) (hh : w.heap[g]? = some (.cells cur E.ty (0, 0))) (hs : cur.size = c * E.K)
    (hcell : ∀ (k : Nat) (x : α), L[k]? = some x → ∀ (j : Nat) (v : Value), (E.enc x)[j]? = some v → w.cell? ⟨g, k * E.K + j, none⟩ = some v) : OwnK E w B (.slice (some ⟨g, 0, none⟩) n c) L := by
  subst hl
  refine ⟨E.all_len L, .inr ⟨g, c, cur, rfl, hB, hh, hnc, hc, hs, ?_⟩⟩
  apply List.ext_getElem?
  intro t
  have hle : L.length * E.K ≤ c * E.K := Nat.mul_le_mul_right _ hnc
  rcases Nat.lt_or_ge t (L.length * E.K) with h | h
  · obtain ⟨x, hx, he⟩ := E.all_cut L t h
    rw [List.getElem?_take, if_pos h, he]
    have hj : t % E.K < (E.enc x).length := by rw [E.len]; exact Nat.mod_lt _ E.pos
    have := hcell (t / E.K) x hx (t % E.K) _ (List.getElem?_eq_getElem hj)
    rw [show t / E.K * E.K + t % E.K = t by rw [Nat.mul_comm]; exact Nat.div_add_mod t E.K, cell_of_row w g _ _ _ _ hh] at this
    rw [List.getElem?_eq_getElem hj, ← this]
    simp
  · rw [List.getElem?_eq_none (by rw [List.length_take]; simp; omega), List.getElem?_eq_none (by rw [E.all_len]; exact h)]
theorem OwnK.cellsAt {w : World} {B g n c : Nat} {L : List α} (h : OwnK E w B (.slice (some ⟨g, 0, none⟩) n c) L) {k : Nat} {x : α} (hx : L[k]? = some x) : w.rangeAt g (k * E.K) (E.enc x) := fun j v hv => h.get hx hv
theorem OwnK.there {w : World} {B g n c : Nat} {L : List α} (h : OwnK E w B (.slice (some ⟨g, 0, none⟩) n c) L) {o m : Nat} (hm : o + m ≤ n * E.K) : w.there g o m := fun j hj => by
  obtain ⟨hn, _, hc, _, cur, hg, hs, _⟩ := h.block
  refine ⟨?_, h.frozen _⟩
  rw [cell_of_row w g _ _ _ _ hg, Array.getElem?_eq_getElem (by have := Nat.mul_le_mul_right E.K hc; omega)]
  rfl
theorem mul_apart {i k K : Nat} (h : i ≠ k) : k * K + K ≤ i * K ∨ i * K + K ≤ k * K := by
  rcases Nat.lt_or_ge i k with h1 | h1
  · right; have := Nat.mul_le_mul_right K (show i + 1 ≤ k by omega); rw [Nat.add_mul] at this; omega
  · left; have := Nat.mul_le_mul_right K (show k + 1 ≤ i by omega); rw [Nat.add_mul] at this; omega
/-- an element is laid over another one -/
theorem OwnK.setRow {w : World} {B g n c : Nat} {L : List α} (h : OwnK E w B (.slice (some ⟨g, 0, none⟩) n c) L) {i : Nat} (hi : i < n) (y : α) : OwnK E (w.setCells g (i * E.K) (E.enc y)) B (.slice (some ⟨g, 0, none⟩) n c) (L.set i y) := by
  have hth := h.there (o := i * E.K) (m := E.K) (by have := Nat.mul_le_mul_right E.K (show i + 1 ≤ n by omega); rw [Nat.add_mul] at this; omega)
  obtain ⟨hn, hB, hc, hm, cur, hg, hs, ht⟩ := h.block
  obtain ⟨cur', h1, h2⟩ := heap_setCells_same (E.enc y) (i * E.K) w cur hg
  refine OwnK.of_cells (by rw [List.length_set]; exact hn.symm) hB hc hm h1 (by rw [h2, hs]) fun k x hx j v hv => ?_
  by_cases e : k = i
  · subst e
    rw [List.getElem?_set_self (by rw [← hn]; exact hi)] at hx
    injection hx with hx
    subst hx
    exact World.rangeAt_setCells_same w g (k * E.K) (E.enc y) (by rw [E.len]; exact hth) j v hv
  · rw [List.getElem?_set_ne (fun h => e h.symm)] at hx
    exact World.rangeAt_setCells_apart (h.cellsAt hx) g (i * E.K) (E.enc y) (.inr (by rw [E.len, E.len]; exact mul_apart (fun h => e h.symm))) j v hv
/-- the first elements stay, whatever is laid behind them -/
theorem OwnK.cut {w : World} {B g n c : Nat} {L : List α} (h : OwnK E w B (.slice (some ⟨g, 0, none⟩) n c) L) {i : Nat} (hi : i ≤ n) (vs : List Value) : OwnK E (w.setCells g (i * E.K) vs) B (.slice (some ⟨g, 0, none⟩) i c) (L.take i) := by
  obtain ⟨hn, hB, hc, hm, cur, hg, hs, ht⟩ := h.block
  obtain ⟨cur', h1, h2⟩ := heap_setCells_same vs (i * E.K) w cur hg
  refine OwnK.of_cells (by rw [List.length_take]; omega) hB (by omega) hm h1 (by rw [h2, hs]) fun k x hx j v hv => ?_
  have hk : k < i := by
    have := (List.getElem?_eq_some_iff.1 hx).1
    rw [List.length_take] at this; omega
  rw [List.getElem?_take, if_pos hk] at hx
  refine World.rangeAt_setCells_apart (h.cellsAt hx) g (i * E.K) vs (.inr (.inl ?_)) j v hv
  rw [E.len]
  have := Nat.mul_le_mul_right E.K (show k + 1 ≤ i by omega)
  rw [Nat.add_mul] at this; omega
theorem OwnK.take {w : World} {B g n c : Nat} {L : List α} (h : OwnK E w B (.slice (some ⟨g, 0, none⟩) n c) L) {i : Nat} (hi : i ≤ n) : OwnK E w B (.slice (some ⟨g, 0, none⟩) i c) (L.take i) := h.cut hi []
end
theorem zeroCells_len (zs : Array Value) (n : Nat) : (Builtin.zeroCells zs n).toList.length = n * zs.size := by simp [Builtin.zeroCells]
theorem run_clear_rows {P : Program} (w : World) (t e ty : TypeId) (z : Value) (ht : P.underlying t = some (.slice e)) (hv : ∀ w, (zeroValue e).run P w = .ok z w) (h1 : ∀ v ∈ z.cells, v.oneCell' = true) (b o n c : Nat) (hn : 0 < n) (hth : w.there b o (n * z.cells.size)) (hz : 0 < z.cells.size) :
    (Builtin.clear_ #[t] ty #[.slice (some ⟨b, o, none⟩) n c]).run P w = .ok (.tuple #[]) (w.setCells b o (Builtin.zeroCells z.cells n).toList) := by
  have hst := run_storeCells_cells (P := P) b o (Builtin.zeroCells z.cells n).toList 0 w (fun j hj => by rw [zeroCells_len] at hj; simpa using (hth j hj).1) (fun j hj => by rw [zeroCells_len] at hj; simpa using (hth j hj).2) (fun v hv => by
    simp [Builtin.zeroCells] at hv
    obtain ⟨i, hi, rfl⟩ := hv
    have : i % z.cells.size < z.cells.size := Nat.mod_lt _ hz
    rw [getElem!_pos z.cells (i % z.cells.size) this]
    exact h1 _ (Array.getElem_mem _))
  simp only [Nat.add_zero] at hst
  obtain ⟨m, rfl⟩ : ∃ m, n = m + 1 := ⟨n - 1, by omega⟩
  simp [Builtin.clear_, run_underlying ht, hv, hst]
/-- a load of many cells, the cells whatever, as one operation of a region that draws its order -/
theorem Op1.loadn {P : Program} {o : Oper} {ρ : Operand → Value} {w : World} {post : Value → World → Prop} (ty : TypeId) (x : Operand) (ho : o.op = .load ty x) (b off : Nat) (hx : ρ x = .pointer (some ⟨b, off, none⟩)) (cs : List Value) (d : TypeDesc) (hc : w.rangeAt b off cs)
    (hu : P.underlying ty = some d) (hd : d.isRow = true) (m : Nat) (hi : (P.info? ty).map (·.size) = some m) (hm : cs.length = m) (h : post (.agg cs.toArray) w) : Op1 P o ρ w post := by
  subst hm
  have := run_loadAt_mid (P := P) w b off ty cs d hc hu hd hi
  unfold Op1 execOp
  simp only [ho, hx, Sem.run_bind, this, Result.andThen_ok, Sem.run_pure]
  exact h
end Go.Proofs.YtaeieigdibanlaaGreatDoor

namespace Go.Proofs.YtaeieigdibanlaaGreatDoor
open Go.RowKit Go
set_option linter.unusedVariables false

section
variable {α : Type} (eq : α → α → Bool)
def compF : α → List α → List α
  | _, [] => []
  | p, y :: l => if eq y p = true then compF y l else y :: compF y l
def compL : List α → List α
  | [] => []
  | x :: l => x :: compF eq x l
theorem compF_len : ∀ (p : α) (l : List α), (compF eq p l).length ≤ l.length
  | _, [] => Nat.le_refl _
  | p, y :: l => by
    unfold compF
    have := compF_len y l
    split
    · simp; omega
    · simp; omega
theorem compL_len : ∀ l : List α, (compL eq l).length ≤ l.length
  | [] => Nat.le_refl _
  | x :: l => by
    have := compF_len eq x l
    simp [compL]; omega
theorem compF_take : ∀ (L : List α) (p : α) (j : Nat) (x y : α), L[j]? = some x → (p :: L)[j]? = some y → compF eq p (L.take (j + 1)) = compF eq p (L.take j) ++ (if eq x y = true then [] else [x])
  | [], p, j, x, y, h, _ => by simp at h
  | z :: L, p, 0, x, y, h, h2 => by
    have e1 : z = x := by simpa using h
    have e2 : p = y := by simpa using h2
    subst e1; subst e2
    simp only [List.take_succ_cons, List.take_zero, compF]
    split <;> simp
  | z :: L, p, j + 1, x, y, h, h2 => by
    have ih := compF_take L z j x y (by simpa using h) (by simpa using h2)
    rw [List.take_succ_cons, List.take_succ_cons]
    simp only [compF]
    rw [ih]
    split <;> simp
theorem compL_take {L : List α} {j : Nat} {x y : α} (hx : L[j + 1]? = some x) (hy : L[j]? = some y) : compL eq (L.take (j + 2)) = compL eq (L.take (j + 1)) ++ (if eq x y = true then [] else [x]) := by
  cases L with
  | nil => simp at hx
  | cons z L =>
    rw [List.take_succ_cons, List.take_succ_cons]
    simp only [compL, List.cons_append]
    rw [compF_take eq L z j x y (by simpa using hx) hy]
theorem compL_all (L : List α) (n : Nat) (h : L.length ≤ n) : compL eq (L.take n) = compL eq L := by rw [List.take_of_length_le h]
end
end Go.Proofs.YtaeieigdibanlaaGreatDoor

namespace Go.Proofs.YtaeieigdibanlaaGreatDoor
open Go.RowKit Go Go.Sort
set_option linter.unusedVariables false

def cfK {α : Type} (f : α → Nat) (x y : α) : Int := cN (f x) (f y)
theorem ltK {α : Type} (f : α → Nat) (x y : α) : Go.Proofs.ltOf (cfK f) x y = decide (f x < f y) := by
  unfold Go.Proofs.ltOf cfK
  rw [decide_eq_decide]
  exact cN_lt_iff _ _
theorem swoK {α : Type} (f : α → Nat) : SWO (Go.Proofs.ltOf (cfK f)) where
  irrefl x := by rw [ltK]; simp
  trans x y z h1 h2 := by rw [ltK] at *; simp at *; omega
  ntrans x y z h1 h2 := by rw [ltK] at *; simp at *; omega
theorem putK_take (F cur : Array Value) (h : F.size ≤ cur.size) : (putCells id 0 F cur).size = cur.size ∧ (putCells id 0 F cur).toList.take F.size = F.toList := by
  refine ⟨by simp [putCells], List.ext_getElem? fun i => ?_⟩
  rcases Nat.lt_or_ge i F.size with hi | hi
  · rw [List.getElem?_take, if_pos hi, Array.getElem?_toList, Array.getElem?_toList]
    simp only [putCells, Array.getElem?_mapIdx]
    rw [Array.getElem?_eq_getElem (by omega)]
    simp [hi]
  · rw [List.getElem?_eq_none (by simp; omega), List.getElem?_eq_none (by simpa using hi)]
section
variable {α : Type} [Inhabited α] {E : Lay α} {f : α → Nat}
theorem flat_all (E : Lay α) (d : Array α) : (flatK E.enc E.K d).toList = E.all d.toList := by
  refine List.ext_getElem? fun t => ?_
  rcases Nat.lt_or_ge t (d.size * E.K) with h | h
  · have hs : t < (flatK E.enc E.K d).size := by rw [size_flatK]; exact h
    obtain ⟨x, hx, e⟩ := E.all_cut d.toList t (by simpa using h)
    rw [e, Array.getElem?_toList, Array.getElem?_eq_getElem hs, ← getElem!_pos (flatK E.enc E.K d) t hs, get_flatK _ _ _ _ h]
    have hx2 : d[t / E.K]? = some x := by rw [← Array.getElem?_toList]; exact hx
    have hd : d[t / E.K]! = x := by rw [getElem!_def, hx2]
    have hm : t % E.K < (E.enc x).length := by rw [E.len]; exact Nat.mod_lt _ E.pos
    rw [hd, List.getElem?_eq_getElem hm]
    first | rfl | simp [hm]
  · rw [List.getElem?_eq_none (by rw [Array.length_toList, size_flatK]; exact h), List.getElem?_eq_none (by rw [E.all_len]; simpa using h)]
theorem cmpLays_of {P : Program} {g blk off size : Nat} {w : World} (h : ∀ x y W, Calls P g #[.agg (E.enc x).toArray, .agg (E.enc y).toArray] W (RetD (.int .i64 (cfK f x y)) W)) : CmpLays P g #[] E.enc E.K (cfK f) blk off size w :=
  fun m os dk _ x y => by
    rw [Array.append_empty]
    exact (h x y _).mono fun _ _ ⟨he, hb⟩ => ⟨he, hb.grow⟩
theorem OwnK.holds {w : World} {B g n c : Nat} {M : List α} (h : OwnK E w B (.slice (some ⟨g, 0, none⟩) n c) M) : HoldsK E.enc E.K w g 0 M.toArray ∧ g < w.heap.size := by
  obtain ⟨_, hb, hc, hm, cur, hg, hs, ht⟩ := h.block
  refine ⟨?_, lt_of_block hg⟩
  have hF := flat_all E M.toArray
  rw [List.toList_toArray] at hF
  have hfs : (flatK E.enc E.K M.toArray).size = M.length * E.K := by rw [size_flatK]; rfl
  intro j hj
  rw [hfs] at hj
  refine ⟨?_, frozen_of_row w g (0 + j) cur _ hg⟩
  rw [Nat.zero_add, cell_of_row w g j _ _ _ hg]
  have h1 : (cur.toList.take (M.length * E.K))[j]? = (flatK E.enc E.K M.toArray).toList[j]? := by rw [ht, hF]
  rw [List.getElem?_take, if_pos hj, Array.getElem?_toList, Array.getElem?_toList, Array.getElem?_eq_getElem (xs := flatK E.enc E.K M.toArray) (by omega)] at h1
  rw [h1, getElem!_pos _ j (by omega)]
  rfl
theorem OwnK.sorted {w w' : World} {B g n c : Nat} {M : List α} (h : OwnK E w B (.slice (some ⟨g, 0, none⟩) n c) M) (hB : B ≤ w.heap.size) {d' : Array α} {q : Nat} {os : Array Obj}
    (hp : PermIn 0 M.toArray.size M.toArray d') (hso : SortedIn (Go.Proofs.ltOf (cfK f)) 0 M.toArray.size d') (hw : w' = sortWorldK E.enc E.K w g 0 q d' os) :
    ∃ S : List α, S.Perm M ∧ S.Pairwise (fun p q => f p ≤ f q) ∧ OwnK E w' B (.slice (some ⟨g, 0, none⟩) n c) S ∧ Below B w w' := by
  subst hw
  obtain ⟨hn, hb, hc, hm, cur, hg, hs, ht⟩ := h.block
  have hlt := lt_of_block hg
  have hms : M.toArray.size = M.length := rfl
  have hds' : d'.size = M.length := hp.1
  have hperm : d'.toList.Perm M := by
    have h3 := hp.2.2
    rw [Array.extract_eq_self_of_le (by omega), Array.extract_eq_self_of_le (by omega)] at h3
    exact h3
  have hF' := flat_all E d'
  have hfs' : (flatK E.enc E.K d').size = M.length * E.K := by rw [size_flatK, hds']
  refine ⟨d'.toList, hperm, ?_, ?_⟩
  · rw [List.pairwise_iff_getElem]
    intro i j hi hj hij
    have hj' : j < d'.size := by simpa using hj
    have hs := hso i j (Nat.zero_le _) hij (by omega)
    rw [ltK, getElem!_pos d' j hj', getElem!_pos d' i (by omega)] at hs
    simp at hs ⊢
    exact hs
  · show OwnK E (grow (putRow id (Sort.ahead w q) g 0 (flatK E.enc E.K d')) os) B _ _ ∧ Below B w (grow (putRow id (Sort.ahead w q) g 0 (flatK E.enc E.K d')) os)
    generalize flatK E.enc E.K d' = F at hF' hfs' ⊢
    have hlen : d'.toList.length = M.length := by simp [hds']
    generalize d'.toList = L at hF' hlen ⊢
    have hheap : ∀ i, i < w.heap.size → (grow (putRow id (Sort.ahead w q) g 0 F) os).heap[i]? = if g = i then some (.cells (putCells id 0 F cur) E.ty (0, 0)) else w.heap[i]? := by
      intro i hi
      simp only [grow, putRow, mapBlock, Sort.ahead]
      rw [Array.getElem?_append_left (by simpa using hi), Array.getElem?_modify]
      by_cases e : g = i
      · subst e
        rw [if_pos rfl, if_pos rfl, hg]
        rfl
      · rw [if_neg e, if_neg e]
    have hFc : F.size ≤ cur.size := by
      rw [hfs', hs]
      exact Nat.mul_le_mul_right _ (by omega)
    obtain ⟨p1, p2⟩ := putK_take F cur hFc
    refine ⟨⟨by rw [E.all_len], .inr ⟨g, c, _, by rw [hlen, hn], hb, by rw [hheap g hlt, if_pos rfl], by omega, hm, by omega, by rw [hlen, ← hfs', p2]; exact hF'⟩⟩, ?_⟩
    refine ⟨rfl, rfl, rfl, by simp [grow, putRow, mapBlock, Sort.ahead], fun i hi => ?_⟩
    rw [hheap i (by omega), if_neg (by omega)]
end
end Go.Proofs.YtaeieigdibanlaaGreatDoor

namespace Go.Proofs
open Go.Shelf
def Tryz.pdqRg_ren : Go.Shelf.Ren := ⟨fun | 14 => 180 | 20 => 215 | 21 => 216 | 22 => 217 | 23 => 218 | 24 => 219 | 25 => 220 | 26 => 221 | 27 => 222 | 46 => 240 | 47 => 233 | 48 => 234 | 49 => 241 | 50 => 242 | 15 => 178 | 57 => 251 | 28 => 206 | 29 => 182 | n => n, fun | 24 => 143 | 22 => 100 | 3 => 3 | 25 => 172 | 4 => 4 | 0 => 0 | 46 => 220 | 45 => 219 | 50 => 144 | 66 => 244 | 39 => 168 | 55 => 31 | 70 => 248 | 76 => 260 | 77 => 189 | 53 => 209 | 5 => 5 | 9 => 9 | n => n, fun | n => n⟩
theorem Tryz.pdqRg : Go.Proofs.SlLaysF0.n14 Tryz.prog Tryz.pdqRg_ren := {
  mixed := by kernel_rfl
  f14 := ⟨Tryz.f180.name, by decide, Tryz.func180.trans (congrArg some (by kernel_rfl))⟩
  f15 := Tryz.func178.trans (congrArg some (by kernel_rfl))
  f20 := ⟨Tryz.f215.name, by decide, Tryz.func215.trans (congrArg some (by kernel_rfl))⟩
  f21 := ⟨Tryz.f216.name, by decide, Tryz.func216.trans (congrArg some (by kernel_rfl))⟩
  f22 := ⟨Tryz.f217.name, by decide, Tryz.func217.trans (congrArg some (by kernel_rfl))⟩
  f23 := ⟨Tryz.f218.name, by decide, Tryz.func218.trans (congrArg some (by kernel_rfl))⟩
  f24 := ⟨Tryz.f219.name, by decide, Tryz.func219.trans (congrArg some (by kernel_rfl))⟩
  f25 := ⟨Tryz.f220.name, by decide, Tryz.func220.trans (congrArg some (by kernel_rfl))⟩
  f26 := ⟨Tryz.f221.name, by decide, Tryz.func221.trans (congrArg some (by kernel_rfl))⟩
  f27 := ⟨Tryz.f222.name, by decide, Tryz.func222.trans (congrArg some (by kernel_rfl))⟩
  f28 := Tryz.func206.trans (congrArg some (by kernel_rfl))
  f29 := Tryz.func182.trans (congrArg some (by kernel_rfl))
  f46 := ⟨Tryz.f240.name, by decide, Tryz.func240.trans (congrArg some (by kernel_rfl))⟩
  f47 := Tryz.func233.trans (congrArg some (by kernel_rfl))
  f48 := Tryz.func234.trans (congrArg some (by kernel_rfl))
  f49 := ⟨Tryz.f241.name, by decide, Tryz.func241.trans (congrArg some (by kernel_rfl))⟩
  f50 := ⟨Tryz.f242.name, by decide, Tryz.func242.trans (congrArg some (by kernel_rfl))⟩
  f57 := ⟨Tryz.f251.name, by decide, Tryz.func251.trans (congrArg some (by kernel_rfl))⟩
  t0 := Tryz.underlying0
  a0 := Tryz.isAgg0
  z0 := Tryz.sizeOf0
  v0 := Tryz.zeroValue0
  t3 := Tryz.underlying3
  a3 := Tryz.isAgg3
  z3 := Tryz.sizeOf3
  v3 := Tryz.zeroValue3
  t4 := Tryz.underlying4
  a4 := Tryz.isAgg4
  z4 := Tryz.sizeOf4
  v4 := Tryz.zeroValue4
  t5 := Tryz.underlying5
  a5 := Tryz.isAgg5
  z5 := Tryz.sizeOf5
  v5 := Tryz.zeroValue5
  t9 := Tryz.underlying9
  a9 := Tryz.isAgg9
  z9 := Tryz.sizeOf9
  v9 := Tryz.zeroValue9
  t22 := Tryz.underlying100
  a22 := Tryz.isAgg100
  z22 := Tryz.sizeOf100
  v22 := Tryz.zeroValue100
  t25 := Tryz.underlying172
  a25 := Tryz.isAgg172
  z25 := Tryz.sizeOf172
  v25 := Tryz.zeroValue172
  t39 := Tryz.underlying168
  a39 := Tryz.isAgg168
  z39 := Tryz.sizeOf168
  v39 := Tryz.zeroValue168
  t45 := Tryz.underlying219
  a45 := Tryz.isAgg219
  z45 := Tryz.sizeOf219
  v45 := Tryz.zeroValue219
  t46 := Tryz.underlying220
  a46 := Tryz.isAgg220
  z46 := Tryz.sizeOf220
  v46 := Tryz.zeroValue220
  t50 := Tryz.underlying144
  a50 := Tryz.isAgg144
  z50 := Tryz.sizeOf144
  v50 := Tryz.zeroValue144
  t53 := Tryz.underlying209
  a53 := Tryz.isAgg209
  z53 := Tryz.sizeOf209
  v53 := Tryz.zeroValue209
  t55 := Tryz.underlying31
  a55 := Tryz.isAgg31
  z55 := Tryz.sizeOf31
  v55 := Tryz.zeroValue31
  t66 := Tryz.underlying244
  a66 := Tryz.isAgg244
  z66 := Tryz.sizeOf244
  v66 := Tryz.zeroValue244
  t70 := Tryz.underlying248
  a70 := Tryz.isAgg248
  z70 := Tryz.sizeOf248
  v70 := Tryz.zeroValue248
  t76 := Tryz.underlying260
  a76 := Tryz.isAgg260
  z76 := Tryz.sizeOf260
  v76 := Tryz.zeroValue260
  t77 := Tryz.underlying189
  a77 := Tryz.isAgg189
  z77 := Tryz.sizeOf189
  v77 := Tryz.zeroValue189 }
open Go.Sort Go.RowKit in
theorem Tryz.slices_pdq_Rg {α : Type} [Inhabited α] (enc : α → List Value) (hk : ∀ x, (enc x).length = 6) (h1 : ∀ x, ∀ v ∈ enc x, v.oneCell' = true) (cf : α → α → Int) (hO : SWO (ltOf cf)) (g : Nat) (cb : Array Value) (blk off cap lim : Nat) (d : Array α) (w : World)
    (eg : ∀ args w, (callFunc g args).run Tryz.prog w = .ok (.enter g args) w) (hcmp : CmpLays Tryz.prog g cb enc 6 cf blk off d.size w) (hH : HoldsK enc 6 w blk off d) (hblk : blk < w.heap.size) (hsz : d.size < 4611686018427387904) (hlim : lim < 4611686018427387904) :
    Calls Tryz.prog 180 #[.slice (some ⟨blk, off, none⟩) d.size cap, .int .i64 (0 : Nat), .int .i64 (d.size : Nat), .int .i64 (lim : Nat), .func (.func g) #[] cb] w fun e w' =>
      e = .returned (.tuple #[]) ∧ ∃ d' n os, PermIn 0 d.size d d' ∧ SortedIn (ltOf cf) 0 d.size d' ∧ w' = sortWorldK enc 6 w blk off n d' os :=
  (AnyQ.pdqsortCmpFunc_all Tryz.pdqRg 6 Tryz.isAgg143 Tryz.sizeOf143 enc cf g cb hO blk off cap d w eg hcmp ⟨hk, h1, hH, hblk⟩ (d.size + 1) 0 d.size lim d w (by omega) rfl (SWK.start hH) (Nat.zero_le _) (Nat.le_refl _) hsz hlim (Or.inl rfl)).mono fun _ _ ⟨he, n, os, hw⟩ =>
    have h := pdq_sorts (ltOf cf) hO d 0 d.size lim true true (Nat.zero_le _) (Nat.le_refl _) (Or.inl rfl)
    ⟨he, _, n, os, h.1, h.2, hw⟩
open Go.Sort Go.RowKit in
theorem Tryz.slices_pdq_Rg_none (p : Option Addr) (cap : Nat) (lim : Int) (fv : Value) (w : World) :
    Calls Tryz.prog 180 #[.slice p 0 cap, .int .i64 0, .int .i64 0, .int .i64 lim, fv] w fun e w' => e = .returned (.tuple #[]) ∧ w' = w :=
  AnyF.pdqsortCmpFunc_none Tryz.pdqRg p cap lim fv w
end Go.Proofs
