/-
  slices.Equal at rows of prefixes and of ranges.
  addr.set, checkPrefixes, Least of the program.
  addr.Least, CheckSet, Ranges of the program.
  addr.CheckSet of the program.
  addr.Ranges and addr.Span of the program.
  A variable made and filled: alloc and store of a whole value at once, the cells whatever.
  Functions of package slices at a row of structs.
  Functions of package slices at a row of structs.
-/
import Derived.Test.YtippolfmljfleaaGreatDoorRT7
import Derived.Test.YtippolfmljfleaaGreatDoorRT3
import Derived.Deep.MidRow
import Derived.Deep.WholeRow
import Derived.Great.Walk
import Derived.BigQuiet
import Derived.Great.BuildSlice
import Derived.Great.FillDense
import Derived.Test.YtippolfmljfleaaGreatDoorRT6
import Derived.WalkSpells
set_option linter.unusedVariables false
namespace Go.Proofs.YtippolfmljfleaaGreatDoor
open Go.RowKit Go
set_option linter.unusedVariables false
end Go.Proofs.YtippolfmljfleaaGreatDoor

namespace Go.Proofs.YtippolfmljfleaaGreatDoor
open Go.RowKit Go
set_option linter.unusedVariables false
end Go.Proofs.YtippolfmljfleaaGreatDoor

namespace Go.Proofs.YtippolfmljfleaaGreatDoor
open Go.RowKit Go
set_option linter.unusedVariables false
end Go.Proofs.YtippolfmljfleaaGreatDoor

namespace Go.Proofs.YtippolfmljfleaaGreatDoor
open Go.RowKit Go
set_option linter.unusedVariables false
end Go.Proofs.YtippolfmljfleaaGreatDoor

namespace Go.Proofs.YtippolfmljfleaaGreatDoor
open Go.RowKit Go
set_option linter.unusedVariables false
theorem RdK.one {α : Type} (E : Lay α) (w : World) (x : α) (cs : Array Value) (t : TypeId) (h : cs = (E.enc x).toArray) : RdK E (w.alloc (.cells cs t (0, 0))) (some ⟨w.heap.size, 0, none⟩) [x] := by
  subst h
  intro i y hy
  obtain rfl : i = 0 := by
    rcases i with _ | i
    · rfl
    · simp at hy
  simp at hy
  subst hy
  refine ⟨w.heap.size, 0, rfl, by simp, fun j v hv => ?_⟩
  rw [cell_of_row _ w.heap.size _ _ _ _ (heap_alloc_new w _)]
  simpa using hv
end Go.Proofs.YtippolfmljfleaaGreatDoor

namespace Go.Proofs.YtippolfmljfleaaGreatDoor
open Go.RowKit Go
set_option linter.unusedVariables false

theorem alloc_of {P : Program} {ty : TypeId} {z : Value} (hz : ∀ w, (zeroValue ty).run P w = .ok z w) (w : World) : (Instr.alloc ty true (.tuple #[])).run P w = .ok (.pointer (some ⟨w.heap.size, 0, none⟩)) (w.alloc (.cells z.cells ty (0, 0))) := by
  simp [Instr.alloc, hz, newVar, newRow]
/-- a value that is stored whole into the block made last -/
theorem wpList_store_newb {P : Program} {ops : Array Oper} {rest : List Oper} {op : Oper} {a : Act} {Q : Exit → Act → World → Prop} {w : World} {c c' : Array Value} (hgd : op.guard = none) (ty : TypeId) (x y : Operand) (ho : op.op = .store ty x y)
    (hx : a.eval x = .pointer (some ⟨w.heap.size, 0, none⟩)) (hy : a.eval y = .agg c') (hi : (P.info? ty).map (·.size) = some c'.size) (hs : c.size = c'.size) (h1 : c'.all (·.oneCell') = true)
    (h : wpList P ops Q rest (a.put op.dst undef) (w.alloc (.cells c' ty (0, 0)))) : wpList P ops Q (op :: rest) a (w.alloc (.cells c ty (0, 0))) :=
  wpList_store_row hgd ty x y ho w.heap.size c' hx hy ty c (heap_alloc_last w _) hi hs h1 (by rw [World.setRow_alloc_new]; exact h)
/-- alloc, then store: the block is there with the value's cells -/
theorem wpList_var {P : Program} {ops : Array Oper} {rest : List Oper} {o1 o2 : Oper} {a : Act} {Q : Exit → Act → World → Prop} {w : World} (c' : Array Value) (ty : TypeId) {z : Value} (hz : ∀ w, (zeroValue ty).run P w = .ok z w)
    (h1 : o1.guard = none) (e1 : o1.op = .alloc ty) (h2 : o2.guard = none) (x y : Operand) (e2 : o2.op = .store ty x y) (d : Option Tmp) (hd : o1.dst = d)
    (hx : (a.put d (.pointer (some ⟨w.heap.size, 0, none⟩))).eval x = .pointer (some ⟨w.heap.size, 0, none⟩)) (hy : (a.put d (.pointer (some ⟨w.heap.size, 0, none⟩))).eval y = .agg c')
    (m : Nat) (hi : (P.info? ty).map (·.size) = some m) (hm : c'.size = m) (hs : z.cells.size = m) (hone : c'.all (·.oneCell') = true)
    (h : wpList P ops Q rest ((a.put d (.pointer (some ⟨w.heap.size, 0, none⟩))).put o2.dst undef) (w.alloc (.cells c' ty (0, 0)))) : wpList P ops Q (o1 :: o2 :: rest) a w := by
  subst hd hm
  refine wpList_plain h1 fun K hK => ?_
  unfold Oper.wp execOp
  simp only [e1, Sem.run_bind, alloc_of hz w, Sem.run_pure, Result.andThen_ok]
  exact hK _ _ (wpList_store_newb h2 ty x y e2 hx hy hi hs hone h)
/-- a load of many cells; their number said apart -/
theorem wpList_loadn {P : Program} {ops : Array Oper} {rest : List Oper} {op : Oper} {a : Act} {w : World} {Q : Exit → Act → World → Prop} (hgd : op.guard = none) (ty : TypeId) (x : Operand) (ho : op.op = .load ty x)
    (b o : Nat) (hx : a.eval x = .pointer (some ⟨b, o, none⟩)) (cs : List Value) (d : TypeDesc) (hc : w.rangeAt b o cs)
    (hu : P.underlying ty = some d) (hd : d.isRow = true) (m : Nat) (hi : (P.info? ty).map (·.size) = some m) (hm : cs.length = m)
    (h : wpList P ops Q rest (a.put op.dst (.agg cs.toArray)) w) : wpList P ops Q (op :: rest) a w := by
  subst hm
  exact wpList_load_mid hgd ty x ho b o hx cs d hc hu hd hi h
/-- a row of one element out of a whole value, its cells whatever -/
theorem wpList_build1 {P : Program} {ops : Array Oper} {rest : List Oper} {o : Oper} {a : Act} {w : World} {Q : Exit → Act → World → Prop} (hg : o.guard = none) (t e : TypeId) (x : Operand) (ho : o.op = .buildSlice t 1 #[(0, x)])
    (X : Array Value) (hx : a.eval x = .agg X) (m : Nat) (hu : P.underlying t = some (.slice e)) (hi : (P.info? e).map (fun i => (i.size, i.zero.map (fun z => z.cells.size))) = some (m, some m)) (hX : X.size = m) (hpos : 0 < m) (hsmall : m ≤ 2 ^ 24)
    (h : wpList P ops Q rest (a.put o.dst (.slice (some ⟨w.heap.size, 0, none⟩) 1 1)) (w.alloc (.cells X e (0, 0)))) : wpList P ops Q (o :: rest) a w := by
  cases hie : P.info? e with
  | none => rw [hie] at hi; cases hi
  | some ie =>
    rw [hie] at hi
    simp only [Option.map_some, Option.some.injEq, Prod.mk.injEq] at hi
    obtain ⟨h1, h2⟩ := hi
    cases hz : ie.zero with
    | none => rw [hz] at h2; cases h2
    | some z =>
      rw [hz] at h2
      simp only [Option.map_some, Option.some.injEq] at h2
      have hf := Go.Great.fill_whole (s := m) hpos [Value.agg X] ((Array.range (1 * m)).map (z.cells[· % z.cells.size]!)) (fun v hv => by rw [List.mem_singleton] at hv; subst hv; exact hX) (by simp)
      have e2 : (([Value.agg X] : List Value).flatMap fun v => v.cells.toList).toArray = X := by simp [Value.cells]
      rw [e2] at hf
      refine wpList_buildSlice hg t e 1 #[(0, x)] ho X ie z hu hie hz (by rw [h1]; omega) (by rw [h1]; omega) ?_ h
      rw [h1]
      simpa [hx] using hf
theorem Blk.range {w : World} {B : Nat} {t : TypeId} {X : List Value} (h : Blk w B t X.toArray) : w.rangeAt B 0 X := fun j v hv => by
  rw [Nat.zero_add, h.cell j]
  simpa using hv
theorem range_below {w w' : World} {b o B : Nat} {A : List Value} (h : w.rangeAt b o A) (hb : Below B w w') (hlt : b < B) : w'.rangeAt b o A := fun j v hv => (hb.cell (p := ⟨b, o + j, none⟩) hlt).trans (h j v hv)
/-- a load of many cells in a quiet region -/
theorem wpQuiet_loadn {P : Program} {ops : Array Oper} {C : World → Prop} {Q : Act → Prop} {o : Oper} {rest : List Oper} {a : Act} (hw : Region.wanted o (yielded ops a.tmps) = true) (ty : TypeId) (x : Operand) (ho : o.op = .load ty x) (dst : Option Tmp) (hdst : o.dst = dst)
    (b off : Nat) (hx : a.eval x = .pointer (some ⟨b, off, none⟩)) (X : Array Value) (hc : ∀ w, C w → w.rangeAt b off X.toList) (d : TypeDesc) (hu : P.underlying ty = some d) (hd : d.isRow = true) (m : Nat) (hi : (P.info? ty).map (·.size) = some m) (hm : X.size = m)
    (h : wpQuiet P ops C Q rest (a.put dst (.agg X))) : wpQuiet P ops C Q (o :: rest) a := by
  subst hm hdst
  refine BigFrame.wpQuiet_want hw fun K hK => ⟨.agg X, fun w hwC => ?_, hK _ h⟩
  have := run_loadAt_mid w b off ty X.toList d (hc w hwC) hu hd (by simpa using hi)
  unfold Oper.quietAt execOp
  simp only [ho, hx, Sem.run_bind, this, Result.andThen_ok, Sem.run_pure]
  exact ⟨rfl, rfl⟩
end Go.Proofs.YtippolfmljfleaaGreatDoor

namespace Go.Proofs.YtippolfmljfleaaGreatDoor
open Go.RowKit Go
set_option linter.unusedVariables false

set_option maxRecDepth 100000 in
set_option maxHeartbeats 8000000 in
theorem compactFuncRb_any (B : Nat) (ad : Option Addr) (n c : Nat) (L : List RB) (w : World) (h : OwnK layRb w B (.slice ad n c) L) (hs : n ≤ 1000000) (hB : B ≤ w.heap.size) (eq : RB → RB → Bool) (hc : ∀ x y wx, Calls Tryz.prog 38 #[.agg (layRb.enc x).toArray, .agg (layRb.enc y).toArray] wx (Ret (.bool (eq x y)) wx)) :
    Calls Tryz.prog 37 #[.slice ad n c, .func (.func 38) #[] #[]] w fun e w' => ∃ v, e = .returned v ∧ OwnK layRb w' B v (compL eq L) ∧ Grew w w' (.slice ad n c) v := by
  have hn : L.length = n := by
    obtain ⟨_, _, hv, _⟩ := h.form
    injection hv with _ e _
    exact e.symm
  have HO := Lib.hid h
  have Hn := Lib.hid hn
  have HCl := Lib.hid hc
  clear h hc
  by_cases h2 : n < 2
  · have HF : Hid (compL eq L = L) := Lib.hid (by
      cases L with
      | nil => rfl
      | cons x l =>
        cases l with
        | nil => rfl
        | cons y l => simp at hn; omega)
    clear hn
    go_enter Tryz.func37, Tryz.ntmps37
    go_wp2_with fail
    go_ret
    exact ⟨_, rfl, by rw [HF.out]; exact HO.out, Grew.refl _ _⟩
  · obtain ⟨g, c', hv, hBg, -⟩ := HO.out.one (by rw [hn]; omega)
    injection hv with hv q1 q2
    subst hv
    clear q1 q2 hn
    have hgw : g < w.heap.size := own_lt HO.out g rfl
    have hnc : n ≤ c := HO.out.block.2.2.1
    have hcm : c ≤ 9223372036854775807 := by have := HO.out.block.2.2.2.1; unfold maxLen at this; omega
    have b0 : ¬ (n : Int) < 2 := by omega
    go_enter Tryz.func37, Tryz.ntmps37
    go_wp2_with fail
    go_loopw [5] (fun i wr => ∃ k : Nat, k + 1 ≤ n ∧ i = .int .i64 ((k + 1 : Nat) : Int) ∧ Hid (compL eq (L.take (k + 1)) = L.take (k + 1)) ∧ Hid (Below w.heap.size w wr)) (fun i _ => n - (intOf i).toNat)
    case atStart => exact ⟨0, by omega, by first | rfl | simp, Lib.hid (by
      cases L with
      | nil => rfl
      | cons x l => rfl), Lib.hid (Below.refl _ _)⟩
    case round =>
      obtain ⟨k, hk, rfl, HD, HB⟩ := hrel
      by_cases hlt : k + 1 < n
      · obtain ⟨x, hx⟩ : ∃ x, L[k + 1]? = some x := ⟨_, List.getElem?_eq_getElem (by rw [Hn.out]; exact hlt)⟩
        obtain ⟨y, hy⟩ : ∃ x, L[k]? = some x := ⟨_, List.getElem?_eq_getElem (by rw [Hn.out]; omega)⟩
        have HOr : Hid (OwnK layRb wr B (.slice (some ⟨g, 0, none⟩) n c) L) := Lib.hid (HO.out.later HB.out)
        have HX : Hid (∀ wx, (∃ m : Later wr, wx = m.1) → wx.rangeAt g ((k + 1) * 14) ((layRb.enc x).toArray).toList) := Lib.hid fun wx ⟨m, hm⟩ => by subst hm; exact (HOr.out.later m.2).cellsAt hx
        have HY : Hid (∀ wx, (∃ m : Later wr, wx = m.1) → wx.rangeAt g (k * 14) ((layRb.enc y).toArray).toList) := Lib.hid fun wx ⟨m, hm⟩ => by subst hm; exact (HOr.out.later m.2).cellsAt hy
        have HT := Lib.hid (compL_take eq hx hy)
        have hQ := fun m : Later wr => Calls.later m (HCl.out x y m.1)
        have Xs : ((layRb.enc x).toArray).size = 14 := by simp [layRb.len]; rfl
        have Ys : ((layRb.enc y).toArray).size = 14 := by simp [layRb.len]; rfl
        obtain ⟨X, hX⟩ : ∃ X, (layRb.enc x).toArray = X := ⟨_, rfl⟩
        obtain ⟨Y, hY⟩ : ∃ Y, (layRb.enc y).toArray = Y := ⟨_, rfl⟩
        have Hx := Lib.hid hx
        have Hy := Lib.hid hy
        rw [hX] at HX Xs hQ
        rw [hY] at HY Ys hQ
        clear hX hY hx hy
        have e1 : (((k + 1 : Nat) : Int) - 1) = (k : Int) := by omega
        have e2 : IntKind.i64.wrap (k : Int) = (k : Int) := by rw [IntKind.wrap_i64]; omega
        have e3 : wrap64 (((k + 1 : Nat) : Int) - 1) = (k : Int) := by unfold wrap64; omega
        have b1 : (0 : Int) ≤ (k : Int) := by omega
        have b2 : (k : Int) < (n : Int) := by omega
        have b3 : (0 : Int) ≤ ((k + 1 : Nat) : Int) := by omega
        have b4 : ((k + 1 : Nat) : Int) < (n : Int) := by omega
        obtain ⟨E, hE⟩ : ∃ E, eq x y = E := ⟨_, rfl⟩
        rw [hE] at hQ HT
        clear hE
        go_upto_region 6 with fail
        refine wp_region_later (by kernel_rfl) (by kernel_rfl) ?_
        repeat (first | (refine wpQuiet_loadn rfl 45 _ rfl _ rfl g ((k + 1) * 14) rfl X HX.out _ under_rb rfl 14 size_rb Xs ?_; go_simp) | (refine wpQuiet_loadn rfl 45 _ rfl _ rfl g (k * 14) rfl Y HY.out _ under_rb rfl 14 size_rb Ys ?_; go_simp) | go_big_quiet_step ((go_at_call 38; exact hQ _)))
        refine wpQuiet_nil ?_
        rintro ⟨w3, hb⟩
        dsimp only
        clear hQ HX HY Xs Ys
        have HB3 : Hid (Below w.heap.size w w3) := Lib.hid (HB.out.trans (hb.mono HB.out.size))
        have HO3 : Hid (OwnK layRb w3 B (.slice (some ⟨g, 0, none⟩) n c) L) := Lib.hid (HO.out.later HB3.out)
        clear hb HB HOr
        cases E
        · have HD2 : Hid (compL eq (L.take (k + 1 + 1)) = L.take (k + 1 + 1)) := Lib.hid (by
            rw [HT.out, HD.out, if_neg (by simp)]
            have hk1 : k + 1 < L.length := by rw [Hn.out]; exact hlt
            rw [List.take_succ_eq_append_getElem hk1]
            have := Hx.out
            rw [List.getElem?_eq_getElem hk1] at this
            injection this with this
            rw [this])
          clear HT HD
          go_wp2_with fail
          exact ⟨⟨k + 1, by omega, by go_num, HD2, HB3⟩, by simp [intOf]; omega⟩
        · have HD2 : Hid (∃ D : List RB, OwnK layRb w3 B (.slice (some ⟨g, 0, none⟩) n c) D ∧ D.take (k + 1) = compL eq (L.take (k + 1 + 1)) ∧ ∀ t, k + 1 ≤ t → D[t]? = L[t]?) := Lib.hid ⟨L, HO3.out, by rw [HT.out, HD.out, if_pos rfl, List.append_nil], fun t _ => rfl⟩
          have HG3 : Hid (Grew w w3 (.slice (some ⟨g, 0, none⟩) n c) (.slice (some ⟨g, 0, none⟩) n c)) := Lib.hid ⟨⟨HB3.out.os, HB3.out.tape, HB3.out.output, HB3.out.size, fun j hj _ => HB3.out.block j hj⟩, .inl rfl⟩
          clear HT HD HO3 HB3 Hx Hy e1 e2 e3 b1 b2
          have hck : ¬ c = (k + 1) := by omega
          have b5 : ((k + 1 : Nat) : Int) ≤ (c : Int) := by omega
          have b6 : ((k + 1 : Nat) : Int) ≤ (n : Int) := by omega
          have b7 : (n : Int) ≤ (c : Int) := by omega
          go_wp2_with fail
          go_loopw [5, 7] (fun iv jv wr => ∃ (i q : Nat), i < (k + 1) + q + 1 ∧ (k + 1) + q + 1 ≤ n ∧ iv = .int .i64 (i : Int) ∧ jv = .int .i64 ((q + 1 : Nat) : Int) ∧ Hid (∃ D : List RB, OwnK layRb wr B (.slice (some ⟨g, 0, none⟩) n c) D ∧ D.take i = compL eq (L.take ((k + 1) + q + 1)) ∧ ∀ t, (k + 1) + q ≤ t → D[t]? = L[t]?) ∧ Hid (Grew w wr (.slice (some ⟨g, 0, none⟩) n c) (.slice (some ⟨g, 0, none⟩) n c))) (fun _ jv _ => n - (intOf jv).toNat)
          case atStart => exact ⟨k + 1, 0, by omega, by omega, by first | rfl | simp, by first | rfl | simp, HD2, HG3⟩
          case round =>
            clear HD2 HG3
            obtain ⟨i, q, hiq, hqn, rfl, rfl, HD, HG⟩ := hrel
            obtain ⟨D, hD, hDi, hDj⟩ := HD.out
            have HDo := Lib.hid hD
            have HDi := Lib.hid hDi
            have HDj := Lib.hid hDj
            clear hD hDi hDj HD
            have hDl : D.length = n := HDo.out.block.1.symm
            have HDl := Lib.hid hDl
            clear hDl
            have e6 : (n : Int) - ((k + 1 : Nat) : Int) = ((n - (k + 1) : Nat) : Int) := by omega
            by_cases hlt2 : (k + 1) + q + 1 < n
            · obtain ⟨x, hx⟩ : ∃ x, L[(k + 1) + q + 1]? = some x := ⟨_, List.getElem?_eq_getElem (by rw [Hn.out]; exact hlt2)⟩
              obtain ⟨y, hy⟩ : ∃ x, L[(k + 1) + q]? = some x := ⟨_, List.getElem?_eq_getElem (by rw [Hn.out]; omega)⟩
              have HX : Hid (∀ wx, (∃ m : Later wr, wx = m.1) → wx.rangeAt g ((k + 1) * 14 + (q + 1) * 14) ((layRb.enc x).toArray).toList) := Lib.hid fun wx ⟨m, hm⟩ => by
                subst hm
                rw [← Nat.add_mul, ← Nat.add_assoc]
                exact (HDo.out.later m.2).cellsAt ((HDj.out _ (by omega)).trans hx)
              have HY : Hid (∀ wx, (∃ m : Later wr, wx = m.1) → wx.rangeAt g ((k + 1) * 14 + q * 14) ((layRb.enc y).toArray).toList) := Lib.hid fun wx ⟨m, hm⟩ => by
                subst hm
                rw [← Nat.add_mul]
                exact (HDo.out.later m.2).cellsAt ((HDj.out _ (by omega)).trans hy)
              have HT := Lib.hid (compL_take eq hx hy)
              have hQ := fun m : Later wr => Calls.later m (HCl.out x y m.1)
              have Xs : ((layRb.enc x).toArray).size = 14 := by simp [layRb.len]; rfl
              have Ys : ((layRb.enc y).toArray).size = 14 := by simp [layRb.len]; rfl
              have Xo : ((layRb.enc x).toArray).all (·.oneCell') = true := all_oneCell_toArray (layRb.one x)
              have HXe : Hid (∀ wx, OwnK layRb wx B (.slice (some ⟨g, 0, none⟩) n c) D → i < n → OwnK layRb (wx.setCells g (i * 14) ((layRb.enc x).toArray).toList) B (.slice (some ⟨g, 0, none⟩) n c) (D.set i x)) := Lib.hid fun wx h hi => h.setRow hi x
              obtain ⟨X, hX⟩ : ∃ X, (layRb.enc x).toArray = X := ⟨_, rfl⟩
              obtain ⟨Y, hY⟩ : ∃ Y, (layRb.enc y).toArray = Y := ⟨_, rfl⟩
              have Hx := Lib.hid hx
              rw [hX] at HX Xs Xo HXe hQ
              rw [hY] at HY Ys hQ
              clear hX hY hx hy
              have e1 : (((q + 1 : Nat) : Int) - 1) = (q : Int) := by omega
              have e2 : IntKind.i64.wrap (q : Int) = (q : Int) := by rw [IntKind.wrap_i64]; omega
              have e3 : wrap64 (((q + 1 : Nat) : Int) - 1) = (q : Int) := by unfold wrap64; omega
              have c1 : (0 : Int) ≤ (q : Int) := by omega
              have c2 : (q : Int) < ((n - (k + 1) : Nat) : Int) := by omega
              have c3 : (0 : Int) ≤ ((q + 1 : Nat) : Int) := by omega
              have c4 : ((q + 1 : Nat) : Int) < ((n - (k + 1) : Nat) : Int) := by omega
              obtain ⟨E, hE⟩ : ∃ E, eq x y = E := ⟨_, rfl⟩
              rw [hE] at hQ HT
              clear hE
              go_upto_region 11 with fail
              refine wp_region_later (by kernel_rfl) (by kernel_rfl) ?_
              repeat (first | (refine wpQuiet_loadn rfl 45 _ rfl _ rfl g ((k + 1) * 14 + (q + 1) * 14) rfl X HX.out _ under_rb rfl 14 size_rb Xs ?_; go_simp) | (refine wpQuiet_loadn rfl 45 _ rfl _ rfl g ((k + 1) * 14 + q * 14) rfl Y HY.out _ under_rb rfl 14 size_rb Ys ?_; go_simp) | go_big_quiet_step ((go_at_call 38; exact hQ _)))
              refine wpQuiet_nil ?_
              rintro ⟨w3, hb⟩
              dsimp only
              have HX3 : Hid (w3.rangeAt g ((k + 1) * 14 + (q + 1) * 14) X.toList) := Lib.hid (HX.out w3 ⟨⟨w3, hb⟩, rfl⟩)
              clear hQ HX HY Ys
              have HD3 := Lib.hid (HDo.out.later hb)
              have HG3 : Hid (Grew w w3 (.slice (some ⟨g, 0, none⟩) n c) (.slice (some ⟨g, 0, none⟩) n c)) := Lib.hid (HG.out.trans ⟨⟨hb.os, hb.tape, hb.output, hb.size, fun j hj _ => hb.block j hj⟩, .inl rfl⟩)
              clear hb HDo HG
              cases E
              · have HQ : Hid (compL eq (L.take ((k + 1) + q + 1 + 1)) = compL eq (L.take ((k + 1) + q + 1)) ++ [x]) := Lib.hid (by rw [HT.out, if_neg (by simp)])
                have hin : i < n := by omega
                have i1 : (i : Int) < (n : Int) := by omega
                have HTH : Hid (w3.there g (i * 14) X.size) := Lib.hid (by rw [Xs]; exact HD3.out.there (by show i * 14 + 14 ≤ n * 14; omega))
                have HI4 : Hid ((Tryz.prog.info? 45).map (·.size) = some X.size) := Lib.hid (by rw [Xs]; exact size_rb)
                have HD5 := Lib.hid (HXe.out w3 HD3.out hin)
                have HG5 : Hid (Grew w (w3.setCells g (i * 14) X.toList) (.slice (some ⟨g, 0, none⟩) n c) (.slice (some ⟨g, 0, none⟩) n c)) := Lib.hid (HG3.out.trans ⟨grown_setCells g X.toList (i * 14) w3, .inl rfl⟩)
                have HDn : Hid (∃ D : List RB, OwnK layRb (w3.setCells g (i * 14) X.toList) B (.slice (some ⟨g, 0, none⟩) n c) D ∧ D.take (i + 1) = compL eq (L.take ((k + 1) + (q + 1) + 1)) ∧ ∀ t, (k + 1) + (q + 1) ≤ t → D[t]? = L[t]?) := Lib.hid ⟨D.set i x, HD5.out, by
                  have hi : i < D.length := by rw [HDl.out]; omega
                  rw [show (k + 1) + (q + 1) + 1 = (k + 1) + q + 1 + 1 by omega, HQ.out, ← HDi.out, List.take_succ_eq_append_getElem (by simpa using hi), List.getElem_set_self, List.take_set_of_le (Nat.le_refl _)], fun t ht => by
                  rw [List.getElem?_set_ne (by omega)]
                  exact HDj.out t (by omega)⟩
                clear HDi HDj HD5 HQ HD3 HG3 HT HXe
                go_upto_region 13 with (first | (refine wpList_loadn rfl 45 _ rfl g ((k + 1) * 14 + (q + 1) * 14) rfl X.toList _ HX3.out under_rb rfl 14 size_rb (by simpa using Xs) ?_; go_simp) | (refine wpList_store_mid rfl 45 _ _ rfl g (i * 14) X rfl rfl HTH.out HI4.out Xo ?_; show wpList _ _ _ _ _ (w3.setCells g (i * 14) X.toList)))
                generalize w3.setCells g (i * 14) X.toList = w5 at *
                clear HX3 HTH HI4 Xs Xo
                go_wp2_with fail
                exact ⟨⟨i + 1, q + 1, by omega, by omega, by go_num, by go_num, HDn, HG5⟩, by simp [intOf]; omega⟩
              · have HDn : Hid (∃ D : List RB, OwnK layRb w3 B (.slice (some ⟨g, 0, none⟩) n c) D ∧ D.take i = compL eq (L.take ((k + 1) + (q + 1) + 1)) ∧ ∀ t, (k + 1) + (q + 1) ≤ t → D[t]? = L[t]?) := Lib.hid ⟨D, HD3.out, by
                  rw [show (k + 1) + (q + 1) + 1 = (k + 1) + q + 1 + 1 by omega, HT.out, if_pos rfl, List.append_nil]; exact HDi.out, fun t ht => HDj.out t (by omega)⟩
                clear HDi HDj HT HD3 HXe HX3 Xs Xo
                go_wp2_with fail
                exact ⟨⟨i, q + 1, by omega, by omega, rfl, by go_num, HDn, HG3⟩, by simp [intOf]; omega⟩
            · obtain rfl : n = (k + 1) + q + 1 := by omega
              have HT : Hid (D.take i = compL eq L) := Lib.hid (by rw [HDi.out, compL_all _ _ _ (by rw [Hn.out]; exact Nat.le_refl _)])
              have hgr : g < wr.heap.size := own_lt HDo.out g rfl
              have hci : ¬ c = i := by omega
              have f1 : ¬ ((q + 1 : Nat) : Int) < (((k + 1) + q + 1 - (k + 1) : Nat) : Int) := by omega
              have f2 : (i : Int) ≤ (c : Int) := by omega
              have f3 : (i : Int) ≤ (((k + 1) + q + 1 : Nat) : Int) := by omega
              obtain ⟨zv, hz1, hz2, hz3⟩ := zval_rb
              have HCL : ∀ ty c', (Builtin.clear_ #[26] ty #[.slice (some ⟨g, i * 14, none⟩) ((k + 1) + q + 1 - i) c']).run Tryz.prog wr = .ok (.tuple #[]) (wr.setCells g (i * 14) (Builtin.zeroCells zv.cells ((k + 1) + q + 1 - i)).toList) := fun ty c' => by
                refine run_clear_rows wr 26 45 ty zv Tryz.underlying26 hz2 ?_ g (i * 14) ((k + 1) + q + 1 - i) c' (by omega) ?_ (by rw [hz1]; decide)
                · exact hz3
                · rw [hz1]
                  exact HDo.out.there (by show i * 14 + ((k + 1) + q + 1 - i) * 14 ≤ ((k + 1) + q + 1) * 14; rw [← Nat.add_mul]; exact Nat.mul_le_mul_right _ (by omega))
              have HOW := Lib.hid (HDo.out.cut (i := i) (by omega) (Builtin.zeroCells zv.cells ((k + 1) + q + 1 - i)).toList)
              have HGW : Hid (Grew w (wr.setCells g (i * 14) (Builtin.zeroCells zv.cells ((k + 1) + q + 1 - i)).toList) (.slice (some ⟨g, 0, none⟩) ((k + 1) + q + 1) c) (.slice (some ⟨g, 0, none⟩) i c)) := Lib.hid (HG.out.trans ⟨grown_setCells g _ (i * 14) wr, .inl rfl⟩)
              rw [HT.out] at HOW
              clear HDi HDj HG HDo hz1 hz2 hz3
              generalize (Builtin.zeroCells zv.cells ((k + 1) + q + 1 - i)).toList = ZS at *
              go_wp2_with fail
              go_ret
              exact ⟨_, rfl, HOW.out, HGW.out⟩
      · obtain rfl : n = k + 1 := by omega
        have HT : Hid (compL eq L = L) := Lib.hid (by
          have := HD.out
          rw [List.take_of_length_le (by rw [Hn.out]; exact Nat.le_refl _)] at this
          exact this)
        clear HD
        go_wp2_with fail
        go_ret
        exact ⟨_, rfl, by rw [HT.out]; exact HO.out.later HB.out, ⟨⟨HB.out.os, HB.out.tape, HB.out.output, HB.out.size, fun j hj _ => HB.out.block j hj⟩, .inl rfl⟩⟩
end Go.Proofs.YtippolfmljfleaaGreatDoor

namespace Go.Proofs.YtippolfmljfleaaGreatDoor
open Go.RowKit Go
set_option linter.unusedVariables false

end Go.Proofs.YtippolfmljfleaaGreatDoor
