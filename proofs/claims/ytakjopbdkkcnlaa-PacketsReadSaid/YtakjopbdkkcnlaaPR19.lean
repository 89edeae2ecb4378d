/-
  Two packets with the same fields and equal payloads are the same for the reference's SamePacket.
-/
import Derived.Test.YtakjopbdkkcnlaaPR16
import Derived.ChangeKeysEq
set_option linter.unusedVariables false
namespace Go.Proofs.Ytakjopbdkkcnlaa
open Go.RowKit Go
set_option linter.unusedVariables false

theorem Op1.store_row {P : Program} {o : Oper} {ρ : Operand → Value} {w : World} {post : Value → World → Prop} (ty : TypeId) (x y : Operand) (ho : o.op = .store ty x y)
  (g : Nat) (cells : Array Value) (hx : ρ x = .pointer (some ⟨g, 0, none⟩)) (hy : ρ y = .agg cells) (t : TypeId) (old : Array Value) (hg : w.heap[g]? = some (.cells old t (0, 0))) (hi : (P.info? ty).map (·.size) = some cells.size)
  (hold : old.size = cells.size) (h1 : cells.all (·.oneCell') = true) (h : post undef (w.setRow g cells)) : Op1 P o ρ w post := by
 unfold Op1 execOp
 simp only [ho, hx, hy, Instr.storeAt, Instr.sureAddr, Sem.run_bind, Sem.run_pure, Result.andThen_ok, run_storeVar_row w g t ty old cells hg hi hold h1]
 exact h
theorem eq9 (a b c d e f g : Int) (w : World) : (Op.equalIn 10000 102 (.agg #[.int .i64 a, .int .i64 b, .int .i64 c, .int .i64 d, .int .i64 e, .int .i64 f, .int .i64 g, .int .i64 0, .int .i64 0]) (.agg #[.int .i64 a, .int .i64 b, .int .i64 c, .int .i64 d, .int .i64 e, .int .i64 f, .int .i64 g, .int .i64 0, .int .i64 0])).run Try.prog w = .ok true w := by
 obtain ⟨i, hi⟩ : ∃ i, Try.prog.info? 3 = some i := Option.isSome_iff_exists.1 (by kernel_rfl)
 have hu : Try.prog.underlying 102 = some (.array 9 3) := by kernel_rfl
 have h := run_equalIn_array (P := Try.prog) w 9999 (t := 102) #[.int .i64 a, .int .i64 b, .int .i64 c, .int .i64 d, .int .i64 e, .int .i64 f, .int .i64 g, .int .i64 0, .int .i64 0] #[.int .i64 a, .int .i64 b, .int .i64 c, .int .i64 d, .int .i64 e, .int .i64 f, .int .i64 g, .int .i64 0, .int .i64 0] hu hi
 rw [h]
 have hc : Try.prog.cellsOf 3 = 1 := by kernel_rfl
 have he : ∀ (x : Int) (w : World), (Op.equalIn 9999 3 (.int .i64 x) (.int .i64 x)).run Try.prog w = .ok true w := fun x w => by
  have := run_equalIn_int (P := Try.prog) w 9998 3 .i64 .i64 x x (by kernel_rfl)
  simpa using this
 rw [hc]
 simp only [List.range_eq_range', List.range', Op.eqItems, Sem.run_bind]
 go_simp
theorem eq5 (a b c d e : Bool) (w : World) : (Op.equalIn 10000 103 (.agg #[.bool a, .bool b, .bool c, .bool d, .bool e]) (.agg #[.bool a, .bool b, .bool c, .bool d, .bool e])).run Try.prog w = .ok true w := by
 obtain ⟨i, hi⟩ : ∃ i, Try.prog.info? 4 = some i := Option.isSome_iff_exists.1 (by kernel_rfl)
 have hu : Try.prog.underlying 103 = some (.array 5 4) := by kernel_rfl
 have h := run_equalIn_array (P := Try.prog) w 9999 (t := 103) #[.bool a, .bool b, .bool c, .bool d, .bool e] #[.bool a, .bool b, .bool c, .bool d, .bool e] hu hi
 rw [h]
 have hc : Try.prog.cellsOf 4 = 1 := by kernel_rfl
 have he : ∀ (x : Bool) (w : World), (Op.equalIn 9999 4 (.bool x) (.bool x)).run Try.prog w = .ok true w := fun x w => by
  have := run_equalIn_bool (P := Try.prog) w 9998 4 x x (by kernel_rfl)
  simpa using this
 rw [hc]
 simp only [List.range_eq_range', List.range', Op.eqItems, Sem.run_bind]
 go_simp
/-- two blocks are made, in whatever order, one is filled -/
def SP (u : World) (a : PV) (T : Nat → Value) (n : Nat) (w : World) : Prop :=
 Below u.heap.size u w ∧
 ((n = 0) ∨ (n = 1 ∧ ∃ X, T 2 = .pointer (some ⟨X, 0, none⟩) ∧ u.heap.size ≤ X ∧ PBlk w X PV.zero) ∨ (n = 2 ∧ ∃ Y, T 3 = .pointer (some ⟨Y, 0, none⟩) ∧ u.heap.size ≤ Y ∧ PBlk w Y PV.zero) ∨
  (n = 3 ∧ ∃ X Y, T 2 = .pointer (some ⟨X, 0, none⟩) ∧ T 3 = .pointer (some ⟨Y, 0, none⟩) ∧ X ≠ Y ∧ u.heap.size ≤ X ∧ u.heap.size ≤ Y ∧ PBlk w X PV.zero ∧ PBlk w Y PV.zero) ∨
  (n = 7 ∧ ∃ X Y, T 2 = .pointer (some ⟨X, 0, none⟩) ∧ T 3 = .pointer (some ⟨Y, 0, none⟩) ∧ X ≠ Y ∧ u.heap.size ≤ X ∧ u.heap.size ≤ Y ∧ PBlk w X a ∧ PBlk w Y PV.zero))
theorem SP.on {u : World} {a : PV} {T : Nat → Value} {n : Nat} {w : World} (h : SP u a T n w) (i : Nat) (v : Value) (h2 : i ≠ 2) (h3 : i ≠ 3) : SP u a (Lt.on T i v) n w := by
 have e2 : Lt.on T i v 2 = T 2 := if_neg (fun e => h2 e.symm)
 have e3 : Lt.on T i v 3 = T 3 := if_neg (fun e => h3 e.symm)
 unfold SP
 rw [e2, e3]
 exact h
def spR (a b : PV) (p : Nat) (v : Value) (n : Nat) : Prop :=
 match p with
 | 0 => v = .agg a.cells
 | 1 => v = .agg b.cells
 | 2 => n = 1 ∨ n = 3 ∨ n = 7
 | 3 => n = 2 ∨ n = 3 ∨ n = 7
 | 4 => n = 7
 | _ => True
def spS (n n' : Nat) : Prop := (n = 1 ∨ n = 3 ∨ n = 7 → n' = 1 ∨ n' = 3 ∨ n' = 7) ∧ (n = 2 ∨ n = 3 ∨ n = 7 → n' = 2 ∨ n' = 3 ∨ n' = 7) ∧ (n = 7 → n' = 7)
theorem spS.refl (n : Nat) : spS n n := ⟨id, id, id⟩
theorem spS.keep {a b : PV} {p : Nat} {v : Value} {n n' : Nat} (h : spR a b p v n) (hs : spS n n') : spR a b p v n' := by
 unfold spR at *
 split <;> simp only at h ⊢
 ·exact h
 ·exact h
 ·exact hs.1 h
 ·exact hs.2.1 h
 ·exact hs.2.2 h
theorem PBlk.alloc' {w : World} {B : Nat} {x : PV} (h : PBlk w B x) (o : Obj) : PBlk (w.alloc o) B x := Blk.alloc h o
set_option maxRecDepth 100000 in
set_option maxHeartbeats 8000000 in
theorem same_any (y : NP) (va vb : Value) (M : List UInt8) (w : World) (ha : Rb w.heap.size w va M) (hb : Rb w.heap.size w vb M) :
  Calls Try.prog 31 #[.agg (y.pv va).cells, .agg (y.pv vb).cells] w (Ret (.bool true) w) := by
 have HA0 : Hid (PBlk (w.alloc (.cells (y.pv va).cells 45 (0, 0))) w.heap.size (y.pv va)) := Lib.hid (Blk.new w _ _)
 have HA : Hid (PBlk ((w.alloc (.cells (y.pv va).cells 45 (0, 0))).alloc (.cells (y.pv vb).cells 45 (0, 0))) w.heap.size (y.pv va)) := Lib.hid (HA0.out.alloc' _)
 have HB2 : Hid (PBlk ((w.alloc (.cells (y.pv va).cells 45 (0, 0))).alloc (.cells (y.pv vb).cells 45 (0, 0))) (w.heap.size + 1) (y.pv vb)) := Lib.hid (by have := Blk.new (w.alloc (.cells (y.pv va).cells 45 (0, 0))) 45 (y.pv vb).cells; rw [World.size_alloc] at this; exact this)
 have HBw : Hid (Below w.heap.size w ((w.alloc (.cells (y.pv va).cells 45 (0, 0))).alloc (.cells (y.pv vb).cells 45 (0, 0)))) := Lib.hid (below_alloc (below_alloc (Below.refl _ _) _) _)
 have HRa0 := Lib.hid ha
 have HRb0 := Lib.hid hb
 obtain ⟨aa, ca, eva, -⟩ := id ha
 obtain ⟨ab, cb, evb, -⟩ := id hb
 clear ha hb HA0
 have hoa : (y.pv va).pay.oneCell' = true := by show va.oneCell' = true; rw [eva]; rfl
 have hob : (y.pv vb).pay.oneCell' = true := by show vb.oneCell' = true; rw [evb]; rfl
 have Hoa := Lib.hid (And.intro hoa hob)
 have Hev := Lib.hid (And.intro eva evb)
 clear hoa hob eva evb
 go_enter Try.func31, Try.ntmps31
 go_upto_region 1 with fail
 generalize (w.alloc (.cells (y.pv va).cells 45 (0, 0))).alloc (.cells (y.pv vb).cells 45 (0, 0)) = u at *
 generalize w.heap.size + 1 = B2 at *
 generalize hAw : w.heap.size = A at *
 have HAw := Lib.hid hAw
 clear hAw
 refine Lt.wp_region_lim 5 7 (fun p vv nq ww => spR (y.pv va) (y.pv vb) p vv nq) (fun T nq ww => SP u.drew (y.pv va) T nq ww) (fun nq ww n' w' => spS nq n') (fun q => if q = 2 then 1 else if q = 3 then 2 else if q = 4 then 4 else 0) (fun q => if q = 0 ∨ q = 4 then 3 else if q = 2 then 2 else if q = 3 then 1 else 7)
  (by kernel_rfl) (by kernel_rfl) (by decide) (by kernel_rfl) (fun p vv nq ww n' w' h hs => spS.keep h hs) (fun T => ⟨Below.refl _ _, .inl rfl⟩) ?hX1
 case' hX1 => (apply Exists.intro; refine ⟨fun T => ?hA1, ?hob1, ?hend1⟩)
 case hA1 =>
  simp only [setAll, List.take_succ_cons, List.take_zero, Act.put, List.setIfInBounds_toArray, List.set_cons_succ, List.set_cons_zero, Nat.reduceAdd]
  exact rfl
 case hob1 =>
  refine ⟨?_, ?_, ?_, ?_, ?_, trivial⟩
  ·intro T wx nq hU hC hn hp
   exact Op1.load_row 45 (.tmp 2) rfl A rfl 45 (y.pv va).cells (0, 0) _ (Blk.below (Blk.drewN HA.out 1) hC.1 (Blk.lt HA.out)) Try.underlying45 rfl (by kernel_rfl) ⟨rfl, hC.on 0 _ (by decide) (by decide), spS.refl _⟩
  ·intro T wx nq hU hC hn hp
   exact Op1.load_row 45 (.tmp 3) rfl B2 rfl 45 (y.pv vb).cells (0, 0) _ (Blk.below (Blk.drewN HB2.out 1) hC.1 (Blk.lt HB2.out)) Try.underlying45 rfl (by kernel_rfl) ⟨rfl, hC.on 1 _ (by decide) (by decide), spS.refl _⟩
  ·intro T wx nq hU hC hn hp
   have hn : nq ≤ 2 := hn
   refine Op1.g fun _ Z => ?_; go_simp
   refine Z _ _ ?_
   have hz : PBlk (wx.alloc (.cells ZC 45 (0, 0))) wx.heap.size PV.zero := Blk.new wx _ _
   have hbz := below_alloc hC.1 (.cells ZC 45 (0, 0))
   rcases hC.2 with rfl | ⟨rfl, X, h1, -⟩ | ⟨rfl, Y, h1, h2, h3⟩ | ⟨rfl, h⟩ | ⟨rfl, h⟩
   ·exact ⟨show spR _ _ 2 _ 1 from .inl rfl, ⟨hbz, .inr (.inl ⟨rfl, wx.heap.size, rfl, hC.1.size, hz⟩)⟩, show spS 0 1 from ⟨fun h => by omega, fun h => by omega, fun h => by omega⟩⟩
   ·rw [hU] at h1; cases h1
   ·exact ⟨show spR _ _ 2 _ 3 from .inr (.inl rfl), ⟨hbz, .inr (.inr (.inr (.inl ⟨rfl, wx.heap.size, Y, rfl, h1, fun e => by have := Blk.lt h3; omega, hC.1.size, h2, hz, h3.alloc' _⟩)))⟩, show spS 2 3 from ⟨fun h => by omega, fun h => by omega, fun h => by omega⟩⟩
   ·omega
   ·omega
  ·intro T wx nq hU hC hn hp
   have hn : nq ≤ 1 := hn
   refine Op1.g fun _ Z => ?_; go_simp
   refine Z _ _ ?_
   have hz : PBlk (wx.alloc (.cells ZC 45 (0, 0))) wx.heap.size PV.zero := Blk.new wx _ _
   have hbz := below_alloc hC.1 (.cells ZC 45 (0, 0))
   rcases hC.2 with rfl | ⟨rfl, X, h1, h2, h3⟩ | ⟨rfl, h⟩ | ⟨rfl, h⟩ | ⟨rfl, h⟩
   ·exact ⟨show spR _ _ 3 _ 2 from .inl rfl, ⟨hbz, .inr (.inr (.inl ⟨rfl, wx.heap.size, rfl, hC.1.size, hz⟩))⟩, show spS 0 2 from ⟨fun h => by omega, fun h => by omega, fun h => by omega⟩⟩
   ·exact ⟨show spR _ _ 3 _ 3 from .inr (.inl rfl), ⟨hbz, .inr (.inr (.inr (.inl ⟨rfl, X, wx.heap.size, h1, rfl, fun e => by have := Blk.lt h3; omega, h2, hC.1.size, h3.alloc' _, hz⟩)))⟩, show spS 1 3 from ⟨fun h => by omega, fun h => by omega, fun h => by omega⟩⟩
   ·omega
   ·omega
   ·omega
  ·intro T wx nq hU hC hn hp
   have hn : nq ≤ 3 := hn
   obtain ⟨e0, e1, -, -, e4, -⟩ := hp
   have d0 : T 0 = .agg (y.pv va).cells := e1
   have d2 : nq = 1 ∨ nq = 3 ∨ nq = 7 := e0
   have d3 : nq = 2 ∨ nq = 3 ∨ nq = 7 := e4
   rcases hC.2 with rfl | ⟨rfl, h⟩ | ⟨rfl, h⟩ | ⟨rfl, X, Y, h1, h2, hne, h3, h4, h5, h6⟩ | ⟨rfl, h⟩
   ·omega
   ·omega
   ·omega
   ·refine Op1.store_row 45 (.tmp 5) (.tmp 7) rfl X (y.pv va).cells h1 d0 45 PV.zero.cells h5 (by kernel_rfl) rfl (PV.one _ Hoa.out.1) ?_
    exact ⟨rfl, ⟨below_setRow hC.1 h3 _, .inr (.inr (.inr (.inr ⟨rfl, X, Y, h1, h2, hne, h3, h4, PBlk.store h5 _, Blk.setRow h6 (fun e => hne e.symm) _⟩)))⟩, show spS 3 7 from ⟨fun h => by omega, fun h => by omega, fun h => by omega⟩⟩
   ·omega
 case hend1 =>
  intro T wx ⟨nq, hn, hC, hR⟩
  have r4 : nq = 7 := hR 4 (by omega)
  have r1 : T 1 = .agg (y.pv vb).cells := hR 1 (by omega)
  rcases hC.2 with rfl | ⟨rfl, h⟩ | ⟨rfl, h⟩ | ⟨rfl, h⟩ | ⟨-, X, Y, h1, h2, hne, h3, h4, h5, h6⟩
  ·omega
  ·omega
  ·omega
  ·omega
  rw [h1, h2, r1]
  have HX := Lib.hid h5
  have HY := Lib.hid h6
  have HBx := Lib.hid hC.1
  have hX3 : u.heap.size ≤ X := h3
  have hY3 : u.heap.size ≤ Y := h4
  clear hR hC r1 h1 h2 h3 h4 h5 h6 hn
  simp only [List.drop_succ_cons, List.drop_zero]
  go_upto_region 2 with (refine wpList_store_row rfl 45 (.tmp 6) (.tmp 8) rfl Y (y.pv vb).cells rfl rfl 45 PV.zero.cells HY.out (by kernel_rfl) rfl (PV.one _ Hoa.out.2) ?_)
  have HX4 : Hid (PBlk (wx.setRow Y (y.pv vb).cells) X (y.pv va)) := Lib.hid (Blk.setRow HX.out hne _)
  have HY4 : Hid (PBlk (wx.setRow Y (y.pv vb).cells) Y (y.pv vb)) := Lib.hid (PBlk.store HY.out _)
  have HB4 : Hid (Below u.heap.size u (wx.setRow Y (y.pv vb).cells)) := Lib.hid (below_setRow ((below_drew (Below.refl _ _)).trans HBx.out) hY3 _)
  generalize wx.setRow Y (y.pv vb).cells = w4 at *
  clear HX HY HBx
  obtain ⟨-, -, -, -, -, -, -, -, -, -, -, -, -, -, -, -, -, -, cX, fX⟩ := PBlk.cells HX4.out
  obtain ⟨-, -, -, -, -, -, -, -, -, -, -, -, -, -, -, -, -, -, cY, fY⟩ := PBlk.cells HY4.out
  go_upto_region 3 with fail
  have HX : Hid (PBlk ((w4.setCell ⟨X, 18, none⟩ (.slice none 0 0)).setCell ⟨Y, 18, none⟩ (.slice none 0 0)) X (y.pv (.slice none 0 0))) := Lib.hid (Blk.far (PBlk.set_pay HX4.out (.slice none 0 0)) hne 18 _)
  have HY : Hid (PBlk ((w4.setCell ⟨X, 18, none⟩ (.slice none 0 0)).setCell ⟨Y, 18, none⟩ (.slice none 0 0)) Y (y.pv (.slice none 0 0))) := Lib.hid (PBlk.set_pay (x := y.pv vb) (Blk.far HY4.out (fun e => hne e.symm) 18 _) (.slice none 0 0))
  have HB5 : Hid (Below u.heap.size u ((w4.setCell ⟨X, 18, none⟩ (.slice none 0 0)).setCell ⟨Y, 18, none⟩ (.slice none 0 0))) := Lib.hid (below_set (below_set HB4.out hX3 _ _) hY3 _ _)
  clear cX fX cY fY HX4 HY4 HB4
  generalize (w4.setCell ⟨X, 18, none⟩ (.slice none 0 0)).setCell ⟨Y, 18, none⟩ (.slice none 0 0) = u3 at *
  have HAu : Hid (PBlk u3 A (y.pv va)) := Lib.hid (Blk.below HA.out HB5.out (Blk.lt HA.out))
  have HBu : Hid (PBlk u3 B2 (y.pv vb)) := Lib.hid (Blk.below HB2.out HB5.out (Blk.lt HB2.out))
  have hAu := HBw.out.size
  have hAsz : A ≤ u.heap.size := by have := HAw.out; have := Blk.lt HA.out; omega
  have HBw3 : Hid (Below A w u3) := Lib.hid (HBw.out.trans (HB5.out.mono hAsz))
  have HRa : Hid (Rb u3.heap.size u3 va M) := Lib.hid ((HRa0.out.below HBw3.out).mono (Nat.le_trans hAsz HB5.out.size))
  have HRb : Hid (Rb u3.heap.size u3 vb M) := Lib.hid ((HRb0.out.below HBw3.out).mono (Nat.le_trans hAsz HB5.out.size))
  clear HA HB2 HB5 HBw HRa0 HRb0
  have HA := HAu
  have HB2 := HBu
  clear HAu HBu hAu
  simp only [List.append_eq, List.cons_append, List.nil_append]
  refine Lm.wp_region_seq 77 0 (fun p vv nq ww => (List.getD ((.val (.pointer (some ⟨A, 18, none⟩))) :: (.val (va)) :: (.val (.pointer (some ⟨B2, 18, none⟩))) :: (.val (vb)) :: (.val (.bool true)) :: (.val (.bool true)) :: (.val (.pointer (some ⟨X, 0, none⟩))) :: (.val (.agg #[.bool y.s1, .int .u64 ((y.h1 : Nat) : Int), .int .u64 ((y.l1 : Nat) : Int)])) :: (.val (.pointer (some ⟨Y, 0, none⟩))) :: (.val (.agg #[.bool y.s1, .int .u64 ((y.h1 : Nat) : Int), .int .u64 ((y.l1 : Nat) : Int)])) :: (.val (.bool true)) :: (.val (.bool true)) :: (.val (.bool true)) :: (.val (.pointer (some ⟨X, 3, none⟩))) :: (.val (.agg #[.bool y.s2, .int .u64 ((y.h2 : Nat) : Int), .int .u64 ((y.l2 : Nat) : Int)])) :: (.val (.pointer (some ⟨Y, 3, none⟩))) :: (.val (.agg #[.bool y.s2, .int .u64 ((y.h2 : Nat) : Int), .int .u64 ((y.l2 : Nat) : Int)])) :: (.val (.bool true)) :: (.val (.bool true)) :: (.val (.bool true)) :: (.val (.pointer (some ⟨X, 6, none⟩))) :: (.val (.int .i64 ((y.hops : Nat) : Int))) :: (.val (.pointer (some ⟨X, 7, none⟩))) :: (.val (.int .i64 ((y.proto : Nat) : Int))) :: (.val (.pointer (some ⟨X, 8, none⟩))) :: (.val (.int .i64 ((y.fp : Nat) : Int))) :: (.val (.pointer (some ⟨X, 9, none⟩))) :: (.val (.int .i64 ((y.tp : Nat) : Int))) :: (.val (.pointer (some ⟨X, 14, none⟩))) :: (.val (.int .i64 ((y.seq : Nat) : Int))) :: (.val (.pointer (some ⟨X, 15, none⟩))) :: (.val (.int .i64 ((y.ack : Nat) : Int))) :: (.val (.pointer (some ⟨X, 17, none⟩))) :: (.val (.int .i64 ((y.id : Nat) : Int))) :: (.val (.agg #[.int .i64 ((y.hops : Nat) : Int), .int .i64 ((y.proto : Nat) : Int), .int .i64 ((y.fp : Nat) : Int), .int .i64 ((y.tp : Nat) : Int), .int .i64 ((y.seq : Nat) : Int), .int .i64 ((y.ack : Nat) : Int), .int .i64 ((y.id : Nat) : Int), .int .i64 0, .int .i64 0])) :: (.val (.pointer (some ⟨Y, 6, none⟩))) :: (.val (.int .i64 ((y.hops : Nat) : Int))) :: (.val (.pointer (some ⟨Y, 7, none⟩))) :: (.val (.int .i64 ((y.proto : Nat) : Int))) :: (.val (.pointer (some ⟨Y, 8, none⟩))) :: (.val (.int .i64 ((y.fp : Nat) : Int))) :: (.val (.pointer (some ⟨Y, 9, none⟩))) :: (.val (.int .i64 ((y.tp : Nat) : Int))) :: (.val (.pointer (some ⟨Y, 14, none⟩))) :: (.val (.int .i64 ((y.seq : Nat) : Int))) :: (.val (.pointer (some ⟨Y, 15, none⟩))) :: (.val (.int .i64 ((y.ack : Nat) : Int))) :: (.val (.pointer (some ⟨Y, 17, none⟩))) :: (.val (.int .i64 ((y.id : Nat) : Int))) :: (.val (.agg #[.int .i64 ((y.hops : Nat) : Int), .int .i64 ((y.proto : Nat) : Int), .int .i64 ((y.fp : Nat) : Int), .int .i64 ((y.tp : Nat) : Int), .int .i64 ((y.seq : Nat) : Int), .int .i64 ((y.ack : Nat) : Int), .int .i64 ((y.id : Nat) : Int), .int .i64 0, .int .i64 0])) :: (.val (.bool true)) :: (.val (.bool true)) :: (.val (.bool true)) :: (.val (.pointer (some ⟨X, 10, none⟩))) :: (.val (.bool y.syn)) :: (.val (.pointer (some ⟨X, 11, none⟩))) :: (.val (.bool y.fin)) :: (.val (.pointer (some ⟨X, 12, none⟩))) :: (.val (.bool y.rst)) :: (.val (.pointer (some ⟨X, 13, none⟩))) :: (.val (.bool y.has)) :: (.val (.pointer (some ⟨X, 16, none⟩))) :: (.val (.bool y.reply)) :: (.val (.agg #[.bool y.syn, .bool y.fin, .bool y.rst, .bool y.has, .bool y.reply])) :: (.val (.pointer (some ⟨Y, 10, none⟩))) :: (.val (.bool y.syn)) :: (.val (.pointer (some ⟨Y, 11, none⟩))) :: (.val (.bool y.fin)) :: (.val (.pointer (some ⟨Y, 12, none⟩))) :: (.val (.bool y.rst)) :: (.val (.pointer (some ⟨Y, 13, none⟩))) :: (.val (.bool y.has)) :: (.val (.pointer (some ⟨Y, 16, none⟩))) :: (.val (.bool y.reply)) :: (.val (.agg #[.bool y.syn, .bool y.fin, .bool y.rst, .bool y.has, .bool y.reply])) :: (.val (.bool true)) :: (.val (.bool true)) :: [] : List Vd) p .any).R vv nq ww) (fun _ ww => Below u3.heap.size u3 ww) SS (fun _ => 0) (fun _ => 0)
   (by kernel_rfl) (by kernel_rfl) (by decide) (by kernel_rfl) (fun p vv nq ww n' w' h hs => Vd.keep _ h hs) (Below.refl _ _) ?hX3
  case' hX3 => (apply Exists.intro; refine ⟨fun T => ?hA3, ?hob3, ?hend3⟩)
  case hA3 =>
   simp only [setAll, List.take_succ_cons, List.take_zero, Act.put, List.setIfInBounds_toArray, List.set_cons_succ, List.set_cons_zero, Nat.reduceAdd]
   exact rfl
  case hob3 =>
   refine ⟨?_, ?_, ?_, ?_, ?_, ?_, ?_, ?_, ?_, ?_, ?_, ?_, ?_, ?_, ?_, ?_, ?_, ?_, ?_, ?_, ?_, ?_, ?_, ?_, ?_, ?_, ?_, ?_, ?_, ?_, ?_, ?_, ?_, ?_, ?_, ?_, ?_, ?_, ?_, ?_, ?_, ?_, ?_, ?_, ?_, ?_, ?_, ?_, ?_, ?_, ?_, ?_, ?_, ?_, ?_, ?_, ?_, ?_, ?_, ?_, ?_, ?_, ?_, ?_, ?_, ?_, ?_, ?_, ?_, ?_, ?_, ?_, ?_, ?_, ?_, ?_, ?_, trivial⟩
   ·intro T wx nq hC hn hp
    refine Op1.g fun _ Z => ?_; go_simp; exact Z _ _ ⟨rfl, hC, sR⟩
   ·intro T wx nq hC hn hp
    obtain ⟨(d0 : T 0 = .pointer (some ⟨A, 18, none⟩)), -⟩ := hp
    obtain ⟨-, -, -, -, -, -, -, -, -, -, -, -, -, -, -, -, -, -, c18, f0⟩ := PBlk.cells (show PBlk wx A (y.pv va) from Blk.below HA.out hC (Blk.lt HA.out))
    refine Op1.g fun _ Z => ?_; go_simp; exact Z _ _ ⟨rfl, hC, sR⟩
   ·intro T wx nq hC hn hp
    refine Op1.g fun _ Z => ?_; go_simp; exact Z _ _ ⟨rfl, hC, sR⟩
   ·intro T wx nq hC hn hp
    obtain ⟨(d2 : T 2 = .pointer (some ⟨B2, 18, none⟩)), -⟩ := hp
    obtain ⟨-, -, -, -, -, -, -, -, -, -, -, -, -, -, -, -, -, -, c18, f0⟩ := PBlk.cells (show PBlk wx B2 (y.pv vb) from Blk.below HB2.out hC (Blk.lt HB2.out))
    refine Op1.g fun _ Z => ?_; go_simp; exact Z _ _ ⟨rfl, hC, sR⟩
   ·intro T wx nq hC hn hp
    obtain ⟨(d1 : T 1 = va), (d3 : T 3 = vb), -⟩ := hp
    refine Op1.g fun _ Z => ?_; go_simp
    refine (equal_rb ((HRa.out.below hC)) ((HRb.out.below hC))).mono ?_
    rintro e w' ⟨rfl, hb⟩
    exact ⟨_, rfl, Z _ _ ⟨congrArg Value.bool (decide_eq_true rfl), hC.trans (hb.mono hC.size), SS.later hb⟩⟩
   ·intro T wx nq hC hn hp
    obtain ⟨(d4 : T 4 = .bool true), -⟩ := hp
    refine Op1.g fun _ Z => ?_; go_simp; exact Z _ _ ⟨rfl, hC, sR⟩
   ·intro T wx nq hC hn hp
    obtain ⟨(d5 : T 5 = .bool true), -⟩ := hp
    refine ⟨fun hT => ?_, fun hT => absurd d5 hT⟩
    refine Op1.g fun _ Z => ?_; go_simp; exact Z _ _ ⟨rfl, hC, sR⟩
   ·intro T wx nq hC hn hp
    obtain ⟨(d6 : T 6 = .pointer (some ⟨X, 0, none⟩)), (d5 : T 5 = .bool true), -⟩ := hp
    refine ⟨fun hT => ?_, fun hT => absurd d5 hT⟩
    obtain ⟨c0, c1, c2, -, -, -, -, -, -, -, -, -, -, -, -, -, -, -, -, f0⟩ := PBlk.cells (show PBlk wx X (y.pv (.slice none 0 0)) from Blk.below HX.out hC (Blk.lt HX.out))
    refine Op1.g fun _ Z => ?_; go_simp; exact Z _ _ ⟨rfl, hC, sR⟩
   ·intro T wx nq hC hn hp
    obtain ⟨(d5 : T 5 = .bool true), -⟩ := hp
    refine ⟨fun hT => ?_, fun hT => absurd d5 hT⟩
    refine Op1.g fun _ Z => ?_; go_simp; exact Z _ _ ⟨rfl, hC, sR⟩
   ·intro T wx nq hC hn hp
    obtain ⟨(d8 : T 8 = .pointer (some ⟨Y, 0, none⟩)), (d5 : T 5 = .bool true), -⟩ := hp
    refine ⟨fun hT => ?_, fun hT => absurd d5 hT⟩
    obtain ⟨c0, c1, c2, -, -, -, -, -, -, -, -, -, -, -, -, -, -, -, -, f0⟩ := PBlk.cells (show PBlk wx Y (y.pv (.slice none 0 0)) from Blk.below HY.out hC (Blk.lt HY.out))
    refine Op1.g fun _ Z => ?_; go_simp; exact Z _ _ ⟨rfl, hC, sR⟩
   ·intro T wx nq hC hn hp
    obtain ⟨(d7 : T 7 = .agg #[.bool y.s1, .int .u64 ((y.h1 : Nat) : Int), .int .u64 ((y.l1 : Nat) : Int)]), (d9 : T 9 = .agg #[.bool y.s1, .int .u64 ((y.h1 : Nat) : Int), .int .u64 ((y.l1 : Nat) : Int)]), (d5 : T 5 = .bool true), -⟩ := hp
    refine ⟨fun hT => ?_, fun hT => absurd d5 hT⟩
    refine Op1.g fun _ Z => ?_; go_simp; exact Z _ _ ⟨rfl, hC, sR⟩
   ·intro T wx nq hC hn hp
    obtain ⟨(d5 : T 5 = .bool true), (d10 : T 10 = .bool true), -⟩ := hp
    refine Op1.g fun _ Z => ?_; go_simp; exact Z _ _ ⟨rfl, hC, sR⟩
   ·intro T wx nq hC hn hp
    obtain ⟨(d11 : T 11 = .bool true), -⟩ := hp
    refine Op1.g fun _ Z => ?_; go_simp; exact Z _ _ ⟨rfl, hC, sR⟩
   ·intro T wx nq hC hn hp
    obtain ⟨(d12 : T 12 = .bool true), -⟩ := hp
    refine ⟨fun hT => ?_, fun hT => absurd d12 hT⟩
    refine Op1.g fun _ Z => ?_; go_simp; exact Z _ _ ⟨rfl, hC, sR⟩
   ·intro T wx nq hC hn hp
    obtain ⟨(d13 : T 13 = .pointer (some ⟨X, 3, none⟩)), (d12 : T 12 = .bool true), -⟩ := hp
    refine ⟨fun hT => ?_, fun hT => absurd d12 hT⟩
    obtain ⟨-, -, -, c3, c4, c5, -, -, -, -, -, -, -, -, -, -, -, -, -, f0⟩ := PBlk.cells (show PBlk wx X (y.pv (.slice none 0 0)) from Blk.below HX.out hC (Blk.lt HX.out))
    refine Op1.g fun _ Z => ?_; go_simp; exact Z _ _ ⟨rfl, hC, sR⟩
   ·intro T wx nq hC hn hp
    obtain ⟨(d12 : T 12 = .bool true), -⟩ := hp
    refine ⟨fun hT => ?_, fun hT => absurd d12 hT⟩
    refine Op1.g fun _ Z => ?_; go_simp; exact Z _ _ ⟨rfl, hC, sR⟩
   ·intro T wx nq hC hn hp
    obtain ⟨(d15 : T 15 = .pointer (some ⟨Y, 3, none⟩)), (d12 : T 12 = .bool true), -⟩ := hp
    refine ⟨fun hT => ?_, fun hT => absurd d12 hT⟩
    obtain ⟨-, -, -, c3, c4, c5, -, -, -, -, -, -, -, -, -, -, -, -, -, f0⟩ := PBlk.cells (show PBlk wx Y (y.pv (.slice none 0 0)) from Blk.below HY.out hC (Blk.lt HY.out))
    refine Op1.g fun _ Z => ?_; go_simp; exact Z _ _ ⟨rfl, hC, sR⟩
   ·intro T wx nq hC hn hp
    obtain ⟨(d14 : T 14 = .agg #[.bool y.s2, .int .u64 ((y.h2 : Nat) : Int), .int .u64 ((y.l2 : Nat) : Int)]), (d16 : T 16 = .agg #[.bool y.s2, .int .u64 ((y.h2 : Nat) : Int), .int .u64 ((y.l2 : Nat) : Int)]), (d12 : T 12 = .bool true), -⟩ := hp
    refine ⟨fun hT => ?_, fun hT => absurd d12 hT⟩
    refine Op1.g fun _ Z => ?_; go_simp; exact Z _ _ ⟨rfl, hC, sR⟩
   ·intro T wx nq hC hn hp
    obtain ⟨(d12 : T 12 = .bool true), (d17 : T 17 = .bool true), -⟩ := hp
    refine Op1.g fun _ Z => ?_; go_simp; exact Z _ _ ⟨rfl, hC, sR⟩
   ·intro T wx nq hC hn hp
    obtain ⟨(d18 : T 18 = .bool true), -⟩ := hp
    refine Op1.g fun _ Z => ?_; go_simp; exact Z _ _ ⟨rfl, hC, sR⟩
   ·intro T wx nq hC hn hp
    obtain ⟨(d19 : T 19 = .bool true), -⟩ := hp
    refine ⟨fun hT => ?_, fun hT => absurd d19 hT⟩
    refine Op1.g fun _ Z => ?_; go_simp; exact Z _ _ ⟨rfl, hC, sR⟩
   ·intro T wx nq hC hn hp
    obtain ⟨(d20 : T 20 = .pointer (some ⟨X, 6, none⟩)), (d19 : T 19 = .bool true), -⟩ := hp
    refine ⟨fun hT => ?_, fun hT => absurd d19 hT⟩
    obtain ⟨-, -, -, -, -, -, c6, -, -, -, -, -, -, -, -, -, -, -, -, f0⟩ := PBlk.cells (show PBlk wx X (y.pv (.slice none 0 0)) from Blk.below HX.out hC (Blk.lt HX.out))
    refine Op1.g fun _ Z => ?_; go_simp; exact Z _ _ ⟨rfl, hC, sR⟩
   ·intro T wx nq hC hn hp
    obtain ⟨(d19 : T 19 = .bool true), -⟩ := hp
    refine ⟨fun hT => ?_, fun hT => absurd d19 hT⟩
    refine Op1.g fun _ Z => ?_; go_simp; exact Z _ _ ⟨rfl, hC, sR⟩
   ·intro T wx nq hC hn hp
    obtain ⟨(d22 : T 22 = .pointer (some ⟨X, 7, none⟩)), (d19 : T 19 = .bool true), -⟩ := hp
    refine ⟨fun hT => ?_, fun hT => absurd d19 hT⟩
    obtain ⟨-, -, -, -, -, -, -, c7, -, -, -, -, -, -, -, -, -, -, -, f0⟩ := PBlk.cells (show PBlk wx X (y.pv (.slice none 0 0)) from Blk.below HX.out hC (Blk.lt HX.out))
    refine Op1.g fun _ Z => ?_; go_simp; exact Z _ _ ⟨rfl, hC, sR⟩
   ·intro T wx nq hC hn hp
    obtain ⟨(d19 : T 19 = .bool true), -⟩ := hp
    refine ⟨fun hT => ?_, fun hT => absurd d19 hT⟩
    refine Op1.g fun _ Z => ?_; go_simp; exact Z _ _ ⟨rfl, hC, sR⟩
   ·intro T wx nq hC hn hp
    obtain ⟨(d24 : T 24 = .pointer (some ⟨X, 8, none⟩)), (d19 : T 19 = .bool true), -⟩ := hp
    refine ⟨fun hT => ?_, fun hT => absurd d19 hT⟩
    obtain ⟨-, -, -, -, -, -, -, -, c8, -, -, -, -, -, -, -, -, -, -, f0⟩ := PBlk.cells (show PBlk wx X (y.pv (.slice none 0 0)) from Blk.below HX.out hC (Blk.lt HX.out))
    refine Op1.g fun _ Z => ?_; go_simp; exact Z _ _ ⟨rfl, hC, sR⟩
   ·intro T wx nq hC hn hp
    obtain ⟨(d19 : T 19 = .bool true), -⟩ := hp
    refine ⟨fun hT => ?_, fun hT => absurd d19 hT⟩
    refine Op1.g fun _ Z => ?_; go_simp; exact Z _ _ ⟨rfl, hC, sR⟩
   ·intro T wx nq hC hn hp
    obtain ⟨(d26 : T 26 = .pointer (some ⟨X, 9, none⟩)), (d19 : T 19 = .bool true), -⟩ := hp
    refine ⟨fun hT => ?_, fun hT => absurd d19 hT⟩
    obtain ⟨-, -, -, -, -, -, -, -, -, c9, -, -, -, -, -, -, -, -, -, f0⟩ := PBlk.cells (show PBlk wx X (y.pv (.slice none 0 0)) from Blk.below HX.out hC (Blk.lt HX.out))
    refine Op1.g fun _ Z => ?_; go_simp; exact Z _ _ ⟨rfl, hC, sR⟩
   ·intro T wx nq hC hn hp
    obtain ⟨(d19 : T 19 = .bool true), -⟩ := hp
    refine ⟨fun hT => ?_, fun hT => absurd d19 hT⟩
    refine Op1.g fun _ Z => ?_; go_simp; exact Z _ _ ⟨rfl, hC, sR⟩
   ·intro T wx nq hC hn hp
    obtain ⟨(d28 : T 28 = .pointer (some ⟨X, 14, none⟩)), (d19 : T 19 = .bool true), -⟩ := hp
    refine ⟨fun hT => ?_, fun hT => absurd d19 hT⟩
    obtain ⟨-, -, -, -, -, -, -, -, -, -, -, -, -, -, c14, -, -, -, -, f0⟩ := PBlk.cells (show PBlk wx X (y.pv (.slice none 0 0)) from Blk.below HX.out hC (Blk.lt HX.out))
    refine Op1.g fun _ Z => ?_; go_simp; exact Z _ _ ⟨rfl, hC, sR⟩
   ·intro T wx nq hC hn hp
    obtain ⟨(d19 : T 19 = .bool true), -⟩ := hp
    refine ⟨fun hT => ?_, fun hT => absurd d19 hT⟩
    refine Op1.g fun _ Z => ?_; go_simp; exact Z _ _ ⟨rfl, hC, sR⟩
   ·intro T wx nq hC hn hp
    obtain ⟨(d30 : T 30 = .pointer (some ⟨X, 15, none⟩)), (d19 : T 19 = .bool true), -⟩ := hp
    refine ⟨fun hT => ?_, fun hT => absurd d19 hT⟩
    obtain ⟨-, -, -, -, -, -, -, -, -, -, -, -, -, -, -, c15, -, -, -, f0⟩ := PBlk.cells (show PBlk wx X (y.pv (.slice none 0 0)) from Blk.below HX.out hC (Blk.lt HX.out))
    refine Op1.g fun _ Z => ?_; go_simp; exact Z _ _ ⟨rfl, hC, sR⟩
   ·intro T wx nq hC hn hp
    obtain ⟨(d19 : T 19 = .bool true), -⟩ := hp
    refine ⟨fun hT => ?_, fun hT => absurd d19 hT⟩
    refine Op1.g fun _ Z => ?_; go_simp; exact Z _ _ ⟨rfl, hC, sR⟩
   ·intro T wx nq hC hn hp
    obtain ⟨(d32 : T 32 = .pointer (some ⟨X, 17, none⟩)), (d19 : T 19 = .bool true), -⟩ := hp
    refine ⟨fun hT => ?_, fun hT => absurd d19 hT⟩
    obtain ⟨-, -, -, -, -, -, -, -, -, -, -, -, -, -, -, -, -, c17, -, f0⟩ := PBlk.cells (show PBlk wx X (y.pv (.slice none 0 0)) from Blk.below HX.out hC (Blk.lt HX.out))
    refine Op1.g fun _ Z => ?_; go_simp; exact Z _ _ ⟨rfl, hC, sR⟩
   ·intro T wx nq hC hn hp
    obtain ⟨(d21 : T 21 = .int .i64 ((y.hops : Nat) : Int)), (d23 : T 23 = .int .i64 ((y.proto : Nat) : Int)), (d25 : T 25 = .int .i64 ((y.fp : Nat) : Int)), (d27 : T 27 = .int .i64 ((y.tp : Nat) : Int)), (d29 : T 29 = .int .i64 ((y.seq : Nat) : Int)), (d31 : T 31 = .int .i64 ((y.ack : Nat) : Int)), (d33 : T 33 = .int .i64 ((y.id : Nat) : Int)), (d19 : T 19 = .bool true), -⟩ := hp
    refine ⟨fun hT => ?_, fun hT => absurd d19 hT⟩
    refine Op1.g fun _ Z => ?_; go_simp; exact Z _ _ ⟨rfl, hC, sR⟩
   ·intro T wx nq hC hn hp
    obtain ⟨(d19 : T 19 = .bool true), -⟩ := hp
    refine ⟨fun hT => ?_, fun hT => absurd d19 hT⟩
    refine Op1.g fun _ Z => ?_; go_simp; exact Z _ _ ⟨rfl, hC, sR⟩
   ·intro T wx nq hC hn hp
    obtain ⟨(d35 : T 35 = .pointer (some ⟨Y, 6, none⟩)), (d19 : T 19 = .bool true), -⟩ := hp
    refine ⟨fun hT => ?_, fun hT => absurd d19 hT⟩
    obtain ⟨-, -, -, -, -, -, c6, -, -, -, -, -, -, -, -, -, -, -, -, f0⟩ := PBlk.cells (show PBlk wx Y (y.pv (.slice none 0 0)) from Blk.below HY.out hC (Blk.lt HY.out))
    refine Op1.g fun _ Z => ?_; go_simp; exact Z _ _ ⟨rfl, hC, sR⟩
   ·intro T wx nq hC hn hp
    obtain ⟨(d19 : T 19 = .bool true), -⟩ := hp
    refine ⟨fun hT => ?_, fun hT => absurd d19 hT⟩
    refine Op1.g fun _ Z => ?_; go_simp; exact Z _ _ ⟨rfl, hC, sR⟩
   ·intro T wx nq hC hn hp
    obtain ⟨(d37 : T 37 = .pointer (some ⟨Y, 7, none⟩)), (d19 : T 19 = .bool true), -⟩ := hp
    refine ⟨fun hT => ?_, fun hT => absurd d19 hT⟩
    obtain ⟨-, -, -, -, -, -, -, c7, -, -, -, -, -, -, -, -, -, -, -, f0⟩ := PBlk.cells (show PBlk wx Y (y.pv (.slice none 0 0)) from Blk.below HY.out hC (Blk.lt HY.out))
    refine Op1.g fun _ Z => ?_; go_simp; exact Z _ _ ⟨rfl, hC, sR⟩
   ·intro T wx nq hC hn hp
    obtain ⟨(d19 : T 19 = .bool true), -⟩ := hp
    refine ⟨fun hT => ?_, fun hT => absurd d19 hT⟩
    refine Op1.g fun _ Z => ?_; go_simp; exact Z _ _ ⟨rfl, hC, sR⟩
   ·intro T wx nq hC hn hp
    obtain ⟨(d39 : T 39 = .pointer (some ⟨Y, 8, none⟩)), (d19 : T 19 = .bool true), -⟩ := hp
    refine ⟨fun hT => ?_, fun hT => absurd d19 hT⟩
    obtain ⟨-, -, -, -, -, -, -, -, c8, -, -, -, -, -, -, -, -, -, -, f0⟩ := PBlk.cells (show PBlk wx Y (y.pv (.slice none 0 0)) from Blk.below HY.out hC (Blk.lt HY.out))
    refine Op1.g fun _ Z => ?_; go_simp; exact Z _ _ ⟨rfl, hC, sR⟩
   ·intro T wx nq hC hn hp
    obtain ⟨(d19 : T 19 = .bool true), -⟩ := hp
    refine ⟨fun hT => ?_, fun hT => absurd d19 hT⟩
    refine Op1.g fun _ Z => ?_; go_simp; exact Z _ _ ⟨rfl, hC, sR⟩
   ·intro T wx nq hC hn hp
    obtain ⟨(d41 : T 41 = .pointer (some ⟨Y, 9, none⟩)), (d19 : T 19 = .bool true), -⟩ := hp
    refine ⟨fun hT => ?_, fun hT => absurd d19 hT⟩
    obtain ⟨-, -, -, -, -, -, -, -, -, c9, -, -, -, -, -, -, -, -, -, f0⟩ := PBlk.cells (show PBlk wx Y (y.pv (.slice none 0 0)) from Blk.below HY.out hC (Blk.lt HY.out))
    refine Op1.g fun _ Z => ?_; go_simp; exact Z _ _ ⟨rfl, hC, sR⟩
   ·intro T wx nq hC hn hp
    obtain ⟨(d19 : T 19 = .bool true), -⟩ := hp
    refine ⟨fun hT => ?_, fun hT => absurd d19 hT⟩
    refine Op1.g fun _ Z => ?_; go_simp; exact Z _ _ ⟨rfl, hC, sR⟩
   ·intro T wx nq hC hn hp
    obtain ⟨(d43 : T 43 = .pointer (some ⟨Y, 14, none⟩)), (d19 : T 19 = .bool true), -⟩ := hp
    refine ⟨fun hT => ?_, fun hT => absurd d19 hT⟩
    obtain ⟨-, -, -, -, -, -, -, -, -, -, -, -, -, -, c14, -, -, -, -, f0⟩ := PBlk.cells (show PBlk wx Y (y.pv (.slice none 0 0)) from Blk.below HY.out hC (Blk.lt HY.out))
    refine Op1.g fun _ Z => ?_; go_simp; exact Z _ _ ⟨rfl, hC, sR⟩
   ·intro T wx nq hC hn hp
    obtain ⟨(d19 : T 19 = .bool true), -⟩ := hp
    refine ⟨fun hT => ?_, fun hT => absurd d19 hT⟩
    refine Op1.g fun _ Z => ?_; go_simp; exact Z _ _ ⟨rfl, hC, sR⟩
   ·intro T wx nq hC hn hp
    obtain ⟨(d45 : T 45 = .pointer (some ⟨Y, 15, none⟩)), (d19 : T 19 = .bool true), -⟩ := hp
    refine ⟨fun hT => ?_, fun hT => absurd d19 hT⟩
    obtain ⟨-, -, -, -, -, -, -, -, -, -, -, -, -, -, -, c15, -, -, -, f0⟩ := PBlk.cells (show PBlk wx Y (y.pv (.slice none 0 0)) from Blk.below HY.out hC (Blk.lt HY.out))
    refine Op1.g fun _ Z => ?_; go_simp; exact Z _ _ ⟨rfl, hC, sR⟩
   ·intro T wx nq hC hn hp
    obtain ⟨(d19 : T 19 = .bool true), -⟩ := hp
    refine ⟨fun hT => ?_, fun hT => absurd d19 hT⟩
    refine Op1.g fun _ Z => ?_; go_simp; exact Z _ _ ⟨rfl, hC, sR⟩
   ·intro T wx nq hC hn hp
    obtain ⟨(d47 : T 47 = .pointer (some ⟨Y, 17, none⟩)), (d19 : T 19 = .bool true), -⟩ := hp
    refine ⟨fun hT => ?_, fun hT => absurd d19 hT⟩
    obtain ⟨-, -, -, -, -, -, -, -, -, -, -, -, -, -, -, -, -, c17, -, f0⟩ := PBlk.cells (show PBlk wx Y (y.pv (.slice none 0 0)) from Blk.below HY.out hC (Blk.lt HY.out))
    refine Op1.g fun _ Z => ?_; go_simp; exact Z _ _ ⟨rfl, hC, sR⟩
   ·intro T wx nq hC hn hp
    obtain ⟨(d36 : T 36 = .int .i64 ((y.hops : Nat) : Int)), (d38 : T 38 = .int .i64 ((y.proto : Nat) : Int)), (d40 : T 40 = .int .i64 ((y.fp : Nat) : Int)), (d42 : T 42 = .int .i64 ((y.tp : Nat) : Int)), (d44 : T 44 = .int .i64 ((y.seq : Nat) : Int)), (d46 : T 46 = .int .i64 ((y.ack : Nat) : Int)), (d48 : T 48 = .int .i64 ((y.id : Nat) : Int)), (d19 : T 19 = .bool true), -⟩ := hp
    refine ⟨fun hT => ?_, fun hT => absurd d19 hT⟩
    refine Op1.g fun _ Z => ?_; go_simp; exact Z _ _ ⟨rfl, hC, sR⟩
   ·intro T wx nq hC hn hp
    obtain ⟨(d34 : T 34 = .agg #[.int .i64 ((y.hops : Nat) : Int), .int .i64 ((y.proto : Nat) : Int), .int .i64 ((y.fp : Nat) : Int), .int .i64 ((y.tp : Nat) : Int), .int .i64 ((y.seq : Nat) : Int), .int .i64 ((y.ack : Nat) : Int), .int .i64 ((y.id : Nat) : Int), .int .i64 0, .int .i64 0]), (d49 : T 49 = .agg #[.int .i64 ((y.hops : Nat) : Int), .int .i64 ((y.proto : Nat) : Int), .int .i64 ((y.fp : Nat) : Int), .int .i64 ((y.tp : Nat) : Int), .int .i64 ((y.seq : Nat) : Int), .int .i64 ((y.ack : Nat) : Int), .int .i64 ((y.id : Nat) : Int), .int .i64 0, .int .i64 0]), (d19 : T 19 = .bool true), -⟩ := hp
    refine ⟨fun hT => ?_, fun hT => absurd d19 hT⟩
    refine Op1.g fun _ Z => ?_; go_simp
    simp only [eq9, Result.andThen_ok]
    exact Z _ _ ⟨rfl, hC, sR⟩
   ·intro T wx nq hC hn hp
    obtain ⟨(d19 : T 19 = .bool true), (d50 : T 50 = .bool true), -⟩ := hp
    refine Op1.g fun _ Z => ?_; go_simp; exact Z _ _ ⟨rfl, hC, sR⟩
   ·intro T wx nq hC hn hp
    obtain ⟨(d51 : T 51 = .bool true), -⟩ := hp
    refine Op1.g fun _ Z => ?_; go_simp; exact Z _ _ ⟨rfl, hC, sR⟩
   ·intro T wx nq hC hn hp
    obtain ⟨(d52 : T 52 = .bool true), -⟩ := hp
    refine ⟨fun hT => ?_, fun hT => absurd d52 hT⟩
    refine Op1.g fun _ Z => ?_; go_simp; exact Z _ _ ⟨rfl, hC, sR⟩
   ·intro T wx nq hC hn hp
    obtain ⟨(d53 : T 53 = .pointer (some ⟨X, 10, none⟩)), (d52 : T 52 = .bool true), -⟩ := hp
    refine ⟨fun hT => ?_, fun hT => absurd d52 hT⟩
    obtain ⟨-, -, -, -, -, -, -, -, -, -, c10, -, -, -, -, -, -, -, -, f0⟩ := PBlk.cells (show PBlk wx X (y.pv (.slice none 0 0)) from Blk.below HX.out hC (Blk.lt HX.out))
    refine Op1.g fun _ Z => ?_; go_simp; exact Z _ _ ⟨rfl, hC, sR⟩
   ·intro T wx nq hC hn hp
    obtain ⟨(d52 : T 52 = .bool true), -⟩ := hp
    refine ⟨fun hT => ?_, fun hT => absurd d52 hT⟩
    refine Op1.g fun _ Z => ?_; go_simp; exact Z _ _ ⟨rfl, hC, sR⟩
   ·intro T wx nq hC hn hp
    obtain ⟨(d55 : T 55 = .pointer (some ⟨X, 11, none⟩)), (d52 : T 52 = .bool true), -⟩ := hp
    refine ⟨fun hT => ?_, fun hT => absurd d52 hT⟩
    obtain ⟨-, -, -, -, -, -, -, -, -, -, -, c11, -, -, -, -, -, -, -, f0⟩ := PBlk.cells (show PBlk wx X (y.pv (.slice none 0 0)) from Blk.below HX.out hC (Blk.lt HX.out))
    refine Op1.g fun _ Z => ?_; go_simp; exact Z _ _ ⟨rfl, hC, sR⟩
   ·intro T wx nq hC hn hp
    obtain ⟨(d52 : T 52 = .bool true), -⟩ := hp
    refine ⟨fun hT => ?_, fun hT => absurd d52 hT⟩
    refine Op1.g fun _ Z => ?_; go_simp; exact Z _ _ ⟨rfl, hC, sR⟩
   ·intro T wx nq hC hn hp
    obtain ⟨(d57 : T 57 = .pointer (some ⟨X, 12, none⟩)), (d52 : T 52 = .bool true), -⟩ := hp
    refine ⟨fun hT => ?_, fun hT => absurd d52 hT⟩
    obtain ⟨-, -, -, -, -, -, -, -, -, -, -, -, c12, -, -, -, -, -, -, f0⟩ := PBlk.cells (show PBlk wx X (y.pv (.slice none 0 0)) from Blk.below HX.out hC (Blk.lt HX.out))
    refine Op1.g fun _ Z => ?_; go_simp; exact Z _ _ ⟨rfl, hC, sR⟩
   ·intro T wx nq hC hn hp
    obtain ⟨(d52 : T 52 = .bool true), -⟩ := hp
    refine ⟨fun hT => ?_, fun hT => absurd d52 hT⟩
    refine Op1.g fun _ Z => ?_; go_simp; exact Z _ _ ⟨rfl, hC, sR⟩
   ·intro T wx nq hC hn hp
    obtain ⟨(d59 : T 59 = .pointer (some ⟨X, 13, none⟩)), (d52 : T 52 = .bool true), -⟩ := hp
    refine ⟨fun hT => ?_, fun hT => absurd d52 hT⟩
    obtain ⟨-, -, -, -, -, -, -, -, -, -, -, -, -, c13, -, -, -, -, -, f0⟩ := PBlk.cells (show PBlk wx X (y.pv (.slice none 0 0)) from Blk.below HX.out hC (Blk.lt HX.out))
    refine Op1.g fun _ Z => ?_; go_simp; exact Z _ _ ⟨rfl, hC, sR⟩
   ·intro T wx nq hC hn hp
    obtain ⟨(d52 : T 52 = .bool true), -⟩ := hp
    refine ⟨fun hT => ?_, fun hT => absurd d52 hT⟩
    refine Op1.g fun _ Z => ?_; go_simp; exact Z _ _ ⟨rfl, hC, sR⟩
   ·intro T wx nq hC hn hp
    obtain ⟨(d61 : T 61 = .pointer (some ⟨X, 16, none⟩)), (d52 : T 52 = .bool true), -⟩ := hp
    refine ⟨fun hT => ?_, fun hT => absurd d52 hT⟩
    obtain ⟨-, -, -, -, -, -, -, -, -, -, -, -, -, -, -, -, c16, -, -, f0⟩ := PBlk.cells (show PBlk wx X (y.pv (.slice none 0 0)) from Blk.below HX.out hC (Blk.lt HX.out))
    refine Op1.g fun _ Z => ?_; go_simp; exact Z _ _ ⟨rfl, hC, sR⟩
   ·intro T wx nq hC hn hp
    obtain ⟨(d54 : T 54 = .bool y.syn), (d56 : T 56 = .bool y.fin), (d58 : T 58 = .bool y.rst), (d60 : T 60 = .bool y.has), (d62 : T 62 = .bool y.reply), (d52 : T 52 = .bool true), -⟩ := hp
    refine ⟨fun hT => ?_, fun hT => absurd d52 hT⟩
    refine Op1.g fun _ Z => ?_; go_simp; exact Z _ _ ⟨rfl, hC, sR⟩
   ·intro T wx nq hC hn hp
    obtain ⟨(d52 : T 52 = .bool true), -⟩ := hp
    refine ⟨fun hT => ?_, fun hT => absurd d52 hT⟩
    refine Op1.g fun _ Z => ?_; go_simp; exact Z _ _ ⟨rfl, hC, sR⟩
   ·intro T wx nq hC hn hp
    obtain ⟨(d64 : T 64 = .pointer (some ⟨Y, 10, none⟩)), (d52 : T 52 = .bool true), -⟩ := hp
    refine ⟨fun hT => ?_, fun hT => absurd d52 hT⟩
    obtain ⟨-, -, -, -, -, -, -, -, -, -, c10, -, -, -, -, -, -, -, -, f0⟩ := PBlk.cells (show PBlk wx Y (y.pv (.slice none 0 0)) from Blk.below HY.out hC (Blk.lt HY.out))
    refine Op1.g fun _ Z => ?_; go_simp; exact Z _ _ ⟨rfl, hC, sR⟩
   ·intro T wx nq hC hn hp
    obtain ⟨(d52 : T 52 = .bool true), -⟩ := hp
    refine ⟨fun hT => ?_, fun hT => absurd d52 hT⟩
    refine Op1.g fun _ Z => ?_; go_simp; exact Z _ _ ⟨rfl, hC, sR⟩
   ·intro T wx nq hC hn hp
    obtain ⟨(d66 : T 66 = .pointer (some ⟨Y, 11, none⟩)), (d52 : T 52 = .bool true), -⟩ := hp
    refine ⟨fun hT => ?_, fun hT => absurd d52 hT⟩
    obtain ⟨-, -, -, -, -, -, -, -, -, -, -, c11, -, -, -, -, -, -, -, f0⟩ := PBlk.cells (show PBlk wx Y (y.pv (.slice none 0 0)) from Blk.below HY.out hC (Blk.lt HY.out))
    refine Op1.g fun _ Z => ?_; go_simp; exact Z _ _ ⟨rfl, hC, sR⟩
   ·intro T wx nq hC hn hp
    obtain ⟨(d52 : T 52 = .bool true), -⟩ := hp
    refine ⟨fun hT => ?_, fun hT => absurd d52 hT⟩
    refine Op1.g fun _ Z => ?_; go_simp; exact Z _ _ ⟨rfl, hC, sR⟩
   ·intro T wx nq hC hn hp
    obtain ⟨(d68 : T 68 = .pointer (some ⟨Y, 12, none⟩)), (d52 : T 52 = .bool true), -⟩ := hp
    refine ⟨fun hT => ?_, fun hT => absurd d52 hT⟩
    obtain ⟨-, -, -, -, -, -, -, -, -, -, -, -, c12, -, -, -, -, -, -, f0⟩ := PBlk.cells (show PBlk wx Y (y.pv (.slice none 0 0)) from Blk.below HY.out hC (Blk.lt HY.out))
    refine Op1.g fun _ Z => ?_; go_simp; exact Z _ _ ⟨rfl, hC, sR⟩
   ·intro T wx nq hC hn hp
    obtain ⟨(d52 : T 52 = .bool true), -⟩ := hp
    refine ⟨fun hT => ?_, fun hT => absurd d52 hT⟩
    refine Op1.g fun _ Z => ?_; go_simp; exact Z _ _ ⟨rfl, hC, sR⟩
   ·intro T wx nq hC hn hp
    obtain ⟨(d70 : T 70 = .pointer (some ⟨Y, 13, none⟩)), (d52 : T 52 = .bool true), -⟩ := hp
    refine ⟨fun hT => ?_, fun hT => absurd d52 hT⟩
    obtain ⟨-, -, -, -, -, -, -, -, -, -, -, -, -, c13, -, -, -, -, -, f0⟩ := PBlk.cells (show PBlk wx Y (y.pv (.slice none 0 0)) from Blk.below HY.out hC (Blk.lt HY.out))
    refine Op1.g fun _ Z => ?_; go_simp; exact Z _ _ ⟨rfl, hC, sR⟩
   ·intro T wx nq hC hn hp
    obtain ⟨(d52 : T 52 = .bool true), -⟩ := hp
    refine ⟨fun hT => ?_, fun hT => absurd d52 hT⟩
    refine Op1.g fun _ Z => ?_; go_simp; exact Z _ _ ⟨rfl, hC, sR⟩
   ·intro T wx nq hC hn hp
    obtain ⟨(d72 : T 72 = .pointer (some ⟨Y, 16, none⟩)), (d52 : T 52 = .bool true), -⟩ := hp
    refine ⟨fun hT => ?_, fun hT => absurd d52 hT⟩
    obtain ⟨-, -, -, -, -, -, -, -, -, -, -, -, -, -, -, -, c16, -, -, f0⟩ := PBlk.cells (show PBlk wx Y (y.pv (.slice none 0 0)) from Blk.below HY.out hC (Blk.lt HY.out))
    refine Op1.g fun _ Z => ?_; go_simp; exact Z _ _ ⟨rfl, hC, sR⟩
   ·intro T wx nq hC hn hp
    obtain ⟨(d65 : T 65 = .bool y.syn), (d67 : T 67 = .bool y.fin), (d69 : T 69 = .bool y.rst), (d71 : T 71 = .bool y.has), (d73 : T 73 = .bool y.reply), (d52 : T 52 = .bool true), -⟩ := hp
    refine ⟨fun hT => ?_, fun hT => absurd d52 hT⟩
    refine Op1.g fun _ Z => ?_; go_simp; exact Z _ _ ⟨rfl, hC, sR⟩
   ·intro T wx nq hC hn hp
    obtain ⟨(d63 : T 63 = .agg #[.bool y.syn, .bool y.fin, .bool y.rst, .bool y.has, .bool y.reply]), (d74 : T 74 = .agg #[.bool y.syn, .bool y.fin, .bool y.rst, .bool y.has, .bool y.reply]), (d52 : T 52 = .bool true), -⟩ := hp
    refine ⟨fun hT => ?_, fun hT => absurd d52 hT⟩
    refine Op1.g fun _ Z => ?_; go_simp
    simp only [eq5, Result.andThen_ok]
    exact Z _ _ ⟨rfl, hC, sR⟩
   ·intro T wx nq hC hn hp
    obtain ⟨(d52 : T 52 = .bool true), (d75 : T 75 = .bool true), -⟩ := hp
    refine Op1.g fun _ Z => ?_; go_simp; exact Z _ _ ⟨rfl, hC, sR⟩
  case hend3 =>
   intro T wx ⟨nq, hn, hC, hR⟩
   have r0 : T 76 = .bool true := hR 76 (by omega)
   rw [r0]
   have HCx := Lib.hid hC
   clear hR hC r0
   simp only [List.drop_succ_cons, List.drop_zero]
   go_wp2_with fail
   go_ret
   refine ⟨rfl, ?_⟩
   have hA := HAw.out
   rw [hA]
   exact HBw3.out.trans (HCx.out.mono (Nat.le_trans hAsz (Nat.le_of_lt (Nat.lt_of_le_of_lt hX3 (Blk.lt HX.out)))))
end Go.Proofs.Ytakjopbdkkcnlaa
