/-
  A right packet is written: the program's side.
  slices.Grow of nil and slices.Concat of slices of bytes.
  A right packet is written by the reference: addresses and pieces.
  A right packet is written by the reference: lemmas of the part.
-/
import Derived.Test.YtakjopbdkkcnlaaPR7
import Derived.Test.YtakjopbdkkcnlaaPR3
import Derived.Lib.AppendZeros
import Derived.Deep.Cut
set_option linter.unusedVariables false
namespace Go.Proofs.Ytakjopbdkkcnlaa
open Go.RowKit Go
set_option linter.unusedVariables false
theorem np_cells {w : World} {B : Nat} {x : NP} {v : Value} (h : PBlk w B (x.pv v)) : w.cell? ⟨B, 0, none⟩ = some (.bool x.s1) ∧ w.cell? ⟨B, 1, none⟩ = some (.int .u64 ((x.h1 : Nat) : Int)) ∧ w.cell? ⟨B, 2, none⟩ = some (.int .u64 ((x.l1 : Nat) : Int)) ∧ w.cell? ⟨B, 3, none⟩ = some (.bool x.s2) ∧ w.cell? ⟨B, 4, none⟩ = some (.int .u64 ((x.h2 : Nat) : Int)) ∧ w.cell? ⟨B, 5, none⟩ = some (.int .u64 ((x.l2 : Nat) : Int)) ∧ w.cell? ⟨B, 6, none⟩ = some (.int .i64 ((x.hops : Nat) : Int)) ∧ w.cell? ⟨B, 7, none⟩ = some (.int .i64 ((x.proto : Nat) : Int)) ∧ w.cell? ⟨B, 8, none⟩ = some (.int .i64 ((x.fp : Nat) : Int)) ∧ w.cell? ⟨B, 9, none⟩ = some (.int .i64 ((x.tp : Nat) : Int)) ∧ w.cell? ⟨B, 10, none⟩ = some (.bool x.syn) ∧ w.cell? ⟨B, 11, none⟩ = some (.bool x.fin) ∧ w.cell? ⟨B, 12, none⟩ = some (.bool x.rst) ∧ w.cell? ⟨B, 13, none⟩ = some (.bool x.has) ∧ w.cell? ⟨B, 14, none⟩ = some (.int .i64 ((x.seq : Nat) : Int)) ∧ w.cell? ⟨B, 15, none⟩ = some (.int .i64 ((x.ack : Nat) : Int)) ∧ w.cell? ⟨B, 16, none⟩ = some (.bool x.reply) ∧ w.cell? ⟨B, 17, none⟩ = some (.int .i64 ((x.id : Nat) : Int)) ∧ w.cell? ⟨B, 18, none⟩ = some v ∧ ∀ i, w.frozen? ⟨B, i, none⟩ = false := PBlk.cells h
theorem FS.grew {B : Nat} {w1 : World} {P0 : Nat} {x : PV} {pay : List UInt8} {w w' : World} {v v' : Value} {L : List UInt8} (h : FS B w1 P0 x pay w) (hO : OwnB w B v L) (hG : Grew w w' v v') : FS B w1 P0 x pay w' := h.below (hG.below h.sz (own_base hO))
theorem FS.alloc {B : Nat} {w1 : World} {P0 : Nat} {x : PV} {pay : List UInt8} {w : World} (h : FS B w1 P0 x pay w) (o : Obj) : FS B w1 P0 x pay (w.alloc o) := h.later (below_alloc (Below.refl _ _) _)
theorem wpList_fs {B : Nat} {w1 : World} {P0 : Nat} {x : PV} {pay : List UInt8} {w : World} {ops : Array Oper} {rest : List Oper} {o : Oper} {a : Act} {Q : Exit → Act → World → Prop} (hgd : o.guard = none) (s y : Operand)
  (ho : o.op = .call { callee := .builtin .append, args := #[s, y], argTypes := #[43, 43] }) {v yv : Value} {L M : List UInt8} {B' : Nat} (hs : a.eval s = v) (hO : OwnB w B v L) (hy : a.eval y = yv) (hR : Rb B' w yv M)
  (hl : L.length ≤ 1000000) (hm : M.length ≤ 1000000) (hF : FS B w1 P0 x pay w) (h : ∀ v' w', Hid (OwnB w' B v' (L ++ M)) → Hid (FS B w1 P0 x pay w') → wpList Try.prog ops Q rest (a.put o.dst v') w') : wpList Try.prog ops Q (o :: rest) a w := by
 obtain ⟨ad, cc, rfl, h1, h2, h3, h4, h5⟩ := hR
 refine wpList_app byteE hgd s y ho hs hO hy h2 (encBs_one M) (by unfold maxLen; omega) (by omega) hF.sz ?_
 intro v' w' hO' hG
 refine h v' w' ?_ (Lib.hid (hF.grew hO hG))
 show w'.ownsRow _ _ _ _ _ _
 rw [List.length_append, encBs, List.map_append]
 exact hO'
theorem wpList_fs_new {B : Nat} {w1 : World} {P0 : Nat} {x : PV} {pay : List UInt8} {w : World} {ops : Array Oper} {rest : List Oper} {o : Oper} {a : Act} {Q : Exit → Act → World → Prop} (M : List UInt8) (hgd : o.guard = none) (s y : Operand)
  (ho : o.op = .call { callee := .builtin .append, args := #[s, y], argTypes := #[43, 43] }) {v : Value} {L : List UInt8} (hs : a.eval s = v) (hO : OwnB w B v L) (cs : Array Value) (hcs : cs = (encBs M).toArray) (m : Nat) (hmm : m = M.length) (hy : a.eval y = .slice (some ⟨w.heap.size, 0, none⟩) m m)
  (hl : L.length ≤ 1000000) (hm : M.length ≤ 1000000) (hF : FS B w1 P0 x pay w) (h : ∀ v' w', Hid (OwnB w' B v' (L ++ M)) → Hid (FS B w1 P0 x pay w') → wpList Try.prog ops Q rest (a.put o.dst v') w') : wpList Try.prog ops Q (o :: rest) a (w.alloc (.cells cs 5 (0, 0))) := by
 subst hcs hmm
 exact wpList_fs hgd s y ho hs (hO.alloc _) hy (rb_arr (heap_alloc_new w _) hm) hl hm (hF.alloc _) h
theorem wpList_build_fs {B : Nat} {w1 : World} {P0 : Nat} {x : PV} {pay : List UInt8} {w : World} {ops : Array Oper} {rest : List Oper} {ob o : Oper} {a : Act} {Q : Exit → Act → World → Prop} (M : List UInt8) (cap : Nat) (items : Array (Nat × Operand)) (hob : ob.op = .buildSlice 43 cap items) (hgb : ob.guard = none) (m : Nat) (hmm : m = M.length)
  (hb : (execOp a.eval ob).run Try.prog w = .ok (.value (.slice (some ⟨w.heap.size, 0, none⟩) m m)) (w.alloc (.cells (encBs M).toArray 5 (0, 0)))) (hgd : o.guard = none) (s y : Operand)
  (ho : o.op = .call { callee := .builtin .append, args := #[s, y], argTypes := #[43, 43] }) {v : Value} {L : List UInt8} (hs : (a.put ob.dst (.slice (some ⟨w.heap.size, 0, none⟩) m m)).eval s = v) (hO : OwnB w B v L) (hy : (a.put ob.dst (.slice (some ⟨w.heap.size, 0, none⟩) m m)).eval y = .slice (some ⟨w.heap.size, 0, none⟩) m m)
  (hl : L.length ≤ 1000000) (hm : M.length ≤ 1000000) (hF : FS B w1 P0 x pay w) (h : ∀ v' w', Hid (OwnB w' B v' (L ++ M)) → Hid (FS B w1 P0 x pay w') → wpList Try.prog ops Q rest ((a.put ob.dst (.slice (some ⟨w.heap.size, 0, none⟩) m m)).put o.dst v') w') : wpList Try.prog ops Q (ob :: o :: rest) a w := by
 refine wpList_plain hgb fun K hK => ?_
 unfold Oper.wp
 rw [hb]
 subst hmm
 exact hK _ _ (wpList_fs_new M hgd s y ho hs hO _ rfl _ rfl hy hl hm hF h)
theorem put_fs {B : Nat} {w1 : World} {P0 : Nat} {x : PV} {pay : List UInt8} {w : World} (hF : FS B w1 P0 x pay w) {v : Value} {L : List UInt8} (hO : OwnB w B v L) (X m : Nat) (hX : X < 18446744073709551616) (hm : m ≤ 8) (hl : L.length ≤ 1000000) :
  Calls Try.prog 94 #[v, .int .u64 X, .int .i64 m] w fun e w' => ∃ v', e = .returned v' ∧ Hid (OwnB w' B v' (L ++ be X m)) ∧ Hid (FS B w1 P0 x pay w') := by
 refine (put_any v L B X m w hO hF.sz hX hm hl).mono ?_
 rintro e w' ⟨v', rfl, hO', hG⟩
 exact ⟨v', rfl, hO', Lib.hid (hF.grew hO hG)⟩

set_option maxRecDepth 100000 in
set_option maxHeartbeats 2000000 in
theorem putAddr_any (v : Value) (L : List UInt8) (B : Nat) (x : NP) (w : World) (hown : OwnB w B v L) (hb : B ≤ w.heap.size) (hx : x.h1 < 18446744073709551616 ∧ x.l1 < 18446744073709551616) (hl : L.length ≤ 100000) :
  Calls Try.prog 96 #[v, .agg #[.bool x.s1, .int .u64 ((x.h1 : Nat) : Int), .int .u64 ((x.l1 : Nat) : Int)]] w fun e w' => ∃ v', e = .returned v' ∧ OwnB w' B v' (L ++ addrB x.s1 x.h1 x.l1) ∧ Grew w w' v v' := by
 have HO0 := Lib.hid hown
 clear hown
 have hPne : v.ownBlock ≠ some w.heap.size := fun e => by have := own_lt HO0.out _ e; omega
 have hcase := x.s1.eq_false_or_eq_true
 go_enter Try.func96, Try.ntmps96
 rcases hcase with hs | hs
 ·simp only [hs]
  go_upto_region 3 with fail
  have HP : Hid (Blk (w.alloc (.cells #[.bool true, .int .u64 ((x.h1 : Nat) : Int), .int .u64 ((x.l1 : Nat) : Int)] 28 (0, 0))) w.heap.size 28 #[.bool true, .int .u64 ((x.h1 : Nat) : Int), .int .u64 ((x.l1 : Nat) : Int)]) := Lib.hid (Blk.new w _ _)
  have HO1 := Lib.hid (HO0.out.alloc (.cells #[.bool true, .int .u64 ((x.h1 : Nat) : Int), .int .u64 ((x.l1 : Nat) : Int)] 28 (0, 0)))
  have HG1 := Lib.hid ((Grew.refl w v).alloc (.cells #[.bool true, .int .u64 ((x.h1 : Nat) : Int), .int .u64 ((x.l1 : Nat) : Int)] 28 (0, 0)))
  have hsz : (w.alloc (.cells #[.bool true, .int .u64 ((x.h1 : Nat) : Int), .int .u64 ((x.l1 : Nat) : Int)] 28 (0, 0))).heap.size = w.heap.size + 1 := by simp
  generalize w.alloc (.cells #[.bool true, .int .u64 ((x.h1 : Nat) : Int), .int .u64 ((x.l1 : Nat) : Int)] 28 (0, 0)) = w1 at *
  have hB : RC.fine ⟨B, w1, v, false, w.heap.size⟩ := ⟨by simp only; omega, by simp only; omega, hPne⟩
  clear hPne
  refine Lm.wp_region_lim 7 2 (fun p vv nn ww => (List.getD ((.own 0 (L)) :: (.val (.pointer (some ⟨w.heap.size, 1, none⟩))) :: (.val (.int .u64 ((x.h1 : Nat) : Int))) :: (.own 1 (L ++ be (x.h1) 8)) :: (.val (.pointer (some ⟨w.heap.size, 2, none⟩))) :: (.val (.int .u64 ((x.l1 : Nat) : Int))) :: (.own 2 (L ++ be (x.h1) 8 ++ be (x.l1) 8)) :: [] : List Ds) p .any).R (⟨B, w1, v, false, w.heap.size⟩ : RC) vv nn ww) (RC.C (⟨B, w1, v, false, w.heap.size⟩ : RC)) (RC.S (⟨B, w1, v, false, w.heap.size⟩ : RC)) (fun i => if i = 3 ∨ i = 6 then 1 else 0) (fun i => if i = 4 ∨ i = 5 ∨ i = 6 then 1 else 0)
   (by kernel_rfl) (by kernel_rfl) (by decide) (by kernel_rfl) (fun p vv nn ww n' w' h hs => ds_keep hB _ rfl p vv nn ww n' w' h hs) RC.start ?hX1
  case' hX1 => (apply Exists.intro; refine ⟨fun T => ?hA1, ?hob1, ?hend1⟩)
  case hA1 =>
   simp only [setAll, List.take_succ_cons, List.take_zero, Act.put, List.setIfInBounds_toArray, List.set_cons_succ, List.set_cons_zero, Nat.reduceAdd]
   exact rfl
  case hob1 =>
   refine ⟨?_, ?_, ?_, ?_, ?_, ?_, ?_, trivial⟩
   ·intro T wx n hC (hn : n ≤ 0) hp
    refine Op1.g fun _ Z => ?_; go_simp
    have hz : n = 0 := by omega
    exact Z _ _ ⟨own0 hC hz HO1.out, hC, rR⟩
   ·intro T wx n hC (hn : n ≤ 0) hp
    refine Op1.g fun _ Z => ?_; go_simp; exact Z _ _ ⟨rfl, hC, rR⟩
   ·intro T wx n hC (hn : n ≤ 0) hp
    obtain ⟨(d1 : T 1 = .pointer (some ⟨w.heap.size, 1, none⟩)), -⟩ := hp
    have hq := fun i => Blk.cell (show Blk wx w.heap.size _ _ from hC.2.2.trans HP.out) i
    have cq := hq 1
    simp at cq
    clear hq
    refine Op1.g fun _ Z => ?_; go_simp; exact Z _ _ ⟨rfl, hC, rR⟩
   ·intro T wx n hC (hn : n ≤ 0) hp
    obtain ⟨(d0 : Ds.R (⟨B, w1, v, false, w.heap.size⟩ : RC) (.own 0 (L)) (T 0) n wx), (d2 : T 2 = .int .u64 ((x.h1 : Nat) : Int)), -⟩ := hp
    obtain ⟨hO, hGo⟩ := d0.2 (by omega)
    have hk0 := d0.1
    have hk : n = 0 := by omega
    refine Op1.g fun _ Z => ?_; go_simp; exact calls_post (put_ob (c := (⟨B, w1, v, false, w.heap.size⟩ : RC)) hB hC hk hO hGo (.inl rfl) (x.h1) 8 (by have := hx.1; have := hx.2; omega) (by omega) (by first | omega | (simp [be_len, addrB_len, bodyB_len, partB_len, leastN] <;> (repeat' split) <;> omega))) Z
   ·intro T wx n hC (hn : n ≤ 1) hp
    refine Op1.g fun _ Z => ?_; go_simp; exact Z _ _ ⟨rfl, hC, rR⟩
   ·intro T wx n hC (hn : n ≤ 1) hp
    obtain ⟨(d4 : T 4 = .pointer (some ⟨w.heap.size, 2, none⟩)), -⟩ := hp
    have hq := fun i => Blk.cell (show Blk wx w.heap.size _ _ from hC.2.2.trans HP.out) i
    have cq := hq 2
    simp at cq
    clear hq
    refine Op1.g fun _ Z => ?_; go_simp; exact Z _ _ ⟨rfl, hC, rR⟩
   ·intro T wx n hC (hn : n ≤ 1) hp
    obtain ⟨(d3 : Ds.R (⟨B, w1, v, false, w.heap.size⟩ : RC) (.own 1 (L ++ be (x.h1) 8)) (T 3) n wx), (d5 : T 5 = .int .u64 ((x.l1 : Nat) : Int)), -⟩ := hp
    obtain ⟨hO, hGo⟩ := d3.2 (by omega)
    have hk0 := d3.1
    have hk : n = 1 := by omega
    refine Op1.g fun _ Z => ?_; go_simp; exact calls_post (put_ob (c := (⟨B, w1, v, false, w.heap.size⟩ : RC)) hB hC hk hO hGo (.inl rfl) (x.l1) 8 (by have := hx.1; have := hx.2; omega) (by omega) (by first | omega | (simp [be_len] <;> (repeat' split) <;> omega))) Z
  case hend1 =>
   intro T wx ⟨n, hn, hC, hR⟩
   obtain ⟨HO4, HG4⟩ : OwnB wx B (T 6) (L ++ be (x.h1) 8 ++ be (x.l1) 8) ∧ Grew w1 wx v (T 6) := (show Ds.R (⟨B, w1, v, false, w.heap.size⟩ : RC) (.own 2 (L ++ be (x.h1) 8 ++ be (x.l1) 8)) (T 6) n wx from hR 6 (by omega)).2 (by omega)
   generalize T 6 = v4 at *
   have HO4 := Lib.hid HO4
   have HG4 := Lib.hid HG4
   have HC := Lib.hid hC.1
   have hB2 := hC.size
   clear hR hC
   go_wp2_with fail
   go_ret
   refine ⟨_, rfl, ?_, HG1.out.trans HG4.out⟩
   have := HO4.out
   rw [List.append_assoc] at this
   simpa [addrB, hs] using this
 ·simp only [hs]
  go_wp2_with fail
  refine (put_any v L B x.l1 4 _ (HO0.out.alloc _) (by simp; omega) hx.2 (by omega) (by omega)).mono ?_
  rintro e w2 ⟨v2, rfl, hO, hG⟩
  have HO2 := Lib.hid hO
  have HG2 := Lib.hid hG
  clear hO hG
  go_wp2_with fail
  go_ret
  exact ⟨_, rfl, by simpa [addrB, hs] using HO2.out, HG2.out.allocFirst⟩
theorem putAddr_ob {c : RC} (hB : c.fine) {n k : Nat} {w : World} {v : Value} {L : List UInt8} (hC : c.C n w) (hn : n = k) (hO : OwnB w c.B v L) (hGo : Grew c.u w c.v0 v) (hk : c.kp = false ∨ v.ownBlock = none ∨ 3 ≤ L.length)
  (s : Bool) (h l : Nat) (hh : h < 18446744073709551616) (hl' : l < 18446744073709551616) (hl : L.length ≤ 100000) :
  Calls Try.prog 96 #[v, .agg #[.bool s, .int .u64 (h : Int), .int .u64 (l : Int)]] w fun e w' => ∃ v', e = .returned v' ∧ Ds.R c (.own (k + 1) (L ++ addrB s h l)) v' (n + 1) w' ∧ c.C (n + 1) w' ∧ c.S n w (n + 1) w' := by
 refine (putAddr_any v L c.B ⟨s, h, l, false, 0, 0, 0, 0, 0, 0, false, false, false, false, 0, 0, false, 0⟩ w hO (Nat.le_trans hB.le hC.size) ⟨hh, hl'⟩ hl).mono ?_
 rintro e w' ⟨v', rfl, hO', hG⟩
 exact ⟨v', rfl, chain_ok hB hC hn hO hGo hO' hG hk⟩
end Go.Proofs.Ytakjopbdkkcnlaa

namespace Go.Proofs.Ytakjopbdkkcnlaa
open Go.RowKit Go
set_option linter.unusedVariables false

theorem own_zero (w : World) (B : Nat) (hB : B ≤ w.heap.size) (cs : Array Value) (m : Nat) (hcs : cs.size = m) (hm : m ≤ maxLen) : OwnB (w.alloc (.cells cs 5 (0, 0))) B (.slice (some ⟨w.heap.size, 0, none⟩) 0 m) [] :=
 ⟨by simp [encBs], .inr ⟨w.heap.size, m, cs, rfl, hB, heap_alloc_new w _, Nat.zero_le _, hm, by omega, by simp [encBs]⟩⟩
theorem flat_take (Ls : List (List UInt8)) (k : Nat) (hk : k < Ls.length) : (Ls.take (k + 1)).flatten = (Ls.take k).flatten ++ Ls.getD k [] := by
 rw [List.take_succ_eq_append_getElem hk, List.flatten_append]
 simp [List.getD, hk]
theorem flat_le (Ls : List (List UInt8)) (k : Nat) : (Ls.take k).flatten.length ≤ Ls.flatten.length := by
 have h : Ls.flatten = (Ls.take k).flatten ++ (Ls.drop k).flatten := by rw [← List.flatten_append, List.take_append_drop]
 rw [h]
 simp
theorem cat_elem {w : World} {g : Nat} {vs : List Value} {Ls : List (List UInt8)} (hg : w.heap[g]? = some (.cells vs.toArray 43 (0, 0))) (hR : RbL w.heap.size w vs Ls) (k : Nat) (hk : k < Ls.length) :
  ∃ ad c, w.cell? ⟨g, k, none⟩ = some (.slice ad (Ls.getD k []).length c) ∧ Rb w.heap.size w (.slice ad (Ls.getD k []).length c) (Ls.getD k []) := by
 have hlen := hR.len
 have h1 : vs[k]? = some vs[k] := List.getElem?_eq_getElem (by omega)
 have h2 : Ls[k]? = some (Ls.getD k []) := by simp [List.getD, hk]
 have hr := hR.get k _ _ h1 h2
 obtain ⟨ad, c, e, hr'⟩ := id hr
 refine ⟨ad, c, ?_, ?_⟩
 ·rw [cell_of_row w g k _ _ _ hg]
  simp only [List.getElem?_toArray]
  rw [h1, e]
 ·rw [← e]; exact hr

theorem rb_src {B : Nat} {w : World} {ad : Option Addr} {n c : Nat} {L : List UInt8} (h : Rb B w (.slice ad n c) L) : Src w ad L.length 1 (encBs L) := by
 obtain ⟨ad', c', e, h1, h2, -⟩ := h
 injection e with e1 e2 e3
 subst e1
 exact h2
set_option maxRecDepth 100000 in
set_option maxHeartbeats 1000000 in
theorem grow_any (n : Nat) (w : World) (hn : n ≤ 1000000) : Calls Try.prog 99 #[.slice none 0 0, .int .i64 (n : Int)] w fun e w' => ∃ v, e = .returned v ∧ OwnB w' w.heap.size v [] ∧ Below w.heap.size w w' := by
 by_cases h0 : n = 0
 ·subst h0
  go_enter Try.func99, Try.ntmps99
  go_wp2
  go_ret
  exact ⟨_, rfl, OwnB.nil _ _, Below.refl _ _⟩
 ·obtain ⟨i, hi0, hi1, hi2, hi3⟩ := info_parts (show (Try.prog.info? 5).map (fun i => (i.zero, i.size, i.bytes)) = some (some (.int .u8 0), 1, 1) by kernel_rfl)
  have hrun := fun ty => Lib.run_append_nil_zeros (P := Try.prog) w 43 3 ty 5 i (.int .u8 0) .i64 .i64 Try.underlying43 Try.underlying3 hi0 hi1 n (by omega) (by omega) (by omega) (by rw [hi3]; omega)
  have hcap := Lib.hid (show True from trivial)
  go_enter Try.func99, Try.ntmps99
  go_wp2_with (at_builtin; refine Lib.wpList_append_run _ rfl _ _ _ _ rfl _ _ rfl rfl _ _ (hrun _) ?_)
  have hge := grownCap_ge w n 0 5
  have hle := grownCap_le_maxLen w n 0 5 (by unfold maxLen; omega)
  generalize grownCap w n 0 5 = m at *
  go_ret
  exact ⟨_, rfl, own_zero w.drew w.heap.size (Nat.le_refl _) _ m (by simp [size_zeroCells]; omega) hle, below_alloc (below_drew (Below.refl _ _)) _⟩

set_option maxRecDepth 100000 in
set_option maxHeartbeats 1000000 in
theorem concat_any (g : Nat) (vs : List Value) (Ls : List (List UInt8)) (w : World) (hg : w.heap[g]? = some (.cells vs.toArray 43 (0, 0))) (hR : RbL w.heap.size w vs Ls) (hl : Ls.flatten.length ≤ 100000) (hn : Ls.length ≤ 100) :
  Calls Try.prog 66 #[.slice (some ⟨g, 0, none⟩) Ls.length Ls.length] w fun e w' => ∃ v, e = .returned v ∧ OwnB w' w.heap.size v Ls.flatten ∧ Below w.heap.size w w' := by
 have hglt := lt_of_block hg
 have HE := Lib.hid (fun k => cat_elem hg hR k)
 have HL := Lib.hid hl
 clear hg hR hl
 generalize hnn : Ls.length = n at *
 have Hn := Lib.hid hnn
 clear hnn
 go_enter Try.func66, Try.ntmps66
 go_wp2
 go_loop [3, 11] (fun t i => ∃ k : Nat, k ≤ n ∧ i = .int .i64 k ∧ t = .int .i64 ((Ls.take k).flatten.length : Nat)) (fun _ i => n - (intOf i).toNat)
 case atStart => exact ⟨0, Nat.zero_le _, rfl, rfl⟩
 case round =>
  obtain ⟨k, hk, rfl, rfl⟩ := hrel
  by_cases hlt : k < n
  ·obtain ⟨ad, c, hc, hr⟩ := HE.out k hlt
   have hf1 := flat_take Ls k (by rw [Hn.out]; exact hlt)
   have hle1 := flat_le Ls (k + 1)
   have hle0 := flat_le Ls k
   have hL := HL.out
   rw [hf1, List.length_append] at hle1
   have HF := Lib.hid (congrArg List.length hf1)
   clear hr hf1
   generalize (Ls.getD k []) = E at *
   generalize hm : E.length = m at *
   generalize hs : (Ls.take k).flatten.length = sl at *
   generalize Ls.flatten.length = tot at *
   rw [List.length_append, hm, hs] at HF
   clear hm hs
   go_wp2
   refine ⟨⟨k + 1, by omega, by go_num, ?_⟩, by simp [intOf]; omega⟩
   rw [HF.out]
   go_num
  ·obtain rfl : k = n := by omega
   have hall : Ls.take k = Ls := List.take_of_length_le (by rw [Hn.out]; exact Nat.le_refl _)
   rw [hall]
   have hL := HL.out
   generalize hs : Ls.flatten.length = tot at *
   have HT := Lib.hid hs
   clear hs hall
   go_wp2_with fail
   refine (grow_any tot w (by omega)).mono ?_
   rintro e w1 ⟨v1, rfl, hO, hb⟩
   have HO := Lib.hid hO
   have HB := Lib.hid hb
   clear hO hb
   go_wp2
   go_loopw [6, 27] (fun s i wr => ∃ k' : Nat, k' ≤ k ∧ i = .int .i64 k' ∧ Hid (OwnB wr w.heap.size s (Ls.take k').flatten) ∧ Hid (Below w.heap.size w wr)) (fun _ i _ => k - (intOf i).toNat)
   case atStart => exact ⟨0, Nat.zero_le _, rfl, HO, HB⟩
   case round =>
    clear HO HB
    obtain ⟨k', hk', rfl, HO, HB⟩ := hrel
    by_cases hlt2 : k' < k
    ·obtain ⟨ad, c, hc, hr⟩ := HE.out k' hlt2
     have hc' : wr.cell? ⟨g, k', none⟩ = some (.slice ad (Ls.getD k' []).length c) := (HB.out.cell (p := ⟨g, k', none⟩) hglt).trans hc
     have HR := Lib.hid (hr.below HB.out)
     have hf1 := flat_take Ls k' (by rw [Hn.out]; exact hlt2)
     have hle1 := flat_le Ls (k' + 1)
     have hL' := HL.out
     rw [hf1, List.length_append, HT.out] at hle1
     have HF := Lib.hid hf1
     clear hc hr hf1
     obtain ⟨E, hE⟩ : ∃ E, E = Ls.getD k' [] := ⟨_, rfl⟩
     rw [← hE] at hc' HR hle1 HF
     clear hE
     obtain ⟨A, hA⟩ : ∃ A, A = (Ls.take k').flatten := ⟨_, rfl⟩
     rw [← hA] at HO hle1 HF
     clear hA
     have hwlt : g < wr.heap.size := Nat.lt_of_lt_of_le hglt HB.out.size
     generalize hEl : E.length = el at *
     go_wp2_with (at_builtin; refine wpList_app byteE rfl (.tmp 31) (.tmp 32) rfl rfl HO.out rfl (by rw [← hEl]; exact (rb_src HR.out)) (encBs_one E) ?h1 ?h2 ?h3 ?_)
     case h1 => unfold maxLen; omega
     case h2 => omega
     case h3 => exact HB.out.size
     intro v' w' hO' hG
     have HO' : Hid (OwnB w' w.heap.size v' (A ++ E)) := by
      show w'.ownsRow _ _ _ _ _ _
      rw [List.length_append, hEl, encBs, List.map_append]
      exact hO'
     have HB' := Lib.hid (HB.out.trans (hG.below HB.out.size (own_base HO.out)))
     clear hO' hG HO HB HR hc' hEl
     go_wp2
     refine ⟨⟨k' + 1, by omega, by go_num, by rw [HF.out]; exact HO', HB'⟩, by simp [intOf]; omega⟩
    ·obtain rfl : k' = k := by omega
     go_wp2
     go_ret
     exact ⟨_, rfl, by have := HO.out; rwa [List.take_of_length_le (by rw [Hn.out]; exact Nat.le_refl _)] at this, HB.out⟩

end Go.Proofs.Ytakjopbdkkcnlaa

namespace Go.Proofs.Ytakjopbdkkcnlaa
open Go.RowKit Go
set_option linter.unusedVariables false

theorem concat_ob {c : RC} (hB : c.fine) {n : Nat} {w : World} (hC : c.C n w) (hn : n = 0) (hv : c.v0 = .slice none 0 0) (g : Nat) (vs : List Value) (Ls : List (List UInt8)) (hg : w.heap[g]? = some (.cells vs.toArray 43 (0, 0))) (hR : RbL w.heap.size w vs Ls) (hl : Ls.flatten.length ≤ 100000) (hk : Ls.length ≤ 100) (m : Nat) (hm : m = Ls.length) :
  Calls Try.prog 66 #[.slice (some ⟨g, 0, none⟩) m m] w fun e w' => ∃ v', e = .returned v' ∧ Ds.R c (.own 0 Ls.flatten) v' n w' ∧ c.C n w' ∧ c.S n w n w' := by
 subst hm
 refine (concat_any g vs Ls w hg hR hl hk).mono ?_
 rintro e w' ⟨v', rfl, hO, hb⟩
 exact ⟨v', rfl, fresh_ok hB hC hn hv hO hb⟩
set_option maxRecDepth 100000 in
set_option maxHeartbeats 2000000 in
theorem addrBytes_any (x : NP) (w : World) (hx : x.h1 < 18446744073709551616 ∧ x.l1 < 18446744073709551616) :
  Calls Try.prog 65 #[.agg #[.bool x.s1, .int .u64 ((x.h1 : Nat) : Int), .int .u64 ((x.l1 : Nat) : Int)]] w fun e w' => ∃ v', e = .returned v' ∧ OwnB w' w.heap.size v' (addrB x.s1 x.h1 x.l1) ∧ Below w.heap.size w w' := by
 have hcase := x.s1.eq_false_or_eq_true
 go_enter Try.func65, Try.ntmps65
 rcases hcase with hs | hs
 ·simp only [hs]
  go_upto_region 2 with fail
  have HP : Hid (Blk (w.alloc (.cells #[.bool true, .int .u64 ((x.h1 : Nat) : Int), .int .u64 ((x.l1 : Nat) : Int)] 28 (0, 0))) w.heap.size 28 #[.bool true, .int .u64 ((x.h1 : Nat) : Int), .int .u64 ((x.l1 : Nat) : Int)]) := Lib.hid (Blk.new w _ _)
  have hsz : (w.alloc (.cells #[.bool true, .int .u64 ((x.h1 : Nat) : Int), .int .u64 ((x.l1 : Nat) : Int)] 28 (0, 0))).heap.size = w.heap.size + 1 := by simp
  have HB0 := Lib.hid (below_alloc (Below.refl w.heap.size w) (.cells #[.bool true, .int .u64 ((x.h1 : Nat) : Int), .int .u64 ((x.l1 : Nat) : Int)] 28 (0, 0)))
  generalize w.alloc (.cells #[.bool true, .int .u64 ((x.h1 : Nat) : Int), .int .u64 ((x.l1 : Nat) : Int)] 28 (0, 0)) = w1 at *
  have hB : RC.fine ⟨w1.heap.size, w1, .slice none 0 0, false, w.heap.size⟩ := ⟨Nat.le_refl _, by simp only; omega, by simp [Value.ownBlock]⟩
  refine Lm.wp_region_lim 7 1 (fun p vv nn ww => (List.getD ((.val (.pointer (some ⟨w.heap.size, 1, none⟩))) :: (.val (.int .u64 ((x.h1 : Nat) : Int))) :: (.own 0 (be (x.h1) 8)) :: (.val (.pointer (some ⟨w.heap.size, 2, none⟩))) :: (.val (.int .u64 ((x.l1 : Nat) : Int))) :: (.own 0 (be (x.l1) 8)) :: (.own 1 (be (x.h1) 8 ++ be (x.l1) 8)) :: [] : List Ds) p .any).R (⟨w1.heap.size, w1, (.slice none 0 0), false, w.heap.size⟩ : RC) vv nn ww) (RC.C (⟨w1.heap.size, w1, (.slice none 0 0), false, w.heap.size⟩ : RC)) (RC.S (⟨w1.heap.size, w1, (.slice none 0 0), false, w.heap.size⟩ : RC)) (fun i => if i = 6 then 1 else 0) (fun _ => 0)
   (by kernel_rfl) (by kernel_rfl) (by decide) (by kernel_rfl) (fun p vv nn ww n' w' h hs => ds_keep hB _ rfl p vv nn ww n' w' h hs) RC.start ?hX1
  case' hX1 => (apply Exists.intro; refine ⟨fun T => ?hA1, ?hob1, ?hend1⟩)
  case hA1 =>
   simp only [setAll, List.take_succ_cons, List.take_zero, Act.put, List.setIfInBounds_toArray, List.set_cons_succ, List.set_cons_zero, Nat.reduceAdd]
   exact rfl
  case hob1 =>
   refine ⟨?_, ?_, ?_, ?_, ?_, ?_, ?_, trivial⟩
   ·intro T wx n hC (hn : n ≤ 0) hp
    refine Op1.g fun _ Z => ?_; go_simp; exact Z _ _ ⟨rfl, hC, rR⟩
   ·intro T wx n hC (hn : n ≤ 0) hp
    obtain ⟨(d0 : T 0 = .pointer (some ⟨w.heap.size, 1, none⟩)), -⟩ := hp
    have hq := fun i => Blk.cell (show Blk wx w.heap.size _ _ from hC.2.2.trans HP.out) i
    have cq := hq 1
    simp at cq
    clear hq
    refine Op1.g fun _ Z => ?_; go_simp; exact Z _ _ ⟨rfl, hC, rR⟩
   ·intro T wx n hC (hn : n ≤ 0) hp
    obtain ⟨(d1 : T 1 = .int .u64 ((x.h1 : Nat) : Int)), -⟩ := hp
    have hz : n = 0 := by omega
    refine Op1.g fun _ Z => ?_; go_simp; exact calls_post (big_ob (c := (⟨w1.heap.size, w1, (.slice none 0 0), false, w.heap.size⟩ : RC)) hB hC hz rfl (x.h1) 8 (by have := hx.1; have := hx.2; omega) (by omega)) Z
   ·intro T wx n hC (hn : n ≤ 0) hp
    refine Op1.g fun _ Z => ?_; go_simp; exact Z _ _ ⟨rfl, hC, rR⟩
   ·intro T wx n hC (hn : n ≤ 0) hp
    obtain ⟨(d3 : T 3 = .pointer (some ⟨w.heap.size, 2, none⟩)), -⟩ := hp
    have hq := fun i => Blk.cell (show Blk wx w.heap.size _ _ from hC.2.2.trans HP.out) i
    have cq := hq 2
    simp at cq
    clear hq
    refine Op1.g fun _ Z => ?_; go_simp; exact Z _ _ ⟨rfl, hC, rR⟩
   ·intro T wx n hC (hn : n ≤ 0) hp
    obtain ⟨(d4 : T 4 = .int .u64 ((x.l1 : Nat) : Int)), -⟩ := hp
    have hz : n = 0 := by omega
    refine Op1.g fun _ Z => ?_; go_simp; exact calls_post (big_ob (c := (⟨w1.heap.size, w1, (.slice none 0 0), false, w.heap.size⟩ : RC)) hB hC hz rfl (x.l1) 8 (by have := hx.1; have := hx.2; omega) (by omega)) Z
   ·intro T wx n hC (hn : n ≤ 0) hp
    obtain ⟨(d2 : Ds.R (⟨w1.heap.size, w1, (.slice none 0 0), false, w.heap.size⟩ : RC) (.own 0 (be (x.h1) 8)) (T 2) n wx), (d5 : Ds.R (⟨w1.heap.size, w1, (.slice none 0 0), false, w.heap.size⟩ : RC) (.own 0 (be (x.l1) 8)) (T 5) n wx), -⟩ := hp
    obtain ⟨hO, hGo⟩ := d2.2 (by omega)
    obtain ⟨hO2, -⟩ := d5.2 (by omega)
    have hk0 := d2.1
    have hk : n = 0 := by omega
    exact app_ob hB rfl hC hk rfl hO hGo (.inl rfl) rfl (hO2.rb (by first | omega | (simp [be_len] <;> (repeat' split) <;> omega))) (by first | omega | (simp [be_len] <;> (repeat' split) <;> omega)) (by first | omega | (simp [be_len] <;> (repeat' split) <;> omega))
  case hend1 =>
   intro T wx ⟨n, hn, hC, hR⟩
   obtain ⟨HO2, HG2⟩ : OwnB wx w1.heap.size (T 6) (be (x.h1) 8 ++ be (x.l1) 8) ∧ Grew w1 wx (.slice none 0 0) (T 6) := (show Ds.R (⟨w1.heap.size, w1, (.slice none 0 0), false, w.heap.size⟩ : RC) (.own 1 (be (x.h1) 8 ++ be (x.l1) 8)) (T 6) n wx from hR 6 (by omega)).2 (by omega)
   generalize T 6 = v2 at *
   have HO2 := Lib.hid HO2
   have HG2 := Lib.hid HG2
   have HC := Lib.hid hC.1
   have hB2 := hC.size
   clear hR hC
   go_wp2_with fail
   go_ret
   exact ⟨_, rfl, OwnB.weak (by simpa [addrB, hs] using HO2.out) (by omega), HB0.out.trans (HC.out.mono (by omega))⟩
 ·simp only [hs]
  go_wp2_with fail
  refine (big_any x.l1 4 _ hx.2 (by omega)).mono ?_
  rintro e w2 ⟨v2, rfl, hO, hG⟩
  have HO2 := Lib.hid hO
  have HG2 := Lib.hid hG
  clear hO hG
  go_wp2_with fail
  go_ret
  exact ⟨_, rfl, OwnB.weak (by simpa [addrB, hs] using HO2.out) (by simp), (below_alloc (Below.refl _ _) _).trans (HG2.out.mono (by simp))⟩
theorem addrBytes_ob {c : RC} (hB : c.fine) {n : Nat} {w : World} (hC : c.C n w) (hn : n = 0) (hv : c.v0 = .slice none 0 0) (s : Bool) (h l : Nat) (hh : h < 18446744073709551616) (hl : l < 18446744073709551616) :
  Calls Try.prog 65 #[.agg #[.bool s, .int .u64 (h : Int), .int .u64 (l : Int)]] w fun e w' => ∃ v', e = .returned v' ∧ Ds.R c (.own 0 (addrB s h l)) v' n w' ∧ c.C n w' ∧ c.S n w n w' := by
 refine (addrBytes_any ⟨s, h, l, false, 0, 0, 0, 0, 0, 0, false, false, false, false, 0, 0, false, 0⟩ w ⟨hh, hl⟩).mono ?_
 rintro e w' ⟨v', rfl, hO, hb⟩
 exact ⟨v', rfl, fresh_ok hB hC hn hv hO hb⟩
theorem bit_enc (c : Bool) (n : UInt8) : Value.int .u8 (if c = true then (n.toNat : Int) else 0) = encB (if c = true then n else 0) := by cases c <;> rfl
theorem u8_add (a b : UInt8) : Value.int .u8 (((a.toNat : Int) + (b.toNat : Int)) % 256) = encB (a + b) := by
 unfold encB
 refine congrArg (Value.int .u8) ?_
 rw [UInt8.toNat_add]
 omega
theorem u8_sub (a b : UInt8) : Value.int .u8 (((a.toNat : Int) - (b.toNat : Int)) % 256) = encB (a - b) := by
 unfold encB
 refine congrArg (Value.int .u8) ?_
 rw [UInt8.toNat_sub]
 have := a.toNat_lt
 have := b.toNat_lt
 omega
end Go.Proofs.Ytakjopbdkkcnlaa

namespace Go.Proofs.Ytakjopbdkkcnlaa
open Go.RowKit Go
set_option linter.unusedVariables false

theorem Op1.of_run {P : Program} {o : Oper} {ρ : Operand → Value} {w w2 : World} {v : Value} {post : Value → World → Prop} (hr : (execOp ρ o).run P w = .ok (.value v) w2) (h : post v w2) : Op1 P o ρ w post := by
 unfold Op1
 rw [hr]
 exact h
theorem rb_lit {B : Nat} {w : World} {v : Value} {L : List UInt8} (h : Rb B w v L) : ∃ ad n c, v = .slice ad n c ∧ Hid (Rb B w (.slice ad n c) L) := by
 obtain ⟨ad, c, e, -⟩ := id h
 exact ⟨ad, L.length, c, e, e ▸ h⟩
theorem FS.rebase2 {B : Nat} {w1 : World} {P0 : Nat} {x : PV} {pay : List UInt8} {w : World} (h : FS B w1 P0 x pay w) : FS w.heap.size w P0 x pay w :=
 ⟨Below.refl _ _, Nat.le_refl _, h.p, Blk.lt h.p, h.rb.mono h.sz⟩
theorem bit_ob {c : RC} (hB : c.fine) {n : Nat} {w : World} (hC : c.C n w) (b : Bool) (k : UInt8) :
  Calls Try.prog 98 #[.bool b, .int .u8 (k.toNat : Int)] w fun e w' => ∃ v', e = .returned v' ∧ Ds.R c (.val (encB (if b = true then k else 0))) v' n w' ∧ c.C n w' ∧ c.S n w n w' := by
 rw [← bit_enc]
 exact ret_ob hB hC (bit_any b _ w)
theorem flag_sum (x : NP) : (((if x.fin = true then (1 : UInt8) else 0) + (if x.syn = true then (2 : UInt8) else 0)) + (if x.rst = true then (4 : UInt8) else 0)) + (if x.has = true then (16 : UInt8) else 0) = b8 (flagN x) := by
 unfold flagN
 cases x.fin <;> cases x.syn <;> cases x.rst <;> cases x.has <;> rfl
end Go.Proofs.Ytakjopbdkkcnlaa
