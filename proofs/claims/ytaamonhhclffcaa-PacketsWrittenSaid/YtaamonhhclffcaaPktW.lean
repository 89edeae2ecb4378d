/-
  A right packet is written: the program's side.
-/
import Derived.Test.YtaamonhhclffcaaPktS
import Derived.Test.YtaamonhhclffcaaByteSet
namespace Go.Proofs.Ytaamonhhclffcaa
open Go.RowKit Go
set_option linter.unusedVariables false
theorem np_cells {w : World} {B : Nat} {x : NP} {v : Value} (h : PBlk w B (x.pv v)) : w.cell? ⟨B, 0, none⟩ = some (.bool x.s1) ∧ w.cell? ⟨B, 1, none⟩ = some (.int .u64 ((x.h1 : Nat) : Int)) ∧ w.cell? ⟨B, 2, none⟩ = some (.int .u64 ((x.l1 : Nat) : Int)) ∧ w.cell? ⟨B, 3, none⟩ = some (.bool x.s2) ∧ w.cell? ⟨B, 4, none⟩ = some (.int .u64 ((x.h2 : Nat) : Int)) ∧ w.cell? ⟨B, 5, none⟩ = some (.int .u64 ((x.l2 : Nat) : Int)) ∧ w.cell? ⟨B, 6, none⟩ = some (.int .i64 ((x.hops : Nat) : Int)) ∧ w.cell? ⟨B, 7, none⟩ = some (.int .i64 ((x.proto : Nat) : Int)) ∧ w.cell? ⟨B, 8, none⟩ = some (.int .i64 ((x.fp : Nat) : Int)) ∧ w.cell? ⟨B, 9, none⟩ = some (.int .i64 ((x.tp : Nat) : Int)) ∧ w.cell? ⟨B, 10, none⟩ = some (.bool x.syn) ∧ w.cell? ⟨B, 11, none⟩ = some (.bool x.fin) ∧ w.cell? ⟨B, 12, none⟩ = some (.bool x.rst) ∧ w.cell? ⟨B, 13, none⟩ = some (.bool x.has) ∧ w.cell? ⟨B, 14, none⟩ = some (.int .i64 ((x.seq : Nat) : Int)) ∧ w.cell? ⟨B, 15, none⟩ = some (.int .i64 ((x.ack : Nat) : Int)) ∧ w.cell? ⟨B, 16, none⟩ = some (.bool x.reply) ∧ w.cell? ⟨B, 17, none⟩ = some (.int .i64 ((x.id : Nat) : Int)) ∧ w.cell? ⟨B, 18, none⟩ = some v ∧ ∀ i, w.frozen? ⟨B, i, none⟩ = false := PBlk.cells h
theorem FS.grew {B : Nat} {w1 : World} {P0 : Nat} {x : PV} {pay : List UInt8} {w w' : World} {v v' : Value} {L : List UInt8} (h : FS B w1 P0 x pay w) (hO : OwnB w B v L) (hG : Grew w w' v v') : FS B w1 P0 x pay w' := h.below (hG.below h.sz (own_base hO))
theorem FS.alloc {B : Nat} {w1 : World} {P0 : Nat} {x : PV} {pay : List UInt8} {w : World} (h : FS B w1 P0 x pay w) (o : Obj) : FS B w1 P0 x pay (w.alloc o) := h.later (below_alloc (Below.refl _ _) _)
theorem wpList_fs {B : Nat} {w1 : World} {P0 : Nat} {x : PV} {pay : List UInt8} {w : World} {ops : Array Oper} {rest : List Oper} {o : Oper} {a : Act} {Q : Exit → Act → World → Prop} (hgd : o.guard = none) (s y : Operand)
    (ho : o.op = .call { callee := .builtin .append, args := #[s, y], argTypes := #[43, 43] }) {v yv : Value} {L M : List UInt8} {B' : Nat} (hs : a.eval s = v) (hO : OwnB w B v L) (hy : a.eval y = yv) (hR : Rb B' w yv M)
    (hl : L.length ≤ 1000000) (hm : M.length ≤ 1000000) (hF : FS B w1 P0 x pay w) (h : ∀ v' w', Hid (OwnB w' B v' (L ++ M)) → Hid (FS B w1 P0 x pay w') → wpList Try.prog ops Q rest (a.put o.dst v') w') : wpList Try.prog ops Q (o :: rest) a w := by
  obtain ⟨ad, cc, rfl, h1, h2, h3, h4, h5⟩ := hR
  refine wpList_app byteE hgd s y ho hs hO hy h2 (encBs_one M) (by unfold maxLen; omega) (by omega) hF.sz ?_
  intro v' w' hO' hG
  refine h v' w' ?_ (Lib.hid (hF.grew hO hG))
  show w'.ownsRow _ _ _ _ _ _
  rw [List.length_append, encBs, List.map_append]
  exact hO'
theorem wpList_fs_new {B : Nat} {w1 : World} {P0 : Nat} {x : PV} {pay : List UInt8} {w : World} {ops : Array Oper} {rest : List Oper} {o : Oper} {a : Act} {Q : Exit → Act → World → Prop} (M : List UInt8) (hgd : o.guard = none) (s y : Operand)
    (ho : o.op = .call { callee := .builtin .append, args := #[s, y], argTypes := #[43, 43] }) {v : Value} {L : List UInt8} (hs : a.eval s = v) (hO : OwnB w B v L) (cs : Array Value) (hcs : cs = (encBs M).toArray) (m : Nat) (hmm : m = M.length) (hy : a.eval y = .slice (some ⟨w.heap.size, 0, none⟩) m m)
    (hl : L.length ≤ 1000000) (hm : M.length ≤ 1000000) (hF : FS B w1 P0 x pay w) (h : ∀ v' w', Hid (OwnB w' B v' (L ++ M)) → Hid (FS B w1 P0 x pay w') → wpList Try.prog ops Q rest (a.put o.dst v') w') : wpList Try.prog ops Q (o :: rest) a (w.alloc (.cells cs 5 (0, 0))) := by
  subst hcs hmm
  exact wpList_fs hgd s y ho hs (hO.alloc _) hy (rb_arr (heap_alloc_new w _) hm) hl hm (hF.alloc _) h
theorem wpList_build_fs {B : Nat} {w1 : World} {P0 : Nat} {x : PV} {pay : List UInt8} {w : World} {ops : Array Oper} {rest : List Oper} {ob o : Oper} {a : Act} {Q : Exit → Act → World → Prop} (M : List UInt8) (cap : Nat) (items : Array (Nat × Operand)) (hob : ob.op = .buildSlice 43 cap items) (hgb : ob.guard = none) (m : Nat) (hmm : m = M.length)
    (hb : (execOp a.eval ob).run Try.prog w = .ok (.value (.slice (some ⟨w.heap.size, 0, none⟩) m m)) (w.alloc (.cells (encBs M).toArray 5 (0, 0)))) (hgd : o.guard = none) (s y : Operand)
    (ho : o.op = .call { callee := .builtin .append, args := #[s, y], argTypes := #[43, 43] }) {v : Value} {L : List UInt8} (hs : (a.put ob.dst (.slice (some ⟨w.heap.size, 0, none⟩) m m)).eval s = v) (hO : OwnB w B v L) (hy : (a.put ob.dst (.slice (some ⟨w.heap.size, 0, none⟩) m m)).eval y = .slice (some ⟨w.heap.size, 0, none⟩) m m)
    (hl : L.length ≤ 1000000) (hm : M.length ≤ 1000000) (hF : FS B w1 P0 x pay w) (h : ∀ v' w', Hid (OwnB w' B v' (L ++ M)) → Hid (FS B w1 P0 x pay w') → wpList Try.prog ops Q rest ((a.put ob.dst (.slice (some ⟨w.heap.size, 0, none⟩) m m)).put o.dst v') w') : wpList Try.prog ops Q (ob :: o :: rest) a w := by
  refine wpList_plain hgb fun K hK => ?_
  unfold Oper.wp
  rw [hb]
  subst hmm
  exact hK _ _ (wpList_fs_new M hgd s y ho hs hO _ rfl _ rfl hy hl hm hF h)
theorem put_fs {B : Nat} {w1 : World} {P0 : Nat} {x : PV} {pay : List UInt8} {w : World} (hF : FS B w1 P0 x pay w) {v : Value} {L : List UInt8} (hO : OwnB w B v L) (X m : Nat) (hX : X < 18446744073709551616) (hm : m ≤ 8) (hl : L.length ≤ 1000000) :
    Calls Try.prog 94 #[v, .int .u64 X, .int .i64 m] w fun e w' => ∃ v', e = .returned v' ∧ Hid (OwnB w' B v' (L ++ be X m)) ∧ Hid (FS B w1 P0 x pay w') := by
  refine (put_any v L B X m w hO hF.sz hX hm hl).mono ?_
  rintro e w' ⟨v', rfl, hO', hG⟩
  exact ⟨v', rfl, hO', Lib.hid (hF.grew hO hG)⟩

set_option maxRecDepth 100000 in
set_option maxHeartbeats 2000000 in
theorem putAddr_any (v : Value) (L : List UInt8) (B : Nat) (x : NP) (w : World) (hown : OwnB w B v L) (hb : B ≤ w.heap.size) (hx : x.h1 < 18446744073709551616 ∧ x.l1 < 18446744073709551616) (hl : L.length ≤ 100000) :
    Calls Try.prog 96 #[v, .agg #[.bool x.s1, .int .u64 ((x.h1 : Nat) : Int), .int .u64 ((x.l1 : Nat) : Int)]] w fun e w' => ∃ v', e = .returned v' ∧ OwnB w' B v' (L ++ addrB x.s1 x.h1 x.l1) ∧ Grew w w' v v' := by
  have HO0 := Lib.hid hown
  clear hown
  have hPne : v.ownBlock ≠ some w.heap.size := fun e => by have := own_lt HO0.out _ e; omega
  have hcase := x.s1.eq_false_or_eq_true
  go_enter Try.func96, Try.ntmps96
  rcases hcase with hs | hs
  · simp only [hs]
    go_upto_region 3 with fail
    have HP : Hid (Blk (w.alloc (.cells #[.bool true, .int .u64 ((x.h1 : Nat) : Int), .int .u64 ((x.l1 : Nat) : Int)] 28 (0, 0))) w.heap.size 28 #[.bool true, .int .u64 ((x.h1 : Nat) : Int), .int .u64 ((x.l1 : Nat) : Int)]) := Lib.hid (Blk.new w _ _)
    have HO1 := Lib.hid (HO0.out.alloc (.cells #[.bool true, .int .u64 ((x.h1 : Nat) : Int), .int .u64 ((x.l1 : Nat) : Int)] 28 (0, 0)))
    have HG1 := Lib.hid ((Grew.refl w v).alloc (.cells #[.bool true, .int .u64 ((x.h1 : Nat) : Int), .int .u64 ((x.l1 : Nat) : Int)] 28 (0, 0)))
    have hsz : (w.alloc (.cells #[.bool true, .int .u64 ((x.h1 : Nat) : Int), .int .u64 ((x.l1 : Nat) : Int)] 28 (0, 0))).heap.size = w.heap.size + 1 := by simp
    generalize w.alloc (.cells #[.bool true, .int .u64 ((x.h1 : Nat) : Int), .int .u64 ((x.l1 : Nat) : Int)] 28 (0, 0)) = w1 at *
    have hB : RC.fine ⟨B, w1, v, false, w.heap.size⟩ := ⟨by simp only; omega, by simp only; omega, hPne⟩
    clear hPne
    refine Lm.wp_region_lim 7 2 (fun p vv nn ww => (List.getD ((.own 0 (L)) :: (.val (.pointer (some ⟨w.heap.size, 1, none⟩))) :: (.val (.int .u64 ((x.h1 : Nat) : Int))) :: (.own 1 (L ++ be (x.h1) 8)) :: (.val (.pointer (some ⟨w.heap.size, 2, none⟩))) :: (.val (.int .u64 ((x.l1 : Nat) : Int))) :: (.own 2 (L ++ be (x.h1) 8 ++ be (x.l1) 8)) :: [] : List Ds) p .any).R (⟨B, w1, v, false, w.heap.size⟩ : RC) vv nn ww) (RC.C (⟨B, w1, v, false, w.heap.size⟩ : RC)) (RC.S (⟨B, w1, v, false, w.heap.size⟩ : RC)) (fun i => if i = 3 ∨ i = 6 then 1 else 0) (fun i => if i = 4 ∨ i = 5 ∨ i = 6 then 1 else 0)
      (by kernel_rfl) (by kernel_rfl) (by decide) (by kernel_rfl) (fun p vv nn ww n' w' h hs => ds_keep hB _ rfl p vv nn ww n' w' h hs) RC.start ?hX1
    case' hX1 => (apply Exists.intro; refine ⟨fun T => ?hA1, ?hob1, ?hend1⟩)
    case hA1 =>
      simp only [setAll, List.take_succ_cons, List.take_zero, Act.put, List.setIfInBounds_toArray, List.set_cons_succ, List.set_cons_zero, Nat.reduceAdd]
      exact rfl
    case hob1 =>
      refine ⟨?_, ?_, ?_, ?_, ?_, ?_, ?_, trivial⟩
      · intro T wx n hC hn hp
        have hn : n ≤ 0 := hn
        refine Op1.gen fun post hpost => ?_; unfold Op1; go_simp
        have hz : n = 0 := by omega
        exact hpost _ _ ⟨own0 hC hz HO1.out, hC, RC.S.refl⟩
      · intro T wx n hC hn hp
        have hn : n ≤ 0 := hn
        refine Op1.gen fun post hpost => ?_; unfold Op1; go_simp; exact hpost _ _ ⟨rfl, hC, RC.S.refl⟩
      · intro T wx n hC hn hp
        have hn : n ≤ 0 := hn
        obtain ⟨e0, -⟩ := hp
        have d1 : T 1 = .pointer (some ⟨w.heap.size, 1, none⟩) := e0
        clear e0
        have hq := fun i => Blk.cell (show Blk wx w.heap.size _ _ from hC.2.2.trans HP.out) i
        have cq := hq 1
        simp at cq
        clear hq
        refine Op1.gen fun post hpost => ?_; unfold Op1; go_simp; exact hpost _ _ ⟨rfl, hC, RC.S.refl⟩
      · intro T wx n hC hn hp
        have hn : n ≤ 0 := hn
        obtain ⟨e0, e1, -⟩ := hp
        have d0 : Ds.R (⟨B, w1, v, false, w.heap.size⟩ : RC) (.own 0 (L)) (T 0) n wx := e0
        have d2 : T 2 = .int .u64 ((x.h1 : Nat) : Int) := e1
        clear e0 e1
        obtain ⟨hO, hGo⟩ := d0.2 (by omega)
        have hk0 := d0.1
        have hk : n = 0 := by omega
        refine Op1.gen fun post hpost => ?_; unfold Op1; go_simp; exact calls_post (put_ob (c := (⟨B, w1, v, false, w.heap.size⟩ : RC)) hB hC hk hO hGo (.inl rfl) (x.h1) 8 (by have := hx.1; have := hx.2; omega) (by omega) (by first | omega | (simp [be_len, addrB_len, bodyB_len, partB_len, leastN] <;> (repeat' split) <;> omega))) hpost
      · intro T wx n hC hn hp
        have hn : n ≤ 1 := hn
        refine Op1.gen fun post hpost => ?_; unfold Op1; go_simp; exact hpost _ _ ⟨rfl, hC, RC.S.refl⟩
      · intro T wx n hC hn hp
        have hn : n ≤ 1 := hn
        obtain ⟨e0, -⟩ := hp
        have d4 : T 4 = .pointer (some ⟨w.heap.size, 2, none⟩) := e0
        clear e0
        have hq := fun i => Blk.cell (show Blk wx w.heap.size _ _ from hC.2.2.trans HP.out) i
        have cq := hq 2
        simp at cq
        clear hq
        refine Op1.gen fun post hpost => ?_; unfold Op1; go_simp; exact hpost _ _ ⟨rfl, hC, RC.S.refl⟩
      · intro T wx n hC hn hp
        have hn : n ≤ 1 := hn
        obtain ⟨e0, e1, e2, -⟩ := hp
        have d3 : Ds.R (⟨B, w1, v, false, w.heap.size⟩ : RC) (.own 1 (L ++ be (x.h1) 8)) (T 3) n wx := e0
        have d5 : T 5 = .int .u64 ((x.l1 : Nat) : Int) := e1
        clear e0 e1 e2
        obtain ⟨hO, hGo⟩ := d3.2 (by omega)
        have hk0 := d3.1
        have hk : n = 1 := by omega
        refine Op1.gen fun post hpost => ?_; unfold Op1; go_simp; exact calls_post (put_ob (c := (⟨B, w1, v, false, w.heap.size⟩ : RC)) hB hC hk hO hGo (.inl rfl) (x.l1) 8 (by have := hx.1; have := hx.2; omega) (by omega) (by first | omega | (simp [be_len, addrB_len, bodyB_len, partB_len, leastN] <;> (repeat' split) <;> omega))) hpost
    case hend1 =>
      intro T wx ⟨n, hn, hC, hR⟩
      obtain ⟨HO4, HG4⟩ : OwnB wx B (T 6) (L ++ be (x.h1) 8 ++ be (x.l1) 8) ∧ Grew w1 wx v (T 6) := (show Ds.R (⟨B, w1, v, false, w.heap.size⟩ : RC) (.own 2 (L ++ be (x.h1) 8 ++ be (x.l1) 8)) (T 6) n wx from hR 6 (by omega)).2 (by omega)
      generalize T 6 = v4 at *
      have HO4 := Lib.hid HO4
      have HG4 := Lib.hid HG4
      have HC := Lib.hid hC.1
      have hB2 := hC.size
      clear hR hC
      go_wp2_with fail
      go_ret
      refine ⟨_, rfl, ?_, HG1.out.trans HG4.out⟩
      have := HO4.out
      rw [List.append_assoc] at this
      simpa [addrB, hs] using this
  · simp only [hs]
    go_wp2_with fail
    refine (put_any v L B x.l1 4 _ (HO0.out.alloc _) (by simp; omega) hx.2 (by omega) (by omega)).mono ?_
    rintro e w2 ⟨v2, rfl, hO, hG⟩
    have HO2 := Lib.hid hO
    have HG2 := Lib.hid hG
    clear hO hG
    go_wp2_with fail
    go_ret
    exact ⟨_, rfl, by simpa [addrB, hs] using HO2.out, HG2.out.allocFirst⟩
theorem putAddr_ob {c : RC} (hB : c.fine) {n k : Nat} {w : World} {v : Value} {L : List UInt8} (hC : c.C n w) (hn : n = k) (hO : OwnB w c.B v L) (hGo : Grew c.u w c.v0 v) (hk : c.kp = false ∨ v.ownBlock = none ∨ 3 ≤ L.length)
    (s : Bool) (h l : Nat) (hh : h < 18446744073709551616) (hl' : l < 18446744073709551616) (hl : L.length ≤ 100000) :
    Calls Try.prog 96 #[v, .agg #[.bool s, .int .u64 (h : Int), .int .u64 (l : Int)]] w fun e w' => ∃ v', e = .returned v' ∧ Ds.R c (.own (k + 1) (L ++ addrB s h l)) v' (n + 1) w' ∧ c.C (n + 1) w' ∧ c.S n w (n + 1) w' := by
  refine (putAddr_any v L c.B ⟨s, h, l, false, 0, 0, 0, 0, 0, 0, false, false, false, false, 0, 0, false, 0⟩ w hO (Nat.le_trans hB.le hC.size) ⟨hh, hl'⟩ hl).mono ?_
  rintro e w' ⟨v', rfl, hO', hG⟩
  exact ⟨v', rfl, chain_ok hB hC hn hO hGo hO' hG hk⟩
end Go.Proofs.Ytaamonhhclffcaa
