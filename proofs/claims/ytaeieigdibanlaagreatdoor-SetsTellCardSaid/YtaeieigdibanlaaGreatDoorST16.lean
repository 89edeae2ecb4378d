/-
  The reference's gaps: the spans between those of a list, of all addresses.
-/
import Derived.Test.YtaeieigdibanlaaGreatDoorST14
import Derived.Test.YtaeieigdibanlaaGreatDoorST15
set_option linter.unusedVariables false
namespace Go.Proofs.YtaeieigdibanlaaGreatDoor
open Go.RowKit Go
set_option linter.unusedVariables false

theorem wpList_buildv {P : Program} {ops : Array Oper} {rest : List Oper} {o : Oper} {a : Act} {w : World} {Q : Exit → Act → World → Prop} (hg : o.guard = none) (t : TypeId) (parts : Array (Nat × Operand)) (ho : o.op = .build t parts)
    (q : Array (Nat × Value)) (hq : (parts.map fun (i, x) => (i, a.eval x)) = q) (v : Value) (hr : ∀ w, (Instr.build t q).run P w = .ok v w) (h : wpList P ops Q rest (a.put o.dst v) w) : wpList P ops Q (o :: rest) a w := by
  subst hq
  refine wpList_plain hg fun K hK => ?_
  unfold Oper.wp execOp
  simp only [ho, Sem.run_bind, hr w, Result.andThen_ok, Sem.run_pure]
  exact hK _ _ h
/-- where the reference's walk stands: the number at hand, and whether the last address was met -/
structure GapQ (S : List Sp) (six done : Bool) (k y : Nat) (D : List Sp) : Prop where
  st : ∃ x, GapSt S six (!done) k x D ∧ (done = false → y = x)
  lt : y < 65536 ^ 9
theorem gapQ_zero {S : List Sp} (hv : ∀ p ∈ S, VR p) (six : Bool) : GapQ S six false 0 (loF six) [] :=
  ⟨⟨_, gapSt_zero hv six, fun _ => rfl⟩, (lo_vn six).1.lt10.1⟩
theorem GapQ.skip {S : List Sp} {six done : Bool} {k y : Nat} {D : List Sp} (h : GapQ S six done k y D) {r : Sp} (hr : S[k]? = some r) (hs : sixN r.1 ≠ six) : GapQ S six done (k + 1) y D := by
  obtain ⟨x, h1, h2⟩ := h.st
  exact ⟨⟨x, h1.skip hr hs, h2⟩, h.lt⟩
theorem GapQ.off {S : List Sp} {six : Bool} {k y : Nat} {D : List Sp} (h : GapQ S six true k y D) {r : Sp} (hr : S[k]? = some r) : sixN r.1 ≠ six := fun hs => by
  obtain ⟨x, h1, _⟩ := h.st
  have e := fam_drop hr six
  rw [if_pos hs, h1.no rfl] at e
  cases e
theorem GapQ.hit {S : List Sp} (hc : Can S) (hv : ∀ p ∈ S, VR p) {six : Bool} {k y : Nat} {D : List Sp} (h : GapQ S six false k y D) {r : Sp} (hr : S[k]? = some r) (hs : sixN r.1 = six) :
    VN y ∧ (y < r.1 → 0 < r.1) ∧ GapQ S six (decide (r.2 = topF six)) (k + 1) (r.2 + 1) (D ++ if y < r.1 then [(y, r.1 - 1)] else []) := by
  obtain ⟨x, h1, h2⟩ := h.st
  obtain rfl := h2 rfl
  have hrv := hv r (List.mem_of_getElem? hr)
  obtain ⟨-, -, h3, h4⟩ := h1.hit hc hv hr hs
  have ht := top_fam hrv.b (hrv.s.symm.trans hs)
  rw [ht] at h4
  refine ⟨h1.vx, fun hlt => by omega, ⟨⟨_, h4, fun hd => ?_⟩, hrv.b.lt10.2⟩⟩
  rw [if_neg (of_decide_eq_false hd)]
theorem GapQ.done {S : List Sp} {six done : Bool} {k y : Nat} {D : List Sp} (h : GapQ S six done k y D) (hk : S.length ≤ k) : D ++ (if done = true then [] else [(y, topF six)]) = gapsOf six S := by
  obtain ⟨x, h1, h2⟩ := h.st
  have := h1.done hk
  cases done
  · obtain rfl := h2 rfl
    rw [top_fam h1.vx h1.sx] at this
    simpa using this
  · simpa using this
theorem GapQ.len {S : List Sp} {six done : Bool} {k y : Nat} {D : List Sp} (h : GapQ S six done k y D) : D.length ≤ S.length + 1 := by
  obtain ⟨x, h1, _⟩ := h.st
  exact h1.len
/-- two blocks are made in one drawn region: 1: the first is there, 2: the second, 3: both -/
def gqC (w0 : World) (T : Nat → Value) (n : Nat) (w : World) : Prop :=
  Below w0.heap.size w0 w ∧ (n = 0 ∨ (n = 1 ∧ ∃ B, T 5 = .pointer (some ⟨B, 0, none⟩) ∧ B < w.heap.size) ∨ (n = 2 ∧ ∃ B, T 6 = .pointer (some ⟨B, 0, none⟩) ∧ B < w.heap.size) ∨ (n = 3 ∧ ∃ B B', T 5 = .pointer (some ⟨B, 0, none⟩) ∧ T 6 = .pointer (some ⟨B', 0, none⟩) ∧ B ≠ B'))
def gqS (n : Nat) (w : World) (n' : Nat) (w' : World) : Prop := Below w.heap.size w w' ∧ (n' = n ∨ n' = 3 ∨ n = 0)
theorem gqS.same {n : Nat} {w w' : World} (h : Below w.heap.size w w') : gqS n w n w' := ⟨h, .inl rfl⟩
theorem gqC.on {w0 : World} {T : Nat → Value} {n : Nat} {w w' : World} (h : gqC w0 T n w) (hb : Below w.heap.size w w') (i : Nat) (v : Value) (h5 : 5 ≠ i) (h6 : 6 ≠ i) : gqC w0 (Lt.on T i v) n w' := by
  unfold gqC Lt.on
  rw [if_neg h5, if_neg h6]
  refine ⟨h.1.trans (hb.mono h.1.size), ?_⟩
  rcases h.2 with e | ⟨e, B, e1, e2⟩ | ⟨e, B, e1, e2⟩ | e
  · exact .inl e
  · exact .inr (.inl ⟨e, B, e1, Nat.lt_of_lt_of_le e2 hb.size⟩)
  · exact .inr (.inr (.inl ⟨e, B, e1, Nat.lt_of_lt_of_le e2 hb.size⟩))
  · exact .inr (.inr (.inr e))
theorem gqC.five {w0 : World} {T : Nat → Value} {n : Nat} {w : World} (h : gqC w0 T n w) (hn : n ≤ 2) (hU : T 5 = undef) (ob : Obj) : gqC w0 (Lt.on T 5 (.pointer (some ⟨w.heap.size, 0, none⟩))) (n + 1) (w.alloc ob) ∧ gqS n w (n + 1) (w.alloc ob) ∧ (n + 1 = 1 ∨ n + 1 = 3) := by
  have hb : Below w.heap.size w (w.alloc ob) := below_alloc (Below.refl _ _) _
  unfold gqC gqS Lt.on
  rw [if_pos rfl, if_neg (by decide)]
  rcases h.2 with rfl | ⟨rfl, B, e1, e2⟩ | ⟨rfl, B, e1, e2⟩ | ⟨rfl, e⟩
  · exact ⟨⟨below_alloc h.1 _, .inr (.inl ⟨rfl, _, rfl, by rw [World.size_alloc]; omega⟩)⟩, ⟨hb, .inr (.inr rfl)⟩, .inl rfl⟩
  · rw [hU] at e1; cases e1
  · exact ⟨⟨below_alloc h.1 _, .inr (.inr (.inr ⟨rfl, _, B, rfl, e1, by omega⟩))⟩, ⟨hb, .inr (.inl rfl)⟩, .inr rfl⟩
  · omega
theorem gqC.six {w0 : World} {T : Nat → Value} {n : Nat} {w : World} (h : gqC w0 T n w) (hn : n ≤ 1) (hU : T 6 = undef) (ob : Obj) : gqC w0 (Lt.on T 6 (.pointer (some ⟨w.heap.size, 0, none⟩))) (n + 2) (w.alloc ob) ∧ gqS n w (n + 2) (w.alloc ob) ∧ (n + 2 = 2 ∨ n + 2 = 3) := by
  have hb : Below w.heap.size w (w.alloc ob) := below_alloc (Below.refl _ _) _
  unfold gqC gqS Lt.on
  rw [if_neg (by decide), if_pos rfl]
  rcases h.2 with rfl | ⟨rfl, B, e1, e2⟩ | ⟨rfl, B, e1, e2⟩ | ⟨rfl, e⟩
  · exact ⟨⟨below_alloc h.1 _, .inr (.inr (.inl ⟨rfl, _, rfl, by rw [World.size_alloc]; omega⟩))⟩, ⟨hb, .inr (.inr rfl)⟩, .inl rfl⟩
  · exact ⟨⟨below_alloc h.1 _, .inr (.inr (.inr ⟨rfl, B, _, e1, rfl, by omega⟩))⟩, ⟨hb, .inr (.inl rfl)⟩, .inr rfl⟩
  · rw [hU] at e1; cases e1
  · omega
def gqR (bp w0 : Nat) (six : Bool) (LW TW : Array Value) : Nat → Value → Nat → World → Prop
  | 0, v, _, _ => v = .pointer (some ⟨bp, 0, none⟩)
  | 1, v, _, _ => v = .agg #[.bool six, .int .u64 0, .int .u64 0]
  | 2, v, _, _ => v = .agg LW
  | 3, v, _, _ => v = .agg #[.bool six, .int .u64 0, .int .u64 0, .int .i64 0]
  | 4, v, _, _ => v = .agg TW
  | 5, v, n, w => ∃ B, v = .pointer (some ⟨B, 0, none⟩) ∧ w0 ≤ B ∧ Blk w B 131 #[.int .i64 0, .int .i64 0, .int .i64 0, .int .i64 0, .int .i64 0, .int .i64 0, .int .i64 0, .int .i64 0, .int .i64 0] ∧ (n = 1 ∨ n = 3)
  | _, v, n, w => ∃ B, v = .pointer (some ⟨B, 0, none⟩) ∧ w0 ≤ B ∧ Blk w B 131 #[.int .i64 0, .int .i64 0, .int .i64 0, .int .i64 0, .int .i64 0, .int .i64 0, .int .i64 0, .int .i64 0, .int .i64 0] ∧ (n = 2 ∨ n = 3)
theorem gqR_keep {bp w0 : Nat} {six : Bool} {LW TW : Array Value} (p : Nat) (v : Value) (n : Nat) (u : World) (m : Nat) (w : World) (h : gqR bp w0 six LW TW p v n u) (hb : gqS n u m w) : gqR bp w0 six LW TW p v m w := by
  obtain ⟨hb, hm⟩ := hb
  rcases p with _ | _ | _ | _ | _ | _ | p
  all_goals first | exact h | (obtain ⟨B, h1, h2, h3, h4⟩ := h; exact ⟨B, h1, h2, h3.below hb h3.lt, by omega⟩)
/-- what the region of 'append(out, span{at, s.a.plus(-1)})' has yielded -/
def gaR (bs : Nat) (out : Value) (P1 WX MW : Array Value) : Nat → Value → World → Prop
  | 0, v, _ => v = out
  | 1, v, _ => v = .agg WX
  | 2, v, _ => v = .pointer (some ⟨bs, 0, none⟩)
  | 3, v, _ => v = .agg P1
  | 4, v, _ => v = .agg MW
  | 5, v, _ => v = .agg (WX ++ MW)
  | _, v, w => ∃ B, v = .slice (some ⟨B, 0, none⟩) 1 1 ∧ Blk w B 138 (WX ++ MW)
theorem gaR_keep {bs : Nat} {out : Value} {P1 WX MW : Array Value} (p : Nat) (v : Value) (u w : World) (h : gaR bs out P1 WX MW p v u) (hb : Below u.heap.size u w) : gaR bs out P1 WX MW p v w := by
  rcases p with _ | _ | _ | _ | _ | _ | p
  all_goals first | exact h | (obtain ⟨B, h1, h2⟩ := h; exact ⟨B, h1, h2.below hb h2.lt⟩)
set_option maxRecDepth 100000 in
set_option maxHeartbeats 16000000 in
theorem gaps_any (ad : Option Addr) (n c : Nat) (S : List Sp) (w : World) (h : RdK layQs w ad S) (hn : S.length = n) (hs : n ≤ 10000) (hc : Can S) (hv : ∀ p ∈ S, VR p) :
    Calls Tryz.prog 109 #[.slice ad n c] w fun e w' => ∃ v, e = .returned v ∧ OwnK layQs w' w.heap.size v (gaps S) ∧ Below w.heap.size w w' := by
  have Hv := Lib.hid hv
  have Hc := Lib.hid hc
  have H0 := Lib.hid h
  have Hn := Lib.hid hn
  clear h hn hv hc
  have HB0 : Hid (Below w.heap.size w (w.alloc (.cells #[.bool false, .bool true] 4 (0, 0)))) := Lib.hid (below_alloc (Below.refl _ _) _)
  have HW0 : Hid (Blk (w.alloc (.cells #[.bool false, .bool true] 4 (0, 0))) w.heap.size 4 #[.bool false, .bool true]) := Lib.hid (Blk.new w _ _)
  go_enter Tryz.func109, Tryz.ntmps109
  go_upto_block 0 with fail
  generalize (w.alloc (.cells #[.bool false, .bool true] 4 (0, 0))) = w1 at *
  generalize hbb : w.heap.size = bb at *
  have Hbb := Lib.hid hbb
  clear hbb
  have HS1 : Hid (RdK layQs w1 ad S) := Lib.hid (H0.out.below (by rw [Hbb.out]; exact HB0.out))
  clear H0
  go_wp2_with fail
  go_loopw [3, 5, 6, 7, 8, 9, 11, 14] (fun out s5 s6 s7 s8 s9 s11 i wr => ∃ j : Nat, j ≤ 2 ∧ i = .int .i64 (j : Int) ∧ Hid (OwnK layQs wr w1.heap.size out (gapsTo S j)) ∧ Hid (Below w1.heap.size w1 wr)) (fun _ _ _ _ _ _ _ i _ => 2 - (intOf i).toNat)
  case atStart => exact ⟨0, by omega, rfl, Lib.hid (OwnK.nil _ _ _), Lib.hid (Below.refl _ _)⟩
  case round =>
    obtain ⟨j, hj, rfl, HO, HB⟩ := hrel
    by_cases hlt : j < 2
    · obtain ⟨six, hsix⟩ : ∃ b : Bool, decide (j = 1) = b := ⟨_, rfl⟩
      have hcell : wr.cell? ⟨bb, j, none⟩ = some (.bool six) := by
        rw [(HW0.out.below HB.out HW0.out.lt).cell j, ← hsix]
        have : j = 0 ∨ j = 1 := by omega
        rcases this with rfl | rfl <;> rfl
      have HGs : Hid (gapsTo S (j + 1) = gapsTo S j ++ gapsOf six S) := Lib.hid (by rw [gapsTo_succ S j hlt, hsix])
      have HGl : Hid ((gapsTo S j).length ≤ 2 * 10000 + 2) := Lib.hid (by have := gapsTo_len S j; rw [Hn.out] at this; omega)
      have HP1 : Hid (Blk (wr.alloc (.cells #[.bool six, .int .u64 0, .int .u64 0, .int .i64 0] 90 (0, 0))) wr.heap.size 90 #[.bool six, .int .u64 0, .int .u64 0, .int .i64 0]) := Lib.hid (Blk.new wr _ _)
      have HB1 : Hid (Below w1.heap.size w1 (wr.alloc (.cells #[.bool six, .int .u64 0, .int .u64 0, .int .i64 0] 90 (0, 0)))) := Lib.hid (Below.alloc HB.out HB.out.size _)
      have HO1 : Hid (OwnK layQs (wr.alloc (.cells #[.bool six, .int .u64 0, .int .u64 0, .int .i64 0] 90 (0, 0))) w1.heap.size u3 (gapsTo S j ++ [])) := Lib.hid (by rw [List.append_nil]; exact HO.out.alloc _)
      have HG0 := Lib.hid (gapQ_zero Hv.out six)
      have HOf := Lib.hid fun wx => ofN wx (lo_vn six).1
      have HLf := Lib.hid fun wx => lastOfN (n := 0) wx (lo_vn six).1 (Nat.zero_le _)
      have hpl : pN (loF six) ((0 : Nat) : Int) = #[.bool six, .int .u64 0, .int .u64 0, .int .i64 0] := by cases six <;> rfl
      have htp : fil (loF six) (LN (loF six) - 0) = topF six := top_fam (lo_vn six).1 (lo_vn six).2
      rw [aN_lo] at HOf
      rw [hpl, htp] at HLf
      have HTs : Hid ((wN (topF six)).size = 9) := Lib.hid (wN_size _)
      have HTo : Hid ((wN (topF six)).all (·.oneCell') = true) := Lib.hid (wd_one _)
      have HLs : Hid ((wN (loF six)).size = 9) := Lib.hid (wN_size _)
      have HLo : Hid ((wN (loF six)).all (·.oneCell') = true) := Lib.hid (wd_one _)
      clear hsix hpl htp
      have hj2 : (j : Int) < 2 := by omega
      have hj3 : decide ((j : Int) < 2) = true := decide_eq_true hj2
      obtain ⟨TW, hTW⟩ : ∃ TW, wN (topF six) = TW := ⟨_, rfl⟩
      have HTW := Lib.hid hTW
      obtain ⟨LW, hLW⟩ : ∃ LW, wN (loF six) = LW := ⟨_, rfl⟩
      have HLW := Lib.hid hLW
      rw [hTW] at HLf HTs HTo
      rw [hLW] at HOf HLs HLo
      clear hTW hLW
      go_upto_region 6 with fail
      generalize (wr.alloc (.cells #[.bool six, .int .u64 0, .int .u64 0, .int .i64 0] 90 (0, 0))) = w3 at *
      generalize wr.heap.size = bp at *
      clear HB HO hcell
      have c0 := HP1.out.cell 0
      have c1 := HP1.out.cell 1
      have c2 := HP1.out.cell 2
      have c3 := HP1.out.cell 3
      simp at c0 c1 c2 c3
      have l0 := Later.cell_of c0
      have l1 := Later.cell_of c1
      have l2 := Later.cell_of c2
      have l3 := Later.cell_of c3
      refine Lt.wp_region_lim 7 3 (gqR bp w3.heap.size six LW TW) (gqC w3) gqS (fun i => if i = 5 then 1 else if i = 6 then 2 else 0) (fun i => if i = 5 then 2 else if i = 6 then 1 else 3)
        (by kernel_rfl) (by kernel_rfl) (by decide) (by kernel_rfl) gqR_keep (fun T => ⟨below_drew (Below.refl _ _), .inl rfl⟩) ?hX
      case' hX => (apply Exists.intro; refine ⟨fun T => ?hA, ?hob, ?hend⟩)
      case hA =>
        simp only [setAll, List.take_succ_cons, List.take_zero, Act.put, List.setIfInBounds_toArray, List.set_cons_succ, List.set_cons_zero, Nat.reduceAdd]
        exact rfl
      case hob =>
        clear HO1 HB1 HP1 HG0 HGs HGl c0 c1 c2 c3 HS1 HW0 HB0
        go_light
        refine ⟨?_, ?_, ?_, ?_, ?_, ?_, ?_, trivial⟩
        all_goals (intro T wx n0 hU hC hn hp; dsimp only at hn ⊢; unfold Op1)
        · clear l0 l1 l2 l3
          go_simp
          exact ⟨rfl, hC.on (Below.refl _ _) 0 _ (by decide) (by decide), gqS.same (Below.refl _ _)⟩
        · obtain ⟨h0, -⟩ := hp
          have h0 : T 0 = .pointer (some ⟨bp, 0, none⟩) := h0
          have e0 := l0 ⟨wx, hC.1⟩
          have e1 := l1 ⟨wx, hC.1⟩
          have e2 := l2 ⟨wx, hC.1⟩
          simp only at e0 e1 e2
          clear l0 l1 l2 l3
          go_simp
          exact ⟨rfl, hC.on (Below.refl _ _) 1 _ (by decide) (by decide), gqS.same (Below.refl _ _)⟩
        · obtain ⟨h0, -⟩ := hp
          have h0 : T 1 = .agg #[.bool six, .int .u64 0, .int .u64 0] := h0
          clear l0 l1 l2 l3
          go_simp
          refine (HOf.out wx).mono ?_
          rintro e w5 ⟨rfl, hb⟩
          exact ⟨_, rfl, rfl, hC.on hb 2 _ (by decide) (by decide), gqS.same hb⟩
        · have e0 := l0 ⟨wx, hC.1⟩
          have e1 := l1 ⟨wx, hC.1⟩
          have e2 := l2 ⟨wx, hC.1⟩
          have e3 := l3 ⟨wx, hC.1⟩
          simp only at e0 e1 e2 e3
          clear l0 l1 l2 l3
          go_simp
          exact ⟨rfl, hC.on (Below.refl _ _) 3 _ (by decide) (by decide), gqS.same (Below.refl _ _)⟩
        · obtain ⟨h0, -⟩ := hp
          have h0 : T 3 = .agg #[.bool six, .int .u64 0, .int .u64 0, .int .i64 0] := h0
          clear l0 l1 l2 l3
          go_simp
          refine (HLf.out wx).mono ?_
          rintro e w5 ⟨rfl, hb⟩
          exact ⟨_, rfl, rfl, hC.on hb 4 _ (by decide) (by decide), gqS.same hb⟩
        · clear l0 l1 l2 l3
          go_simp
          obtain ⟨z1, z2, z3⟩ := hC.five hn hU (.cells #[.int .i64 0, .int .i64 0, .int .i64 0, .int .i64 0, .int .i64 0, .int .i64 0, .int .i64 0, .int .i64 0, .int .i64 0] 131 (0, 0))
          exact ⟨⟨wx.heap.size, rfl, hC.1.size, Blk.new wx _ _, z3⟩, z1, z2⟩
        · clear l0 l1 l2 l3
          go_simp
          obtain ⟨z1, z2, z3⟩ := hC.six hn hU (.cells #[.int .i64 0, .int .i64 0, .int .i64 0, .int .i64 0, .int .i64 0, .int .i64 0, .int .i64 0, .int .i64 0, .int .i64 0] 131 (0, 0))
          exact ⟨⟨wx.heap.size, rfl, hC.1.size, Blk.new wx _ _, z3⟩, z1, z2⟩
      case hend =>
        intro T w4 ⟨n0, hn0, hC, hR⟩
        have hT2 : T 2 = .agg LW := hR 2 (by omega)
        have hT4 : T 4 = .agg TW := hR 4 (by omega)
        obtain ⟨bx, hT5, hwx, hBx, hn5⟩ := hR 5 (by omega)
        obtain ⟨be, hT6, hwe, hBe, hn6⟩ := hR 6 (by omega)
        have hne : bx ≠ be := by
          rcases hC.2 with e | ⟨e, -⟩ | ⟨e, -⟩ | ⟨e, B, B', e1, e2, e3⟩
          · omega
          · omega
          · omega
          · rw [hT5] at e1; rw [hT6] at e2
            injection e1 with e1; injection e1 with e1; injection e1 with e1
            injection e2 with e2; injection e2 with e2; injection e2 with e2
            subst e1 e2; exact e3
        have hb := hC.1
        have hw13 := HB1.out.size
        have HO4 := HO1.out.later hb
        have HB4 := HB1.out.trans (hb.mono hw13)
        have HHx := Lib.hid (show w4.heap[bx]? = some (.cells #[.int .i64 0, .int .i64 0, .int .i64 0, .int .i64 0, .int .i64 0, .int .i64 0, .int .i64 0, .int .i64 0, .int .i64 0] 131 (0, 0)) from hBx)
        have hBe2 := hBe.farRow (fun e => hne e.symm) LW
        have HHe := Lib.hid (show (w4.setRow bx LW).heap[be]? = some (.cells #[.int .i64 0, .int .i64 0, .int .i64 0, .int .i64 0, .int .i64 0, .int .i64 0, .int .i64 0, .int .i64 0, .int .i64 0] 131 (0, 0)) from hBe2)
        have HX5 : Hid (Blk ((w4.setRow bx LW).setRow be TW) bx 131 LW) := Lib.hid ((hBx.setRow LW).farRow hne TW)
        have HE5 : Hid (Blk ((w4.setRow bx LW).setRow be TW) be 131 TW) := Lib.hid (hBe2.setRow TW)
        have HO5 : Hid (OwnK layQs ((w4.setRow bx LW).setRow be TW) w1.heap.size u3 (gapsTo S j ++ [])) := Lib.hid (own_farRow (own_farRow HO4 hBx (by decide) LW) hBe2 (by decide) TW)
        have HB5 : Hid (Below w1.heap.size w1 ((w4.setRow bx LW).setRow be TW)) := Lib.hid (below_setRow (below_setRow HB4 (by omega) LW) (by omega) TW)
        have hbx1 : w1.heap.size ≤ bx := by omega
        have hbe1 : w1.heap.size ≤ be := by omega
        clear hR hC hb hBx hBe hBe2 HO4 HB4 HO1 HB1 HP1 c0 c1 c2 c3 l0 l1 l2 l3 HOf HLf
        simp only [List.drop_succ_cons, List.drop_zero]
        rw [hT2, hT4, hT5, hT6]
        generalize T 0 = t0 at *
        generalize T 1 = t1 at *
        generalize T 3 = t3 at *
        clear hT2 hT4 hT5 hT6
        go_upto_region 7 with (first | (refine wpList_store_row rfl 131 (.tmp 7) (.tmp 23) rfl bx LW rfl rfl 131 #[.int .i64 0, .int .i64 0, .int .i64 0, .int .i64 0, .int .i64 0, .int .i64 0, .int .i64 0, .int .i64 0, .int .i64 0] HHx.out (by rw [HLs.out]; exact size_wide) (by rw [HLs.out]; rfl) HLo.out ?_; dsimp only [Act.put]) | (refine wpList_store_row rfl 131 (.tmp 8) (.tmp 25) rfl be TW rfl rfl 131 #[.int .i64 0, .int .i64 0, .int .i64 0, .int .i64 0, .int .i64 0, .int .i64 0, .int .i64 0, .int .i64 0, .int .i64 0] HHe.out (by rw [HTs.out]; exact size_wide) (by rw [HTs.out]; rfl) HTo.out ?_; dsimp only [Act.put]))
        generalize ((w4.setRow bx LW).setRow be TW) = w5 at *
        clear HHx HHe
        go_wp2_with fail
        go_loopw [3, 9, 11, 28] (fun out dn s11 i wx => ∃ (k y : Nat) (done : Bool) (D : List Sp), k ≤ n ∧ i = .int .i64 (k : Int) ∧ dn = .bool done ∧ Hid (GapQ S six done k y D) ∧ Hid (OwnK layQs wx w1.heap.size out (gapsTo S j ++ D)) ∧ Hid (Blk wx bx 131 (wN y)) ∧ Hid (Blk wx be 131 TW) ∧ Hid (Below w1.heap.size w1 wx)) (fun _ _ _ i _ => n - (intOf i).toNat)
        case atStart => exact ⟨0, loF six, false, [], Nat.zero_le _, rfl, rfl, HG0, HO5, Lib.hid (by rw [HLW.out]; exact HX5.out), HE5, HB5⟩
        case round =>
          clear HO5 HX5 HE5 HB5 HG0
          obtain ⟨k, y, done, D, hk, rfl, rfl, HG, HO, HX, HEn, HB⟩ := hrel
          have HDl : Hid (D.length ≤ 10001) := Lib.hid (by have := HG.out.len; rw [Hn.out] at this; omega)
          have HWs : Hid ((wN y).size = 9) := Lib.hid (wN_size y)
          by_cases hlt2 : k < n
          · have hS : k < S.length := by rw [Hn.out]; exact hlt2
            obtain ⟨p, hp⟩ : ∃ p, S[k]? = some p := ⟨_, List.getElem?_eq_getElem hS⟩
            obtain ⟨g, o, had, hg, hcs⟩ := (HS1.out.below HB.out).qs hp
            subst had
            have HVp := Lib.hid (Hv.out p (List.mem_of_getElem? hp))
            have hXs := qs_split p
            obtain ⟨X, hX⟩ : ∃ X, layQs.enc p = X := ⟨_, rfl⟩
            have HX1 : Hid (X.toArray.size = 18) := Lib.hid (by rw [List.size_toArray, ← hX]; rfl)
            have HX2 : Hid (X.toArray.all (·.oneCell') = true) := Lib.hid (all_oneCell_toArray (by rw [← hX]; exact layQs.one p))
            have HS1' := Lib.hid (wN_size p.1)
            have HS2' := Lib.hid (wN_size p.2)
            rw [hX] at hcs hXs
            have HXs := Lib.hid hXs
            have HRA : Hid (wr.rangeAt g (o + k * 18) X) := Lib.hid hcs
            have HP1 : Hid (Blk (wr.alloc (.cells X.toArray 138 (0, 0))) wr.heap.size 138 X.toArray) := Lib.hid (Blk.new wr _ _)
            have HX3 : Hid (Blk (wr.alloc (.cells X.toArray 138 (0, 0))) bx 131 (wN y)) := Lib.hid (HX.out.alloc _)
            have HE3 : Hid (Blk (wr.alloc (.cells X.toArray 138 (0, 0))) be 131 TW) := Lib.hid (HEn.out.alloc _)
            have HB3 : Hid (Below w1.heap.size w1 (wr.alloc (.cells X.toArray 138 (0, 0)))) := Lib.hid (Below.alloc HB.out HB.out.size _)
            have HO3 : Hid (OwnK layQs (wr.alloc (.cells X.toArray 138 (0, 0))) w1.heap.size u3 (gapsTo S j ++ D)) := Lib.hid (HO.out.alloc _)
            have HLt : Hid (u3.ownBlock ≠ some wr.heap.size) := Lib.hid fun e => absurd (own_lt HO.out _ e) (Nat.lt_irrefl _)
            have hbxs : bx ≠ wr.heap.size := fun e => by have := HX.out.lt; omega
            have hbes : be ≠ wr.heap.size := fun e => by have := HEn.out.lt; omega
            have Hp := Lib.hid hp
            clear hS hcs hX hXs hp
            go_upto_region 11 with (first | (refine wpList_loadn rfl 138 _ rfl g (o + k * 18) rfl _ _ HRA.out Tryz.underlying138 rfl 18 size_qs (by simpa using HX1.out) ?_; go_simp) | (refine wpList_var X.toArray 138 Tryz.zeroValue138 rfl rfl rfl _ _ rfl _ rfl ?_ ?_ 18 size_qs HX1.out ?_ HX2.out ?_; all_goals (try rfl); try go_simp))
            generalize (wr.alloc (.cells X.toArray 138 (0, 0))) = w6 at *
            generalize wr.heap.size = bs at *
            clear HB HO HX HEn HRA hg
            have hr1 : w6.rangeAt bs 0 ((wN p.1).toList ++ (wN p.2).toList) := by
              have := HP1.out.range
              rw [HXs.out] at this
              exact this
            have d8 : w6.cell? ⟨bs, 8, none⟩ = some (.int .i64 ((digN p.1 8 : Nat) : Int)) := (range_left hr1) 8 _ (wN_dig8 p.1)
            have q8 : w6.cell? ⟨bx, 8, none⟩ = some (.int .i64 ((digN y 8 : Nat) : Int)) := HX3.out.rangeA 8 _ (wN_dig8 y)
            have HR1 : Hid (∀ wx, Below w6.heap.size w6 wx → wx.rangeAt bs 0 (wN p.1).toList) := Lib.hid fun wx hb => range_below (range_left hr1) hb HP1.out.lt
            clear hr1
            cases done
            · by_cases hf : sixN p.1 = six
              · obtain ⟨hvy, hp0, hg2⟩ := HG.out.hit Hc.out Hv.out Hp.out hf
                have hd : digN p.1 8 = digN y 8 := (dig8_eq HVp.out.a hvy).2 (by
                  obtain ⟨x, h1, h2⟩ := HG.out.st
                  rw [h2 rfl, h1.sx, hf])
                rw [hd] at d8
                have HG2 := Lib.hid hg2
                have HP0 := Lib.hid hp0
                have HCm := Lib.hid fun wx => wideCmpN wx hvy.lt10.1 HVp.out.a.lt10.1
                have HCl := Lib.hid (cN_lt_iff y p.1)
                have HPl := Lib.hid fun wx => plusN p.2 wx
                have HEq := Lib.hid fun wx => wN_eql (x := p.2) (y := topF six) HVp.out.b.lt10.1 (by cases six <;> decide) wx
                rw [HTW.out] at HEq
                have HNs : Hid ((wN (p.2 + 1)).size = 9) := Lib.hid (wN_size _)
                have HNo : Hid ((wN (p.2 + 1)).all (·.oneCell') = true) := Lib.hid (wd_one _)
                have HMi := Lib.hid fun wx (h : 0 < p.1) => minusN p.1 wx h
                have HEe : Hid (layQs.enc (y, p.1 - 1) = (wN y ++ wN (p.1 - 1)).toList) := Lib.hid rfl
                have HBd := Lib.hid fun wx => build_qs y (p.1 - 1) wx
                have HRw := Lib.hid fun wx => row_qs y (p.1 - 1) wx
                obtain ⟨dn2, hdn⟩ : ∃ d : Bool, decide (p.2 = topF six) = d := ⟨_, rfl⟩
                rw [hdn] at HG2 HEq
                have HRx : Hid (∀ wx, Below w6.heap.size w6 wx → wx.rangeAt bx 0 (wN y).toList) := Lib.hid fun wx hb => range_below HX3.out.rangeA hb HX3.out.lt
                obtain ⟨NW, hNW⟩ : ∃ NW, wN (p.2 + 1) = NW := ⟨_, rfl⟩
                have HNW := Lib.hid hNW
                rw [hNW] at HPl HNs HNo
                clear hvy hp0 hd hg2 hdn hNW hf HG
                generalize digN y 8 = e8 at *
                generalize wN p.1 = P1 at *
                generalize hP2 : wN p.2 = P2 at *
                clear hP2
                generalize hWX : wN y = WX at *
                have HWX := Lib.hid hWX
                clear hWX
                generalize wN (p.1 - 1) = MW at *
                generalize cN y p.1 = C at *
                have hR1 := HR1.out _ (Below.refl _ _)
                have hRx := HRx.out _ (Below.refl _ _)
                have HR10 := Lib.hid hR1
                have HRx0 := Lib.hid hRx
                clear hR1 hRx
                go_upto_region 12 with fail
                go_wp2_with (first | (refine wpList_loadn rfl 131 _ rfl bx 0 rfl _ _ HRx0.out Tryz.underlying131 rfl 9 size_wide (by simpa using HWs.out) ?_; go_simp) | (refine wpList_loadn rfl 131 _ rfl bs 0 rfl _ _ HR10.out Tryz.underlying131 rfl 9 size_wide (by simpa using HS1'.out) ?_; go_simp))
                refine (HCm.out _).mono ?_
                rintro e w7 ⟨rfl, hb⟩
                have HP7 := Lib.hid (HP1.out.below hb HP1.out.lt)
                have HX7 := Lib.hid (HX3.out.below hb HX3.out.lt)
                have HE7 := Lib.hid (HE3.out.below hb HE3.out.lt)
                have HO7 := Lib.hid (HO3.out.later hb)
                have HB7 := Lib.hid (HB3.out.trans (hb.mono HB3.out.size))
                clear hb HP1 HX3 HE3 HO3 HB3 d8 q8 HR10 HRx0 HCm HR1 HRx
                by_cases hyl : y < p.1
                · have hC : C < 0 := HCl.out.2 hyl
                  rw [if_pos hyl] at HG2
                  have HMi2 := Lib.hid fun wx => HMi.out wx (HP0.out hyl)
                  clear HMi HCl
                  go_upto_region 13 with fail
                  have HR1 : Hid (∀ wx, Below w7.heap.size w7 wx → wx.rangeAt bs 0 P1.toList) := Lib.hid fun wx hb => by
                    have := HP7.out.range
                    rw [HXs.out] at this
                    exact range_below (range_left this) hb HP7.out.lt
                  have HRx : Hid (∀ wx, Below w7.heap.size w7 wx → wx.rangeAt bx 0 WX.toList) := Lib.hid fun wx hb => range_below HX7.out.rangeA hb HX7.out.lt
                  generalize hLL : gapsTo S j ++ D = LL at *
                  have HLL : Hid (LL.length ≤ 40000) := Lib.hid (by rw [← hLL, List.length_append]; have := HGl.out; have := HDl.out; omega)
                  have HLe := Lib.hid hLL
                  clear hLL
                  refine wp_region_inv 7 0 (gaR bs u3 P1 WX MW) (fun _ w' => Below w7.heap.size w7 w') (fun u v => Below u.heap.size u v) (fun _ => 0)
                    (by kernel_rfl) (by kernel_rfl) (by decide) gaR_keep (below_drew (Below.refl _ _)) ?hXg
                  case' hXg => (apply Exists.intro; refine ⟨fun T => ?hAg, ?hobg, ?hendg⟩)
                  case hAg =>
                    simp only [setAll, List.take_succ_cons, List.take_zero, Act.put, List.setIfInBounds_toArray, List.set_cons_succ, List.set_cons_zero, Nat.reduceAdd]
                    exact rfl
                  case hobg =>
                    clear HP7 HX7 HE7 HO7 HB7 HEe HLe
                    go_light
                    refine ⟨?_, ?_, ?_, ?_, ?_, ?_, ?_, trivial⟩
                    all_goals (intro T wx n0 hC2 hn hp; dsimp only at hn ⊢; unfold Op1)
                    · go_simp
                      exact ⟨rfl, Below.refl _ _⟩
                    · rw [exec_loadn 131 _ rfl bx 0 rfl WX (HRx.out wx hC2) _ Tryz.underlying131 rfl 9 size_wide HWs.out]
                      exact ⟨rfl, hC2, Below.refl _ _⟩
                    · go_simp
                      exact ⟨rfl, Below.refl _ _⟩
                    · obtain ⟨h0, -⟩ := hp
                      have h0 : T 2 = .pointer (some ⟨bs, 0, none⟩) := h0
                      rw [exec_loadn 131 _ rfl bs 0 h0 P1 (HR1.out wx hC2) _ Tryz.underlying131 rfl 9 size_wide HS1'.out]
                      exact ⟨rfl, hC2, Below.refl _ _⟩
                    · obtain ⟨h0, -⟩ := hp
                      have h0 : T 3 = .agg P1 := h0
                      go_simp
                      refine (HMi2.out wx).mono ?_
                      rintro e w8 ⟨rfl, hb⟩
                      exact ⟨_, rfl, rfl, hC2.trans (hb.mono hC2.size), hb⟩
                    · obtain ⟨h0, h1, -⟩ := hp
                      have h0 : T 1 = .agg WX := h0
                      have h1 : T 4 = .agg MW := h1
                      rw [exec_build _ _ rfl #[(0, .agg WX), (1, .agg MW)] (by rw [← h0, ← h1]; simp [Act.eval]) (HBd.out wx)]
                      exact ⟨rfl, hC2, Below.refl _ _⟩
                    · obtain ⟨h0, -⟩ := hp
                      have h0 : T 5 = .agg (WX ++ MW) := h0
                      rw [exec_row _ _ _ rfl #[(0, .agg (WX ++ MW))] (by rw [← h0]; simp [Act.eval]) (HRw.out wx)]
                      exact ⟨⟨wx.heap.size, rfl, Blk.new wx _ _⟩, below_alloc hC2 _, below_alloc (Below.refl _ _) _⟩
                  case hendg =>
                    intro T w8 ⟨n0, hn0, hb⟩ hR
                    have hT0 : T 0 = u3 := hR 0 (by omega)
                    obtain ⟨B, hT6, hBl⟩ := hR 6 (by omega)
                    have HO8 := Lib.hid (HO7.out.later hb)
                    have HB8 := Lib.hid (HB7.out.trans (hb.mono HB7.out.size))
                    have HP8 := Lib.hid (HP7.out.below hb HP7.out.lt)
                    have HX8 := Lib.hid (HX7.out.below hb HX7.out.lt)
                    have HE8 := Lib.hid (HE7.out.below hb HE7.out.lt)
                    have HBl := Lib.hid hBl
                    clear hR hb hBl HO7 HB7 HP7 HX7 HE7 HR1 HRx HMi2
                    simp only [List.drop_succ_cons, List.drop_zero]
                    refine wpList_app (c := 1) qsE rfl (.tmp 46) (.tmp 52) rfl ?hsg HO8.out ?hxg (src_blk layQs (y, p.1 - 1) HBl.out ?c0g) ?c1g ?c2g ?c3g ?c4g ?_
                    case hsg => exact hT0
                    case hxg => exact hT6
                    case c0g => exact (by rw [HEe.out])
                    case c1g => exact layQs.one _
                    case c2g => unfold maxLen; have := HLL.out; omega
                    case c3g => have := HLL.out; omega
                    case c4g => exact HB8.out.size
                    intro v' w9 hO hG
                    have HO9 : Hid (OwnK layQs w9 w1.heap.size v' (gapsTo S j ++ (D ++ [(y, p.1 - 1)]))) := Lib.hid (by rw [← List.append_assoc, HLe.out]; exact OwnK.snoc hO)
                    have HB9 := Lib.hid (HB8.out.trans (hG.below HB8.out.size (own_base HO8.out)))
                    have HP9 := Lib.hid (HP8.out.grew_ne HLt.out hG)
                    have HX9 := Lib.hid (HX8.out.grew HO8.out (by decide) hG)
                    have HE9 := Lib.hid (HE8.out.grew HO8.out (by decide) hG)
                    clear hO hG HO8 HB8 HP8 HX8 HE8 HBl hT0 hT6
                    generalize hDD : D ++ [(y, p.1 - 1)] = DD at *
                    clear hDD
                    have HR2 : Hid (w9.rangeAt bs 9 P2.toList) := Lib.hid (by
                      have := HP9.out.range
                      rw [HXs.out] at this
                      have := range_right this
                      rw [Array.length_toList, HS1'.out] at this
                      exact this)
                    have HRe := Lib.hid HE9.out.rangeA
                    have hEq := HEq.out
                    have hGd := wide_guard .eql
                    go_wp2_with (first | (refine wpList_loadn rfl 131 _ rfl bs 9 rfl _ _ HR2.out Tryz.underlying131 rfl 9 size_wide (by simpa using HS2'.out) ?_; go_simp) | (refine wpList_loadn rfl 131 _ rfl be 0 rfl _ _ HRe.out Tryz.underlying131 rfl 9 size_wide (by simpa using HTs.out) ?_; go_simp))
                    refine (HPl.out _).mono ?_
                    rintro e w10 ⟨rfl, hb⟩
                    have HX10 := HX9.out.below hb HX9.out.lt
                    have HE10 := HE9.out.below hb HE9.out.lt
                    have HO10 := HO9.out.later hb
                    have HB10 := HB9.out.trans (hb.mono HB9.out.size)
                    have HHx := Lib.hid (show w10.heap[bx]? = some (.cells WX 131 (0, 0)) from HX10)
                    have HSt := Lib.hid (And.intro (own_farRow HO10 HX10 (by decide) NW) (And.intro (HX10.setRow NW) (And.intro (HE10.farRow (fun e => hne e.symm) NW) (below_setRow HB10 hbx1 NW))))
                    clear hb HO9 HB9 HP9 HX9 HE9 HX10 HE10 HO10 HB10 HPl HEq hEq hGd HR2 HRe
                    go_wp2_with (refine wpList_store_row rfl 131 (.tmp 7) (.tmp 60) rfl bx NW rfl rfl 131 WX HHx.out (by rw [HNs.out]; exact size_wide) (by rw [HWs.out, HNs.out]) HNo.out ?_; dsimp only [Act.put])
                    exact ⟨⟨k + 1, p.2 + 1, dn2, DD, by omega, by go_num, rfl, HG2, Lib.hid HSt.out.1, Lib.hid (by rw [HNW.out]; exact HSt.out.2.1), Lib.hid HSt.out.2.2.1, Lib.hid HSt.out.2.2.2⟩, by simp [intOf]; omega⟩
                · have hC : ¬ C < 0 := fun h => hyl (HCl.out.1 h)
                  rw [if_neg hyl, List.append_nil] at HG2
                  have HO9 := HO7
                  have HB9 := HB7
                  have HP9 := HP7
                  have HX9 := HX7
                  have HE9 := HE7
                  clear HO7 HB7 HP7 HX7 HE7 HMi HCl
                  generalize hDD : D = DD at *
                  clear hDD
                  have HR2 : Hid (w7.rangeAt bs 9 P2.toList) := Lib.hid (by
                    have := HP9.out.range
                    rw [HXs.out] at this
                    have := range_right this
                    rw [Array.length_toList, HS1'.out] at this
                    exact this)
                  have HRe := Lib.hid HE9.out.rangeA
                  have hEq := HEq.out
                  have hGd := wide_guard .eql
                  go_wp2_with (first | (refine wpList_loadn rfl 131 _ rfl bs 9 rfl _ _ HR2.out Tryz.underlying131 rfl 9 size_wide (by simpa using HS2'.out) ?_; go_simp) | (refine wpList_loadn rfl 131 _ rfl be 0 rfl _ _ HRe.out Tryz.underlying131 rfl 9 size_wide (by simpa using HTs.out) ?_; go_simp))
                  refine (HPl.out _).mono ?_
                  rintro e w10 ⟨rfl, hb⟩
                  have HX10 := HX9.out.below hb HX9.out.lt
                  have HE10 := HE9.out.below hb HE9.out.lt
                  have HO10 := HO9.out.later hb
                  have HB10 := HB9.out.trans (hb.mono HB9.out.size)
                  have HHx := Lib.hid (show w10.heap[bx]? = some (.cells WX 131 (0, 0)) from HX10)
                  have HSt := Lib.hid (And.intro (own_farRow HO10 HX10 (by decide) NW) (And.intro (HX10.setRow NW) (And.intro (HE10.farRow (fun e => hne e.symm) NW) (below_setRow HB10 hbx1 NW))))
                  clear hb HO9 HB9 HP9 HX9 HE9 HX10 HE10 HO10 HB10 HPl HEq hEq hGd HR2 HRe
                  go_wp2_with (refine wpList_store_row rfl 131 (.tmp 7) (.tmp 60) rfl bx NW rfl rfl 131 WX HHx.out (by rw [HNs.out]; exact size_wide) (by rw [HWs.out, HNs.out]) HNo.out ?_; dsimp only [Act.put])
                  exact ⟨⟨k + 1, p.2 + 1, dn2, DD, by omega, by go_num, rfl, HG2, Lib.hid HSt.out.1, Lib.hid (by rw [HNW.out]; exact HSt.out.2.1), Lib.hid HSt.out.2.2.1, Lib.hid HSt.out.2.2.2⟩, by simp [intOf]; omega⟩
              · have hd : digN p.1 8 ≠ digN y 8 := fun h => by
                  obtain ⟨x, h1, h2⟩ := HG.out.st
                  have hyx := h2 rfl
                  rw [hyx] at h
                  exact hf (((dig8_eq HVp.out.a h1.vx).1 h).trans h1.sx)
                have HG2 := Lib.hid (HG.out.skip Hp.out hf)
                generalize digN p.1 8 = e8 at *
                generalize digN y 8 = e9 at *
                have hd2 : ((e8 : Int) != (e9 : Int)) = true := by simp; omega
                have hd3 : ¬ ((e8 : Int) = (e9 : Int)) := by omega
                clear HG hf
                go_wp2_with fail
                exact ⟨⟨k + 1, y, false, D, by omega, by go_num, rfl, HG2, HO3, HX3, HE3, HB3⟩, by simp [intOf]; omega⟩
            · have HG2 := Lib.hid (HG.out.skip Hp.out (HG.out.off Hp.out))
              generalize digN p.1 8 = e8 at *
              generalize digN y 8 = e9 at *
              clear HG
              by_cases hd : e8 = e9
              · subst hd
                go_wp2_with fail
                exact ⟨⟨k + 1, y, true, D, by omega, by go_num, rfl, HG2, HO3, HX3, HE3, HB3⟩, by simp [intOf]; omega⟩
              · have hd2 : ((e8 : Int) != (e9 : Int)) = true := by simp; omega
                have hd3 : ¬ ((e8 : Int) = (e9 : Int)) := by omega
                go_wp2_with fail
                exact ⟨⟨k + 1, y, true, D, by omega, by go_num, rfl, HG2, HO3, HX3, HE3, HB3⟩, by simp [intOf]; omega⟩
          · obtain rfl : k = n := by omega
            have hdn := HG.out.done (by rw [Hn.out]; exact Nat.le_refl _)
            cases done
            · have HDn : Hid (gapsTo S (j + 1) = gapsTo S j ++ D ++ [(y, topF six)]) := Lib.hid (by
                rw [if_neg (by decide)] at hdn
                rw [HGs.out, ← hdn, List.append_assoc])
              have HEe : Hid (layQs.enc (y, topF six) = (wN y ++ TW).toList) := Lib.hid (by rw [← HTW.out]; rfl)
              have HBd := Lib.hid fun wx => build_qs y (topF six) wx
              rw [HTW.out] at HBd
              have HQs : Hid ((wN y ++ TW).size = 18) := Lib.hid (by rw [Array.size_append, wN_size, HTs.out])
              have HRx := Lib.hid HX.out.rangeA
              have HRe := Lib.hid HEn.out.rangeA
              generalize hLL : gapsTo S j ++ D = LL at *
              have HLL : Hid (LL.length ≤ 40000) := Lib.hid (by rw [← hLL, List.length_append]; have := HGl.out; have := HDl.out; omega)
              clear hLL hdn HG HGs
              generalize wN y = WX at *
              go_upto_region 18 with fail
              go_wp2_with (first | (refine wpList_loadn rfl 131 _ rfl bx 0 rfl _ _ HRx.out Tryz.underlying131 rfl 9 size_wide (by simpa using HWs.out) ?_) | (refine wpList_loadn rfl 131 _ rfl be 0 rfl _ _ HRe.out Tryz.underlying131 rfl 9 size_wide (by simpa using HTs.out) ?_) | (refine wpList_buildv rfl 138 _ rfl #[(0, .agg WX), (1, .agg TW)] (by simp [Act.eval, Act.put]) _ HBd.out ?_; go_simp) | (refine wpList_build1 rfl 98 138 _ rfl (WX ++ TW) rfl 18 Tryz.underlying98 zero_qs HQs.out (by decide) (by decide) ?_; go_simp) | (at_builtin; refine wpList_app qsE rfl (.tmp 64) (.tmp 68) rfl rfl (World.ownsRow.alloc HO.out _) rfl (src_new layQs _ (y, topF six) _ _ ?c0e) ?c1e ?c2e ?c3e ?c4e ?_))
              case c0e => rw [HEe.out]
              case c1e => exact layQs.one _
              case c2e => unfold maxLen; have := HLL.out; omega
              case c3e => have := HLL.out; omega
              case c4e => have := HB.out.size; simp; omega
              intro v' w7 hO hG
              have HO7 : Hid (OwnK layQs w7 w1.heap.size v' (gapsTo S (j + 1))) := Lib.hid (by rw [HDn.out]; exact OwnK.snoc hO)
              have HB7 : Hid (Below w1.heap.size w1 w7) := Lib.hid ((Below.alloc HB.out HB.out.size _).trans (hG.below (by have := HB.out.size; simp; omega) (own_base HO.out)))
              clear hO hG
              go_wp2_with fail
              exact ⟨⟨j + 1, by omega, by go_num, HO7, HB7⟩, by simp [intOf]; omega⟩
            · have HO2 : Hid (OwnK layQs wr w1.heap.size u3 (gapsTo S (j + 1))) := Lib.hid (by
                rw [if_pos rfl, List.append_nil] at hdn
                rw [HGs.out, ← hdn]; exact HO.out)
              clear hdn HG HO
              go_wp2_with fail
              exact ⟨⟨j + 1, by omega, by go_num, HO2, HB⟩, by simp [intOf]; omega⟩
    · obtain rfl : j = 2 := by omega
      have hw0 := HB0.out.size
      have hw1 : w.heap.size ≤ w1.heap.size := by rw [Hbb.out] at hw0 ⊢; exact hw0
      have HBf : Hid (Below w.heap.size w wr) := Lib.hid (Below.trans (by rw [Hbb.out]; exact HB0.out) (HB.out.mono hw1))
      have HOf : Hid (OwnK layQs wr w.heap.size u3 (gaps S)) := Lib.hid (HO.out.weak hw1)
      go_wp2_with fail
      go_ret
      exact ⟨_, rfl, HOf.out, HBf.out⟩
end Go.Proofs.YtaeieigdibanlaaGreatDoor
