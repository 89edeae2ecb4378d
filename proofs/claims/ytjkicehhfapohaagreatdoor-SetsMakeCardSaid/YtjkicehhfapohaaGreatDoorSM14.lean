/-
  The law SetsMake is true for every slice of ints.
-/
import Derived.Test.YtjkicehhfapohaaGreatDoorSM13
import Derived.Test.YtjkicehhfapohaaGreatDoorSM9
set_option linter.unusedVariables false
namespace Go.Proofs.YtjkicehhfapohaaGreatDoor
open Go.RowKit Go
set_option linter.unusedVariables false

theorem Gen.toBelowM {b m : Nat} {w u v : World} (h : Gen b u v m) (hw : Below w.heap.size w u) (hb : w.heap.size ≤ b) : Below w.heap.size w v :=
  ⟨h.g.os.trans hw.os, h.g.tape.trans hw.tape, h.g.output.trans hw.output, Nat.le_trans hw.size h.g.size, fun i hi => (h.g.block i (Nat.lt_of_lt_of_le hi hw.size) (by intro e; injection e; omega)).trans (hw.block i hi)⟩
theorem own_ne {v u : Value} {B : Nat} (hv : ∀ k, v.ownBlock = some k → k < B) (hu : ∀ k, u.ownBlock = some k → B ≤ k) : v.ownBlock = none ∨ v.ownBlock ≠ u.ownBlock := by
  cases hb : v.ownBlock with
  | none => exact .inl rfl
  | some k =>
    refine .inr fun e => ?_
    have := hv k hb
    have := hu k e.symm
    omega
theorem firstN_succ (f : Nat → Int) (k : Nat) : firstN f (k + 1) = firstE [firstN f k, f k] := by
  unfold firstN
  rw [List.range_succ, List.map_append, List.find?_append]
  cases h : ((List.range k).map f).find? (· != 0) with
  | none =>
    by_cases hk : f k = 0
    · simp [firstE, hk]
    · simp [firstE, hk]
  | some x =>
    have := List.find?_some h
    simp at this
    simp [firstE, this]
theorem setF_ok {L : List Pf} (h : setF L = 0) (hu : U4 L) : ∀ p ∈ L, OkPf p := fun p hp => by
  unfold setF at h
  by_cases h1 : 1000 < L.length
  · rw [if_pos h1] at h; cases h
  · rw [if_neg h1] at h
    by_cases h2 : scanF L ≠ 0
    · rw [if_pos h2] at h; exact absurd h h2
    · have h2 : scanF L = 0 := by simpa using h2
      obtain ⟨i, hi, rfl⟩ := List.getElem_of_mem hp
      have := fAt_zero (firstN_zero h2 i hi)
      simp only [List.getD, List.getElem?_eq_getElem hi, Option.getD_some] at this
      obtain ⟨u1, u2⟩ := hu _ (List.getElem_mem hi)
      exact okPf_of this u1 u2
theorem rgF_four (s1 : Bool) (h1 l1 : Nat) (s2 : Bool) (h2 l2 : Nat) (a b c d : Int) (ha : a = aFault s1 h1 l1) (hb : b = aFault s2 h2 l2) (hc : c = if (s1 != s2) = true then 10 else 0) (hd : d = if decide (cN (numA s1 h1 l1) (numA s2 h2 l2) > 0) = true then 7 else 0) :
    firstE [a, b, c, d] = rgF s1 h1 l1 s2 h2 l2 := by
  subst ha hb hc hd
  unfold rgF
  by_cases e1 : aFault s1 h1 l1 ≠ 0
  · rw [if_pos e1]; simp [firstE, e1]
  rw [if_neg e1]
  have e1 : aFault s1 h1 l1 = 0 := by simpa using e1
  by_cases e2 : aFault s2 h2 l2 ≠ 0
  · rw [if_pos e2]; simp [firstE, e1, e2]
  rw [if_neg e2]
  have e2 : aFault s2 h2 l2 = 0 := by simpa using e2
  by_cases e3 : s1 ≠ s2
  · rw [if_pos e3, if_pos (by simpa using e3 : (s1 != s2) = true)]; simp [firstE, e1, e2]
  rw [if_neg e3]
  have e3 : s1 = s2 := by simpa using e3
  rw [if_neg (by simp [e3] : ¬ (s1 != s2) = true)]
  by_cases e4 : numA s2 h2 l2 < numA s1 h1 l1
  · rw [if_pos e4, if_pos (decide_eq_true ((cN_pos _ _).2 e4))]; simp [firstE, e1, e2]
  · rw [if_neg e4, if_neg (by simp only [decide_eq_true_eq]; exact fun h => e4 ((cN_pos _ _).1 h))]; simp [firstE, e1, e2]
theorem pred_box {w : World} {ad : Option Addr} {L : List Pf} (h : RdK layPf w ad L) {k : Nat} {p : Pf} (hp : L[k]? = some p) :
    ∃ g o, ad = some ⟨g, o, none⟩ ∧ g < w.heap.size ∧ w.cell? ⟨g, o + k * 4, none⟩ = some (.bool p.1) ∧ w.cell? ⟨g, o + k * 4 + 1, none⟩ = some (.int .u64 (p.2.1 : Int)) ∧ w.cell? ⟨g, o + k * 4 + 2, none⟩ = some (.int .u64 (p.2.2.1 : Int)) ∧ w.cell? ⟨g, o + k * 4 + 3, none⟩ = some (.int .i64 p.2.2.2) := h.pf hp rfl
/-- what the region of the range's faults has yielded -/
def fourR (V : Nat) (s1 : Bool) (h1 l1 : Nat) (s2 : Bool) (h2 l2 : Nat) (f1 f2 f3 f4 C : Int) : Nat → Value → World → Prop
  | 0, v, _ => v = .pointer (some ⟨V, 0, none⟩)
  | 1, v, _ => v = .agg #[.bool s1, .int .u64 (h1 : Int), .int .u64 (l1 : Int)]
  | 2, v, _ => v = .int .i64 f1
  | 3, v, _ => v = .pointer (some ⟨V, 3, none⟩)
  | 4, v, _ => v = .agg #[.bool s2, .int .u64 (h2 : Int), .int .u64 (l2 : Int)]
  | 5, v, _ => v = .int .i64 f2
  | 6, v, _ => v = .pointer (some ⟨V, 0, none⟩)
  | 7, v, _ => v = .pointer (some ⟨V, 0, none⟩)
  | 8, v, _ => v = .bool s1
  | 9, v, _ => v = .pointer (some ⟨V, 3, none⟩)
  | 10, v, _ => v = .pointer (some ⟨V, 3, none⟩)
  | 11, v, _ => v = .bool s2
  | 12, v, _ => v = .bool (s1 != s2)
  | 13, v, _ => v = .int .i64 f3
  | 14, v, _ => v = .pointer (some ⟨V, 0, none⟩)
  | 15, v, _ => v = .agg #[.bool s1, .int .u64 (h1 : Int), .int .u64 (l1 : Int)]
  | 16, v, _ => v = .pointer (some ⟨V, 3, none⟩)
  | 17, v, _ => v = .agg #[.bool s2, .int .u64 (h2 : Int), .int .u64 (l2 : Int)]
  | 18, v, _ => v = .int .i64 C
  | 19, v, _ => v = .bool (decide (C > 0))
  | 20, v, _ => v = .int .i64 f4
  | _, v, w => ∃ B, v = .slice (some ⟨B, 0, none⟩) 4 4 ∧ RdInts w B 0 4 [f1, f2, f3, f4]
theorem rdInts_keepS {w w' : World} {g o n : Nat} {zs : List Int} (h : RdInts w g o n zs) (hb : Below w.heap.size w w') : RdInts w' g o n zs :=
  ⟨h.1, Nat.lt_of_lt_of_le h.2.1 hb.size, fun i hi => (World.cell?_of_block (w := w) (hb.block g h.2.1)).trans (h.2.2 i hi)⟩
theorem fourR_keep {V : Nat} {s1 : Bool} {h1 l1 : Nat} {s2 : Bool} {h2 l2 : Nat} {f1 f2 f3 f4 C : Int} (p : Nat) (v : Value) (u w : World) (h : fourR V s1 h1 l1 s2 h2 l2 f1 f2 f3 f4 C p v u) (hb : Below u.heap.size u w) : fourR V s1 h1 l1 s2 h2 l2 f1 f2 f3 f4 C p v w := by
  rcases p with _ | _ | _ | _ | _ | _ | _ | _ | _ | _ | _ | _ | _ | _ | _ | _ | _ | _ | _ | _ | _ | p
  all_goals first | exact h | (obtain ⟨B, q1, q2⟩ := h; exact ⟨B, q1, rdInts_keepS q2 hb⟩)
set_option maxRecDepth 100000 in
set_option maxHeartbeats 4000000 in
theorem law_SetsMake (ad : Option Addr) (n c : Nat) (w : World) (h : LawArg w ad n) :
    Calls Tryz.prog 3 #[.slice ad n c] w (Ret (.bool true) w) := by
  have hS := LawArg.strm (c := c) h
  have HB0 : Hid (Below w.heap.size w (w.alloc (.cells #[.slice ad n c, .int .i64 0] 25 (0, 0)))) := Lib.hid (below_alloc (Below.refl _ _) _)
  have hblt : w.heap.size < (w.alloc (.cells #[.slice ad n c, .int .i64 0] 25 (0, 0))).heap.size := hS.lt
  have HS := Lib.hid hS
  clear h hS
  go_enter Tryz.func3, Tryz.ntmps3
  go_wp2_with fail
  generalize w.alloc (.cells #[.slice ad n c, .int .i64 0] 25 (0, 0)) = w0 at *
  obtain ⟨b, hbw⟩ : ∃ b, w.heap.size = b := ⟨_, rfl⟩
  rw [hbw] at hblt HS HB0 ⊢
  have Hbw := Lib.hid hbw
  clear hbw
  refine (set_gen b 0 _ HS.out (by omega)).mono ?_
  rintro e w1 ⟨v, X, rfl, hO, hl, hu, hg⟩
  have HG1 : Hid (Gen b w0 w1 50) := Lib.hid (hg.mono (by omega))
  obtain ⟨xa, xc, rfl, _⟩ := hO.form
  have HX1 := Lib.hid hO
  have HXu := Lib.hid hu
  have HXl := Lib.hid hl
  have HXb : Hid (∀ k, (Value.slice xa X.length xc).ownBlock = some k → k < w1.heap.size) := Lib.hid (own_lt hO)
  have hw1 := HG1.out.g.size
  clear hg HS hl hu hO
  go_wp2_with fail
  refine (range_gen b 50 _ _ _ HG1.out.s (by omega) (by omega) (by omega)).mono ?_
  rintro e w2 ⟨y, rfl, ⟨hy0, hy1⟩, hg⟩
  obtain ⟨kq, rfl⟩ := Int.eq_ofNat_of_zero_le hy0
  have hkq : kq ≤ 6 := by omega
  have HG2 : Hid (Gen b w0 w2 51) := Lib.hid (HG1.out.trans hg)
  have HX2 := Lib.hid (HX1.out.gen hg hblt)
  have hw2 : w1.heap.size ≤ w2.heap.size := hg.g.size
  clear hg HG1 HX1 hy0 hy1
  go_wp2_with fail
  refine (prefixes_gen b 51 kq _ HG2.out.s (by omega) (by omega)).mono ?_
  rintro e w3 ⟨v, Y0, rfl, hO, hl, hok, hg⟩
  have HG3 : Hid (Gen b w0 w3 81) := Lib.hid ((HG2.out.trans hg).mono (by omega))
  have HX3 := Lib.hid (HX2.out.gen hg (by omega))
  obtain ⟨ya, yc, rfl, _⟩ := hO.form
  have HY3 : Hid (OwnK layPf w3 w1.heap.size (.slice ya Y0.length yc) Y0) := Lib.hid (hO.weak hw2)
  have HYu := Lib.hid (u4_ok hok)
  have HYl : Hid (Y0.length ≤ 6) := Lib.hid (by omega)
  have hbw1 : b < w1.heap.size := by omega
  have hw3 : w1.heap.size ≤ w3.heap.size := Nat.le_trans hw2 hg.g.size
  clear hg HG2 HX2 hO hl hok
  go_wp2_with fail
  refine (raw_gen b 81 _ HG3.out.s (by omega)).mono ?_
  rintro e w4 ⟨s1, x1, y1, rfl, ⟨hu1, hu2⟩, hg⟩
  obtain ⟨h1, rfl, a1⟩ := nat_of_U64 hu1
  obtain ⟨l1, rfl, a2⟩ := nat_of_U64 hu2
  have HG4 : Hid (Gen b w0 w4 87) := Lib.hid (HG3.out.trans hg)
  have hw4 : w1.heap.size ≤ w4.heap.size := Nat.le_trans hw3 hg.g.size
  have HX4 := Lib.hid (HX3.out.gen hg hblt)
  have HY4 := Lib.hid (HY3.out.gen hg hbw1)
  clear hg HG3 HX3 HY3 hu1 hu2
  unfold vAddr
  go_wp2_with fail
  refine (raw_gen b 87 _ HG4.out.s (by omega)).mono ?_
  rintro e w5 ⟨s2, x2, y2, rfl, ⟨hu1, hu2⟩, hg⟩
  obtain ⟨h2, rfl, a3⟩ := nat_of_U64 hu1
  obtain ⟨l2, rfl, a4⟩ := nat_of_U64 hu2
  have HU := Lib.hid (And.intro a1 (And.intro a2 (And.intro a3 a4)))
  have HG6 : Hid (Gen b w0 (w5.alloc (.cells #[.bool s1, .int .u64 (h1 : Int), .int .u64 (l1 : Int), .bool s2, .int .u64 (h2 : Int), .int .u64 (l2 : Int)] 35 (0, 0))) 93) := Lib.hid ((HG4.out.trans hg).alloc _)
  have HX6 := Lib.hid ((HX4.out.gen hg hblt).alloc (.cells #[.bool s1, .int .u64 (h1 : Int), .int .u64 (l1 : Int), .bool s2, .int .u64 (h2 : Int), .int .u64 (l2 : Int)] 35 (0, 0)))
  have HY6 := Lib.hid ((HY4.out.gen hg hbw1).alloc (.cells #[.bool s1, .int .u64 (h1 : Int), .int .u64 (l1 : Int), .bool s2, .int .u64 (h2 : Int), .int .u64 (l2 : Int)] 35 (0, 0)))
  have HV6 : Hid (Blk (w5.alloc (.cells #[.bool s1, .int .u64 (h1 : Int), .int .u64 (l1 : Int), .bool s2, .int .u64 (h2 : Int), .int .u64 (l2 : Int)] 35 (0, 0))) w5.heap.size 35 #[.bool s1, .int .u64 (h1 : Int), .int .u64 (l1 : Int), .bool s2, .int .u64 (h2 : Int), .int .u64 (l2 : Int)]) := Lib.hid (Blk.new w5 _ _)
  have hwV : w1.heap.size ≤ w5.heap.size := Nat.le_trans hw4 hg.g.size
  have hV : w0.heap.size ≤ w5.heap.size := Nat.le_trans HG4.out.g.size hg.g.size
  clear hg HG4 HX4 HY4 hu1 hu2 a1 a2 a3 a4
  unfold vAddr
  go_upto_region 3 with fail
  generalize (w5.alloc (.cells #[.bool s1, .int .u64 (h1 : Int), .int .u64 (l1 : Int), .bool s2, .int .u64 (h2 : Int), .int .u64 (l2 : Int)] 35 (0, 0))) = w6 at *
  generalize w5.heap.size = V at *
  have hbV : b < V := Nat.lt_of_lt_of_le hblt hV
  clear hw2 hw3 hw4
  go_cut [41] (fun s wx => ∃ q : Bool, s = .bool q ∧ Blk wx V 35 #[.bool s1, .int .u64 (h1 : Int), .int .u64 (l1 : Int), .bool s2, .int .u64 (h2 : Int), .int .u64 (l2 : Int)] ∧ OwnK layPf wx w0.heap.size (.slice xa X.length xc) X ∧ OwnK layPf wx w1.heap.size (.slice ya Y0.length yc) Y0 ∧ Gen b w0 wx 94)
  case first =>
    as_aux_lemma =>
      go_wp2_with fail
      refine (flip_gen b 93 _ _ HG6.out.s (by omega) (by omega)).mono ?_
      rintro e w7 ⟨kk, rfl, hg⟩
      have HG7 := Lib.hid (HG6.out.trans hg)
      have HX7 := Lib.hid (HX6.out.gen hg hblt)
      have HY7 := Lib.hid (HY6.out.gen hg hbw1)
      have HV7 := Lib.hid (HV6.out.keep hg.g (by omega))
      clear hg HG6 HX6 HY6 HV6
      cases kk
      · go_wp2_with fail
        go_meet
        case rel => exact ⟨_, rfl, HV7.out, HX7.out, HY7.out, HG7.out⟩
      · have c0 := HV7.out.cell 0
        have c1 := HV7.out.cell 1
        have c2 := HV7.out.cell 2
        have c3 := HV7.out.cell 3
        have c4 := HV7.out.cell 4
        have c5 := HV7.out.cell 5
        simp at c0 c1 c2 c3 c4 c5
        go_wp2_with fail
        refine (order_any s1 h1 l1 s2 h2 l2 _ HU.out.1 HU.out.2.1 HU.out.2.2.1 HU.out.2.2.2).mono ?_
        rintro e w8 ⟨rfl, hb⟩
        have HG8 := Lib.hid (HG7.out.below0 hb (Nat.lt_of_lt_of_le hblt HG7.out.g.size))
        have HX8 := Lib.hid (HX7.out.later hb)
        have HY8 := Lib.hid (HY7.out.later hb)
        have HV8 := Lib.hid (HV7.out.below hb HV7.out.lt)
        clear hb HG7 HX7 HY7 HV7 c0 c1 c2 c3 c4 c5
        generalize cN (numA s1 h1 l1) (numA s2 h2 l2) = C at *
        go_wp2_with fail
        go_meet
        case rel => exact ⟨_, rfl, HV8.out, HX8.out, HY8.out, HG8.out⟩
  case rest =>
    obtain ⟨q, rfl, hV7, hX7, hY7, hG7⟩ := hcut
    have HV7 := Lib.hid hV7
    have HX7 := Lib.hid hX7
    have HY7 := Lib.hid hY7
    have HG7 := Lib.hid hG7
    clear hV7 hX7 hY7 hG7 HV6 HX6 HY6 HG6
    go_upto_if 41 with fail
    go_cut [] (fun wx => ∃ (r1 : Bool) (j1 k1 : Nat) (r2 : Bool) (j2 k2 : Nat), (U64N j1 ∧ U64N k1 ∧ U64N j2 ∧ U64N k2) ∧ Blk wx V 35 #[.bool r1, .int .u64 (j1 : Int), .int .u64 (k1 : Int), .bool r2, .int .u64 (j2 : Int), .int .u64 (k2 : Int)] ∧ OwnK layPf wx w0.heap.size (.slice xa X.length xc) X ∧ OwnK layPf wx w1.heap.size (.slice ya Y0.length yc) Y0 ∧ Gen b w0 wx 94)
    case first =>
      as_aux_lemma =>
        cases q
        · go_wp2_with fail
          go_meet
          case rel => exact ⟨s1, h1, l1, s2, h2, l2, HU.out, HV7.out, HX7.out, HY7.out, HG7.out⟩
        · have c0 := HV7.out.cell 0
          have c1 := HV7.out.cell 1
          have c2 := HV7.out.cell 2
          have c3 := HV7.out.cell 3
          have c4 := HV7.out.cell 4
          have c5 := HV7.out.cell 5
          simp at c0 c1 c2 c3 c4 c5
          have cf := HV7.out.free
          go_wp2_with fail
          go_meet
          case rel =>
            refine ⟨s2, h2, l2, s1, h1, l1, ⟨HU.out.2.2.1, HU.out.2.2.2, HU.out.1, HU.out.2.1⟩, ?_, ?_, ?_, ?_⟩
            · exact ((((((HV7.out.set 0 (.bool s2)).set 1 (.int .u64 (h2 : Int))).set 2 (.int .u64 (l2 : Int))).set 3 (.bool s1)).set 4 (.int .u64 (h1 : Int))).set 5 (.int .u64 (l1 : Int)))
            · exact ((((((HX7.out.far HV7.out (by decide) 0 (.bool s2)).far (HV7.out.set 0 (.bool s2)) (by decide) 1 (.int .u64 (h2 : Int))).far ((HV7.out.set 0 (.bool s2)).set 1 (.int .u64 (h2 : Int))) (by decide) 2 (.int .u64 (l2 : Int))).far (((HV7.out.set 0 (.bool s2)).set 1 (.int .u64 (h2 : Int))).set 2 (.int .u64 (l2 : Int))) (by decide) 3 (.bool s1)).far ((((HV7.out.set 0 (.bool s2)).set 1 (.int .u64 (h2 : Int))).set 2 (.int .u64 (l2 : Int))).set 3 (.bool s1)) (by decide) 4 (.int .u64 (h1 : Int))).far (((((HV7.out.set 0 (.bool s2)).set 1 (.int .u64 (h2 : Int))).set 2 (.int .u64 (l2 : Int))).set 3 (.bool s1)).set 4 (.int .u64 (h1 : Int))) (by decide) 5 (.int .u64 (l1 : Int)))
            · exact ((((((HY7.out.far HV7.out (by decide) 0 (.bool s2)).far (HV7.out.set 0 (.bool s2)) (by decide) 1 (.int .u64 (h2 : Int))).far ((HV7.out.set 0 (.bool s2)).set 1 (.int .u64 (h2 : Int))) (by decide) 2 (.int .u64 (l2 : Int))).far (((HV7.out.set 0 (.bool s2)).set 1 (.int .u64 (h2 : Int))).set 2 (.int .u64 (l2 : Int))) (by decide) 3 (.bool s1)).far ((((HV7.out.set 0 (.bool s2)).set 1 (.int .u64 (h2 : Int))).set 2 (.int .u64 (l2 : Int))).set 3 (.bool s1)) (by decide) 4 (.int .u64 (h1 : Int))).far (((((HV7.out.set 0 (.bool s2)).set 1 (.int .u64 (h2 : Int))).set 2 (.int .u64 (l2 : Int))).set 3 (.bool s1)).set 4 (.int .u64 (h1 : Int))) (by decide) 5 (.int .u64 (l1 : Int)))
            · repeat refine Gen.setCell ?_ _ _ hV hbV
              exact HG7.out
    case rest =>
      clear HV7 HX7 HY7 HG7 HU
      obtain ⟨s1, h1, l1, s2, h2, l2, hU, hV8, hX8, hY8, hG8⟩ := hcut
      have HU := Lib.hid hU
      have HV8 := Lib.hid hV8
      have HX8 := Lib.hid hX8
      have HY8 := Lib.hid hY8
      have HG8 := Lib.hid hG8
      clear hU hV8 hX8 hY8 hG8
      go_wp2_with fail
      refine (flip_gen b 94 _ _ HG8.out.s (by omega) (by omega)).mono ?_
      rintro e w9 ⟨kk, rfl, hg⟩
      have HG9 : Hid (Gen b w0 w9 95) := Lib.hid (HG8.out.trans hg)
      have HX9 := Lib.hid (HX8.out.gen hg hblt)
      have HY9 := Lib.hid (HY8.out.gen hg hbw1)
      have HV9 := Lib.hid (HV8.out.keep hg.g (by omega))
      clear hg HG8 HX8 HY8 HV8
      go_upto_if 49 with fail
      go_cut [5] (fun s wx => ∃ (ya : Option Addr) (yc : Nat) (Y : List Pf), s = .slice ya Y.length yc ∧ Y.length ≤ 7 ∧ U4 Y ∧ RdK layPf wx ya Y ∧ Blk wx V 35 #[.bool s1, .int .u64 (h1 : Int), .int .u64 (l1 : Int), .bool s2, .int .u64 (h2 : Int), .int .u64 (l2 : Int)] ∧ RdK layPf wx xa X ∧ Gen b w0 wx 120)
      case first =>
        as_aux_lemma =>
          cases kk
          · go_wp2_with fail
            go_meet
            case rel => exact ⟨ya, yc, Y0, rfl, by have := HYl.out; omega, HYu.out, HY9.out.rd, HV9.out, HX9.out.rd, HG9.out.mono (by omega)⟩
          · obtain ⟨vy, hvy⟩ : ∃ vy, Value.slice ya Y0.length yc = vy := ⟨_, rfl⟩
            have HYf := Lib.hid hvy
            have HYn : Hid (Y0.length = Y0.length) := Lib.hid rfl
            clear hvy
            go_wp2_with fail
            refine (prefix_gen b 95 _ HG9.out.s (by omega)).mono ?_
            rintro e w10 ⟨q1, q2, q3, q4, rfl, u1, u2, -, hg⟩
            have HG10 : Hid (Gen b w0 w10 109) := Lib.hid (HG9.out.trans hg)
            have HX10 := Lib.hid (HX9.out.gen hg hblt)
            have HY10 := Lib.hid (HY9.out.gen hg hbw1)
            have HV10 := Lib.hid (HV9.out.keep hg.g (by omega))
            have HYu2 : Hid (U4 (Y0 ++ [(q1, q2, q3, q4)])) := Lib.hid (u4_app HYu.out fun p hp => by rw [List.mem_singleton.1 hp]; exact ⟨u1, u2⟩)
            have hw10 : w1.heap.size ≤ w10.heap.size := by have := HV10.out.lt; omega
            clear hg HG9 HX9 HY9 HV9 u1 u2
            unfold vP
            go_wp2_with (at_builtin; refine wpList_app pfE rfl (.tmp 50) (.tmp 53) rfl rfl (World.ownsRow.alloc HY10.out _) rfl (src_new layPf _ (q1, q2, q3, q4) _ _ ?c0) ?c1 ?c2 ?c3 ?c4 ?_)
            case c0 => rfl
            case c1 => exact layPf.one _
            case c2 => have := HYl.out; unfold maxLen; omega
            case c3 => have := HYl.out; omega
            case c4 => simp; omega
            intro v' w' hO hG
            have HO' := Lib.hid (OwnK.snoc (x := (q1, q2, q3, q4)) hO)
            have HG' := Lib.hid (HG10.out.below (hG.allocFirst.below hw10 (own_base HY10.out)) hw1 hbw1)
            have HX' : Hid (OwnK layPf w' w0.heap.size (.slice xa X.length xc) X) := Lib.hid (own_grew HX10.out hG.allocFirst (own_ne HXb.out (own_base HY10.out)))
            have HV' := Lib.hid ((HV10.out.alloc (.cells #[.bool q1, .int .u64 (q2 : Int), .int .u64 (q3 : Int), .int .i64 q4] 39 (0, 0))).grew (World.ownsRow.alloc HY10.out _) (by decide) hG)
            clear hO hG
            go_wp2_with fail
            go_meet
            case rel =>
              obtain ⟨ad2, c2, hv2, _⟩ := HO'.out.form
              subst hv2
              exact ⟨ad2, c2, _, rfl, by have := HYl.out; rw [List.length_append]; simp; omega, HYu2.out, HO'.out.rd, HV'.out, HX'.out.rd, HG'.out.mono (by omega)⟩
      case rest =>
        clear HG9 HX9 HY9 HV9 HYu HYl HXb
        obtain ⟨ya, yc, Y, rfl, hyl, hyu, hY10, hV10, hX10, hG10⟩ := hcut
        have HB11 : Hid (Below w.heap.size w wc) := Lib.hid (hG10.toBelowM (w := w) (by rw [Hbw.out]; exact HB0.out) (by rw [Hbw.out]; exact Nat.le_refl _))
        have HY11 := Lib.hid hY10
        have HV11 := Lib.hid hV10
        have HX11 := Lib.hid hX10
        obtain ⟨ny, hny⟩ : ∃ ny, Y.length = ny := ⟨_, rfl⟩
        obtain ⟨nx, hnx⟩ : ∃ nx, X.length = nx := ⟨_, rfl⟩
        have Hny := Lib.hid hny
        have Hnx := Lib.hid hnx
        have hnx6 : nx ≤ 6 := by have := HXl.out; omega
        have hny7 : ny ≤ 7 := by omega
        have HYu := Lib.hid hyu
        have HLe := Lib.hid fun wx (hr : RdK layPf wx ya Y) => least_any ya ny yc Y wx hr hny (by omega) hyu
        have HSp := Lib.hid fun wx => span_any s1 h1 l1 s2 h2 l2 wx HU.out.1 HU.out.2.1 HU.out.2.2.1 HU.out.2.2.2
        have HRa := Lib.hid fun xc wx (hr : RdK layPf wx xa X) => ranges_any xa nx xc X wx hr hnx (by omega) HXu.out
        have HSf := Lib.hid fun xc wx (hr : RdK layPf wx xa X) => setFault_any xa nx xc X wx hr hnx (by omega) HXu.out
        have HCs := Lib.hid fun xc wx (hr : RdK layPf wx xa X) => checkSet_any xa nx xc X wx hr hnx (by omega) HXu.out
        have HLq := Lib.hid fun (h : ∀ p ∈ Y, OkPf p) wx (hr : RdK layPf wx ya Y) => leastOf_any ya ny yc Y wx hr hny (by omega) h
        have HRq := Lib.hid fun (h : ∀ p ∈ X, OkPf p) xc wx (hr : RdK layPf wx xa X) => rangesOf_any xa nx xc X wx hr hnx (by omega) h
        have HF1 := Lib.hid fun wx => addrFault_any s1 (h1 : Int) (l1 : Int) wx (by have := HU.out.1; unfold U64; unfold U64N at this; omega) (by have := HU.out.2.1; unfold U64; unfold U64N at this; omega)
        have HF2 := Lib.hid fun wx => addrFault_any s2 (h2 : Int) (l2 : Int) wx (by have := HU.out.2.2.1; unfold U64; unfold U64N at this; omega) (by have := HU.out.2.2.2; unfold U64; unfold U64N at this; omega)
        have HOr := Lib.hid fun wx => order_any s1 h1 l1 s2 h2 l2 wx HU.out.1 HU.out.2.1 HU.out.2.2.1 HU.out.2.2.2
        have HFl : Hid (firstN (fun i => pfF (Y.getD i zPf)) ny = leastF Y) := Lib.hid (by unfold leastF listF; rw [hny, if_neg (by omega)])
        have HY0 : Hid (leastF Y = 0 → (∀ p ∈ Y, OkPf p) ∧ lst Y = leastR Y) := Lib.hid fun h => by
          have h2 := HFl.out
          rw [h] at h2
          refine ⟨listF_ok (by unfold listF; rw [hny]; exact h2) hyu, ?_⟩
          unfold leastR
          rw [if_pos h]
        have HY1 : Hid (leastF Y ≠ 0 → (leastR Y).length = 0) := Lib.hid fun h => by unfold leastR; rw [if_neg h]; rfl
        have HX0 : Hid (setF X = 0 → (∀ p ∈ X, OkPf p) ∧ jn (X.map spP) = rangesR X ∧ ∀ p ∈ rangesR X, VR p) := Lib.hid fun h => by
          have hok := setF_ok h HXu.out
          refine ⟨hok, ?_, ?_⟩
          · unfold rangesR; rw [if_pos h]
          · unfold rangesR; rw [if_pos h]; exact sps_vr hok
        have HX1 : Hid (setF X ≠ 0 → (rangesR X).length = 0) := Lib.hid fun h => by unfold rangesR; rw [if_neg h]; rfl
        have HR0 : Hid (rgF s1 h1 l1 s2 h2 l2 = 0 → ∃ p : Sp, VR p ∧ layRg.enc p = [.bool s1, .int .u64 (h1 : Int), .int .u64 (l1 : Int), .bool s2, .int .u64 (h2 : Int), .int .u64 (l2 : Int)] ∧ pfs [p] = rgR s1 h1 l1 s2 h2 l2) := Lib.hid fun h => by
          have hv := (vr_of h HU.out.1 HU.out.2.1 HU.out.2.2.1 HU.out.2.2.2)
          refine ⟨(numA s1 h1 l1, numA s2 h2 l2), hv.1, ?_, ?_⟩
          · exact hv.2.2.2
          · unfold rgR; rw [if_pos h]
        have HR1 : Hid (rgF s1 h1 l1 s2 h2 l2 ≠ 0 → (rgR s1 h1 l1 s2 h2 l2).length = 0) := Lib.hid fun h => by unfold rgR; rw [if_neg h]; rfl
        have HFr := Lib.hid fun a b c d => rgF_four s1 h1 l1 s2 h2 l2 a b c d
        have HYs : Hid ((leastR Y).length ≤ 1000000000) := Lib.hid (by
          by_cases h : leastF Y = 0
          · obtain ⟨h2, h3⟩ := HY0.out h
            rw [← h3]; have := lst_len h2; omega
          · rw [HY1.out h]; decide)
        have HXs : Hid ((rangesR X).length ≤ 1000000000) := Lib.hid (by
          by_cases h : setF X = 0
          · obtain ⟨h2, h3, _⟩ := HX0.out h
            rw [← h3]; have := jn_len (X.map spP); rw [List.length_map] at this; omega
          · rw [HX1.out h]; decide)
        have HRs : Hid ((rgR s1 h1 l1 s2 h2 l2).length ≤ 1000000000) := Lib.hid (by
          by_cases h : rgF s1 h1 l1 s2 h2 l2 = 0
          · obtain ⟨p, h2, h3, h4⟩ := HR0.out h
            rw [← h4]; have := pfs_one h2; omega
          · rw [HR1.out h]; decide)
        clear hG10 hY10 hV10 hX10 hny hnx hyu HXu HXl HU hyl HB0
        rw [Hny.out, Hnx.out]
        generalize leastF Y = Fy at *
        generalize leastR Y = RY at *
        generalize setF X = Fx at *
        generalize rangesR X = RX at *
        generalize rgF s1 h1 l1 s2 h2 l2 = Fr at *
        generalize rgR s1 h1 l1 s2 h2 l2 = RR at *
        go_wp2_with fail
        refine (HLe.out _ HY11.out).mono ?_
        rintro e w12 ⟨v, rfl, hO, hb⟩
        obtain ⟨aa, ca, rfl, _⟩ := hO.form
        have HA12 := Lib.hid hO.rd
        clear hO HLe
        have HY12 := Lib.hid (HY11.out.below hb)
        have HV12 := Lib.hid (HV11.out.below hb HV11.out.lt)
        have HX12 := Lib.hid (HX11.out.below hb)
        have HB12 := Lib.hid (HB11.out.trans (hb.mono HB11.out.size))
        clear hb HB11 HY11 HV11 HX11
        obtain ⟨la, hla⟩ : ∃ z, RY.length = z := ⟨_, rfl⟩
        have Hla := Lib.hid hla
        rw [hla]
        clear hla
        have c0 := HV12.out.cell 0
        have c1 := HV12.out.cell 1
        have c2 := HV12.out.cell 2
        have c3 := HV12.out.cell 3
        have c4 := HV12.out.cell 4
        have c5 := HV12.out.cell 5
        simp at c0 c1 c2 c3 c4 c5
        go_wp2_with fail
        refine (HSp.out _).mono ?_
        rintro e w13 ⟨v, rfl, hO, hb⟩
        obtain ⟨ar, cr, rfl, _⟩ := hO.form
        have HR13 := Lib.hid hO.rd
        clear hO HSp c0 c1 c2 c3 c4 c5
        have HY13 := Lib.hid (HY12.out.below hb)
        have HV13 := Lib.hid (HV12.out.below hb HV12.out.lt)
        have HX13 := Lib.hid (HX12.out.below hb)
        have HA13 := Lib.hid (HA12.out.below hb)
        have HB13 := Lib.hid (HB12.out.trans (hb.mono HB12.out.size))
        clear hb HB12 HY12 HV12 HX12 HA12
        obtain ⟨lr, hlr⟩ : ∃ z, RR.length = z := ⟨_, rfl⟩
        have Hlr := Lib.hid hlr
        rw [hlr]
        clear hlr
        go_wp2_with fail
        refine (HRa.out xc _ HX13.out).mono ?_
        rintro e w14 ⟨v, rfl, hO, hb⟩
        obtain ⟨ac, cc, rfl, _⟩ := hO.form
        have HC14 := Lib.hid hO.rd
        clear hO HRa
        have HY14 := Lib.hid (HY13.out.below hb)
        have HV14 := Lib.hid (HV13.out.below hb HV13.out.lt)
        have HX14 := Lib.hid (HX13.out.below hb)
        have HA14 := Lib.hid (HA13.out.below hb)
        have HR14 := Lib.hid (HR13.out.below hb)
        have HB14 := Lib.hid (HB13.out.trans (hb.mono HB13.out.size))
        clear hb HB13 HY13 HV13 HX13 HA13 HR13
        obtain ⟨lc, hlc⟩ : ∃ z, RX.length = z := ⟨_, rfl⟩
        have Hlc := Lib.hid hlc
        rw [hlc]
        clear hlc
        obtain ⟨f, hf⟩ : ∃ f : Nat → Int, (fun i => pfF (Y.getD i zPf)) = f := ⟨_, rfl⟩
        have Hf := Lib.hid hf
        rw [hf] at HFl
        clear hf
        go_upto_block 0 with fail
        go_cut [13] (fun one wx => one = .int .i64 Fy ∧ Below w14.heap.size w14 wx)
        case first =>
          as_aux_lemma =>
            go_wp2_with fail
            go_loopw [13, 15, 72] (fun one bx i wr => ∃ k : Nat, k ≤ ny ∧ i = .int .i64 (k : Int) ∧ one = .int .i64 (firstN f k) ∧ Hid (Below w14.heap.size w14 wr)) (fun _ _ i _ => ny - (intOf i).toNat)
            case atStart => exact ⟨0, Nat.zero_le _, rfl, rfl, Lib.hid (Below.refl _ _)⟩
            case round =>
              obtain ⟨k, hk, rfl, rfl, HBx⟩ := hrel
              by_cases hlt : k < ny
              · have hS : k < Y.length := by rw [Hny.out]; exact hlt
                obtain ⟨p, hp⟩ : ∃ p, Y[k]? = some p := ⟨_, List.getElem?_eq_getElem hS⟩
                obtain ⟨g, o, had, hg, e0, e1, e2, e3⟩ := pred_box (HY14.out.below HBx.out) hp
                obtain ⟨v1, v2⟩ := HYu.out p (List.mem_of_getElem? hp)
                have HPf := Lib.hid fun wx => prefixFault_any p.1 p.2.1 p.2.2.1 p.2.2.2 wx v1 v2
                have HA2 : Hid (firstN f (k + 1) = firstE [firstN f k, pFault p.1 p.2.1 p.2.2.1 p.2.2.2]) := Lib.hid (by
                  rw [firstN_succ]
                  congr 2
                  rw [← Hf.out]
                  show [pfF (Y.getD k zPf)] = _
                  rw [show Y.getD k zPf = p by simp [List.getD, hp]]
                  rfl)
                subst had
                clear hp hS hg v1 v2
                unfold vP at HPf
                generalize pFault p.1 p.2.1 p.2.2.1 p.2.2.2 = G at *
                generalize p.1 = a1 at *
                generalize p.2.1 = a2 at *
                generalize p.2.2.1 = a3 at *
                generalize p.2.2.2 = a4 at *
                generalize hA2e : firstN f (k + 1) = A2 at *
                have HA2e := Lib.hid hA2e
                clear hA2e
                generalize firstN f k = A1 at *
                have HB1 : Hid (Below w14.heap.size w14 (wr.alloc (.cells #[.bool a1, .int .u64 (a2 : Int), .int .u64 (a3 : Int), .int .i64 a4] 39 (0, 0)))) := Lib.hid (Below.alloc HBx.out HBx.out.size _)
                have HP1 : Hid (Blk (wr.alloc (.cells #[.bool a1, .int .u64 (a2 : Int), .int .u64 (a3 : Int), .int .i64 a4] 39 (0, 0))) wr.heap.size 39 #[.bool a1, .int .u64 (a2 : Int), .int .u64 (a3 : Int), .int .i64 a4]) := Lib.hid (Blk.new wr _ _)
                go_upto_region 14 with fail
                generalize wr.alloc (.cells #[.bool a1, .int .u64 (a2 : Int), .int .u64 (a3 : Int), .int .i64 a4] 39 (0, 0)) = w15 at *
                generalize wr.heap.size = bx at *
                clear HBx e0 e1 e2 e3
                have d0 := HP1.out.cell 0
                have d1 := HP1.out.cell 1
                have d2 := HP1.out.cell 2
                have d3 := HP1.out.cell 3
                simp at d0 d1 d2 d3
                go_wp2_with fail
                refine (HPf.out _).mono ?_
                rintro e w16 ⟨rfl, hb⟩
                have HB2 := Lib.hid (HB1.out.trans (hb.mono HB1.out.size))
                clear hb HB1 HP1 d0 d1 d2 d3
                go_wp2_with fail
                refine (errs_any _ 2 2 [A1, G] _ (rdInts_new _ _ [A1, G] _ rfl) (by omega)).mono ?_
                rintro e w17 ⟨rfl, rfl⟩
                rw [← HA2.out]
                have HB3 := Lib.hid (Below.alloc HB2.out HB2.out.size (.cells #[.int .i64 A1, .int .i64 G] 41 (0, 0)))
                go_wp2_with fail
                exact ⟨⟨k + 1, by omega, by go_num, by rw [HA2e.out], HB3⟩, by simp [intOf]; omega⟩
              · obtain rfl : k = ny := by omega
                rw [HFl.out]
                go_wp2_with fail
                go_meet
                case rel => exact ⟨rfl, HBx.out⟩
        case rest =>
          as_aux_lemma =>
            obtain ⟨rfl, hb⟩ := hcut
            have HY15 := Lib.hid (HY14.out.below hb)
            have HV15 := Lib.hid (HV14.out.below hb HV14.out.lt)
            have HX15 := Lib.hid (HX14.out.below hb)
            have HA15 := Lib.hid (HA14.out.below hb)
            have HR15 := Lib.hid (HR14.out.below hb)
            have HC15 := Lib.hid (HC14.out.below hb)
            have HB15 := Lib.hid (HB14.out.trans (hb.mono HB14.out.size))
            clear hb HB14 HY14 HV14 HX14 HA14 HR14 HC14
            have HW3 := Lib.hid fun wx => when_any (s1 != s2) 10 wx
            obtain ⟨C, hC⟩ : ∃ C, cN (numA s1 h1 l1) (numA s2 h2 l2) = C := ⟨_, rfl⟩
            have HW4 := Lib.hid fun wx => when_any (decide (C > 0)) 7 wx
            obtain ⟨f1, hf1⟩ : ∃ z, aFault s1 (h1 : Int) (l1 : Int) = z := ⟨_, rfl⟩
            obtain ⟨f2, hf2⟩ : ∃ z, aFault s2 (h2 : Int) (l2 : Int) = z := ⟨_, rfl⟩
            obtain ⟨f3, hf3⟩ : ∃ z : Int, (if (s1 != s2) = true then 10 else 0) = z := ⟨_, rfl⟩
            obtain ⟨f4, hf4⟩ : ∃ z : Int, (if decide (C > 0) = true then 7 else 0) = z := ⟨_, rfl⟩
            have HFour : Hid (firstE [f1, f2, f3, f4] = Fr) := Lib.hid (HFr.out f1 f2 f3 f4 hf1.symm hf2.symm hf3.symm (by rw [hC]; exact hf4.symm))
            unfold vAddr at HF1 HF2
            rw [hf1] at HF1
            rw [hf2] at HF2
            rw [hf3] at HW3
            rw [hf4] at HW4
            rw [hC] at HOr
            clear hf1 hf2 hf3 hf4 hC HFr
            go_upto_region 16 with fail
            have c0 := HV15.out.cell 0
            have c1 := HV15.out.cell 1
            have c2 := HV15.out.cell 2
            have c3 := HV15.out.cell 3
            have c4 := HV15.out.cell 4
            have c5 := HV15.out.cell 5
            simp at c0 c1 c2 c3 c4 c5
            have z0 := Later.cell_of c0
            have z1 := Later.cell_of c1
            have z2 := Later.cell_of c2
            have z3 := Later.cell_of c3
            have z4 := Later.cell_of c4
            have z5 := Later.cell_of c5
            refine wp_region_inv 22 0 (fourR V s1 h1 l1 s2 h2 l2 f1 f2 f3 f4 C) (fun _ w' => Below wc.heap.size wc w') (fun u v => Below u.heap.size u v) (fun _ => 0)
              (by kernel_rfl) (by kernel_rfl) (by decide) fourR_keep (below_drew (Below.refl _ _)) ?hX
            case' hX => (apply Exists.intro; refine ⟨fun T => ?hA, ?hob, ?hend⟩)
            case hA =>
              simp only [setAll, List.take_succ_cons, List.take_zero, Act.put, List.setIfInBounds_toArray, List.set_cons_succ, List.set_cons_zero, Nat.reduceAdd]
              exact rfl
            case hob =>
              clear HY15 HV15 HX15 HA15 HR15 HC15 HB15 c0 c1 c2 c3 c4 c5 HSf HCs HLq HRq HY0 HY1 HX0 HX1 HR0 HR1 HFour HYs HXs HRs HYu
              go_light
              refine ⟨?_, ?_, ?_, ?_, ?_, ?_, ?_, ?_, ?_, ?_, ?_, ?_, ?_, ?_, ?_, ?_, ?_, ?_, ?_, ?_, ?_, ?_, trivial⟩
              all_goals (intro T wx n0 hC hn hp; dsimp only at hn ⊢; unfold Op1)
              · go_simp
                exact ⟨rfl, Below.refl _ _⟩
              · obtain ⟨q0, -⟩ := hp
                have q0 : T 0 = .pointer (some ⟨V, 0, none⟩) := q0
                have e0 := z0 ⟨wx, hC⟩
                have e1 := z1 ⟨wx, hC⟩
                have e2 := z2 ⟨wx, hC⟩
                simp only at e0 e1 e2
                go_simp
                exact ⟨rfl, Below.refl _ _⟩
              · obtain ⟨q1, -⟩ := hp
                have q1 : T 1 = .agg #[.bool s1, .int .u64 (h1 : Int), .int .u64 (l1 : Int)] := q1
                go_simp
                refine (HF1.out wx).mono ?_
                rintro e w5 ⟨rfl, o5, rfl⟩
                exact ⟨_, rfl, rfl, below_alloc hC _, below_alloc (Below.refl _ _) _⟩
              · go_simp
                exact ⟨rfl, Below.refl _ _⟩
              · obtain ⟨q3, -⟩ := hp
                have q3 : T 3 = .pointer (some ⟨V, 3, none⟩) := q3
                have e0 := z3 ⟨wx, hC⟩
                have e1 := z4 ⟨wx, hC⟩
                have e2 := z5 ⟨wx, hC⟩
                simp only at e0 e1 e2
                go_simp
                exact ⟨rfl, Below.refl _ _⟩
              · obtain ⟨q4, q2, -⟩ := hp
                have q4 : T 4 = .agg #[.bool s2, .int .u64 (h2 : Int), .int .u64 (l2 : Int)] := q4
                have q2 : T 2 = .int .i64 f1 := q2
                go_simp
                refine (HF2.out wx).mono ?_
                rintro e w5 ⟨rfl, o5, rfl⟩
                exact ⟨_, rfl, rfl, below_alloc hC _, below_alloc (Below.refl _ _) _⟩
              · go_simp
                exact ⟨rfl, Below.refl _ _⟩
              · obtain ⟨q6, -⟩ := hp
                have q6 : T 6 = .pointer (some ⟨V, 0, none⟩) := q6
                go_simp
                exact ⟨rfl, Below.refl _ _⟩
              · obtain ⟨q7, -⟩ := hp
                have q7 : T 7 = .pointer (some ⟨V, 0, none⟩) := q7
                have e0 := z0 ⟨wx, hC⟩
                simp only at e0
                go_simp
                exact ⟨rfl, Below.refl _ _⟩
              · go_simp
                exact ⟨rfl, Below.refl _ _⟩
              · obtain ⟨q9, -⟩ := hp
                have q9 : T 9 = .pointer (some ⟨V, 3, none⟩) := q9
                go_simp
                exact ⟨rfl, Below.refl _ _⟩
              · obtain ⟨q10, -⟩ := hp
                have q10 : T 10 = .pointer (some ⟨V, 3, none⟩) := q10
                have e0 := z3 ⟨wx, hC⟩
                simp only at e0
                go_simp
                exact ⟨rfl, Below.refl _ _⟩
              · obtain ⟨q8, q11, -⟩ := hp
                have q8 : T 8 = .bool s1 := q8
                have q11 : T 11 = .bool s2 := q11
                go_simp
                exact ⟨by cases s1 <;> cases s2 <;> rfl, Below.refl _ _⟩
              · obtain ⟨q12, q5, -⟩ := hp
                have q12 : T 12 = .bool (s1 != s2) := q12
                have q5 : T 5 = .int .i64 f2 := q5
                go_simp
                refine (HW3.out wx).mono ?_
                rintro e w5 ⟨rfl, rfl⟩
                exact ⟨_, rfl, rfl, hC, Below.refl _ _⟩
              · go_simp
                exact ⟨rfl, Below.refl _ _⟩
              · obtain ⟨q14, -⟩ := hp
                have q14 : T 14 = .pointer (some ⟨V, 0, none⟩) := q14
                have e0 := z0 ⟨wx, hC⟩
                have e1 := z1 ⟨wx, hC⟩
                have e2 := z2 ⟨wx, hC⟩
                simp only at e0 e1 e2
                go_simp
                exact ⟨rfl, Below.refl _ _⟩
              · go_simp
                exact ⟨rfl, Below.refl _ _⟩
              · obtain ⟨q16, -⟩ := hp
                have q16 : T 16 = .pointer (some ⟨V, 3, none⟩) := q16
                have e0 := z3 ⟨wx, hC⟩
                have e1 := z4 ⟨wx, hC⟩
                have e2 := z5 ⟨wx, hC⟩
                simp only at e0 e1 e2
                go_simp
                exact ⟨rfl, Below.refl _ _⟩
              · obtain ⟨q15, q17, q13, -⟩ := hp
                have q15 : T 15 = .agg #[.bool s1, .int .u64 (h1 : Int), .int .u64 (l1 : Int)] := q15
                have q17 : T 17 = .agg #[.bool s2, .int .u64 (h2 : Int), .int .u64 (l2 : Int)] := q17
                have q13 : T 13 = .int .i64 f3 := q13
                go_simp
                refine (HOr.out wx).mono ?_
                rintro e w5 ⟨rfl, hb⟩
                exact ⟨_, rfl, rfl, hC.trans (hb.mono hC.size), hb⟩
              · obtain ⟨q18, -⟩ := hp
                have q18 : T 18 = .int .i64 C := q18
                go_simp
                exact ⟨rfl, Below.refl _ _⟩
              · obtain ⟨q19, q18, -⟩ := hp
                have q19 : T 19 = .bool (decide (C > 0)) := q19
                have q18 : T 18 = .int .i64 C := q18
                go_simp
                refine (HW4.out wx).mono ?_
                rintro e w5 ⟨rfl, rfl⟩
                exact ⟨_, rfl, rfl, hC, Below.refl _ _⟩
              · obtain ⟨q2, q5, q13, q20, -⟩ := hp
                have q2 : T 2 = .int .i64 f1 := q2
                have q5 : T 5 = .int .i64 f2 := q5
                have q13 : T 13 = .int .i64 f3 := q13
                have q20 : T 20 = .int .i64 f4 := q20
                go_simp
                exact ⟨⟨wx.heap.size, rfl, rdInts_new wx _ [f1, f2, f3, f4] _ rfl⟩, below_alloc hC _, below_alloc (Below.refl _ _) _⟩
            case hend =>
              intro T w16 ⟨n0, hn0, hb⟩ hR
              obtain ⟨B, hT21, hRd⟩ := hR 21 (by omega)
              have HRd := Lib.hid hRd
              clear hR hRd c0 c1 c2 c3 c4 c5 z0 z1 z2 z3 z4 z5 HF1 HF2 HW3 HW4 HOr
              have HY16 := Lib.hid (HY15.out.below hb)
              have HV16 := Lib.hid (HV15.out.below hb HV15.out.lt)
              have HX16 := Lib.hid (HX15.out.below hb)
              have HA16 := Lib.hid (HA15.out.below hb)
              have HR16 := Lib.hid (HR15.out.below hb)
              have HC16 := Lib.hid (HC15.out.below hb)
              have HB16 := Lib.hid (HB15.out.trans (hb.mono HB15.out.size))
              clear hb HB15 HY15 HV15 HX15 HA15 HR15 HC15
              simp only [List.drop_succ_cons, List.drop_zero]
              rw [hT21]
              generalize T 0 = t0 at *
              clear hT21
              go_wp2_with fail
              refine (errs_any B 4 4 [f1, f2, f3, f4] _ HRd.out (by omega)).mono ?_
              rintro e w17 ⟨rfl, rfl⟩
              rw [HFour.out]
              clear HRd HFour
              go_wp2_with fail
              refine (HSf.out xc _ HX16.out).mono ?_
              rintro e w18 ⟨rfl, hb⟩
              clear HSf
              have HY17 := Lib.hid (HY16.out.below hb)
              have HV17 := Lib.hid (HV16.out.below hb HV16.out.lt)
              have HX17 := Lib.hid (HX16.out.below hb)
              have HA17 := Lib.hid (HA16.out.below hb)
              have HR17 := Lib.hid (HR16.out.below hb)
              have HC17 := Lib.hid (HC16.out.below hb)
              have HB17 := Lib.hid (HB16.out.trans (hb.mono HB16.out.size))
              clear hb HB16 HY16 HV16 HX16 HA16 HR16 HC16
              go_wp2_with fail
              refine (HCs.out xc _ HX17.out).mono ?_
              rintro e w19 ⟨rfl, hb⟩
              clear HCs
              have HY18 := Lib.hid (HY17.out.below hb)
              have HV18 := Lib.hid (HV17.out.below hb HV17.out.lt)
              have HX18 := Lib.hid (HX17.out.below hb)
              have HA18 := Lib.hid (HA17.out.below hb)
              have HR18 := Lib.hid (HR17.out.below hb)
              have HC18 := Lib.hid (HC17.out.below hb)
              have HB18 := Lib.hid (HB17.out.trans (hb.mono HB17.out.size))
              clear hb HB17 HY17 HV17 HX17 HA17 HR17 HC17
              go_upto_region 20 with fail
              have HAd := Lib.hid fun wx => addressed_any wx
              by_cases gy : Fy = 0
              · obtain ⟨hok, hle⟩ := HY0.out gy
                have HLy := Lib.hid (HLq.out hok)
                rw [hle] at HLy
                subst gy
                clear hok hle
                by_cases gr : Fr = 0
                · obtain ⟨p, hpv, hpe, hpp⟩ := HR0.out gr
                  have HSq := Lib.hid fun wx => qspanOf_any p wx hpv
                  rw [hpe, hpp] at HSq
                  subst gr
                  clear hpv hpe hpp
                  by_cases gx : Fx = 0
                  · obtain ⟨hok, hle, hvr⟩ := HX0.out gx
                    have HRx := Lib.hid (HRq.out hok)
                    rw [hle] at HRx
                    have HRv := Lib.hid hvr
                    subst gx
                    clear hok hle hvr
                    have HLAST := Lib.hid trivial
                    go_wp2_with fail
                    refine (HLy.out _ HY18.out).mono ?_
                    rintro e wa ⟨v, rfl, hO, hb⟩
                    obtain ⟨a2, c2, rfl, _⟩ := hO.form
                    have HE := Lib.hid hO.rd
                    clear hO
                    have HY19 := Lib.hid (HY18.out.below hb)
                    have HV19 := Lib.hid (HV18.out.below hb HV18.out.lt)
                    have HX19 := Lib.hid (HX18.out.below hb)
                    have HA19 := Lib.hid (HA18.out.below hb)
                    have HR19 := Lib.hid (HR18.out.below hb)
                    have HC19 := Lib.hid (HC18.out.below hb)
                    have HB19 := Lib.hid (HB18.out.trans (hb.mono HB18.out.size))
                    clear hb HB18 HY18 HV18 HX18 HA18 HR18 HC18
                    have hq := equal_pf aa a2 ca c2 RY RY _ HA19.out HE.out HYs.out
                    rw [Hla.out, decide_eq_true (rfl : RY = RY)] at hq
                    have HQ := Lib.hid hq
                    clear hq HE
                    rw [Hla.out]
                    go_wp2_with fail
                    refine HQ.out.mono ?_
                    rintro e wb ⟨rfl, q, rfl⟩
                    have hb := below_drewN (Below.refl wa.heap.size wa) q
                    clear HQ
                    have HY20 := Lib.hid (HY19.out.below hb)
                    have HV20 := Lib.hid (HV19.out.below hb HV19.out.lt)
                    have HX20 := Lib.hid (HX19.out.below hb)
                    have HA20 := Lib.hid (HA19.out.below hb)
                    have HR20 := Lib.hid (HR19.out.below hb)
                    have HC20 := Lib.hid (HC19.out.below hb)
                    have HB20 := Lib.hid (HB19.out.trans (hb.mono HB19.out.size))
                    clear hb HB19 HY19 HV19 HX19 HA19 HR19 HC19
                    generalize wa.drewN q = wb at *
                    have c0 := HV20.out.cell 0
                    have c1 := HV20.out.cell 1
                    have c2 := HV20.out.cell 2
                    have c3 := HV20.out.cell 3
                    have c4 := HV20.out.cell 4
                    have c5 := HV20.out.cell 5
                    simp at c0 c1 c2 c3 c4 c5
                    go_wp2_with fail
                    refine (HSq.out _).mono ?_
                    rintro e wc1 ⟨v, rfl, hO, hb⟩
                    obtain ⟨a3, c3', rfl, _⟩ := hO.form
                    have HE := Lib.hid hO.rd
                    clear hO c0 c1 c2 c3 c4 c5
                    have HY21 := Lib.hid (HY20.out.below hb)
                    have HV21 := Lib.hid (HV20.out.below hb HV20.out.lt)
                    have HX21 := Lib.hid (HX20.out.below hb)
                    have HA21 := Lib.hid (HA20.out.below hb)
                    have HR21 := Lib.hid (HR20.out.below hb)
                    have HC21 := Lib.hid (HC20.out.below hb)
                    have HB21 := Lib.hid (HB20.out.trans (hb.mono HB20.out.size))
                    clear hb HB20 HY20 HV20 HX20 HA20 HR20 HC20
                    have hq := equal_pf ar a3 cr c3' RR RR _ HR21.out HE.out HRs.out
                    rw [Hlr.out, decide_eq_true (rfl : RR = RR)] at hq
                    have HQ := Lib.hid hq
                    clear hq HE
                    rw [Hlr.out]
                    go_wp2_with fail
                    refine HQ.out.mono ?_
                    rintro e wd1 ⟨rfl, q, rfl⟩
                    have hb := below_drewN (Below.refl wc1.heap.size wc1) q
                    clear HQ
                    have HY22 := Lib.hid (HY21.out.below hb)
                    have HV22 := Lib.hid (HV21.out.below hb HV21.out.lt)
                    have HX22 := Lib.hid (HX21.out.below hb)
                    have HA22 := Lib.hid (HA21.out.below hb)
                    have HR22 := Lib.hid (HR21.out.below hb)
                    have HC22 := Lib.hid (HC21.out.below hb)
                    have HB22 := Lib.hid (HB21.out.trans (hb.mono HB21.out.size))
                    clear hb HB21 HY21 HV21 HX21 HA21 HR21 HC21
                    generalize wc1.drewN q = wd1 at *
                    go_wp2_with fail
                    refine (HRx.out xc _ HX22.out).mono ?_
                    rintro e we ⟨v, rfl, hO, hb⟩
                    obtain ⟨a4, c4', rfl, _⟩ := hO.form
                    have HE := Lib.hid hO.rd
                    clear hO
                    have HY23 := Lib.hid (HY22.out.below hb)
                    have HV23 := Lib.hid (HV22.out.below hb HV22.out.lt)
                    have HX23 := Lib.hid (HX22.out.below hb)
                    have HA23 := Lib.hid (HA22.out.below hb)
                    have HR23 := Lib.hid (HR22.out.below hb)
                    have HC23 := Lib.hid (HC22.out.below hb)
                    have HB23 := Lib.hid (HB22.out.trans (hb.mono HB22.out.size))
                    clear hb HB22 HY22 HV22 HX22 HA22 HR22 HC22
                    have hq := equal_rg ac a4 cc c4' RX RX _ HC23.out HE.out HXs.out HRv.out HRv.out
                    rw [Hlc.out, decide_eq_true (rfl : RX = RX)] at hq
                    have HQ := Lib.hid hq
                    clear hq HE
                    rw [Hlc.out]
                    go_wp2_with fail
                    refine HQ.out.mono ?_
                    rintro e wf ⟨rfl, q, rfl⟩
                    have hb := below_drewN (Below.refl we.heap.size we) q
                    clear HQ
                    have HY24 := Lib.hid (HY23.out.below hb)
                    have HV24 := Lib.hid (HV23.out.below hb HV23.out.lt)
                    have HX24 := Lib.hid (HX23.out.below hb)
                    have HA24 := Lib.hid (HA23.out.below hb)
                    have HR24 := Lib.hid (HR23.out.below hb)
                    have HC24 := Lib.hid (HC23.out.below hb)
                    have HB24 := Lib.hid (HB23.out.trans (hb.mono HB23.out.size))
                    clear hb HB23 HY23 HV23 HX23 HA23 HR23 HC23
                    generalize we.drewN q = wf at *
                    go_wp2_with fail
                    refine (HAd.out _).mono ?_
                    rintro e wz ⟨rfl, hb⟩
                    have HBz := Lib.hid (HB24.out.trans (hb.mono HB24.out.size))
                    clear hb
                    go_wp2_with fail
                    go_ret
                    exact ⟨rfl, HBz.out⟩
                  · have nx1 : (Fx == 0) = false := by simpa using gx
                    have nx2 : (Fx != 0) = true := by simpa using gx
                    have nx3 : decide (Fx = 0) = false := decide_eq_false gx
                    obtain rfl : lc = 0 := by rw [← Hlc.out]; exact HX1.out gx
                    have HLAST := Lib.hid trivial
                    go_wp2_with fail
                    refine (HLy.out _ HY18.out).mono ?_
                    rintro e wa ⟨v, rfl, hO, hb⟩
                    obtain ⟨a2, c2, rfl, _⟩ := hO.form
                    have HE := Lib.hid hO.rd
                    clear hO
                    have HY19 := Lib.hid (HY18.out.below hb)
                    have HV19 := Lib.hid (HV18.out.below hb HV18.out.lt)
                    have HX19 := Lib.hid (HX18.out.below hb)
                    have HA19 := Lib.hid (HA18.out.below hb)
                    have HR19 := Lib.hid (HR18.out.below hb)
                    have HC19 := Lib.hid (HC18.out.below hb)
                    have HB19 := Lib.hid (HB18.out.trans (hb.mono HB18.out.size))
                    clear hb HB18 HY18 HV18 HX18 HA18 HR18 HC18
                    have hq := equal_pf aa a2 ca c2 RY RY _ HA19.out HE.out HYs.out
                    rw [Hla.out, decide_eq_true (rfl : RY = RY)] at hq
                    have HQ := Lib.hid hq
                    clear hq HE
                    rw [Hla.out]
                    go_wp2_with fail
                    refine HQ.out.mono ?_
                    rintro e wb ⟨rfl, q, rfl⟩
                    have hb := below_drewN (Below.refl wa.heap.size wa) q
                    clear HQ
                    have HY20 := Lib.hid (HY19.out.below hb)
                    have HV20 := Lib.hid (HV19.out.below hb HV19.out.lt)
                    have HX20 := Lib.hid (HX19.out.below hb)
                    have HA20 := Lib.hid (HA19.out.below hb)
                    have HR20 := Lib.hid (HR19.out.below hb)
                    have HC20 := Lib.hid (HC19.out.below hb)
                    have HB20 := Lib.hid (HB19.out.trans (hb.mono HB19.out.size))
                    clear hb HB19 HY19 HV19 HX19 HA19 HR19 HC19
                    generalize wa.drewN q = wb at *
                    have c0 := HV20.out.cell 0
                    have c1 := HV20.out.cell 1
                    have c2 := HV20.out.cell 2
                    have c3 := HV20.out.cell 3
                    have c4 := HV20.out.cell 4
                    have c5 := HV20.out.cell 5
                    simp at c0 c1 c2 c3 c4 c5
                    go_wp2_with fail
                    refine (HSq.out _).mono ?_
                    rintro e wc1 ⟨v, rfl, hO, hb⟩
                    obtain ⟨a3, c3', rfl, _⟩ := hO.form
                    have HE := Lib.hid hO.rd
                    clear hO c0 c1 c2 c3 c4 c5
                    have HY21 := Lib.hid (HY20.out.below hb)
                    have HV21 := Lib.hid (HV20.out.below hb HV20.out.lt)
                    have HX21 := Lib.hid (HX20.out.below hb)
                    have HA21 := Lib.hid (HA20.out.below hb)
                    have HR21 := Lib.hid (HR20.out.below hb)
                    have HC21 := Lib.hid (HC20.out.below hb)
                    have HB21 := Lib.hid (HB20.out.trans (hb.mono HB20.out.size))
                    clear hb HB20 HY20 HV20 HX20 HA20 HR20 HC20
                    have hq := equal_pf ar a3 cr c3' RR RR _ HR21.out HE.out HRs.out
                    rw [Hlr.out, decide_eq_true (rfl : RR = RR)] at hq
                    have HQ := Lib.hid hq
                    clear hq HE
                    rw [Hlr.out]
                    go_wp2_with fail
                    refine HQ.out.mono ?_
                    rintro e wd1 ⟨rfl, q, rfl⟩
                    have hb := below_drewN (Below.refl wc1.heap.size wc1) q
                    clear HQ
                    have HY22 := Lib.hid (HY21.out.below hb)
                    have HV22 := Lib.hid (HV21.out.below hb HV21.out.lt)
                    have HX22 := Lib.hid (HX21.out.below hb)
                    have HA22 := Lib.hid (HA21.out.below hb)
                    have HR22 := Lib.hid (HR21.out.below hb)
                    have HC22 := Lib.hid (HC21.out.below hb)
                    have HB22 := Lib.hid (HB21.out.trans (hb.mono HB21.out.size))
                    clear hb HB21 HY21 HV21 HX21 HA21 HR21 HC21
                    generalize wc1.drewN q = wd1 at *
                    go_wp2_with fail
                    refine (HAd.out _).mono ?_
                    rintro e wz ⟨rfl, hb⟩
                    have HBz := Lib.hid (HB22.out.trans (hb.mono HB22.out.size))
                    clear hb
                    go_wp2_with fail
                    go_ret
                    exact ⟨rfl, HBz.out⟩
                · have nr1 : (Fr == 0) = false := by simpa using gr
                  have nr2 : (Fr != 0) = true := by simpa using gr
                  have nr3 : decide (Fr = 0) = false := decide_eq_false gr
                  obtain rfl : lr = 0 := by rw [← Hlr.out]; exact HR1.out gr
                  by_cases gx : Fx = 0
                  · obtain ⟨hok, hle, hvr⟩ := HX0.out gx
                    have HRx := Lib.hid (HRq.out hok)
                    rw [hle] at HRx
                    have HRv := Lib.hid hvr
                    subst gx
                    clear hok hle hvr
                    have HLAST := Lib.hid trivial
                    go_wp2_with fail
                    refine (HLy.out _ HY18.out).mono ?_
                    rintro e wa ⟨v, rfl, hO, hb⟩
                    obtain ⟨a2, c2, rfl, _⟩ := hO.form
                    have HE := Lib.hid hO.rd
                    clear hO
                    have HY19 := Lib.hid (HY18.out.below hb)
                    have HV19 := Lib.hid (HV18.out.below hb HV18.out.lt)
                    have HX19 := Lib.hid (HX18.out.below hb)
                    have HA19 := Lib.hid (HA18.out.below hb)
                    have HR19 := Lib.hid (HR18.out.below hb)
                    have HC19 := Lib.hid (HC18.out.below hb)
                    have HB19 := Lib.hid (HB18.out.trans (hb.mono HB18.out.size))
                    clear hb HB18 HY18 HV18 HX18 HA18 HR18 HC18
                    have hq := equal_pf aa a2 ca c2 RY RY _ HA19.out HE.out HYs.out
                    rw [Hla.out, decide_eq_true (rfl : RY = RY)] at hq
                    have HQ := Lib.hid hq
                    clear hq HE
                    rw [Hla.out]
                    go_wp2_with fail
                    refine HQ.out.mono ?_
                    rintro e wb ⟨rfl, q, rfl⟩
                    have hb := below_drewN (Below.refl wa.heap.size wa) q
                    clear HQ
                    have HY20 := Lib.hid (HY19.out.below hb)
                    have HV20 := Lib.hid (HV19.out.below hb HV19.out.lt)
                    have HX20 := Lib.hid (HX19.out.below hb)
                    have HA20 := Lib.hid (HA19.out.below hb)
                    have HR20 := Lib.hid (HR19.out.below hb)
                    have HC20 := Lib.hid (HC19.out.below hb)
                    have HB20 := Lib.hid (HB19.out.trans (hb.mono HB19.out.size))
                    clear hb HB19 HY19 HV19 HX19 HA19 HR19 HC19
                    generalize wa.drewN q = wb at *
                    go_wp2_with fail
                    refine (HRx.out xc _ HX20.out).mono ?_
                    rintro e we ⟨v, rfl, hO, hb⟩
                    obtain ⟨a4, c4', rfl, _⟩ := hO.form
                    have HE := Lib.hid hO.rd
                    clear hO
                    have HY21 := Lib.hid (HY20.out.below hb)
                    have HV21 := Lib.hid (HV20.out.below hb HV20.out.lt)
                    have HX21 := Lib.hid (HX20.out.below hb)
                    have HA21 := Lib.hid (HA20.out.below hb)
                    have HR21 := Lib.hid (HR20.out.below hb)
                    have HC21 := Lib.hid (HC20.out.below hb)
                    have HB21 := Lib.hid (HB20.out.trans (hb.mono HB20.out.size))
                    clear hb HB20 HY20 HV20 HX20 HA20 HR20 HC20
                    have hq := equal_rg ac a4 cc c4' RX RX _ HC21.out HE.out HXs.out HRv.out HRv.out
                    rw [Hlc.out, decide_eq_true (rfl : RX = RX)] at hq
                    have HQ := Lib.hid hq
                    clear hq HE
                    rw [Hlc.out]
                    go_wp2_with fail
                    refine HQ.out.mono ?_
                    rintro e wf ⟨rfl, q, rfl⟩
                    have hb := below_drewN (Below.refl we.heap.size we) q
                    clear HQ
                    have HY22 := Lib.hid (HY21.out.below hb)
                    have HV22 := Lib.hid (HV21.out.below hb HV21.out.lt)
                    have HX22 := Lib.hid (HX21.out.below hb)
                    have HA22 := Lib.hid (HA21.out.below hb)
                    have HR22 := Lib.hid (HR21.out.below hb)
                    have HC22 := Lib.hid (HC21.out.below hb)
                    have HB22 := Lib.hid (HB21.out.trans (hb.mono HB21.out.size))
                    clear hb HB21 HY21 HV21 HX21 HA21 HR21 HC21
                    generalize we.drewN q = wf at *
                    go_wp2_with fail
                    refine (HAd.out _).mono ?_
                    rintro e wz ⟨rfl, hb⟩
                    have HBz := Lib.hid (HB22.out.trans (hb.mono HB22.out.size))
                    clear hb
                    go_wp2_with fail
                    go_ret
                    exact ⟨rfl, HBz.out⟩
                  · have nx1 : (Fx == 0) = false := by simpa using gx
                    have nx2 : (Fx != 0) = true := by simpa using gx
                    have nx3 : decide (Fx = 0) = false := decide_eq_false gx
                    obtain rfl : lc = 0 := by rw [← Hlc.out]; exact HX1.out gx
                    have HLAST := Lib.hid trivial
                    go_wp2_with fail
                    refine (HLy.out _ HY18.out).mono ?_
                    rintro e wa ⟨v, rfl, hO, hb⟩
                    obtain ⟨a2, c2, rfl, _⟩ := hO.form
                    have HE := Lib.hid hO.rd
                    clear hO
                    have HY19 := Lib.hid (HY18.out.below hb)
                    have HV19 := Lib.hid (HV18.out.below hb HV18.out.lt)
                    have HX19 := Lib.hid (HX18.out.below hb)
                    have HA19 := Lib.hid (HA18.out.below hb)
                    have HR19 := Lib.hid (HR18.out.below hb)
                    have HC19 := Lib.hid (HC18.out.below hb)
                    have HB19 := Lib.hid (HB18.out.trans (hb.mono HB18.out.size))
                    clear hb HB18 HY18 HV18 HX18 HA18 HR18 HC18
                    have hq := equal_pf aa a2 ca c2 RY RY _ HA19.out HE.out HYs.out
                    rw [Hla.out, decide_eq_true (rfl : RY = RY)] at hq
                    have HQ := Lib.hid hq
                    clear hq HE
                    rw [Hla.out]
                    go_wp2_with fail
                    refine HQ.out.mono ?_
                    rintro e wb ⟨rfl, q, rfl⟩
                    have hb := below_drewN (Below.refl wa.heap.size wa) q
                    clear HQ
                    have HY20 := Lib.hid (HY19.out.below hb)
                    have HV20 := Lib.hid (HV19.out.below hb HV19.out.lt)
                    have HX20 := Lib.hid (HX19.out.below hb)
                    have HA20 := Lib.hid (HA19.out.below hb)
                    have HR20 := Lib.hid (HR19.out.below hb)
                    have HC20 := Lib.hid (HC19.out.below hb)
                    have HB20 := Lib.hid (HB19.out.trans (hb.mono HB19.out.size))
                    clear hb HB19 HY19 HV19 HX19 HA19 HR19 HC19
                    generalize wa.drewN q = wb at *
                    go_wp2_with fail
                    refine (HAd.out _).mono ?_
                    rintro e wz ⟨rfl, hb⟩
                    have HBz := Lib.hid (HB20.out.trans (hb.mono HB20.out.size))
                    clear hb
                    go_wp2_with fail
                    go_ret
                    exact ⟨rfl, HBz.out⟩
              · have ny1 : (Fy == 0) = false := by simpa using gy
                have ny2 : (Fy != 0) = true := by simpa using gy
                have ny3 : decide (Fy = 0) = false := decide_eq_false gy
                obtain rfl : la = 0 := by rw [← Hla.out]; exact HY1.out gy
                by_cases gr : Fr = 0
                · obtain ⟨p, hpv, hpe, hpp⟩ := HR0.out gr
                  have HSq := Lib.hid fun wx => qspanOf_any p wx hpv
                  rw [hpe, hpp] at HSq
                  subst gr
                  clear hpv hpe hpp
                  by_cases gx : Fx = 0
                  · obtain ⟨hok, hle, hvr⟩ := HX0.out gx
                    have HRx := Lib.hid (HRq.out hok)
                    rw [hle] at HRx
                    have HRv := Lib.hid hvr
                    subst gx
                    clear hok hle hvr
                    have HLAST := Lib.hid trivial
                    have c0 := HV18.out.cell 0
                    have c1 := HV18.out.cell 1
                    have c2 := HV18.out.cell 2
                    have c3 := HV18.out.cell 3
                    have c4 := HV18.out.cell 4
                    have c5 := HV18.out.cell 5
                    simp at c0 c1 c2 c3 c4 c5
                    go_wp2_with fail
                    refine (HSq.out _).mono ?_
                    rintro e wc1 ⟨v, rfl, hO, hb⟩
                    obtain ⟨a3, c3', rfl, _⟩ := hO.form
                    have HE := Lib.hid hO.rd
                    clear hO c0 c1 c2 c3 c4 c5
                    have HY19 := Lib.hid (HY18.out.below hb)
                    have HV19 := Lib.hid (HV18.out.below hb HV18.out.lt)
                    have HX19 := Lib.hid (HX18.out.below hb)
                    have HA19 := Lib.hid (HA18.out.below hb)
                    have HR19 := Lib.hid (HR18.out.below hb)
                    have HC19 := Lib.hid (HC18.out.below hb)
                    have HB19 := Lib.hid (HB18.out.trans (hb.mono HB18.out.size))
                    clear hb HB18 HY18 HV18 HX18 HA18 HR18 HC18
                    have hq := equal_pf ar a3 cr c3' RR RR _ HR19.out HE.out HRs.out
                    rw [Hlr.out, decide_eq_true (rfl : RR = RR)] at hq
                    have HQ := Lib.hid hq
                    clear hq HE
                    rw [Hlr.out]
                    go_wp2_with fail
                    refine HQ.out.mono ?_
                    rintro e wd1 ⟨rfl, q, rfl⟩
                    have hb := below_drewN (Below.refl wc1.heap.size wc1) q
                    clear HQ
                    have HY20 := Lib.hid (HY19.out.below hb)
                    have HV20 := Lib.hid (HV19.out.below hb HV19.out.lt)
                    have HX20 := Lib.hid (HX19.out.below hb)
                    have HA20 := Lib.hid (HA19.out.below hb)
                    have HR20 := Lib.hid (HR19.out.below hb)
                    have HC20 := Lib.hid (HC19.out.below hb)
                    have HB20 := Lib.hid (HB19.out.trans (hb.mono HB19.out.size))
                    clear hb HB19 HY19 HV19 HX19 HA19 HR19 HC19
                    generalize wc1.drewN q = wd1 at *
                    go_wp2_with fail
                    refine (HRx.out xc _ HX20.out).mono ?_
                    rintro e we ⟨v, rfl, hO, hb⟩
                    obtain ⟨a4, c4', rfl, _⟩ := hO.form
                    have HE := Lib.hid hO.rd
                    clear hO
                    have HY21 := Lib.hid (HY20.out.below hb)
                    have HV21 := Lib.hid (HV20.out.below hb HV20.out.lt)
                    have HX21 := Lib.hid (HX20.out.below hb)
                    have HA21 := Lib.hid (HA20.out.below hb)
                    have HR21 := Lib.hid (HR20.out.below hb)
                    have HC21 := Lib.hid (HC20.out.below hb)
                    have HB21 := Lib.hid (HB20.out.trans (hb.mono HB20.out.size))
                    clear hb HB20 HY20 HV20 HX20 HA20 HR20 HC20
                    have hq := equal_rg ac a4 cc c4' RX RX _ HC21.out HE.out HXs.out HRv.out HRv.out
                    rw [Hlc.out, decide_eq_true (rfl : RX = RX)] at hq
                    have HQ := Lib.hid hq
                    clear hq HE
                    rw [Hlc.out]
                    go_wp2_with fail
                    refine HQ.out.mono ?_
                    rintro e wf ⟨rfl, q, rfl⟩
                    have hb := below_drewN (Below.refl we.heap.size we) q
                    clear HQ
                    have HY22 := Lib.hid (HY21.out.below hb)
                    have HV22 := Lib.hid (HV21.out.below hb HV21.out.lt)
                    have HX22 := Lib.hid (HX21.out.below hb)
                    have HA22 := Lib.hid (HA21.out.below hb)
                    have HR22 := Lib.hid (HR21.out.below hb)
                    have HC22 := Lib.hid (HC21.out.below hb)
                    have HB22 := Lib.hid (HB21.out.trans (hb.mono HB21.out.size))
                    clear hb HB21 HY21 HV21 HX21 HA21 HR21 HC21
                    generalize we.drewN q = wf at *
                    go_wp2_with fail
                    refine (HAd.out _).mono ?_
                    rintro e wz ⟨rfl, hb⟩
                    have HBz := Lib.hid (HB22.out.trans (hb.mono HB22.out.size))
                    clear hb
                    go_wp2_with fail
                    go_ret
                    exact ⟨rfl, HBz.out⟩
                  · have nx1 : (Fx == 0) = false := by simpa using gx
                    have nx2 : (Fx != 0) = true := by simpa using gx
                    have nx3 : decide (Fx = 0) = false := decide_eq_false gx
                    obtain rfl : lc = 0 := by rw [← Hlc.out]; exact HX1.out gx
                    have HLAST := Lib.hid trivial
                    have c0 := HV18.out.cell 0
                    have c1 := HV18.out.cell 1
                    have c2 := HV18.out.cell 2
                    have c3 := HV18.out.cell 3
                    have c4 := HV18.out.cell 4
                    have c5 := HV18.out.cell 5
                    simp at c0 c1 c2 c3 c4 c5
                    go_wp2_with fail
                    refine (HSq.out _).mono ?_
                    rintro e wc1 ⟨v, rfl, hO, hb⟩
                    obtain ⟨a3, c3', rfl, _⟩ := hO.form
                    have HE := Lib.hid hO.rd
                    clear hO c0 c1 c2 c3 c4 c5
                    have HY19 := Lib.hid (HY18.out.below hb)
                    have HV19 := Lib.hid (HV18.out.below hb HV18.out.lt)
                    have HX19 := Lib.hid (HX18.out.below hb)
                    have HA19 := Lib.hid (HA18.out.below hb)
                    have HR19 := Lib.hid (HR18.out.below hb)
                    have HC19 := Lib.hid (HC18.out.below hb)
                    have HB19 := Lib.hid (HB18.out.trans (hb.mono HB18.out.size))
                    clear hb HB18 HY18 HV18 HX18 HA18 HR18 HC18
                    have hq := equal_pf ar a3 cr c3' RR RR _ HR19.out HE.out HRs.out
                    rw [Hlr.out, decide_eq_true (rfl : RR = RR)] at hq
                    have HQ := Lib.hid hq
                    clear hq HE
                    rw [Hlr.out]
                    go_wp2_with fail
                    refine HQ.out.mono ?_
                    rintro e wd1 ⟨rfl, q, rfl⟩
                    have hb := below_drewN (Below.refl wc1.heap.size wc1) q
                    clear HQ
                    have HY20 := Lib.hid (HY19.out.below hb)
                    have HV20 := Lib.hid (HV19.out.below hb HV19.out.lt)
                    have HX20 := Lib.hid (HX19.out.below hb)
                    have HA20 := Lib.hid (HA19.out.below hb)
                    have HR20 := Lib.hid (HR19.out.below hb)
                    have HC20 := Lib.hid (HC19.out.below hb)
                    have HB20 := Lib.hid (HB19.out.trans (hb.mono HB19.out.size))
                    clear hb HB19 HY19 HV19 HX19 HA19 HR19 HC19
                    generalize wc1.drewN q = wd1 at *
                    go_wp2_with fail
                    refine (HAd.out _).mono ?_
                    rintro e wz ⟨rfl, hb⟩
                    have HBz := Lib.hid (HB20.out.trans (hb.mono HB20.out.size))
                    clear hb
                    go_wp2_with fail
                    go_ret
                    exact ⟨rfl, HBz.out⟩
                · have nr1 : (Fr == 0) = false := by simpa using gr
                  have nr2 : (Fr != 0) = true := by simpa using gr
                  have nr3 : decide (Fr = 0) = false := decide_eq_false gr
                  obtain rfl : lr = 0 := by rw [← Hlr.out]; exact HR1.out gr
                  by_cases gx : Fx = 0
                  · obtain ⟨hok, hle, hvr⟩ := HX0.out gx
                    have HRx := Lib.hid (HRq.out hok)
                    rw [hle] at HRx
                    have HRv := Lib.hid hvr
                    subst gx
                    clear hok hle hvr
                    have HLAST := Lib.hid trivial
                    go_wp2_with fail
                    refine (HRx.out xc _ HX18.out).mono ?_
                    rintro e we ⟨v, rfl, hO, hb⟩
                    obtain ⟨a4, c4', rfl, _⟩ := hO.form
                    have HE := Lib.hid hO.rd
                    clear hO
                    have HY19 := Lib.hid (HY18.out.below hb)
                    have HV19 := Lib.hid (HV18.out.below hb HV18.out.lt)
                    have HX19 := Lib.hid (HX18.out.below hb)
                    have HA19 := Lib.hid (HA18.out.below hb)
                    have HR19 := Lib.hid (HR18.out.below hb)
                    have HC19 := Lib.hid (HC18.out.below hb)
                    have HB19 := Lib.hid (HB18.out.trans (hb.mono HB18.out.size))
                    clear hb HB18 HY18 HV18 HX18 HA18 HR18 HC18
                    have hq := equal_rg ac a4 cc c4' RX RX _ HC19.out HE.out HXs.out HRv.out HRv.out
                    rw [Hlc.out, decide_eq_true (rfl : RX = RX)] at hq
                    have HQ := Lib.hid hq
                    clear hq HE
                    rw [Hlc.out]
                    go_wp2_with fail
                    refine HQ.out.mono ?_
                    rintro e wf ⟨rfl, q, rfl⟩
                    have hb := below_drewN (Below.refl we.heap.size we) q
                    clear HQ
                    have HY20 := Lib.hid (HY19.out.below hb)
                    have HV20 := Lib.hid (HV19.out.below hb HV19.out.lt)
                    have HX20 := Lib.hid (HX19.out.below hb)
                    have HA20 := Lib.hid (HA19.out.below hb)
                    have HR20 := Lib.hid (HR19.out.below hb)
                    have HC20 := Lib.hid (HC19.out.below hb)
                    have HB20 := Lib.hid (HB19.out.trans (hb.mono HB19.out.size))
                    clear hb HB19 HY19 HV19 HX19 HA19 HR19 HC19
                    generalize we.drewN q = wf at *
                    go_wp2_with fail
                    refine (HAd.out _).mono ?_
                    rintro e wz ⟨rfl, hb⟩
                    have HBz := Lib.hid (HB20.out.trans (hb.mono HB20.out.size))
                    clear hb
                    go_wp2_with fail
                    go_ret
                    exact ⟨rfl, HBz.out⟩
                  · have nx1 : (Fx == 0) = false := by simpa using gx
                    have nx2 : (Fx != 0) = true := by simpa using gx
                    have nx3 : decide (Fx = 0) = false := decide_eq_false gx
                    obtain rfl : lc = 0 := by rw [← Hlc.out]; exact HX1.out gx
                    have HLAST := Lib.hid trivial
                    go_wp2_with fail
                    refine (HAd.out _).mono ?_
                    rintro e wz ⟨rfl, hb⟩
                    have HBz := Lib.hid (HB18.out.trans (hb.mono HB18.out.size))
                    clear hb
                    go_wp2_with fail
                    go_ret
                    exact ⟨rfl, HBz.out⟩
end Go.Proofs.YtjkicehhfapohaaGreatDoor
