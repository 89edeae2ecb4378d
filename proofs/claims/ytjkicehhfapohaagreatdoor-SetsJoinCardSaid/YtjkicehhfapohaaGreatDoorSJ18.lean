/-
  Spans.Both.
-/
import Derived.Test.YtjkicehhfapohaaGreatDoorSJ13
import Derived.Test.YtjkicehhfapohaaGreatDoorSJ12
set_option linter.unusedVariables false
namespace Go.Proofs.YtjkicehhfapohaaGreatDoor
open Go.RowKit Go
set_option linter.unusedVariables false

/-- what the region of two ranges' common part has yielded -/
def boR (ga oa na ca gb ob nb cb i k w0 : Nat) (a1 : Bool) (a2 a3 : Nat) (a4 : Bool) (a5 a6 : Nat) (b1 : Bool) (b2 b3 : Nat) (b4 : Bool) (b5 b6 : Nat) (v1 : Bool) (v2 v3 : Nat) (v4 : Bool) (v5 v6 : Nat) : Nat → Value → World → Prop
  | 0, v, _ => v = .slice (some ⟨ga, oa, none⟩) na ca
  | 1, v, _ => v = .int .i64 (i : Int)
  | 2, v, _ => v = .pointer (some ⟨ga, oa + i * 6, none⟩)
  | 3, v, _ => v = .pointer (some ⟨ga, oa + i * 6, none⟩)
  | 4, v, _ => v = .agg #[.bool a1, .int .u64 (a2 : Int), .int .u64 (a3 : Int)]
  | 5, v, _ => v = .slice (some ⟨gb, ob, none⟩) nb cb
  | 6, v, _ => v = .int .i64 (k : Int)
  | 7, v, _ => v = .pointer (some ⟨gb, ob + k * 6, none⟩)
  | 8, v, _ => v = .pointer (some ⟨gb, ob + k * 6, none⟩)
  | 9, v, _ => v = .agg #[.bool b1, .int .u64 (b2 : Int), .int .u64 (b3 : Int)]
  | 10, v, _ => v = .agg #[.bool v1, .int .u64 (v2 : Int), .int .u64 (v3 : Int)]
  | 11, v, _ => v = .slice (some ⟨ga, oa, none⟩) na ca
  | 12, v, _ => v = .int .i64 (i : Int)
  | 13, v, _ => v = .pointer (some ⟨ga, oa + i * 6, none⟩)
  | 14, v, _ => v = .pointer (some ⟨ga, oa + i * 6 + 3, none⟩)
  | 15, v, _ => v = .agg #[.bool a4, .int .u64 (a5 : Int), .int .u64 (a6 : Int)]
  | 16, v, _ => v = .slice (some ⟨gb, ob, none⟩) nb cb
  | 17, v, _ => v = .int .i64 (k : Int)
  | 18, v, _ => v = .pointer (some ⟨gb, ob + k * 6, none⟩)
  | 19, v, _ => v = .pointer (some ⟨gb, ob + k * 6 + 3, none⟩)
  | 20, v, _ => v = .agg #[.bool b4, .int .u64 (b5 : Int), .int .u64 (b6 : Int)]
  | 21, v, _ => v = .agg #[.bool v4, .int .u64 (v5 : Int), .int .u64 (v6 : Int)]
  | 22, v, _ => v = .agg #[.bool v1, .int .u64 (v2 : Int), .int .u64 (v3 : Int), .bool v4, .int .u64 (v5 : Int), .int .u64 (v6 : Int)]
  | _, v, w => ∃ B, v = .pointer (some ⟨B, 0, none⟩) ∧ w0 ≤ B ∧ Blk w B 35 #[.bool false, .int .u64 0, .int .u64 0, .bool false, .int .u64 0, .int .u64 0]
theorem boR_keep (ga oa na ca gb ob nb cb i k w0 : Nat) (a1 : Bool) (a2 a3 : Nat) (a4 : Bool) (a5 a6 : Nat) (b1 : Bool) (b2 b3 : Nat) (b4 : Bool) (b5 b6 : Nat) (v1 : Bool) (v2 v3 : Nat) (v4 : Bool) (v5 v6 : Nat) (p : Nat) (v : Value) (u w : World) (h : boR ga oa na ca gb ob nb cb i k w0 a1 a2 a3 a4 a5 a6 b1 b2 b3 b4 b5 b6 v1 v2 v3 v4 v5 v6 p v u) (hb : Below u.heap.size u w) : boR ga oa na ca gb ob nb cb i k w0 a1 a2 a3 a4 a5 a6 b1 b2 b3 b4 b5 b6 v1 v2 v3 v4 v5 v6 p v w := by
  rcases p with _ | _ | _ | _ | _ | _ | _ | _ | _ | _ | _ | _ | _ | _ | _ | _ | _ | _ | _ | _ | _ | _ | _ | p
  all_goals first | exact h | (obtain ⟨B, h1, h2, h3⟩ := h; exact ⟨B, h1, h2, h3.below hb h3.lt⟩)
theorem zero_rg : (Tryz.prog.info? 35).map (fun i => (i.size, i.zero.map (fun z => z.cells.size))) = some (6, some 6) := by kernel_rfl
theorem drop_cons {α : Type} {l : List α} {i : Nat} {x : α} (h : l[i]? = some x) : l.drop i = x :: l.drop (i + 1) := by
  have hi := (List.getElem?_eq_some_iff.1 h).1
  have e : l[i] = x := by rw [List.getElem?_eq_getElem hi] at h; injection h
  rw [List.drop_eq_getElem_cons hi, e]
set_option maxRecDepth 100000 in
set_option maxHeartbeats 16000000 in
theorem sboth_any (ad1 ad2 : Option Addr) (na ca nb cb : Nat) (LA LB : List Sp) (w : World) (h1 : RdK layRg w ad1 LA) (h2 : RdK layRg w ad2 LB) (hn1 : LA.length = na) (hn2 : LB.length = nb) (hs1 : na ≤ 10000) (hs2 : nb ≤ 10000) (hv1 : ∀ p ∈ LA, VR p) (hv2 : ∀ p ∈ LB, VR p) :
    Calls Tryz.prog 60 #[.slice ad1 na ca, .slice ad2 nb cb] w fun e w' => ∃ v, e = .returned v ∧ OwnK layRg w' w.heap.size v (jn (both LA LB)) ∧ Below w.heap.size w w' := by
  have H1 := Lib.hid h1
  have H2 := Lib.hid h2
  have Hn1 := Lib.hid hn1
  have Hn2 := Lib.hid hn2
  have Hv1 := Lib.hid hv1
  have Hv2 := Lib.hid hv2
  have HBv := Lib.hid (both_vr _ LA LB (Nat.le_refl _) hv1 hv2)
  clear h1 h2 hn1 hn2 hv1 hv2
  obtain ⟨BB, hBB⟩ : ∃ BB, both LA LB = BB := ⟨_, rfl⟩
  rw [hBB] at HBv ⊢
  have HBl : Hid (BB.length ≤ na + nb) := Lib.hid (by have := HBv.out.2; rw [Hn1.out, Hn2.out] at this; exact this)
  have H00 : Hid ([] ++ both (LA.drop 0) (LB.drop 0) = BB) := Lib.hid (by rw [List.drop_zero, List.drop_zero]; exact hBB)
  clear hBB
  go_enter Tryz.func60, Tryz.ntmps60
  go_wp2_with fail
  go_loopw [5, 6, 7, 8] (fun out iv kv s8 wr => ∃ (i k : Nat) (D : List Sp), i ≤ na ∧ k ≤ nb ∧ iv = .int .i64 (i : Int) ∧ kv = .int .i64 (k : Int) ∧ Hid (D ++ both (LA.drop i) (LB.drop k) = BB) ∧ Hid (OwnK layRg wr w.heap.size out D) ∧ Hid (Below w.heap.size w wr)) (fun _ iv kv _ _ => (na - (intOf iv).toNat) + (nb - (intOf kv).toNat))
  case atStart => exact ⟨0, 0, [], Nat.zero_le _, Nat.zero_le _, rfl, rfl, H00, Lib.hid (OwnK.nil _ _ _), Lib.hid (Below.refl _ _)⟩
  case round =>
    obtain ⟨i, k, D, hi, hk, rfl, rfl, HD, HO, HB⟩ := hrel
    have HDl : Hid (D.length ≤ na + nb) := Lib.hid (by have e := congrArg List.length HD.out; rw [List.length_append] at e; have := HBl.out; omega)
    have HFin : Hid (i = na ∨ k = nb → D = BB) := Lib.hid fun h => by
      have e := HD.out
      rcases h with h | h
      · rw [List.drop_eq_nil_of_le (show LA.length ≤ i by rw [Hn1.out]; omega), both_nil', List.append_nil] at e; exact e
      · rw [List.drop_eq_nil_of_le (show LB.length ≤ k by rw [Hn2.out]; omega), both_nil, List.append_nil] at e; exact e
    by_cases hlt1 : i < na
    · by_cases hlt2 : k < nb
      · have hS1 : i < LA.length := by rw [Hn1.out]; exact hlt1
        have hS2 : k < LB.length := by rw [Hn2.out]; exact hlt2
        obtain ⟨p, hp⟩ : ∃ p, LA[i]? = some p := ⟨_, List.getElem?_eq_getElem hS1⟩
        obtain ⟨q, hq⟩ : ∃ q, LB[k]? = some q := ⟨_, List.getElem?_eq_getElem hS2⟩
        have hVp := Hv1.out p (List.mem_of_getElem? hp)
        have hVq := Hv2.out q (List.mem_of_getElem? hq)
        obtain ⟨a1, a2, a3, a4, a5, a6, hpc, hp1, hp2, -, -⟩ := rg_cells p
        obtain ⟨b1, b2, b3, b4, b5, b6, hqc, hq1, hq2, -, -⟩ := rg_cells q
        obtain ⟨ga, oa, had, hga, c0, c1, c2, c3, c4, c5⟩ := (H1.out.below HB.out).rg hp hpc
        subst had
        obtain ⟨gb, ob, had, hgb, d0, d1, d2, d3, d4, d5⟩ := (H2.out.below HB.out).rg hq hqc
        subst had
        have hD := HD.out
        rw [drop_cons hp, drop_cons hq, both_cons] at hD
        have HLa := Lib.hid fun wx => laterN wx hVp.a hVq.a
        have HEa := Lib.hid fun wx => earlierN wx hVp.b hVq.b
        have hvm : VN (max p.1 q.1) := (Nat.le_total p.1 q.1).elim (fun h => by rw [Nat.max_eq_right h]; exact hVq.a) (fun h => by rw [Nat.max_eq_left h]; exact hVp.a)
        have hvn : VN (min p.2 q.2) := (Nat.le_total p.2 q.2).elim (fun h => by rw [Nat.min_eq_left h]; exact hVp.b) (fun h => by rw [Nat.min_eq_right h]; exact hVq.b)
        have HC1 := Lib.hid fun wx => spanCompareN wx hvm hvn
        have HC2 := Lib.hid fun wx => spanCompareN wx hVp.b hVq.b
        have HEn : Hid (layRg.enc (max p.1 q.1, min p.2 q.2) = (aN (max p.1 q.1)).toList ++ (aN (min p.2 q.2)).toList) := Lib.hid rfl
        have HM1 : Hid (aN (max p.1 q.1) = #[.bool (sixN (max p.1 q.1)), .int .u64 ((hiN (max p.1 q.1) : Nat) : Int), .int .u64 ((loN (max p.1 q.1) : Nat) : Int)]) := Lib.hid rfl
        have HM2 : Hid (aN (min p.2 q.2) = #[.bool (sixN (min p.2 q.2)), .int .u64 ((hiN (min p.2 q.2) : Nat) : Int), .int .u64 ((loN (min p.2 q.2) : Nat) : Int)]) := Lib.hid rfl
        have HCl1 := Lib.hid (cN_le (max p.1 q.1) (min p.2 q.2))
        have HCl2 := Lib.hid (cN_lt_iff p.2 q.2)
        have HD1 := Lib.hid hD
        rw [hp1, hq1] at HLa
        rw [hp2, hq2] at HEa HC2
        rw [HM1.out] at HLa HC1 HEn
        rw [HM2.out] at HEa HC1 HEn
        have Hpd := Lib.hid (drop_cons hp)
        have Hqd := Lib.hid (drop_cons hq)
        generalize hMx : max p.1 q.1 = mx at *
        generalize hMn : min p.2 q.2 = mn at *
        have HCA : Hid (∀ wx : World, Below w.heap.size w wx → wx.cell? ⟨ga, oa + i * 6 + 3, none⟩ = some (.bool a4) ∧ wx.cell? ⟨ga, oa + i * 6 + 4, none⟩ = some (.int .u64 (a5 : Int)) ∧ wx.cell? ⟨ga, oa + i * 6 + 5, none⟩ = some (.int .u64 (a6 : Int))) := Lib.hid fun wx hb => by
          obtain ⟨g', o', had, _, _, _, _, z3, z4, z5⟩ := (H1.out.below hb).rg hp hpc
          injection had with had
          injection had with e1 e2
          subst e1 e2
          exact ⟨z3, z4, z5⟩
        have HCB : Hid (∀ wx : World, Below w.heap.size w wx → wx.cell? ⟨gb, ob + k * 6 + 3, none⟩ = some (.bool b4) ∧ wx.cell? ⟨gb, ob + k * 6 + 4, none⟩ = some (.int .u64 (b5 : Int)) ∧ wx.cell? ⟨gb, ob + k * 6 + 5, none⟩ = some (.int .u64 (b6 : Int))) := Lib.hid fun wx hb => by
          obtain ⟨g', o', had, _, _, _, _, z3, z4, z5⟩ := (H2.out.below hb).rg hq hqc
          injection had with had
          injection had with e1 e2
          subst e1 e2
          exact ⟨z3, z4, z5⟩
        clear hMx hMn hD hVp hVq hpc hqc hp1 hp2 hq1 hq2 hvm hvn hS1 hS2 HM1 HM2 hp hq
        generalize sixN mx = v1 at *
        generalize hiN mx = v2 at *
        generalize loN mx = v3 at *
        generalize sixN mn = v4 at *
        generalize hiN mn = v5 at *
        generalize loN mn = v6 at *
        generalize cN mx mn = C1 at *
        generalize cN p.2 q.2 = C2 at *
        go_upto_region 4 with fail
        have k0 := Later.cell_of c0
        have k1 := Later.cell_of c1
        have k2 := Later.cell_of c2
        have k3 := Later.cell_of c3
        have k4 := Later.cell_of c4
        have k5 := Later.cell_of c5
        have l0 := Later.cell_of d0
        have l1 := Later.cell_of d1
        have l2 := Later.cell_of d2
        have l3 := Later.cell_of d3
        have l4 := Later.cell_of d4
        have l5 := Later.cell_of d5
        have HO0 := HO
        refine wp_region_inv 24 0 (boR ga oa na ca gb ob nb cb i k wr.heap.size a1 a2 a3 a4 a5 a6 b1 b2 b3 b4 b5 b6 v1 v2 v3 v4 v5 v6) (fun _ w' => Below wr.heap.size wr w') (fun u v => Below u.heap.size u v) (fun _ => 0)
          (by kernel_rfl) (by kernel_rfl) (by decide) (boR_keep ga oa na ca gb ob nb cb i k wr.heap.size a1 a2 a3 a4 a5 a6 b1 b2 b3 b4 b5 b6 v1 v2 v3 v4 v5 v6) (below_drew (Below.refl _ _)) ?hX
        case' hX => (apply Exists.intro; refine ⟨fun T => ?hA, ?hob, ?hend⟩)
        case hA =>
          simp only [setAll, List.take_succ_cons, List.take_zero, Act.put, List.setIfInBounds_toArray, List.set_cons_succ, List.set_cons_zero, Nat.reduceAdd]
          exact rfl
        case hob =>
          have i1 : (i : Int) < (na : Int) := by omega
          have i2 : (k : Int) < (nb : Int) := by omega
          have i3 : (0 : Int) ≤ (i : Int) := by omega
          have i4 : (0 : Int) ≤ (k : Int) := by omega
          clear HCA HCB Hpd Hqd HC2 Hn1 Hn2 HO HO0 HB HD HD1 HDl HFin HC1 HEn HCl1 HCl2 H1 H2 Hv1 Hv2 HBv HBl H00 c0 c1 c2 c3 c4 c5 d0 d1 d2 d3 d4 d5
          go_light
          refine ⟨?_, ?_, ?_, ?_, ?_, ?_, ?_, ?_, ?_, ?_, ?_, ?_, ?_, ?_, ?_, ?_, ?_, ?_, ?_, ?_, ?_, ?_, ?_, ?_, trivial⟩
          all_goals (intro T wx n0 hC hn hp; dsimp only at hn ⊢; unfold Op1)
          · clear k0 k1 k2 k3 k4 k5 l0 l1 l2 l3 l4 l5
            go_simp
            exact ⟨rfl, Below.refl _ _⟩
          · clear k0 k1 k2 k3 k4 k5 l0 l1 l2 l3 l4 l5
            go_simp
            exact ⟨rfl, Below.refl _ _⟩
          · obtain ⟨q0, q1, -⟩ := hp
            have q0 : T 0 = .slice (some ⟨ga, oa, none⟩) na ca := q0
            have q1 : T 1 = .int .i64 (i : Int) := q1
            clear k0 k1 k2 k3 k4 k5 l0 l1 l2 l3 l4 l5
            go_simp
            exact ⟨rfl, Below.refl _ _⟩
          · obtain ⟨q2, -⟩ := hp
            have q2 : T 2 = .pointer (some ⟨ga, oa + i * 6, none⟩) := q2
            clear k0 k1 k2 k3 k4 k5 l0 l1 l2 l3 l4 l5
            go_simp
            exact ⟨rfl, Below.refl _ _⟩
          · obtain ⟨q3, -⟩ := hp
            have q3 : T 3 = .pointer (some ⟨ga, oa + i * 6, none⟩) := q3
            have e0 := k0 ⟨wx, hC⟩
            have e1 := k1 ⟨wx, hC⟩
            have e2 := k2 ⟨wx, hC⟩
            simp only at e0 e1 e2
            clear k0 k1 k2 k3 k4 k5 l0 l1 l2 l3 l4 l5
            go_simp
            exact ⟨rfl, Below.refl _ _⟩
          · clear k0 k1 k2 k3 k4 k5 l0 l1 l2 l3 l4 l5
            go_simp
            exact ⟨rfl, Below.refl _ _⟩
          · clear k0 k1 k2 k3 k4 k5 l0 l1 l2 l3 l4 l5
            go_simp
            exact ⟨rfl, Below.refl _ _⟩
          · obtain ⟨q5, q6, -⟩ := hp
            have q5 : T 5 = .slice (some ⟨gb, ob, none⟩) nb cb := q5
            have q6 : T 6 = .int .i64 (k : Int) := q6
            clear k0 k1 k2 k3 k4 k5 l0 l1 l2 l3 l4 l5
            go_simp
            exact ⟨rfl, Below.refl _ _⟩
          · obtain ⟨q7, -⟩ := hp
            have q7 : T 7 = .pointer (some ⟨gb, ob + k * 6, none⟩) := q7
            clear k0 k1 k2 k3 k4 k5 l0 l1 l2 l3 l4 l5
            go_simp
            exact ⟨rfl, Below.refl _ _⟩
          · obtain ⟨q8, -⟩ := hp
            have q8 : T 8 = .pointer (some ⟨gb, ob + k * 6, none⟩) := q8
            have e0 := l0 ⟨wx, hC⟩
            have e1 := l1 ⟨wx, hC⟩
            have e2 := l2 ⟨wx, hC⟩
            simp only at e0 e1 e2
            clear k0 k1 k2 k3 k4 k5 l0 l1 l2 l3 l4 l5
            go_simp
            exact ⟨rfl, Below.refl _ _⟩
          · obtain ⟨q4, q9, -⟩ := hp
            have q4 : T 4 = .agg #[.bool a1, .int .u64 (a2 : Int), .int .u64 (a3 : Int)] := q4
            have q9 : T 9 = .agg #[.bool b1, .int .u64 (b2 : Int), .int .u64 (b3 : Int)] := q9
            clear k0 k1 k2 k3 k4 k5 l0 l1 l2 l3 l4 l5
            go_simp
            refine (HLa.out wx).mono ?_
            rintro e w5 ⟨rfl, hb⟩
            exact ⟨_, rfl, rfl, hC.trans (hb.mono hC.size), hb⟩
          · clear k0 k1 k2 k3 k4 k5 l0 l1 l2 l3 l4 l5
            go_simp
            exact ⟨rfl, Below.refl _ _⟩
          · clear k0 k1 k2 k3 k4 k5 l0 l1 l2 l3 l4 l5
            go_simp
            exact ⟨rfl, Below.refl _ _⟩
          · obtain ⟨q11, q12, -⟩ := hp
            have q11 : T 11 = .slice (some ⟨ga, oa, none⟩) na ca := q11
            have q12 : T 12 = .int .i64 (i : Int) := q12
            clear k0 k1 k2 k3 k4 k5 l0 l1 l2 l3 l4 l5
            go_simp
            exact ⟨rfl, Below.refl _ _⟩
          · obtain ⟨q13, -⟩ := hp
            have q13 : T 13 = .pointer (some ⟨ga, oa + i * 6, none⟩) := q13
            clear k0 k1 k2 k3 k4 k5 l0 l1 l2 l3 l4 l5
            go_simp
            exact ⟨rfl, Below.refl _ _⟩
          · obtain ⟨q14, -⟩ := hp
            have q14 : T 14 = .pointer (some ⟨ga, oa + i * 6 + 3, none⟩) := q14
            have e0 := k3 ⟨wx, hC⟩
            have e1 := k4 ⟨wx, hC⟩
            have e2 := k5 ⟨wx, hC⟩
            simp only at e0 e1 e2
            clear k0 k1 k2 k3 k4 k5 l0 l1 l2 l3 l4 l5
            go_simp
            exact ⟨rfl, Below.refl _ _⟩
          · clear k0 k1 k2 k3 k4 k5 l0 l1 l2 l3 l4 l5
            go_simp
            exact ⟨rfl, Below.refl _ _⟩
          · clear k0 k1 k2 k3 k4 k5 l0 l1 l2 l3 l4 l5
            go_simp
            exact ⟨rfl, Below.refl _ _⟩
          · obtain ⟨q16, q17, -⟩ := hp
            have q16 : T 16 = .slice (some ⟨gb, ob, none⟩) nb cb := q16
            have q17 : T 17 = .int .i64 (k : Int) := q17
            clear k0 k1 k2 k3 k4 k5 l0 l1 l2 l3 l4 l5
            go_simp
            exact ⟨rfl, Below.refl _ _⟩
          · obtain ⟨q18, -⟩ := hp
            have q18 : T 18 = .pointer (some ⟨gb, ob + k * 6, none⟩) := q18
            clear k0 k1 k2 k3 k4 k5 l0 l1 l2 l3 l4 l5
            go_simp
            exact ⟨rfl, Below.refl _ _⟩
          · obtain ⟨q19, -⟩ := hp
            have q19 : T 19 = .pointer (some ⟨gb, ob + k * 6 + 3, none⟩) := q19
            have e0 := l3 ⟨wx, hC⟩
            have e1 := l4 ⟨wx, hC⟩
            have e2 := l5 ⟨wx, hC⟩
            simp only at e0 e1 e2
            clear k0 k1 k2 k3 k4 k5 l0 l1 l2 l3 l4 l5
            go_simp
            exact ⟨rfl, Below.refl _ _⟩
          · obtain ⟨q15, q20, q10, -⟩ := hp
            have q15 : T 15 = .agg #[.bool a4, .int .u64 (a5 : Int), .int .u64 (a6 : Int)] := q15
            have q20 : T 20 = .agg #[.bool b4, .int .u64 (b5 : Int), .int .u64 (b6 : Int)] := q20
            have q10 : T 10 = .agg #[.bool v1, .int .u64 (v2 : Int), .int .u64 (v3 : Int)] := q10
            clear k0 k1 k2 k3 k4 k5 l0 l1 l2 l3 l4 l5
            go_simp
            refine (HEa.out wx).mono ?_
            rintro e w5 ⟨rfl, hb⟩
            exact ⟨_, rfl, rfl, hC.trans (hb.mono hC.size), hb⟩
          · obtain ⟨q10, q21, -⟩ := hp
            have q10 : T 10 = .agg #[.bool v1, .int .u64 (v2 : Int), .int .u64 (v3 : Int)] := q10
            have q21 : T 21 = .agg #[.bool v4, .int .u64 (v5 : Int), .int .u64 (v6 : Int)] := q21
            clear k0 k1 k2 k3 k4 k5 l0 l1 l2 l3 l4 l5
            go_simp
            exact ⟨rfl, Below.refl _ _⟩
          · clear k0 k1 k2 k3 k4 k5 l0 l1 l2 l3 l4 l5
            go_simp
            exact ⟨⟨wx.heap.size, rfl, hC.size, Blk.new wx _ _⟩, below_alloc hC _, below_alloc (Below.refl _ _) _⟩
        case hend =>
          intro T w4 ⟨n0, hn0, hb⟩ hR
          have hT22 : T 22 = .agg #[.bool v1, .int .u64 (v2 : Int), .int .u64 (v3 : Int), .bool v4, .int .u64 (v5 : Int), .int .u64 (v6 : Int)] := hR 22 (by omega)
          obtain ⟨B, hT23, hwB, hBl⟩ := hR 23 (by omega)
          have hBw : w.heap.size ≤ B := Nat.le_trans HB.out.size hwB
          have HO4 := Lib.hid (HO.out.later hb)
          have HB4 := Lib.hid (HB.out.trans (hb.mono HB.out.size))
          have hne : u5.ownBlock ≠ some B := fun e => by have := own_lt HO.out _ e; omega
          have HNe := Lib.hid hne
          have HHp := Lib.hid (show w4.heap[B]? = some (.cells #[.bool false, .int .u64 0, .int .u64 0, .bool false, .int .u64 0, .int .u64 0] 35 (0, 0)) from hBl)
          have HBs : Hid (Blk (w4.setRow B #[.bool v1, .int .u64 (v2 : Int), .int .u64 (v3 : Int), .bool v4, .int .u64 (v5 : Int), .int .u64 (v6 : Int)]) B 35 #[.bool v1, .int .u64 (v2 : Int), .int .u64 (v3 : Int), .bool v4, .int .u64 (v5 : Int), .int .u64 (v6 : Int)]) := Lib.hid (hBl.setRow _)
          have HBx : Hid (Below w.heap.size w (w4.setRow B #[.bool v1, .int .u64 (v2 : Int), .int .u64 (v3 : Int), .bool v4, .int .u64 (v5 : Int), .int .u64 (v6 : Int)])) := Lib.hid (below_setRow HB4.out hBw _)
          have HOs : Hid (OwnK layRg (w4.setRow B #[.bool v1, .int .u64 (v2 : Int), .int .u64 (v3 : Int), .bool v4, .int .u64 (v5 : Int), .int .u64 (v6 : Int)]) w.heap.size u5 D) := Lib.hid (by
            refine World.ownsRow.kept HO4.out ⟨rfl, rfl, rfl, by rw [setRow_size]; exact Nat.le_refl _, fun j hj hne2 => setRow_other w4 B j _ (by intro e; subst e; exact hne2 rfl)⟩ ?_ (row := some B)
            exact .inr hne)
          clear hR hb hBl HO HO0 HB HO4 HB4 hne HLa HEa hwB c0 c1 c2 c3 c4 c5 d0 d1 d2 d3 d4 d5 k0 k1 k2 k3 k4 k5 l0 l1 l2 l3 l4 l5
          simp only [List.drop_succ_cons, List.drop_zero]
          rw [hT22, hT23]
          clear hT22 hT23
          generalize T 0 = t0 at *
          generalize T 1 = t1 at *
          generalize T 2 = t2 at *
          generalize T 3 = t3 at *
          generalize T 4 = t4 at *
          generalize T 5 = t5 at *
          generalize T 6 = t6 at *
          generalize T 7 = t7 at *
          generalize T 8 = t8 at *
          generalize T 9 = t9 at *
          generalize T 10 = t10 at *
          generalize T 11 = t11 at *
          generalize T 12 = t12 at *
          generalize T 13 = t13 at *
          generalize T 14 = t14 at *
          generalize T 15 = t15 at *
          generalize T 16 = t16 at *
          generalize T 17 = t17 at *
          generalize T 18 = t18 at *
          generalize T 19 = t19 at *
          generalize T 20 = t20 at *
          generalize T 21 = t21 at *
          go_upto_region 5 with (refine wpList_store_row rfl 35 (.tmp 8) (.tmp 41) rfl B #[.bool v1, .int .u64 (v2 : Int), .int .u64 (v3 : Int), .bool v4, .int .u64 (v5 : Int), .int .u64 (v6 : Int)] rfl rfl 35 #[.bool false, .int .u64 0, .int .u64 0, .bool false, .int .u64 0, .int .u64 0] HHp.out (by kernel_rfl) rfl (by simp [Value.oneCell']) ?_; dsimp only [Act.put])
          generalize (w4.setRow B #[.bool v1, .int .u64 (v2 : Int), .int .u64 (v3 : Int), .bool v4, .int .u64 (v5 : Int), .int .u64 (v6 : Int)]) = w5 at *
          clear HHp
          have e0 := HBs.out.cell 0
          have e1 := HBs.out.cell 1
          have e2 := HBs.out.cell 2
          have e3 := HBs.out.cell 3
          have e4 := HBs.out.cell 4
          have e5 := HBs.out.cell 5
          simp at e0 e1 e2 e3 e4 e5
          go_wp2_with fail
          refine (HC1.out _).mono ?_
          rintro e w6 ⟨rfl, hb⟩
          have HB6 := Lib.hid (HBx.out.trans (hb.b.mono HBx.out.size))
          have HO6 := Lib.hid (HOs.out.later hb.b)
          have HBs6 := Lib.hid (HBs.out.below hb.b HBs.out.lt)
          clear hb HBx HOs HBs e0 e1 e2 e3 e4 e5 HC1
          go_upto_if 47 with fail
          go_cut [5] (fun out wx => ∃ D' : List Sp, D' = D ++ (if mx ≤ mn then [(mx, mn)] else []) ∧ OwnK layRg wx w.heap.size out D' ∧ Below w.heap.size w wx)
          case first =>
            as_aux_lemma =>
              by_cases hc : mx ≤ mn
              · have hC0 : C1 ≤ 0 := HCl1.out.2 hc
                clear HCl1
                have e0 := HBs6.out.cell 0
                have e1 := HBs6.out.cell 1
                have e2 := HBs6.out.cell 2
                have e3 := HBs6.out.cell 3
                have e4 := HBs6.out.cell 4
                have e5 := HBs6.out.cell 5
                simp at e0 e1 e2 e3 e4 e5
                go_wp2_with (first | (refine wpList_build1 rfl 71 35 _ rfl #[.bool v1, .int .u64 (v2 : Int), .int .u64 (v3 : Int), .bool v4, .int .u64 (v5 : Int), .int .u64 (v6 : Int)] rfl 6 Tryz.underlying71 zero_rg rfl (by decide) (by decide) ?_; go_simp) | (at_builtin; refine wpList_app rgE rfl (.tmp 48) (.tmp 50) rfl rfl (World.ownsRow.alloc HO6.out _) rfl (src_new layRg _ (mx, mn) _ _ ?c0) ?c1 ?c2 ?c3 ?c4 ?_))
                case c0 => first | exact (congrArg List.toArray HEn.out).symm | (rw [HEn.out]; rfl)
                case c1 => exact layRg.one _
                case c2 => unfold maxLen; have := HDl.out; omega
                case c3 => have := HDl.out; omega
                case c4 => have := HB6.out.size; simp; omega
                intro v' w7 hO hG
                have HO7 : Hid (OwnK layRg w7 w.heap.size v' (D ++ [(mx, mn)])) := Lib.hid (OwnK.snoc hO)
                have HB7 : Hid (Below w.heap.size w w7) := Lib.hid ((Below.alloc HB6.out HB6.out.size _).trans (hG.below (by have := HB6.out.size; simp; omega) (own_base HO6.out)))
                clear hO hG
                go_wp2_with fail
                go_meet
                case rel => exact ⟨D ++ [(mx, mn)], by rw [if_pos hc], HO7.out, HB7.out⟩
              · have hC0 : ¬ C1 ≤ 0 := fun h => hc (HCl1.out.1 h)
                clear HCl1
                go_wp2_with fail
                go_meet
                case rel => exact ⟨D, by rw [if_neg hc, List.append_nil], HO6.out, HB6.out⟩
          case rest =>
            as_aux_lemma =>
              obtain ⟨D', hD', hO, hB⟩ := hcut
              have HO7 := Lib.hid hO
              have HB7 := Lib.hid hB
              have HD2 : Hid (D' ++ (if p.2 < q.2 then both (LA.drop (i + 1)) (q :: LB.drop (k + 1)) else both (p :: LA.drop (i + 1)) (LB.drop (k + 1))) = BB) := Lib.hid (by rw [hD', List.append_assoc]; exact HD1.out)
              have HRa := (H1.out.below hB)
              have HRb := (H2.out.below hB)
              clear hO hB hD' HO6 HB6 HBs6 HD1 HEn HCl1
              have hcA := HCA.out _ HB7.out
              have hcB := HCB.out _ HB7.out
              obtain ⟨c3, c4, c5⟩ := hcA
              obtain ⟨d3, d4, d5⟩ := hcB
              have l3 := Later.cell_of c3
              have l4 := Later.cell_of c4
              have l5 := Later.cell_of c5
              have m3 := Later.cell_of d3
              have m4 := Later.cell_of d4
              have m5 := Later.cell_of d5
              have hC := fun X : Later wc => Calls.later X ((HC2.out X.1).mono fun _ _ h => h.ret)
              have i1 : (i : Int) < (na : Int) := by omega
              have i2 : (k : Int) < (nb : Int) := by omega
              go_upto_region 7 with fail
              refine wp_region_later (by kernel_rfl) (by kernel_rfl) ?_
              repeat (go_big_quiet_step ((go_at_call 68; exact hC _)))
              refine wpQuiet_nil ?_
              rintro w8 ⟨n8, hn8⟩
              have hb : Below wc.heap.size wc w8 := by rw [hn8]; exact n8.2
              clear hn8 n8
              have HO8 := Lib.hid (HO7.out.later hb)
              have HB8 := Lib.hid (HB7.out.trans (hb.mono HB7.out.size))
              clear hb hC l3 l4 l5 m3 m4 m5 c3 c4 c5 d3 d4 d5 HO7 HB7 HRa HRb
              by_cases hpq : p.2 < q.2
              · have hC0 : C2 < 0 := HCl2.out.2 hpq
                have HD3 : Hid (D' ++ both (LA.drop (i + 1)) (LB.drop k) = BB) := Lib.hid (by rw [Hqd.out]; have := HD2.out; rw [if_pos hpq] at this; exact this)
                clear HD2 HCl2
                go_wp2_with fail
                exact ⟨⟨i + 1, k, D', by omega, by omega, by go_num, rfl, HD3, HO8, HB8⟩, by simp [intOf]; omega⟩
              · have hC0 : ¬ C2 < 0 := fun h => hpq (HCl2.out.1 h)
                have HD3 : Hid (D' ++ both (LA.drop i) (LB.drop (k + 1)) = BB) := Lib.hid (by rw [Hpd.out]; have := HD2.out; rw [if_neg hpq] at this; exact this)
                clear HD2 HCl2
                go_wp2_with fail
                exact ⟨⟨i, k + 1, D', by omega, by omega, rfl, by go_num, HD3, HO8, HB8⟩, by simp [intOf]; omega⟩
      · have hkn : k = nb := by omega
        have hDB := HFin.out (.inr hkn)
        subst hDB
        obtain ⟨ad3, c3, hv3, _⟩ := HO.out.form
        subst hv3
        have HJ := Lib.hid (joined_any ad3 D.length c3 D wr HO.out.rd rfl (by have := HDl.out; omega) HBv.out.1)
        clear HFin HD HO HBv HBl H00
        go_wp2_with fail
        refine HJ.out.mono ?_
        rintro e w2 ⟨v, rfl, hO, hb⟩
        go_wp2_with fail
        go_ret
        exact ⟨_, rfl, hO.weak HB.out.size, HB.out.trans (hb.mono HB.out.size)⟩
    · have hin : i = na := by omega
      have hDB := HFin.out (.inl hin)
      subst hDB
      obtain ⟨ad3, c3, hv3, _⟩ := HO.out.form
      subst hv3
      have HJ := Lib.hid (joined_any ad3 D.length c3 D wr HO.out.rd rfl (by have := HDl.out; omega) HBv.out.1)
      clear HFin HD HO HBv HBl H00
      go_wp2_with fail
      refine HJ.out.mono ?_
      rintro e w2 ⟨v, rfl, hO, hb⟩
      go_wp2_with fail
      go_ret
      exact ⟨_, rfl, hO.weak HB.out.size, HB.out.trans (hb.mono HB.out.size)⟩
end Go.Proofs.YtjkicehhfapohaaGreatDoor
