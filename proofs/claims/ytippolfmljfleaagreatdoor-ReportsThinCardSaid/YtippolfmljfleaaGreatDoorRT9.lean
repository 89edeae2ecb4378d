/-
  The mark of the address laws: addressed is true. And the small functions errs, when.
  cmp.Or of a row of ints, cmp.Compare of ints, the order of bools, slices.Compare of two rows of two ints.
  The program's order of flows and of reports; the count of draws never goes down.
  The reference's order of flows and of reports; the count of draws never goes down.
  The contract of slices.SortFunc at a slice of structs over this program, as the kit's lay-plain.mjs prints it. Condition: the slice has no element, or its cells are known, fewer than 2^62 of them.
  The stable sort of reports by their order: program and reference (at most twenty).
  What the generator of reports calls: Some, the closure that compares; the state in a round.
  The fault of a list of reports, in plain words.
-/
import Derived.Test.YtippolfmljfleaaGreatDoorRT3
import Derived.Test.YtippolfmljfleaaGreatDoorRT5
import Derived.Test.YtippolfmljfleaaGreatDoorRT6
import Derived.Test.YtippolfmljfleaaGreatDoorRT8
import Derived.Shelf.SlSortCmp.NoneTotal
import Derived.Test.YtippolfmljfleaaGreatDoorProg
set_option linter.unusedVariables false
namespace Go.Proofs.YtippolfmljfleaaGreatDoor
open Go.RowKit Go
set_option linter.unusedVariables false
/-- an own row of strings -/
def encSs (L : List ByteArray) : List Value := L.map Value.string
def OwnS (w : World) (base : Nat) (v : Value) (L : List ByteArray) : Prop := w.ownsRow base 9 1 v L.length (encSs L)
theorem OwnS.nil (w : World) (base : Nat) : OwnS w base (.slice none 0 0) [] := World.ownsRow_nil w base _ 1
theorem OwnS.later {w w' : World} {base : Nat} {v : Value} {L : List ByteArray} (h : OwnS w base v L) (hb : Below w.heap.size w w') : OwnS w' base v L := own_later h hb
theorem OwnS.snoc {w : World} {B : Nat} {v : Value} {L : List ByteArray} {s : ByteArray} (h : w.ownsRow B 9 1 v (L.length + 1) (encSs L ++ [.string s])) : OwnS w B v (L ++ [s]) := by
  show w.ownsRow _ _ _ _ _ _
  rw [List.length_append, encSs, List.map_append]
  exact h
theorem OwnS.one {w : World} {B : Nat} {v : Value} {L : List ByteArray} (h : OwnS w B v L) (hl : 1 ≤ L.length) :
    ∃ g c, v = .slice (some ⟨g, 0, none⟩) L.length c ∧ B ≤ g ∧ g < w.heap.size ∧ L.length ≤ c ∧ c ≤ maxLen ∧ ∀ (j : Nat) x, L[j]? = some x → w.cell? ⟨g, j, none⟩ = some (.string x) := by
  rcases h.2 with ⟨rfl, h0⟩ | ⟨g, cap, cur, rfl, hb, hg, hc, hm, hs, ht⟩
  · omega
  · refine ⟨g, cap, rfl, hb, lt_of_block hg, hc, hm, fun j x hx => ?_⟩
    have hj : j < L.length := by
      rcases Nat.lt_or_ge j L.length with h | h
      · exact h
      · rw [List.getElem?_eq_none h] at hx; cases hx
    rw [cell_of_row w g _ _ _ _ hg]
    have h2 : (encSs L)[j]? = some (.string x) := by simp [encSs, hx]
    rw [← ht, List.getElem?_take, if_pos (by omega), Array.getElem?_toList] at h2
    exact h2
def firstE : List Int → Int
  | [] => 0
  | x :: l => if x ≠ 0 then x else firstE l
theorem firstE_hit : ∀ {l : List Int} {k : Nat}, k < l.length → (∀ j, j < k → l.getD j 0 = 0) → l.getD k 0 ≠ 0 → firstE l = l.getD k 0
  | [], k, h, _, _ => absurd h (Nat.not_lt_zero _)
  | x :: l, 0, h, _, h2 => by simp at h2 ⊢; simp [firstE, h2]
  | x :: l, k + 1, h, h1, h2 => by
    have h0 : x = 0 := h1 0 (by omega)
    rw [firstE, if_neg (by simp [h0])]
    have := firstE_hit (l := l) (k := k) (by simpa using h) (fun j hj => by have := h1 (j + 1) (by omega); simpa using this) (by simpa using h2)
    rw [this]; simp
theorem firstE_none : ∀ {l : List Int}, (∀ j, j < l.length → l.getD j 0 = 0) → firstE l = 0
  | [], _ => rfl
  | x :: l, h => by
    have h0 : x = 0 := h 0 (by simp)
    rw [firstE, if_neg (by simp [h0])]
    exact firstE_none fun j hj => by have := h (j + 1) (by simpa using hj); simpa using this
set_option maxHeartbeats 1000000 in
theorem errs_any (g n c : Nat) (zs : List Int) (w : World) (hz : RdInts w g 0 n zs) (hn : n ≤ 1000) :
    Calls Tryz.prog 14 #[.slice (some ⟨g, 0, none⟩) n c] w fun e w' => e = .returned (.int .i64 (firstE zs)) ∧ w' = w := by
  obtain ⟨hl, hg, hc⟩ := hz
  have Hc := Lib.hid hc
  have Hl := Lib.hid hl
  clear hc hl
  go_enter Tryz.func14, Tryz.ntmps14
  go_wp2
  go_loop [4, 7] (fun e i => ∃ k : Nat, k ≤ n ∧ i = .int .i64 k ∧ Hid (∀ j, j < k → zs.getD j 0 = 0)) (fun _ i => n - (intOf i).toNat)
  case atStart => exact ⟨0, Nat.zero_le _, rfl, Lib.hid fun j hj => absurd hj (Nat.not_lt_zero _)⟩
  case round =>
    obtain ⟨k, hk, rfl, HX⟩ := hrel
    by_cases hlt : k < n
    · have hcell := Hc.out k hlt
      rw [Nat.zero_add] at hcell
      by_cases h0 : zs.getD k 0 = 0
      · rw [h0] at hcell
        have H0 := Lib.hid h0
        clear h0
        go_wp2
        refine ⟨⟨k + 1, by omega, by go_num, Lib.hid fun j hj => ?_⟩, by simp [intOf]; omega⟩
        rcases Nat.lt_or_ge j k with h | h
        · exact HX.out j h
        · obtain rfl : j = k := by omega
          exact H0.out
      · have H0 : Hid (firstE zs = zs.getD k 0) := Lib.hid (firstE_hit (by rw [Hl.out]; exact hlt) HX.out h0)
        generalize zs.getD k 0 = z at *
        have h1 : (z != 0) = true := by simpa using h0
        go_wp2
        go_ret
        exact ⟨by rw [H0.out]; rfl, rfl⟩
    · obtain rfl : k = n := by omega
      have H0 : Hid (firstE zs = 0) := Lib.hid (firstE_none fun j hj => HX.out j (by rw [← Hl.out]; exact hj))
      go_wp2
      go_ret
      exact ⟨by rw [H0.out]; rfl, rfl⟩
theorem when_any (b : Bool) (x : Int) (w : World) : Calls Tryz.prog 15 #[.bool b, .int .i64 x] w fun e w' => e = .returned (.int .i64 (if b = true then x else 0)) ∧ w = w' := by
  cases b
  all_goals
    go_enter Tryz.func15, Tryz.ntmps15
    go_wp2
    go_ret
    exact ⟨rfl, rfl⟩
end Go.Proofs.YtippolfmljfleaaGreatDoor

namespace Go.Proofs.YtippolfmljfleaaGreatDoor
open Go.RowKit Go
set_option linter.unusedVariables false

theorem firstE_orI : ∀ (x : Int) (l : List Int), firstE (x :: l) = orI x (firstE l)
  | x, l => by
    unfold orI
    rw [firstE]
    by_cases h : x = 0
    · rw [if_neg (by simp [h]), if_pos h]
    · rw [if_pos h, if_neg h]
theorem firstE_one (x : Int) : firstE [x] = x := by
  by_cases h : x = 0 <;> simp [firstE, h]
set_option maxHeartbeats 1000000 in
theorem cmpOrL_any (g n c : Nat) (zs : List Int) (w : World) (hz : RdInts w g 0 n zs) (hn : n ≤ 1000) :
    Calls Tryz.prog 116 #[.slice (some ⟨g, 0, none⟩) n c] w fun e w' => e = .returned (.int .i64 (firstE zs)) ∧ w' = w := by
  obtain ⟨hl, hg, hc⟩ := hz
  have Hc := Lib.hid hc
  have Hl := Lib.hid hl
  clear hc hl
  go_enter Tryz.func116, Tryz.ntmps116
  go_wp2
  go_loop [5, 8] (fun e i => ∃ k : Nat, k ≤ n ∧ i = .int .i64 k ∧ Hid (∀ j, j < k → zs.getD j 0 = 0)) (fun _ i => n - (intOf i).toNat)
  case atStart => exact ⟨0, Nat.zero_le _, rfl, Lib.hid fun j hj => absurd hj (Nat.not_lt_zero _)⟩
  case round =>
    obtain ⟨k, hk, rfl, HX⟩ := hrel
    by_cases hlt : k < n
    · have hcell := Hc.out k hlt
      rw [Nat.zero_add] at hcell
      by_cases h0 : zs.getD k 0 = 0
      · rw [h0] at hcell
        have H0 := Lib.hid h0
        clear h0
        go_wp2
        refine ⟨⟨k + 1, by omega, by go_num, Lib.hid fun j hj => ?_⟩, by simp [intOf]; omega⟩
        rcases Nat.lt_or_ge j k with h | h
        · exact HX.out j h
        · obtain rfl : j = k := by omega
          exact H0.out
      · have H0 : Hid (firstE zs = zs.getD k 0) := Lib.hid (firstE_hit (by rw [Hl.out]; exact hlt) HX.out h0)
        generalize zs.getD k 0 = z at *
        have h1 : (z != 0) = true := by simpa using h0
        go_wp2
        go_ret
        exact ⟨by rw [H0.out]; rfl, rfl⟩
    · obtain rfl : k = n := by omega
      have H0 : Hid (firstE zs = 0) := Lib.hid (firstE_none fun j hj => HX.out j (by rw [← Hl.out]; exact hj))
      go_wp2
      go_ret
      exact ⟨by rw [H0.out]; rfl, rfl⟩
theorem isNaNI_any (x : Int) (w : World) : Calls Tryz.prog 151 #[.int .i64 x] w fun e w' => e = .returned (.bool false) ∧ w' = w := by
  go_enter Tryz.func151, Tryz.ntmps151
  go_wp2
  go_ret
  exact ⟨by simp, rfl⟩
set_option maxHeartbeats 1000000 in
theorem cmpInt_any (a b : Int) (w : World) : Calls Tryz.prog 117 #[.int .i64 a, .int .i64 b] w fun e w' => e = .returned (.int .i64 (Lib.compareInt a b)) ∧ w' = w := by
  have HN := Lib.hid fun x wx => isNaNI_any x wx
  by_cases h1 : a < b
  · have e : Lib.compareInt a b = -1 := by unfold Lib.compareInt; rw [if_pos h1]
    rw [e]
    clear e
    go_enter Tryz.func117, Tryz.ntmps117
    go_wp2_with fail
    refine (HN.out _ _).mono ?_
    rintro e w' ⟨rfl, rfl⟩
    go_wp2_with fail
    refine (HN.out _ _).mono ?_
    rintro e w' ⟨rfl, rfl⟩
    go_wp2_with fail
    go_ret
    exact ⟨rfl, rfl⟩
  · by_cases h2 : b < a
    · have e : Lib.compareInt a b = 1 := by unfold Lib.compareInt; rw [if_neg h1, if_pos h2]
      rw [e]
      clear e
      go_enter Tryz.func117, Tryz.ntmps117
      go_wp2_with fail
      refine (HN.out _ _).mono ?_
      rintro e w' ⟨rfl, rfl⟩
      go_wp2_with fail
      refine (HN.out _ _).mono ?_
      rintro e w' ⟨rfl, rfl⟩
      go_wp2_with fail
      go_ret
      exact ⟨rfl, rfl⟩
    · obtain rfl : a = b := by omega
      have e : Lib.compareInt a a = 0 := by unfold Lib.compareInt; rw [if_neg h1, if_neg h1]
      rw [e]
      clear h1 h2 e
      go_enter Tryz.func117, Tryz.ntmps117
      go_wp2_with fail
      refine (HN.out _ _).mono ?_
      rintro e w' ⟨rfl, rfl⟩
      go_wp2_with fail
      refine (HN.out _ _).mono ?_
      rintro e w' ⟨rfl, rfl⟩
      go_wp2_with fail
      go_ret
      exact ⟨rfl, rfl⟩
theorem cmpBo_any (a b : Bool) (w : World) : Calls Tryz.prog 118 #[.bool a, .bool b] w fun e w' => e = .returned (.int .i64 (cBo a b)) ∧ w' = w := by
  cases a <;> cases b
  all_goals
    go_enter Tryz.func118, Tryz.ntmps118
    go_wp2
    go_ret
    exact ⟨rfl, rfl⟩
set_option maxHeartbeats 2000000 in
theorem cmpSlI_any (g1 g2 c1 c2 : Nat) (a b x y : Int) (w : World) (hz : RdInts w g1 0 2 [a, b]) (hy : RdInts w g2 0 2 [x, y]) :
    Calls Tryz.prog 113 #[.slice (some ⟨g1, 0, none⟩) 2 c1, .slice (some ⟨g2, 0, none⟩) 2 c2] w fun e w' => e = .returned (.int .i64 (orI (Lib.compareInt a x) (Lib.compareInt b y))) ∧ w' = w := by
  have HC1 := Lib.hid (cmpInt_any a x w)
  have HC2 := Lib.hid (cmpInt_any b y w)
  generalize Lib.compareInt a x = C1 at *
  generalize Lib.compareInt b y = C2 at *
  obtain ⟨-, -, h1⟩ := hz
  obtain ⟨-, -, h2⟩ := hy
  have a0 : w.cell? ⟨g1, 0, none⟩ = some (.int .i64 a) := h1 0 (by omega)
  have a1 : w.cell? ⟨g1, 1, none⟩ = some (.int .i64 b) := h1 1 (by omega)
  have b0 : w.cell? ⟨g2, 0, none⟩ = some (.int .i64 x) := h2 0 (by omega)
  have b1 : w.cell? ⟨g2, 1, none⟩ = some (.int .i64 y) := h2 1 (by omega)
  clear h1 h2
  go_enter Tryz.func113, Tryz.ntmps113
  go_wp2_with fail
  refine wp_loop_rounds 3 ?_
  rw [rounds_succ]
  go_wp2_with fail
  refine HC1.out.mono ?_
  rintro e w' ⟨rfl, rfl⟩
  by_cases h1 : C1 = 0
  · subst h1
    go_wp2_with fail
    rw [rounds_succ]
    go_wp2_with fail
    refine HC2.out.mono ?_
    rintro e w' ⟨rfl, rfl⟩
    by_cases h2 : C2 = 0
    · subst h2
      go_wp2_with fail
      rw [rounds_succ]
      go_wp2_with fail
      go_ret
      exact ⟨rfl, rfl⟩
    · have h3 : (C2 != 0) = true := by simpa using h2
      go_wp2_with fail
      go_ret
      exact ⟨by simp [orI], rfl⟩
  · have h3 : (C1 != 0) = true := by simpa using h1
    go_wp2_with fail
    go_ret
    exact ⟨by simp [orI, h1], rfl⟩
end Go.Proofs.YtippolfmljfleaaGreatDoor

namespace Go.Proofs.YtippolfmljfleaaGreatDoor
open Go.RowKit Go
set_option linter.unusedVariables false

theorem rbFlow {w : World} {b : Nat} {x : RP} (h : Blk w b 45 (rpC x).toArray) : w.rangeAt b 3 x.f.cells.toList := fun j v hv => by
  have hj : j < 9 := by
    have := (List.getElem?_eq_some_iff.1 hv).1
    simpa [FV.cells] using this
  have hc := h.cell (3 + j)
  rw [hc, ← hv]
  have : j = 0 ∨ j = 1 ∨ j = 2 ∨ j = 3 ∨ j = 4 ∨ j = 5 ∨ j = 6 ∨ j = 7 ∨ j = 8 := by omega
  rcases this with rfl | rfl | rfl | rfl | rfl | rfl | rfl | rfl | rfl <;> rfl
theorem under_flow : Tryz.prog.underlying 43 = some (.struct (Tryz.prog.fieldsOf 43)) := by kernel_rfl
theorem size_flow : (Tryz.prog.info? 43).map (·.size) = some 9 := by kernel_rfl
set_option maxRecDepth 100000 in
set_option maxHeartbeats 4000000 in
theorem cmpFl_any (f g : FV) (w : World) (hf : f.ok) (hg : g.ok) : Calls Tryz.prog 119 #[.agg f.cells, .agg g.cells] w (RetD (.int .i64 (cF f g)) w) := by
  obtain ⟨p, s1, h1, l1, s2, h2, l2, fp, tp⟩ := f
  obtain ⟨p', s1', h1', l1', s2', h2', l2', fp', tp'⟩ := g
  simp only [FV.ok] at hf hg
  obtain ⟨i1, u1, u2, u3, u4, i2, i3⟩ := hf
  obtain ⟨j1, v1, v2, v3, v4, j2, j3⟩ := hg
  obtain ⟨h1, rfl, a1⟩ := nat_of_U64 u1
  obtain ⟨l1, rfl, a2⟩ := nat_of_U64 u2
  obtain ⟨h2, rfl, a3⟩ := nat_of_U64 u3
  obtain ⟨l2, rfl, a4⟩ := nat_of_U64 u4
  obtain ⟨h1', rfl, b1⟩ := nat_of_U64 v1
  obtain ⟨l1', rfl, b2⟩ := nat_of_U64 v2
  obtain ⟨h2', rfl, b3⟩ := nat_of_U64 v3
  obtain ⟨l2', rfl, b4⟩ := nat_of_U64 v4
  clear u1 u2 u3 u4 v1 v2 v3 v4
  unfold cF cA
  simp only [Int.toNat_natCast, FV.cells]
  have HC1 := Lib.hid fun wx => cmpInt_any p p' wx
  have HC2 := Lib.hid fun wx => spanCompareD_any s1 h1 l1 s1' h1' l1' wx a1 a2 b1 b2
  have HC3 := Lib.hid fun wx => spanCompareD_any s2 h2 l2 s2' h2' l2' wx a3 a4 b3 b4
  have HC4 := Lib.hid fun wx => cmpInt_any fp fp' wx
  have HC5 := Lib.hid fun wx => cmpInt_any tp tp' wx
  clear a1 a2 a3 a4 b1 b2 b3 b4 i1 i2 i3 j1 j2 j3
  generalize Lib.compareInt p p' = C1 at *
  generalize cN (numA s1 h1 l1) (numA s1' h1' l1') = C2 at *
  generalize cN (numA s2 h2 l2) (numA s2' h2' l2') = C3 at *
  generalize Lib.compareInt fp fp' = C4 at *
  generalize Lib.compareInt tp tp' = C5 at *
  have HF : Hid (firstE [C1, C2, C3, C4, C5] = orI C1 (orI C2 (orI C3 (orI C4 C5)))) := Lib.hid (by rw [firstE_orI, firstE_orI, firstE_orI, firstE_orI, firstE_one])
  rw [← HF.out]
  have HP : Hid (Blk ((w.alloc (.cells #[.int .i64 p, .bool s1, .int .u64 (h1 : Int), .int .u64 (l1 : Int), .bool s2, .int .u64 (h2 : Int), .int .u64 (l2 : Int), .int .i64 fp, .int .i64 tp] 43 (0, 0))).alloc (.cells #[.int .i64 p', .bool s1', .int .u64 (h1' : Int), .int .u64 (l1' : Int), .bool s2', .int .u64 (h2' : Int), .int .u64 (l2' : Int), .int .i64 fp', .int .i64 tp'] 43 (0, 0))) w.heap.size 43 #[.int .i64 p, .bool s1, .int .u64 (h1 : Int), .int .u64 (l1 : Int), .bool s2, .int .u64 (h2 : Int), .int .u64 (l2 : Int), .int .i64 fp, .int .i64 tp]) := Lib.hid ((Blk.new w _ _).alloc _)
  have HQ : Hid (Blk ((w.alloc (.cells #[.int .i64 p, .bool s1, .int .u64 (h1 : Int), .int .u64 (l1 : Int), .bool s2, .int .u64 (h2 : Int), .int .u64 (l2 : Int), .int .i64 fp, .int .i64 tp] 43 (0, 0))).alloc (.cells #[.int .i64 p', .bool s1', .int .u64 (h1' : Int), .int .u64 (l1' : Int), .bool s2', .int .u64 (h2' : Int), .int .u64 (l2' : Int), .int .i64 fp', .int .i64 tp'] 43 (0, 0))) (w.heap.size + 1) 43 #[.int .i64 p', .bool s1', .int .u64 (h1' : Int), .int .u64 (l1' : Int), .bool s2', .int .u64 (h2' : Int), .int .u64 (l2' : Int), .int .i64 fp', .int .i64 tp']) := Lib.hid (by
    have this := Blk.new (w.alloc (.cells #[.int .i64 p, .bool s1, .int .u64 (h1 : Int), .int .u64 (l1 : Int), .bool s2, .int .u64 (h2 : Int), .int .u64 (l2 : Int), .int .i64 fp, .int .i64 tp] 43 (0, 0))) 43 #[.int .i64 p', .bool s1', .int .u64 (h1' : Int), .int .u64 (l1' : Int), .bool s2', .int .u64 (h2' : Int), .int .u64 (l2' : Int), .int .i64 fp', .int .i64 tp']
    rw [World.size_alloc] at this
    exact this)
  have HB : Hid (BelD w ((w.alloc (.cells #[.int .i64 p, .bool s1, .int .u64 (h1 : Int), .int .u64 (l1 : Int), .bool s2, .int .u64 (h2 : Int), .int .u64 (l2 : Int), .int .i64 fp, .int .i64 tp] 43 (0, 0))).alloc (.cells #[.int .i64 p', .bool s1', .int .u64 (h1' : Int), .int .u64 (l1' : Int), .bool s2', .int .u64 (h2' : Int), .int .u64 (l2' : Int), .int .i64 fp', .int .i64 tp'] 43 (0, 0)))) := Lib.hid (((BelD.refl _).alloc _).alloc _)
  go_enter Tryz.func119, Tryz.ntmps119
  go_upto_region 1 with fail
  generalize ((w.alloc (.cells #[.int .i64 p, .bool s1, .int .u64 (h1 : Int), .int .u64 (l1 : Int), .bool s2, .int .u64 (h2 : Int), .int .u64 (l2 : Int), .int .i64 fp, .int .i64 tp] 43 (0, 0))).alloc (.cells #[.int .i64 p', .bool s1', .int .u64 (h1' : Int), .int .u64 (l1' : Int), .bool s2', .int .u64 (h2' : Int), .int .u64 (l2' : Int), .int .i64 fp', .int .i64 tp'] 43 (0, 0))) = w1 at *
  generalize w.heap.size = b at HP HQ ⊢
  have a0 := HP.out.cell 0
  have a1 := HP.out.cell 1
  have a2 := HP.out.cell 2
  have a3 := HP.out.cell 3
  have a4 := HP.out.cell 4
  have a5 := HP.out.cell 5
  have a6 := HP.out.cell 6
  have a7 := HP.out.cell 7
  have a8 := HP.out.cell 8
  simp at a0 a1 a2 a3 a4 a5 a6 a7 a8
  have b0 := HQ.out.cell 0
  have b1 := HQ.out.cell 1
  have b2 := HQ.out.cell 2
  have b3 := HQ.out.cell 3
  have b4 := HQ.out.cell 4
  have b5 := HQ.out.cell 5
  have b6 := HQ.out.cell 6
  have b7 := HQ.out.cell 7
  have b8 := HQ.out.cell 8
  simp at b0 b1 b2 b3 b4 b5 b6 b7 b8
  have k0 := LaterD.cell_of a0
  have m0 := LaterD.cell_of b0
  have k1 := LaterD.cell_of a1
  have m1 := LaterD.cell_of b1
  have k2 := LaterD.cell_of a2
  have m2 := LaterD.cell_of b2
  have k3 := LaterD.cell_of a3
  have m3 := LaterD.cell_of b3
  have k4 := LaterD.cell_of a4
  have m4 := LaterD.cell_of b4
  have k5 := LaterD.cell_of a5
  have m5 := LaterD.cell_of b5
  have k6 := LaterD.cell_of a6
  have m6 := LaterD.cell_of b6
  have k7 := LaterD.cell_of a7
  have m7 := LaterD.cell_of b7
  have k8 := LaterD.cell_of a8
  have m8 := LaterD.cell_of b8
  have hC2 := fun m : LaterD w1 => Calls.laterD m (HC2.out m.1)
  have hC3 := fun m : LaterD w1 => Calls.laterD m (HC3.out m.1)
  refine wp_region_laterD_tail 25 (by kernel_rfl) (by kernel_rfl) ?_
  simp only [List.take_succ_cons, List.take_zero, List.drop_succ_cons, List.drop_zero]
  repeat (go_big_quiet_step (fail))
  go_big_quiet_step ((go_at_call 117; exact (HC1.out _).mono fun _ _ h => ⟨h.1, _, h.2⟩))
  repeat (go_big_quiet_step (fail))
  go_big_quiet_step ((go_at_call 152; exact hC2 _))
  repeat (go_big_quiet_step (fail))
  go_big_quiet_step ((go_at_call 152; exact hC3 _))
  repeat (go_big_quiet_step (fail))
  go_big_quiet_step ((go_at_call 117; exact (HC4.out _).mono fun _ _ h => ⟨h.1, _, h.2⟩))
  repeat (go_big_quiet_step (fail))
  go_big_quiet_step ((go_at_call 117; exact (HC5.out _).mono fun _ _ h => ⟨h.1, _, h.2⟩))
  refine wpQuiet_nil ?_
  rintro w2 ⟨n2, hn2⟩
  subst hn2
  have HB2 := Lib.hid (HB.out.trans n2.2)
  obtain ⟨w2, hw2⟩ : ∃ w2, w2 = n2.1 := ⟨_, rfl⟩
  rw [← hw2] at HB2 ⊢
  clear hw2 hC2 hC3 HC1 HC2 HC3 HC4 HC5 a0 b0 k0 m0 a1 b1 k1 m1 a2 b2 k2 m2 a3 b3 k3 m3 a4 b4 k4 m4 a5 b5 k5 m5 a6 b6 k6 m6 a7 b7 k7 m7 a8 b8 k8 m8
  go_wp2_with fail
  refine (cmpOrL_any _ 5 5 [C1, C2, C3, C4, C5] _ (rdInts_new _ _ [C1, C2, C3, C4, C5] _ rfl) (by omega)).mono ?_
  rintro e w3 ⟨rfl, rfl⟩
  go_wp2_with fail
  go_ret
  exact ⟨rfl, HB2.out.alloc _⟩
set_option maxRecDepth 100000 in
set_option maxHeartbeats 4000000 in
theorem cmpRp_any (x y : RB) (w : World) : Calls Tryz.prog 83 #[.agg (layRb.enc x).toArray, .agg (layRb.enc y).toArray] w (RetD (.int .i64 (cR x y)) w) := by
  obtain ⟨⟨nd, hr, ou, f, pk, sz⟩, hx⟩ := x
  obtain ⟨⟨nd', hr', ou', g, pk', sz'⟩, hy⟩ := y
  unfold cR
  show Calls Tryz.prog 83 #[.agg (rpC ⟨nd, hr, ou, f, pk, sz⟩).toArray, .agg (rpC ⟨nd', hr', ou', g, pk', sz'⟩).toArray] w (RetD (.int .i64 (orI (Lib.compareInt hr hr') (orI (cS nd nd') (orI (cBo ou ou') (cF f g))))) w)
  have HC1 := Lib.hid fun wx => cmpInt_any hr hr' wx
  have HC2 := Lib.hid fun wx => Tryz.strings_Compare nd nd' wx
  have HC3 := Lib.hid fun wx => cmpBo_any ou ou' wx
  have HC4 := Lib.hid fun wx => cmpFl_any f g wx hx.1 hy.1
  have HS : Hid (cS nd nd' = Lib.compareBytes nd.data.toList nd'.data.toList) := Lib.hid rfl
  rw [← HS.out] at HC2
  clear HS
  generalize Lib.compareInt hr hr' = C1 at *
  generalize cS nd nd' = C2 at *
  generalize cBo ou ou' = C3 at *
  generalize cF f g = C4 at *
  have HF : Hid (firstE [C1, C2, C3, C4] = orI C1 (orI C2 (orI C3 C4))) := Lib.hid (by rw [firstE_orI, firstE_orI, firstE_orI, firstE_one])
  rw [← HF.out]
  obtain ⟨XA, hXA⟩ : ∃ X, (rpC ⟨nd, hr, ou, f, pk, sz⟩).toArray = X := ⟨_, rfl⟩
  obtain ⟨XB, hXB⟩ : ∃ X, (rpC ⟨nd', hr', ou', g, pk', sz'⟩).toArray = X := ⟨_, rfl⟩
  have s1 : XA.size = 14 := by rw [← hXA]; rfl
  have s2 : XB.size = 14 := by rw [← hXB]; rfl
  have o1 : XA.all (·.oneCell') = true := by rw [← hXA]; exact all_oneCell_toArray (layRb.one ⟨_, hx⟩)
  have o2 : XB.all (·.oneCell') = true := by rw [← hXB]; exact all_oneCell_toArray (layRb.one ⟨_, hy⟩)
  have HP : Hid (Blk ((w.alloc (.cells XA 45 (0, 0))).alloc (.cells XB 45 (0, 0))) w.heap.size 45 XA) := Lib.hid ((Blk.new w _ _).alloc _)
  have HQ : Hid (Blk ((w.alloc (.cells XA 45 (0, 0))).alloc (.cells XB 45 (0, 0))) (w.heap.size + 1) 45 XB) := Lib.hid (by
    have this := Blk.new (w.alloc (.cells XA 45 (0, 0))) 45 XB
    rw [World.size_alloc] at this
    exact this)
  have HB : Hid (BelD w ((w.alloc (.cells XA 45 (0, 0))).alloc (.cells XB 45 (0, 0)))) := Lib.hid (((BelD.refl _).alloc _).alloc _)
  rw [hXA, hXB]
  go_enter Tryz.func83, Tryz.ntmps83
  go_upto_region 1 with (first | (refine wpList_var XA 45 Tryz.zeroValue45 rfl rfl rfl _ _ rfl _ rfl ?_ ?_ 14 size_rb s1 ?_ o1 ?_; all_goals (try rfl); try go_simp) | (refine wpList_var XB 45 Tryz.zeroValue45 rfl rfl rfl _ _ rfl _ rfl ?_ ?_ 14 size_rb s2 ?_ o2 ?_; all_goals (try rfl); try go_simp))
  generalize (w.alloc (.cells XA 45 (0, 0))).alloc (.cells XB 45 (0, 0)) = w1 at *
  generalize w.heap.size = b at HP HQ ⊢
  subst hXA hXB
  have a0 : w1.cell? ⟨b, 0, none⟩ = some (.string nd) := HP.out.cell 0
  have a1 : w1.cell? ⟨b, 1, none⟩ = some (.int .i64 hr) := HP.out.cell 1
  have a2 : w1.cell? ⟨b, 2, none⟩ = some (.bool ou) := HP.out.cell 2
  have b0 : w1.cell? ⟨b + 1, 0, none⟩ = some (.string nd') := HQ.out.cell 0
  have b1 : w1.cell? ⟨b + 1, 1, none⟩ = some (.int .i64 hr') := HQ.out.cell 1
  have b2 : w1.cell? ⟨b + 1, 2, none⟩ = some (.bool ou') := HQ.out.cell 2
  have HR1 : Hid (∀ wx, (∃ n : LaterD w1, wx = n.1) → wx.rangeAt b 3 f.cells.toList) := Lib.hid fun wx ⟨n, hn⟩ => by
    subst hn
    exact rbFlow (x := ⟨nd, hr, ou, f, pk, sz⟩) (HP.out.below n.2.b HP.out.lt)
  have HR2 : Hid (∀ wx, (∃ n : LaterD w1, wx = n.1) → wx.rangeAt (b + 1) 3 g.cells.toList) := Lib.hid fun wx ⟨n, hn⟩ => by
    subst hn
    exact rbFlow (x := ⟨nd', hr', ou', g, pk', sz'⟩) (HQ.out.below n.2.b HQ.out.lt)
  have S1 : Hid (f.cells.size = 9) := Lib.hid rfl
  have S2 : Hid (g.cells.size = 9) := Lib.hid rfl
  generalize f.cells = F1 at *
  generalize g.cells = F2 at *
  clear HP HQ s1 s2 o1 o2 hx hy
  have k0 := LaterD.cell_of a0
  have k1 := LaterD.cell_of a1
  have k2 := LaterD.cell_of a2
  have m0 := LaterD.cell_of b0
  have m1 := LaterD.cell_of b1
  have m2 := LaterD.cell_of b2
  have hC4 := fun m : LaterD w1 => Calls.laterD m (HC4.out m.1)
  refine wp_region_laterD_tail 20 (by kernel_rfl) (by kernel_rfl) ?_
  simp only [List.take_succ_cons, List.take_zero, List.drop_succ_cons, List.drop_zero]
  repeat (go_big_quiet_step (fail))
  go_big_quiet_step ((go_at_call 117; exact (HC1.out _).mono fun _ _ h => ⟨h.1, _, h.2⟩))
  repeat (go_big_quiet_step (fail))
  go_big_quiet_step ((go_at_call 77; exact (HC2.out _).mono fun _ _ h => ⟨h.1, _, h.2⟩))
  repeat (go_big_quiet_step (fail))
  go_big_quiet_step ((go_at_call 118; exact (HC3.out _).mono fun _ _ h => ⟨h.1, _, h.2⟩))
  repeat (first | (refine wpQuiet_loadn rfl 43 _ rfl _ rfl b 3 rfl F1 HR1.out _ under_flow rfl 9 size_flow S1.out ?_; go_simp) | (refine wpQuiet_loadn rfl 43 _ rfl _ rfl (b + 1) 3 rfl F2 HR2.out _ under_flow rfl 9 size_flow S2.out ?_; go_simp) | go_big_quiet_step (fail))
  go_big_quiet_step ((go_at_call 119; exact hC4 _))
  refine wpQuiet_nil ?_
  rintro ⟨w2, hb2⟩
  dsimp only
  have HB2 := Lib.hid (HB.out.trans hb2)
  clear hb2 hC4 HC1 HC2 HC3 HC4 HR1 HR2 a0 a1 a2 b0 b1 b2 k0 k1 k2 m0 m1 m2
  go_wp2_with fail
  refine (cmpOrL_any _ 4 4 [C1, C2, C3, C4] _ (rdInts_new _ _ [C1, C2, C3, C4] _ rfl) (by omega)).mono ?_
  rintro e w3 ⟨rfl, rfl⟩
  go_wp2_with fail
  go_ret
  exact ⟨rfl, HB2.out.alloc _⟩
end Go.Proofs.YtippolfmljfleaaGreatDoor

namespace Go.Proofs.YtippolfmljfleaaGreatDoor
open Go.RowKit Go
set_option linter.unusedVariables false

theorem cN_zero {a b : Nat} (h : cN a b = 0) : a = b := by
  unfold cN at h
  split at h
  · cases h
  · split at h
    · cases h
    · omega
theorem cA_zero {s s' : Bool} {h l h' l' : Nat} (u1 : U64N h) (u2 : U64N l) (v1 : U64N h') (v2 : U64N l') (hz : cN (numA s h l) (numA s' h' l') = 0) : s = s' ∧ h = h' ∧ l = l' := by
  cases s <;> cases s'
  · rw [cN_num u2 v2] at hz
    unfold orI at hz
    split at hz
    · rename_i h0; exact ⟨rfl, cN_zero h0, cN_zero hz⟩
    · exact absurd hz (by assumption)
  · rw [cN_six u1 u2] at hz; cases hz
  · rw [cN_six' v1 v2] at hz; cases hz
  · rw [cN_num u2 v2] at hz
    unfold orI at hz
    split at hz
    · rename_i h0; exact ⟨rfl, cN_zero h0, cN_zero hz⟩
    · exact absurd hz (by assumption)
theorem sgn_sub {a b : Int} (h : a ≠ b) (ha : -1152921504606846976 ≤ a ∧ a ≤ 1152921504606846976) (hb : -1152921504606846976 ≤ b ∧ b ≤ 1152921504606846976) : sgn (wrap64 (a - b)) = Lib.compareInt a b ∧ Lib.compareInt a b ≠ 0 := by
  have e : wrap64 (a - b) = a - b := by unfold wrap64; omega
  rw [e]
  unfold sgn Lib.compareInt
  rcases Int.lt_trichotomy a b with h1 | h1 | h1
  · rw [if_pos (by omega), if_pos h1]; exact ⟨rfl, by decide⟩
  · exact absurd h1 h
  · rw [if_neg (by omega), if_pos (by omega), if_neg (by omega), if_pos (by omega)]; exact ⟨rfl, by decide⟩
theorem rdInts_allocR {w : World} {g o n : Nat} {zs : List Int} (h : RdInts w g o n zs) (ob : Obj) : RdInts (w.alloc ob) g o n zs :=
  ⟨h.1, by have := h.2.1; simp; omega, fun i hi => ((below_alloc (Below.refl _ _) ob).cell (p := ⟨g, o + i, none⟩) h.2.1).trans (h.2.2 i hi)⟩
theorem compareInt_self (a : Int) : Lib.compareInt a a = 0 := by unfold Lib.compareInt; rw [if_neg (Int.lt_irrefl a), if_neg (Int.lt_irrefl a)]
theorem orI_zero (x : Int) : orI 0 x = x := rfl
theorem orI_hit {x y : Int} (h : x ≠ 0) : orI x y = x := if_neg h
theorem addr_neqR (s1 s2 : Bool) (h1 h2 l1 l2 : Int) (w : World) : (binOp .neq 41 (.agg #[.bool s1, .int .u64 h1, .int .u64 l1]) (.agg #[.bool s2, .int .u64 h2, .int .u64 l2])).run Tryz.prog w = .ok (.bool (!(s1 == s2 && (h1 == h2 && l1 == l2)))) w := by
  rw [run_neq_struct, show (10000 : Nat) = 9998 + 2 from rfl, equalIn_addrR]
  rfl
theorem addr_guardR (x y : Operand) (s1 s2 : Bool) (h1 h2 l1 l2 : Int) (w : World) : (eqGuard .neq 41 x y (.agg #[.bool s1, .int .u64 h1, .int .u64 l1]) (.agg #[.bool s2, .int .u64 h2, .int .u64 l2])).run Tryz.prog w = .ok () w :=
  run_eqGuard_agg w _ _ _ _ _ _ (by kernel_rfl)
set_option maxRecDepth 100000 in
set_option maxHeartbeats 8000000 in
theorem flowOrder_any (f g : FV) (w : World) (hf : f.ok) (hg : g.ok) : Calls Tryz.prog 78 #[.agg f.cells, .agg g.cells] w (RetD (.int .i64 (cF f g)) w) := by
  obtain ⟨p, s1, h1, l1, s2, h2, l2, fp, tp⟩ := f
  obtain ⟨p', s1', h1', l1', s2', h2', l2', fp', tp'⟩ := g
  simp only [FV.ok] at hf hg
  obtain ⟨i1, u1, u2, u3, u4, i2, i3⟩ := hf
  obtain ⟨j1, v1, v2, v3, v4, j2, j3⟩ := hg
  obtain ⟨h1, rfl, a1⟩ := nat_of_U64 u1
  obtain ⟨l1, rfl, a2⟩ := nat_of_U64 u2
  obtain ⟨h2, rfl, a3⟩ := nat_of_U64 u3
  obtain ⟨l2, rfl, a4⟩ := nat_of_U64 u4
  obtain ⟨h1', rfl, b1⟩ := nat_of_U64 v1
  obtain ⟨l1', rfl, b2⟩ := nat_of_U64 v2
  obtain ⟨h2', rfl, b3⟩ := nat_of_U64 v3
  obtain ⟨l2', rfl, b4⟩ := nat_of_U64 v4
  clear u1 u2 u3 u4 v1 v2 v3 v4
  unfold cF cA
  simp only [Int.toNat_natCast, FV.cells]
  have HO1 := Lib.hid fun wx => orderD_any s1 h1 l1 s1' h1' l1' wx a1 a2 b1 b2
  have HO2 := Lib.hid fun wx => orderD_any s2 h2 l2 s2' h2' l2' wx a3 a4 b3 b4
  have HZ1 := Lib.hid (cA_zero (s := s1) (s' := s1') a1 a2 b1 b2)
  have HZ2 := Lib.hid (cA_zero (s := s2) (s' := s2') a3 a4 b3 b4)
  have HSl := Lib.hid fun wx g1 g2 => cmpSlI_any g1 g2 2 2 fp tp fp' tp' wx
  have HP0 : Hid (p ≠ p' → sgn (wrap64 (p - p')) = Lib.compareInt p p' ∧ Lib.compareInt p p' ≠ 0) := Lib.hid fun h => sgn_sub h (by unfold I41 at i1; omega) (by unfold I41 at j1; omega)
  have HE1 : Hid (s1 = s1' ∧ h1 = h1' ∧ l1 = l1' → cN (numA s1 h1 l1) (numA s1' h1' l1') = 0) := Lib.hid fun ⟨a, b, c⟩ => by subst a b c; exact cN_same _
  have HE2 : Hid (s2 = s2' ∧ h2 = h2' ∧ l2 = l2' → cN (numA s2 h2 l2) (numA s2' h2' l2') = 0) := Lib.hid fun ⟨a, b, c⟩ => by subst a b c; exact cN_same _
  clear a1 a2 a3 a4 b1 b2 b3 b4 i1 i2 i3 j1 j2 j3
  generalize cN (numA s1 h1 l1) (numA s1' h1' l1') = C2 at *
  generalize cN (numA s2 h2 l2) (numA s2' h2' l2') = C3 at *
  obtain ⟨C4, hC4⟩ : ∃ C, orI (Lib.compareInt fp fp') (Lib.compareInt tp tp') = C := ⟨_, rfl⟩
  rw [hC4] at HSl ⊢
  clear hC4
  obtain ⟨R, hR⟩ : ∃ R, orI (Lib.compareInt p p') (orI C2 (orI C3 C4)) = R := ⟨_, rfl⟩
  have HR := Lib.hid hR
  rw [hR]
  clear hR
  have HN1 := Lib.hid fun wx => addr_neqR s1 s1' (h1 : Int) (h1' : Int) (l1 : Int) (l1' : Int) wx
  have HN2 := Lib.hid fun wx => addr_neqR s2 s2' (h2 : Int) (h2' : Int) (l2 : Int) (l2' : Int) wx
  obtain ⟨N1, hN1⟩ : ∃ N, (!(s1 == s1' && ((h1 : Int) == (h1' : Int) && (l1 : Int) == (l1' : Int)))) = N := ⟨_, rfl⟩
  obtain ⟨N2, hN2⟩ : ∃ N, (!(s2 == s2' && ((h2 : Int) == (h2' : Int) && (l2 : Int) == (l2' : Int)))) = N := ⟨_, rfl⟩
  rw [hN1] at HN1
  rw [hN2] at HN2
  have HX1 : Hid (N1 = false → C2 = 0) := Lib.hid fun h => HE1.out (by rw [← hN1] at h; simp at h; obtain ⟨a, b, c⟩ := h; exact ⟨a, by omega, by omega⟩)
  have HX2 : Hid (N2 = false → C3 = 0) := Lib.hid fun h => HE2.out (by rw [← hN2] at h; simp at h; obtain ⟨a, b, c⟩ := h; exact ⟨a, by omega, by omega⟩)
  have HY1 : Hid (N1 = true → C2 ≠ 0) := Lib.hid fun h e => by
    obtain ⟨a, b, c⟩ := HZ1.out e
    subst a b c
    rw [← hN1] at h; simp at h
  have HY2 : Hid (N2 = true → C3 ≠ 0) := Lib.hid fun h e => by
    obtain ⟨a, b, c⟩ := HZ2.out e
    subst a b c
    rw [← hN2] at h; simp at h
  clear HE1 HE2 HZ1 HZ2 hN1 hN2
  have HP : Hid (Blk ((w.alloc (.cells #[.int .i64 p, .bool s1, .int .u64 (h1 : Int), .int .u64 (l1 : Int), .bool s2, .int .u64 (h2 : Int), .int .u64 (l2 : Int), .int .i64 fp, .int .i64 tp] 43 (0, 0))).alloc (.cells #[.int .i64 p', .bool s1', .int .u64 (h1' : Int), .int .u64 (l1' : Int), .bool s2', .int .u64 (h2' : Int), .int .u64 (l2' : Int), .int .i64 fp', .int .i64 tp'] 43 (0, 0))) w.heap.size 43 #[.int .i64 p, .bool s1, .int .u64 (h1 : Int), .int .u64 (l1 : Int), .bool s2, .int .u64 (h2 : Int), .int .u64 (l2 : Int), .int .i64 fp, .int .i64 tp]) := Lib.hid ((Blk.new w _ _).alloc _)
  have HQ : Hid (Blk ((w.alloc (.cells #[.int .i64 p, .bool s1, .int .u64 (h1 : Int), .int .u64 (l1 : Int), .bool s2, .int .u64 (h2 : Int), .int .u64 (l2 : Int), .int .i64 fp, .int .i64 tp] 43 (0, 0))).alloc (.cells #[.int .i64 p', .bool s1', .int .u64 (h1' : Int), .int .u64 (l1' : Int), .bool s2', .int .u64 (h2' : Int), .int .u64 (l2' : Int), .int .i64 fp', .int .i64 tp'] 43 (0, 0))) (w.heap.size + 1) 43 #[.int .i64 p', .bool s1', .int .u64 (h1' : Int), .int .u64 (l1' : Int), .bool s2', .int .u64 (h2' : Int), .int .u64 (l2' : Int), .int .i64 fp', .int .i64 tp']) := Lib.hid (by
    have this := Blk.new (w.alloc (.cells #[.int .i64 p, .bool s1, .int .u64 (h1 : Int), .int .u64 (l1 : Int), .bool s2, .int .u64 (h2 : Int), .int .u64 (l2 : Int), .int .i64 fp, .int .i64 tp] 43 (0, 0))) 43 #[.int .i64 p', .bool s1', .int .u64 (h1' : Int), .int .u64 (l1' : Int), .bool s2', .int .u64 (h2' : Int), .int .u64 (l2' : Int), .int .i64 fp', .int .i64 tp']
    rw [World.size_alloc] at this
    exact this)
  have HB : Hid (BelD w ((w.alloc (.cells #[.int .i64 p, .bool s1, .int .u64 (h1 : Int), .int .u64 (l1 : Int), .bool s2, .int .u64 (h2 : Int), .int .u64 (l2 : Int), .int .i64 fp, .int .i64 tp] 43 (0, 0))).alloc (.cells #[.int .i64 p', .bool s1', .int .u64 (h1' : Int), .int .u64 (l1' : Int), .bool s2', .int .u64 (h2' : Int), .int .u64 (l2' : Int), .int .i64 fp', .int .i64 tp'] 43 (0, 0)))) := Lib.hid (((BelD.refl _).alloc _).alloc _)
  go_enter Tryz.func78, Tryz.ntmps78
  go_upto_region 1 with fail
  generalize ((w.alloc (.cells #[.int .i64 p, .bool s1, .int .u64 (h1 : Int), .int .u64 (l1 : Int), .bool s2, .int .u64 (h2 : Int), .int .u64 (l2 : Int), .int .i64 fp, .int .i64 tp] 43 (0, 0))).alloc (.cells #[.int .i64 p', .bool s1', .int .u64 (h1' : Int), .int .u64 (l1' : Int), .bool s2', .int .u64 (h2' : Int), .int .u64 (l2' : Int), .int .i64 fp', .int .i64 tp'] 43 (0, 0))) = w1 at *
  generalize w.heap.size = b at HP HQ ⊢
  have a0 := HP.out.cell 0
  have a1 := HP.out.cell 1
  have a2 := HP.out.cell 2
  have a3 := HP.out.cell 3
  have a4 := HP.out.cell 4
  have a5 := HP.out.cell 5
  have a6 := HP.out.cell 6
  have a7 := HP.out.cell 7
  have a8 := HP.out.cell 8
  simp at a0 a1 a2 a3 a4 a5 a6 a7 a8
  have b0 := HQ.out.cell 0
  have b1 := HQ.out.cell 1
  have b2 := HQ.out.cell 2
  have b3 := HQ.out.cell 3
  have b4 := HQ.out.cell 4
  have b5 := HQ.out.cell 5
  have b6 := HQ.out.cell 6
  have b7 := HQ.out.cell 7
  have b8 := HQ.out.cell 8
  simp at b0 b1 b2 b3 b4 b5 b6 b7 b8
  have gN1 := fun (x y : Operand) wx => addr_guardR x y s1 s1' (h1 : Int) (h1' : Int) (l1 : Int) (l1' : Int) wx
  have gN2 := fun (x y : Operand) wx => addr_guardR x y s2 s2' (h2 : Int) (h2' : Int) (l2 : Int) (l2' : Int) wx
  have n1 := HN1.out
  have n2 := HN2.out
  have b7' := (HQ.out.alloc (.cells #[.int .i64 fp, .int .i64 tp] 3 (0, 0))).cell 7
  have b8' := (HQ.out.alloc (.cells #[.int .i64 fp, .int .i64 tp] 3 (0, 0))).cell 8
  simp at b7' b8'
  by_cases hp : p = p'
  · subst hp
    cases N1
    · cases N2
      · have hR := HR.out
        rw [compareInt_self, orI_zero, HX1.out rfl, orI_zero, HX2.out rfl, orI_zero] at hR
        subst hR
        go_wp2_with fail
        refine (HSl.out _ _ _ (rdInts_allocR (rdInts_new w1 3 [fp, tp] _ rfl) _) (by
          have := rdInts_new (w1.alloc (.cells #[.int .i64 fp, .int .i64 tp] 3 (0, 0))) 3 [fp', tp'] _ rfl
          rw [World.size_alloc] at this
          exact this)).mono ?_
        rintro e w3 ⟨rfl, rfl⟩
        go_wp2_with fail
        go_ret
        exact ⟨rfl, (HB.out.alloc _).alloc _⟩
      · have hR := HR.out
        rw [compareInt_self, orI_zero, HX1.out rfl, orI_zero, orI_hit (HY2.out rfl)] at hR
        subst hR
        go_wp2_with fail
        refine (HO2.out _).mono ?_
        rintro e w3 ⟨rfl, hb⟩
        have HB3 := Lib.hid (HB.out.trans hb)
        clear hb
        go_wp2_with fail
        go_ret
        exact ⟨rfl, HB3.out⟩
    · have hR := HR.out
      rw [compareInt_self, orI_zero, orI_hit (HY1.out rfl)] at hR
      subst hR
      go_wp2_with fail
      refine (HO1.out _).mono ?_
      rintro e w3 ⟨rfl, hb⟩
      have HB3 := Lib.hid (HB.out.trans hb)
      clear hb
      go_wp2_with fail
      go_ret
      exact ⟨rfl, HB3.out⟩
  · obtain ⟨e1, e2⟩ := HP0.out hp
    have hR := HR.out
    rw [orI_hit e2, ← e1] at hR
    subst hR
    have hne : (p != p') = true := by simpa using hp
    clear e1 e2
    go_wp2_with fail
    refine (signD_any _ _).mono ?_
    rintro e w3 ⟨rfl, hb⟩
    have HB3 := Lib.hid (HB.out.trans hb)
    clear hb
    go_wp2_with fail
    go_ret
    exact ⟨rfl, HB3.out⟩
theorem cS_zero : ∀ {a b : List UInt8}, Lib.compareBytes a b = 0 → a = b
  | [], [], _ => rfl
  | [], _ :: _, h => by cases h
  | _ :: _, [], h => by cases h
  | a :: xs, b :: ys, h => by
    unfold Lib.compareBytes at h
    split at h
    · cases h
    · split at h
      · cases h
      · have h1 : a = b := UInt8.le_antisymm (UInt8.not_lt.1 (by assumption)) (UInt8.not_lt.1 (by assumption))
        rw [h1, cS_zero h]
theorem cS_self : ∀ (a : List UInt8), Lib.compareBytes a a = 0
  | [] => rfl
  | a :: xs => by
    unfold Lib.compareBytes
    rw [if_neg (UInt8.lt_irrefl a), if_neg (UInt8.lt_irrefl a)]
    exact cS_self xs
set_option maxRecDepth 100000 in
set_option maxHeartbeats 8000000 in
theorem reportOrder_any (x y : RB) (w : World) : Calls Tryz.prog 36 #[.agg (layRb.enc x).toArray, .agg (layRb.enc y).toArray] w (RetD (.int .i64 (cR x y)) w) := by
  obtain ⟨⟨nd, hr, ou, f, pk, sz⟩, hx⟩ := x
  obtain ⟨⟨nd', hr', ou', g, pk', sz'⟩, hy⟩ := y
  unfold cR
  show Calls Tryz.prog 36 #[.agg (rpC ⟨nd, hr, ou, f, pk, sz⟩).toArray, .agg (rpC ⟨nd', hr', ou', g, pk', sz'⟩).toArray] w (RetD (.int .i64 (orI (Lib.compareInt hr hr') (orI (cS nd nd') (orI (cBo ou ou') (cF f g))))) w)
  have HP0 : Hid (hr ≠ hr' → sgn (wrap64 (hr - hr')) = Lib.compareInt hr hr' ∧ Lib.compareInt hr hr' ≠ 0) := Lib.hid fun h => sgn_sub h (by have := hx.2; simp only at this; omega) (by have := hy.2; simp only at this; omega)
  have HC2 := Lib.hid fun wx => Tryz.strings_Compare nd nd' wx
  have HC4 := Lib.hid fun wx => flowOrder_any f g wx hx.1 hy.1
  have HS : Hid (cS nd nd' = Lib.compareBytes nd.data.toList nd'.data.toList) := Lib.hid rfl
  rw [← HS.out] at HC2
  have HS0 : Hid (nd ≠ nd' → cS nd nd' ≠ 0) := Lib.hid fun h e => h (by
    have := cS_zero e
    rcases nd with ⟨⟨a⟩⟩
    rcases nd' with ⟨⟨b⟩⟩
    simp at this
    rw [this])
  have HS1 : Hid (nd = nd' → cS nd nd' = 0) := Lib.hid fun h => by subst h; exact cS_self _
  clear HS
  generalize cS nd nd' = C2 at *
  generalize cF f g = C4 at *
  obtain ⟨R, hR⟩ : ∃ R, orI (Lib.compareInt hr hr') (orI C2 (orI (cBo ou ou') C4)) = R := ⟨_, rfl⟩
  have HR := Lib.hid hR
  rw [hR]
  clear hR
  obtain ⟨XA, hXA⟩ : ∃ X, (rpC ⟨nd, hr, ou, f, pk, sz⟩).toArray = X := ⟨_, rfl⟩
  obtain ⟨XB, hXB⟩ : ∃ X, (rpC ⟨nd', hr', ou', g, pk', sz'⟩).toArray = X := ⟨_, rfl⟩
  have s1 : XA.size = 14 := by rw [← hXA]; rfl
  have s2 : XB.size = 14 := by rw [← hXB]; rfl
  have o1 : XA.all (·.oneCell') = true := by rw [← hXA]; exact all_oneCell_toArray (layRb.one ⟨_, hx⟩)
  have o2 : XB.all (·.oneCell') = true := by rw [← hXB]; exact all_oneCell_toArray (layRb.one ⟨_, hy⟩)
  have HP : Hid (Blk ((w.alloc (.cells XA 45 (0, 0))).alloc (.cells XB 45 (0, 0))) w.heap.size 45 XA) := Lib.hid ((Blk.new w _ _).alloc _)
  have HQ : Hid (Blk ((w.alloc (.cells XA 45 (0, 0))).alloc (.cells XB 45 (0, 0))) (w.heap.size + 1) 45 XB) := Lib.hid (by
    have this := Blk.new (w.alloc (.cells XA 45 (0, 0))) 45 XB
    rw [World.size_alloc] at this
    exact this)
  have HB : Hid (BelD w ((w.alloc (.cells XA 45 (0, 0))).alloc (.cells XB 45 (0, 0)))) := Lib.hid (((BelD.refl _).alloc _).alloc _)
  rw [hXA, hXB]
  go_enter Tryz.func36, Tryz.ntmps36
  go_upto_region 1 with (first | (refine wpList_var XA 45 Tryz.zeroValue45 rfl rfl rfl _ _ rfl _ rfl ?_ ?_ 14 size_rb s1 ?_ o1 ?_; all_goals (try rfl); try go_simp) | (refine wpList_var XB 45 Tryz.zeroValue45 rfl rfl rfl _ _ rfl _ rfl ?_ ?_ 14 size_rb s2 ?_ o2 ?_; all_goals (try rfl); try go_simp))
  generalize (w.alloc (.cells XA 45 (0, 0))).alloc (.cells XB 45 (0, 0)) = w1 at *
  generalize w.heap.size = b at HP HQ ⊢
  subst hXA hXB
  have a0 : w1.cell? ⟨b, 0, none⟩ = some (.string nd) := HP.out.cell 0
  have a1 : w1.cell? ⟨b, 1, none⟩ = some (.int .i64 hr) := HP.out.cell 1
  have a2 : w1.cell? ⟨b, 2, none⟩ = some (.bool ou) := HP.out.cell 2
  have b0 : w1.cell? ⟨b + 1, 0, none⟩ = some (.string nd') := HQ.out.cell 0
  have b1 : w1.cell? ⟨b + 1, 1, none⟩ = some (.int .i64 hr') := HQ.out.cell 1
  have b2 : w1.cell? ⟨b + 1, 2, none⟩ = some (.bool ou') := HQ.out.cell 2
  have HR1 : Hid (w1.rangeAt b 3 f.cells.toList) := Lib.hid (rbFlow (x := ⟨nd, hr, ou, f, pk, sz⟩) HP.out)
  have HR2 : Hid (w1.rangeAt (b + 1) 3 g.cells.toList) := Lib.hid (rbFlow (x := ⟨nd', hr', ou', g, pk', sz'⟩) HQ.out)
  have S1 : Hid (f.cells.toList.length = 9) := Lib.hid rfl
  have S2 : Hid (g.cells.toList.length = 9) := Lib.hid rfl
  generalize f.cells = F1 at *
  generalize g.cells = F2 at *
  clear HP HQ s1 s2 o1 o2 hx hy
  by_cases h1 : hr = hr'
  · subst h1
    by_cases h2 : nd = nd'
    · have hR := HR.out
      rw [compareInt_self, orI_zero, HS1.out h2, orI_zero] at hR
      subst h2
      by_cases h3 : ou = ou'
      · subst h3
        rw [show cBo ou ou = 0 from if_pos rfl, orI_zero] at hR
        subst hR
        go_wp2_with (first | (refine wpList_loadn rfl 43 _ rfl b 3 rfl F1.toList _ HR1.out under_flow rfl 9 size_flow S1.out ?_; go_simp) | (refine wpList_loadn rfl 43 _ rfl (b + 1) 3 rfl F2.toList _ HR2.out under_flow rfl 9 size_flow S2.out ?_; go_simp))
        refine (HC4.out _).mono ?_
        rintro e w3 ⟨rfl, hb⟩
        have HB3 := Lib.hid (HB.out.trans hb)
        clear hb
        go_wp2_with fail
        go_ret
        exact ⟨rfl, HB3.out⟩
      · cases ou <;> cases ou'
        · exact absurd rfl h3
        · rw [show cBo false true = -1 from rfl, orI_hit (by decide)] at hR
          subst hR
          go_wp2_with fail
          go_ret
          exact ⟨rfl, HB.out⟩
        · rw [show cBo true false = 1 from rfl, orI_hit (by decide)] at hR
          subst hR
          go_wp2_with fail
          go_ret
          exact ⟨rfl, HB.out⟩
        · exact absurd rfl h3
    · have hR := HR.out
      rw [compareInt_self, orI_zero, orI_hit (HS0.out h2)] at hR
      subst hR
      have hne : (nd.toList == nd'.toList) = false := by
        rw [ByteArray.toList_eq, ByteArray.toList_eq]
        refine beq_eq_false_iff_ne.2 fun e => h2 ?_
        rcases nd with ⟨⟨a⟩⟩
        rcases nd' with ⟨⟨b⟩⟩
        simp at e
        rw [e]
      go_wp2_with fail
      refine (HC2.out _).mono ?_
      rintro e w3 ⟨rfl, rfl⟩
      go_wp2_with fail
      go_ret
      exact ⟨rfl, HB.out⟩
  · obtain ⟨e1, e2⟩ := HP0.out h1
    have hR := HR.out
    rw [orI_hit e2, ← e1] at hR
    subst hR
    have hne : (hr != hr') = true := by simpa using h1
    clear e1 e2
    go_wp2_with fail
    refine (signD_any _ _).mono ?_
    rintro e w3 ⟨rfl, hb⟩
    have HB3 := Lib.hid (HB.out.trans hb)
    clear hb
    go_wp2_with fail
    go_ret
    exact ⟨rfl, HB3.out⟩
end Go.Proofs.YtippolfmljfleaaGreatDoor

namespace Go.Proofs
open Go.Shelf
def Tryz.insRb_ren : Go.Shelf.Ren := ⟨fun | 20 => 109 | n => n, fun | 24 => 45 | 22 => 26 | 3 => 3 | 25 => 66 | 4 => 4 | 0 => 0 | n => n, fun | n => n⟩
theorem Tryz.insRb : Go.Proofs.SlLaysF0.n20 Tryz.prog Tryz.insRb_ren := {
  mixed := by kernel_rfl
  f20 := ⟨Tryz.f109.name, by decide, Tryz.func109.trans (congrArg some (by kernel_rfl))⟩
  t0 := Tryz.underlying0
  a0 := Tryz.isAgg0
  z0 := Tryz.sizeOf0
  v0 := Tryz.zeroValue0
  t3 := Tryz.underlying3
  a3 := Tryz.isAgg3
  z3 := Tryz.sizeOf3
  v3 := Tryz.zeroValue3
  t4 := Tryz.underlying4
  a4 := Tryz.isAgg4
  z4 := Tryz.sizeOf4
  v4 := Tryz.zeroValue4
  t22 := Tryz.underlying26
  a22 := Tryz.isAgg26
  z22 := Tryz.sizeOf26
  v22 := Tryz.zeroValue26
  t25 := Tryz.underlying66
  a25 := Tryz.isAgg66
  z25 := Tryz.sizeOf66
  v25 := Tryz.zeroValue66 }
open Go.Sort Go.RowKit in
theorem Tryz.slices_ins_Rb {α : Type} [Inhabited α] (enc : α → List Value) (hk : ∀ x, (enc x).length = 14) (h1 : ∀ x, ∀ v ∈ enc x, v.oneCell' = true) (cf : α → α → Int) (g : Nat) (cb : Array Value) (blk off cap a b : Nat) (d : Array α) (w : World)
    (eg : ∀ args w, (callFunc g args).run Tryz.prog w = .ok (.enter g args) w) (hcmp : CmpLays Tryz.prog g cb enc 14 cf blk off d.size w) (hH : HoldsK enc 14 w blk off d) (hblk : blk < w.heap.size) (hab : a ≤ b) (hb : b ≤ d.size) (hsz : d.size < 4611686018427387904) :
    Calls Tryz.prog 109 #[.slice (some ⟨blk, off, none⟩) d.size cap, .int .i64 a, .int .i64 b, .func (.func g) #[] cb] w fun e w' =>
      e = .returned (.tuple #[]) ∧ ∃ n os, w' = sortWorldK enc 14 w blk off n (Go.Sort.insertionSort (ltOf cf) d a b) os :=
  AnyQ.insertionSortCmpFunc Tryz.insRb 14 Tryz.isAgg45 Tryz.sizeOf45 enc hk h1 cf g cb blk off cap a b d w eg hcmp hH hblk hab hb hsz
open Go.Sort Go.RowKit in
theorem Tryz.slices_ins_Rb_none (p : Option Addr) (cap : Nat) (fv : Value) (w : World) :
    Calls Tryz.prog 109 #[.slice p 0 cap, .int .i64 0, .int .i64 0, fv] w fun e w' => e = .returned (.tuple #[]) ∧ w' = w :=
  AnyF.insertionSortCmpFunc_none Tryz.insRb p cap fv w
end Go.Proofs

namespace Go.Proofs.YtippolfmljfleaaGreatDoor
open Go.RowKit Go Go.Sort
set_option linter.unusedVariables false

theorem size_insInnerR {α : Type} [Inhabited α] (lt : α → α → Bool) (a : Nat) : ∀ (j : Nat) (d : Array α), (Go.Sort.insInner lt a j d).size = d.size
  | 0, d => rfl
  | j + 1, d => by
    unfold Go.Sort.insInner
    split
    · rw [size_insInnerR lt a j, Go.Sort.size_swp]
    · rfl
theorem size_insOuterR {α : Type} [Inhabited α] (lt : α → α → Bool) (a b : Nat) : ∀ (n i : Nat) (d : Array α), b - i = n → (Go.Sort.insOuter lt a b i d).size = d.size
  | 0, i, d, h => by rw [Go.Sort.insOuter, if_neg (by omega)]
  | n + 1, i, d, h => by rw [Go.Sort.insOuter, if_pos (by omega), size_insOuterR lt a b n (i + 1) _ (by omega), size_insInnerR]
theorem size_insR {α : Type} [Inhabited α] (lt : α → α → Bool) (d : Array α) (a b : Nat) : (Go.Sort.insertionSort lt d a b).size = d.size := size_insOuterR lt a b _ _ d rfl
theorem insR_none {α : Type} [Inhabited α] (lt : α → α → Bool) (d : Array α) (a : Nat) : Go.Sort.insertionSort lt d a a = d := by
  unfold Go.Sort.insertionSort
  rw [Go.Sort.insOuter, if_neg (by omega)]
/-- the sorted row -/
def stabR (L : List RB) : List RB := (Go.Sort.insertionSort (Go.Proofs.ltOf cR) L.toArray 0 L.length).toList
theorem stabR_len (L : List RB) : (stabR L).length = L.length := by
  unfold stabR
  rw [Array.length_toList, size_insR]
  rfl
section
variable {α : Type} [Inhabited α] {E : Lay α}
theorem cmpLaysR {P : Program} {g blk off size : Nat} {w : World} {cf : α → α → Int} (h : ∀ x y W, Calls P g #[.agg (E.enc x).toArray, .agg (E.enc y).toArray] W (RetD (.int .i64 (cf x y)) W)) : Go.Proofs.CmpLays P g #[] E.enc E.K cf blk off size w :=
  fun m os dk _ x y => by
    rw [Array.append_empty]
    exact (h x y _).mono fun _ _ ⟨he, hb⟩ => ⟨he, hb.grow⟩
/-- the world that a sort leaves -/
theorem OwnK.sortWorldR {w w' : World} {B g n c : Nat} {M : List α} (h : OwnK E w B (.slice (some ⟨g, 0, none⟩) n c) M) {d' : Array α} {q : Nat} {os : Array Obj}
    (hds' : d'.size = M.length) (hw : w' = sortWorldK E.enc E.K w g 0 q d' os) :
    OwnK E w' B (.slice (some ⟨g, 0, none⟩) n c) d'.toList ∧ w.grownBy w' (some g) := by
  subst hw
  obtain ⟨hn, hb, hc, hm, cur, hg, hs, ht⟩ := h.block
  have hlt := lt_of_block hg
  have hF' := flat_all E d'
  have hfs' : (flatK E.enc E.K d').size = M.length * E.K := by rw [size_flatK, hds']
  show OwnK E (grow (putRow id (Sort.ahead w q) g 0 (flatK E.enc E.K d')) os) B _ _ ∧ w.grownBy (grow (putRow id (Sort.ahead w q) g 0 (flatK E.enc E.K d')) os) (some g)
  generalize flatK E.enc E.K d' = F at hF' hfs' ⊢
  have hlen : d'.toList.length = M.length := by simp [hds']
  generalize d'.toList = L at hF' hlen ⊢
  have hheap : ∀ i, i < w.heap.size → (grow (putRow id (Sort.ahead w q) g 0 F) os).heap[i]? = if g = i then some (.cells (putCells id 0 F cur) E.ty (0, 0)) else w.heap[i]? := by
    intro i hi
    simp only [grow, putRow, mapBlock, Sort.ahead]
    rw [Array.getElem?_append_left (by simpa using hi), Array.getElem?_modify]
    by_cases e : g = i
    · subst e
      rw [if_pos rfl, if_pos rfl, hg]
      rfl
    · rw [if_neg e, if_neg e]
  have hFc : F.size ≤ cur.size := by
    rw [hfs', hs]
    exact Nat.mul_le_mul_right _ (by omega)
  obtain ⟨p1, p2⟩ := putK_take F cur hFc
  refine ⟨⟨by rw [E.all_len], .inr ⟨g, c, _, by rw [hlen, hn], hb, by rw [hheap g hlt, if_pos rfl], by omega, hm, by omega, by rw [hlen, ← hfs', p2]; exact hF'⟩⟩, ?_⟩
  refine ⟨rfl, rfl, rfl, by simp [grow, putRow, mapBlock, Sort.ahead], fun i hi hne => ?_⟩
  rw [hheap i hi, if_neg (fun e => hne (by rw [e]))]
end
/-- the insertion sort of a part of a short row -/
theorem insRb_any (gc : Nat) (eg : ∀ args w, (callFunc gc args).run Tryz.prog w = .ok (.enter gc args) w)
    (hc : ∀ x y W, Calls Tryz.prog gc #[.agg (layRb.enc x).toArray, .agg (layRb.enc y).toArray] W (RetD (.int .i64 (cR x y)) W)) (B n c a b : Nat) (ad : Option Addr) (M : List RB) (w : World) (h : OwnK layRb w B (.slice ad n c) M) (hs : n ≤ 20) (hn : 0 < n) (hab : a ≤ b) (hb : b ≤ n) :
    Calls Tryz.prog 109 #[.slice ad n c, .int .i64 (a : Int), .int .i64 (b : Int), .func (.func gc) #[] #[]] w fun e w' => e = .returned (.tuple #[]) ∧ OwnK layRb w' B (.slice ad n c) (Go.Sort.insertionSort (Go.Proofs.ltOf cR) M.toArray a b).toList ∧ Grew w w' (.slice ad n c) (.slice ad n c) := by
  have hl : M.length = n := by
    obtain ⟨_, _, hv, _⟩ := h.form
    injection hv with _ e _
    exact e.symm
  obtain ⟨g, c', hv2, -⟩ := h.one (by omega)
  injection hv2 with hv2 q1 q2
  subst hv2
  clear q1 q2
  obtain ⟨hH, hlt⟩ := h.holds
  have hp := Tryz.slices_ins_Rb layRb.enc layRb.len layRb.one cR gc #[] g 0 c a b M.toArray w eg (cmpLaysR hc) hH hlt hab (by show b ≤ M.length; omega) (by show M.length < _; omega)
  have hsz : M.toArray.size = n := hl
  rw [hsz] at hp
  refine hp.mono ?_
  rintro e w' ⟨rfl, q, os, hw⟩
  obtain ⟨k1, k2⟩ := h.sortWorldR (d' := Go.Sort.insertionSort (Go.Proofs.ltOf cR) M.toArray a b) (by rw [size_insR]; rfl) hw
  exact ⟨rfl, k1, ⟨k2, .inl rfl⟩⟩
set_option maxRecDepth 100000 in
set_option maxHeartbeats 4000000 in
theorem sortStableRb_any (gc : Nat) (eg : ∀ args w, (callFunc gc args).run Tryz.prog w = .ok (.enter gc args) w)
    (hc : ∀ x y W, Calls Tryz.prog gc #[.agg (layRb.enc x).toArray, .agg (layRb.enc y).toArray] W (RetD (.int .i64 (cR x y)) W)) (B n c : Nat) (ad : Option Addr) (M : List RB) (w : World) (h : OwnK layRb w B (.slice ad n c) M) (hs : n ≤ 20) :
    Calls Tryz.prog 35 #[.slice ad n c, .func (.func gc) #[] #[]] w fun e w' => e = .returned (.tuple #[]) ∧ OwnK layRb w' B (.slice ad n c) (stabR M) ∧ Grew w w' (.slice ad n c) (.slice ad n c) := by
  have hl : M.length = n := by
    obtain ⟨_, _, hv, _⟩ := h.form
    injection hv with _ e _
    exact e.symm
  have hst : Calls Tryz.prog 75 #[.slice ad n c, .int .i64 (n : Int), .func (.func gc) #[] #[]] w fun e w' => e = .returned (.tuple #[]) ∧ OwnK layRb w' B (.slice ad n c) (stabR M) ∧ Grew w w' (.slice ad n c) (.slice ad n c) := by
    have b2 : ¬ (20 : Int) < (n : Int) := by omega
    have HO := Lib.hid h
    rcases Nat.eq_zero_or_pos n with h0 | h0
    · subst h0
      have hM : M = [] := List.eq_nil_of_length_eq_zero hl
      subst hM
      have HI := Lib.hid (Tryz.slices_ins_Rb_none ad c (.func (.func gc) #[] #[]) w)
      have e0 : stabR [] = [] := List.eq_nil_of_length_eq_zero (by rw [stabR_len]; rfl)
      rw [e0]
      clear eg hc h hl e0
      go_enter Tryz.func75, Tryz.ntmps75
      go_wp2_with fail
      refine wp_loop_rounds 1 ?_
      rw [rounds_succ]
      go_wp2_with fail
      refine HI.out.mono ?_
      rintro e w2 ⟨rfl, rfl⟩
      go_wp2_with fail
      refine wp_loop_rounds 1 ?_
      rw [rounds_succ]
      go_wp2_with fail
      go_end0
      exact ⟨rfl, HO.out, Grew.refl _ _⟩
    · by_cases h20 : n = 20
      · subst h20
        have HI := Lib.hid (insRb_any gc eg hc B 20 c 0 20 ad M w h hs h0 (by omega) (by omega))
        have HJ := Lib.hid fun wx hx => insRb_any gc eg hc B 20 c 20 20 ad (stabR M) wx hx hs h0 (by omega) (by omega)
        have HS : Hid ((Go.Sort.insertionSort (Go.Proofs.ltOf cR) M.toArray 0 20).toList = stabR M) := Lib.hid (by unfold stabR; rw [hl])
        have HT : Hid ((Go.Sort.insertionSort (Go.Proofs.ltOf cR) (stabR M).toArray 20 20).toList = stabR M) := Lib.hid (by rw [insR_none])
        rw [HS.out] at HI
        simp only [HT.out] at HJ
        clear eg hc h hl HS HT
        generalize stabR M = SM at *
        go_enter Tryz.func75, Tryz.ntmps75
        go_wp2_with fail
        refine wp_loop_rounds 2 ?_
        rw [rounds_succ]
        go_wp2_with fail
        refine HI.out.mono ?_
        rintro e w2 ⟨rfl, h1, h2⟩
        have H1 := Lib.hid h1
        have H2 := Lib.hid h2
        clear h1 h2
        go_wp2_with fail
        rw [rounds_succ]
        go_wp2_with fail
        refine (HJ.out _ H1.out).mono ?_
        rintro e w3 ⟨rfl, h1, h2⟩
        have H3 := Lib.hid h1
        have H4 := Lib.hid (H2.out.trans h2)
        clear h1 h2
        go_wp2_with fail
        refine wp_loop_rounds 1 ?_
        rw [rounds_succ]
        go_wp2_with fail
        go_end0
        exact ⟨rfl, H3.out, H4.out⟩
      · have b1 : ¬ (20 : Int) ≤ (n : Int) := by omega
        have HI := Lib.hid (insRb_any gc eg hc B n c 0 n ad M w h hs h0 (by omega) (by omega))
        have HS : Hid ((Go.Sort.insertionSort (Go.Proofs.ltOf cR) M.toArray 0 n).toList = stabR M) := Lib.hid (by unfold stabR; rw [hl])
        rw [HS.out] at HI
        clear eg hc h hl HS
        generalize stabR M = SM at *
        go_enter Tryz.func75, Tryz.ntmps75
        go_wp2_with fail
        refine wp_loop_rounds 1 ?_
        rw [rounds_succ]
        go_wp2_with fail
        refine HI.out.mono ?_
        rintro e w2 ⟨rfl, h1, h2⟩
        have H1 := Lib.hid h1
        have H2 := Lib.hid h2
        clear h1 h2
        go_wp2_with fail
        refine wp_loop_rounds 1 ?_
        rw [rounds_succ]
        go_wp2_with fail
        go_end0
        exact ⟨rfl, H1.out, H2.out⟩
  have HS := Lib.hid hst
  clear hst eg hc h hl
  go_enter Tryz.func35, Tryz.ntmps35
  go_wp2_with fail
  refine HS.out.mono ?_
  rintro e w2 ⟨rfl, h1, h2⟩
  have H1 := Lib.hid h1
  have H2 := Lib.hid h2
  clear h1 h2
  go_wp2_with fail
  go_end0
  exact ⟨rfl, H1.out, H2.out⟩
end Go.Proofs.YtippolfmljfleaaGreatDoor

namespace Go.Proofs.YtippolfmljfleaaGreatDoor
open Go.RowKit Go
set_option linter.unusedVariables false

/-- a row of strings that can be read -/
def RdStr (w : World) (g : Nat) (ss : List ByteArray) : Prop := g < w.heap.size ∧ ∀ (i : Nat) s, ss[i]? = some s → w.cell? ⟨g, i, none⟩ = some (.string s)
theorem RdStr.grown {w w' : World} {g b : Nat} {ss : List ByteArray} (h : RdStr w g ss) (hg : w.grownBy w' (some b)) (hne : g ≠ b) : RdStr w' g ss :=
  ⟨Nat.lt_of_lt_of_le h.1 hg.size, fun i s hi => (World.cell?_of_block (hg.block g h.1 (by simpa using hne))).trans (h.2 i s hi)⟩
theorem rdStr_new (w : World) (t : TypeId) (ss : List ByteArray) (vs : Array Value) (hv : vs = (ss.map Value.string).toArray) : RdStr (w.alloc (.cells vs t)) w.heap.size ss := by
  subst hv
  refine ⟨by simp, fun i s hi => ?_⟩
  rw [cell_of_row _ w.heap.size i _ _ _ (heap_alloc_new w _)]
  simp [hi]
set_option maxHeartbeats 1000000 in
theorem some_gen (b m g n : Nat) (ss : List ByteArray) (w : World) (h : Strm w b m) (hm : m < 1099511627776) (hn : ss.length = n) (hn1 : 1 ≤ n ∧ n ≤ 1000) (hs : RdStr w g ss) (hgb : g ≠ b) :
    Calls Tryz.prog 34 #[.pointer (some ⟨b, 0, none⟩), .slice (some ⟨g, 0, none⟩) n n] w fun e w' => ∃ s : ByteArray, e = .returned (.string s) ∧ s ∈ ss ∧ Gen b w w' (m + 1) := by
  have Hs := Lib.hid hs
  have HS := Lib.hid h
  have Hn := Lib.hid hn
  clear hs h hn
  go_enter Tryz.func34, Tryz.ntmps34
  go_wp2_with fail
  refine (next_gen b m _ _ HS.out hm (by omega)).mono ?_
  rintro e w1 ⟨k, rfl, ⟨hk0, hk1⟩, hg⟩
  obtain ⟨j, rfl⟩ := Int.eq_ofNat_of_zero_le hk0
  have hj : j < n := by omega
  obtain ⟨s, hs⟩ : ∃ s, ss[j]? = some s := ⟨_, List.getElem?_eq_getElem (by rw [Hn.out]; exact hj)⟩
  have hc := (Hs.out.grown hg.g hgb).2 j s hs
  have HG := Lib.hid hg
  have hmem := List.mem_of_getElem? hs
  have HM := Lib.hid hmem
  clear hg hs hmem
  have b1 : (0 : Int) ≤ (j : Int) := by omega
  have b2 : (j : Int) < (n : Int) := by omega
  go_wp2_with fail
  go_ret
  exact ⟨s, rfl, HM.out, HG.out⟩
/-- whether two reports are of one order -/
def sameR (x y : RB) : Bool := decide (cR x y = 0)
set_option maxRecDepth 100000 in
set_option maxHeartbeats 1000000 in
theorem reports1_any (x y : RB) (w : World) : Calls Tryz.prog 38 #[.agg (layRb.enc x).toArray, .agg (layRb.enc y).toArray] w (Ret (.bool (sameR x y)) w) := by
  have HC := Lib.hid fun wx => (reportOrder_any x y wx)
  have HE : Hid (sameR x y = decide (cR x y = 0)) := Lib.hid rfl
  rw [HE.out]
  generalize cR x y = C at *
  have s1 : (layRb.enc x).toArray.size = 14 := by rw [List.size_toArray, layRb.len]; rfl
  have s2 : (layRb.enc y).toArray.size = 14 := by rw [List.size_toArray, layRb.len]; rfl
  have o1 : (layRb.enc x).toArray.all (·.oneCell') = true := all_oneCell_toArray (layRb.one x)
  have o2 : (layRb.enc y).toArray.all (·.oneCell') = true := all_oneCell_toArray (layRb.one y)
  clear HE
  generalize (layRb.enc x).toArray = XA at *
  generalize (layRb.enc y).toArray = XB at *
  have HP : Hid (Blk ((w.alloc (.cells XA 45 (0, 0))).alloc (.cells XB 45 (0, 0))) w.heap.size 45 XA) := Lib.hid ((Blk.new w _ _).alloc _)
  have HQ : Hid (Blk ((w.alloc (.cells XA 45 (0, 0))).alloc (.cells XB 45 (0, 0))) (w.heap.size + 1) 45 XB) := Lib.hid (by
    have this := Blk.new (w.alloc (.cells XA 45 (0, 0))) 45 XB
    rw [World.size_alloc] at this
    exact this)
  have HB : Hid (Below w.heap.size w ((w.alloc (.cells XA 45 (0, 0))).alloc (.cells XB 45 (0, 0)))) := Lib.hid (below_alloc (below_alloc (Below.refl _ _) _) _)
  go_enter Tryz.func38, Tryz.ntmps38
  go_upto_region 1 with (first | (refine wpList_var XA 45 Tryz.zeroValue45 rfl rfl rfl _ _ rfl _ rfl ?_ ?_ 14 size_rb s1 ?_ o1 ?_; all_goals (try rfl); try go_simp) | (refine wpList_var XB 45 Tryz.zeroValue45 rfl rfl rfl _ _ rfl _ rfl ?_ ?_ 14 size_rb s2 ?_ o2 ?_; all_goals (try rfl); try go_simp))
  generalize (w.alloc (.cells XA 45 (0, 0))).alloc (.cells XB 45 (0, 0)) = w1 at *
  generalize w.heap.size = bb at HP HQ ⊢
  have hXl : XA.toList.length = 14 := by simpa using s1
  have hYl : XB.toList.length = 14 := by simpa using s2
  go_wp2_with (first | (refine wpList_loadn rfl 45 _ rfl bb 0 rfl XA.toList _ HP.out.range under_rb rfl 14 size_rb hXl ?_; go_simp) | (refine wpList_loadn rfl 45 _ rfl (bb + 1) 0 rfl XB.toList _ HQ.out.range under_rb rfl 14 size_rb hYl ?_; go_simp))
  refine (HC.out _).mono ?_
  rintro e w2 ⟨rfl, hb⟩
  have HB2 := Lib.hid (HB.out.trans (hb.b.mono HB.out.size))
  clear hb HC HP HQ
  go_wp2_with fail
  go_ret
  exact ⟨by simp [Bool.beq_eq_decide_eq], HB2.out⟩
/-- the state of a round: the flow and the report that it makes -/
structure RpS (b m : Nat) (wr w : World) (F R : Nat) (f : FV) (r : RP) : Prop where
  g : Gen b wr w m
  fb : FBlk w F f
  rb : Blk w R 45 (rpC r).toArray
  fo : f.ok
  ro : r.Sm
  hF : wr.heap.size ≤ F
  hR : wr.heap.size ≤ R
  hne : F ≠ R
  hb : b < wr.heap.size
theorem RpS.step {b m m' : Nat} {wr w w' : World} {F R : Nat} {f : FV} {r : RP} (h : RpS b m wr w F R f r) (hg : Gen b w w' m') : RpS b m' wr w' F R f r :=
  ⟨h.g.trans hg, h.fb.keep hg.g (by have := h.hb; have := h.hF; omega), h.rb.keep hg.g (by have := h.hb; have := h.hR; omega), h.fo, h.ro, h.hF, h.hR, h.hne, h.hb⟩
theorem RpS.mono {b m m' : Nat} {wr w : World} {F R : Nat} {f : FV} {r : RP} (h : RpS b m wr w F R f r) (hm : m ≤ m') : RpS b m' wr w F R f r := { h with g := h.g.mono hm }
theorem RpS.alloc {b m : Nat} {wr w : World} {F R : Nat} {f : FV} {r : RP} (h : RpS b m wr w F R f r) (o : Obj) : RpS b m wr (w.alloc o) F R f r := h.step ((Gen.start h.g.s).alloc o)
theorem RpS.setR {b m : Nat} {wr w : World} {F R : Nat} {f : FV} {r : RP} (h : RpS b m wr w F R f r) (i : Nat) (x : Value) (r' : RP) (hr : ((rpC r).toArray.setIfInBounds i x) = (rpC r').toArray) (ho : r'.Sm) : RpS b m wr (w.setCell ⟨R, i, none⟩ x) F R f r' :=
  ⟨h.g.setCell _ _ h.hR (by have := h.hb; have := h.hR; show b < R; omega), Blk.far h.fb h.hne i x, by have := Blk.set h.rb i x; rwa [hr] at this, h.fo, ho, h.hF, h.hR, h.hne, h.hb⟩
theorem Gen.setCells {b m B : Nat} {u : World} (hB : u.heap.size ≤ B) (hb : b < B) : ∀ (vs : List Value) (o : Nat) (v : World), Gen b u v m → Gen b u (v.setCells B o vs) m
  | [], _, v, h => h
  | x :: l, o, v, h => Gen.setCells hB hb l (o + 1) _ (h.setCell ⟨B, o, none⟩ x hB hb)
theorem Blk.farCells {w : World} {B R : Nat} {t : TypeId} {cs : Array Value} (h : Blk w B t cs) (hne : B ≠ R) (o : Nat) (vs : List Value) : Blk (w.setCells R o vs) B t cs :=
  (heap_setCells_other hne vs o w).trans h
theorem Blk.fill {w : World} {B : Nat} {t : TypeId} {cs : Array Value} (h : Blk w B t cs) (vs : List Value) (hl : vs.length = cs.size) : Blk (w.setCells B 0 vs) B t vs.toArray := by
  obtain ⟨cur', h1, h2⟩ := heap_setCells_same vs 0 w cs h
  have hth : w.there B 0 vs.length := fun j hj => by
    refine ⟨?_, h.free _⟩
    rw [Nat.zero_add, h.cell j, Array.getElem?_eq_getElem (by omega)]
    rfl
  have hr := World.rangeAt_setCells_same w B 0 vs hth
  have e : cur' = vs.toArray := by
    apply Array.ext_getElem?
    intro j
    rcases Nat.lt_or_ge j vs.length with hj | hj
    · have := hr j _ (List.getElem?_eq_getElem hj)
      rw [Nat.zero_add, cell_of_row _ B j _ _ _ h1] at this
      rw [this, List.getElem?_toArray, List.getElem?_eq_getElem hj]
    · rw [Array.getElem?_eq_none (by omega), Array.getElem?_eq_none (by simpa using hj)]
  rw [← e]
  exact h1
/-- what the region that makes a report has yielded -/
def rpgR (b B0 : Nat) (f : FV) : Nat → Value → World → Prop
  | 1, v, w => ∃ g, v = .slice (some ⟨g, 0, none⟩) 4 4 ∧ g ≠ b ∧ RdStr w g [⟨#[110, 97]⟩, ⟨#[110, 98]⟩, ⟨#[110, 99]⟩, ⟨#[110, 100]⟩]
  | 2, v, _ => ∃ s : ByteArray, v = .string s ∧ s.size ≤ 1000
  | 4, v, w => ∃ g, v = .slice (some ⟨g, 0, none⟩) 11 11 ∧ g ≠ b ∧ RdInts w g 0 11 [0, 0, 1, 1, 2, 5, 23, 24, 30, 50, 720]
  | 5, v, _ => ∃ k : Int, v = .int .i64 k ∧ 0 ≤ k ∧ k ≤ 720
  | 7, v, _ => ∃ o : Bool, v = .bool o
  | 8, v, _ => v = .agg #[.int .i64 f.p, .bool f.s1, .int .u64 f.h1, .int .u64 f.l1, .bool f.s2, .int .u64 f.h2, .int .u64 f.l2, .int .i64 f.fp, .int .i64 f.tp]
  | 10, v, w => ∃ g, v = .slice (some ⟨g, 0, none⟩) 4 4 ∧ g ≠ b ∧ RdInts w g 0 4 [1, 2, 10, 100]
  | 11, v, _ => ∃ k : Int, v = .int .i64 k
  | 13, v, w => ∃ g, v = .slice (some ⟨g, 0, none⟩) 7 7 ∧ g ≠ b ∧ RdInts w g 0 7 [0, 50, 100, 110, 1000, 1000000000, 1000000001]
  | 14, v, _ => ∃ k : Int, v = .int .i64 k
  | 15, v, _ => ∃ r : RP, v = .agg (rpC r).toArray ∧ r.Sm
  | 16, v, w => ∃ R, v = .pointer (some ⟨R, 0, none⟩) ∧ B0 ≤ R ∧ R ≠ b ∧ ∃ cs, cs.size = 14 ∧ Blk w R 45 cs
  | _, v, _ => v = .pointer (some ⟨b, 0, none⟩)
theorem rpgR_keep {b B0 : Nat} {f : FV} (p : Nat) (v : Value) (u w : World) (h : rpgR b B0 f p v u) (hg : u.grownBy w (some b)) : rpgR b B0 f p v w := by
  rcases p with _ | _ | _ | _ | _ | _ | _ | _ | _ | _ | _ | _ | _ | _ | _ | _ | _ | p
  all_goals first
    | exact h
    | (obtain ⟨g, h1, h2, h3⟩ := h; exact ⟨g, h1, h2, RdStr.grown h3 hg h2⟩)
    | (obtain ⟨g, h1, h2, h3⟩ := h; exact ⟨g, h1, h2, RdInts.grown h3 hg h2⟩)
    | (obtain ⟨R, h1, h2, h3, cs, h4, h5⟩ := h; exact ⟨R, h1, h2, h3, cs, h4, Blk.keep h5 hg h3⟩)
/-- the state behind the first append: the flow and the report lie still, another report is made -/
structure RpT (b m : Nat) (w2 w : World) (F R O : Nat) (f : FV) (r o : RP) : Prop where
  g : Gen b w2 w m
  fb : FBlk w F f
  rb : Blk w R 45 (rpC r).toArray
  ob : Blk w O 45 (rpC o).toArray
  oo : o.Sm
  hF : F ≠ b
  hR : R ≠ b
  hO : w2.heap.size ≤ O
  hFO : F ≠ O
  hRO : R ≠ O
  hb : b < w2.heap.size
theorem RpT.step {b m m' : Nat} {w2 w w' : World} {F R O : Nat} {f : FV} {r o : RP} (h : RpT b m w2 w F R O f r o) (hg : Gen b w w' m') : RpT b m' w2 w' F R O f r o :=
  ⟨h.g.trans hg, h.fb.keep hg.g h.hF, h.rb.keep hg.g h.hR, h.ob.keep hg.g (by have := h.hb; have := h.hO; omega), h.oo, h.hF, h.hR, h.hO, h.hFO, h.hRO, h.hb⟩
theorem RpT.mono {b m m' : Nat} {w2 w : World} {F R O : Nat} {f : FV} {r o : RP} (h : RpT b m w2 w F R O f r o) (hm : m ≤ m') : RpT b m' w2 w F R O f r o := { h with g := h.g.mono hm }
theorem RpT.alloc {b m : Nat} {w2 w : World} {F R O : Nat} {f : FV} {r o : RP} (h : RpT b m w2 w F R O f r o) (x : Obj) : RpT b m w2 (w.alloc x) F R O f r o := h.step ((Gen.start h.g.s).alloc x)
theorem RpT.setO {b m : Nat} {w2 w : World} {F R O : Nat} {f : FV} {r o : RP} (h : RpT b m w2 w F R O f r o) (i : Nat) (x : Value) (o' : RP) (hr : ((rpC o).toArray.setIfInBounds i x) = (rpC o').toArray) (ho : o'.Sm) : RpT b m w2 (w.setCell ⟨O, i, none⟩ x) F R O f r o' :=
  ⟨h.g.setCell _ _ h.hO (by have := h.hb; have := h.hO; show b < O; omega), Blk.far h.fb h.hFO i x, Blk.far h.rb h.hRO i x, by have := Blk.set h.ob i x; rwa [hr] at this, ho, h.hF, h.hR, h.hO, h.hFO, h.hRO, h.hb⟩
/-- an address that is made of a flow: three cells set one behind the other -/
theorem Blk.set3 {w : World} {B : Nat} {t : TypeId} {x y z x' y' z' : Value} (h : Blk w B t #[x, y, z]) : Blk (((w.setCell ⟨B, 0, none⟩ x').setCell ⟨B, 1, none⟩ y').setCell ⟨B, 2, none⟩ z') B t #[x', y', z'] :=
  Blk.set (Blk.set (Blk.set h 0 x') 1 y') 2 z'
theorem RpS.far {b m : Nat} {wr w : World} {F R : Nat} {f : FV} {r : RP} (h : RpS b m wr w F R f r) {A : Nat} (hA : wr.heap.size ≤ A) (h1 : F ≠ A) (h2 : R ≠ A) (i : Nat) (x : Value) : RpS b m wr (w.setCell ⟨A, i, none⟩ x) F R f r :=
  ⟨h.g.setCell _ _ hA (by have := h.hb; show b < A; omega), Blk.far h.fb h1 i x, Blk.far h.rb h2 i x, h.fo, h.ro, h.hF, h.hR, h.hne, h.hb⟩
theorem RpT.far {b m : Nat} {w2 w : World} {F R O : Nat} {f : FV} {r o : RP} (h : RpT b m w2 w F R O f r o) {A : Nat} (hA : w2.heap.size ≤ A) (h1 : F ≠ A) (h2 : R ≠ A) (h3 : O ≠ A) (i : Nat) (x : Value) : RpT b m w2 (w.setCell ⟨A, i, none⟩ x) F R O f r o :=
  ⟨h.g.setCell _ _ hA (by have := h.hb; show b < A; omega), Blk.far h.fb h1 i x, Blk.far h.rb h2 i x, Blk.far h.ob h3 i x, h.oo, h.hF, h.hR, h.hO, h.hFO, h.hRO, h.hb⟩
theorem Sm_node {r : RP} (h : r.Sm) {s : ByteArray} (hs : s.size ≤ 1000) : RP.Sm { r with node := s } := ⟨h.1, h.2.1, h.2.2.1, hs⟩
/-- what a region that changes a number of the other report has yielded -/
def rqgR (b R O i n : Nat) (zs : List Int) (x : Int) : Nat → Value → World → Prop
  | 0, v, _ => v = .pointer (some ⟨R, i, none⟩)
  | 1, v, _ => v = .int .i64 x
  | 2, v, _ => v = .pointer (some ⟨b, 0, none⟩)
  | 3, v, w => ∃ g, v = .slice (some ⟨g, 0, none⟩) n n ∧ g ≠ b ∧ RdInts w g 0 n zs
  | 7, v, _ => v = .pointer (some ⟨O, i, none⟩)
  | _, v, _ => ∃ k : Int, v = .int .i64 k
theorem rqgR_keep {b R O i n : Nat} {zs : List Int} {x : Int} (p : Nat) (v : Value) (u w : World) (h : rqgR b R O i n zs x p v u) (hg : u.grownBy w (some b)) : rqgR b R O i n zs x p v w := by
  rcases p with _ | _ | _ | _ | _ | _ | _ | _ | p
  all_goals first
    | exact h
    | (obtain ⟨g, h1, h2, h3⟩ := h; exact ⟨g, h1, h2, RdInts.grown h3 hg h2⟩)
theorem rangeAt_one {w : World} {b o : Nat} {v : Value} (h : w.cell? ⟨b, o, none⟩ = some v) : w.rangeAt b o [v] := fun j x hx => by
  cases j with
  | zero =>
    have : v = x := by simpa using hx
    rw [← this]; exact h
  | succ j => simp at hx
/-- some cells of an element are laid over -/
theorem OwnK.setPart {α : Type} {E : Lay α} {w : World} {B g n c : Nat} {L : List α} (h : OwnK E w B (.slice (some ⟨g, 0, none⟩) n c) L) {i j : Nat} {x y : α} {vs : List Value} (hx : L[i]? = some x) (hj : j + vs.length ≤ E.K)
    (h1 : ∀ t, t < j → (E.enc y)[t]? = (E.enc x)[t]?) (h2 : ∀ t, t < vs.length → (E.enc y)[j + t]? = vs[t]?) (h3 : ∀ t, j + vs.length ≤ t → (E.enc y)[t]? = (E.enc x)[t]?) :
    OwnK E (w.setCells g (i * E.K + j) vs) B (.slice (some ⟨g, 0, none⟩) n c) (L.set i y) := by
  have hi : i < n := by rw [h.block.1]; exact (List.getElem?_eq_some_iff.1 hx).1
  have hth := h.there (o := i * E.K + j) (m := vs.length) (by have := Nat.mul_le_mul_right E.K (show i + 1 ≤ n by omega); rw [Nat.add_mul] at this; omega)
  obtain ⟨hn, hB, hc, hm, cur, hg, hs, ht⟩ := h.block
  obtain ⟨cur', q1, q2⟩ := heap_setCells_same vs (i * E.K + j) w cur hg
  refine OwnK.of_cells (by rw [List.length_set]; exact hn.symm) hB hc hm q1 (by rw [q2, hs]) fun k z hz t v hv => ?_
  by_cases e : k = i
  · subst e
    rw [List.getElem?_set_self (by rw [← hn]; exact hi)] at hz
    injection hz with hz
    subst hz
    rcases Nat.lt_or_ge t j with k1 | k1
    · rw [h1 t k1] at hv
      have := World.rangeAt_setCells_apart (rangeAt_one (h.get hx hv)) g (k * E.K + j) vs (.inr (.inl (by rw [List.length_singleton]; omega)))
      exact this 0 v rfl
    · rcases Nat.lt_or_ge t (j + vs.length) with k2 | k2
      · have e2 : t = j + (t - j) := by omega
        rw [e2, h2 (t - j) (by omega)] at hv
        have := World.rangeAt_setCells_same w g (k * E.K + j) vs hth (t - j) v hv
        rw [show k * E.K + j + (t - j) = k * E.K + t by omega] at this
        exact this
      · rw [h3 t k2] at hv
        have := World.rangeAt_setCells_apart (rangeAt_one (h.get hx hv)) g (k * E.K + j) vs (.inr (.inr (by omega)))
        exact this 0 v rfl
  · rw [List.getElem?_set_ne (fun h => e h.symm)] at hz
    have htk : t < E.K := by rw [← E.len z]; exact (List.getElem?_eq_some_iff.1 hv).1
    have := World.rangeAt_setCells_apart (rangeAt_one (h.get hz hv)) g (i * E.K + j) vs (.inr (by
      have h := mul_apart (K := E.K) e
      rw [List.length_singleton]
      omega))
    exact this 0 v rfl
theorem zero_rb : (Tryz.prog.info? 45).map (fun i => (i.size, i.zero.map (fun z => z.cells.size))) = some (14, some 14) := by kernel_rfl
end Go.Proofs.YtippolfmljfleaaGreatDoor

namespace Go.Proofs.YtippolfmljfleaaGreatDoor
open Go.RowKit Go
set_option linter.unusedVariables false

/-- the bytes of a key -/
def smallC (c : UInt8) : Bool := 97 ≤ c && c ≤ 122
def digitC (c : UInt8) : Bool := 48 ≤ c && c ≤ 57
def keyC (c : UInt8) : Bool := smallC c || digitC c || c == 45 || c == 95
def keyB (l : List UInt8) : Bool := decide (1 ≤ l.length ∧ l.length ≤ 40) && (l.take 1).all smallC && l.all keyC
/-- a report's fault, the order aside -/
def rowRF (r : RP) : Int :=
  if keyB r.node.data.toList = false then 5
  else if outB r.hour 0 96023 = true then 1
  else if flowFault r.f ≠ 0 then flowFault r.f
  else if outB r.pk 1 1000000000000 = true ∨ outB r.sz 0 1000000000000 = true then 1 else 0
def ordF : Option RB → RB → Int
  | none, _ => 0
  | some p, r => if 0 ≤ cR p r then 7 else 0
def afterRF (prev : Option RB) (r : RB) : Int := if rowRF r.1 ≠ 0 then rowRF r.1 else ordF prev r
def scanRF : Option RB → List RB → Int
  | _, [] => 0
  | p, r :: l => if afterRF p r ≠ 0 then afterRF p r else scanRF (some r) l
def repF (L : List RB) : Int := if 3000 < L.length then 2 else scanRF none L
end Go.Proofs.YtippolfmljfleaaGreatDoor
