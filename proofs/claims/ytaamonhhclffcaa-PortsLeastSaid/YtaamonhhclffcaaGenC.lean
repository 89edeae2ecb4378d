/-
  Generators of flows and times: contracts of RightFlow, Flow, Times.
-/
import Derived.Test.YtaamonhhclffcaaGenB
import Derived.Deep.DeepCutAuto
namespace Go.Proofs.Ytaamonhhclffcaa
open Go.RowKit
set_option linter.unusedVariables false

/-- a block known whole -/
def Blk (w : World) (B : Nat) (t : TypeId) (cs : Array Value) : Prop := w.heap[B]? = some (.cells cs t (0, 0))
theorem Blk.lt {w : World} {B : Nat} {t : TypeId} {cs : Array Value} (h : Blk w B t cs) : B < w.heap.size := lt_of_block h
theorem Blk.new (w : World) (t : TypeId) (cs : Array Value) : Blk (w.alloc (.cells cs t (0, 0))) w.heap.size t cs := heap_alloc_new w _
theorem Blk.alloc {w : World} {B : Nat} {t : TypeId} {cs : Array Value} (h : Blk w B t cs) (o : Obj) : Blk (w.alloc o) B t cs := (Below.heap_alloc w o B h.lt).trans h
theorem Blk.keep {w w' : World} {b B : Nat} {t : TypeId} {cs : Array Value} (h : Blk w B t cs) (hg : w.grownBy w' (some b)) (hne : B ≠ b) : Blk w' B t cs := blk_keep hg hne h
theorem Blk.below {w w' : World} {B B' : Nat} {t : TypeId} {cs : Array Value} (h : Blk w B t cs) (hb : Below B' w w') (hlt : B < B') : Blk w' B t cs := (hb.block B hlt).trans h
theorem Blk.drewN {w : World} {B : Nat} {t : TypeId} {cs : Array Value} (h : Blk w B t cs) (n : Nat) : Blk (w.drewN n) B t cs := h
theorem Blk.cell {w : World} {B : Nat} {t : TypeId} {cs : Array Value} (h : Blk w B t cs) (i : Nat) : w.cell? ⟨B, i, none⟩ = cs[i]? := cell_of_row w B i cs t (0, 0) h
theorem Blk.free {w : World} {B : Nat} {t : TypeId} {cs : Array Value} (h : Blk w B t cs) (i : Nat) : w.frozen? ⟨B, i, none⟩ = false := frozen_of_row w B i cs t h
theorem Blk.set {w : World} {B : Nat} {t : TypeId} {cs : Array Value} (h : Blk w B t cs) (i : Nat) (v : Value) : Blk (w.setCell ⟨B, i, none⟩ v) B t (cs.setIfInBounds i v) := heap_setCell_same w B i cs t v h
theorem Blk.far {w : World} {B B' : Nat} {t : TypeId} {cs : Array Value} (h : Blk w B t cs) (hne : B ≠ B') (i : Nat) (v : Value) : Blk (w.setCell ⟨B', i, none⟩ v) B t cs := (Below.heap_setCell w ⟨B', i, none⟩ v B hne).trans h

def I41 (x : Int) : Prop := -2199023255552 ≤ x ∧ x ≤ 2199023255552
structure FV where
  p : Int
  s1 : Bool
  h1 : Int
  l1 : Int
  s2 : Bool
  h2 : Int
  l2 : Int
  fp : Int
  tp : Int
def FV.cells (f : FV) : Array Value := #[.int .i64 f.p, .bool f.s1, .int .u64 f.h1, .int .u64 f.l1, .bool f.s2, .int .u64 f.h2, .int .u64 f.l2, .int .i64 f.fp, .int .i64 f.tp]
def FV.ok (f : FV) : Prop := I41 f.p ∧ U64 f.h1 ∧ U64 f.l1 ∧ U64 f.h2 ∧ U64 f.l2 ∧ I41 f.fp ∧ I41 f.tp
def FBlk (w : World) (B : Nat) (f : FV) : Prop := Blk w B 30 #[.int .i64 f.p, .bool f.s1, .int .u64 f.h1, .int .u64 f.l1, .bool f.s2, .int .u64 f.h2, .int .u64 f.l2, .int .i64 f.fp, .int .i64 f.tp]
def FV.zero : FV := ⟨0, false, 0, 0, false, 0, 0, 0, 0⟩
theorem FBlk.cells {w : World} {B : Nat} {f : FV} (h : FBlk w B f) : w.cell? ⟨B, 0, none⟩ = some (.int .i64 f.p) ∧ w.cell? ⟨B, 1, none⟩ = some (.bool f.s1) ∧ w.cell? ⟨B, 2, none⟩ = some (.int .u64 f.h1) ∧ w.cell? ⟨B, 3, none⟩ = some (.int .u64 f.l1) ∧
    w.cell? ⟨B, 4, none⟩ = some (.bool f.s2) ∧ w.cell? ⟨B, 5, none⟩ = some (.int .u64 f.h2) ∧ w.cell? ⟨B, 6, none⟩ = some (.int .u64 f.l2) ∧ w.cell? ⟨B, 7, none⟩ = some (.int .i64 f.fp) ∧ w.cell? ⟨B, 8, none⟩ = some (.int .i64 f.tp) ∧ ∀ i, w.frozen? ⟨B, i, none⟩ = false :=
  ⟨Blk.cell h 0, Blk.cell h 1, Blk.cell h 2, Blk.cell h 3, Blk.cell h 4, Blk.cell h 5, Blk.cell h 6, Blk.cell h 7, Blk.cell h 8, Blk.free h⟩

theorem Gen.setA {b m B : Nat} {u v : World} (h : Gen b u v m) (hB : u.heap.size ≤ B) (hb : b < B) (i1 i2 i3 i4 i5 i6 : Nat) (x1 x2 x3 x4 x5 x6 : Value) :
    Gen b u ((((((v.setCell ⟨B, i1, none⟩ x1).setCell ⟨B, i2, none⟩ x2).setCell ⟨B, i3, none⟩ x3).setCell ⟨B, i4, none⟩ x4).setCell ⟨B, i5, none⟩ x5).setCell ⟨B, i6, none⟩ x6) m :=
  (((((h.setCell _ _ hB hb).setCell _ _ hB hb).setCell _ _ hB hb).setCell _ _ hB hb).setCell _ _ hB hb).setCell _ _ hB hb
theorem Gen.setB {b m B : Nat} {u v : World} (h : Gen b u v m) (hB : u.heap.size ≤ B) (hb : b < B) (i1 i2 i3 i4 i5 i6 i7 i8 i9 : Nat) (x1 x2 x3 x4 x5 x6 x7 x8 x9 : Value) :
    Gen b u (((((((((v.setCell ⟨B, i1, none⟩ x1).setCell ⟨B, i2, none⟩ x2).setCell ⟨B, i3, none⟩ x3).setCell ⟨B, i4, none⟩ x4).setCell ⟨B, i5, none⟩ x5).setCell ⟨B, i6, none⟩ x6).setCell ⟨B, i7, none⟩ x7).setCell ⟨B, i8, none⟩ x8).setCell ⟨B, i9, none⟩ x9) m :=
  (((h.setA hB hb i1 i2 i3 i4 i5 i6 x1 x2 x3 x4 x5 x6).setCell _ _ hB hb).setCell _ _ hB hb).setCell _ _ hB hb
theorem FBlk.setFrom {w : World} {B : Nat} {f : FV} (h : FBlk w B f) (six : Bool) (hi lo : Int) : FBlk (((w.setCell ⟨B, 1, none⟩ (.bool six)).setCell ⟨B, 2, none⟩ (.int .u64 hi)).setCell ⟨B, 3, none⟩ (.int .u64 lo)) B { f with s1 := six, h1 := hi, l1 := lo } :=
  Blk.set (Blk.set (Blk.set h 1 (.bool six)) 2 (.int .u64 hi)) 3 (.int .u64 lo)
theorem FBlk.setTo {w : World} {B : Nat} {f : FV} (h : FBlk w B f) (six : Bool) (hi lo : Int) : FBlk (((w.setCell ⟨B, 4, none⟩ (.bool six)).setCell ⟨B, 5, none⟩ (.int .u64 hi)).setCell ⟨B, 6, none⟩ (.int .u64 lo)) B { f with s2 := six, h2 := hi, l2 := lo } :=
  Blk.set (Blk.set (Blk.set h 4 (.bool six)) 5 (.int .u64 hi)) 6 (.int .u64 lo)
theorem FBlk.setP {w : World} {B : Nat} {f : FV} (h : FBlk w B f) (x : Int) : FBlk (w.setCell ⟨B, 0, none⟩ (.int .i64 x)) B { f with p := x } := Blk.set h 0 (.int .i64 x)
theorem FBlk.setFp {w : World} {B : Nat} {f : FV} (h : FBlk w B f) (x : Int) : FBlk (w.setCell ⟨B, 7, none⟩ (.int .i64 x)) B { f with fp := x } := Blk.set h 7 (.int .i64 x)
theorem FBlk.setTp {w : World} {B : Nat} {f : FV} (h : FBlk w B f) (x : Int) : FBlk (w.setCell ⟨B, 8, none⟩ (.int .i64 x)) B { f with tp := x } := Blk.set h 8 (.int .i64 x)

theorem pick_new (b m g n : Nat) (t : TypeId) (vs : Array Value) (zs : List Int) (w : World) (h : Strm w b m) (hg : w.heap.size = g) (hm : m < 1099511627776) (hn : zs.length = n) (hn1 : 1 ≤ n ∧ n ≤ 1000) (hv : vs = (zs.map (Value.int .i64)).toArray) :
    Calls Try.prog 18 #[.pointer (some ⟨b, 0, none⟩), .slice (some ⟨g, 0, none⟩) n n] (w.alloc (.cells vs t)) fun e w' => ∃ k : Int, e = .returned (.int .i64 k) ∧ k ∈ zs ∧ Gen b w w' (m + 1) := by
  subst hg hn
  exact (pick_gen b m w.heap.size 0 zs.length zs.length zs _ (h.alloc _) hm (by omega) (rdInts_new w t zs vs hv) (by have := h.lt; omega)).mono fun _ _ ⟨k, h1, h2, h3⟩ => ⟨k, h1, h2, ((Gen.start h).alloc _).trans h3⟩

set_option maxHeartbeats 1000000 in
set_option maxRecDepth 100000 in
theorem rightFlow_gen (b m : Nat) (w : World) (h : Strm w b m) (hm : m + 20 < 1099511627776) :
    Calls Try.prog 48 #[.pointer (some ⟨b, 0, none⟩)] w fun e w' => ∃ f : FV, e = .returned (.agg f.cells) ∧ f.ok ∧ Gen b w w' (m + 11) := by
  have hblt := h.lt
  go_enter Try.func48, Try.ntmps48
  go_wp2_with fail
  refine (pick_new b m _ _ _ _ [6, 6, 6, 17, 1, 47] _ (h.alloc _) (by simp) (by omega) rfl (by decide) rfl).mono ?_
  rintro e w1 ⟨p, rfl, hp, hg⟩
  have hG1 : Gen b w w1 (m + 1) := ((Gen.start h).alloc _).trans hg
  have hA1 : FBlk w1 w.heap.size FV.zero := (Blk.new w _ _).keep hg.g (by omega)
  have hp' : 1 ≤ p ∧ p ≤ 47 := by simp at hp; omega
  have HG1 := Lib.hid hG1
  have HA1 := Lib.hid hA1
  clear hG1 hA1 hp hg
  go_wp2_with fail
  refine (range_gen b (m + 1) _ _ _ HG1.out.s (by omega) (by omega) (by omega)).mono ?_
  rintro e w2 ⟨k1, rfl, ⟨hk10, hk11⟩, hg⟩
  have HG2 := Lib.hid (HG1.out.trans hg)
  have HA2 := Lib.hid (HA1.out.keep hg.g (by omega))
  clear hg HG1 HA1
  go_wp2_with fail
  refine (at_any _ _ (by omega)).mono ?_
  rintro e w3 ⟨rfl, o3, rfl⟩
  have HG3 := Lib.hid (HG2.out.alloc o3)
  have HA3 := Lib.hid (HA2.out.alloc o3)
  clear HG2 HA2
  unfold vAddr
  go_wp2_with fail
  refine (range_gen b (m + 1 + 1) _ _ _ HG3.out.s (by omega) (by omega) (by omega)).mono ?_
  rintro e w4 ⟨k2, rfl, ⟨hk20, hk21⟩, hg⟩
  have HG4 := Lib.hid (HG3.out.trans hg)
  have HA4 := Lib.hid (HA3.out.keep hg.g (by omega))
  clear hg HG3 HA3
  go_wp2_with fail
  refine (at_any _ _ (by omega)).mono ?_
  rintro e w5 ⟨rfl, o5, rfl⟩
  have HG5 := Lib.hid (HG4.out.alloc o5)
  have HA5 := Lib.hid (HA4.out.alloc o5)
  clear HG4 HA4
  unfold vAddr
  go_wp2_with fail
  refine (flip_gen b (m + 1 + 1 + 1) _ _ (HG5.out.s.alloc _) (by omega) (by omega)).mono ?_
  rintro e w6 ⟨kk, rfl, hg⟩
  have hF0 : w4.heap.size + 1 = (w4.alloc o5).heap.size := by simp
  have HG6 := Lib.hid ((HG5.out.alloc _).trans hg)
  have HA6 := Lib.hid ((HA5.out.alloc _).keep hg.g (by omega))
  have HF6 : Hid (FBlk w6 (w4.heap.size + 1) ⟨p, false, 0, 1681915904 + k1, false, 0, 1681915904 + k2, 0, 0⟩) := by
    have h5 := HG5.out.s.lt
    rw [hF0]
    exact Blk.keep (Blk.new (w4.alloc o5) _ _) hg.g (by omega)
  have hlt : w.heap.size < w4.heap.size + 1 := by rw [hF0]; exact HA5.out.lt
  clear hg HG5 HA5 hF0
  generalize w4.heap.size + 1 = F at *
  go_upto_if 15 with fail
  go_cut [] (fun wx => ∃ f : FV, FBlk wx F f ∧ f.ok ∧ FBlk wx w.heap.size FV.zero ∧ Gen b w wx (m + 6))
  case first =>
    go_wp2_with fail
    · refine (pick_new b (m + 1 + 1 + 1 + 1) _ _ _ _ [0, 5, 65536] _ HG6.out.s (by simp) (by omega) rfl (by decide) rfl).mono ?_
      rintro e w7 ⟨k, rfl, hk, hg⟩
      have hk' : 0 ≤ k ∧ k ≤ 65536 := by simp at hk; omega
      have HF7 := HF6.out.keep hg.g (by omega)
      obtain ⟨-, -, -, -, c4, c5, c6, -, -, f0⟩ := FBlk.cells HF7
      have HF7 := Lib.hid HF7
      have HA7 := Lib.hid (HA6.out.keep hg.g (by omega))
      have HG7 := Lib.hid (HG6.out.trans hg)
      clear hg HF6 HA6 HG6 hk
      go_wp2_with fail
      go_meet
      case rel =>
        exact ⟨⟨p, false, 0, 1681915904 + k1, false, 0, 167772160 + k, 0, 0⟩, FBlk.setTo (f := ⟨p, false, 0, 1681915904 + k1, false, 0, 1681915904 + k2, 0, 0⟩) HF7.out false 0 (167772160 + k), by simp only [FV.ok, I41, U64]; omega,
          Blk.far (Blk.far (Blk.far HA7.out (by omega) 4 _) (by omega) 5 _) (by omega) 6 _,
          Gen.setCell (Gen.setCell (Gen.setCell (HG7.out.mono (by omega)) ⟨F, 4, none⟩ _ (Nat.le_of_lt hlt) (by simp only; omega)) ⟨F, 5, none⟩ _ (Nat.le_of_lt hlt) (by simp only; omega)) ⟨F, 6, none⟩ _ (Nat.le_of_lt hlt) (by simp only; omega)⟩
    · go_meet
      case rel =>
        exact ⟨⟨p, false, 0, 1681915904 + k1, false, 0, 1681915904 + k2, 0, 0⟩, HF6.out, by simp only [FV.ok, I41, U64]; omega, HA6.out, HG6.out.mono (by omega)⟩
  case rest =>
    clear HF6 HA6 HG6
    obtain ⟨f, HF, HO, HA, HG⟩ := hcut
    have HF := Lib.hid HF
    have HO := Lib.hid HO
    have HA := Lib.hid HA
    have HG := Lib.hid HG
    go_wp2_with fail
    refine (flip_gen b (m + 6) _ _ HG.out.s (by omega) (by omega)).mono ?_
    rintro e w1 ⟨kk, rfl, hg⟩
    have HF1 := Lib.hid (HF.out.keep hg.g (by omega))
    have HA1 := Lib.hid (HA.out.keep hg.g (by omega))
    have HG1 := Lib.hid (HG.out.trans hg)
    clear hg HF HA HG
    go_upto_if 24 with fail
    go_cut [] (fun wx => ∃ f : FV, FBlk wx F f ∧ f.ok ∧ FBlk wx w.heap.size FV.zero ∧ Gen b w wx (m + 9))
    case first =>
      go_wp2_with fail
      · refine (range_gen b (m + 6 + 1) _ _ _ HG1.out.s (by omega) (by omega) (by omega)).mono ?_
        rintro e w2 ⟨k3, rfl, ⟨hk30, hk31⟩, hg⟩
        have HF2 := Lib.hid (HF1.out.keep hg.g (by omega))
        have HA2 := Lib.hid (HA1.out.keep hg.g (by omega))
        have HG2 := Lib.hid (HG1.out.trans hg)
        clear hg HF1 HA1 HG1
        go_wp2_with fail
        refine (sixAt_any _ _ (by omega)).mono ?_
        rintro e w3 ⟨rfl, o3, rfl⟩
        have HF3 := Lib.hid (HF2.out.alloc o3)
        have HA3 := Lib.hid (HA2.out.alloc o3)
        have HG3 := Lib.hid (HG2.out.alloc o3)
        clear HF2 HA2 HG2
        unfold vAddr
        go_wp2_with fail
        refine (range_gen b (m + 6 + 1 + 1) _ _ _ HG3.out.s (by omega) (by omega) (by omega)).mono ?_
        rintro e w4 ⟨k4, rfl, ⟨hk40, hk41⟩, hg⟩
        have HF4 := Lib.hid (HF3.out.keep hg.g (by omega))
        have HA4 := Lib.hid (HA3.out.keep hg.g (by omega))
        have HG4 := Lib.hid (HG3.out.trans hg)
        clear hg HF3 HA3 HG3
        go_wp2_with fail
        refine (sixAt_any _ _ (by omega)).mono ?_
        rintro e w5 ⟨rfl, o5, rfl⟩
        have HF5 := HF4.out.alloc o5
        obtain ⟨-, c1, c2, c3, c4, c5, c6, -, -, f0⟩ := FBlk.cells HF5
        have HF5 := Lib.hid HF5
        have HA5 := Lib.hid (HA4.out.alloc o5)
        have HG5 := Lib.hid (HG4.out.alloc o5)
        clear HF4 HA4 HG4
        unfold vAddr
        generalize w4.alloc o5 = w5 at *
        go_wp2_with fail
        go_meet
        case rel =>
          refine ⟨_, FBlk.setTo (FBlk.setFrom (f := f) HF5.out true 18230571291595767808 k3) true 18230571291595767808 k4, ?_, ?_, ?_⟩
          · have := HO.out
            simp only [FV.ok, I41, U64] at this ⊢
            omega
          · exact Blk.far (Blk.far (Blk.far (Blk.far (Blk.far (Blk.far HA5.out (by omega) 1 _) (by omega) 2 _) (by omega) 3 _) (by omega) 4 _) (by omega) 5 _) (by omega) 6 _
          · exact Gen.setA (HG5.out.mono (by omega)) (Nat.le_of_lt hlt) (by omega) _ _ _ _ _ _ _ _ _ _ _ _
      · go_meet
        case rel => exact ⟨f, HF1.out, HO.out, HA1.out, HG1.out.mono (by omega)⟩
    case rest =>
      clear HF1 HA1 HG1 HO
      obtain ⟨f, HF, HO, HA, HG⟩ := hcut
      obtain ⟨c0, -, -, -, -, -, -, -, -, f0⟩ := FBlk.cells HF
      have HF := Lib.hid HF
      have HO := Lib.hid HO
      have HA := Lib.hid HA
      have HG := Lib.hid HG
      go_upto_if 40 with fail
      all_goals go_cut [] (fun wx => ∃ f : FV, FBlk wx F f ∧ f.ok ∧ FBlk wx w.heap.size FV.zero ∧ Gen b w wx (m + 11))
      case rest | rest =>
        clear HF HA HG HO c0 f0
        obtain ⟨f, HF, HO, HA, HG⟩ := hcut
        obtain ⟨c0, c1, c2, c3, c4, c5, c6, c7, c8, f0⟩ := FBlk.cells HF
        obtain ⟨d0, d1, d2, d3, d4, d5, d6, d7, d8, g0⟩ := FBlk.cells HA
        have HG := Lib.hid HG
        have hne : w.heap.size ≠ F := by omega
        clear HF HA hlt
        go_wp2_with fail
        refine bodyPost_ret (v := .agg f.cells) (by simp [results, Try.results48, go_sem, d0, d1, d2, d3, d4, d5, d6, d7, d8, FV.cells]) rfl ⟨f, rfl, HO, ?_⟩
        exact Gen.setB HG.out (Nat.le_refl _) hblt _ _ _ _ _ _ _ _ _ _ _ _ _ _ _ _ _ _
      all_goals go_wp2_with fail
      rotate_right
      · go_meet
        case rel => exact ⟨f, HF.out, HO.out, HA.out, HG.out.mono (by omega)⟩
      all_goals
        refine (pick_new b (m + 9) _ _ _ _ [0, 5000] _ HG.out.s rfl (by omega) rfl (by decide) rfl).mono ?_
        rintro e w2 ⟨k3, rfl, hk, hg⟩
        have hk3 : 0 ≤ k3 ∧ k3 ≤ 65536 := by simp at hk; omega
        have HF2 := Lib.hid (HF.out.keep hg.g (by omega))
        have HA2 := Lib.hid (HA.out.keep hg.g (by omega))
        have HG2 := Lib.hid (HG.out.trans hg)
        clear hg HF HA HG hk c0 f0
        go_wp2_with fail
        refine (pick_new b (m + 9 + 1) _ _ _ _ [0, 22, 79, 80, 85, 90, 91, 100, 443, 65535] _ HG2.out.s rfl (by omega) rfl (by decide) rfl).mono ?_
        rintro e w3 ⟨k4, rfl, hk, hg⟩
        have hk4 : 0 ≤ k4 ∧ k4 ≤ 65536 := by simp at hk; omega
        have HF3 := HF2.out.keep hg.g (by omega)
        obtain ⟨-, -, -, -, -, -, -, c7, c8, f0⟩ := FBlk.cells HF3
        have HF3 := Lib.hid HF3
        have HA3 := Lib.hid (HA2.out.keep hg.g (by omega))
        have HG3 := Lib.hid (HG2.out.trans hg)
        clear hg HF2 HA2 HG2 hk
        go_wp2_with fail
        go_meet
        case rel =>
          refine ⟨_, FBlk.setTp (FBlk.setFp (f := f) HF3.out k3) k4, ?_, Blk.far (Blk.far HA3.out (by omega) 7 _) (by omega) 8 _, Gen.setCell (Gen.setCell (HG3.out.mono (by omega)) ⟨F, 7, none⟩ _ (Nat.le_of_lt hlt) (by simp only; omega)) ⟨F, 8, none⟩ _ (Nat.le_of_lt hlt) (by simp only; omega)⟩
          have := HO.out
          simp only [FV.ok, I41, U64] at this ⊢
          omega
end Go.Proofs.Ytaamonhhclffcaa
