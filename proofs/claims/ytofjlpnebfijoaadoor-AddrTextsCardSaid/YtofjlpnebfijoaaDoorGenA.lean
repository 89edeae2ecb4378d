/-
  Generators of numbers, addresses and flows: contracts of Odd, Addr, Raw, RightFlow, Flow, Times of Stream.
-/
import Derived.Test.YtofjlpnebfijoaaDoorStream
import Derived.Test.YtofjlpnebfijoaaDoorRegion
import Derived.Deep.RegionWith
import Derived.Deep.RegionHeld3
import Derived.Deep.Cut
namespace Go.Proofs.YtofjlpnebfijoaaDoor
open Go.RowKit
set_option linter.unusedVariables false

theorem rdInts_new (w : World) (t : TypeId) (zs : List Int) (vs : Array Value) (h : vs = (zs.map (Value.int .i64)).toArray) : RdInts (w.alloc (.cells vs t)) w.heap.size 0 zs.length zs := by
  subst h
  refine ⟨rfl, by simp, fun i hi => ?_⟩
  rw [Nat.zero_add, cell_of_row _ _ i _ t (0, 0) (heap_alloc_new w _)]
  simp [List.getD, hi]

/-- An address: of its fields nothing but the range. -/
def U64 (x : Int) : Prop := 0 ≤ x ∧ x ≤ 18446744073709551615
def vAddr (six : Bool) (hi lo : Int) : Value := .agg #[.bool six, .int .u64 hi, .int .u64 lo]

theorem blk_keep {w w' : World} {b B : Nat} {o : Obj} (hg : w.grownBy w' (some b)) (hB : B ≠ b) (h : w.heap[B]? = some o) : w'.heap[B]? = some o :=
  (hg.block B (lt_of_block h) (by simpa using hB)).trans h

def Up (M x : Int) : Prop := 0 ≤ x ∧ x ≤ M
abbrev M64 : Int := 18446744073709551615
abbrev M32 : Int := 4294967295
/-- a block of five uint64 numbers, none above M -/
def Five (b : Nat) (M : Int) (v : Value) (w : World) : Prop := ∃ B x0 x1 x2 x3 x4, v = .slice (some ⟨B, 0, none⟩) 5 5 ∧ B ≠ b ∧ w.heap[B]? = some (.cells #[.int .u64 x0, .int .u64 x1, .int .u64 x2, .int .u64 x3, .int .u64 x4] 26 (0, 0)) ∧ Up M x0 ∧ Up M x1 ∧ Up M x2 ∧ Up M x3 ∧ Up M x4
def PtrU (b : Nat) (M : Int) (v : Value) (w : World) : Prop := ∃ B k x, v = .pointer (some ⟨B, k, none⟩) ∧ B ≠ b ∧ B < w.heap.size ∧ w.cell? ⟨B, k, none⟩ = some (.int .u64 x) ∧ Up M x
def IsU (M : Int) (v : Value) : Prop := ∃ x, v = .int .u64 x ∧ Up M x
def IsK (v : Value) : Prop := ∃ k, v = .int .i64 k ∧ 0 ≤ k ∧ k < 5
theorem Five.at {b : Nat} {M : Int} {v : Value} {w : World} (h : Five b M v w) : ∃ B, v = .slice (some ⟨B, 0, none⟩) 5 5 ∧ ∀ k : Int, 0 ≤ k → k < 5 → PtrU b M (.pointer (some ⟨B, k.toNat, none⟩)) w := by
  obtain ⟨B, x0, x1, x2, x3, x4, rfl, hne, hb, h0, h1, h2, h3, h4⟩ := h
  refine ⟨B, rfl, fun k hk0 hk5 => ?_⟩
  obtain ⟨j, rfl⟩ := Int.eq_ofNat_of_zero_le hk0
  have hj : j = 0 ∨ j = 1 ∨ j = 2 ∨ j = 3 ∨ j = 4 := by omega
  rcases hj with rfl | rfl | rfl | rfl | rfl
  · exact ⟨B, _, x0, rfl, hne, lt_of_block hb, by rw [cell_of_row w B _ _ _ _ hb]; rfl, h0⟩
  · exact ⟨B, _, x1, rfl, hne, lt_of_block hb, by rw [cell_of_row w B _ _ _ _ hb]; rfl, h1⟩
  · exact ⟨B, _, x2, rfl, hne, lt_of_block hb, by rw [cell_of_row w B _ _ _ _ hb]; rfl, h2⟩
  · exact ⟨B, _, x3, rfl, hne, lt_of_block hb, by rw [cell_of_row w B _ _ _ _ hb]; rfl, h3⟩
  · exact ⟨B, _, x4, rfl, hne, lt_of_block hb, by rw [cell_of_row w B _ _ _ _ hb]; rfl, h4⟩
theorem Five.keep {b : Nat} {M : Int} {v : Value} {w w' : World} (h : Five b M v w) (hg : w.grownBy w' (some b)) : Five b M v w' := by
  obtain ⟨B, x0, x1, x2, x3, x4, rfl, hne, hb, hx⟩ := h
  exact ⟨B, x0, x1, x2, x3, x4, rfl, hne, blk_keep hg hne hb, hx⟩
theorem PtrU.keep {b : Nat} {M : Int} {v : Value} {w w' : World} (h : PtrU b M v w) (hg : w.grownBy w' (some b)) : PtrU b M v w' := by
  obtain ⟨B, k, x, rfl, hne, hlt, hc, hx⟩ := h
  exact ⟨B, k, x, rfl, hne, Nat.lt_of_lt_of_le hlt hg.size, (World.cell?_of_block (w := w) (hg.block B hlt (by simpa using hne))).trans hc, hx⟩

def mAddrR (b : Nat) : Nat → Value → World → Prop
  | 0, v, w => Five b M64 v w
  | 1, v, _ => v = .pointer (some ⟨b, 0, none⟩)
  | 2, v, _ => IsK v
  | 3, v, w => PtrU b M64 v w
  | 4, v, _ => IsU M64 v
  | 5, v, w => Five b M64 v w
  | 6, v, _ => v = .pointer (some ⟨b, 0, none⟩)
  | 7, v, _ => IsK v
  | 8, v, w => PtrU b M64 v w
  | 9, v, _ => IsU M64 v
  | _, v, _ => ∃ x y, v = .agg #[.bool true, .int .u64 x, .int .u64 y] ∧ Up M64 x ∧ Up M64 y

/-- the result's variable: a block of the call's own, three cells -/
def ABlk (w : World) (B : Nat) : Prop := w.heap[B]? = some (.cells #[.bool false, .int .u64 0, .int .u64 0] 28 (0, 0))
theorem ABlk.cells {w : World} {B : Nat} (h : ABlk w B) : w.cell? ⟨B, 0, none⟩ = some (.bool false) ∧ w.cell? ⟨B, 1, none⟩ = some (.int .u64 0) ∧ w.cell? ⟨B, 2, none⟩ = some (.int .u64 0) ∧ ∀ i, w.frozen? ⟨B, i, none⟩ = false :=
  ⟨by rw [cell_of_row w _ 0 _ _ _ h]; rfl, by rw [cell_of_row w _ 1 _ _ _ h]; rfl, by rw [cell_of_row w _ 2 _ _ _ h]; rfl, fun i => frozen_of_row w _ i _ _ h⟩
theorem Gen.set3 {b m B : Nat} {u v : World} (h : Gen b u v m) (hB : u.heap.size ≤ B) (hb : b < B) (x y z : Value) : Gen b u (((v.setCell ⟨B, 0, none⟩ x).setCell ⟨B, 1, none⟩ y).setCell ⟨B, 2, none⟩ z) m :=
  ((h.setCell _ _ hB hb).setCell _ _ hB hb).setCell _ _ hB hb

def AddrOK (six : Bool) (hi lo : Int) : Prop := U64 hi ∧ U64 lo ∧ (six = false → hi = 0 ∧ lo ≤ 4294967295)

set_option maxRecDepth 100000 in
theorem mAddr_gen (b m : Nat) (w : World) (h : Strm w b m) (hm : m + 3 < 1099511627776) :
    Calls Tryd.prog 14 #[.pointer (some ⟨b, 0, none⟩)] w fun e w' => ∃ six hi lo, e = .returned (vAddr six hi lo) ∧ AddrOK six hi lo ∧ Gen b w w' (m + 3) := by
  have hblt := h.lt
  go_enter Tryd.func14, Tryd.ntmps14
  go_wp2_with fail
  refine (next_gen b m _ _ (h.alloc _) (by omega) (by omega)).mono ?_
  rintro e w1 ⟨k, rfl, ⟨hk0, hk1⟩, hg⟩
  have hblk : w1.heap[w.heap.size]? = some (.cells #[.bool false, .int .u64 0, .int .u64 0] 28 (0, 0)) := blk_keep hg.g (by omega) (heap_alloc_new w _)
  have hg' : Gen b w w1 (m + 1) := ((Gen.start (h)).alloc _).trans hg
  have Hblk := Lib.hid hblk
  clear hblk
  go_wp2_with fail
  · refine wp_region_inv 11 2 (mAddrR b) (fun n w' => Gen b w w' (m + 1 + n) ∧ w'.heap[w.heap.size]? = some (.cells #[.bool false, .int .u64 0, .int .u64 0] 28 (0, 0))) (fun u v => u.grownBy v (some b)) (fun i => if i = 2 ∨ i = 7 then 1 else 0)
      (by kernel_rfl) (by kernel_rfl) (by decide) ?hS ⟨hg'.drew, Hblk.out⟩ ?hX
    case' hX => (apply Exists.intro; refine ⟨fun T => ?hA, ?hob, ?hend⟩)
    case hA =>
      simp only [setAll, List.take_succ_cons, List.take_zero, Act.put, List.setIfInBounds_toArray, List.set_cons_succ, List.set_cons_zero, Nat.reduceAdd]
      exact rfl
    case hob =>
      refine ⟨?_, ?_, ?_, ?_, ?_, ?_, ?_, ?_, ?_, ?_, ?_, trivial⟩
      all_goals (intro T wx n hC hn hp; obtain ⟨hC, hB⟩ := hC; dsimp only at hn ⊢; unfold Op1)
      · go_simp
        exact ⟨⟨wx.heap.size, _, _, _, _, _, rfl, by have := hC.s.lt; omega, heap_alloc_new wx _, by unfold Up; decide, by unfold Up; decide, by unfold Up; decide, by unfold Up; decide, by unfold Up; decide⟩, ⟨hC.alloc _, (Below.heap_alloc _ _ _ (lt_of_block hB)).trans hB⟩, World.grownBy_alloc _ _ _⟩
      · go_simp
        exact ⟨rfl, World.grownBy.refl _ _⟩
      · obtain ⟨h1, -⟩ := hp
        have h1 : T 1 = .pointer (some ⟨b, 0, none⟩) := h1
        go_simp
        refine (next_gen b (m + 1 + n) _ _ hC.s (by simp at hn; omega) (by omega)).mono ?_
        rintro e w2 ⟨k, rfl, ⟨hk0, hk1⟩, hg2⟩
        exact ⟨_, rfl, ⟨k, rfl, hk0, by omega⟩, ⟨hC.trans hg2, blk_keep hg2.g (by omega) hB⟩, hg2.g⟩
      · obtain ⟨h0, ⟨k, hT2, hk2, hk3⟩, -⟩ := hp
        obtain ⟨B, hT0, hP⟩ := Five.at h0
        have hP := hP k hk2 hk3
        clear h0
        go_simp
        exact ⟨hP, World.grownBy.refl _ _⟩
      · obtain ⟨⟨B, k, x, hT3, hne, hlt, hc, hx⟩, -⟩ := hp
        go_simp
        exact ⟨⟨x, rfl, hx⟩, World.grownBy.refl _ _⟩
      · go_simp
        exact ⟨⟨wx.heap.size, _, _, _, _, _, rfl, by have := hC.s.lt; omega, heap_alloc_new wx _, by unfold Up; decide, by unfold Up; decide, by unfold Up; decide, by unfold Up; decide, by unfold Up; decide⟩, ⟨hC.alloc _, (Below.heap_alloc _ _ _ (lt_of_block hB)).trans hB⟩, World.grownBy_alloc _ _ _⟩
      · go_simp
        exact ⟨rfl, World.grownBy.refl _ _⟩
      · obtain ⟨h1, -⟩ := hp
        have h1 : T 6 = .pointer (some ⟨b, 0, none⟩) := h1
        go_simp
        refine (next_gen b (m + 1 + n) _ _ hC.s (by simp at hn; omega) (by omega)).mono ?_
        rintro e w2 ⟨k, rfl, ⟨hk0, hk1⟩, hg2⟩
        exact ⟨_, rfl, ⟨k, rfl, hk0, by omega⟩, ⟨hC.trans hg2, blk_keep hg2.g (by omega) hB⟩, hg2.g⟩
      · obtain ⟨h0, ⟨k, hT2, hk2, hk3⟩, -⟩ := hp
        obtain ⟨B, hT0, hP⟩ := Five.at h0
        have hP := hP k hk2 hk3
        clear h0
        go_simp
        exact ⟨hP, World.grownBy.refl _ _⟩
      · obtain ⟨⟨B, k, x, hT3, hne, hlt, hc, hx⟩, -⟩ := hp
        go_simp
        exact ⟨⟨x, rfl, hx⟩, World.grownBy.refl _ _⟩
      · obtain ⟨⟨x, hx, hx1⟩, ⟨y, hy, hy1⟩, -⟩ := hp
        go_simp
        exact ⟨⟨x, y, rfl, hx1, hy1⟩, World.grownBy.refl _ _⟩
    case hS =>
      intro p v u u' hR hg
      rcases p with _ | _ | _ | _ | _ | _ | _ | _ | _ | _ | p
      all_goals first | exact Five.keep hR hg | exact PtrU.keep hR hg | exact hR
    case hend =>
      intro T wx ⟨n, hn, hC, hB⟩ hR
      obtain ⟨x, y, hT, hx, hy⟩ := hR 10 (by omega)
      clear hR hg hg'
      obtain ⟨c0, c1, c2, f0⟩ := ABlk.cells hB
      clear hB
      go_wp2_with fail
      refine bodyPost_ret (v := vAddr true x y) (by simp [results, Tryd.results14, go_sem, c0, c1, c2, vAddr]) rfl ⟨true, x, y, rfl, ⟨hx, hy, by simp⟩, ?_⟩
      exact (hC.mono (by omega)).set3 (Nat.le_refl _) hblt _ _ _
  · refine (next_gen b (m + 1) _ _ (hg'.s.alloc _) (by omega) (by omega)).mono ?_
    rintro e w2 ⟨k2, rfl, ⟨hk20, hk21⟩, hg2⟩
    have hF : Five b M32 (.slice (some ⟨w1.heap.size, 0, none⟩) 5 5) w2 := Five.keep (w := w1.alloc (.cells #[.int .u64 0, .int .u64 1, .int .u64 4294967295, .int .u64 2130706433, .int .u64 3232235521] 26 (0, 0))) ⟨w1.heap.size, _, _, _, _, _, rfl, by have := hg'.s.lt; omega, heap_alloc_new w1 _, by unfold Up; decide, by unfold Up; decide, by unfold Up; decide, by unfold Up; decide, by unfold Up; decide⟩ hg2.g
    have hA : ABlk w2 w.heap.size := blk_keep hg2.g (by omega) ((Below.heap_alloc _ _ _ (lt_of_block Hblk.out)).trans Hblk.out)
    obtain ⟨c0, c1, c2, f0⟩ := hA.cells
    obtain ⟨B, hB, hP⟩ := hF.at
    injection hB with hB
    injection hB with hB
    injection hB with hB
    subst hB
    obtain ⟨B', k', x, hv, hne, hlt, hc, hx⟩ := hP k2 hk20 (by omega)
    injection hv with hv
    injection hv with hv
    injection hv with hv hv2
    subst hv hv2
    have hgg := (hg'.alloc (.cells #[.int .u64 0, .int .u64 1, .int .u64 4294967295, .int .u64 2130706433, .int .u64 3232235521] 26 (0, 0))).trans hg2
    have hk5 : k2 < 5 := by omega
    clear hP hF hA hg hg' hg2 Hblk
    go_wp2_with fail
    refine bodyPost_ret (v := vAddr false 0 x) (by simp [results, Tryd.results14, go_sem, c0, c1, c2, vAddr]) rfl ⟨false, 0, x, rfl, ⟨by unfold U64; decide, ⟨hx.1, Int.le_trans hx.2 (by decide)⟩, fun _ => ⟨rfl, hx.2⟩⟩, ?_⟩
    exact (hgg.mono (by omega)).set3 (Nat.le_refl _) hblt _ _ _
  · refine (range_gen b (m + 1) _ _ _ hg'.s (by omega) (by omega) (by omega)).mono ?_
    rintro e w2 ⟨k2, rfl, ⟨hk20, hk21⟩, hg2⟩
    have hA : ABlk w2 w.heap.size := blk_keep hg2.g (by omega) Hblk.out
    obtain ⟨c0, c1, c2, f0⟩ := hA.cells
    have hgg := hg'.trans hg2
    clear hA hg hg' hg2 Hblk
    go_wp2_with fail
    refine bodyPost_ret (v := vAddr false 0 (k2 * 251 % 4294967296)) (by simp [results, Tryd.results14, go_sem, c0, c1, c2, vAddr]) rfl ⟨false, 0, _, rfl, ⟨by unfold U64; decide, ⟨by omega, by omega⟩, fun _ => ⟨rfl, by omega⟩⟩, ?_⟩
    exact (hgg.mono (by omega)).set3 (Nat.le_refl _) hblt _ _ _
  · refine (range_gen b (m + 1) _ _ _ hg'.s (by omega) (by omega) (by omega)).mono ?_
    rintro e w2 ⟨k2, rfl, ⟨hk20, hk21⟩, hg2⟩
    have hA : ABlk w2 w.heap.size := blk_keep hg2.g (by omega) Hblk.out
    obtain ⟨c0, c1, c2, f0⟩ := hA.cells
    have hgg := hg'.trans hg2
    clear hA hg hg' hg2 Hblk
    go_wp2_with fail
    refine bodyPost_ret (v := vAddr false 0 (167772160 + k2)) (by simp [results, Tryd.results14, go_sem, c0, c1, c2, vAddr]) rfl ⟨false, 0, _, rfl, ⟨by unfold U64; decide, ⟨by omega, by omega⟩, fun _ => ⟨rfl, by omega⟩⟩, ?_⟩
    exact (hgg.mono (by omega)).set3 (Nat.le_refl _) hblt _ _ _
end Go.Proofs.YtofjlpnebfijoaaDoor
