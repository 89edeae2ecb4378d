/-
  The law AddrTexts is true for every slice of ints, the two tables of numerals lying as the program's text lays them.
-/
import Derived.Test.YtofjlpnebfijoaaDoorTxtH
import Derived.Deep.Cut
import Derived.Deep.Light
namespace Go.Proofs.YtofjlpnebfijoaaDoor
open Go.RowKit Go
set_option linter.unusedVariables false

theorem Gen.toBelow4 {b m : Nat} {w u v : World} (h : Gen b u v m) (hw : Below w.heap.size w u) (hb : w.heap.size ≤ b) : Below w.heap.size w v :=
  ⟨h.g.os.trans hw.os, h.g.tape.trans hw.tape, h.g.output.trans hw.output, Nat.le_trans hw.size h.g.size, fun i hi => (h.g.block i (Nat.lt_of_lt_of_le hi hw.size) (by intro e; injection e; omega)).trans (hw.block i hi)⟩
theorem Gen.belowS {b m : Nat} {u v w : World} (h : Gen b u v m) (k : Below v.heap.size v w) (hb : b < v.heap.size) : Gen b u w m := h.below k h.g.size hb
/-- a block of four ints of the region's own, apart from the stream's and the address's -/
def Four4 (b V : Nat) (zs : List Int) (v : Value) (w : World) : Prop := ∃ B, v = .slice (some ⟨B, 0, none⟩) 4 4 ∧ B ≠ b ∧ B ≠ V ∧ w.heap[B]? = some (.cells ((zs.map (Value.int .i64)).toArray) 3 (0, 0))
def IsI (v : Value) : Prop := ∃ k : Int, v = .int .i64 k ∧ 0 ≤ k ∧ k ≤ 65535
theorem Four4.rd {b V : Nat} {zs : List Int} {v : Value} {w : World} (h : Four4 b V zs v w) (hl : zs.length = 4) : ∃ B, v = .slice (some ⟨B, 0, none⟩) 4 4 ∧ B ≠ b ∧ RdInts w B 0 4 zs := by
  obtain ⟨B, rfl, hb, _, hB⟩ := h
  refine ⟨B, rfl, hb, hl, lt_of_block hB, fun i hi => ?_⟩
  rw [Nat.zero_add, cell_of_row w B i _ _ _ hB]
  have hi2 : i < zs.length := by omega
  simp [List.getD, hi2]
theorem up_wrap (x : Int) : Up M64 (IntKind.u64.wrap x) := by
  unfold Up
  rw [IntKind.wrap_u64]
  show 0 ≤ _ ∧ _ ≤ (18446744073709551615 : Int)
  omega
def r7R (b V : Nat) : Nat → Value → World → Prop
  | 0, v, _ => v = .pointer (some ⟨V, 1, none⟩)
  | 1, v, _ => IsU M64 v
  | 2, v, _ => IsU M64 v
  | 3, v, _ => v = .pointer (some ⟨b, 0, none⟩)
  | 4, v, w => Four4 b V [0, 0, 1, 2748] v w
  | 5, v, _ => IsI v
  | 6, v, _ => IsU M64 v
  | 7, v, _ => IsU M64 v
  | 8, v, _ => v = .pointer (some ⟨V, 2, none⟩)
  | 9, v, _ => IsU M64 v
  | 10, v, _ => IsU M64 v
  | 11, v, _ => v = .pointer (some ⟨b, 0, none⟩)
  | 12, v, w => Four4 b V [0, 0, 0, 65535] v w
  | 13, v, _ => IsI v
  | 14, v, _ => IsU M64 v
  | 15, v, _ => IsU M64 v
  | 16, v, _ => v = .pointer (some ⟨V, 1, none⟩)
  | 18, v, _ => v = .pointer (some ⟨V, 2, none⟩)
  | _, _, _ => True
/-- the region keeps what lies neither in the stream's block nor in the address's -/
def keepS (b V : Nat) (u v : World) : Prop := ∀ (i : Nat) o, i ≠ b → i ≠ V → u.heap[i]? = some o → v.heap[i]? = some o
theorem keepS_refl (b V : Nat) (u : World) : keepS b V u u := fun _ _ _ _ h => h
theorem keepS_grown {b V : Nat} {u v : World} (h : u.grownBy v (some b)) : keepS b V u v := fun i o hb _ hi => blk_keep h hb hi
theorem keepS_alloc (b V : Nat) (u : World) (o : Obj) : keepS b V u (u.alloc o) := keepS_grown (World.grownBy_alloc _ _ _)
theorem keepS_set (b V i : Nat) (u : World) (x : Value) : keepS b V u (u.setCell ⟨V, i, none⟩ x) := fun j o _ hV hj => (Below.heap_setCell u ⟨V, i, none⟩ x j hV).trans hj
/-- what is known of the worlds of the loop -/
structure LW (b V : Nat) (w0 : World) (s2 : Bool) (h2 l2 : Int) (m : Nat) (w : World) : Prop where
  gen : Gen b w0 w m
  two : Blk w (V + 1) 28 #[.bool s2, .int .u64 h2, .int .u64 l2]
  one : ∃ x y, Blk w V 28 #[.bool true, .int .u64 x, .int .u64 y] ∧ Up M64 x ∧ Up M64 y
theorem LW.mono {b V : Nat} {w0 : World} {s2 : Bool} {h2 l2 : Int} {m m' : Nat} {w : World} (h : LW b V w0 s2 h2 l2 m w) (hm : m ≤ m') : LW b V w0 s2 h2 l2 m' w := ⟨h.gen.mono hm, h.two, h.one⟩
theorem LW.grown {b V : Nat} {w0 : World} {s2 : Bool} {h2 l2 : Int} {m m' : Nat} {w w' : World} (h : LW b V w0 s2 h2 l2 m w) (hg : Gen b w w' m') (hV : b < V) : LW b V w0 s2 h2 l2 m' w' := by
  obtain ⟨x, y, hb, hx⟩ := h.one
  exact ⟨h.gen.trans hg, h.two.keep hg.g (by omega), x, y, hb.keep hg.g (by omega), hx⟩
theorem LW.alloc {b V : Nat} {w0 : World} {s2 : Bool} {h2 l2 : Int} {m : Nat} {w : World} (h : LW b V w0 s2 h2 l2 m w) (o : Obj) : LW b V w0 s2 h2 l2 m (w.alloc o) := by
  obtain ⟨x, y, hb, hx⟩ := h.one
  exact ⟨h.gen.alloc o, h.two.alloc o, x, y, hb.alloc o, hx⟩
theorem LW.drew {b V : Nat} {w0 : World} {s2 : Bool} {h2 l2 : Int} {m : Nat} {w : World} (h : LW b V w0 s2 h2 l2 m w) : LW b V w0 s2 h2 l2 m w.drew := by
  obtain ⟨x, y, hb, hx⟩ := h.one
  exact ⟨h.gen.drew, h.two.drewN 1, x, y, hb.drewN 1, hx⟩
theorem LW.set1 {b V : Nat} {w0 : World} {s2 : Bool} {h2 l2 : Int} {m : Nat} {w : World} (h : LW b V w0 s2 h2 l2 m w) (hb : b < V) (hw : w0.heap.size ≤ V) {z : Int} (hz : Up M64 z) : LW b V w0 s2 h2 l2 m (w.setCell ⟨V, 1, none⟩ (.int .u64 z)) := by
  obtain ⟨x, y, hB, hx, hy⟩ := h.one
  exact ⟨h.gen.setCell _ _ hw hb, h.two.far (show V + 1 ≠ V by omega) _ _, z, y, hB.set 1 _, hz, hy⟩
theorem LW.set2 {b V : Nat} {w0 : World} {s2 : Bool} {h2 l2 : Int} {m : Nat} {w : World} (h : LW b V w0 s2 h2 l2 m w) (hb : b < V) (hw : w0.heap.size ≤ V) {z : Int} (hz : Up M64 z) : LW b V w0 s2 h2 l2 m (w.setCell ⟨V, 2, none⟩ (.int .u64 z)) := by
  obtain ⟨x, y, hB, hx, hy⟩ := h.one
  exact ⟨h.gen.setCell _ _ hw hb, h.two.far (show V + 1 ≠ V by omega) _ _, x, z, hB.set 2 _, hx, hz⟩
set_option maxRecDepth 100000 in
set_option maxHeartbeats 4000000 in
theorem law_AddrTexts (ad : Option Addr) (n c : Nat) (w : World) (h : LawArg w ad n) (ht : Tabs w) :
    Calls Tryd.prog 3 #[.slice ad n c] w (Ret (.bool true) w) := by
  have hS := LawArg.strm (c := c) h
  have HB0 : Hid (Below w.heap.size w (w.alloc (.cells #[.slice ad n c, .int .i64 0] 25 (0, 0)))) := Lib.hid (below_alloc (Below.refl _ _) _)
  have hblt : w.heap.size < (w.alloc (.cells #[.slice ad n c, .int .i64 0] 25 (0, 0))).heap.size := hS.lt
  have HS := Lib.hid hS
  have HTw := Lib.hid ht
  clear h hS ht
  go_enter Tryd.func3, Tryd.ntmps3
  go_wp2_with fail
  generalize w.alloc (.cells #[.slice ad n c, .int .i64 0] 25 (0, 0)) = w0 at *
  obtain ⟨b, hbw⟩ : ∃ b, w.heap.size = b := ⟨_, rfl⟩
  rw [hbw] at hblt HS HB0 ⊢
  have Hbw := Lib.hid hbw
  clear hbw
  refine (raw_gen b 0 _ HS.out (by omega)).mono ?_
  rintro e w1 ⟨s1, x1, y1, rfl, ⟨hu1, hu2⟩, hg⟩
  obtain ⟨h1, rfl, k1⟩ := nat_of_U64 hu1
  obtain ⟨l1, rfl, k2⟩ := nat_of_U64 hu2
  have HG1 : Hid (Gen b w0 w1 6) := Lib.hid hg
  have HU1 := Lib.hid (And.intro k1 k2)
  clear hg HS k1 k2 hu1 hu2
  go_wp2_with fail
  refine (raw_gen b 6 _ HG1.out.s (by omega)).mono ?_
  rintro e w2 ⟨s2, x2, y2, rfl, ⟨hu1, hu2⟩, hg⟩
  obtain ⟨h2, rfl, k1⟩ := nat_of_U64 hu1
  obtain ⟨l2, rfl, k2⟩ := nat_of_U64 hu2
  have HG2 : Hid (Gen b w0 w2 12) := Lib.hid (HG1.out.trans hg)
  have HU2 := Lib.hid (And.intro k1 k2)
  clear hg HG1 k1 k2 hu1 hu2
  have hw2 : b < w2.heap.size := HG2.out.s.lt
  have hw2' : w0.heap.size ≤ w2.heap.size := HG2.out.g.size
  have HP3 : Hid (Blk ((w2.alloc (.cells #[.bool s1, .int .u64 (h1 : Int), .int .u64 (l1 : Int)] 28 (0, 0))).alloc (.cells #[.bool s2, .int .u64 (h2 : Int), .int .u64 (l2 : Int)] 28 (0, 0))) w2.heap.size 28 #[.bool s1, .int .u64 (h1 : Int), .int .u64 (l1 : Int)]) := Lib.hid ((Blk.new w2 _ _).alloc _)
  have HQ3 : Hid (Blk ((w2.alloc (.cells #[.bool s1, .int .u64 (h1 : Int), .int .u64 (l1 : Int)] 28 (0, 0))).alloc (.cells #[.bool s2, .int .u64 (h2 : Int), .int .u64 (l2 : Int)] 28 (0, 0))) (w2.heap.size + 1) 28 #[.bool s2, .int .u64 (h2 : Int), .int .u64 (l2 : Int)]) := Lib.hid (by
    have := Blk.new (w2.alloc (.cells #[.bool s1, .int .u64 (h1 : Int), .int .u64 (l1 : Int)] 28 (0, 0))) 28 #[.bool s2, .int .u64 (h2 : Int), .int .u64 (l2 : Int)]
    rw [World.size_alloc] at this
    exact this)
  have HG3 : Hid (Gen b w0 ((w2.alloc (.cells #[.bool s1, .int .u64 (h1 : Int), .int .u64 (l1 : Int)] 28 (0, 0))).alloc (.cells #[.bool s2, .int .u64 (h2 : Int), .int .u64 (l2 : Int)] 28 (0, 0))) 12) := Lib.hid ((HG2.out.alloc _).alloc _)
  clear HG2
  unfold vAddr
  go_upto_region 3 with fail
  generalize ((w2.alloc (.cells #[.bool s1, .int .u64 (h1 : Int), .int .u64 (l1 : Int)] 28 (0, 0))).alloc (.cells #[.bool s2, .int .u64 (h2 : Int), .int .u64 (l2 : Int)] 28 (0, 0))) = w3 at *
  generalize w2.heap.size = V at *
  clear w2
  go_wp2_with fail
  refine (flip_gen b 12 _ _ HG3.out.s (by omega) (by omega)).mono ?_
  rintro e w4 ⟨kk, rfl, hg⟩
  have HP4 := Lib.hid (HP3.out.keep hg.g (by omega))
  have HQ4 := Lib.hid (HQ3.out.keep hg.g (by omega))
  have HG4 : Hid (Gen b w0 w4 13) := Lib.hid (HG3.out.trans hg)
  clear hg HP3 HQ3 HG3
  go_upto_if 18 with fail
  go_cut [] (fun wx => ∃ (s : Bool) (h l : Nat), Blk wx V 28 #[.bool s, .int .u64 (h : Int), .int .u64 (l : Int)] ∧ Blk wx (V + 1) 28 #[.bool s2, .int .u64 (h2 : Int), .int .u64 (l2 : Int)] ∧ U64N h ∧ U64N l ∧ Gen b w0 wx 30)
  case first =>
    as_aux_lemma =>
      cases kk
      · go_wp2_with fail
        go_meet
        case rel => exact ⟨s1, h1, l1, HP4.out, HQ4.out, HU1.out.1, HU1.out.2, HG4.out.mono (by omega)⟩
      · have HL5 : Hid (LW b V w0 s2 h2 l2 13 (((w4.setCell ⟨V, 0, none⟩ (.bool true)).setCell ⟨V, 1, none⟩ (.int .u64 0)).setCell ⟨V, 2, none⟩ (.int .u64 0))) := Lib.hid ⟨((HG4.out.setCell _ _ (by simp only; omega) (by simp only; omega)).setCell _ _ (by simp only; omega) (by simp only; omega)).setCell _ _ (by simp only; omega) (by simp only; omega),
          ((HQ4.out.far (show V + 1 ≠ V by omega) _ _).far (show V + 1 ≠ V by omega) _ _).far (show V + 1 ≠ V by omega) _ _, 0, 0, ((HP4.out.set 0 _).set 1 _).set 2 _, by unfold Up; decide, by unfold Up; decide⟩
        have p0 := HP4.out.cell 0
        have p1 := HP4.out.cell 1
        have p2 := HP4.out.cell 2
        simp at p0 p1 p2
        have pf := HP4.out.free
        go_upto_region 5 with fail
        clear p0 p1 p2 pf HP4 HQ4 HG4
        generalize ((w4.setCell ⟨V, 0, none⟩ (.bool true)).setCell ⟨V, 1, none⟩ (.int .u64 0)).setCell ⟨V, 2, none⟩ (.int .u64 0) = w5 at *
        go_wp2_with fail
        go_loopw [20] (fun i wx => ∃ k : Nat, k ≤ 4 ∧ i = .int .i64 (k : Int) ∧ Hid (LW b V w0 s2 h2 l2 (13 + 2 * k) wx)) (fun i _ => 4 - (intOf i).toNat)
        case atStart => exact ⟨0, by omega, rfl, HL5⟩
        case round =>
          obtain ⟨k, hk, rfl, HL⟩ := hrel
          clear HL5
          by_cases hlt : k < 4
          · have hbV : b < V := hw2
            have hwV : w0.heap.size ≤ V := hw2'
            go_wp2_with fail
            refine wp_region_inv 19 2 (r7R b V) (fun n w' => LW b V w0 s2 h2 l2 (13 + 2 * k + n) w') (keepS b V) (fun i => if i = 5 ∨ i = 13 then 1 else 0)
              (by kernel_rfl) (by kernel_rfl) (by decide) ?hS HL.out.drew ?hX
            case' hX => (apply Exists.intro; refine ⟨fun T => ?hA, ?hob, ?hend⟩)
            case hA =>
              simp only [setAll, List.take_succ_cons, List.take_zero, Act.put, List.setIfInBounds_toArray, List.set_cons_succ, List.set_cons_zero, Nat.reduceAdd]
              exact rfl
            case hob =>
              clear HL
              go_light
              refine ⟨?_, ?_, ?_, ?_, ?_, ?_, ?_, ?_, ?_, ?_, ?_, ?_, ?_, ?_, ?_, ?_, ?_, ?_, ?_, trivial⟩
              all_goals (intro T wx n hC hn hp; dsimp only at hn ⊢; unfold Op1)
              · go_simp
                exact ⟨rfl, keepS_refl _ _ _⟩
              · obtain ⟨h0, -⟩ := hp
                have h0 : T 0 = .pointer (some ⟨V, 1, none⟩) := h0
                obtain ⟨x, y, hB, hx, hy⟩ := hC.one
                have p1 := hB.cell 1
                simp at p1
                clear hB
                go_simp
                exact ⟨⟨_, rfl, hx⟩, keepS_refl _ _ _⟩
              · obtain ⟨⟨x, hx, hx1⟩, -⟩ := hp
                go_simp
                exact ⟨⟨_, rfl, up_wrap _⟩, keepS_refl _ _ _⟩
              · go_simp
                exact ⟨rfl, keepS_refl _ _ _⟩
              · go_simp
                exact ⟨⟨wx.heap.size, rfl, by have := hC.gen.s.lt; omega, by have := hC.two.lt; omega, heap_alloc_new wx _⟩, hC.alloc _, keepS_alloc _ _ _ _⟩
              · obtain ⟨h1, h2, -⟩ := hp
                have h1 : T 3 = .pointer (some ⟨b, 0, none⟩) := h1
                obtain ⟨B, hB, hBb, hrd⟩ := Four4.rd h2 rfl
                go_simp
                refine (pick_gen b _ B 0 4 4 [0, 0, 1, 2748] _ hC.gen.s (by simp at hn; omega) (by omega) hrd hBb).mono ?_
                rintro e w2 ⟨k2, rfl, hk2, hg2⟩
                have hk3 : 0 ≤ k2 ∧ k2 ≤ 65535 := by simp at hk2; omega
                exact ⟨_, rfl, ⟨k2, rfl, hk3⟩, hC.grown hg2 hbV, keepS_grown hg2.g⟩
              · obtain ⟨⟨x, hx, hx1⟩, -⟩ := hp
                go_simp
                exact ⟨⟨_, rfl, up_wrap _⟩, keepS_refl _ _ _⟩
              · obtain ⟨⟨x, hx, hx1⟩, ⟨y, hy, hy1⟩, -⟩ := hp
                go_simp
                exact ⟨⟨_, rfl, up_wrap _⟩, keepS_refl _ _ _⟩
              · go_simp
                exact ⟨rfl, keepS_refl _ _ _⟩
              · obtain ⟨h0, -⟩ := hp
                have h0 : T 8 = .pointer (some ⟨V, 2, none⟩) := h0
                obtain ⟨x, y, hB, hx, hy⟩ := hC.one
                have p1 := hB.cell 2
                simp at p1
                clear hB
                go_simp
                exact ⟨⟨_, rfl, hy⟩, keepS_refl _ _ _⟩
              · obtain ⟨⟨x, hx, hx1⟩, -⟩ := hp
                go_simp
                exact ⟨⟨_, rfl, up_wrap _⟩, keepS_refl _ _ _⟩
              · go_simp
                exact ⟨rfl, keepS_refl _ _ _⟩
              · go_simp
                exact ⟨⟨wx.heap.size, rfl, by have := hC.gen.s.lt; omega, by have := hC.two.lt; omega, heap_alloc_new wx _⟩, hC.alloc _, keepS_alloc _ _ _ _⟩
              · obtain ⟨h1, h2, -⟩ := hp
                have h1 : T 11 = .pointer (some ⟨b, 0, none⟩) := h1
                obtain ⟨B, hB, hBb, hrd⟩ := Four4.rd h2 rfl
                go_simp
                refine (pick_gen b _ B 0 4 4 [0, 0, 0, 65535] _ hC.gen.s (by simp at hn; omega) (by omega) hrd hBb).mono ?_
                rintro e w2 ⟨k2, rfl, hk2, hg2⟩
                have hk3 : 0 ≤ k2 ∧ k2 ≤ 65535 := by simp at hk2; omega
                exact ⟨_, rfl, ⟨k2, rfl, hk3⟩, hC.grown hg2 hbV, keepS_grown hg2.g⟩
              · obtain ⟨⟨x, hx, hx1⟩, -⟩ := hp
                go_simp
                exact ⟨⟨_, rfl, up_wrap _⟩, keepS_refl _ _ _⟩
              · obtain ⟨⟨x, hx, hx1⟩, ⟨y, hy, hy1⟩, -⟩ := hp
                go_simp
                exact ⟨⟨_, rfl, up_wrap _⟩, keepS_refl _ _ _⟩
              · go_simp
                exact ⟨rfl, keepS_refl _ _ _⟩
              · obtain ⟨h1, ⟨x, hx, hx1⟩, -⟩ := hp
                have h1 : T 16 = .pointer (some ⟨V, 1, none⟩) := h1
                obtain ⟨x0, y0, hB, hx0, hy0⟩ := hC.one
                have p1 := hB.cell 1
                simp at p1
                have pf := hB.free
                clear hB
                go_simp
                exact ⟨trivial, hC.set1 hbV hwV hx1, keepS_set _ _ _ _ _⟩
              · go_simp
                exact ⟨rfl, keepS_refl _ _ _⟩
            case hS =>
              intro p v u u' hR hg
              rcases p with _ | _ | _ | _ | _ | _ | _ | _ | _ | _ | _ | _ | _ | _ | _ | _ | _ | _ | _ | p
              all_goals first | exact hR | (obtain ⟨B, h1, h2, h3, h4⟩ := hR; exact ⟨B, h1, h2, h3, hg B _ h2 h3 h4⟩)
            case hend =>
              intro T wx ⟨n, hn, hC⟩ hR
              have hT : T 18 = .pointer (some ⟨V, 2, none⟩) := hR 18 (by omega)
              obtain ⟨y, hy, hy1⟩ := hR 15 (by omega)
              have HC := Lib.hid ((hC.mono (show 13 + 2 * k + n ≤ 13 + 2 * (k + 1) by omega)).set2 hbV hwV hy1)
              obtain ⟨x0, y0, hB, -⟩ := hC.one
              have p2 := hB.cell 2
              simp at p2
              have pf := hB.free
              clear hR hC HL hB hy1
              go_wp2_with fail
              go_roundw
              case rel => exact ⟨k + 1, by omega, by go_num, HC⟩
              case measure => simp [intOf]; omega
          · obtain rfl : k = 4 := by omega
            go_wp2_with fail
            go_meet
            case rel =>
              obtain ⟨x, y, hB, hx, hy⟩ := HL.out.one
              obtain ⟨x, rfl, hx2⟩ := nat_of_U64 hx
              obtain ⟨y, rfl, hy2⟩ := nat_of_U64 hy
              exact ⟨true, x, y, hB, HL.out.two, hx2, hy2, HL.out.gen.mono (by omega)⟩
  case rest =>
    as_aux_lemma =>
      obtain ⟨s, h, l, hP, hQ, k1, k2, hG⟩ := hcut
      have hB0 : Below w.heap.size w wc := hG.toBelow4 (w := w) (by rw [Hbw.out]; exact HB0.out) (by rw [Hbw.out]; exact Nat.le_refl _)
      have HB := Lib.hid hB0
      have HT := Lib.hid (HTw.out.below hB0)
      have HP := Lib.hid hP
      have HQ := Lib.hid hQ
      have HTx := Lib.hid fun wx (ht : Tabs wx) => aText_any s h l wx k1 k2 ht
      have HAF := Lib.hid fun wx => addrFault_any s (h : Int) (l : Int) wx (u64_le k1) (u64_le k2)
      have HCA := Lib.hid fun wx => checkAddr_any s (h : Int) (l : Int) wx (u64_le k1) (u64_le k2)
      have HAT := Lib.hid fun hf wx (ht : Tabs wx) => addrText_any s h l wx k1 k2 hf ht
      have HCm := Lib.hid fun wx => aCompare_any s h l s2 h2 l2 wx k1 k2 HU2.out.1 HU2.out.2
      have HOr := Lib.hid fun wx => order_any s h l s2 h2 l2 wx k1 k2 HU2.out.1 HU2.out.2
      have HR : Hid (txtR s h l = if aFault s (h : Int) (l : Int) = 0 then txtA s h l else ⟨#[]⟩) := Lib.hid rfl
      have hv := aFault_vals s (h : Int) (l : Int)
      unfold vAddr at HAF HCA
      clear hB0 hP hQ hG k1 k2 HP4 HQ4 HG4 HU1 HU2 HTw HB0 Hbw hw2 hw2' hblt
      generalize txtR s h l = R at *
      generalize txtA s h l = X at *
      generalize aFault s (h : Int) (l : Int) = F at *
      generalize cN (numA s h l) (numA s2 h2 l2) = C at *
      have p0 := HP.out.cell 0
      have p1 := HP.out.cell 1
      have p2 := HP.out.cell 2
      simp at p0 p1 p2
      go_wp2_with fail
      refine (HTx.out _ HT.out).mono ?_
      rintro e w5 ⟨rfl, hb⟩
      have HP5 := Lib.hid (HP.out.below hb HP.out.lt)
      have HQ5 := Lib.hid (HQ.out.below hb HQ.out.lt)
      have HB5 := Lib.hid (HB.out.trans (hb.mono HB.out.size))
      have HT5 := Lib.hid (HT.out.below hb)
      clear hb HP HQ HB HT HTx p0 p1 p2
      have p0 := HP5.out.cell 0
      have p1 := HP5.out.cell 1
      have p2 := HP5.out.cell 2
      simp at p0 p1 p2
      go_wp2_with fail
      refine (HAF.out _).mono ?_
      rintro e w6 ⟨rfl, o, ho⟩
      have hb : Below w5.heap.size w5 w6 := by rw [ho]; exact below_alloc (Below.refl _ _) _
      clear ho o
      have HP6 := Lib.hid (HP5.out.below hb HP5.out.lt)
      have HQ6 := Lib.hid (HQ5.out.below hb HQ5.out.lt)
      have HB6 := Lib.hid (HB5.out.trans (hb.mono HB5.out.size))
      have HT6 := Lib.hid (HT5.out.below hb)
      clear hb HP5 HQ5 HB5 HT5 HAF p0 p1 p2
      have p0 := HP6.out.cell 0
      have p1 := HP6.out.cell 1
      have p2 := HP6.out.cell 2
      simp at p0 p1 p2
      go_upto_if 49 with fail
      go_cut [9] (fun v wx => v = .string R ∧ Below w6.heap.size w6 wx)
      case first =>
        as_aux_lemma =>
          rcases hv with rfl | rfl
          · have hR := HR.out
            rw [if_pos rfl] at hR
            subst hR
            have HA := Lib.hid (HAT.out rfl _ HT6.out)
            clear HR HAT
            go_wp2_with fail
            refine HA.out.mono ?_
            rintro e w7 ⟨rfl, hb⟩
            go_wp2_with fail
            go_meet
            case rel => exact ⟨rfl, hb⟩
          · have hR := HR.out
            rw [if_neg (by decide)] at hR
            subst hR
            clear HR HAT
            go_wp2_with fail
            go_meet
            case rel => exact ⟨rfl, Below.refl _ _⟩
      case rest =>
        as_aux_lemma =>
          obtain ⟨rfl, hb⟩ := hcut
          obtain ⟨w7, hw7⟩ : ∃ x, x = wc := ⟨wc, rfl⟩
          have HP7 := Lib.hid (HP6.out.below hb HP6.out.lt)
          have HQ7 := Lib.hid (HQ6.out.below hb HQ6.out.lt)
          have HB7 := Lib.hid (HB6.out.trans (hb.mono HB6.out.size))
          rw [← hw7] at HP7 HQ7 HB7 ⊢
          clear hb HP6 HQ6 HB6 HT6 HAT HR hv p0 p1 p2 hw7
          have hP1 := HP7.out.lt
          have hQ1 := HQ7.out.lt
          have p0 := HP7.out.cell 0
          have p1 := HP7.out.cell 1
          have p2 := HP7.out.cell 2
          simp at p0 p1 p2
          have q0 := HQ7.out.cell 0
          have q1 := HQ7.out.cell 1
          have q2 := HQ7.out.cell 2
          simp at q0 q1 q2
          have l0 := Later.cell_of p0
          have l1 := Later.cell_of p1
          have l2 := Later.cell_of p2
          have m0 := Later.cell_of q0
          have m1 := Later.cell_of q1
          have m2 := Later.cell_of q2
          have hCA : ∀ m : Later w7, Calls Tryd.prog 10 #[.agg #[.bool s, .int .u64 (h : Int), .int .u64 (l : Int)]] m.1 fun e w'' => e = .returned (.int .i64 F) ∧ ∃ m : Later w7, w'' = m.1 := fun m => Calls.later m ((HCA.out m.1).mono fun _ _ ⟨h1, o, h2⟩ => ⟨h1, by rw [h2]; exact below_alloc (Below.refl _ _) _⟩)
          have hCm := fun m : Later w7 => Calls.later m (HCm.out m.1)
          have hOr := fun m : Later w7 => Calls.later m (HOr.out m.1)
          have hAd := fun m : Later w7 => Calls.later m (addressed_any m.1)
          clear HCA HCm HOr
          go_upto_region 14 with fail
          refine wp_region_later (by kernel_rfl) (by kernel_rfl) ?_
          repeat (go_big_quiet_step (first | (go_at_call 10; exact hCA _) | (go_at_call 11; exact hCm _) | (go_at_call 12; exact hOr _) | (go_at_call 13; exact hAd _)))
          refine wpQuiet_nil ?_
          rintro w8 ⟨n8, hn8⟩
          have hb : Below w7.heap.size w7 w8 := by rw [hn8]; exact n8.2
          clear hn8 n8
          have HB8 := Lib.hid (HB7.out.trans (hb.mono HB7.out.size))
          go_wp2_with fail
          go_ret
          exact ⟨rfl, HB8.out⟩
end Go.Proofs.YtofjlpnebfijoaaDoor
