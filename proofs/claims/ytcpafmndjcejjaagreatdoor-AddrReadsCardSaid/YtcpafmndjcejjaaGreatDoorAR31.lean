/-
  The eight groups of an address: groupsOf of the program and of the reference.
-/
import Derived.Test.YtcpafmndjcejjaaGreatDoorAR27
set_option linter.unusedVariables false
namespace Go.Proofs.YtcpafmndjcejjaaGreatDoor
open Go.RowKit Go
set_option linter.unusedVariables false

def G8 (g : Nat → Nat) : Array Value := #[.int .u64 ((g 7 : Nat) : Int), .int .u64 ((g 6 : Nat) : Int), .int .u64 ((g 5 : Nat) : Int), .int .u64 ((g 4 : Nat) : Int), .int .u64 ((g 3 : Nat) : Int), .int .u64 ((g 2 : Nat) : Int), .int .u64 ((g 1 : Nat) : Int), .int .u64 ((g 0 : Nat) : Int)]
def I8 (g : Nat → Nat) : List Int := [((g 7 : Nat) : Int), ((g 6 : Nat) : Int), ((g 5 : Nat) : Int), ((g 4 : Nat) : Int), ((g 3 : Nat) : Int), ((g 2 : Nat) : Int), ((g 1 : Nat) : Int), ((g 0 : Nat) : Int)]
set_option maxRecDepth 100000 in
set_option maxHeartbeats 2000000 in
theorem groupsA_any (hi lo : Nat) (w : World) (h1 : hi < 18446744073709551616) (h2 : lo < 18446744073709551616) : Calls Tryz.prog 58 #[.agg #[.bool true, .int .u64 (hi : Int), .int .u64 (lo : Int)]] w (Ret (.agg (G8 (dg hi lo))) w) := by
  have h0 : Go.bits .and .u64 ((hi : Int) / 281474976710656) 65535 = ((dg hi lo 7 : Nat) : Int) := by rw [show (hi : Int) / 281474976710656 = ((hi / 281474976710656 : Nat) : Int) by omega, u64_and65535]; rfl
  have h1 : Go.bits .and .u64 ((hi : Int) / 4294967296) 65535 = ((dg hi lo 6 : Nat) : Int) := by rw [show (hi : Int) / 4294967296 = ((hi / 4294967296 : Nat) : Int) by omega, u64_and65535]; rfl
  have h2 : Go.bits .and .u64 ((hi : Int) / 65536) 65535 = ((dg hi lo 5 : Nat) : Int) := by rw [show (hi : Int) / 65536 = ((hi / 65536 : Nat) : Int) by omega, u64_and65535]; rfl
  have h3 : Go.bits .and .u64 (hi : Int) 65535 = ((dg hi lo 4 : Nat) : Int) := by rw [u64_and65535]; rfl
  have l0 : Go.bits .and .u64 ((lo : Int) / 281474976710656) 65535 = ((dg hi lo 3 : Nat) : Int) := by rw [show (lo : Int) / 281474976710656 = ((lo / 281474976710656 : Nat) : Int) by omega, u64_and65535]; rfl
  have l1 : Go.bits .and .u64 ((lo : Int) / 4294967296) 65535 = ((dg hi lo 2 : Nat) : Int) := by rw [show (lo : Int) / 4294967296 = ((lo / 4294967296 : Nat) : Int) by omega, u64_and65535]; rfl
  have l2 : Go.bits .and .u64 ((lo : Int) / 65536) 65535 = ((dg hi lo 1 : Nat) : Int) := by rw [show (lo : Int) / 65536 = ((lo / 65536 : Nat) : Int) by omega, u64_and65535]; rfl
  have l3 : Go.bits .and .u64 (lo : Int) 65535 = ((dg hi lo 0 : Nat) : Int) := by rw [u64_and65535]; rfl
  have hG : G8 (dg hi lo) = #[.int .u64 ((dg hi lo 7 : Nat) : Int), .int .u64 ((dg hi lo 6 : Nat) : Int), .int .u64 ((dg hi lo 5 : Nat) : Int), .int .u64 ((dg hi lo 4 : Nat) : Int), .int .u64 ((dg hi lo 3 : Nat) : Int), .int .u64 ((dg hi lo 2 : Nat) : Int), .int .u64 ((dg hi lo 1 : Nat) : Int), .int .u64 ((dg hi lo 0 : Nat) : Int)] := rfl
  rw [hG]
  clear hG
  generalize dg hi lo 0 = g0 at *
  generalize dg hi lo 1 = g1 at *
  generalize dg hi lo 2 = g2 at *
  generalize dg hi lo 3 = g3 at *
  generalize dg hi lo 4 = g4 at *
  generalize dg hi lo 5 = g5 at *
  generalize dg hi lo 6 = g6 at *
  generalize dg hi lo 7 = g7 at *
  go_enter Tryz.func58, Tryz.ntmps58
  go_wp2_with fail
  refine wp_loop_rounds 5 ?_
  rw [rounds_succ]
  go_wp2_with (rw [rounds_succ])
  refine bodyPost_ret (v := .agg #[.int .u64 (g7 : Int), .int .u64 (g6 : Int), .int .u64 (g5 : Int), .int .u64 (g4 : Int), .int .u64 (g3 : Int), .int .u64 (g2 : Int), .int .u64 (g1 : Int), .int .u64 (g0 : Int)]) (by simp [results, Tryz.results58, go_sem]) rfl ⟨rfl, below_alloc (below_alloc (below_alloc (Below.refl _ _) _) _) _⟩
/-- an own row of ints -/
def OwnN (w : World) (base : Nat) (v : Value) (L : List Int) : Prop := w.ownsRow base 3 1 v L.length (L.map (Value.int .i64))
theorem intE : EI Tryz.prog 22 3 1 8 := EI.mk' (z := .int .i64 0) Tryz.underlying22 (by kernel_rfl) rfl (by decide)
theorem OwnN.nil (w : World) (base : Nat) : OwnN w base (.slice none 0 0) [] := World.ownsRow_nil w base _ 1
theorem OwnN.later {w w' : World} {base : Nat} {v : Value} {L : List Int} (h : OwnN w base v L) (hb : Below w.heap.size w w') : OwnN w' base v L := own_later h hb
theorem OwnN.snoc {w : World} {B : Nat} {v : Value} {L : List Int} {x : Int} (h : w.ownsRow B 3 1 v (L.length + 1) (L.map (Value.int .i64) ++ [.int .i64 x])) : OwnN w B v (L ++ [x]) := by
  show w.ownsRow _ _ _ _ _ _
  rw [List.length_append, List.map_append]
  exact h
theorem OwnN.one {w : World} {B : Nat} {v : Value} {L : List Int} (h : OwnN w B v L) (hl : 1 ≤ L.length) :
    ∃ g c, v = .slice (some ⟨g, 0, none⟩) L.length c ∧ B ≤ g ∧ g < w.heap.size ∧ L.length ≤ c ∧ c ≤ maxLen ∧ ∀ (j : Nat) x, L[j]? = some x → w.cell? ⟨g, j, none⟩ = some (.int .i64 x) := by
  rcases h.2 with ⟨rfl, h0⟩ | ⟨g, cap, cur, rfl, hb, hg, hc, hm, hs, ht⟩
  · omega
  · refine ⟨g, cap, rfl, hb, lt_of_block hg, hc, hm, fun j x hx => ?_⟩
    have hj : j < L.length := by
      rcases Nat.lt_or_ge j L.length with h | h
      · exact h
      · rw [List.getElem?_eq_none h] at hx; cases hx
    rw [cell_of_row w g _ _ _ _ hg]
    have h2 : (L.map (Value.int .i64))[j]? = some (.int .i64 x) := by simp [hx]
    rw [← ht, List.getElem?_take, if_pos (by omega), Array.getElem?_toList] at h2
    exact h2
set_option maxRecDepth 100000 in
set_option maxHeartbeats 2000000 in
theorem groupsQ_any (hi lo : Nat) (w : World) (h1 : hi < 18446744073709551616) (h2 : lo < 18446744073709551616) : Calls Tryz.prog 52 #[.agg #[.bool true, .int .u64 (hi : Int), .int .u64 (lo : Int)]] w fun e w' => ∃ g c, e = .returned (.slice (some ⟨g, 0, none⟩) 8 c) ∧ g < w'.heap.size ∧ (∀ (j : Nat) x, (I8 (dg hi lo))[j]? = some x → w'.cell? ⟨g, j, none⟩ = some (.int .i64 x)) ∧ Below w.heap.size w w' := by
  have HOf := Lib.hid fun wx => of_any true hi lo wx h1 h2
  rw [wCells_wv] at HOf
  unfold vA at HOf
  have hI : I8 (dg hi lo) = [((dg hi lo 7 : Nat) : Int), ((dg hi lo 6 : Nat) : Int), ((dg hi lo 5 : Nat) : Int), ((dg hi lo 4 : Nat) : Int), ((dg hi lo 3 : Nat) : Int), ((dg hi lo 2 : Nat) : Int), ((dg hi lo 1 : Nat) : Int), ((dg hi lo 0 : Nat) : Int)] := rfl
  rw [hI]
  clear hI
  have q0 := wv_get true (dg hi lo) 0 (by decide)
  have Q0 := Lib.hid q0
  clear q0
  generalize dg hi lo 0 = g0 at *
  have q1 := wv_get true (dg hi lo) 1 (by decide)
  have Q1 := Lib.hid q1
  clear q1
  generalize dg hi lo 1 = g1 at *
  have q2 := wv_get true (dg hi lo) 2 (by decide)
  have Q2 := Lib.hid q2
  clear q2
  generalize dg hi lo 2 = g2 at *
  have q3 := wv_get true (dg hi lo) 3 (by decide)
  have Q3 := Lib.hid q3
  clear q3
  generalize dg hi lo 3 = g3 at *
  have q4 := wv_get true (dg hi lo) 4 (by decide)
  have Q4 := Lib.hid q4
  clear q4
  generalize dg hi lo 4 = g4 at *
  have q5 := wv_get true (dg hi lo) 5 (by decide)
  have Q5 := Lib.hid q5
  clear q5
  generalize dg hi lo 5 = g5 at *
  have q6 := wv_get true (dg hi lo) 6 (by decide)
  have Q6 := Lib.hid q6
  clear q6
  generalize dg hi lo 6 = g6 at *
  have q7 := wv_get true (dg hi lo) 7 (by decide)
  have Q7 := Lib.hid q7
  clear q7
  generalize dg hi lo 7 = g7 at *
  have HP : Hid (Blk (w.alloc (.cells #[.bool true, .int .u64 (hi : Int), .int .u64 (lo : Int)] 29 (0, 0))) w.heap.size 29 #[.bool true, .int .u64 (hi : Int), .int .u64 (lo : Int)]) := Lib.hid (Blk.new w _ _)
  have HB : Hid (Below w.heap.size w (w.alloc (.cells #[.bool true, .int .u64 (hi : Int), .int .u64 (lo : Int)] 29 (0, 0)))) := Lib.hid (below_alloc (Below.refl _ _) _)
  go_enter Tryz.func52, Tryz.ntmps52
  go_upto_region 1 with fail
  generalize w.alloc (.cells #[.bool true, .int .u64 (hi : Int), .int .u64 (lo : Int)] 29 (0, 0)) = w0 at *
  have p0 := HP.out.cell 0
  have p1 := HP.out.cell 1
  have p2 := HP.out.cell 2
  simp at p0 p1 p2
  go_wp2_with fail
  refine (HOf.out _).mono ?_
  rintro e w1 ⟨rfl, hb⟩
  have hw1 : w.heap.size ≤ w1.heap.size := Nat.le_trans HB.out.size hb.size
  have HB1 : Hid (Below w.heap.size w (w1.alloc (.cells #[.int .i64 0, .int .i64 0, .int .i64 0, .int .i64 0, .int .i64 0, .int .i64 0, .int .i64 0, .int .i64 0, .int .i64 0] 86 (0, 0)))) := Lib.hid (below_alloc (HB.out.trans (hb.mono HB.out.size)) _)
  have HB2 := Lib.hid (belowRow HB1.out hw1 (wv true (dg hi lo)))
  have HZ : Hid (Blk (w1.alloc (.cells #[.int .i64 0, .int .i64 0, .int .i64 0, .int .i64 0, .int .i64 0, .int .i64 0, .int .i64 0, .int .i64 0, .int .i64 0] 86 (0, 0))) w1.heap.size 86 #[.int .i64 0, .int .i64 0, .int .i64 0, .int .i64 0, .int .i64 0, .int .i64 0, .int .i64 0, .int .i64 0, .int .i64 0]) := Lib.hid (Blk.new w1 _ _)
  have HW2 : Hid (Blk ((w1.alloc (.cells #[.int .i64 0, .int .i64 0, .int .i64 0, .int .i64 0, .int .i64 0, .int .i64 0, .int .i64 0, .int .i64 0, .int .i64 0] 86 (0, 0))).setRow w1.heap.size (wv true (dg hi lo))) w1.heap.size 86 (wv true (dg hi lo))) := Lib.hid (HZ.out.row _)
  clear hb HB HP p0 p1 p2 HOf HB1
  go_upto_region 2 with (refine wpList_store_row rfl 86 (.tmp 3) (.tmp 7) rfl w1.heap.size (wv true (dg hi lo)) rfl rfl 86 #[.int .i64 0, .int .i64 0, .int .i64 0, .int .i64 0, .int .i64 0, .int .i64 0, .int .i64 0, .int .i64 0, .int .i64 0] HZ.out (by kernel_rfl) rfl (wv_one _ _) ?_)
  clear HZ
  generalize (w1.alloc (.cells #[.int .i64 0, .int .i64 0, .int .i64 0, .int .i64 0, .int .i64 0, .int .i64 0, .int .i64 0, .int .i64 0, .int .i64 0] 86 (0, 0))).setRow w1.heap.size (wv true (dg hi lo)) = w2 at *
  generalize w1.heap.size = V at *
  go_wp2
  go_loopw [4, 5] (fun v i wr => ∃ k : Nat, k ≤ 8 ∧ i = .int .i64 ((7 : Int) - k) ∧ Hid (OwnN wr w2.heap.size v (([(g7 : Int), (g6 : Int), (g5 : Int), (g4 : Int), (g3 : Int), (g2 : Int), (g1 : Int), (g0 : Int)] : List Int).take k)) ∧ Hid (Below w2.heap.size w2 wr)) (fun _ i _ => (intOf i + 1).toNat)
  case atStart => exact ⟨0, Nat.zero_le _, rfl, Lib.hid (OwnN.nil _ _), Lib.hid (Below.refl _ _)⟩
  case round =>
    obtain ⟨k, hk, rfl, HO, HBr⟩ := hrel
    by_cases hlt : k < 8
    · have hk8 : k = 0 ∨ k = 1 ∨ k = 2 ∨ k = 3 ∨ k = 4 ∨ k = 5 ∨ k = 6 ∨ k = 7 := by omega
      have HWr := Lib.hid (HW2.out.below HBr.out HW2.out.lt)
      rcases hk8 with rfl | rfl | rfl | rfl | rfl | rfl | rfl | rfl
      · have ek : ((7 : Int) - (0 : Nat)) = 7 := by decide
        rw [ek]
        have p := HWr.out.cell 7
        rw [Q7.out] at p
        go_wp2_with (at_builtin; refine wpList_app intE rfl (.tmp 12) (.tmp 16) rfl rfl (World.ownsRow.alloc HO.out _) rfl (src_one_new _ _ _) ?c1 ?c2 ?c3 ?c4 ?_)
        case c1 => first | rfl | (intro u hu; simp at hu; subst hu; rfl)
        case c2 => unfold maxLen; simp
        case c3 => simp
        case c4 => have := HBr.out.size; simp; omega
        intro v' w4 hO hG
        have HO' := Lib.hid (show OwnN w4 w2.heap.size v' (([(g7 : Int), (g6 : Int), (g5 : Int), (g4 : Int), (g3 : Int), (g2 : Int), (g1 : Int), (g0 : Int)] : List Int).take 1) from hO)
        have HB' : Hid (Below w2.heap.size w2 w4) := Lib.hid ((Below.alloc HBr.out HBr.out.size _).trans (hG.below (by have := HBr.out.size; simp; omega) (own_base HO.out)))
        clear hO hG p HBr HO HWr
        go_wp2
        exact ⟨⟨1, by decide, rfl, HO', HB'⟩, by simp [intOf]⟩
      · have ek : ((7 : Int) - (1 : Nat)) = 6 := by decide
        rw [ek]
        have p := HWr.out.cell 6
        rw [Q6.out] at p
        go_wp2_with (at_builtin; refine wpList_app intE rfl (.tmp 12) (.tmp 16) rfl rfl (World.ownsRow.alloc HO.out _) rfl (src_one_new _ _ _) ?c1 ?c2 ?c3 ?c4 ?_)
        case c1 => first | rfl | (intro u hu; simp at hu; subst hu; rfl)
        case c2 => unfold maxLen; simp
        case c3 => simp
        case c4 => have := HBr.out.size; simp; omega
        intro v' w4 hO hG
        have HO' := Lib.hid (show OwnN w4 w2.heap.size v' (([(g7 : Int), (g6 : Int), (g5 : Int), (g4 : Int), (g3 : Int), (g2 : Int), (g1 : Int), (g0 : Int)] : List Int).take 2) from hO)
        have HB' : Hid (Below w2.heap.size w2 w4) := Lib.hid ((Below.alloc HBr.out HBr.out.size _).trans (hG.below (by have := HBr.out.size; simp; omega) (own_base HO.out)))
        clear hO hG p HBr HO HWr
        go_wp2
        exact ⟨⟨2, by decide, rfl, HO', HB'⟩, by simp [intOf]⟩
      · have ek : ((7 : Int) - (2 : Nat)) = 5 := by decide
        rw [ek]
        have p := HWr.out.cell 5
        rw [Q5.out] at p
        go_wp2_with (at_builtin; refine wpList_app intE rfl (.tmp 12) (.tmp 16) rfl rfl (World.ownsRow.alloc HO.out _) rfl (src_one_new _ _ _) ?c1 ?c2 ?c3 ?c4 ?_)
        case c1 => first | rfl | (intro u hu; simp at hu; subst hu; rfl)
        case c2 => unfold maxLen; simp
        case c3 => simp
        case c4 => have := HBr.out.size; simp; omega
        intro v' w4 hO hG
        have HO' := Lib.hid (show OwnN w4 w2.heap.size v' (([(g7 : Int), (g6 : Int), (g5 : Int), (g4 : Int), (g3 : Int), (g2 : Int), (g1 : Int), (g0 : Int)] : List Int).take 3) from hO)
        have HB' : Hid (Below w2.heap.size w2 w4) := Lib.hid ((Below.alloc HBr.out HBr.out.size _).trans (hG.below (by have := HBr.out.size; simp; omega) (own_base HO.out)))
        clear hO hG p HBr HO HWr
        go_wp2
        exact ⟨⟨3, by decide, rfl, HO', HB'⟩, by simp [intOf]⟩
      · have ek : ((7 : Int) - (3 : Nat)) = 4 := by decide
        rw [ek]
        have p := HWr.out.cell 4
        rw [Q4.out] at p
        go_wp2_with (at_builtin; refine wpList_app intE rfl (.tmp 12) (.tmp 16) rfl rfl (World.ownsRow.alloc HO.out _) rfl (src_one_new _ _ _) ?c1 ?c2 ?c3 ?c4 ?_)
        case c1 => first | rfl | (intro u hu; simp at hu; subst hu; rfl)
        case c2 => unfold maxLen; simp
        case c3 => simp
        case c4 => have := HBr.out.size; simp; omega
        intro v' w4 hO hG
        have HO' := Lib.hid (show OwnN w4 w2.heap.size v' (([(g7 : Int), (g6 : Int), (g5 : Int), (g4 : Int), (g3 : Int), (g2 : Int), (g1 : Int), (g0 : Int)] : List Int).take 4) from hO)
        have HB' : Hid (Below w2.heap.size w2 w4) := Lib.hid ((Below.alloc HBr.out HBr.out.size _).trans (hG.below (by have := HBr.out.size; simp; omega) (own_base HO.out)))
        clear hO hG p HBr HO HWr
        go_wp2
        exact ⟨⟨4, by decide, rfl, HO', HB'⟩, by simp [intOf]⟩
      · have ek : ((7 : Int) - (4 : Nat)) = 3 := by decide
        rw [ek]
        have p := HWr.out.cell 3
        rw [Q3.out] at p
        go_wp2_with (at_builtin; refine wpList_app intE rfl (.tmp 12) (.tmp 16) rfl rfl (World.ownsRow.alloc HO.out _) rfl (src_one_new _ _ _) ?c1 ?c2 ?c3 ?c4 ?_)
        case c1 => first | rfl | (intro u hu; simp at hu; subst hu; rfl)
        case c2 => unfold maxLen; simp
        case c3 => simp
        case c4 => have := HBr.out.size; simp; omega
        intro v' w4 hO hG
        have HO' := Lib.hid (show OwnN w4 w2.heap.size v' (([(g7 : Int), (g6 : Int), (g5 : Int), (g4 : Int), (g3 : Int), (g2 : Int), (g1 : Int), (g0 : Int)] : List Int).take 5) from hO)
        have HB' : Hid (Below w2.heap.size w2 w4) := Lib.hid ((Below.alloc HBr.out HBr.out.size _).trans (hG.below (by have := HBr.out.size; simp; omega) (own_base HO.out)))
        clear hO hG p HBr HO HWr
        go_wp2
        exact ⟨⟨5, by decide, rfl, HO', HB'⟩, by simp [intOf]⟩
      · have ek : ((7 : Int) - (5 : Nat)) = 2 := by decide
        rw [ek]
        have p := HWr.out.cell 2
        rw [Q2.out] at p
        go_wp2_with (at_builtin; refine wpList_app intE rfl (.tmp 12) (.tmp 16) rfl rfl (World.ownsRow.alloc HO.out _) rfl (src_one_new _ _ _) ?c1 ?c2 ?c3 ?c4 ?_)
        case c1 => first | rfl | (intro u hu; simp at hu; subst hu; rfl)
        case c2 => unfold maxLen; simp
        case c3 => simp
        case c4 => have := HBr.out.size; simp; omega
        intro v' w4 hO hG
        have HO' := Lib.hid (show OwnN w4 w2.heap.size v' (([(g7 : Int), (g6 : Int), (g5 : Int), (g4 : Int), (g3 : Int), (g2 : Int), (g1 : Int), (g0 : Int)] : List Int).take 6) from hO)
        have HB' : Hid (Below w2.heap.size w2 w4) := Lib.hid ((Below.alloc HBr.out HBr.out.size _).trans (hG.below (by have := HBr.out.size; simp; omega) (own_base HO.out)))
        clear hO hG p HBr HO HWr
        go_wp2
        exact ⟨⟨6, by decide, rfl, HO', HB'⟩, by simp [intOf]⟩
      · have ek : ((7 : Int) - (6 : Nat)) = 1 := by decide
        rw [ek]
        have p := HWr.out.cell 1
        rw [Q1.out] at p
        go_wp2_with (at_builtin; refine wpList_app intE rfl (.tmp 12) (.tmp 16) rfl rfl (World.ownsRow.alloc HO.out _) rfl (src_one_new _ _ _) ?c1 ?c2 ?c3 ?c4 ?_)
        case c1 => first | rfl | (intro u hu; simp at hu; subst hu; rfl)
        case c2 => unfold maxLen; simp
        case c3 => simp
        case c4 => have := HBr.out.size; simp; omega
        intro v' w4 hO hG
        have HO' := Lib.hid (show OwnN w4 w2.heap.size v' (([(g7 : Int), (g6 : Int), (g5 : Int), (g4 : Int), (g3 : Int), (g2 : Int), (g1 : Int), (g0 : Int)] : List Int).take 7) from hO)
        have HB' : Hid (Below w2.heap.size w2 w4) := Lib.hid ((Below.alloc HBr.out HBr.out.size _).trans (hG.below (by have := HBr.out.size; simp; omega) (own_base HO.out)))
        clear hO hG p HBr HO HWr
        go_wp2
        exact ⟨⟨7, by decide, rfl, HO', HB'⟩, by simp [intOf]⟩
      · have ek : ((7 : Int) - (7 : Nat)) = 0 := by decide
        rw [ek]
        have p := HWr.out.cell 0
        rw [Q0.out] at p
        go_wp2_with (at_builtin; refine wpList_app intE rfl (.tmp 12) (.tmp 16) rfl rfl (World.ownsRow.alloc HO.out _) rfl (src_one_new _ _ _) ?c1 ?c2 ?c3 ?c4 ?_)
        case c1 => first | rfl | (intro u hu; simp at hu; subst hu; rfl)
        case c2 => unfold maxLen; simp
        case c3 => simp
        case c4 => have := HBr.out.size; simp; omega
        intro v' w4 hO hG
        have HO' := Lib.hid (show OwnN w4 w2.heap.size v' (([(g7 : Int), (g6 : Int), (g5 : Int), (g4 : Int), (g3 : Int), (g2 : Int), (g1 : Int), (g0 : Int)] : List Int).take 8) from hO)
        have HB' : Hid (Below w2.heap.size w2 w4) := Lib.hid ((Below.alloc HBr.out HBr.out.size _).trans (hG.below (by have := HBr.out.size; simp; omega) (own_base HO.out)))
        clear hO hG p HBr HO HWr
        go_wp2
        exact ⟨⟨8, by decide, rfl, HO', HB'⟩, by simp [intOf]⟩
    · obtain rfl : k = 8 := by omega
      have ek : ((7 : Int) - (8 : Nat)) = -1 := by decide
      rw [ek]
      obtain ⟨g, c, hv, _, hg, hc, _, hcell⟩ := HO.out.one (by simp)
      have hv' : u4 = .slice (some ⟨g, 0, none⟩) 8 c := hv
      have HC := Lib.hid hcell
      clear hv hcell hc
      subst hv'
      go_wp2_with fail
      go_ret
      exact ⟨g, c, rfl, hg, HC.out, HB2.out.trans (HBr.out.mono HB2.out.size)⟩
end Go.Proofs.YtcpafmndjcejjaaGreatDoor
