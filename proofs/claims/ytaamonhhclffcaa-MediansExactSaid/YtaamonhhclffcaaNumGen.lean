/-
  The reference's stream of numbers (Numbers), and flowing.
-/
import Derived.Test.YtaamonhhclffcaaMedian
namespace Go.Proofs.Ytaamonhhclffcaa
open Go.RowKit Go
set_option linter.unusedVariables false

theorem OwnI.gen {w w' : World} {b B m : Nat} {v : Value} {zs : List Int} (h : OwnI w B v zs) (hg : Gen b w w' m) (hb : b < B) : OwnI w' B v zs :=
  World.ownsRow.kept h hg.g (by
    cases hv : v.ownBlock with
    | none => exact .inl rfl
    | some k => exact .inr (by have := own_base h k hv; simp; omega))
theorem OwnI.set {w : World} {B g c : Nat} {zs : List Int} (h : OwnI w B (.slice (some ⟨g, 0, none⟩) zs.length c) zs) (i : Nat) (hi : i < zs.length) (x : Int) :
    OwnI (w.setCell ⟨g, i, none⟩ (.int .i64 x)) B (.slice (some ⟨g, 0, none⟩) zs.length c) (zs.set i x) := by
  rcases h.2 with ⟨hv, _⟩ | ⟨g2, c2, cur, hv, hb, hg, hc, hm, hs, ht⟩
  · cases hv
  · simp at hv
    obtain ⟨rfl, rfl⟩ := hv
    refine ⟨by simp [encIs], .inr ⟨g, c, cur.setIfInBounds i (.int .i64 x), by simp, hb, heap_setCell_same w g i cur _ _ hg, by simpa using hc, hm, by simpa using hs, ?_⟩⟩
    rw [Array.toList_setIfInBounds, List.take_set, List.length_set, ht]
    simp [encIs, List.map_set]
theorem OwnI.frozen {w : World} {B g c n : Nat} {zs : List Int} (h : OwnI w B (.slice (some ⟨g, 0, none⟩) n c) zs) (i : Nat) : w.frozen? ⟨g, i, none⟩ = false := by
  rcases h.2 with ⟨hv, _⟩ | ⟨g2, c2, cur, hv, hb, hg, hc, hm, hs, ht⟩
  · cases hv
  · simp at hv
    obtain ⟨rfl, _⟩ := hv
    exact frozen_of_row w g i cur _ hg

theorem odd_gen2 (b m : Nat) (low high : Int) (w : World) (h : Strm w b m) (hm : m + 2 < 1099511627776) (hl : -4398046511104 ≤ low ∧ low ≤ 4398046511104) (hh : -4398046511104 ≤ high ∧ high ≤ 4398046511104) :
    Calls Try.prog 34 #[.pointer (some ⟨b, 0, none⟩), .int .i64 low, .int .i64 high] w fun e w' => ∃ k : Int, e = .returned (.int .i64 k) ∧ Gen b w w' (m + 2) := by
  go_enter Try.func34, Try.ntmps34
  go_wp2_with fail
  refine (flip_gen b m _ _ h (by omega) (by omega)).mono ?_
  rintro e w1 ⟨k, rfl, hg⟩
  cases k
  · go_wp2_with fail
    refine (range_gen b (m + 1) _ _ _ hg.s (by omega) (by omega) (by omega)).mono ?_
    rintro e w2 ⟨k, rfl, _, hg2⟩
    go_wp2_with fail
    go_ret; exact ⟨_, rfl, hg.trans hg2⟩
  · go_wp2_with fail
    refine (pick_gen b (m + 1) w1.heap.size 0 6 6 [low - 1, high + 1, low, high, -1099511627776, 1099511627776] _ (hg.s.alloc _) (by omega) (by omega) (rdInts_new w1 _ _ _ rfl) (by have := hg.s.lt; omega)).mono ?_
    rintro e w2 ⟨k, rfl, _, hg2⟩
    go_wp2_with fail
    go_ret; exact ⟨_, rfl, (hg.alloc _).trans hg2⟩

set_option maxRecDepth 100000 in
set_option maxHeartbeats 2000000 in
theorem numbers_gen (b m : Nat) (w : World) (h : Strm w b m) (hm : m + 20 < 1099511627776) :
    Calls Try.prog 41 #[.pointer (some ⟨b, 0, none⟩)] w fun e w' => ∃ v zs, e = .returned v ∧ OwnI w' w.heap.size v zs ∧ zs.length ≤ 7 ∧ Gen b w w' (m + 11) := by
  have hblt := h.lt
  go_enter Try.func41, Try.ntmps41
  go_wp2_with fail
  refine (range_gen b m _ _ _ h (by omega) (by omega) (by omega)).mono ?_
  rintro e w1 ⟨K0, rfl, ⟨hK0, hK1⟩, hg⟩
  obtain ⟨K, rfl⟩ := Int.eq_ofNat_of_zero_le hK0
  have hK7 : K ≤ 7 := by omega
  have HG1 := Lib.hid hg
  clear hg hK0 hK1
  go_wp2
  go_loopw [3, 6] (fun s i wr => ∃ (k : Nat) (zs : List Int), k ≤ K ∧ i = .int .i64 k ∧ Hid (OwnI wr w.heap.size s zs) ∧ zs.length = k ∧ Hid (Gen b w wr (m + 1 + k))) (fun _ i _ => K - (intOf i).toNat)
  case atStart => exact ⟨0, [], Nat.zero_le _, rfl, Lib.hid (OwnI.nil _ _), rfl, HG1⟩
  case round =>
    obtain ⟨k, zs, hk, rfl, HO, hl, HG⟩ := hrel
    have Hl := Lib.hid hl
    clear hl
    by_cases hlt : k < K
    · go_wp2_with fail
      refine (pick_new b (m + 1 + k) _ _ _ _ [0, 1, 2, 5, 9, 100, 2000000000000] _ HG.out.s rfl (by omega) rfl (by decide) rfl).mono ?_
      rintro e w2 ⟨x, rfl, _, hg⟩
      have HO2 := Lib.hid (HO.out.gen hg hblt)
      have HG2 := Lib.hid (HG.out.trans hg)
      clear hg HO HG
      go_wp2_with (at_builtin; refine wpList_app intE rfl (.tmp 8) (.tmp 12) rfl rfl (World.ownsRow.alloc HO2.out _) rfl (src_one_new _ _ _) ?c1 ?c2 ?c3 ?c4 ?_)
      case c1 => intro u hu; simp at hu; subst hu; rfl
      case c2 => have := Hl.out; unfold maxLen; omega
      case c3 => have := Hl.out; omega
      case c4 => have := HG2.out.g.size; simp; omega
      intro v' w' hO hG
      have HO' : Hid (OwnI w' w.heap.size v' (zs ++ [x])) := by
        show w'.ownsRow _ _ _ _ _ _
        rw [List.length_append, encIs, List.map_append]
        exact hO
      have HG' : Hid (Gen b w w' (m + 1 + (k + 1))) := Lib.hid (HG2.out.below (hG.allocFirst.below HG2.out.g.size (own_base HO2.out)) (Nat.le_refl _) hblt)
      clear hO hG HO2 HG2
      go_wp2
      exact ⟨⟨k + 1, zs ++ [x], by omega, by go_num, HO', by simp; exact Hl.out, HG'⟩, by simp [intOf]; omega⟩
    · obtain rfl : k = K := by omega
      by_cases hk0 : k = 0
      · subst hk0
        obtain ⟨ad, c, hv, _, _, _⟩ := own_form HO.out
        rw [Hl.out] at hv
        subst hv
        go_wp2_with fail
        go_ret
        exact ⟨_, zs, rfl, HO.out, by have := Hl.out; omega, HG.out.mono (by omega)⟩
      · obtain ⟨g1, c1, cur, hv, hb1, _, hR, hc1, hm1⟩ := HO.out.slice (by have := Hl.out; omega)
        have hk1 : 0 < k := by omega
        rw [Hl.out] at hv hR hc1
        subst hv
        have HR := Lib.hid hR
        clear hR
        go_wp2_with fail
        refine (flip_gen b (m + 1 + k) _ _ HG.out.s (by omega) (by omega)).mono ?_
        rintro e w2 ⟨kk, rfl, hg⟩
        have HO2 := Lib.hid (HO.out.gen hg hblt)
        have HG2 := Lib.hid (HG.out.trans hg)
        clear hg HO HG
        cases kk
        · go_wp2_with fail
          go_ret
          exact ⟨_, zs, rfl, HO2.out, by have := Hl.out; omega, HG2.out.mono (by omega)⟩
        · go_wp2_with fail
          refine (odd_gen2 b (m + 1 + k + 1) _ _ _ HG2.out.s (by omega) (by omega) (by omega)).mono ?_
          rintro e w3 ⟨x, rfl, hg⟩
          have HO3 := Lib.hid (HO2.out.gen hg hblt)
          have HG3 := Lib.hid (HG2.out.trans hg)
          have hf := HO3.out.frozen
          have hlt1 : g1 < w3.heap.size := own_lt HO3.out g1 rfl
          have hO4 := HO3.out
          rw [← Hl.out] at hO4
          have hO5 := hO4.set 0 (by have := Hl.out; omega) x
          rw [Hl.out] at hO5
          have HO5 := Lib.hid hO5
          obtain ⟨y, hc⟩ : ∃ y, w3.cell? ⟨g1, 0, none⟩ = some (.int .i64 y) := by
            obtain ⟨g2, c2, _, hv, _, _, hR2, _⟩ := hO4.slice (by have := Hl.out; omega)
            have := hR2.2.2 0 (by have := Hl.out; omega)
            simp at hv
            rw [← hv.1] at this
            exact ⟨_, this⟩
          clear hg HO2 HG2 hO4 hO5
          go_wp2_with fail
          go_ret
          refine ⟨_, zs.set 0 x, rfl, HO5.out, by rw [List.length_set]; have := Hl.out; omega, (HG3.out.setCell ⟨g1, 0, none⟩ _ hb1 (by simp only; omega)).mono (by omega)⟩

theorem nFault_three : nFault [1, 2, 9] = 0 := by decide
theorem mid_three : fracN (mid [1, 2, 9]) 2 = 2 ∧ fracD (mid [1, 2, 9]) 2 = 1 := by
  have : mid [1, 2, 9] = 4 := by
    unfold mid sortI
    rw [List.mergeSort_of_pairwise (by decide)]
    rfl
  rw [this]
  decide

set_option maxRecDepth 100000 in
set_option maxHeartbeats 1000000 in
theorem flowing_any (w : World) : Calls Try.prog 45 #[] w (Ret (.bool true) w) := by
  have HR := Lib.hid (rdInts_new w 3 [1, 2, 9] #[.int .i64 1, .int .i64 2, .int .i64 9] rfl)
  have HB := Lib.hid (below_alloc (Below.refl w.heap.size w) (.cells #[.int .i64 1, .int .i64 2, .int .i64 9] 3 (0, 0)))
  go_enter Try.func45, Try.ntmps45
  go_wp2_with fail
  refine (median_good w.heap.size 0 3 3 _ _ HR.out (by omega) nFault_three).mono ?_
  rintro e w2 ⟨rfl, hB⟩
  rw [mid_three.1, mid_three.2]
  have HB2 := Lib.hid (HB.out.trans (hB.mono (by simp)))
  clear hB HB HR
  go_wp2
  go_ret
  exact ⟨rfl, by repeat (first | exact HB2.out | apply below_alloc | apply below_drewN | refine below_set ?_ (HB2.out.size) _ _)⟩
end Go.Proofs.Ytaamonhhclffcaa
