/-
  Generators of sets of prefixes.
-/
import Derived.Test.YtcpafmndjcejjaaGreatDoorSE37
import Derived.Test.YtcpafmndjcejjaaGreatDoorSE44
import Derived.BigRegion
set_option linter.unusedVariables false
namespace Go.Proofs.YtcpafmndjcejjaaGreatDoor
open Go.RowKit Go
set_option linter.unusedVariables false

theorem OkPf.u4 {p : Pf} (h : OkPf p) : U64N p.2.1 ∧ U64N p.2.2.1 := ⟨h.ok.1.1, h.ok.1.2.1⟩
theorem u4_ok {L : List Pf} (h : ∀ p ∈ L, OkPf p) : U4 L := fun p hp => (h p hp).u4
set_option maxRecDepth 100000 in
set_option maxHeartbeats 1000000 in
theorem prefixes_gen (b m k : Nat) (w : World) (h : Strm w b m) (hk : k ≤ 1000) (hm : m + 5 * k + 20 < 1099511627776) :
    Calls Tryz.prog 70 #[.pointer (some ⟨b, 0, none⟩), .int .i64 (k : Int)] w fun e w' => ∃ v L, e = .returned v ∧ OwnK layPf w' w.heap.size v L ∧ L.length = k ∧ (∀ p ∈ L, OkPf p) ∧ Gen b w w' (m + 5 * k) := by
  have hblt := h.lt
  have HG0 : Hid (Gen b w w m) := Lib.hid (Gen.start h)
  clear h
  go_enter Tryz.func70, Tryz.ntmps70
  go_wp2_with fail
  go_loopw [5, 7] (fun out i wr => ∃ (j : Nat) (L : List Pf), j ≤ k ∧ i = .int .i64 (j : Int) ∧ Hid (OwnK layPf wr w.heap.size out L) ∧ Hid (L.length = j) ∧ Hid (∀ p ∈ L, OkPf p) ∧ Hid (Gen b w wr (m + 5 * j))) (fun _ i _ => k - (intOf i).toNat)
  case atStart => exact ⟨0, [], Nat.zero_le _, rfl, Lib.hid (OwnK.nil _ _ _), Lib.hid rfl, Lib.hid (by simp), HG0⟩
  case round =>
    obtain ⟨j, L, hj, rfl, HO, HL, HK, HG⟩ := hrel
    by_cases hlt : j < k
    · go_wp2_with fail
      refine (rightPrefix_ok b (m + 5 * j) _ HG.out.s (by omega)).mono ?_
      rintro e w2 ⟨⟨q1, q2, q3, q4⟩, rfl, hok, hg⟩
      have HO2 : Hid (OwnK layPf w2 w.heap.size u5 L) := Lib.hid (HO.out.gen hg hblt)
      have HG2 : Hid (Gen b w w2 (m + 5 * (j + 1))) := Lib.hid ((HG.out.trans hg).mono (by omega))
      have HK2 : Hid (∀ p ∈ L ++ [(q1, q2, q3, q4)], OkPf p) := Lib.hid (ok_append HK.out fun p hp => by rw [List.mem_singleton.1 hp]; exact hok)
      clear hg HO HG hok HK
      simp only [pfC]
      go_wp2_with (at_builtin; refine wpList_app pfE rfl (.tmp 9) (.tmp 12) rfl rfl (World.ownsRow.alloc HO2.out _) rfl (src_new layPf _ (q1, q2, q3, q4) _ _ ?c0) ?c1 ?c2 ?c3 ?c4 ?_)
      case c0 => rfl
      case c1 => exact layPf.one _
      case c2 => have := HL.out; unfold maxLen; omega
      case c3 => have := HL.out; omega
      case c4 => have := HG2.out.g.size; simp; omega
      intro v' w' hO hG
      have HO' : Hid (OwnK layPf w' w.heap.size v' (L ++ [(q1, q2, q3, q4)])) := Lib.hid (OwnK.snoc hO)
      have HG' : Hid (Gen b w w' (m + 5 * (j + 1))) := Lib.hid (HG2.out.below (hG.allocFirst.below HG2.out.g.size (own_base HO2.out)) (Nat.le_refl _) hblt)
      clear hO hG HO2 HG2
      go_wp2
      exact ⟨⟨j + 1, L ++ [(q1, q2, q3, q4)], by omega, by go_num, HO', Lib.hid (by rw [List.length_append, HL.out]; rfl), HK2, HG'⟩, by simp [intOf]; omega⟩
    · obtain rfl : j = k := by omega
      go_wp2_with fail
      go_ret
      exact ⟨_, L, rfl, HO.out, HL.out, HK.out, HG.out⟩
set_option maxRecDepth 100000 in
set_option maxHeartbeats 1000000 in
theorem rightSet_gen (b m : Nat) (w : World) (h : Strm w b m) (hm : m + 50 < 1099511627776) :
    Calls Tryz.prog 33 #[.pointer (some ⟨b, 0, none⟩)] w fun e w' => ∃ v L, e = .returned v ∧ OwnK layPf w' w.heap.size v L ∧ L.length ≤ 5 ∧ (∀ p ∈ L, OkPf p) ∧ Gen b w w' (m + 26) := by
  have hblt := h.lt
  have HG0 : Hid (Gen b w w m) := Lib.hid (Gen.start h)
  clear h
  go_enter Tryz.func33, Tryz.ntmps33
  go_wp2_with fail
  refine (range_gen b m _ _ _ HG0.out.s (by omega) (by omega) (by omega)).mono ?_
  rintro e w1 ⟨y, rfl, ⟨hy0, hy1⟩, hg⟩
  obtain ⟨k, rfl⟩ := Int.eq_ofNat_of_zero_le hy0
  have hk : k ≤ 5 := by omega
  have HG1 := Lib.hid (HG0.out.trans hg)
  clear hg HG0 hy0 hy1
  go_wp2_with fail
  refine (prefixes_gen b (m + 1) k _ HG1.out.s (by omega) (by omega)).mono ?_
  rintro e w2 ⟨v, L, rfl, hO, hl, hok, hg⟩
  have HG2 := Lib.hid (HG1.out.trans hg)
  obtain ⟨ad, c, rfl, _⟩ := hO.form
  have HS := Lib.hid (leastOf_any ad k c L w2 (by rw [hl] at hO; exact hO.rd) hl (by omega) hok)
  have HK := Lib.hid (ok_lst hok)
  have HLl : Hid ((lst L).length ≤ 5) := Lib.hid (by have := lst_len hok; omega)
  rw [hl]
  clear hO hl hok hg HG1
  go_wp2_with fail
  refine HS.out.mono ?_
  rintro e w3 ⟨v, rfl, hO, hB⟩
  have hs := HG2.out.g.size
  have HO3 := Lib.hid (hO.weak hs)
  have HG3 := Lib.hid (HG2.out.below0 hB (Nat.lt_of_lt_of_le hblt hs))
  clear hO hB HG2
  go_wp2_with fail
  go_ret
  exact ⟨_, _, rfl, HO3.out, HLl.out, HK.out, HG3.out.mono (by omega)⟩
theorem u4_app {L M : List Pf} (h : U4 L) (k : U4 M) : U4 (L ++ M) := fun p hp => (List.mem_append.1 hp).elim (h p) (k p)
set_option maxRecDepth 100000 in
set_option maxHeartbeats 4000000 in
theorem set_gen (b m : Nat) (w : World) (h : Strm w b m) (hm : m + 100 < 1099511627776) :
    Calls Tryz.prog 11 #[.pointer (some ⟨b, 0, none⟩)] w fun e w' => ∃ v L, e = .returned v ∧ OwnK layPf w' w.heap.size v L ∧ L.length ≤ 6 ∧ U4 L ∧ Gen b w w' (m + 50) := by
  have hblt := h.lt
  have HG0 : Hid (Gen b w w m) := Lib.hid (Gen.start h)
  clear h
  go_enter Tryz.func11, Tryz.ntmps11
  go_wp2_with fail
  refine (rightSet_gen b m _ HG0.out.s (by omega)).mono ?_
  rintro e w1 ⟨v, L, rfl, hO, hl, hok, hg⟩
  have HO1 := Lib.hid hO
  have HG1 := Lib.hid (HG0.out.trans hg)
  have HU1 := Lib.hid (u4_ok hok)
  clear hO hok hg HG0
  go_wp2_with fail
  refine (flip_gen b (m + 26) _ _ HG1.out.s (by omega) (by omega)).mono ?_
  rintro e w2 ⟨kk, rfl, hg⟩
  have HO2 := Lib.hid (HO1.out.gen hg hblt)
  have HG2 := Lib.hid (HG1.out.trans hg)
  clear hg HO1 HG1
  go_upto_if 7 with fail
  go_cut [3] (fun s wx => ∃ L : List Pf, L.length ≤ 6 ∧ U4 L ∧ OwnK layPf wx w.heap.size s L ∧ Gen b w wx (m + 45))
  case first =>
    cases kk
    · go_wp2_with fail
      go_meet
      case rel => exact ⟨L, by omega, HU1.out, HO2.out, HG2.out.mono (by omega)⟩
    · go_wp2_with fail
      refine (prefix_gen b (m + 26 + 1) _ HG2.out.s (by omega)).mono ?_
      rintro e w3 ⟨q1, q2, q3, q4, rfl, h1, h2, -, hg⟩
      have HO3 := Lib.hid (HO2.out.gen hg hblt)
      have HG3 := Lib.hid (HG2.out.trans hg)
      have HU3 : Hid (U4 (L ++ [(q1, q2, q3, q4)])) := Lib.hid (u4_app HU1.out fun p hp => by rw [List.mem_singleton.1 hp]; exact ⟨h1, h2⟩)
      clear hg h1 h2 HO2 HG2
      unfold vP
      go_wp2_with (at_builtin; refine wpList_app pfE rfl (.tmp 8) (.tmp 11) rfl rfl (World.ownsRow.alloc HO3.out _) rfl (src_new layPf _ (q1, q2, q3, q4) _ _ ?c0) ?c1 ?c2 ?c3 ?c4 ?_)
      case c0 => rfl
      case c1 => exact layPf.one _
      case c2 => unfold maxLen; omega
      case c3 => omega
      case c4 => have := HG3.out.g.size; simp; omega
      intro v' w' hO hG
      have HO' := Lib.hid (OwnK.snoc (x := (q1, q2, q3, q4)) hO)
      have HG' := Lib.hid (HG3.out.below (hG.allocFirst.below HG3.out.g.size (own_base HO3.out)) (Nat.le_refl _) hblt)
      clear hO hG HO3 HG3
      go_wp2_with fail
      go_meet
      case rel => exact ⟨_, by rw [List.length_append]; simp; omega, HU3.out, HO'.out, HG'.out.mono (by omega)⟩
  case rest =>
    clear HO2 HG2 HU1 hl
    obtain ⟨L, hl, hu, hO, hG⟩ := hcut
    obtain ⟨ad, c, hv, _, _, _⟩ := hO.form
    have HO := Lib.hid hO
    have HG := Lib.hid hG
    have HU := Lib.hid hu
    clear hO hG hu
    subst hv
    obtain ⟨n, hn⟩ : ∃ n, L.length = n := ⟨_, rfl⟩
    rw [hn] at HO hl ⊢
    have Hn := Lib.hid hn
    clear hn
    by_cases h1 : 1 < n
    · have g1 : ((n : Int) > 1) := by omega
      go_wp2_with fail
      refine (flip_gen b (m + 45) _ _ HG.out.s (by omega) (by omega)).mono ?_
      rintro e w2 ⟨kk, rfl, hg⟩
      have HO2 := Lib.hid (HO.out.gen hg hblt)
      have HG2 := Lib.hid (HG.out.trans hg)
      clear hg HO HG
      cases kk
      · go_wp2_with fail
        go_ret
        exact ⟨_, L, rfl, HO2.out, by rw [Hn.out]; exact hl, HU.out, HG2.out.mono (by omega)⟩
      · have h0L : 0 < L.length := by rw [Hn.out]; omega
        have h1L : 1 < L.length := by rw [Hn.out]; omega
        obtain ⟨⟨x1, x2, x3, x4⟩, hx⟩ : ∃ x, L[0]? = some x := ⟨_, List.getElem?_eq_getElem h0L⟩
        obtain ⟨⟨y1, y2, y3, y4⟩, hy⟩ : ∃ y, L[1]? = some y := ⟨_, List.getElem?_eq_getElem h1L⟩
        obtain ⟨g, c', hv, hg, hgl, hc1, hc2⟩ := HO2.out.one (by omega)
        rw [Hn.out] at hv hc1
        injection hv with hv1 _ hv3
        subst hv1 hv3
        have HO3 : Hid (OwnK layPf w2 w.heap.size (.slice (some ⟨g, 0, none⟩) n c) L) := HO2
        clear HO2
        have e0 : ∀ j v, (pfC (x1, x2, x3, x4))[j]? = some v → w2.cell? ⟨g, 0 * 4 + j, none⟩ = some v := fun j v hv => HO3.out.get hx hv
        have e1 : ∀ j v, (pfC (y1, y2, y3, y4))[j]? = some v → w2.cell? ⟨g, 1 * 4 + j, none⟩ = some v := fun j v hv => HO3.out.get hy hv
        have a0 := e0 0 _ rfl
        have a1 := e0 1 _ rfl
        have a2 := e0 2 _ rfl
        have a3 := e0 3 _ rfl
        have b0 := e1 0 _ rfl
        have b1 := e1 1 _ rfl
        have b2 := e1 2 _ rfl
        have b3 := e1 3 _ rfl
        simp only [Nat.zero_mul, Nat.zero_add, Nat.one_mul, Nat.reduceAdd] at a0 a1 a2 a3 b0 b1 b2 b3
        have hfz : ∀ i, w2.frozen? ⟨g, i, none⟩ = false := fun i => HO3.out.frozen i
        have HSw : Hid (∀ wx : World, OwnK layPf wx w.heap.size (.slice (some ⟨g, 0, none⟩) n c) L → ∃ L', L'.length ≤ 6 ∧ U4 L' ∧ OwnK layPf (setCs (setCs wx g (0 * 4 + 0) (pfC (y1, y2, y3, y4))) g (1 * 4 + 0) (pfC (x1, x2, x3, x4))) w.heap.size (.slice (some ⟨g, 0, none⟩) n c) L') := Lib.hid fun wx hO => by
          have k1 := OwnK.sets (i := 0) (j := 0) (y := (y1, y2, y3, y4)) hO (pfC (y1, y2, y3, y4)) hx (by show 0 + 4 ≤ 4; decide) rfl
          have k2 := OwnK.sets (i := 1) (j := 0) (y := (x1, x2, x3, x4)) k1 (pfC (x1, x2, x3, x4)) (x := (y1, y2, y3, y4)) (by rw [List.getElem?_set_ne (by decide)]; exact hy) (by show 0 + 4 ≤ 4; decide) rfl
          refine ⟨_, ?_, fun p hp => ?_, k2⟩
          · rw [List.length_set, List.length_set, Hn.out]; exact hl
          · rcases List.mem_or_eq_of_mem_set hp with hp | rfl
            · rcases List.mem_or_eq_of_mem_set hp with hp | rfl
              · exact HU.out p hp
              · exact HU.out _ (List.mem_of_getElem? hy)
            · exact HU.out _ (List.mem_of_getElem? hx)
        have i0 : (0 : Int) < (n : Int) := by omega
        have i1 : (1 : Int) < (n : Int) := by omega
        clear e0 e1 hx hy HU Hn h0L h1L
        go_upto_region 5 with fail
        go_region
        go_wp2_with fail
        obtain ⟨L', hL', hU', hO'⟩ := HSw.out _ HO3.out
        have hgB : w.heap.size ≤ g := HO3.out.block.2.1
        have hbg : b < g := Nat.lt_of_lt_of_le hblt hgB
        have hO2 := OwnK.later hO' (below_drew (Below.refl _ _))
        go_ret
        refine ⟨_, L', rfl, hO2, hL', hU', ?_⟩
        refine Gen.mono (m := m + 45 + 1) (Gen.drew ?_) (by omega)
        repeat refine Gen.setCell ?_ _ _ hgB hbg
        exact HG2.out
    · have g1 : ¬ ((n : Int) > 1) := by omega
      go_wp2_with fail
      go_ret
      exact ⟨_, rfl, L, HO.out, by rw [Hn.out]; exact hl, HU.out, HG.out.mono (by omega)⟩
end Go.Proofs.YtcpafmndjcejjaaGreatDoor
