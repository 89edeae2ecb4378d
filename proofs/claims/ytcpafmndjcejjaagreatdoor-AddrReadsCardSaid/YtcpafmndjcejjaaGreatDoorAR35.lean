/-
  An address of eight groups as text: AddrText of the reference.
-/
import Derived.Test.YtcpafmndjcejjaaGreatDoorAR34
set_option linter.unusedVariables false
namespace Go.Proofs.YtcpafmndjcejjaaGreatDoor
open Go.RowKit Go
set_option linter.unusedVariables false

theorem rIn_stop {z : Nat → Bool} {n i : Nat} (h : ¬ i + n ≤ 8) : ∀ q, rIn z n q i = none
  | 0 => rfl
  | q + 1 => by unfold rIn; rw [if_neg h]
theorem hit_iff (z : Nat → Bool) (L : List ByteArray) (s : ByteArray) (i n : Nat) (h : ∀ j x, L[j]? = some x → (x = s ↔ z j = true)) (hl : i + n ≤ L.length) : hit z i n = true ↔ ∀ x ∈ (L.drop i).take n, x = s := by
  unfold hit
  rw [List.all_eq_true]
  constructor
  · intro h1 x hx
    obtain ⟨j, hj, rfl⟩ := List.getElem_of_mem hx
    have hj' : j < n := by simp at hj; omega
    refine (h (i + j) _ ?_).2 (h1 j (List.mem_range.2 hj'))
    rw [List.getElem_take, List.getElem_drop, ← List.getElem?_eq_getElem]
  · intro h1 j hj
    have hj' : j < n := List.mem_range.1 hj
    have hlt : i + j < L.length := by omega
    refine (h (i + j) L[i + j] (List.getElem?_eq_getElem hlt)).1 (h1 _ ?_)
    refine List.mem_iff_getElem.2 ⟨j, by simp; omega, ?_⟩
    rw [List.getElem_take, List.getElem_drop]
theorem slice_mid (g c i D n : Nat) (W : World) (hD : i + n = D) (h8 : D ≤ 8) (hn : 1 ≤ n) (hc : 8 ≤ c) : (Instr.slice 76 (.slice (some ⟨g, 0, none⟩) 8 c) (some (.int .i64 (i : Int))) (some (.int .i64 (D : Int))) none).run Tryz.prog W = .ok (.slice (some ⟨g, i, none⟩) n (c - i)) W := by
  have h := Lib.run_slice_window (P := Tryz.prog) W 76 9 (by kernel_rfl) Tryz.sizeOf9 g 0 8 c i D (by omega) (by omega)
  rw [Nat.zero_add, show D - i = n by omega] at h
  exact h
set_option maxRecDepth 100000 in
set_option maxHeartbeats 2000000 in
theorem addrTextSix_any (hi lo : Nat) (w : World) (h1 : hi < 18446744073709551616) (h2 : lo < 18446744073709551616) (ht : Tabs w) : Calls Tryz.prog 21 #[.agg #[.bool true, .int .u64 (hi : Int), .int .u64 (lo : Int)]] w (Ret (.string (sixT (dg hi lo))) w) := by
  have HGr := Lib.hid fun wx => groupsQ_any hi lo wx h1 h2
  have hls := sixL_short (dg hi lo)
  have HR := Lib.hid (sixT_search (dg hi lo))
  have HZ8 := Lib.hid fun j (hj : j < 8) => (show zB (dg hi lo) j = (dg hi lo (7 - j) == 0) from rfl)
  have hL8 : ∀ j x, (sixL (dg hi lo))[j]? = some x → (x = ⟨#[48]⟩ ↔ zB (dg hi lo) j = true) := fun j x hx => by
    have hj : j < 8 := (List.getElem?_eq_some_iff.1 hx).1
    have : j = 0 ∨ j = 1 ∨ j = 2 ∨ j = 3 ∨ j = 4 ∨ j = 5 ∨ j = 6 ∨ j = 7 := by omega
    have key : ∀ d, (hexS (dg hi lo d) = ⟨#[48]⟩ ↔ (dg hi lo d == 0) = true) := fun d => by rw [hexS_zero _ (dg_lt hi lo d)]; simp
    rcases this with rfl | rfl | rfl | rfl | rfl | rfl | rfl | rfl <;> (have h3 := Option.some.inj hx; rw [← h3]; exact key _)
  have HL8 := Lib.hid hL8
  clear hL8 HZ8
  generalize sixT (dg hi lo) = R at *
  generalize zB (dg hi lo) = z at *
  unfold sixL at hls HR HL8
  unfold I8 at HGr
  have hd0 := dg_lt hi lo 0
  generalize dg hi lo 0 = g0 at *
  have H0 := Lib.hid fun wx (ht : Tabs wx) => fmtI16_any g0 wx hd0 ht.2
  generalize hexS g0 = d0 at *
  have hd1 := dg_lt hi lo 1
  generalize dg hi lo 1 = g1 at *
  have H1 := Lib.hid fun wx (ht : Tabs wx) => fmtI16_any g1 wx hd1 ht.2
  generalize hexS g1 = d1 at *
  have hd2 := dg_lt hi lo 2
  generalize dg hi lo 2 = g2 at *
  have H2 := Lib.hid fun wx (ht : Tabs wx) => fmtI16_any g2 wx hd2 ht.2
  generalize hexS g2 = d2 at *
  have hd3 := dg_lt hi lo 3
  generalize dg hi lo 3 = g3 at *
  have H3 := Lib.hid fun wx (ht : Tabs wx) => fmtI16_any g3 wx hd3 ht.2
  generalize hexS g3 = d3 at *
  have hd4 := dg_lt hi lo 4
  generalize dg hi lo 4 = g4 at *
  have H4 := Lib.hid fun wx (ht : Tabs wx) => fmtI16_any g4 wx hd4 ht.2
  generalize hexS g4 = d4 at *
  have hd5 := dg_lt hi lo 5
  generalize dg hi lo 5 = g5 at *
  have H5 := Lib.hid fun wx (ht : Tabs wx) => fmtI16_any g5 wx hd5 ht.2
  generalize hexS g5 = d5 at *
  have hd6 := dg_lt hi lo 6
  generalize dg hi lo 6 = g6 at *
  have H6 := Lib.hid fun wx (ht : Tabs wx) => fmtI16_any g6 wx hd6 ht.2
  generalize hexS g6 = d6 at *
  have hd7 := dg_lt hi lo 7
  generalize dg hi lo 7 = g7 at *
  have H7 := Lib.hid fun wx (ht : Tabs wx) => fmtI16_any g7 wx hd7 ht.2
  generalize hexS g7 = d7 at *
  have HP : Hid (Blk (w.alloc (.cells #[.bool true, .int .u64 (hi : Int), .int .u64 (lo : Int)] 29 (0, 0))) w.heap.size 29 #[.bool true, .int .u64 (hi : Int), .int .u64 (lo : Int)]) := Lib.hid (Blk.new w _ _)
  have HB : Hid (Below w.heap.size w (w.alloc (.cells #[.bool true, .int .u64 (hi : Int), .int .u64 (lo : Int)] 29 (0, 0)))) := Lib.hid (below_alloc (Below.refl _ _) _)
  have HT := Lib.hid (ht.below HB.out)
  have HLs := Lib.hid hls
  clear ht hls
  go_enter Tryz.func21, Tryz.ntmps21
  go_upto_region 1 with fail
  generalize w.alloc (.cells #[.bool true, .int .u64 (hi : Int), .int .u64 (lo : Int)] 29 (0, 0)) = w0 at *
  have p0 := HP.out.cell 0
  have p1 := HP.out.cell 1
  have p2 := HP.out.cell 2
  simp at p0 p1 p2
  go_wp2_with fail
  refine (HGr.out _).mono ?_
  rintro e w2 ⟨gr, gc, rfl, hgr, hgc, hb⟩
  have HB2 := Lib.hid (HB.out.trans (hb.mono HB.out.size))
  have HT2 := Lib.hid (HT.out.below hb)
  have HGc := Lib.hid hgc
  clear hb HB HT HP p0 p1 p2 HGr hgc
  go_wp2_with fail
  go_loopw [7, 9, 46] (fun v iv i wr => ∃ k : Nat, k ≤ 8 ∧ i = .int .i64 k ∧ Hid (OwnS wr w2.heap.size v (([d7, d6, d5, d4, d3, d2, d1, d0] : List ByteArray).take k)) ∧ Hid (Below w2.heap.size w2 wr)) (fun _ _ i _ => 8 - (intOf i).toNat)
  case atStart => exact ⟨0, Nat.zero_le _, rfl, Lib.hid (OwnS.nil _ _), Lib.hid (Below.refl _ _)⟩
  case round =>
    obtain ⟨k, hk, rfl, HO, HBr⟩ := hrel
    by_cases hlt : k < 8
    · have hk8 : k = 0 ∨ k = 1 ∨ k = 2 ∨ k = 3 ∨ k = 4 ∨ k = 5 ∨ k = 6 ∨ k = 7 := by omega
      have HTr := Lib.hid (HT2.out.below HBr.out)
      rcases hk8 with rfl | rfl | rfl | rfl | rfl | rfl | rfl | rfl
      · have p := Later.cell_of (HGc.out 0 _ rfl) ⟨wr, HBr.out⟩
        simp only at p
        go_wp2_with fail
        refine (H7.out _ HTr.out).mono ?_
        rintro e w' ⟨rfl, hb⟩
        have HO1 := Lib.hid (HO.out.later hb)
        have HBr1 := Lib.hid (HBr.out.trans (hb.mono HBr.out.size))
        clear hb HO HBr HTr p
        go_wp2_with (at_builtin; refine wpList_app strE rfl (.tmp 50) (.tmp 53) rfl rfl (World.ownsRow.alloc HO1.out _) rfl (src_one_new _ _ _) ?c1 ?c2 ?c3 ?c4 ?_)
        case c1 => first | rfl | (intro u hu; simp at hu; subst hu; rfl)
        case c2 => unfold maxLen; simp
        case c3 => simp
        case c4 => have := HBr1.out.size; simp; omega
        intro v' w4 hO hG
        have HO' := Lib.hid (show OwnS w4 w2.heap.size v' (([d7, d6, d5, d4, d3, d2, d1, d0] : List ByteArray).take 1) from hO)
        have HB' : Hid (Below w2.heap.size w2 w4) := Lib.hid ((Below.alloc HBr1.out HBr1.out.size _).trans (hG.below (by have := HBr1.out.size; simp; omega) (own_base HO1.out)))
        clear hO hG
        go_wp2
        exact ⟨⟨1, by decide, rfl, HO', HB'⟩, by simp [intOf]⟩
      · have p := Later.cell_of (HGc.out 1 _ rfl) ⟨wr, HBr.out⟩
        simp only at p
        go_wp2_with fail
        refine (H6.out _ HTr.out).mono ?_
        rintro e w' ⟨rfl, hb⟩
        have HO1 := Lib.hid (HO.out.later hb)
        have HBr1 := Lib.hid (HBr.out.trans (hb.mono HBr.out.size))
        clear hb HO HBr HTr p
        go_wp2_with (at_builtin; refine wpList_app strE rfl (.tmp 50) (.tmp 53) rfl rfl (World.ownsRow.alloc HO1.out _) rfl (src_one_new _ _ _) ?c1 ?c2 ?c3 ?c4 ?_)
        case c1 => first | rfl | (intro u hu; simp at hu; subst hu; rfl)
        case c2 => unfold maxLen; simp
        case c3 => simp
        case c4 => have := HBr1.out.size; simp; omega
        intro v' w4 hO hG
        have HO' := Lib.hid (show OwnS w4 w2.heap.size v' (([d7, d6, d5, d4, d3, d2, d1, d0] : List ByteArray).take 2) from hO)
        have HB' : Hid (Below w2.heap.size w2 w4) := Lib.hid ((Below.alloc HBr1.out HBr1.out.size _).trans (hG.below (by have := HBr1.out.size; simp; omega) (own_base HO1.out)))
        clear hO hG
        go_wp2
        exact ⟨⟨2, by decide, rfl, HO', HB'⟩, by simp [intOf]⟩
      · have p := Later.cell_of (HGc.out 2 _ rfl) ⟨wr, HBr.out⟩
        simp only at p
        go_wp2_with fail
        refine (H5.out _ HTr.out).mono ?_
        rintro e w' ⟨rfl, hb⟩
        have HO1 := Lib.hid (HO.out.later hb)
        have HBr1 := Lib.hid (HBr.out.trans (hb.mono HBr.out.size))
        clear hb HO HBr HTr p
        go_wp2_with (at_builtin; refine wpList_app strE rfl (.tmp 50) (.tmp 53) rfl rfl (World.ownsRow.alloc HO1.out _) rfl (src_one_new _ _ _) ?c1 ?c2 ?c3 ?c4 ?_)
        case c1 => first | rfl | (intro u hu; simp at hu; subst hu; rfl)
        case c2 => unfold maxLen; simp
        case c3 => simp
        case c4 => have := HBr1.out.size; simp; omega
        intro v' w4 hO hG
        have HO' := Lib.hid (show OwnS w4 w2.heap.size v' (([d7, d6, d5, d4, d3, d2, d1, d0] : List ByteArray).take 3) from hO)
        have HB' : Hid (Below w2.heap.size w2 w4) := Lib.hid ((Below.alloc HBr1.out HBr1.out.size _).trans (hG.below (by have := HBr1.out.size; simp; omega) (own_base HO1.out)))
        clear hO hG
        go_wp2
        exact ⟨⟨3, by decide, rfl, HO', HB'⟩, by simp [intOf]⟩
      · have p := Later.cell_of (HGc.out 3 _ rfl) ⟨wr, HBr.out⟩
        simp only at p
        go_wp2_with fail
        refine (H4.out _ HTr.out).mono ?_
        rintro e w' ⟨rfl, hb⟩
        have HO1 := Lib.hid (HO.out.later hb)
        have HBr1 := Lib.hid (HBr.out.trans (hb.mono HBr.out.size))
        clear hb HO HBr HTr p
        go_wp2_with (at_builtin; refine wpList_app strE rfl (.tmp 50) (.tmp 53) rfl rfl (World.ownsRow.alloc HO1.out _) rfl (src_one_new _ _ _) ?c1 ?c2 ?c3 ?c4 ?_)
        case c1 => first | rfl | (intro u hu; simp at hu; subst hu; rfl)
        case c2 => unfold maxLen; simp
        case c3 => simp
        case c4 => have := HBr1.out.size; simp; omega
        intro v' w4 hO hG
        have HO' := Lib.hid (show OwnS w4 w2.heap.size v' (([d7, d6, d5, d4, d3, d2, d1, d0] : List ByteArray).take 4) from hO)
        have HB' : Hid (Below w2.heap.size w2 w4) := Lib.hid ((Below.alloc HBr1.out HBr1.out.size _).trans (hG.below (by have := HBr1.out.size; simp; omega) (own_base HO1.out)))
        clear hO hG
        go_wp2
        exact ⟨⟨4, by decide, rfl, HO', HB'⟩, by simp [intOf]⟩
      · have p := Later.cell_of (HGc.out 4 _ rfl) ⟨wr, HBr.out⟩
        simp only at p
        go_wp2_with fail
        refine (H3.out _ HTr.out).mono ?_
        rintro e w' ⟨rfl, hb⟩
        have HO1 := Lib.hid (HO.out.later hb)
        have HBr1 := Lib.hid (HBr.out.trans (hb.mono HBr.out.size))
        clear hb HO HBr HTr p
        go_wp2_with (at_builtin; refine wpList_app strE rfl (.tmp 50) (.tmp 53) rfl rfl (World.ownsRow.alloc HO1.out _) rfl (src_one_new _ _ _) ?c1 ?c2 ?c3 ?c4 ?_)
        case c1 => first | rfl | (intro u hu; simp at hu; subst hu; rfl)
        case c2 => unfold maxLen; simp
        case c3 => simp
        case c4 => have := HBr1.out.size; simp; omega
        intro v' w4 hO hG
        have HO' := Lib.hid (show OwnS w4 w2.heap.size v' (([d7, d6, d5, d4, d3, d2, d1, d0] : List ByteArray).take 5) from hO)
        have HB' : Hid (Below w2.heap.size w2 w4) := Lib.hid ((Below.alloc HBr1.out HBr1.out.size _).trans (hG.below (by have := HBr1.out.size; simp; omega) (own_base HO1.out)))
        clear hO hG
        go_wp2
        exact ⟨⟨5, by decide, rfl, HO', HB'⟩, by simp [intOf]⟩
      · have p := Later.cell_of (HGc.out 5 _ rfl) ⟨wr, HBr.out⟩
        simp only at p
        go_wp2_with fail
        refine (H2.out _ HTr.out).mono ?_
        rintro e w' ⟨rfl, hb⟩
        have HO1 := Lib.hid (HO.out.later hb)
        have HBr1 := Lib.hid (HBr.out.trans (hb.mono HBr.out.size))
        clear hb HO HBr HTr p
        go_wp2_with (at_builtin; refine wpList_app strE rfl (.tmp 50) (.tmp 53) rfl rfl (World.ownsRow.alloc HO1.out _) rfl (src_one_new _ _ _) ?c1 ?c2 ?c3 ?c4 ?_)
        case c1 => first | rfl | (intro u hu; simp at hu; subst hu; rfl)
        case c2 => unfold maxLen; simp
        case c3 => simp
        case c4 => have := HBr1.out.size; simp; omega
        intro v' w4 hO hG
        have HO' := Lib.hid (show OwnS w4 w2.heap.size v' (([d7, d6, d5, d4, d3, d2, d1, d0] : List ByteArray).take 6) from hO)
        have HB' : Hid (Below w2.heap.size w2 w4) := Lib.hid ((Below.alloc HBr1.out HBr1.out.size _).trans (hG.below (by have := HBr1.out.size; simp; omega) (own_base HO1.out)))
        clear hO hG
        go_wp2
        exact ⟨⟨6, by decide, rfl, HO', HB'⟩, by simp [intOf]⟩
      · have p := Later.cell_of (HGc.out 6 _ rfl) ⟨wr, HBr.out⟩
        simp only at p
        go_wp2_with fail
        refine (H1.out _ HTr.out).mono ?_
        rintro e w' ⟨rfl, hb⟩
        have HO1 := Lib.hid (HO.out.later hb)
        have HBr1 := Lib.hid (HBr.out.trans (hb.mono HBr.out.size))
        clear hb HO HBr HTr p
        go_wp2_with (at_builtin; refine wpList_app strE rfl (.tmp 50) (.tmp 53) rfl rfl (World.ownsRow.alloc HO1.out _) rfl (src_one_new _ _ _) ?c1 ?c2 ?c3 ?c4 ?_)
        case c1 => first | rfl | (intro u hu; simp at hu; subst hu; rfl)
        case c2 => unfold maxLen; simp
        case c3 => simp
        case c4 => have := HBr1.out.size; simp; omega
        intro v' w4 hO hG
        have HO' := Lib.hid (show OwnS w4 w2.heap.size v' (([d7, d6, d5, d4, d3, d2, d1, d0] : List ByteArray).take 7) from hO)
        have HB' : Hid (Below w2.heap.size w2 w4) := Lib.hid ((Below.alloc HBr1.out HBr1.out.size _).trans (hG.below (by have := HBr1.out.size; simp; omega) (own_base HO1.out)))
        clear hO hG
        go_wp2
        exact ⟨⟨7, by decide, rfl, HO', HB'⟩, by simp [intOf]⟩
      · have p := Later.cell_of (HGc.out 7 _ rfl) ⟨wr, HBr.out⟩
        simp only at p
        go_wp2_with fail
        refine (H0.out _ HTr.out).mono ?_
        rintro e w' ⟨rfl, hb⟩
        have HO1 := Lib.hid (HO.out.later hb)
        have HBr1 := Lib.hid (HBr.out.trans (hb.mono HBr.out.size))
        clear hb HO HBr HTr p
        go_wp2_with (at_builtin; refine wpList_app strE rfl (.tmp 50) (.tmp 53) rfl rfl (World.ownsRow.alloc HO1.out _) rfl (src_one_new _ _ _) ?c1 ?c2 ?c3 ?c4 ?_)
        case c1 => first | rfl | (intro u hu; simp at hu; subst hu; rfl)
        case c2 => unfold maxLen; simp
        case c3 => simp
        case c4 => have := HBr1.out.size; simp; omega
        intro v' w4 hO hG
        have HO' := Lib.hid (show OwnS w4 w2.heap.size v' (([d7, d6, d5, d4, d3, d2, d1, d0] : List ByteArray).take 8) from hO)
        have HB' : Hid (Below w2.heap.size w2 w4) := Lib.hid ((Below.alloc HBr1.out HBr1.out.size _).trans (hG.below (by have := HBr1.out.size; simp; omega) (own_base HO1.out)))
        clear hO hG
        go_wp2
        exact ⟨⟨8, by decide, rfl, HO', HB'⟩, by simp [intOf]⟩
    · obtain rfl : k = 8 := by omega
      obtain ⟨g, c, hv, _, hg, hc, hcm, hcell⟩ := HO.out.one (by simp)
      have hv' : u7 = .slice (some ⟨g, 0, none⟩) 8 c := hv
      have hc' : 8 ≤ c := hc
      rw [show ([d7, d6, d5, d4, d3, d2, d1, d0] : List ByteArray).take 8 = ([d7, d6, d5, d4, d3, d2, d1, d0] : List ByteArray) from rfl] at hcell
      have hLn : ([d7, d6, d5, d4, d3, d2, d1, d0] : List ByteArray).length = 8 := rfl
      generalize ([d7, d6, d5, d4, d3, d2, d1, d0] : List ByteArray) = L at *
      have HCell := Lib.hid hcell
      have HLn := Lib.hid hLn
      have HB5 := Lib.hid (HB2.out.trans (HBr.out.mono HB2.out.size))
      clear hv hc hcell hLn HO HBr
      subst hv'
      obtain ⟨w5, hw5⟩ : ∃ x, x = wr := ⟨wr, rfl⟩
      subst hw5
      obtain ⟨Z, hZ⟩ : ∃ Z, rOut z 7 = Z := ⟨_, rfl⟩
      rw [hZ] at HR
      have HZ := Lib.hid hZ
      clear hZ
      go_wp2_with fail
      go_loopw [10, 11] (fun a b wx => ∃ k : Nat, k ≤ 7 ∧ a = .int .i64 ((k : Int) + 1) ∧ Hid (rOut z k = Z) ∧ Hid (Below w5.heap.size w5 wx)) (fun a _ _ => (intOf a).toNat)
      case atStart => exact ⟨7, Nat.le_refl _, rfl, HZ, Lib.hid (Below.refl _ _)⟩
      case round =>
        clear HZ
        obtain ⟨k, hk, rfl, HZ, HBx⟩ := hrel
        by_cases hk0 : k = 0
        · subst hk0
          have hz : Z = none := HZ.out.symm
          subst hz
          have hR : R = joinS L ⟨#[58]⟩ := HR.out
          have HJ := Lib.hid (joinAt_any g 0 c L 58 wr HLs.out (Nat.lt_of_lt_of_le hg HBx.out.size) (by rw [HLn.out]; exact hc') (fun j x hx => by rw [Nat.zero_add]; exact Later.cell_of (HCell.out j x hx) ⟨wr, HBx.out⟩))
          rw [HLn.out, ← hR] at HJ
          have e1 : (((0 : Nat) : Int) + 1) = 1 := by decide
          rw [e1]
          clear hR HR HZ
          go_wp2_with fail
          refine HJ.out.mono ?_
          rintro e w' ⟨rfl, hb⟩
          go_wp2_with fail
          go_ret
          exact ⟨rfl, HB5.out.trans ((HBx.out.trans (hb.mono HBx.out.size)).mono HB5.out.size)⟩
        · obtain ⟨k, rfl⟩ : ∃ k', k = k' + 1 := ⟨k - 1, by omega⟩
          have hz := HZ.out
          unfold rOut at hz
          have HZk := Lib.hid hz
          clear hz HZ
          have e1 : (((k + 1 : Nat) : Int) + 1) = ((k + 2 : Nat) : Int) := by omega
          rw [e1]
          obtain ⟨n, hn⟩ : ∃ n, k + 2 = n := ⟨_, rfl⟩
          rw [hn] at HZk ⊢
          have hn2 : 2 ≤ n ∧ n ≤ 8 := by omega
          have Hn := Lib.hid hn
          clear hn e1
          have hge : (n : Int) ≥ 2 := by omega
          obtain ⟨w6, hw6⟩ : ∃ x, x = wr := ⟨wr, rfl⟩
          subst hw6
          go_wp2_with fail
          go_loopw [11] (fun b wx => ∃ q i : Nat, 9 - i ≤ q ∧ i ≤ 9 ∧ b = .int .i64 (i : Int) ∧ Hid ((match rIn z n q i with | some x => some x | none => rOut z k) = Z) ∧ Hid (Below w5.heap.size w5 wx)) (fun b _ => 9 - (intOf b).toNat)
          case atStart => exact ⟨9, 0, by omega, by omega, rfl, HZk, HBx⟩
          case round =>
            obtain ⟨q, i, hq, hi, rfl, HZi, HBi⟩ := hrel
            by_cases hin : i + n ≤ 8
            · obtain ⟨q, rfl⟩ : ∃ q', q = q' + 1 := ⟨q - 1, by omega⟩
              have hz := HZi.out
              unfold rIn at hz
              rw [if_pos hin] at hz
              have hHit := hit_iff z L ⟨#[48]⟩ i n HL8.out (by rw [HLn.out]; exact hin)
              have hCF := containsFunc_any g i n (c - i) ((L.drop i).take n) (hit z i n) wr (by rw [List.length_take, List.length_drop, HLn.out]; omega) (by omega) (fun j x hx => by
                rw [List.getElem?_take] at hx
                split at hx
                · rw [List.getElem?_drop] at hx
                  exact Later.cell_of (HCell.out _ x hx) ⟨wr, HBi.out⟩
                · cases hx) hHit
              obtain ⟨D, hD⟩ : ∃ D, i + n = D := ⟨_, rfl⟩
              have hD8 : D ≤ 8 := by omega
              have hsl := fun W => slice_mid g c i D n W (by omega) hD8 (by omega) hc'
              have e2 : (i : Int) + (n : Int) = (D : Int) := by omega
              have e3 : (D : Int) ≤ 8 := by omega
              have e4 : (0 : Int) ≤ (D : Int) := by omega
              have HD := Lib.hid hD
              clear hHit HZi hin hD
              by_cases hh : hit z i n = true
              · rw [if_pos hh] at hz
                rw [hh] at hCF
                have HCF := Lib.hid hCF
                have HZ3 : Hid (some (i, n) = Z) := Lib.hid hz
                clear hz hh hCF
                go_wp2_with fail
                refine HCF.out.mono ?_
                rintro e w' ⟨rfl, rfl⟩
                obtain rfl := HZ3.out
                have hR : R = gapS L i n := HR.out
                have hDn := HD.out
                have HJ1 := Lib.hid fun wx (hb : Below w5.heap.size w5 wx) => joinAt_any g 0 c (L.take i) 58 wx (HLs.out.take i) (Nat.lt_of_lt_of_le hg hb.size) (by rw [List.length_take]; omega) (fun j x hx => by
                  rw [Nat.zero_add]
                  rw [List.getElem?_take] at hx
                  split at hx
                  · exact Later.cell_of (HCell.out j x hx) ⟨wx, hb⟩
                  · cases hx)
                have HJ2 := Lib.hid fun wx (hb : Below w5.heap.size w5 wx) => joinAt_any g (if c = D then 0 else D) (c - D) (L.drop D) 58 wx (HLs.out.drop D) (Nat.lt_of_lt_of_le hg hb.size) (by rw [List.length_drop, HLn.out]; omega) (fun j x hx => by
                  rw [List.getElem?_drop] at hx
                  have hlt : D + j < L.length := (List.getElem?_eq_some_iff.1 hx).1
                  rw [HLn.out] at hlt
                  rw [if_neg (by omega)]
                  exact Later.cell_of (HCell.out _ x hx) ⟨wx, hb⟩)
                rw [show (L.take i).length = i by rw [List.length_take, HLn.out]; omega] at HJ1
                rw [show (L.drop D).length = 8 - D by rw [List.length_drop, HLn.out]] at HJ2
                have z1 := joinS_size (HLs.out.take i) 58
                have z2 := joinS_size (HLs.out.drop D) 58
                unfold gapS at hR
                rw [hDn] at hR
                generalize joinS (L.take i) ⟨#[58]⟩ = J1 at *
                generalize joinS (L.drop D) ⟨#[58]⟩ = J2 at *
                subst hR
                clear HR hDn
                have hA1 := add_str J1 ⟨#[58, 58]⟩ (by omega) (by decide)
                have hA2 := add_str (J1 ++ ⟨#[58, 58]⟩) J2 (by rw [ByteArray.size_append]; have : (⟨#[58, 58]⟩ : ByteArray).size = 2 := rfl; omega) (by omega)
                obtain ⟨w6, hw6⟩ : ∃ x, x = w' := ⟨w', rfl⟩
                subst hw6
                have hJ1 := fun m : Later w6 => Calls.later m (HJ1.out m.1 (HBi.out.trans (m.2.mono HBi.out.size)))
                have hJ2 := fun m : Later w6 => Calls.later m (HJ2.out m.1 (HBi.out.trans (m.2.mono HBi.out.size)))
                have f1 : (0 : Int) ≤ (i : Int) := by omega
                have f2 : (i : Int) ≤ (c : Int) := by omega
                have hs2 := fun W => slice_from g c D W hD8 hc'
                obtain ⟨O, hO⟩ : ∃ O, (if c = D then 0 else D) = O := ⟨_, rfl⟩
                rw [hO] at hJ2 hs2
                clear hO hD8 hsl
                go_upto_region 23 with fail
                refine wp_region_later (by kernel_rfl) (by kernel_rfl) ?_
                iterate 3 (go_big_quiet_step (fail))
                go_big_quiet_step ((go_at_call 51; exact hJ1 _))
                repeat (go_big_quiet_step (fail))
                go_big_quiet_step ((go_at_call 51; exact hJ2 _))
                repeat (go_big_quiet_step (fail))
                refine wpQuiet_nil ?_
                rintro w8 ⟨n8, hn8⟩
                have hb8 : Below w6.heap.size w6 w8 := by rw [hn8]; exact n8.2
                clear hn8 n8
                have HB8 := Lib.hid (HB5.out.trans ((HBi.out.trans (hb8.mono HBi.out.size)).mono HB5.out.size))
                clear hb8
                go_wp2_with fail
                go_ret
                exact ⟨rfl, HB8.out⟩
              · have hh' : hit z i n = false := by simpa using hh
                rw [if_neg hh] at hz
                rw [hh'] at hCF
                have HCF := Lib.hid hCF
                have HZ3 : Hid ((match rIn z n q (i + 1) with | some x => some x | none => rOut z k) = Z) := Lib.hid hz
                clear hz hh hh' hCF
                go_wp2_with fail
                refine HCF.out.mono ?_
                rintro e w' ⟨rfl, rfl⟩
                go_wp2_with fail
                go_roundw
                case rel =>
                  (repeat apply Exists.intro)
                  exact ⟨⟨q, i + 1, by omega, by omega, by go_num, HZ3, HBi⟩, rfl⟩
                case measure => simp [intOf]; omega
            · have hz := HZi.out
              rw [rIn_stop hin] at hz
              have HZ2 : Hid (rOut z k = Z) := Lib.hid hz
              have hnk := Hn.out
              have hlt2 : ¬ (i : Int) + (n : Int) ≤ 8 := by omega
              clear hz HZi
              go_wp2_with fail
              exact ⟨⟨k, by omega, congrArg _ (by omega), HZ2, HBi⟩, by simp [intOf]; omega⟩
end Go.Proofs.YtcpafmndjcejjaaGreatDoor
