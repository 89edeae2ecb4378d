/-
  Addresses of four numbers as text: AddrText of the reference.
-/
import Derived.Test.YtippolfmljfleaaGreatDoorAR25
set_option linter.unusedVariables false
namespace Go.Proofs.YtippolfmljfleaaGreatDoor
open Go.RowKit Go
set_option linter.unusedVariables false

set_option maxRecDepth 100000 in
set_option maxHeartbeats 2000000 in
theorem addrTextFour_any (hi lo : Nat) (w : World) (hhi : hi < 18446744073709551616) (hlo : lo < 4294967296) (ht : Tabs w) : Calls Tryz.prog 53 #[.agg #[.bool false, .int .u64 (hi : Int), .int .u64 (lo : Int)]] w (Ret (.string (joinS (fourL lo) ⟨#[46]⟩)) w) := by
  obtain ⟨n0, hn0⟩ : ∃ n, (lo / 16777216 % 256) = n := ⟨_, rfl⟩
  have c0 : n0 < 1000 := by omega
  obtain ⟨n1, hn1⟩ : ∃ n, (lo / 65536 % 256) = n := ⟨_, rfl⟩
  have c1 : n1 < 1000 := by omega
  obtain ⟨n2, hn2⟩ : ∃ n, (lo / 256 % 256) = n := ⟨_, rfl⟩
  have c2 : n2 < 1000 := by omega
  obtain ⟨n3, hn3⟩ : ∃ n, (lo % 256) = n := ⟨_, rfl⟩
  have c3 : n3 < 1000 := by omega
  have y1e : dg hi lo 1 = lo / 65536 % 65536 := rfl
  have y0e : dg hi lo 0 = lo % 65536 := rfl
  have q1 := wv_get false (dg hi lo) 1 (by decide)
  have q0 := wv_get false (dg hi lo) 0 (by decide)
  obtain ⟨y1, hy1⟩ : ∃ y, dg hi lo 1 = y := ⟨_, rfl⟩
  obtain ⟨y0, hy0⟩ : ∃ y, dg hi lo 0 = y := ⟨_, rfl⟩
  rw [hy1] at y1e q1
  rw [hy0] at y0e q0
  have b0 : (y1 : Int) / 256 = (n0 : Int) := by omega
  have b1 : Go.bits .and .i64 (y1 : Int) 255 = (n1 : Int) := by rw [and255i]; omega
  have b2 : (y0 : Int) / 256 = (n2 : Int) := by omega
  have b3 : Go.bits .and .i64 (y0 : Int) 255 = (n3 : Int) := by rw [and255i]; omega
  have HOf := Lib.hid fun wx => of_any false hi lo wx hhi (by omega)
  rw [wCells_wv] at HOf
  unfold vA at HOf
  have hyb1 : y1 < 65536 := by omega
  have hyb0 : y0 < 65536 := by omega
  have hL : fourL lo = [decB n0, decB n1, decB n2, decB n3] := by unfold fourL; rw [hn0, hn1, hn2, hn3]
  have hLs := fourL_short lo
  rw [hL] at hLs ⊢
  clear hL hn0 hn1 hn2 hn3 y1e y0e hy1 hy0
  have H0 := Lib.hid fun wx (ht : Tabs wx) => itoa_any n0 c0 wx ht.1
  rw [show (⟨(Lib.decDigits n0).toArray⟩ : ByteArray) = decB n0 from rfl] at H0
  generalize decB n0 = d0 at *
  have H1 := Lib.hid fun wx (ht : Tabs wx) => itoa_any n1 c1 wx ht.1
  rw [show (⟨(Lib.decDigits n1).toArray⟩ : ByteArray) = decB n1 from rfl] at H1
  generalize decB n1 = d1 at *
  have H2 := Lib.hid fun wx (ht : Tabs wx) => itoa_any n2 c2 wx ht.1
  rw [show (⟨(Lib.decDigits n2).toArray⟩ : ByteArray) = decB n2 from rfl] at H2
  generalize decB n2 = d2 at *
  have H3 := Lib.hid fun wx (ht : Tabs wx) => itoa_any n3 c3 wx ht.1
  rw [show (⟨(Lib.decDigits n3).toArray⟩ : ByteArray) = decB n3 from rfl] at H3
  generalize decB n3 = d3 at *
  have HJ := Lib.hid fun g c wx h1 h2 h3 => joinAt_any g 0 c ([d0, d1, d2, d3] : List ByteArray) 46 wx hLs h1 h2 h3
  clear hLs
  generalize joinS ([d0, d1, d2, d3] : List ByteArray) ⟨#[46]⟩ = J at *
  have Q1 := Lib.hid q1
  have Q0 := Lib.hid q0
  clear q1 q0
  have HP : Hid (Blk (w.alloc (.cells #[.bool false, .int .u64 (hi : Int), .int .u64 (lo : Int)] 41 (0, 0))) w.heap.size 41 #[.bool false, .int .u64 (hi : Int), .int .u64 (lo : Int)]) := Lib.hid (Blk.new w _ _)
  have HB : Hid (Below w.heap.size w (w.alloc (.cells #[.bool false, .int .u64 (hi : Int), .int .u64 (lo : Int)] 41 (0, 0)))) := Lib.hid (below_alloc (Below.refl _ _) _)
  have HT := Lib.hid (ht.below HB.out)
  clear ht
  go_enter Tryz.func53, Tryz.ntmps53
  go_upto_region 1 with fail
  generalize w.alloc (.cells #[.bool false, .int .u64 (hi : Int), .int .u64 (lo : Int)] 41 (0, 0)) = w0 at *
  have p0 := HP.out.cell 0
  have p1 := HP.out.cell 1
  have p2 := HP.out.cell 2
  simp at p0 p1 p2
  go_wp2_with fail
  refine (HOf.out _).mono ?_
  rintro e w1 ⟨rfl, hb⟩
  have hw1 : w.heap.size ≤ w1.heap.size := Nat.le_trans HB.out.size hb.size
  have HB1 : Hid (Below w.heap.size w (w1.alloc (.cells #[.int .i64 0, .int .i64 0, .int .i64 0, .int .i64 0, .int .i64 0, .int .i64 0, .int .i64 0, .int .i64 0, .int .i64 0] 101 (0, 0)))) := Lib.hid (below_alloc (HB.out.trans (hb.mono HB.out.size)) _)
  have HB2 := Lib.hid (belowRow HB1.out hw1 (wv false (dg hi lo)))
  have HT2 := Lib.hid ((HT.out.below hb).below (belowRow (below_alloc (Below.refl _ _) (.cells #[.int .i64 0, .int .i64 0, .int .i64 0, .int .i64 0, .int .i64 0, .int .i64 0, .int .i64 0, .int .i64 0, .int .i64 0] 101 (0, 0))) (Nat.le_refl _) (wv false (dg hi lo))))
  have HZ : Hid (Blk (w1.alloc (.cells #[.int .i64 0, .int .i64 0, .int .i64 0, .int .i64 0, .int .i64 0, .int .i64 0, .int .i64 0, .int .i64 0, .int .i64 0] 101 (0, 0))) w1.heap.size 101 #[.int .i64 0, .int .i64 0, .int .i64 0, .int .i64 0, .int .i64 0, .int .i64 0, .int .i64 0, .int .i64 0, .int .i64 0]) := Lib.hid (Blk.new w1 _ _)
  have HW2 : Hid (Blk ((w1.alloc (.cells #[.int .i64 0, .int .i64 0, .int .i64 0, .int .i64 0, .int .i64 0, .int .i64 0, .int .i64 0, .int .i64 0, .int .i64 0] 101 (0, 0))).setRow w1.heap.size (wv false (dg hi lo))) w1.heap.size 101 (wv false (dg hi lo))) := Lib.hid (HZ.out.row _)
  clear hb HB HT HP p0 p1 p2 HOf HB1
  go_upto_region 3 with (refine wpList_store_row rfl 101 (.tmp 3) (.tmp 16) rfl w1.heap.size (wv false (dg hi lo)) rfl rfl 101 #[.int .i64 0, .int .i64 0, .int .i64 0, .int .i64 0, .int .i64 0, .int .i64 0, .int .i64 0, .int .i64 0, .int .i64 0] HZ.out (by kernel_rfl) rfl (wv_one _ _) ?_)
  clear HZ
  generalize (w1.alloc (.cells #[.int .i64 0, .int .i64 0, .int .i64 0, .int .i64 0, .int .i64 0, .int .i64 0, .int .i64 0, .int .i64 0, .int .i64 0] 101 (0, 0))).setRow w1.heap.size (wv false (dg hi lo)) = w2 at *
  generalize w1.heap.size = V at *
  have c1 := HW2.out.cell 1
  have c0 := HW2.out.cell 0
  rw [Q1.out] at c1
  rw [Q0.out] at c0
  go_wp2_with fail
  have HR : Hid (Blk (w2.alloc (.cells #[.int .i64 (n0 : Int), .int .i64 (n1 : Int), .int .i64 (n2 : Int), .int .i64 (n3 : Int)] 3 (0, 0))) w2.heap.size 3 #[.int .i64 (n0 : Int), .int .i64 (n1 : Int), .int .i64 (n2 : Int), .int .i64 (n3 : Int)]) := Lib.hid (Blk.new w2 _ _)
  have HB3 := Lib.hid (below_alloc HB2.out (.cells #[.int .i64 (n0 : Int), .int .i64 (n1 : Int), .int .i64 (n2 : Int), .int .i64 (n3 : Int)] 3 (0, 0)))
  have HT3 := Lib.hid (HT2.out.below (below_alloc (Below.refl _ _) (.cells #[.int .i64 (n0 : Int), .int .i64 (n1 : Int), .int .i64 (n2 : Int), .int .i64 (n3 : Int)] 3 (0, 0))))
  clear c1 c0 HB2 HT2 HW2 Q1 Q0
  generalize w2.alloc (.cells #[.int .i64 (n0 : Int), .int .i64 (n1 : Int), .int .i64 (n2 : Int), .int .i64 (n3 : Int)] 3 (0, 0)) = w3 at *
  generalize w2.heap.size = R at *
  go_loopw [4, 6, 31] (fun v iv i wr => ∃ k : Nat, k ≤ 4 ∧ i = .int .i64 k ∧ Hid (OwnS wr w3.heap.size v (([d0, d1, d2, d3] : List ByteArray).take k)) ∧ Hid (Below w3.heap.size w3 wr)) (fun _ _ i _ => 4 - (intOf i).toNat)
  case atStart => exact ⟨0, Nat.zero_le _, rfl, Lib.hid (OwnS.nil _ _), Lib.hid (Below.refl _ _)⟩
  case round =>
    obtain ⟨k, hk, rfl, HO, HBr⟩ := hrel
    by_cases hlt : k < 4
    · have hk4 : k = 0 ∨ k = 1 ∨ k = 2 ∨ k = 3 := by omega
      have HTr := Lib.hid (HT3.out.below HBr.out)
      have HRr := Lib.hid (HR.out.below HBr.out HR.out.lt)
      rcases hk4 with rfl | rfl | rfl | rfl
      · have p := HRr.out.cell 0
        simp at p
        go_wp2_with fail
        refine (H0.out _ HTr.out).mono ?_
        rintro e w' ⟨rfl, hb⟩
        have HO1 := Lib.hid (HO.out.later hb)
        have HBr1 := Lib.hid (HBr.out.trans (hb.mono HBr.out.size))
        clear hb HO HBr HTr HRr p
        go_wp2_with (at_builtin; refine wpList_app strE rfl (.tmp 35) (.tmp 38) rfl rfl (World.ownsRow.alloc HO1.out _) rfl (src_one_new _ _ _) ?c1 ?c2 ?c3 ?c4 ?_)
        case c1 => first | rfl | (intro u hu; simp at hu; subst hu; rfl)
        case c2 => unfold maxLen; simp
        case c3 => simp
        case c4 => have := HBr1.out.size; simp; omega
        intro v' w4 hO hG
        have HO' := Lib.hid (OwnS.snoc hO)
        have HB' : Hid (Below w3.heap.size w3 w4) := Lib.hid ((Below.alloc HBr1.out HBr1.out.size _).trans (hG.below (by have := HBr1.out.size; simp; omega) (own_base HO1.out)))
        clear hO hG
        go_wp2
        exact ⟨⟨1, by decide, rfl, HO', HB'⟩, by simp [intOf]⟩
      · have p := HRr.out.cell 1
        simp at p
        go_wp2_with fail
        refine (H1.out _ HTr.out).mono ?_
        rintro e w' ⟨rfl, hb⟩
        have HO1 := Lib.hid (HO.out.later hb)
        have HBr1 := Lib.hid (HBr.out.trans (hb.mono HBr.out.size))
        clear hb HO HBr HTr HRr p
        go_wp2_with (at_builtin; refine wpList_app strE rfl (.tmp 35) (.tmp 38) rfl rfl (World.ownsRow.alloc HO1.out _) rfl (src_one_new _ _ _) ?c1 ?c2 ?c3 ?c4 ?_)
        case c1 => first | rfl | (intro u hu; simp at hu; subst hu; rfl)
        case c2 => unfold maxLen; simp
        case c3 => simp
        case c4 => have := HBr1.out.size; simp; omega
        intro v' w4 hO hG
        have HO' := Lib.hid (OwnS.snoc hO)
        have HB' : Hid (Below w3.heap.size w3 w4) := Lib.hid ((Below.alloc HBr1.out HBr1.out.size _).trans (hG.below (by have := HBr1.out.size; simp; omega) (own_base HO1.out)))
        clear hO hG
        go_wp2
        exact ⟨⟨2, by decide, rfl, HO', HB'⟩, by simp [intOf]⟩
      · have p := HRr.out.cell 2
        simp at p
        go_wp2_with fail
        refine (H2.out _ HTr.out).mono ?_
        rintro e w' ⟨rfl, hb⟩
        have HO1 := Lib.hid (HO.out.later hb)
        have HBr1 := Lib.hid (HBr.out.trans (hb.mono HBr.out.size))
        clear hb HO HBr HTr HRr p
        go_wp2_with (at_builtin; refine wpList_app strE rfl (.tmp 35) (.tmp 38) rfl rfl (World.ownsRow.alloc HO1.out _) rfl (src_one_new _ _ _) ?c1 ?c2 ?c3 ?c4 ?_)
        case c1 => first | rfl | (intro u hu; simp at hu; subst hu; rfl)
        case c2 => unfold maxLen; simp
        case c3 => simp
        case c4 => have := HBr1.out.size; simp; omega
        intro v' w4 hO hG
        have HO' := Lib.hid (OwnS.snoc hO)
        have HB' : Hid (Below w3.heap.size w3 w4) := Lib.hid ((Below.alloc HBr1.out HBr1.out.size _).trans (hG.below (by have := HBr1.out.size; simp; omega) (own_base HO1.out)))
        clear hO hG
        go_wp2
        exact ⟨⟨3, by decide, rfl, HO', HB'⟩, by simp [intOf]⟩
      · have p := HRr.out.cell 3
        simp at p
        go_wp2_with fail
        refine (H3.out _ HTr.out).mono ?_
        rintro e w' ⟨rfl, hb⟩
        have HO1 := Lib.hid (HO.out.later hb)
        have HBr1 := Lib.hid (HBr.out.trans (hb.mono HBr.out.size))
        clear hb HO HBr HTr HRr p
        go_wp2_with (at_builtin; refine wpList_app strE rfl (.tmp 35) (.tmp 38) rfl rfl (World.ownsRow.alloc HO1.out _) rfl (src_one_new _ _ _) ?c1 ?c2 ?c3 ?c4 ?_)
        case c1 => first | rfl | (intro u hu; simp at hu; subst hu; rfl)
        case c2 => unfold maxLen; simp
        case c3 => simp
        case c4 => have := HBr1.out.size; simp; omega
        intro v' w4 hO hG
        have HO' := Lib.hid (OwnS.snoc hO)
        have HB' : Hid (Below w3.heap.size w3 w4) := Lib.hid ((Below.alloc HBr1.out HBr1.out.size _).trans (hG.below (by have := HBr1.out.size; simp; omega) (own_base HO1.out)))
        clear hO hG
        go_wp2
        exact ⟨⟨4, by decide, rfl, HO', HB'⟩, by simp [intOf]⟩
    · obtain rfl : k = 4 := by omega
      obtain ⟨g, c, hv, _, hg, hc, _, hcell⟩ := HO.out.one (by simp)
      have hv' : u4 = .slice (some ⟨g, 0, none⟩) 4 c := hv
      have hc' : 4 ≤ c := hc
      have HJ2 := Lib.hid (HJ.out g c wr hg hc' (fun j x hx => by rw [Nat.zero_add]; exact hcell j x hx))
      clear hv hc hcell HJ
      subst hv'
      go_wp2_with fail
      refine HJ2.out.mono ?_
      rintro e w' ⟨rfl, hb⟩
      go_wp2_with fail
      go_ret
      exact ⟨rfl, HB3.out.trans ((HBr.out.trans (hb.mono HBr.out.size)).mono HB3.out.size)⟩
end Go.Proofs.YtippolfmljfleaaGreatDoor
