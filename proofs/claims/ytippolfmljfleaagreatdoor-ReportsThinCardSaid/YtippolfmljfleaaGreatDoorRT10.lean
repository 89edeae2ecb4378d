/-
  The generator of reports.
-/
import Derived.Test.YtippolfmljfleaaGreatDoorRT9
set_option linter.unusedVariables false
namespace Go.Proofs.YtippolfmljfleaaGreatDoor
open Go.RowKit Go
set_option linter.unusedVariables false

set_option maxRecDepth 100000 in
set_option maxHeartbeats 16000000 in
theorem reports_gen (b m K : Nat) (w : World) (h : Strm w b m) (hK : K ≤ 10) (hm : m + 1000 < 1099511627776) :
    Calls Tryz.prog 6 #[.pointer (some ⟨b, 0, none⟩), .int .i64 (K : Int)] w fun e w' => ∃ v L, e = .returned v ∧ OwnK layRb w' w.heap.size v L ∧ L.length ≤ 2 * K ∧ Gen b w w' (m + 260) := by
  have hblt := h.lt
  have HG0 : Hid (Gen b w w m) := Lib.hid (Gen.start h)
  clear h
  go_enter Tryz.func6, Tryz.ntmps6
  go_wp2_with fail
  go_loopw [5, 15] (fun out i wr => ∃ (j : Nat) (L : List RB), j ≤ K ∧ i = .int .i64 (j : Int) ∧ Hid (OwnK layRb wr w.heap.size out L) ∧ Hid (L.length ≤ 2 * j) ∧ Hid (Gen b w wr (m + 20 * j))) (fun _ i _ => K - (intOf i).toNat)
  case atStart => exact ⟨0, [], Nat.zero_le _, rfl, Lib.hid (OwnK.nil _ _ _), Lib.hid (Nat.zero_le _), HG0⟩
  case round =>
    clear HG0
    obtain ⟨j, L, hj, rfl, HO, HL, HGr⟩ := hrel
    by_cases hlt : j < K
    · have hbr : b < wr.heap.size := HGr.out.s.lt
      obtain ⟨mm, hmm⟩ : ∃ mm, m + 20 * j = mm := ⟨_, rfl⟩
      have hmb : mm + 100 < 1099511627776 := by omega
      have hm2 : mm + 20 ≤ m + 20 * (j + 1) := by omega
      have HG0 : Hid (Gen b wr wr mm) := Lib.hid (Gen.start (by rw [← hmm]; exact HGr.out.s))
      have HGw : Hid (∀ wx q, Gen b wr wx q → Gen b w wx q) := Lib.hid fun wx q hg => HGr.out.trans hg
      have HOlt : Hid (∀ k, u5.ownBlock = some k → k < wr.heap.size) := Lib.hid (own_lt HO.out)
      clear hmm HGr
      go_wp2_with fail
      refine (pick_new b mm _ _ _ _ [6, 6, 6, 17, 1] _ HG0.out.s rfl (by omega) rfl (by decide) rfl).mono ?_
      rintro e w1 ⟨p, rfl, hp, hg⟩
      have hp' : 1 ≤ p ∧ p ≤ 17 := by simp at hp; omega
      have HG1 := Lib.hid (HG0.out.trans hg)
      clear hp hg HG0
      go_wp2_with fail
      refine (range_gen b (mm + 1) _ _ _ HG1.out.s (by omega) (by omega) (by omega)).mono ?_
      rintro e w2 ⟨k1, rfl, ⟨hk10, hk11⟩, hg⟩
      have HG2 := Lib.hid (HG1.out.trans hg)
      clear hg HG1
      go_wp2_with fail
      refine (at_any _ _ (by omega)).mono ?_
      rintro e w3 ⟨rfl, o3, rfl⟩
      have HG3 := Lib.hid (HG2.out.alloc o3)
      clear HG2
      unfold vAddr
      go_wp2_with fail
      refine (range_gen b (mm + 1 + 1) _ _ _ HG3.out.s (by omega) (by omega) (by omega)).mono ?_
      rintro e w4 ⟨k2, rfl, ⟨hk20, hk21⟩, hg⟩
      have HG4 := Lib.hid (HG3.out.trans hg)
      clear hg HG3
      go_wp2_with fail
      refine (at_any _ _ (by omega)).mono ?_
      rintro e w5 ⟨rfl, o5, rfl⟩
      have HG5 := Lib.hid (HG4.out.alloc o5)
      clear HG4
      unfold vAddr
      go_wp2_with fail
      refine (flip_gen b (mm + 1 + 1 + 1) _ _ (HG5.out.s.alloc _) (by omega) (by omega)).mono ?_
      rintro e w6 ⟨kk, rfl, hg⟩
      have hF0 : w4.heap.size + 1 = (w4.alloc o5).heap.size := by simp
      have HG6 : Hid (Gen b wr w6 (mm + 4)) := Lib.hid ((HG5.out.alloc _).trans hg)
      have HF6 : Hid (FBlk w6 (w4.heap.size + 1) ⟨p, false, 0, 1681915904 + k1, false, 0, 1681915904 + k2, 0, 0⟩) := by
        have h5 := HG5.out.s.lt
        rw [hF0]
        exact Blk.keep (Blk.new (w4.alloc o5) _ _) hg.g (by omega)
      have hFr : wr.heap.size ≤ w4.heap.size + 1 := by rw [hF0]; exact HG5.out.g.size
      clear hg HG5 hF0
      generalize w4.heap.size + 1 = F at *
      have hbF : b < F := by omega
      go_upto_if 28 with fail
      go_cut [] (fun wx => ∃ f : FV, FBlk wx F f ∧ f.ok ∧ Gen b wr wx (mm + 5))
      case first =>
        as_aux_lemma =>
          go_wp2_with fail
          · refine (range_gen b (mm + 4) _ _ _ HG6.out.s (by omega) (by omega) (by omega)).mono ?_
            rintro e w7 ⟨k, rfl, ⟨hk0, hk1⟩, hg⟩
            have HF7 := HF6.out.keep hg.g (by omega)
            obtain ⟨-, -, -, -, c4, c5, c6, -, -, f0⟩ := FBlk.cells HF7
            have HF7 := Lib.hid HF7
            have HG7 := Lib.hid (HG6.out.trans hg)
            clear hg HF6 HG6
            go_wp2_with fail
            go_meet
            case rel =>
              exact ⟨⟨p, false, 0, 1681915904 + k1, false, 0, 167772160 + k, 0, 0⟩, FBlk.setTo (f := ⟨p, false, 0, 1681915904 + k1, false, 0, 1681915904 + k2, 0, 0⟩) HF7.out false 0 (167772160 + k), by simp only [FV.ok, I41, U64]; omega,
                Gen.setCell (Gen.setCell (Gen.setCell (HG7.out.mono (by omega)) ⟨F, 4, none⟩ _ hFr hbF) ⟨F, 5, none⟩ _ hFr hbF) ⟨F, 6, none⟩ _ hFr hbF⟩
          · go_meet
            case rel =>
              exact ⟨⟨p, false, 0, 1681915904 + k1, false, 0, 1681915904 + k2, 0, 0⟩, HF6.out, by simp only [FV.ok, I41, U64]; omega, HG6.out.mono (by omega)⟩
      case rest =>
        clear HF6 HG6 hp' hk10 hk11 hk20 hk21
        obtain ⟨f, hf, hfo, hg⟩ := hcut
        have HF := Lib.hid hf
        have HFo := Lib.hid hfo
        have HG := Lib.hid hg
        clear hf hfo hg
        obtain ⟨c0, c1, c2, c3, c4, c5, c6, c7, c8, f0⟩ := FBlk.cells HF.out
        go_upto_if 37 with fail
        go_cut [] (fun wx => ∃ f : FV, FBlk wx F f ∧ f.ok ∧ Gen b wr wx (mm + 7))
        case first =>
          go_wp2_with fail
          · refine (pick_new b (mm + 5) _ _ _ _ [9, 9, 10] _ HG.out.s rfl (by omega) rfl (by decide) rfl).mono ?_
            rintro e w8 ⟨k, rfl, hk, hg⟩
            have HF8 := Lib.hid (HF.out.keep hg.g (by omega))
            have HG8 := Lib.hid (HG.out.trans hg)
            have hk' : 9 ≤ k ∧ k ≤ 10 := by simp at hk; omega
            clear hg hk HF HG c0 c1 c2 c3 c4 c5 c6 c7 c8 f0
            go_wp2_with fail
            refine (pick_new b (mm + 5 + 1) _ _ _ _ [80, 80, 443, 22, 23] _ HG8.out.s rfl (by omega) rfl (by decide) rfl).mono ?_
            rintro e w9 ⟨q, rfl, hq, hg⟩
            have HF9 := HF8.out.keep hg.g (by omega)
            have HG9 := Lib.hid (HG8.out.trans hg)
            have hq' : 22 ≤ q ∧ q ≤ 443 := by simp at hq; omega
            obtain ⟨c0, c1, c2, c3, c4, c5, c6, c7, c8, f0⟩ := FBlk.cells HF9
            have HF9 := Lib.hid HF9
            clear hg hq HF8 HG8
            go_wp2_with fail
            go_meet
            case rel =>
              obtain ⟨z1, z2, z3, z4, z5, z6, z7⟩ := HFo.out
              exact ⟨{ f with fp := k, tp := q }, FBlk.setTp (FBlk.setFp HF9.out k) q, ⟨z1, z2, z3, z4, z5, by show I41 k; unfold I41; omega, by show I41 q; unfold I41; omega⟩,
                Gen.setCell (Gen.setCell (HG9.out.mono (by omega)) ⟨F, 7, none⟩ _ hFr hbF) ⟨F, 8, none⟩ _ hFr hbF⟩
          · go_meet
            case rel =>
              exact ⟨f, HF.out, HFo.out, HG.out.mono (by omega)⟩
        case rest =>
          clear HF HG HFo c0 c1 c2 c3 c4 c5 c6 c7 c8 f0
          obtain ⟨f, hf, hfo, hg⟩ := hcut
          have HF := Lib.hid hf
          have HFo := Lib.hid hfo
          have HG := Lib.hid hg
          clear hf hfo hg
          go_upto_region 9 with fail
          have HGs := Lib.hid (Gen.start HG.out.s)
          have hbw := HG.out.s.lt
          have hFw := HF.out.lt
          refine wp_region_inv 17 5 (rpgR b wc.heap.size f) (fun n wx => Gen b wc wx (mm + 7 + n)) (fun u v => u.grownBy v (some b)) (fun i => if i = 2 ∨ i = 5 ∨ i = 7 ∨ i = 11 ∨ i = 14 then 1 else 0)
            (by kernel_rfl) (by kernel_rfl) (by decide) rpgR_keep HGs.out.drew ?hX
          case' hX => (apply Exists.intro; refine ⟨fun T => ?hA, ?hob, ?hend⟩)
          case hA =>
            simp only [setAll, List.take_succ_cons, List.take_zero, Act.put, List.setIfInBounds_toArray, List.set_cons_succ, List.set_cons_zero, Nat.reduceAdd]
            exact rfl
          case hob =>
            have HFk : Hid (∀ wx, wc.grownBy wx (some b) → FBlk wx F f) := Lib.hid fun wx hg => HF.out.keep hg (by omega)
            clear HF HG HO HL HGw HGs
            go_light
            refine ⟨?_, ?_, ?_, ?_, ?_, ?_, ?_, ?_, ?_, ?_, ?_, ?_, ?_, ?_, ?_, ?_, ?_, trivial⟩
            all_goals (intro T wx n hC hn hp; dsimp only at hn ⊢; unfold Op1)
            · go_simp
              first | exact ⟨rfl, World.grownBy.refl _ _⟩ | exact ⟨rfl, hC, World.grownBy.refl _ _⟩
            · go_simp
              exact ⟨⟨wx.heap.size, rfl, by have := hC.s.lt; omega, rdStr_new wx _ [⟨#[110, 97]⟩, ⟨#[110, 98]⟩, ⟨#[110, 99]⟩, ⟨#[110, 100]⟩] _ rfl⟩, hC.alloc _, World.grownBy_alloc _ _ _⟩
            · obtain ⟨h1, ⟨g, h2, hgb, hR⟩, -⟩ := hp
              have h1 : T 0 = .pointer (some ⟨b, 0, none⟩) := h1
              go_simp
              refine (some_gen b (mm + 7 + n) g 4 [⟨#[110, 97]⟩, ⟨#[110, 98]⟩, ⟨#[110, 99]⟩, ⟨#[110, 100]⟩] _ hC.s (by simp at hn; omega) rfl (by omega) hR hgb).mono ?_
              rintro e w2 ⟨s, rfl, hs, hg2⟩
              refine ⟨_, rfl, ⟨s, rfl, ?_⟩, hC.trans hg2, hg2.g⟩
              simp at hs
              rcases hs with rfl | rfl | rfl | rfl <;> decide
            · go_simp
              first | exact ⟨rfl, World.grownBy.refl _ _⟩ | exact ⟨rfl, hC, World.grownBy.refl _ _⟩
            · go_simp
              exact ⟨⟨wx.heap.size, rfl, by have := hC.s.lt; omega, rdInts_new wx _ [0, 0, 1, 1, 2, 5, 23, 24, 30, 50, 720] _ rfl⟩, hC.alloc _, World.grownBy_alloc _ _ _⟩
            · obtain ⟨h1, ⟨g, h2, hgb, hR⟩, -⟩ := hp
              have h1 : T 3 = .pointer (some ⟨b, 0, none⟩) := h1
              go_simp
              refine (pick_gen b (mm + 7 + n) g 0 11 11 [0, 0, 1, 1, 2, 5, 23, 24, 30, 50, 720] _ hC.s (by simp at hn; omega) (by omega) hR hgb).mono ?_
              rintro e w2 ⟨y, rfl, hy, hg2⟩
              have hyb : 0 ≤ y ∧ y ≤ 720 := by simp at hy; omega
              exact ⟨_, rfl, ⟨y, rfl, hyb.1, hyb.2⟩, hC.trans hg2, hg2.g⟩
            · go_simp
              first | exact ⟨rfl, World.grownBy.refl _ _⟩ | exact ⟨rfl, hC, World.grownBy.refl _ _⟩
            · obtain ⟨h1, -⟩ := hp
              have h1 : T 6 = .pointer (some ⟨b, 0, none⟩) := h1
              go_simp
              refine (flip_gen b (mm + 7 + n) _ _ hC.s (by simp at hn; omega) (by omega)).mono ?_
              rintro e w2 ⟨o, rfl, hg2⟩
              exact ⟨_, rfl, ⟨o, rfl⟩, hC.trans hg2, hg2.g⟩
            · obtain ⟨c0, c1, c2, c3, c4, c5, c6, c7, c8, f0⟩ := FBlk.cells (HFk.out wx hC.g)
              go_simp
              first | exact ⟨rfl, World.grownBy.refl _ _⟩ | exact ⟨rfl, hC, World.grownBy.refl _ _⟩
            · go_simp
              first | exact ⟨rfl, World.grownBy.refl _ _⟩ | exact ⟨rfl, hC, World.grownBy.refl _ _⟩
            · go_simp
              exact ⟨⟨wx.heap.size, rfl, by have := hC.s.lt; omega, rdInts_new wx _ [1, 2, 10, 100] _ rfl⟩, hC.alloc _, World.grownBy_alloc _ _ _⟩
            · obtain ⟨h1, ⟨g, h2, hgb, hR⟩, -⟩ := hp
              have h1 : T 9 = .pointer (some ⟨b, 0, none⟩) := h1
              go_simp
              refine (pick_gen b (mm + 7 + n) g 0 4 4 [1, 2, 10, 100] _ hC.s (by simp at hn; omega) (by omega) hR hgb).mono ?_
              rintro e w2 ⟨y, rfl, hy, hg2⟩
              exact ⟨_, rfl, ⟨y, rfl⟩, hC.trans hg2, hg2.g⟩
            · go_simp
              first | exact ⟨rfl, World.grownBy.refl _ _⟩ | exact ⟨rfl, hC, World.grownBy.refl _ _⟩
            · go_simp
              exact ⟨⟨wx.heap.size, rfl, by have := hC.s.lt; omega, rdInts_new wx _ [0, 50, 100, 110, 1000, 1000000000, 1000000001] _ rfl⟩, hC.alloc _, World.grownBy_alloc _ _ _⟩
            · obtain ⟨h1, ⟨g, h2, hgb, hR⟩, -⟩ := hp
              have h1 : T 12 = .pointer (some ⟨b, 0, none⟩) := h1
              go_simp
              refine (pick_gen b (mm + 7 + n) g 0 7 7 [0, 50, 100, 110, 1000, 1000000000, 1000000001] _ hC.s (by simp at hn; omega) (by omega) hR hgb).mono ?_
              rintro e w2 ⟨y, rfl, hy, hg2⟩
              exact ⟨_, rfl, ⟨y, rfl⟩, hC.trans hg2, hg2.g⟩
            · obtain ⟨⟨s, h2, hs⟩, ⟨k, h5, hk0, hk1⟩, ⟨o, h7⟩, h8, ⟨k2, h11⟩, ⟨k3, h14⟩, -⟩ := hp
              have h8 : T 8 = .agg #[.int .i64 f.p, .bool f.s1, .int .u64 f.h1, .int .u64 f.l1, .bool f.s2, .int .u64 f.h2, .int .u64 f.l2, .int .i64 f.fp, .int .i64 f.tp] := h8
              go_simp
              have hz : ∃ r : RP, Value.agg #[.string s, .int .i64 k, .bool o, .int .i64 f.p, .bool f.s1, .int .u64 f.h1, .int .u64 f.l1, .bool f.s2, .int .u64 f.h2, .int .u64 f.l2, .int .i64 f.fp, .int .i64 f.tp, .int .i64 k2, .int .i64 k3] = .agg (rpC r).toArray ∧ r.Sm := ⟨⟨s, k, o, f, k2, k3⟩, rfl, HFo.out, by show -1099511627777 ≤ k; omega, by show k ≤ 1099511627777; omega, hs⟩
              first | exact ⟨hz, World.grownBy.refl _ _⟩ | exact ⟨hz, hC, World.grownBy.refl _ _⟩
            · go_simp
              have hz : rpgR b wc.heap.size f 16 (.pointer (some ⟨wx.heap.size, 0, none⟩)) (wx.alloc (.cells #[.string ⟨#[]⟩, .int .i64 0, .bool false, .int .i64 0, .bool false, .int .u64 0, .int .u64 0, .bool false, .int .u64 0, .int .u64 0, .int .i64 0, .int .i64 0, .int .i64 0, .int .i64 0] 45 (0, 0))) := ⟨wx.heap.size, rfl, hC.g.size, by have := hC.s.lt; omega, _, rfl, Blk.new wx _ _⟩
              exact ⟨hz, hC.alloc _, World.grownBy_alloc _ _ _⟩
          case hend =>
            intro T w7 ⟨n, hn, hC⟩ hR
            obtain ⟨r, hT15, hro⟩ := hR 15 (by omega)
            obtain ⟨R, hT16, hR0, hRb, cs, hcs, hRB⟩ := hR 16 (by omega)
            have hG7 : Gen b wr w7 (mm + 12) := HG.out.trans (hC.mono (by omega))
            have hF7 : FBlk w7 F f := HF.out.keep hC.g (by omega)
            have hRr : wr.heap.size ≤ R := Nat.le_trans HG.out.g.size hR0
            have hFR : F ≠ R := by omega
            have HTH : Hid (w7.there R 0 (rpC r).toArray.size) := Lib.hid fun j hj => ⟨by
              have hj' : j < 14 := hj
              rw [Nat.zero_add, hRB.cell j, Array.getElem?_eq_getElem (by omega)]
              rfl, hRB.free _⟩
            have HI : Hid ((Tryz.prog.info? 45).map (·.size) = some (rpC r).toArray.size) := Lib.hid size_rb
            have HX : Hid ((rpC r).toArray.all (·.oneCell') = true) := Lib.hid (all_oneCell_toArray (layRb.one ⟨r, hro⟩))
            have HS8 : Hid (RpS b (mm + 12) wr (w7.setCells R 0 (rpC r)) F R f r) := Lib.hid ⟨Gen.setCells hRr (by omega) _ _ _ hG7, Blk.farCells hF7 hFR 0 _, Blk.fill hRB (rpC r) (by rw [hcs]; rfl), HFo.out, hro, hFr, hRr, hFR, hbr⟩
            clear hR hC hG7 hF7 hRB hcs HF HG HGs HFo hn hro
            simp only [hT15, hT16, List.drop_succ_cons, List.drop_zero]
            clear hT15 hT16
            refine wpList_store_mid rfl 45 _ _ rfl R 0 (rpC r).toArray rfl rfl HTH.out HI.out HX.out ?_
            show wpList _ _ _ _ _ (w7.setCells R 0 (rpC r))
            generalize w7.setCells R 0 (rpC r) = w8 at *
            clear HTH HI HX
            go_wp2_with fail
            refine (flip_gen b (mm + 12) _ _ HS8.out.g.s (by omega) (by omega)).mono ?_
            rintro e w9 ⟨kk, rfl, hg⟩
            have HS9 : Hid (RpS b (mm + 13) wr w9 F R f r) := Lib.hid (HS8.out.step hg)
            clear hg HS8
            go_upto_if 64 with fail
            go_cut [] (fun wx => ∃ r : RP, RpS b (mm + 13) wr wx F R f r)
            case first =>
              cases kk
              · obtain ⟨c0, c1, c2, c3, c4, c5, c6, c7, c8, f0⟩ := FBlk.cells HS9.out.fb
                have HP0 : Hid (Blk (w9.alloc (.cells #[.bool f.s2, .int .u64 f.h2, .int .u64 f.l2] 41 (0, 0))) w9.heap.size 41 #[.bool f.s2, .int .u64 f.h2, .int .u64 f.l2]) := Lib.hid (Blk.new w9 _ _)
                have HSa := Lib.hid (HS9.out.alloc (.cells #[.bool f.s2, .int .u64 f.h2, .int .u64 f.l2] 41 (0, 0)))
                have hA0 : wr.heap.size ≤ w9.heap.size := HS9.out.g.g.size
                have hA1 : F ≠ w9.heap.size := by have := HS9.out.fb.lt; omega
                have hA2 : R ≠ w9.heap.size := by have := HS9.out.rb.lt; omega
                go_upto_region 12 with fail
                generalize w9.alloc (.cells #[.bool f.s2, .int .u64 f.h2, .int .u64 f.l2] 41 (0, 0)) = w10 at *
                generalize w9.heap.size = A at *
                clear c0 c1 c2 c3 c4 c5 c6 c7 c8 f0 HS9
                have r2 : w10.cell? ⟨R, 2, none⟩ = some (.bool r.out) := HSa.out.rb.cell 2
                go_upto_if 68 with fail
                go_cut [] (fun wx => ∃ (s : Bool) (h l : Int), Blk wx A 41 #[.bool s, .int .u64 h, .int .u64 l] ∧ RpS b (mm + 13) wr wx F R f r)
                case first =>
                  obtain ⟨c0, c1, c2, c3, c4, c5, c6, c7, c8, f0⟩ := FBlk.cells HSa.out.fb
                  have a0 := HP0.out.cell 0
                  have a1 := HP0.out.cell 1
                  have a2 := HP0.out.cell 2
                  have af := HP0.out.free
                  simp at a0 a1 a2
                  go_wp2_with fail
                  · go_meet
                    case rel => exact ⟨f.s1, f.h1, f.l1, HP0.out.set3, ((HSa.out.far hA0 hA1 hA2 0 _).far hA0 hA1 hA2 1 _).far hA0 hA1 hA2 2 _⟩
                  · go_meet
                    case rel => exact ⟨f.s2, f.h2, f.l2, HP0.out, HSa.out⟩
                case rest =>
                  clear HP0 HSa r2
                  obtain ⟨s, h', l', hP, hS⟩ := hcut
                  have HSb := Lib.hid hS
                  have a2 := hP.cell 2
                  simp at a2
                  clear hP hS
                  obtain ⟨v, hv⟩ : ∃ v, IntKind.u64.wrap (l' - 1681915904) = v := ⟨_, rfl⟩
                  have r0 : ∀ o, (wc.alloc o).cell? ⟨R, 0, none⟩ = some (.string r.node) := fun o => (HSb.out.rb.alloc o).cell 0
                  have rf : ∀ o i, (wc.alloc o).frozen? ⟨R, i, none⟩ = false := fun o => (HSb.out.rb.alloc o).free
                  have HN : Hid (∀ s : ByteArray, s.size ≤ 1000 → ∀ o, RpS b (mm + 13) wr ((wc.alloc o).setCell ⟨R, 0, none⟩ (.string s)) F R f { r with node := s }) := Lib.hid fun s hs o => (HSb.out.alloc o).setR 0 (.string s) { r with node := s } rfl (Sm_node HSb.out.ro hs)
                  by_cases h1 : 1 ≤ v
                  · by_cases h4 : v ≤ 4
                    · have h5 : v = 1 ∨ v = 2 ∨ v = 3 ∨ v = 4 := by omega
                      clear h1 h4
                      rcases h5 with h5 | h5 | h5 | h5
                      all_goals
                        subst h5
                        go_wp2_with fail
                        go_meet
                        case rel => exact ⟨_, HN.out _ (by decide) _⟩
                    · have h6 : (v ≤ 4) = False := eq_false h4
                      go_wp2_with fail
                      go_meet
                      case rel => exact ⟨r, HSb.out⟩
                  · have h6 : (1 ≤ v) = False := eq_false h1
                    go_wp2_with fail
                    go_meet
                    case rel => exact ⟨r, HSb.out⟩
              · go_wp2_with fail
                go_meet
                case rel => exact ⟨r, HS9.out⟩
            case rest =>
              clear HS9
              obtain ⟨r, hS⟩ := hcut
              have HS := Lib.hid hS
              clear hS
              obtain ⟨x, hx⟩ : ∃ x : RB, x.1 = r := ⟨⟨r, HS.out.ro⟩, rfl⟩
              have HXs : Hid ((rpC r).length = 14) := Lib.hid rfl
              have hxe : layRb.enc x = rpC r := by rw [← hx]; rfl
              have HRr : Hid (wc.rangeAt R 0 (rpC r)) := Lib.hid HS.out.rb.range
              have HO17 := Lib.hid (HO.out.gen HS.out.g hblt)
              have HOr : Hid (wc.ownsRow w.heap.size 45 14 u5 L.length (layRb.all L)) := HO17
              have hLb : 2 * j ≤ 20 := by omega
              have hLc := HL.out
              have Hxe := Lib.hid hxe
              clear HO hxe
              generalize hXC : rpC r = XC at HXs HRr Hxe
              have HXC := Lib.hid hXC
              clear hXC
              have HXz : Hid (XC.toArray.size = 14) := Lib.hid (by simpa using HXs.out)
              go_wp2_with (first | (refine wpList_loadn rfl 45 _ rfl R 0 rfl _ _ HRr.out under_rb rfl 14 size_rb HXs.out ?_; go_simp) | (refine wpList_build1 rfl 26 45 _ rfl XC.toArray rfl 14 Tryz.underlying26 zero_rb HXz.out (by decide) (by decide) ?_; go_simp) | (at_builtin; refine wpList_app rbE rfl (.tmp 85) (.tmp 87) rfl rfl (World.ownsRow.alloc HOr.out _) rfl (src_new layRb _ x _ _ ?c0) ?c1 ?c2 ?c3 ?c4 ?_))
              case c0 => rw [Hxe.out]
              case c1 => exact layRb.one x
              case c2 => unfold maxLen; omega
              case c3 => omega
              case c4 => have := (HGw.out _ _ HS.out.g).g.size; simp; omega
              intro v' w' hO' hG'
              have hbz : w.heap.size ≤ (wc.alloc (.cells XC.toArray 45 (0, 0))).heap.size := by have := (HGw.out _ _ HS.out.g).g.size; simp; omega
              have HG2 : Hid (Gen b w w' (mm + 13)) := Lib.hid (Gen.below ((HGw.out _ _ HS.out.g).alloc (.cells XC.toArray 45 (0, 0))) (hG'.below hbz (own_base HOr.out)) (Nat.le_refl _) hblt)
              have HL2 : Hid (OwnK layRb w' w.heap.size v' (L ++ [x])) := Lib.hid (OwnK.snoc hO')
              have HF2 : Hid (FBlk w' F f) := Lib.hid ((hG'.g.block F (by have := (HS.out.fb).lt; simp; omega) (fun e => by have := HOlt.out F e.symm; have := HS.out.hF; omega)).trans (HS.out.fb.alloc (.cells XC.toArray 45 (0, 0))))
              have HR2 : Hid (Blk w' R 45 (rpC r).toArray) := Lib.hid ((hG'.g.block R (by have := (HS.out.rb).lt; simp; omega) (fun e => by have := HOlt.out R e.symm; have := HS.out.hR; omega)).trans (HS.out.rb.alloc (.cells XC.toArray 45 (0, 0))))
              have hFb : F ≠ b := by have := HS.out.hF; have := HS.out.hb; omega
              have hRb2 : R ≠ b := by have := HS.out.hR; have := HS.out.hb; omega
              have Hro : Hid r.Sm := Lib.hid HS.out.ro
              clear hO' hG' hbz HOr HO17 HS HRr HGw HOlt hFr hbF hRr hFR hbr hR0 hRb hFw hbw
              obtain ⟨w2, hw2⟩ : ∃ q, w' = q := ⟨_, rfl⟩
              rw [hw2] at HG2 HL2 HF2 HR2 ⊢
              clear hw2
              go_wp2_with fail
              refine (flip_gen b (mm + 13) _ _ HG2.out.s (by omega) (by omega)).mono ?_
              rintro e w3 ⟨kk, rfl, hg⟩
              have HG3 := Lib.hid hg
              clear hg
              cases kk
              · have HE1 := Lib.hid (HL2.out.gen HG3.out hblt)
                have HE2 : Hid ((L ++ [x]).length ≤ 2 * (j + 1)) := Lib.hid (by rw [List.length_append, List.length_singleton]; omega)
                have HE3 : Hid (Gen b w w3 (m + 20 * (j + 1))) := Lib.hid ((HG2.out.trans HG3.out).mono (by omega))
                go_wp2_with fail
                exact ⟨⟨j + 1, L ++ [x], by omega, by go_num, HE1, HE2, HE3⟩, by simp [intOf]; omega⟩
              · skip
                have hb2 : b < w2.heap.size := HG2.out.s.lt
                have HT0 : Hid (RpT b (mm + 14) w2 (w3.alloc (.cells XC.toArray 45 (0, 0))) F R w3.heap.size f r r) := Lib.hid (by
                  have h3 : w2.heap.size ≤ w3.heap.size := HG3.out.g.size
                  have hf := HF2.out.lt
                  have hr := HR2.out.lt
                  refine ⟨HG3.out.alloc _, (HF2.out.keep HG3.out.g hFb).alloc _, (HR2.out.keep HG3.out.g hRb2).alloc _, ?_, Hro.out, hFb, hRb2, h3, by omega, by omega, hb2⟩
                  rw [HXC.out]
                  exact Blk.new w3 _ _)
                have HRr : Hid (w3.rangeAt R 0 XC) := Lib.hid (by rw [← HXC.out]; exact (HR2.out.keep HG3.out.g hRb2).range)
                have HXo : Hid (XC.toArray.all (·.oneCell') = true) := Lib.hid (by rw [← HXC.out]; exact all_oneCell_toArray (layRb.one ⟨r, Hro.out⟩))
                go_upto_region 20 with (first | (refine wpList_loadn rfl 45 _ rfl R 0 rfl _ _ HRr.out under_rb rfl 14 size_rb HXs.out ?_; go_simp) | (refine wpList_var XC.toArray 45 Tryz.zeroValue45 rfl rfl rfl _ _ rfl _ rfl ?_ ?_ 14 size_rb HXz.out ?_ HXo.out ?_; all_goals (try rfl); try go_simp))
                generalize w3.alloc (.cells XC.toArray 45 (0, 0)) = w4 at *
                generalize w3.heap.size = O at *
                clear HRr HXo HF2 HR2 HG3
                have r2 : w4.cell? ⟨R, 2, none⟩ = some (.bool r.out) := HT0.out.rb.cell 2
                have o2 : w4.cell? ⟨O, 2, none⟩ = some (.bool r.out) := HT0.out.ob.cell 2
                have of := HT0.out.ob.free
                have HT1 : Hid (RpT b (mm + 14) w2 (w4.setCell ⟨O, 2, none⟩ (.bool (!r.out))) F R O f r { r with out := !r.out }) := Lib.hid (HT0.out.setO 2 (.bool (!r.out)) { r with out := !r.out } rfl HT0.out.oo)
                go_upto_region 21 with fail
                generalize w4.setCell ⟨O, 2, none⟩ (.bool (!r.out)) = w5 at *
                clear r2 o2 of HT0
                obtain ⟨o, ho⟩ : ∃ q : RP, { r with out := !r.out } = q := ⟨_, rfl⟩
                rw [ho] at HT1
                clear ho
                obtain ⟨c0, c1, c2, c3, c4, c5, c6, c7, c8, f0⟩ := FBlk.cells HT1.out.fb
                have HP0 : Hid (Blk (w5.alloc (.cells #[.bool f.s2, .int .u64 f.h2, .int .u64 f.l2] 41 (0, 0))) w5.heap.size 41 #[.bool f.s2, .int .u64 f.h2, .int .u64 f.l2]) := Lib.hid (Blk.new w5 _ _)
                have HTa := Lib.hid (HT1.out.alloc (.cells #[.bool f.s2, .int .u64 f.h2, .int .u64 f.l2] 41 (0, 0)))
                have hA0 : w2.heap.size ≤ w5.heap.size := HT1.out.g.g.size
                have hA1 : F ≠ w5.heap.size := by have := HT1.out.fb.lt; omega
                have hA2 : R ≠ w5.heap.size := by have := HT1.out.rb.lt; omega
                have hA3 : O ≠ w5.heap.size := by have := HT1.out.ob.lt; omega
                go_upto_region 22 with fail
                generalize w5.alloc (.cells #[.bool f.s2, .int .u64 f.h2, .int .u64 f.l2] 41 (0, 0)) = w6 at *
                generalize w5.heap.size = A at *
                clear c0 c1 c2 c3 c4 c5 c6 c7 c8 f0 HT1
                have o2 : w6.cell? ⟨O, 2, none⟩ = some (.bool o.out) := HTa.out.ob.cell 2
                go_upto_if 99 with fail
                go_cut [] (fun wx => ∃ (s : Bool) (h l : Int), Blk wx A 41 #[.bool s, .int .u64 h, .int .u64 l] ∧ RpT b (mm + 14) w2 wx F R O f r o)
                case first =>
                  as_aux_lemma =>
                    obtain ⟨c0, c1, c2, c3, c4, c5, c6, c7, c8, f0⟩ := FBlk.cells HTa.out.fb
                    have a0 := HP0.out.cell 0
                    have a1 := HP0.out.cell 1
                    have a2 := HP0.out.cell 2
                    have af := HP0.out.free
                    simp at a0 a1 a2
                    go_wp2_with fail
                    · go_meet
                      case rel => exact ⟨f.s1, f.h1, f.l1, HP0.out.set3, ((HTa.out.far hA0 hA1 hA2 hA3 0 _).far hA0 hA1 hA2 hA3 1 _).far hA0 hA1 hA2 hA3 2 _⟩
                    · go_meet
                      case rel => exact ⟨f.s2, f.h2, f.l2, HP0.out, HTa.out⟩
                case rest =>
                clear HP0 HTa o2
                obtain ⟨s, h', l', hP, hS⟩ := hcut
                have HTb := Lib.hid hS
                have a2 := hP.cell 2
                simp at a2
                clear hP hS
                obtain ⟨v, hv⟩ : ∃ v, IntKind.u64.wrap (l' - 1681915904) = v := ⟨_, rfl⟩
                have r0 : ∀ x, (wc.alloc x).cell? ⟨O, 0, none⟩ = some (.string o.node) := fun x => (HTb.out.ob.alloc x).cell 0
                have rf : ∀ x i, (wc.alloc x).frozen? ⟨O, i, none⟩ = false := fun x => (HTb.out.ob.alloc x).free
                have HN : Hid (∀ s : ByteArray, s.size ≤ 1000 → ∀ x, RpT b (mm + 14) w2 ((wc.alloc x).setCell ⟨O, 0, none⟩ (.string s)) F R O f r { o with node := s }) := Lib.hid fun s hs x => (HTb.out.alloc x).setO 0 (.string s) { o with node := s } rfl (Sm_node HTb.out.oo hs)
                go_upto_region 25 with fail
                go_cut [110] (fun s wx => ∃ k : Bool, s = .bool k ∧ (k = true → 1 ≤ v ∧ v ≤ 4) ∧ RpT b (mm + 14) w2 wx F R O f r o)
                case first =>
                  as_aux_lemma =>
                    clear HN r0 rf
                    by_cases h1 : 1 ≤ v
                    · by_cases h4 : v ≤ 4
                      · go_wp2_with fail
                        go_meet
                        case rel => exact ⟨true, rfl, fun _ => ⟨h1, h4⟩, HTb.out⟩
                      · have h6 : (v ≤ 4) = False := eq_false h4
                        go_wp2_with fail
                        go_meet
                        case rel => exact ⟨false, rfl, (fun h => by cases h), HTb.out⟩
                    · have h6 : (1 ≤ v) = False := eq_false h1
                      go_wp2_with fail
                      go_meet
                      case rel => exact ⟨false, rfl, (fun h => by cases h), HTb.out⟩
                case rest =>
                clear HTb HN r0 rf a2 hv
                obtain ⟨kb, rfl, hkb, hS⟩ := hcut
                have HTb := Lib.hid hS
                have HKb := Lib.hid hkb
                have r0 : ∀ x, (wc.alloc x).cell? ⟨O, 0, none⟩ = some (.string o.node) := fun x => (HTb.out.ob.alloc x).cell 0
                have rf : ∀ x i, (wc.alloc x).frozen? ⟨O, i, none⟩ = false := fun x => (HTb.out.ob.alloc x).free
                have HN : Hid (∀ s : ByteArray, s.size ≤ 1000 → ∀ x, RpT b (mm + 14) w2 ((wc.alloc x).setCell ⟨O, 0, none⟩ (.string s)) F R O f r { o with node := s }) := Lib.hid fun s hs x => (HTb.out.alloc x).setO 0 (.string s) { o with node := s } rfl (Sm_node HTb.out.oo hs)
                clear hS hkb
                go_upto_if 110 with fail
                go_cut [] (fun wx => ∃ o : RP, RpT b (mm + 14) w2 wx F R O f r o)
                case first =>
                  cases kb
                  · clear HN r0 rf
                    go_wp2_with fail
                    go_meet
                    case rel => exact ⟨o, HTb.out⟩
                  · obtain ⟨h1, h4⟩ := HKb.out rfl
                    have h5 : v = 1 ∨ v = 2 ∨ v = 3 ∨ v = 4 := by omega
                    clear h1 h4 HKb HTb
                    rcases h5 with h5 | h5 | h5 | h5
                    · subst h5
                      go_wp2_with fail
                      go_meet
                      case rel => exact ⟨_, HN.out ⟨#[110, 97]⟩ (by decide) _⟩
                    · subst h5
                      go_wp2_with fail
                      go_meet
                      case rel => exact ⟨_, HN.out ⟨#[110, 98]⟩ (by decide) _⟩
                    · subst h5
                      go_wp2_with fail
                      go_meet
                      case rel => exact ⟨_, HN.out ⟨#[110, 99]⟩ (by decide) _⟩
                    · subst h5
                      go_wp2_with fail
                      go_meet
                      case rel => exact ⟨_, HN.out ⟨#[110, 100]⟩ (by decide) _⟩
                case rest =>
                clear HTb HN r0 rf HKb
                obtain ⟨o, hS⟩ := hcut
                have HT := Lib.hid hS
                clear hS
                go_upto_region 27 with fail
                refine wp_region_inv 8 1 (rqgR b R O 12 5 [0, 0, -1, -5, 1] r.pk) (fun n wx => Gen b wc wx (mm + 14 + n)) (fun u v => u.grownBy v (some b)) (fun i => if i = 4 then 1 else 0)
                  (by kernel_rfl) (by kernel_rfl) (by decide) rqgR_keep (Gen.start HT.out.g.s).drew ?hX2
                case' hX2 => (apply Exists.intro; refine ⟨fun T => ?hA2, ?hob2, ?hend2⟩)
                case hA2 =>
                  simp only [setAll, List.take_succ_cons, List.take_zero, Act.put, List.setIfInBounds_toArray, List.set_cons_succ, List.set_cons_zero, Nat.reduceAdd]
                  exact rfl
                case hob2 =>
                  have HTk : Hid (∀ wx, wc.grownBy wx (some b) → wx.cell? ⟨R, 12, none⟩ = some (.int .i64 r.pk)) := Lib.hid fun wx hg => (HT.out.rb.keep hg HT.out.hR).cell 12
                  clear HT HL2
                  go_light
                  refine ⟨?_, ?_, ?_, ?_, ?_, ?_, ?_, ?_, trivial⟩
                  all_goals (intro T wx n hC hn hp; dsimp only at hn ⊢; unfold Op1)
                  · go_simp
                    first | exact ⟨rfl, World.grownBy.refl _ _⟩ | exact ⟨rfl, hC, World.grownBy.refl _ _⟩
                  · obtain ⟨h1, -⟩ := hp
                    have h1 : T 0 = .pointer (some ⟨R, 12, none⟩) := h1
                    have hc := HTk.out wx hC.g
                    go_simp
                    first | exact ⟨rfl, World.grownBy.refl _ _⟩ | exact ⟨rfl, hC, World.grownBy.refl _ _⟩
                  · go_simp
                    first | exact ⟨rfl, World.grownBy.refl _ _⟩ | exact ⟨rfl, hC, World.grownBy.refl _ _⟩
                  · go_simp
                    exact ⟨⟨wx.heap.size, rfl, by have := hC.s.lt; omega, rdInts_new wx _ [0, 0, -1, -5, 1] _ rfl⟩, hC.alloc _, World.grownBy_alloc _ _ _⟩
                  · obtain ⟨h1, ⟨g, h2, hgb, hR⟩, -⟩ := hp
                    have h1 : T 2 = .pointer (some ⟨b, 0, none⟩) := h1
                    go_simp
                    refine (pick_gen b (mm + 14 + n) g 0 5 5 [0, 0, -1, -5, 1] _ hC.s (by simp at hn; omega) (by omega) hR hgb).mono ?_
                    rintro e w2 ⟨y, rfl, hy, hg2⟩
                    exact ⟨_, rfl, ⟨y, rfl⟩, hC.trans hg2, hg2.g⟩
                  · obtain ⟨h1, ⟨k, h2⟩, -⟩ := hp
                    have h1 : T 1 = .int .i64 r.pk := h1
                    go_simp
                    first | exact ⟨⟨_, rfl⟩, World.grownBy.refl _ _⟩ | exact ⟨⟨_, rfl⟩, hC, World.grownBy.refl _ _⟩
                  · obtain ⟨⟨k, h2⟩, -⟩ := hp
                    go_simp
                    first | exact ⟨⟨_, rfl⟩, World.grownBy.refl _ _⟩ | exact ⟨⟨_, rfl⟩, hC, World.grownBy.refl _ _⟩
                  · go_simp
                    first | exact ⟨rfl, World.grownBy.refl _ _⟩ | exact ⟨rfl, hC, World.grownBy.refl _ _⟩
                case hend2 =>
                  intro T w7 ⟨n, hn, hC⟩ hR
                  obtain ⟨k, hT6⟩ := hR 6 (by omega)
                  have hT7 : T 7 = .pointer (some ⟨O, 12, none⟩) := hR 7 (by omega)
                  have HT7 : Hid (RpT b (mm + 14 + 1) w2 w7 F R O f r o) := Lib.hid (HT.out.step (hC.mono (by omega)))
                  clear HT hR hC hn
                  have o0 := HT7.out.ob.cell 12
                  have of := HT7.out.ob.free
                  have HT8 : Hid (RpT b (mm + 14 + 1) w2 (w7.setCell ⟨O, 12, none⟩ (.int .i64 k)) F R O f r { o with pk := k }) := Lib.hid (HT7.out.setO 12 (.int .i64 k) { o with pk := k } rfl HT7.out.oo)
                  have o1 : w7.cell? ⟨O, 12, none⟩ = some (.int .i64 o.pk) := o0
                  simp only [List.drop_succ_cons, List.drop_zero]
                  go_upto_region 28 with fail
                  generalize w7.setCell ⟨O, 12, none⟩ (.int .i64 k) = WY at *
                  clear o0 o1 of HT7 hT6 hT7
                  obtain ⟨o, ho⟩ : ∃ q : RP, { o with pk := k } = q := ⟨_, rfl⟩
                  rw [ho] at HT8
                  clear ho
                  have HT := HT8
                  refine wp_region_inv 8 1 (rqgR b R O 13 4 [0, -50, -1, 20] r.sz) (fun n wx => Gen b WY wx (mm + 15 + n)) (fun u v => u.grownBy v (some b)) (fun i => if i = 4 then 1 else 0)
                    (by kernel_rfl) (by kernel_rfl) (by decide) rqgR_keep (Gen.start HT.out.g.s).drew ?hX3
                  case' hX3 => (apply Exists.intro; refine ⟨fun T => ?hA3, ?hob3, ?hend3⟩)
                  case hA3 =>
                    simp only [setAll, List.take_succ_cons, List.take_zero, Act.put, List.setIfInBounds_toArray, List.set_cons_succ, List.set_cons_zero, Nat.reduceAdd]
                    exact rfl
                  case hob3 =>
                    have HTk : Hid (∀ wx, WY.grownBy wx (some b) → wx.cell? ⟨R, 13, none⟩ = some (.int .i64 r.sz)) := Lib.hid fun wx hg => (HT.out.rb.keep hg HT.out.hR).cell 13
                    clear HT HL2
                    go_light
                    refine ⟨?_, ?_, ?_, ?_, ?_, ?_, ?_, ?_, trivial⟩
                    all_goals (intro T wx n hC hn hp; dsimp only at hn ⊢; unfold Op1)
                    · go_simp
                      first | exact ⟨rfl, World.grownBy.refl _ _⟩ | exact ⟨rfl, hC, World.grownBy.refl _ _⟩
                    · obtain ⟨h1, -⟩ := hp
                      have h1 : T 0 = .pointer (some ⟨R, 13, none⟩) := h1
                      have hc := HTk.out wx hC.g
                      go_simp
                      first | exact ⟨rfl, World.grownBy.refl _ _⟩ | exact ⟨rfl, hC, World.grownBy.refl _ _⟩
                    · go_simp
                      first | exact ⟨rfl, World.grownBy.refl _ _⟩ | exact ⟨rfl, hC, World.grownBy.refl _ _⟩
                    · go_simp
                      exact ⟨⟨wx.heap.size, rfl, by have := hC.s.lt; omega, rdInts_new wx _ [0, -50, -1, 20] _ rfl⟩, hC.alloc _, World.grownBy_alloc _ _ _⟩
                    · obtain ⟨h1, ⟨g, h2, hgb, hR⟩, -⟩ := hp
                      have h1 : T 2 = .pointer (some ⟨b, 0, none⟩) := h1
                      go_simp
                      refine (pick_gen b (mm + 15 + n) g 0 4 4 [0, -50, -1, 20] _ hC.s (by simp at hn; omega) (by omega) hR hgb).mono ?_
                      rintro e w2 ⟨y, rfl, hy, hg2⟩
                      exact ⟨_, rfl, ⟨y, rfl⟩, hC.trans hg2, hg2.g⟩
                    · obtain ⟨h1, ⟨k, h2⟩, -⟩ := hp
                      have h1 : T 1 = .int .i64 r.sz := h1
                      go_simp
                      first | exact ⟨⟨_, rfl⟩, World.grownBy.refl _ _⟩ | exact ⟨⟨_, rfl⟩, hC, World.grownBy.refl _ _⟩
                    · obtain ⟨⟨k, h2⟩, -⟩ := hp
                      go_simp
                      first | exact ⟨⟨_, rfl⟩, World.grownBy.refl _ _⟩ | exact ⟨⟨_, rfl⟩, hC, World.grownBy.refl _ _⟩
                    · go_simp
                      first | exact ⟨rfl, World.grownBy.refl _ _⟩ | exact ⟨rfl, hC, World.grownBy.refl _ _⟩
                  case hend3 =>
                    intro T w7 ⟨n, hn, hC⟩ hR
                    obtain ⟨k, hT6⟩ := hR 6 (by omega)
                    have hT7 : T 7 = .pointer (some ⟨O, 13, none⟩) := hR 7 (by omega)
                    have HT7 : Hid (RpT b (mm + 15 + 1) w2 w7 F R O f r o) := Lib.hid (HT.out.step (hC.mono (by omega)))
                    clear HT hR hC hn
                    have o0 := HT7.out.ob.cell 13
                    have of := HT7.out.ob.free
                    have HT8 : Hid (RpT b (mm + 15 + 1) w2 (w7.setCell ⟨O, 13, none⟩ (.int .i64 k)) F R O f r { o with sz := k }) := Lib.hid (HT7.out.setO 13 (.int .i64 k) { o with sz := k } rfl HT7.out.oo)
                    have o1 : w7.cell? ⟨O, 13, none⟩ = some (.int .i64 o.sz) := o0
                    simp only [List.drop_succ_cons, List.drop_zero]
                    go_upto_region 29 with fail
                    generalize w7.setCell ⟨O, 13, none⟩ (.int .i64 k) = WZ at *
                    clear o0 o1 of HT7 hT6 hT7
                    obtain ⟨o, ho⟩ : ∃ q : RP, { o with sz := k } = q := ⟨_, rfl⟩
                    rw [ho] at HT8
                    clear ho
                    obtain ⟨y, hy⟩ : ∃ y : RB, y.1 = o := ⟨⟨o, HT8.out.oo⟩, rfl⟩
                    have HYs : Hid ((rpC o).length = 14) := Lib.hid rfl
                    have hye : layRb.enc y = rpC o := by rw [← hy]; rfl
                    have HRo : Hid (WZ.rangeAt O 0 (rpC o)) := Lib.hid HT8.out.ob.range
                    have HO29 := HL2.out.gen HT8.out.g hblt
                    have HOw : Hid (WZ.ownsRow w.heap.size 45 14 v' (L ++ [x]).length (layRb.all (L ++ [x]))) := Lib.hid HO29
                    have HG9 : Hid (Gen b w WZ (m + 20 * (j + 1))) := Lib.hid ((HG2.out.trans HT8.out.g).mono (by omega))
                    have Hye := Lib.hid hye
                    clear HO29 hye HL2 HG2 HT8
                    generalize rpC o = YC at HYs HRo Hye
                    have HYz : Hid (YC.toArray.size = 14) := Lib.hid (by simpa using HYs.out)
                    have hLl : (L ++ [x]).length = L.length + 1 := by simp
                    go_wp2_with (first | (refine wpList_loadn rfl 45 _ rfl O 0 rfl _ _ HRo.out under_rb rfl 14 size_rb HYs.out ?_; go_simp) | (refine wpList_build1 rfl 26 45 _ rfl YC.toArray rfl 14 Tryz.underlying26 zero_rb HYz.out (by decide) (by decide) ?_; go_simp) | (at_builtin; refine wpList_app rbE rfl (.tmp 132) (.tmp 134) rfl rfl (World.ownsRow.alloc HOw.out _) rfl (src_new layRb _ y _ _ ?d0) ?d1 ?d2 ?d3 ?d4 ?_))
                    case d0 => rw [Hye.out]
                    case d1 => exact layRb.one y
                    case d2 => unfold maxLen; omega
                    case d3 => omega
                    case d4 => have := HG9.out.g.size; simp; omega
                    intro v3 w9 hO9 hG9'
                    have hbz : w.heap.size ≤ (WZ.alloc (.cells YC.toArray 45 (0, 0))).heap.size := by have := HG9.out.g.size; simp; omega
                    have HE1 : Hid (OwnK layRb w9 w.heap.size v3 (L ++ [x] ++ [y])) := Lib.hid (OwnK.snoc (by rw [hLl]; exact hO9))
                    have HE2 : Hid ((L ++ [x] ++ [y]).length ≤ 2 * (j + 1)) := Lib.hid (by rw [List.length_append, hLl, List.length_singleton]; omega)
                    have HE3 : Hid (Gen b w w9 (m + 20 * (j + 1))) := Lib.hid (Gen.below (HG9.out.alloc (.cells YC.toArray 45 (0, 0))) (hG9'.below hbz (own_base HOw.out)) (Nat.le_refl _) hblt)
                    clear hO9 hG9' hbz HOw HRo HG9 hLl
                    go_wp2_with fail
                    exact ⟨⟨j + 1, _, by omega, by go_num, HE1, HE2, HE3⟩, by simp [intOf]; omega⟩
    · obtain rfl : j = K := by omega
      obtain ⟨a1, c1, hv1, -⟩ := HO.out.form
      subst hv1
      obtain ⟨n1, hn1⟩ : ∃ q, L.length = q := ⟨_, rfl⟩
      rw [hn1] at HO HL ⊢
      have hL1 := HL.out
      have Hn1 := Lib.hid hn1
      clear hn1
      have eg : ∀ args w, (callFunc 36 args).run Tryz.prog w = .ok (.enter 36 args) w := Go.Proofs.enters_of Tryz.func36 (by kernel_rfl) rfl
      have HSO := Lib.hid (sortStableRb_any 36 eg reportOrder_any w.heap.size n1 c1 a1 L wr HO.out (by omega))
      clear eg
      have hwr := HGr.out.g.size
      go_wp2_with fail
      refine HSO.out.mono ?_
      rintro e w1 ⟨rfl, hO1, hG1⟩
      have HG1 : Hid (Gen b w w1 (m + 20 * j)) := Lib.hid (Gen.below HGr.out (hG1.below hwr (own_base HO.out)) (Nat.le_refl _) hblt)
      have HO1 := Lib.hid hO1
      have hl1 := stabR_len L
      rw [Hn1.out] at hl1
      clear hO1 hG1 HSO HO HGr hwr HL
      generalize stabR L = L1 at *
      have hw1 := HG1.out.g.size
      have HCF := Lib.hid (compactFuncRb_any w.heap.size a1 n1 c1 L1 w1 HO1.out (by omega) hw1 sameR reports1_any)
      go_wp2_with fail
      refine HCF.out.mono ?_
      rintro e w2 ⟨v2, rfl, hO2, hG2⟩
      have HG2 : Hid (Gen b w w2 (m + 20 * j)) := Lib.hid (Gen.below HG1.out (hG2.below hw1 (own_base HO1.out)) (Nat.le_refl _) hblt)
      have hl2 := compL_len sameR L1
      rw [hl1] at hl2
      have HO2 := Lib.hid hO2
      clear hO2 hG2 HCF HO1 HG1 hw1 hl1
      generalize compL sameR L1 = L2 at *
      obtain ⟨a2, c2, hv2, -⟩ := HO2.out.form
      subst hv2
      obtain ⟨n2, hn2⟩ : ∃ q, L2.length = q := ⟨_, rfl⟩
      rw [hn2] at HO2 hl2 ⊢
      have Hn2 := Lib.hid hn2
      clear hn2
      have hn20 : n2 ≤ 20 := by omega
      go_upto_region 33 with fail
      go_cut [147] (fun s wx => ∃ kb : Bool, s = .bool kb ∧ (kb = true → 0 < n2) ∧ Gen b w wx (m + 20 * j + 1) ∧ OwnK layRb wx w.heap.size (.slice a2 n2 c2) L2)
      case first =>
        as_aux_lemma =>
          rcases Nat.eq_zero_or_pos n2 with h0 | h0
          · subst h0
            go_wp2_with fail
            go_meet
            case rel => exact ⟨false, rfl, (fun h => by cases h), HG2.out.mono (by omega), HO2.out⟩
          · have h1 : (0 : Int) < (n2 : Int) := by omega
            go_wp2_with fail
            refine (flip_gen b (m + 20 * j) _ _ HG2.out.s (by omega) (by omega)).mono ?_
            rintro e w3 ⟨kk, rfl, hg⟩
            have HG3 := Lib.hid (HG2.out.trans hg)
            have HO3 := Lib.hid (HO2.out.gen hg hblt)
            clear hg HG2 HO2
            go_wp2_with fail
            go_meet
            case rel => exact ⟨kk, rfl, fun _ => h0, HG3.out, HO3.out⟩
      case rest =>
        clear HG2 HO2
        obtain ⟨kb, rfl, hkb, hg, hO⟩ := hcut
        have HKb := Lib.hid hkb
        have HG3 := Lib.hid hg
        have HO3 := Lib.hid hO
        clear hkb hg hO
        go_upto_if 147 with fail
        go_cut [] (fun wx => ∃ L' : List RB, OwnK layRb wx w.heap.size (.slice a2 n2 c2) L' ∧ L'.length = n2 ∧ Gen b w wx (m + 260))
        case first =>
          as_aux_lemma =>
            cases kb
            · go_wp2_with fail
              go_meet
              case rel => exact ⟨L2, HO3.out, Hn2.out, HG3.out.mono (by omega)⟩
            · have h0 := HKb.out rfl
              obtain ⟨g, c', hv, hgB, -⟩ := HO3.out.one (by rw [Hn2.out]; exact h0)
              injection hv with hv q1 q2
              subst hv
              clear q1 q2 HKb
              have hbg : b < g := by omega
              go_wp2_with fail
              refine (next_gen b (m + 20 * j + 1) _ _ HG3.out.s (by omega) (by omega)).mono ?_
              rintro e w4 ⟨k, rfl, ⟨hk0, hk1⟩, hg⟩
              obtain ⟨q, rfl⟩ := Int.eq_ofNat_of_zero_le hk0
              have hq : q < n2 := by omega
              have hq1 : (q : Int) < (n2 : Int) := by omega
              have HG4 := Lib.hid (HG3.out.trans hg)
              have HO4 := Lib.hid (HO3.out.gen hg hblt)
              clear hg HG3 HO3 hk0 hk1
              go_wp2_with fail
              refine (next_gen b (m + 20 * j + 1 + 1) _ _ HG4.out.s (by omega) (by omega)).mono ?_
              rintro e w5 ⟨k5, rfl, ⟨hk0, hk1⟩, hg⟩
              have HG5 := Lib.hid (HG4.out.trans hg)
              have HO5 := Lib.hid (HO4.out.gen hg hblt)
              obtain ⟨x, hx⟩ : ∃ x, L2[q]? = some x := ⟨_, List.getElem?_eq_getElem (by rw [Hn2.out]; exact hq)⟩
              have Hx := Lib.hid hx
              clear hg HG4 HO4 hx
              have h5 : k5 = 0 ∨ k5 = 1 ∨ k5 = 2 ∨ k5 = 3 ∨ k5 = 4 := by omega
              clear hk0 hk1
              rcases h5 with h5 | h5 | h5 | h5 | h5
              · subst h5
                have HSt : Hid (RdStr (w5.alloc (.cells #[.string ⟨#[]⟩, .string ⟨#[65]⟩, .string ⟨#[110, 97]⟩] 9 (0, 0))) w5.heap.size [⟨#[]⟩, ⟨#[65]⟩, ⟨#[110, 97]⟩]) := Lib.hid (rdStr_new w5 _ [⟨#[]⟩, ⟨#[65]⟩, ⟨#[110, 97]⟩] _ rfl)
                go_wp2_with fail
                refine (some_gen b (m + 20 * j + 1 + 1 + 1) w5.heap.size 3 [⟨#[]⟩, ⟨#[65]⟩, ⟨#[110, 97]⟩] _ (HG5.out.s.alloc _) (by omega) rfl (by omega) HSt.out (by have := HG5.out.s.lt; omega)).mono ?_
                rintro e w6 ⟨s, rfl, hs, hg⟩
                have HG6 := Lib.hid ((HG5.out.alloc _).trans hg)
                have HO6 := Lib.hid ((HO5.out.alloc _).gen hg hblt)
                have hs2 : s.size ≤ 1000 := by simp at hs; rcases hs with rfl | rfl | rfl <;> decide
                clear hg hs HG5 HO5 HSt
                have e0 : w6.cell? ⟨g, q * 14, none⟩ = some (.string x.1.node) := HO6.out.get (j := 0) Hx.out rfl
                have ef := HO6.out.frozen
                have HE := Lib.hid (HO6.out.setTo (j := 0) (v := .string s) (y := ⟨{ x.1 with node := s }, Sm_node x.2 hs2⟩) Hx.out (by decide) rfl)
                go_wp2_with fail
                go_meet
                case rel => exact ⟨_, HE.out, List.length_set.trans Hn2.out, (HG6.out.setCell ⟨g, q * 14, none⟩ _ hgB hbg).mono (by omega)⟩
              · subst h5
                go_wp2_with fail
                refine (odd_gen b (m + 20 * j + 1 + 1 + 1) _ _ _ HG5.out.s (by omega) (by omega) (by omega)).mono ?_
                rintro e w6 ⟨z, rfl, hz, hg⟩
                have HG6 := Lib.hid (HG5.out.trans hg)
                have HO6 := Lib.hid (HO5.out.gen hg hblt)
                clear hg HG5 HO5
                have e0 : w6.cell? ⟨g, q * 14 + 1, none⟩ = some (.int .i64 x.1.hour) := HO6.out.get (j := 1) Hx.out rfl
                have ef := HO6.out.frozen
                have HE := Lib.hid (HO6.out.setTo (j := 1) (v := .int .i64 z) (y := ⟨{ x.1 with hour := z }, x.2.1, hz.1, hz.2, x.2.2.2.2⟩) Hx.out (by decide) rfl)
                go_wp2_with fail
                go_meet
                case rel => exact ⟨_, HE.out, List.length_set.trans Hn2.out, (HG6.out.setCell ⟨g, q * 14 + 1, none⟩ _ hgB hbg).mono (by omega)⟩
              · subst h5
                go_wp2_with fail
                refine (flow_gen b (m + 20 * j + 1 + 1 + 1) _ HG5.out.s (by omega)).mono ?_
                rintro e w6 ⟨f, rfl, hf, hg⟩
                have HG6 := Lib.hid (HG5.out.trans hg)
                have HO6 := Lib.hid (HO5.out.gen hg hblt)
                clear hg HG5 HO5
                have HE : Hid (OwnK layRb (w6.setCells g (q * 14 + 3) f.cells.toList) w.heap.size (.slice (some ⟨g, 0, none⟩) n2 c2) (L2.set q ⟨{ x.1 with f := f }, hf, x.2.2⟩)) := Lib.hid (OwnK.setPart HO6.out (j := 3) (vs := f.cells.toList) (y := ⟨{ x.1 with f := f }, hf, x.2.2⟩) Hx.out (by show 3 + 9 ≤ 14; decide) (fun t ht => by
                  have : t = 0 ∨ t = 1 ∨ t = 2 := by omega
                  rcases this with rfl | rfl | rfl <;> rfl) (fun t ht => by
                  have ht : t < 9 := ht
                  have : t = 0 ∨ t = 1 ∨ t = 2 ∨ t = 3 ∨ t = 4 ∨ t = 5 ∨ t = 6 ∨ t = 7 ∨ t = 8 := by omega
                  rcases this with rfl | rfl | rfl | rfl | rfl | rfl | rfl | rfl | rfl <;> rfl) (fun t ht => by
                  have ht : 12 ≤ t := ht
                  rcases Nat.lt_or_ge t 14 with h | h
                  · have : t = 12 ∨ t = 13 := by omega
                    rcases this with rfl | rfl <;> rfl
                  · exact (List.getElem?_eq_none (Nat.le_trans (Nat.le_of_eq (layRb.len _)) h)).trans (List.getElem?_eq_none (Nat.le_trans (Nat.le_of_eq (layRb.len _)) h)).symm))
                have HTH : Hid (w6.there g (q * 14 + 3) f.cells.size) := Lib.hid (HO6.out.there (by show q * 14 + 3 + 9 ≤ n2 * 14; omega))
                have HI : Hid ((Tryz.prog.info? 43).map (·.size) = some f.cells.size) := Lib.hid size_flow
                have HXo : Hid (f.cells.all (·.oneCell') = true) := Lib.hid (by simp [FV.cells, Value.oneCell'])
                have HGe : Hid (Gen b w (w6.setCells g (q * 14 + 3) f.cells.toList) (m + 260)) := Lib.hid (Gen.setCells hgB hbg _ _ _ (HG6.out.mono (by omega)))
                generalize f.cells = FC at *
                go_wp2_with (refine wpList_store_mid rfl 43 _ _ rfl g (q * 14 + 3) FC rfl rfl HTH.out HI.out HXo.out ?_; show wpList _ _ _ _ _ (w6.setCells g (q * 14 + 3) FC.toList); generalize w6.setCells g (q * 14 + 3) FC.toList = w7 at *)
                go_meet
                case rel => exact ⟨_, HE.out, List.length_set.trans Hn2.out, HGe.out⟩
              · subst h5
                go_wp2_with fail
                refine (odd_gen b (m + 20 * j + 1 + 1 + 1) _ _ _ HG5.out.s (by omega) (by omega) (by omega)).mono ?_
                rintro e w6 ⟨z, rfl, hz, hg⟩
                have HG6 := Lib.hid (HG5.out.trans hg)
                have HO6 := Lib.hid (HO5.out.gen hg hblt)
                clear hg HG5 HO5
                have e0 : w6.cell? ⟨g, q * 14 + 12, none⟩ = some (.int .i64 x.1.pk) := HO6.out.get (j := 12) Hx.out rfl
                have ef := HO6.out.frozen
                have HE := Lib.hid (HO6.out.setTo (j := 12) (v := .int .i64 z) (y := ⟨{ x.1 with pk := z }, x.2⟩) Hx.out (by decide) rfl)
                go_wp2_with fail
                go_meet
                case rel => exact ⟨_, HE.out, List.length_set.trans Hn2.out, (HG6.out.setCell ⟨g, q * 14 + 12, none⟩ _ hgB hbg).mono (by omega)⟩
              · subst h5
                go_wp2_with fail
                refine (odd_gen b (m + 20 * j + 1 + 1 + 1) _ _ _ HG5.out.s (by omega) (by omega) (by omega)).mono ?_
                rintro e w6 ⟨z, rfl, hz, hg⟩
                have HG6 := Lib.hid (HG5.out.trans hg)
                have HO6 := Lib.hid (HO5.out.gen hg hblt)
                clear hg HG5 HO5
                have e0 : w6.cell? ⟨g, q * 14 + 13, none⟩ = some (.int .i64 x.1.sz) := HO6.out.get (j := 13) Hx.out rfl
                have ef := HO6.out.frozen
                have HE := Lib.hid (HO6.out.setTo (j := 13) (v := .int .i64 z) (y := ⟨{ x.1 with sz := z }, x.2⟩) Hx.out (by decide) rfl)
                go_wp2_with fail
                go_meet
                case rel => exact ⟨_, HE.out, List.length_set.trans Hn2.out, (HG6.out.setCell ⟨g, q * 14 + 13, none⟩ _ hgB hbg).mono (by omega)⟩
        case rest =>
          clear HG3 HO3
          obtain ⟨L', hO, hl, hg⟩ := hcut
          have HE1 := Lib.hid hO
          have HE2 := Lib.hid hg
          have HE3 := Lib.hid hl
          clear hO hg hl
          go_wp2_with fail
          go_ret
          exact ⟨_, L', rfl, HE1.out, by rw [HE3.out]; omega, HE2.out⟩
end Go.Proofs.YtippolfmljfleaaGreatDoor
