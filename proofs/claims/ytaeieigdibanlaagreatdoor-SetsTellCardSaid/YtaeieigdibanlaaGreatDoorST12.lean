/-
  The reference's prefixes: the greedy blocks of spans of wide numbers.
-/
import Derived.Test.YtaeieigdibanlaaGreatDoorST11
set_option linter.unusedVariables false
namespace Go.Proofs.YtaeieigdibanlaaGreatDoor
open Go.RowKit Go
set_option linter.unusedVariables false

theorem Blk.rangeA {w : World} {B : Nat} {t : TypeId} {X : Array Value} (h : Blk w B t X) : w.rangeAt B 0 X.toList := fun j v hv => by
  rw [Nat.zero_add, h.cell j]
  simpa using hv
theorem own_farRow {w : World} {base : Nat} {e : TypeId} {size : Nat} {v : Value} {n : Nat} {xs : List Value} {b : Nat} {t : TypeId} {cs : Array Value} (h : w.ownsRow base e size v n xs) (hb : Blk w b t cs) (hne : e ≠ t) (c2 : Array Value) : (w.setRow b c2).ownsRow base e size v n xs := by
  rcases h with ⟨hl, hv | ⟨g, c, cur, rfl, hbase, hg, hc, hm, hs, ht⟩⟩
  · exact ⟨hl, .inl hv⟩
  · refine ⟨hl, .inr ⟨g, c, cur, rfl, hbase, ?_, hc, hm, hs, ht⟩⟩
    rw [setRow_other w b g c2 (by
      rintro rfl
      unfold Blk at hb
      rw [hg] at hb
      injection hb with hb
      injection hb with _ hb
      exact hne hb)]
    exact hg
theorem Blk.setRow {w : World} {b : Nat} {t : TypeId} {cs : Array Value} (h : Blk w b t cs) (c2 : Array Value) : Blk (w.setRow b c2) b t c2 := setRow_heap w b cs c2 t (0, 0) h
theorem Blk.farRow {w : World} {b b' : Nat} {t : TypeId} {cs : Array Value} (h : Blk w b t cs) (hne : b ≠ b') (c2 : Array Value) : Blk (w.setRow b' c2) b t cs := (setRow_other w b' b c2 hne).trans h
theorem below_setRow {B : Nat} {u w : World} (h : Below B u w) {b : Nat} (hb : B ≤ b) (c2 : Array Value) : Below B u (w.setRow b c2) :=
  h.trans ((Below.refl B w).trans ⟨rfl, rfl, rfl, by rw [setRow_size]; exact Nat.le_refl _, fun j hj => setRow_other w b j c2 (by omega)⟩)
theorem blks_next {p : Sp} (h : VR p) {x : Nat} (h1 : p.1 ≤ x) (h2 : x ≤ p.2) (N F : Nat) (hN : N = gB (LN x) x p.2) (hF : F = fil x (LN x - N)) :
    N ≤ LN x ∧ VN F ∧ F ≤ p.2 ∧ x ≤ F ∧ blks (LN p.1) x p.2 = (x, N) :: (if F = p.2 then [] else blks (LN p.1) (F + 1) p.2) := by
  obtain ⟨hv, hl, hs⟩ := blk_vn h h1 h2
  have hg := gB_ok (L := LN x) h2
  rw [← hN] at hg
  have hp := two_pos (LN x - N)
  have hFe : F = x + (2 ^ (LN x - N) - 1) := by rw [hF]; exact hg.fil
  have hfit := hg.fits
  refine ⟨hg.le, (blk_vn h (x := F) (by omega) (by omega)).1, by omega, by omega, ?_⟩
  rw [blks_step h2, ← hl, ← hN]
  congr 1
  rw [show x + 2 ^ (LN x - N) = F + 1 by omega]
  by_cases he : F = p.2
  · rw [if_pos he]; exact blks_stop (by omega)
  · rw [if_neg he]
theorem Blk.grew_ne {w w' : World} {b : Nat} {t : TypeId} {cs : Array Value} {v v' : Value} (hb : Blk w b t cs) (hne : v.ownBlock ≠ some b) (hG : Grew w w' v v') : Blk w' b t cs :=
  (hG.g.block b hb.lt (Ne.symm hne)).trans hb
set_option maxRecDepth 100000 in
set_option maxHeartbeats 4000000 in
theorem qprefixes_any (ad : Option Addr) (n c : Nat) (S : List Sp) (w : World) (h : RdK layQs w ad S) (hn : S.length = n) (hs : n ≤ 100000) (hv : ∀ p ∈ S, VR p) :
    Calls Tryz.prog 70 #[.slice ad n c] w fun e w' => ∃ v, e = .returned v ∧ OwnK layPf w' w.heap.size v (pfs S) ∧ Below w.heap.size w w' := by
  have Hv := Lib.hid hv
  have H0 := Lib.hid h
  have Hn := Lib.hid hn
  clear h hn hv
  go_enter Tryz.func70, Tryz.ntmps70
  go_wp2_with fail
  go_loopw [3, 5, 6, 7, 8, 9, 10, 13] (fun out s5 s6 s7 s8 s9 s10 i wr => ∃ k : Nat, k ≤ n ∧ i = .int .i64 (k : Int) ∧ Hid (OwnK layPf wr w.heap.size out (pfs (S.take k))) ∧ Hid (Below w.heap.size w wr)) (fun _ _ _ _ _ _ _ i _ => n - (intOf i).toNat)
  case atStart => exact ⟨0, Nat.zero_le _, rfl, Lib.hid (OwnK.nil _ _ _), Lib.hid (Below.refl _ _)⟩
  case round =>
    obtain ⟨k, hk, rfl, HO, HB⟩ := hrel
    by_cases hlt : k < n
    · have hS : k < S.length := by rw [Hn.out]; exact hlt
      obtain ⟨p, hp⟩ : ∃ p, S[k]? = some p := ⟨_, List.getElem?_eq_getElem hS⟩
      obtain ⟨g, o, had, hg, hcs⟩ := (H0.out.below HB.out).qs hp
      subst had
      have HVp := Lib.hid (Hv.out p (List.mem_of_getElem? hp))
      have HA1 : Hid (allB (S.take (k + 1)) = allB (S.take k) ++ blks (LN p.1) p.1 p.2) := Lib.hid (allB_take hp)
      have HLn : Hid ((allB (S.take k)).length ≤ 257 * 100000) := Lib.hid (by
        have := allB_crude (S := S.take k) fun q hq => Hv.out q (List.mem_of_mem_take hq)
        have h2 : (S.take k).length ≤ k := List.length_take_le _ _
        omega)
      have HLb : Hid ((blks (LN p.1) p.1 p.2).length ≤ 257) := Lib.hid (blks_len HVp.out)
      have hXs := qs_split p
      obtain ⟨X, hX⟩ : ∃ X, layQs.enc p = X := ⟨_, rfl⟩
      obtain ⟨P1, hP1⟩ : ∃ P1, wN p.1 = P1 := ⟨_, rfl⟩
      obtain ⟨P2, hP2⟩ : ∃ P2, wN p.2 = P2 := ⟨_, rfl⟩
      have HX1 : Hid (X.toArray.size = 18) := Lib.hid (by rw [List.size_toArray, ← hX]; rfl)
      have HX2 : Hid (X.toArray.all (·.oneCell') = true) := Lib.hid (all_oneCell_toArray (by rw [← hX]; exact layQs.one p))
      have HS1 : Hid (P1.size = 9) := Lib.hid (by rw [← hP1]; rfl)
      have HS2 : Hid (P2.size = 9) := Lib.hid (by rw [← hP2]; rfl)
      have HN1 : Hid (P1.all (·.oneCell') = true) := Lib.hid (by rw [← hP1]; exact wd_one _)
      rw [hX] at hcs
      rw [hX, hP1, hP2] at hXs
      have HXs := Lib.hid hXs
      have HP1 := Lib.hid hP1
      have HP2 := Lib.hid hP2
      have HRA : Hid (wr.rangeAt g (o + k * 18) X) := Lib.hid hcs
      clear hp hS hcs hX hXs hP1 hP2
      have HBr0 : Hid (Blk (wr.alloc (.cells X.toArray 138 (0, 0))) wr.heap.size 138 X.toArray) := Lib.hid (Blk.new wr _ _)
      have HR1 : Hid ((wr.alloc (.cells X.toArray 138 (0, 0))).rangeAt wr.heap.size 0 P1.toList) := Lib.hid (range_left (by rw [← HXs.out]; exact HBr0.out.range))
      have HBr1 : Hid (Blk ((wr.alloc (.cells X.toArray 138 (0, 0))).alloc (.cells P1 131 (0, 0))) wr.heap.size 138 X.toArray) := Lib.hid (HBr0.out.alloc _)
      have HBx1 : Hid (Blk ((wr.alloc (.cells X.toArray 138 (0, 0))).alloc (.cells P1 131 (0, 0))) (wr.heap.size + 1) 131 P1) := Lib.hid (by
        have this := Blk.new (wr.alloc (.cells X.toArray 138 (0, 0))) 131 P1
        rw [World.size_alloc] at this
        exact this)
      have HB1 : Hid (Below w.heap.size w ((wr.alloc (.cells X.toArray 138 (0, 0))).alloc (.cells P1 131 (0, 0)))) := Lib.hid (Below.alloc (Below.alloc HB.out HB.out.size _) (by have := HB.out.size; simp; omega) _)
      have HO1 : Hid (OwnK layPf ((wr.alloc (.cells X.toArray 138 (0, 0))).alloc (.cells P1 131 (0, 0))) w.heap.size u3 ((allB (S.take k) ++ []).map pfOf)) := Lib.hid (by rw [List.append_nil]; exact (HO.out.alloc _).alloc _)
      have hba : w.heap.size ≤ wr.heap.size := HB.out.size
      go_upto_region 5 with (first | (refine wpList_loadn rfl 138 _ rfl g (o + k * 18) rfl _ _ HRA.out Tryz.underlying138 rfl 18 size_qs (by simpa using HX1.out) ?_; go_simp) | (refine wpList_var X.toArray 138 Tryz.zeroValue138 rfl rfl rfl _ _ rfl _ rfl ?_ ?_ 18 size_qs HX1.out ?_ HX2.out ?_; all_goals (try rfl); try go_simp))
      go_upto_block 2 with (first | (refine wpList_loadn rfl 131 _ rfl wr.heap.size 0 rfl _ _ HR1.out Tryz.underlying131 rfl 9 size_wide (by simpa using HS1.out) ?_) | (refine wpList_var P1 131 Tryz.zeroValue131 rfl rfl rfl _ _ rfl _ rfl ?_ ?_ 9 size_wide HS1.out ?_ HN1.out ?_; all_goals (try rfl); try go_simp))
      generalize ((wr.alloc (.cells X.toArray 138 (0, 0))).alloc (.cells P1 131 (0, 0))) = w3 at *
      generalize wr.heap.size = bs at *
      clear HB HO HRA HR1 HBr0 hg
      go_wp2_with fail
      go_loopw [3, 7, 8, 9, 10] (fun out s7 s8 s9 s10 wx => ∃ (x : Nat) (D : List (Nat × Nat)), Hid (VN x) ∧ Hid (p.1 ≤ x ∧ x ≤ p.2) ∧ Hid (OwnK layPf wx w.heap.size out ((allB (S.take k) ++ D).map pfOf)) ∧ Hid (D ++ blks (LN p.1) x p.2 = blks (LN p.1) p.1 p.2) ∧ Hid (Blk wx bs 138 X.toArray) ∧ Hid (Blk wx (bs + 1) 131 (wN x)) ∧ Hid (Below w.heap.size w wx)) (fun out _ _ _ _ _ => (allB (S.take k)).length + 257 - vlen out)
      case atStart => exact ⟨p.1, [], Lib.hid HVp.out.a, Lib.hid ⟨Nat.le_refl _, HVp.out.le⟩, HO1, Lib.hid rfl, HBr1, Lib.hid (by rw [HP1.out]; exact HBx1.out), HB1⟩
      case round =>
        clear HO1 HBr1 HBx1 HB1
        obtain ⟨x, D, HVx, Hx1, HO, HD, HBr, HBx, HB⟩ := hrel
        have HLen := Lib.hid (blk_vn HVp.out Hx1.out.1 Hx1.out.2).2.1
        have HAd := Lib.hid fun wx => wideAddrN wx HVx.out
        have HLe := Lib.hid fun wx => lengthQN x wx
        have HFi := Lib.hid fun m wx (hm : m ≤ LN x) => firstOfN (n := m) wx HVx.out hm
        have HLa := Lib.hid fun m wx (hm : m ≤ LN x) => lastOfN (n := m) wx HVx.out hm
        have HNe := Lib.hid fun m (hm : m ≤ LN x) wx => wN_neq (VN_clr HVx.out hm).lt10.1 HVx.out.lt10.1 wx
        have HEq := Lib.hid fun m (hm : m ≤ LN x) wx => wN_eql (VN_fil HVx.out hm).lt10.1 HVp.out.b.lt10.1 wx
        have HCm := Lib.hid fun m wx (hm : m ≤ LN x) => wideCmpN wx (VN_fil HVx.out hm).lt10.1 HVp.out.b.lt10.1
        have HWs : Hid ((wN x).size = 9) := Lib.hid (wN_size x)
        have HE : Hid (aN x = #[.bool (sixN x), .int .u64 ((hiN x : Nat) : Int), .int .u64 ((loN x : Nat) : Int)]) := Lib.hid rfl
        have HEp : Hid (∀ m : Int, pN x m = #[.bool (sixN x), .int .u64 ((hiN x : Nat) : Int), .int .u64 ((loN x : Nat) : Int), .int .i64 m]) := Lib.hid fun _ => rfl
        generalize sixN x = x1 at *
        generalize hiN x = x2 at *
        generalize loN x = x3 at *
        rw [HE.out] at HAd HLe HFi
        rw [HP2.out] at HEq HCm
        have HLa2 : Hid (∀ (m : Nat) (wx : World), m ≤ LN x → Calls Tryz.prog 111 #[.agg #[.bool x1, .int .u64 (x2 : Int), .int .u64 (x3 : Int), .int .i64 (m : Int)]] wx (Ret (.agg (wN (fil x (LN x - m)))) wx)) := Lib.hid fun m wx hm => by
          have := HLa.out m wx hm
          rw [HEp.out] at this
          exact this
        clear HLa HEp
        generalize wN x = WX at *
        have HRx : Hid (wr.rangeAt (bs + 1) 0 WX.toList) := Lib.hid HBx.out.rangeA
        go_wp2_with (refine wpList_loadn rfl 131 _ rfl (bs + 1) 0 rfl _ _ HRx.out Tryz.underlying131 rfl 9 size_wide (by simpa using HWs.out) ?_; go_simp)
        refine (HAd.out _).mono ?_
        rintro e w4 ⟨rfl, hb⟩
        have HBa5 : Hid (Blk (w4.alloc (.cells #[.bool x1, .int .u64 (x2 : Int), .int .u64 (x3 : Int)] 33 (0, 0))) w4.heap.size 33 #[.bool x1, .int .u64 (x2 : Int), .int .u64 (x3 : Int)]) := Lib.hid (Blk.new w4 _ _)
        have HBr5 : Hid (Blk (w4.alloc (.cells #[.bool x1, .int .u64 (x2 : Int), .int .u64 (x3 : Int)] 33 (0, 0))) bs 138 X.toArray) := Lib.hid ((HBr.out.below hb HBr.out.lt).alloc _)
        have HBx5 : Hid (Blk (w4.alloc (.cells #[.bool x1, .int .u64 (x2 : Int), .int .u64 (x3 : Int)] 33 (0, 0))) (bs + 1) 131 WX) := Lib.hid ((HBx.out.below hb HBx.out.lt).alloc _)
        have HO5 : Hid (OwnK layPf (w4.alloc (.cells #[.bool x1, .int .u64 (x2 : Int), .int .u64 (x3 : Int)] 33 (0, 0))) w.heap.size u3 ((allB (S.take k) ++ D).map pfOf)) := Lib.hid ((HO.out.later hb).alloc _)
        have hB4 := HB.out.trans (hb.mono HB.out.size)
        have HB5 : Hid (Below w.heap.size w (w4.alloc (.cells #[.bool x1, .int .u64 (x2 : Int), .int .u64 (x3 : Int)] 33 (0, 0)))) := Lib.hid (Below.alloc hB4 hB4.size _)
        clear hb hB4 HBr HBx HO HB HRx HAd
        go_upto_region 7 with fail
        generalize (w4.alloc (.cells #[.bool x1, .int .u64 (x2 : Int), .int .u64 (x3 : Int)] 33 (0, 0))) = w5 at *
        generalize w4.heap.size = ba at *
        clear w4
        have q0 := HBa5.out.cell 0
        have q1 := HBa5.out.cell 1
        have q2 := HBa5.out.cell 2
        simp at q0 q1 q2
        go_wp2_with fail
        refine (HLe.out _).mono ?_
        rintro e w6 ⟨rfl, hb⟩
        have HBa6 := Lib.hid (HBa5.out.below hb HBa5.out.lt)
        have HBr6 := Lib.hid (HBr5.out.below hb HBr5.out.lt)
        have HBx6 := Lib.hid (HBx5.out.below hb HBx5.out.lt)
        have HO6 := Lib.hid (HO5.out.later hb)
        have HB6 := Lib.hid (HB5.out.trans (hb.mono HB5.out.size))
        clear hb HBa5 HBr5 HBx5 HO5 HB5 q0 q1 q2 HLe
        go_upto_block 4 with fail
        go_cut [8, 9] (fun nn s9 wx => nn = .int .i64 ((gB (LN x) x p.2 : Nat) : Int) ∧ Below w6.heap.size w6 wx)
        case first =>
          as_aux_lemma =>
            clear HO6 HB6 HD HLb HLn HEq
            go_wp2_with fail
            go_loopw [8, 9] (fun nn s9 wx => ∃ m : Nat, m ≤ LN x ∧ nn = .int .i64 (m : Int) ∧ Hid (gN (LN x) x p.2 m = gB (LN x) x p.2) ∧ Hid (Below w6.heap.size w6 wx)) (fun nn _ _ => (intOf nn).toNat)
            case atStart => exact ⟨LN x, Nat.le_refl _, rfl, Lib.hid rfl, Lib.hid (Below.refl _ _)⟩
            case round =>
              obtain ⟨m, hm, rfl, HG, HBx⟩ := hrel
              by_cases hm0 : m = 0
              · subst hm0
                have HG2 : Hid (0 = gB (LN x) x p.2) := Lib.hid HG.out
                have z0 : ((0 : Nat) : Int) = 0 := rfl
                rw [z0]
                go_wp2_with fail
                go_meet
                case rel => exact ⟨by rw [← HG2.out]; rfl, HBx.out⟩
              · obtain ⟨j, hj⟩ : ∃ j, m = j + 1 := ⟨m - 1, by omega⟩
                have hjL : j ≤ LN x := by omega
                have e1 : (m : Int) - 1 = (j : Int) := by omega
                have g1 : decide (0 < m) = true := decide_eq_true (by omega)
                have g2 : (m : Int) ≤ 128 := by
                  have : LN x ≤ 128 := by rw [LN_six]; exact lenN_le _
                  omega
                have HGm : Hid (gN (LN x) x p.2 (j + 1) = gB (LN x) x p.2) := Lib.hid (by rw [← hj]; exact HG.out)
                have HJm := Lib.hid hj
                have HBa7 := Lib.hid (HBa6.out.below HBx.out HBa6.out.lt)
                have q0 := HBa7.out.cell 0
                have q1 := HBa7.out.cell 1
                have q2 := HBa7.out.cell 2
                simp at q0 q1 q2
                have HBq8 : Hid (Blk (wr.alloc (.cells #[.bool x1, .int .u64 (x2 : Int), .int .u64 (x3 : Int), .int .i64 (j : Int)] 90 (0, 0))) wr.heap.size 90 #[.bool x1, .int .u64 (x2 : Int), .int .u64 (x3 : Int), .int .i64 (j : Int)]) := Lib.hid (Blk.new wr _ _)
                have HBa8 : Hid (Blk (wr.alloc (.cells #[.bool x1, .int .u64 (x2 : Int), .int .u64 (x3 : Int), .int .i64 (j : Int)] 90 (0, 0))) ba 33 #[.bool x1, .int .u64 (x2 : Int), .int .u64 (x3 : Int)]) := Lib.hid (HBa7.out.alloc _)
                have HBr8 : Hid (Blk (wr.alloc (.cells #[.bool x1, .int .u64 (x2 : Int), .int .u64 (x3 : Int), .int .i64 (j : Int)] 90 (0, 0))) bs 138 X.toArray) := Lib.hid ((HBr6.out.below HBx.out HBr6.out.lt).alloc _)
                have HBx8 : Hid (Blk (wr.alloc (.cells #[.bool x1, .int .u64 (x2 : Int), .int .u64 (x3 : Int), .int .i64 (j : Int)] 90 (0, 0))) (bs + 1) 131 WX) := Lib.hid ((HBx6.out.below HBx.out HBx6.out.lt).alloc _)
                have HB8 : Hid (Below w6.heap.size w6 (wr.alloc (.cells #[.bool x1, .int .u64 (x2 : Int), .int .u64 (x3 : Int), .int .i64 (j : Int)] 90 (0, 0)))) := Lib.hid (Below.alloc HBx.out HBx.out.size _)
                clear HBx HBa7 HBa6 HBr6 HBx6
                go_upto_region 10 with fail
                generalize (wr.alloc (.cells #[.bool x1, .int .u64 (x2 : Int), .int .u64 (x3 : Int), .int .i64 (j : Int)] 90 (0, 0))) = w8 at *
                generalize wr.heap.size = bq at *
                clear q0 q1 q2
                have q0 := HBa8.out.cell 0
                have q1 := HBa8.out.cell 1
                have q2 := HBa8.out.cell 2
                simp at q0 q1 q2
                have r0 := HBq8.out.cell 0
                have r1 := HBq8.out.cell 1
                have r2 := HBq8.out.cell 2
                have r3 := HBq8.out.cell 3
                simp at r0 r1 r2 r3
                have l0 := Later.cell_of q0
                have l1 := Later.cell_of q1
                have l2 := Later.cell_of q2
                have k0 := Later.cell_of r0
                have k1 := Later.cell_of r1
                have k2 := Later.cell_of r2
                have k3 := Later.cell_of r3
                have HTx : Hid (∀ wx, (∃ x : Later w8, wx = x.1) → wx.rangeAt (bs + 1) 0 WX.toList) := Lib.hid (by rintro wx ⟨x, rfl⟩; exact range_below HBx8.out.rangeA x.2 HBx8.out.lt)
                have HTp : Hid (∀ wx, (∃ x : Later w8, wx = x.1) → wx.rangeAt bs 9 P2.toList) := Lib.hid (by
                  rintro wx ⟨x, rfl⟩
                  have := HBr8.out.range
                  rw [HXs.out] at this
                  have := range_right this
                  rw [Array.length_toList, HS1.out] at this
                  exact range_below this x.2 HBr8.out.lt)
                have hM := fun X : Later w8 => Calls.later X (HFi.out j X.1 hjL)
                have hF := fun X : Later w8 => Calls.later X (HLa2.out j X.1 hjL)
                have hC := fun X : Later w8 => Calls.later X (HCm.out j X.1 hjL)
                have hNe := HNe.out j hjL
                have hGd := wide_guard .neq
                have HCl := Lib.hid (cN_pos (fil x (LN x - j)) p.2)
                clear hj HG hm0 hm HBa8 HBq8 HBr8 HBx8 q0 q1 q2 r0 r1 r2 r3
                have HArm : Hid (∀ b : Bool, True) := Lib.hid fun _ => trivial
                by_cases hc1 : clr x (LN x - j) = x
                · have Hc1 := Lib.hid hc1
                  rw [decide_eq_true hc1] at hNe
                  clear hc1
                  generalize wN (clr x (LN x - j)) = CV at *
                  by_cases hc2 : fil x (LN x - j) ≤ p.2
                  · have hC2 : ¬ cN (fil x (LN x - j)) p.2 > 0 := fun h => absurd (HCl.out.1 h) (by omega)
                    have HG2 : Hid (gN (LN x) x p.2 j = gB (LN x) x p.2) := Lib.hid (by rw [← HGm.out, gN_hit ⟨Hc1.out, hc2⟩])
                    clear hc2 HCl HGm Hc1
                    generalize cN (fil x (LN x - j)) p.2 = C2 at *
                    generalize wN (fil x (LN x - j)) = FW at *
                    refine wp_region_later (by kernel_rfl) (by kernel_rfl) ?_
                    repeat (first | go_big_quiet_step (first | (go_at_call 105; exact hM _) | (go_at_call 111; exact hF _) | (go_at_call 108; exact hC _)) | (refine wpQuiet_loadn rfl 131 _ rfl _ rfl (bs + 1) 0 rfl WX HTx.out _ Tryz.underlying131 rfl 9 size_wide HWs.out ?_; go_simp) | (refine wpQuiet_loadn rfl 131 _ rfl _ rfl bs 9 rfl P2 HTp.out _ Tryz.underlying131 rfl 9 size_wide HS2.out ?_; go_simp))
                    refine wpQuiet_nil ?_
                    rintro ⟨w9, hb⟩
                    dsimp only
                    have HBy := Lib.hid (HB8.out.trans (hb.mono HB8.out.size))
                    clear hb hM hF hC hNe hGd l0 l1 l2 k0 k1 k2 k3
                    go_wp2_with fail
                    exact ⟨⟨j, hjL, rfl, HG2, HBy⟩, by simp [intOf]; omega⟩
                  · have hC2 : cN (fil x (LN x - j)) p.2 > 0 := HCl.out.2 (by omega)
                    have HG2 : Hid (m = gB (LN x) x p.2) := Lib.hid (by rw [← HGm.out, gN_miss (fun h => hc2 h.2), HJm.out])
                    clear hc2 HCl HGm Hc1
                    generalize cN (fil x (LN x - j)) p.2 = C2 at *
                    generalize wN (fil x (LN x - j)) = FW at *
                    refine wp_region_later (by kernel_rfl) (by kernel_rfl) ?_
                    repeat (first | go_big_quiet_step (first | (go_at_call 105; exact hM _) | (go_at_call 111; exact hF _) | (go_at_call 108; exact hC _)) | (refine wpQuiet_loadn rfl 131 _ rfl _ rfl (bs + 1) 0 rfl WX HTx.out _ Tryz.underlying131 rfl 9 size_wide HWs.out ?_; go_simp) | (refine wpQuiet_loadn rfl 131 _ rfl _ rfl bs 9 rfl P2 HTp.out _ Tryz.underlying131 rfl 9 size_wide HS2.out ?_; go_simp))
                    refine wpQuiet_nil ?_
                    rintro ⟨w9, hb⟩
                    dsimp only
                    have HBy := Lib.hid (HB8.out.trans (hb.mono HB8.out.size))
                    clear hb hM hF hC hNe hGd l0 l1 l2 k0 k1 k2 k3
                    go_wp2_with fail
                    go_meet
                    case rel => exact ⟨by rw [← HG2.out], HBy.out⟩
                · have HG2 : Hid (m = gB (LN x) x p.2) := Lib.hid (by rw [← HGm.out, gN_miss (fun h => hc1 h.1), HJm.out])
                  rw [decide_eq_false hc1] at hNe
                  clear hc1 HGm HCl
                  generalize wN (clr x (LN x - j)) = CV at *
                  refine wp_region_later (by kernel_rfl) (by kernel_rfl) ?_
                  repeat (first | go_big_quiet_step (first | (go_at_call 105; exact hM _) | (go_at_call 111; exact hF _) | (go_at_call 108; exact hC _)) | (refine wpQuiet_loadn rfl 131 _ rfl _ rfl (bs + 1) 0 rfl WX HTx.out _ Tryz.underlying131 rfl 9 size_wide HWs.out ?_; go_simp) | (refine wpQuiet_loadn rfl 131 _ rfl _ rfl bs 9 rfl P2 HTp.out _ Tryz.underlying131 rfl 9 size_wide HS2.out ?_; go_simp))
                  refine wpQuiet_nil ?_
                  rintro ⟨w9, hb⟩
                  dsimp only
                  have HBy := Lib.hid (HB8.out.trans (hb.mono HB8.out.size))
                  clear hb hM hF hC hNe hGd l0 l1 l2 k0 k1 k2 k3
                  go_wp2_with fail
                  go_meet
                  case rel => exact ⟨by rw [← HG2.out], HBy.out⟩
        case rest =>
          as_aux_lemma =>
            obtain ⟨rfl, hb⟩ := hcut
            have HBa7 := Lib.hid (HBa6.out.below hb HBa6.out.lt)
            have HBr7 := Lib.hid (HBr6.out.below hb HBr6.out.lt)
            have HBx7 := Lib.hid (HBx6.out.below hb HBx6.out.lt)
            have HO7 := Lib.hid (HO6.out.later hb)
            have HB7 := Lib.hid (HB6.out.trans (hb.mono HB6.out.size))
            clear hb HBa6 HBr6 HBx6 HO6 HB6 HNe HFi HCm
            obtain ⟨N, hN⟩ : ∃ N, gB (LN x) x p.2 = N := ⟨_, rfl⟩
            obtain ⟨hNl, hVF, hFle, hFge, hstep⟩ := blks_next HVp.out Hx1.out.1 Hx1.out.2 N (fil x (LN x - N)) hN.symm rfl
            rw [hN]
            clear hN
            have HLa := Lib.hid fun wx => HLa2.out N wx hNl
            have hEq := HEq.out N hNl
            have HPl := Lib.hid fun wx => plusN (fil x (LN x - N)) wx
            have HNs : Hid ((wN (fil x (LN x - N) + 1)).size = 9) := Lib.hid (wN_size _)
            have HNo : Hid ((wN (fil x (LN x - N) + 1)).all (·.oneCell') = true) := Lib.hid (wd_one _)
            have HFb := Lib.hid (And.intro hVF (And.intro hFle hFge))
            have HSt := Lib.hid hstep
            have hNb : N ≤ 128 := Nat.le_trans hNl (by rw [LN_six]; exact lenN_le _)
            clear hNl hVF hFle hFge hstep HLa2 HEq
            generalize fil x (LN x - N) = F at *
            have HDl : Hid (D.length + 1 ≤ 257) := Lib.hid (by
              have e := congrArg List.length HD.out
              rw [HSt.out, List.length_append, List.length_cons] at e
              have := HLb.out
              omega)
            have HD2 : Hid (D ++ [(x, N)] ++ (if F = p.2 then [] else blks (LN p.1) (F + 1) p.2) = blks (LN p.1) p.1 p.2) := Lib.hid (by
              rw [← HD.out, HSt.out, List.append_assoc]
              rfl)
            clear HD HSt
            obtain ⟨LL, hLL⟩ : ∃ LL, (allB (S.take k) ++ D).map pfOf = LL := ⟨_, rfl⟩
            have hLn : LL.length = (allB (S.take k)).length + D.length := by rw [← hLL, List.length_map, List.length_append]
            rw [hLL] at HO7
            have HLL := Lib.hid hLL
            have HLn2 := Lib.hid hLn
            have HOl := Lib.hid HO7.out.vlen
            clear hLL hLn
            have q0 := HBa7.out.cell 0
            have q1 := HBa7.out.cell 1
            have q2 := HBa7.out.cell 2
            simp at q0 q1 q2
            have HBp8 : Hid (Blk (wc.alloc (.cells #[.bool x1, .int .u64 (x2 : Int), .int .u64 (x3 : Int), .int .i64 (N : Int)] 90 (0, 0))) wc.heap.size 90 #[.bool x1, .int .u64 (x2 : Int), .int .u64 (x3 : Int), .int .i64 (N : Int)]) := Lib.hid (Blk.new wc _ _)
            have HBr8 : Hid (Blk (wc.alloc (.cells #[.bool x1, .int .u64 (x2 : Int), .int .u64 (x3 : Int), .int .i64 (N : Int)] 90 (0, 0))) bs 138 X.toArray) := Lib.hid (HBr7.out.alloc _)
            have HBx8 : Hid (Blk (wc.alloc (.cells #[.bool x1, .int .u64 (x2 : Int), .int .u64 (x3 : Int), .int .i64 (N : Int)] 90 (0, 0))) (bs + 1) 131 WX) := Lib.hid (HBx7.out.alloc _)
            have HO8 : Hid (OwnK layPf (wc.alloc (.cells #[.bool x1, .int .u64 (x2 : Int), .int .u64 (x3 : Int), .int .i64 (N : Int)] 90 (0, 0))) w.heap.size u3 LL) := Lib.hid (HO7.out.alloc _)
            have HB8 : Hid (Below w.heap.size w (wc.alloc (.cells #[.bool x1, .int .u64 (x2 : Int), .int .u64 (x3 : Int), .int .i64 (N : Int)] 90 (0, 0)))) := Lib.hid (Below.alloc HB7.out HB7.out.size _)
            have HLt : Hid (u3.ownBlock ≠ some wc.heap.size) := Lib.hid fun e => absurd (own_lt HO7.out _ e) (Nat.lt_irrefl _)
            clear HBa7 HBr7 HBx7 HO7 HB7
            go_upto_region 13 with fail
            generalize (wc.alloc (.cells #[.bool x1, .int .u64 (x2 : Int), .int .u64 (x3 : Int), .int .i64 (N : Int)] 90 (0, 0))) = w8 at *
            generalize wc.heap.size = bp at *
            clear q0 q1 q2
            have r0 := HBp8.out.cell 0
            have r1 := HBp8.out.cell 1
            have r2 := HBp8.out.cell 2
            have r3 := HBp8.out.cell 3
            simp at r0 r1 r2 r3
            go_upto_region 14 with (at_builtin; refine wpList_app pfE rfl (.tmp 48) (.tmp 50) rfl rfl (World.ownsRow.alloc HO8.out _) rfl (src_new layPf _ (pfOf (x, N)) _ _ ?c0) ?c1 ?c2 ?c3 ?c4 ?_)
            case c0 =>
              show _ = ((aN x).toList ++ [Value.int .i64 (N : Int)]).toArray
              rw [HE.out]
              rfl
            case c1 => exact layPf.one _
            case c2 => unfold maxLen; have := HLn.out; have := HDl.out; rw [HLn2.out]; omega
            case c3 => have := HLn.out; have := HDl.out; rw [HLn2.out]; omega
            case c4 => have := HB8.out.size; simp; omega
            intro v' w9 hO hG
            have HO9 : Hid (OwnK layPf w9 w.heap.size v' ((allB (S.take k) ++ (D ++ [(x, N)])).map pfOf)) := Lib.hid (by
              have := OwnK.snoc hO
              rw [show (allB (S.take k) ++ (D ++ [(x, N)])).map pfOf = (allB (S.take k) ++ D).map pfOf ++ [pfOf (x, N)] by simp, HLL.out]
              exact this)
            have HBr9 := Lib.hid ((HBr8.out.alloc (.cells #[.bool x1, .int .u64 (x2 : Int), .int .u64 (x3 : Int), .int .i64 (N : Int)] 90 (0, 0))).grew (World.ownsRow.alloc HO8.out _) (by decide) hG)
            have HBp9 := Lib.hid ((HBp8.out.alloc (.cells #[.bool x1, .int .u64 (x2 : Int), .int .u64 (x3 : Int), .int .i64 (N : Int)] 90 (0, 0))).grew_ne HLt.out hG)
            have HBx9 := Lib.hid ((HBx8.out.alloc (.cells #[.bool x1, .int .u64 (x2 : Int), .int .u64 (x3 : Int), .int .i64 (N : Int)] 90 (0, 0))).grew (World.ownsRow.alloc HO8.out _) (by decide) hG)
            have HB9 : Hid (Below w.heap.size w w9) := Lib.hid ((Below.alloc HB8.out HB8.out.size _).trans (hG.below (by have := HB8.out.size; simp; omega) (own_base HO8.out)))
            have HVl := Lib.hid HO9.out.vlen
            clear hO hG HO8 HBp8 HBr8 HBx8 HB8 r0 r1 r2 r3 HLt
            go_upto_region 14 with fail
            have r0 := HBp9.out.cell 0
            have r1 := HBp9.out.cell 1
            have r2 := HBp9.out.cell 2
            have r3 := HBp9.out.cell 3
            simp at r0 r1 r2 r3
            have l0 := Later.cell_of r0
            have l1 := Later.cell_of r1
            have l2 := Later.cell_of r2
            have l3 := Later.cell_of r3
            have HTp : Hid (∀ wx, (∃ x : Later w9, wx = x.1) → wx.rangeAt bs 9 P2.toList) := Lib.hid (by
              rintro wx ⟨x, rfl⟩
              have := HBr9.out.range
              rw [HXs.out] at this
              have := range_right this
              rw [Array.length_toList, HS1.out] at this
              exact range_below this x.2 HBr9.out.lt)
            have hF := fun X : Later w9 => Calls.later X (HLa.out X.1)
            have hGd := wide_guard .eql
            generalize hNW : wN (F + 1) = NW at *
            have HNW := Lib.hid hNW
            clear hNW
            generalize wN F = FW at *
            by_cases hFe : F = p.2
            · rw [decide_eq_true hFe] at hEq
              have HO' : Hid (OwnK layPf w9 w.heap.size v' (pfs (S.take (k + 1)))) := Lib.hid (by
                have e := HD2.out
                rw [if_pos hFe, List.append_nil] at e
                unfold pfs
                rw [HA1.out, ← e]
                exact HO9.out)
              clear HO9 HD2
              refine wp_region_later (by kernel_rfl) (by kernel_rfl) ?_
              repeat (first | go_big_quiet_step ((go_at_call 111; exact hF _)) | (refine wpQuiet_loadn rfl 131 _ rfl _ rfl bs 9 rfl P2 HTp.out _ Tryz.underlying131 rfl 9 size_wide HS2.out ?_; go_simp))
              refine wpQuiet_nil ?_
              rintro ⟨w10, hb⟩
              dsimp only
              have HO10 := Lib.hid (HO'.out.later hb)
              have HB10 := Lib.hid (HB9.out.trans (hb.mono HB9.out.size))
              clear hb hF hEq hGd HB9 HO' l0 l1 l2 l3 HTp r0 r1 r2 r3
              go_wp2_with fail
              exact ⟨⟨k + 1, by omega, by go_num, HO10, HB10⟩, by simp [intOf]; omega⟩
            · rw [decide_eq_false hFe] at hEq
              have HD3 : Hid (D ++ [(x, N)] ++ blks (LN p.1) (F + 1) p.2 = blks (LN p.1) p.1 p.2) := Lib.hid (by
                have e := HD2.out
                rw [if_neg hFe] at e
                exact e)
              have hF1 : p.1 ≤ F + 1 ∧ F + 1 ≤ p.2 := by have := HFb.out.2; have := Hx1.out.1; omega
              have HF1 := Lib.hid hF1
              have HVF1 := Lib.hid (blk_vn HVp.out hF1.1 hF1.2).1
              clear HD2 hF1
              refine wp_region_later (by kernel_rfl) (by kernel_rfl) ?_
              repeat (first | go_big_quiet_step ((go_at_call 111; exact hF _)) | (refine wpQuiet_loadn rfl 131 _ rfl _ rfl bs 9 rfl P2 HTp.out _ Tryz.underlying131 rfl 9 size_wide HS2.out ?_; go_simp))
              refine wpQuiet_nil ?_
              rintro ⟨w10, hb⟩
              dsimp only
              have HO10 := Lib.hid (HO9.out.later hb)
              have HB10 := Lib.hid (HB9.out.trans (hb.mono HB9.out.size))
              have HBp10 := Lib.hid (HBp9.out.below hb HBp9.out.lt)
              have HBr10 := Lib.hid (HBr9.out.below hb HBr9.out.lt)
              have HBx10 := Lib.hid (HBx9.out.below hb HBx9.out.lt)
              clear hb hF hEq hGd HB9 HO9 HBp9 HBr9 HBx9 l0 l1 l2 l3 HTp r0 r1 r2 r3
              have r0 := HBp10.out.cell 0
              have r1 := HBp10.out.cell 1
              have r2 := HBp10.out.cell 2
              have r3 := HBp10.out.cell 3
              simp at r0 r1 r2 r3
              go_wp2_with fail
              refine (HLa.out _).mono ?_
              rintro e w11 ⟨rfl, hb⟩
              have HO11 := Lib.hid (HO10.out.later hb)
              have HB11 := Lib.hid (HB10.out.trans (hb.mono HB10.out.size))
              have HBr11 := Lib.hid (HBr10.out.below hb HBr10.out.lt)
              have HBx11 := Lib.hid (HBx10.out.below hb HBx10.out.lt)
              clear hb HO10 HB10 HBp10 HBr10 HBx10 r0 r1 r2 r3
              go_wp2_with fail
              refine (HPl.out _).mono ?_
              rintro e w12 ⟨rfl, hb⟩
              have HO12 := Lib.hid (HO11.out.later hb)
              have HB12 := Lib.hid (HB11.out.trans (hb.mono HB11.out.size))
              have HBr12 := Lib.hid (HBr11.out.below hb HBr11.out.lt)
              have HBx12 := Lib.hid (HBx11.out.below hb HBx11.out.lt)
              clear hb HO11 HB11 HBr11 HBx11
              have hba3 : w.heap.size ≤ bs + 1 := by omega
              have HS := Lib.hid (And.intro (own_farRow HO12.out HBx12.out (by decide) NW) (And.intro (HBr12.out.farRow (by omega : bs ≠ bs + 1) NW) (And.intro (HBx12.out.setRow NW) (below_setRow HB12.out hba3 NW))))
              have HXc := Lib.hid (show w12.heap[bs + 1]? = some (.cells WX 131 (0, 0)) from HBx12.out)
              clear HO12 HB12 HBr12 HBx12
              go_wp2_with (refine wpList_store_row rfl 131 (.tmp 6) (.tmp 59) rfl (bs + 1) NW rfl rfl 131 WX HXc.out (by rw [HNs.out]; exact size_wide) (by rw [HWs.out, HNs.out]) HNo.out ?_; dsimp only [Act.put])
              refine ⟨?rel, ?measure⟩
              case rel => exact ⟨F + 1, D ++ [(x, N)], HVF1, HF1, Lib.hid HS.out.1, HD3, Lib.hid HS.out.2.1, Lib.hid (by rw [HNW.out]; exact HS.out.2.2.1), Lib.hid HS.out.2.2.2⟩
              case measure =>
                have m1 := HVl.out
                rw [List.length_map, List.length_append, List.length_append, List.length_singleton] at m1
                have m2 := HOl.out
                rw [HLn2.out] at m2
                have m3 := HDl.out
                simp
                omega
    · obtain rfl : k = n := by omega
      have hT : S.take k = S := List.take_of_length_le (by rw [Hn.out]; exact Nat.le_refl _)
      have HO2 : Hid (OwnK layPf wr w.heap.size u3 (pfs S)) := Lib.hid (by have := HO.out; rw [hT] at this; exact this)
      clear hT HO
      go_wp2_with fail
      go_ret
      exact ⟨_, rfl, HO2.out, HB.out⟩
end Go.Proofs.YtaeieigdibanlaaGreatDoor
