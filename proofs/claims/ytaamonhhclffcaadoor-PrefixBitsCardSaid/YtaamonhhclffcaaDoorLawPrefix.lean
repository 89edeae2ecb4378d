/-
  The law PrefixBits is true for every slice of ints.
-/
import Derived.Test.YtaamonhhclffcaaDoorPBForm
namespace Go.Proofs.YtaamonhhclffcaaDoor
open Go.RowKit Go
set_option linter.unusedVariables false

/-- the values of the drawn region that masks the second prefix -/
def q4R (b V : Nat) (six : Bool) (hi lo : Nat) (bits : Int) : Nat → Value → World → Prop
  | 0, v, _ => v = .pointer (some ⟨V, 0, none⟩)
  | 1, v, _ => v = .agg #[.bool six, .int .u64 (hi : Int), .int .u64 (lo : Int)]
  | 2, v, _ => v = .pointer (some ⟨V, 3, none⟩)
  | 3, v, _ => v = .int .i64 bits
  | 4, v, _ => v = .pointer (some ⟨b, 0, none⟩)
  | 5, v, _ => ∃ k : Int, v = .int .i64 k ∧ -3 ≤ k ∧ k ≤ 3
  | 6, v, _ => ∃ k : Int, v = .int .i64 k
  | 7, v, _ => ∃ k : Int, v = .int .i64 k ∧ k ≤ 32
  | 8, v, _ => ∃ k : Nat, v = .int .i64 (k : Int) ∧ k ≤ 32
  | _, v, _ => ∃ (k mh ml : Nat), v = .agg #[.bool six, .int .u64 (mh : Int), .int .u64 (ml : Int), .int .i64 (k : Int)] ∧ U64N mh ∧ U64N ml
set_option maxRecDepth 100000 in
set_option maxHeartbeats 4000000 in
theorem law_PrefixBits (ad : Option Addr) (n c : Nat) (w : World) (h : LawArg w ad n) :
    Calls Tryd.prog 5 #[.slice ad n c] w (Ret (.bool true) w) := by
  have hS := LawArg.strm (c := c) h
  have HB0 : Hid (Below w.heap.size w (w.alloc (.cells #[.slice ad n c, .int .i64 0] 25 (0, 0)))) := Lib.hid (below_alloc (Below.refl _ _) _)
  have hblt : w.heap.size < (w.alloc (.cells #[.slice ad n c, .int .i64 0] 25 (0, 0))).heap.size := hS.lt
  have HS := Lib.hid hS
  clear h hS
  go_enter Tryd.func5, Tryd.ntmps5
  go_wp2_with fail
  generalize w.alloc (.cells #[.slice ad n c, .int .i64 0] 25 (0, 0)) = w0 at *
  obtain ⟨b, hbw⟩ : ∃ b, w.heap.size = b := ⟨_, rfl⟩
  rw [hbw] at hblt HS HB0 ⊢
  have Hbw := Lib.hid hbw
  clear hbw
  refine (prefix_gen b 0 _ HS.out (by omega)).mono ?_
  rintro e w1 ⟨six, hi, lo, bits, rfl, h1, h2, h3, hg⟩
  have HG1 : Hid (Gen b w0 w1 14) := Lib.hid hg
  have HU := Lib.hid (And.intro h1 (And.intro h2 h3))
  clear hg HS h1 h2 h3
  go_wp2_with fail
  refine (prefix_gen b 14 _ HG1.out.s (by omega)).mono ?_
  rintro e w2 ⟨t2, k2, m2, c2, rfl, h1, h2, -, hg⟩
  have HG2 : Hid (Gen b w0 w2 28) := Lib.hid (HG1.out.trans hg)
  have HUQ := Lib.hid (And.intro h1 h2)
  clear hg HG1 h1 h2
  go_wp2_with fail
  refine (raw_gen b 28 _ HG2.out.s (by omega)).mono ?_
  rintro e w3 ⟨s3, x3, y3, rfl, ⟨hu1, hu2⟩, hg⟩
  obtain ⟨h3, rfl, h1⟩ := nat_of_U64 hu1
  obtain ⟨l3, rfl, h2⟩ := nat_of_U64 hu2
  have HG3 : Hid (Gen b w0 w3 34) := Lib.hid (HG2.out.trans hg)
  have HUA := Lib.hid (And.intro h1 h2)
  clear hg HG2 h1 h2 hu1 hu2
  go_wp2_with fail
  refine (odd_gen b 34 _ _ _ HG3.out.s (by omega) (by omega) (by omega)).mono ?_
  rintro e w4 ⟨nn, rfl, hnb, hg⟩
  have HG4 : Hid (Gen b w0 w4 36) := Lib.hid (HG3.out.trans hg)
  clear hg HG3
  have hw4 : b < w4.heap.size := HG4.out.s.lt
  have hw4' : w0.heap.size ≤ w4.heap.size := HG4.out.g.size
  have HP5 : Hid (Blk (((w4.alloc (.cells #[.bool six, .int .u64 ((hi : Int) : Int), .int .u64 ((lo : Int) : Int), .int .i64 bits] 31 (0, 0))).alloc (.cells #[.bool t2, .int .u64 ((k2 : Int) : Int), .int .u64 ((m2 : Int) : Int), .int .i64 c2] 31 (0, 0))).alloc (.cells #[.bool s3, .int .u64 (h3 : Int), .int .u64 (l3 : Int)] 29 (0, 0))) w4.heap.size 31 #[.bool six, .int .u64 ((hi : Int) : Int), .int .u64 ((lo : Int) : Int), .int .i64 bits]) := Lib.hid (((Blk.new w4 _ _).alloc _).alloc _)
  have HQ5 : Hid (Blk (((w4.alloc (.cells #[.bool six, .int .u64 ((hi : Int) : Int), .int .u64 ((lo : Int) : Int), .int .i64 bits] 31 (0, 0))).alloc (.cells #[.bool t2, .int .u64 ((k2 : Int) : Int), .int .u64 ((m2 : Int) : Int), .int .i64 c2] 31 (0, 0))).alloc (.cells #[.bool s3, .int .u64 (h3 : Int), .int .u64 (l3 : Int)] 29 (0, 0))) (w4.heap.size + 1) 31 #[.bool t2, .int .u64 ((k2 : Int) : Int), .int .u64 ((m2 : Int) : Int), .int .i64 c2]) := Lib.hid (by
    have := Blk.new (w4.alloc (.cells #[.bool six, .int .u64 ((hi : Int) : Int), .int .u64 ((lo : Int) : Int), .int .i64 bits] 31 (0, 0))) 31 #[.bool t2, .int .u64 ((k2 : Int) : Int), .int .u64 ((m2 : Int) : Int), .int .i64 c2]
    rw [World.size_alloc] at this
    exact this.alloc _)
  have HA5 : Hid (Blk (((w4.alloc (.cells #[.bool six, .int .u64 ((hi : Int) : Int), .int .u64 ((lo : Int) : Int), .int .i64 bits] 31 (0, 0))).alloc (.cells #[.bool t2, .int .u64 ((k2 : Int) : Int), .int .u64 ((m2 : Int) : Int), .int .i64 c2] 31 (0, 0))).alloc (.cells #[.bool s3, .int .u64 (h3 : Int), .int .u64 (l3 : Int)] 29 (0, 0))) (w4.heap.size + 1 + 1) 29 #[.bool s3, .int .u64 (h3 : Int), .int .u64 (l3 : Int)]) := Lib.hid (by
    have := Blk.new ((w4.alloc (.cells #[.bool six, .int .u64 ((hi : Int) : Int), .int .u64 ((lo : Int) : Int), .int .i64 bits] 31 (0, 0))).alloc (.cells #[.bool t2, .int .u64 ((k2 : Int) : Int), .int .u64 ((m2 : Int) : Int), .int .i64 c2] 31 (0, 0))) 29 #[.bool s3, .int .u64 (h3 : Int), .int .u64 (l3 : Int)]
    rw [World.size_alloc, World.size_alloc] at this
    exact this)
  have HG5 : Hid (Gen b w0 (((w4.alloc (.cells #[.bool six, .int .u64 ((hi : Int) : Int), .int .u64 ((lo : Int) : Int), .int .i64 bits] 31 (0, 0))).alloc (.cells #[.bool t2, .int .u64 ((k2 : Int) : Int), .int .u64 ((m2 : Int) : Int), .int .i64 c2] 31 (0, 0))).alloc (.cells #[.bool s3, .int .u64 (h3 : Int), .int .u64 (l3 : Int)] 29 (0, 0))) 36) := Lib.hid (((HG4.out.alloc _).alloc _).alloc _)
  clear HG4
  unfold vAddr vP
  go_upto_region 3 with fail
  generalize (((w4.alloc (.cells #[.bool six, .int .u64 ((hi : Int) : Int), .int .u64 ((lo : Int) : Int), .int .i64 bits] 31 (0, 0))).alloc (.cells #[.bool t2, .int .u64 ((k2 : Int) : Int), .int .u64 ((m2 : Int) : Int), .int .i64 c2] 31 (0, 0))).alloc (.cells #[.bool s3, .int .u64 (h3 : Int), .int .u64 (l3 : Int)] 29 (0, 0))) = w5 at *
  generalize w4.heap.size = V at *
  clear w4
  go_wp2_with fail
  refine (flip_gen b 36 _ _ HG5.out.s (by omega) (by omega)).mono ?_
  rintro e w6 ⟨kk, rfl, hg⟩
  have HP6 := Lib.hid (HP5.out.keep hg.g (by omega))
  have HQ6 := Lib.hid (HQ5.out.keep hg.g (by omega))
  have HA6 := Lib.hid (HA5.out.keep hg.g (by omega))
  have HG6 : Hid (Gen b w0 w6 37) := Lib.hid (HG5.out.trans hg)
  clear hg HP5 HQ5 HA5 HG5
  go_upto_if 35 with fail
  go_cut [] (fun wx => ∃ (s2 : Bool) (h2 l2 : Nat) (b2 : Int), Blk wx V 31 #[.bool six, .int .u64 ((hi : Int) : Int), .int .u64 ((lo : Int) : Int), .int .i64 bits] ∧ Blk wx (V + 1) 31 #[.bool s2, .int .u64 ((h2 : Int) : Int), .int .u64 ((l2 : Int) : Int), .int .i64 b2] ∧ Blk wx (V + 1 + 1) 29 #[.bool s3, .int .u64 (h3 : Int), .int .u64 (l3 : Int)] ∧ U64N h2 ∧ U64N l2 ∧ Gen b w0 wx 60)
  case first =>
    as_aux_lemma =>
      cases kk
      · go_wp2_with fail
        go_meet
        case rel => exact ⟨t2, k2, m2, c2, HP6.out, HQ6.out, HA6.out, HUQ.out.1, HUQ.out.2, HG6.out.mono (by omega)⟩
      · go_upto_region 4 with fail
        refine wp_region_inv 10 1 (q4R b V six hi lo bits) (fun n w' => Gen b w0 w' (37 + n) ∧ Blk w' V 31 #[.bool six, .int .u64 ((hi : Int) : Int), .int .u64 ((lo : Int) : Int), .int .i64 bits] ∧ Blk w' (V + 1) 31 #[.bool t2, .int .u64 ((k2 : Int) : Int), .int .u64 ((m2 : Int) : Int), .int .i64 c2] ∧ Blk w' (V + 1 + 1) 29 #[.bool s3, .int .u64 (h3 : Int), .int .u64 (l3 : Int)]) (fun u v => True) (fun i => if i = 5 then 1 else 0)
          (by kernel_rfl) (by kernel_rfl) (by decide) ?hS ⟨HG6.out.drew, HP6.out.drewN 1, HQ6.out.drewN 1, HA6.out.drewN 1⟩ ?hX
        case' hX => (apply Exists.intro; refine ⟨fun T => ?hA, ?hob, ?hend⟩)
        case hA =>
          simp only [setAll, List.take_succ_cons, List.take_zero, Act.put, List.setIfInBounds_toArray, List.set_cons_succ, List.set_cons_zero, Nat.reduceAdd]
          exact rfl
        case hob =>
          have hU1 := HU.out.1
          have hU2 := HU.out.2.1
          clear HP6 HQ6 HA6 HG6 HUQ HUA HU
          refine ⟨?_, ?_, ?_, ?_, ?_, ?_, ?_, ?_, ?_, ?_, trivial⟩
          all_goals (intro T wx n hC hn hp; obtain ⟨hC, hP, hQ, hA⟩ := hC; dsimp only at hn ⊢; unfold Op1)
          · go_simp
            exact rfl
          · have p0 := hP.cell 0
            have p1 := hP.cell 1
            have p2 := hP.cell 2
            simp at p0 p1 p2
            obtain ⟨h0, -⟩ := hp
            have h0 : T 0 = .pointer (some ⟨V, 0, none⟩) := h0
            go_simp
            exact rfl
          · go_simp
            exact rfl
          · have p3 := hP.cell 3
            simp at p3
            obtain ⟨h0, -⟩ := hp
            have h0 : T 2 = .pointer (some ⟨V, 3, none⟩) := h0
            go_simp
            exact rfl
          · go_simp
            exact rfl
          · obtain ⟨h0, -⟩ := hp
            have h0 : T 4 = .pointer (some ⟨b, 0, none⟩) := h0
            go_simp
            refine (range_gen b (37 + n) _ _ _ hC.s (by simp at hn; omega) (by omega) (by omega)).mono ?_
            rintro e w2 ⟨k, rfl, ⟨hk0, hk1⟩, hg2⟩
            exact ⟨_, rfl, ⟨k, rfl, hk0, by omega⟩, hC.trans hg2, hP.keep hg2.g (by omega), hQ.keep hg2.g (by omega), hA.keep hg2.g (by omega)⟩
          · obtain ⟨h0, ⟨k, hk, -, -⟩, -⟩ := hp
            have h0 : T 3 = .int .i64 bits := h0
            go_simp
            exact ⟨_, rfl⟩
          · obtain ⟨⟨k, hk⟩, -⟩ := hp
            go_simp
            exact ⟨_, rfl, by omega⟩
          · obtain ⟨⟨k, hk, hk1⟩, -⟩ := hp
            go_simp
            exact ⟨(max 0 k).toNat, congrArg _ (by omega), by omega⟩
          · obtain ⟨h1, ⟨k, hk, hk1⟩, -⟩ := hp
            have h1 : T 1 = .agg #[.bool six, .int .u64 (hi : Int), .int .u64 (lo : Int)] := h1
            go_simp
            refine (maskOf_any six hi lo k wx hU1 hU2 (by omega)).mono ?_
            rintro e w2 ⟨rfl, hb⟩
            exact ⟨_, rfl, ⟨k, _, _, rfl, mHi_lt hU1, mLo_lt hU2⟩, hC.below0 hb hC.s.lt, hP.below hb hP.lt, hQ.below hb hQ.lt, hA.below hb hA.lt⟩
        case hS => intro p v u u' hR hg; exact (by rcases p with _ | _ | _ | _ | _ | _ | _ | _ | _ | p <;> exact hR)
        case hend =>
          intro T wx ⟨n, hn, hC, hP, hQ, hA⟩ hR
          obtain ⟨k, mh, ml, hT, u1, u2⟩ := hR 9 (by omega)
          clear hR HP6 HQ6 HA6 HG6
          have HP7 := Lib.hid ((((hP.far (show V ≠ V + 1 by omega) 0 (.bool six)).far (show V ≠ V + 1 by omega) 1 (.int .u64 (mh : Int))).far (show V ≠ V + 1 by omega) 2 (.int .u64 (ml : Int))).far (show V ≠ V + 1 by omega) 3 (.int .i64 (k : Int)))
          have HQ7 := Lib.hid ((((hQ.set 0 (.bool six)).set 1 (.int .u64 (mh : Int))).set 2 (.int .u64 (ml : Int))).set 3 (.int .i64 (k : Int)))
          have HA7 := Lib.hid ((((hA.far (show V + 1 + 1 ≠ V + 1 by omega) 0 (.bool six)).far (show V + 1 + 1 ≠ V + 1 by omega) 1 (.int .u64 (mh : Int))).far (show V + 1 + 1 ≠ V + 1 by omega) 2 (.int .u64 (ml : Int))).far (show V + 1 + 1 ≠ V + 1 by omega) 3 (.int .i64 (k : Int)))
          have HC := Lib.hid hC
          have HQ := Lib.hid hQ
          have HU7 := Lib.hid (And.intro u1 u2)
          clear hP hA hC hQ u1 u2
          have q0 := HQ.out.cell 0
          have q1 := HQ.out.cell 1
          have q2 := HQ.out.cell 2
          have q3 := HQ.out.cell 3
          simp at q0 q1 q2 q3
          have qf := HQ.out.free
          go_wp2_with fail
          go_meet
          case rel =>
            refine ⟨six, mh, ml, k, HP7.out, HQ7.out, HA7.out, HU7.out.1, HU7.out.2, ?_⟩
            repeat refine Gen.setCell ?_ _ _ (by simp only; omega) (by simp only; omega)
            exact HC.out.mono (by omega)
  case rest =>
    as_aux_lemma =>
      obtain ⟨s2, h2, l2, b2, hP, hQ, hA, v1, v2, hG⟩ := hcut
      have HP7 := Lib.hid hP
      have HQ7 := Lib.hid hQ
      have HA7 := Lib.hid hA
      have HB7 : Hid (Below w.heap.size w wc) := Lib.hid (hG.toBelow3 (w := w) (by rw [Hbw.out]; exact HB0.out) (by rw [Hbw.out]; exact Nat.le_refl _))
      have u1 := HU.out.1
      have u2 := HU.out.2.1
      have u3 := HUA.out.1
      have u4 := HUA.out.2
      have hMask := fun wx => aMask_any s3 h3 l3 nn wx u3 u4
      have hLast := fun wx => aLast_any six hi lo bits wx u1 u2
      have hCon := fun wx => aContains_any six hi lo bits s3 h3 l3 wx u1 u2 u3 u4
      have hIns := fun wx => aInside_any six hi lo bits s2 h2 l2 b2 wx u1 u2 v1 v2
      have hCom := fun wx => aCommon_any six hi lo bits s2 h2 l2 b2 wx u1 u2 v1 v2
      have hPF1 := fun wx => prefixFault_any six hi lo bits wx u1 u2
      have hPF2 := fun wx => prefixFault_any s2 h2 l2 b2 wx v1 v2
      have hAF := fun wx => addrFault_any s3 h3 l3 wx ⟨by omega, by unfold U64N at u3; omega⟩ ⟨by omega, by unfold U64N at u4; omega⟩
      have hCP := fun wx => checkPrefix_any six hi lo bits wx u1 u2
      obtain ⟨ms, mh, ml, mb, hMR, hMK⟩ := maskR_form s3 h3 l3 nn u3 u4
      rw [hMR] at hMask
      obtain ⟨ls, lh, ll, hLR, hLK⟩ := lastR_form six hi lo bits u1 u2
      rw [hLR] at hLast
      have hCK := conR_form six hi lo bits s3 h3 l3 u1 u2 u3 u4
      have hIK := insR_form six hi lo bits s2 h2 l2 b2 u1 u2 v1 v2
      obtain ⟨gs, gh, gl, gb, hGR, hGK, hG0⟩ := comR_form six hi lo bits s2 h2 l2 b2 u1 u2 v1 v2
      rw [hGR] at hCom
      have e1 := mask_two s3 h3 l3 nn
      have e2 := con_two six hi lo bits s3 h3 l3
      have e3 := com_two six hi lo bits s2 h2 l2 b2
      have e4 : insF six hi lo bits s2 h2 l2 b2 = twoF (pFault six hi lo bits) (pFault s2 h2 l2 b2) := rfl
      rw [← e4] at e3
      clear hMR hLR hGR hP hQ hA v1 v2 hG u1 u2 u3 u4 HP6 HQ6 HA6 HG6 HUQ HU HUA
      unfold vP at hLast hCon hIns hCom hPF1 hPF2 hLK hCK hIK hGK
      unfold vA at hMask hCon hMK hCK
      unfold vAddr at hAF
      generalize maskF s3 h3 l3 nn = mF at *
      generalize conR six hi lo bits s3 h3 l3 = cR at *
      generalize conF six hi lo bits s3 h3 l3 = cF at *
      generalize insR six hi lo bits s2 h2 l2 b2 = iR at *
      generalize insF six hi lo bits s2 h2 l2 b2 = bo at *
      generalize comF six hi lo bits s2 h2 l2 b2 = gF at *
      generalize pFault six hi lo bits = pf at *
      generalize pFault s2 h2 l2 b2 = qf at *
      generalize aFault s3 (h3 : Int) (l3 : Int) = af at *
      have HE1 : Hid (firstE [af, if outB nn 0 (lenN s3 : Nat) = true then 1 else 0] = mF) := Lib.hid (by rw [firstE_two]; exact e1.symm)
      have HE2 : Hid (firstE [pf, af] = cF) := Lib.hid (by rw [firstE_two]; exact e2.symm)
      have HE3 : Hid (firstE [bo, if six ≠ s2 then 10 else 0] = gF) := Lib.hid (by rw [firstE_two]; exact e3.symm)
      have HE4 : Hid (firstE [pf, qf] = bo) := Lib.hid (by rw [firstE_two]; exact e4.symm)
      have HO2 : Hid (cF = 0 → pf = 0) := Lib.hid fun h => (twoF_zero (e2.symm.trans h)).1
      have HO4 : Hid (bo = 0 → pf = 0) := Lib.hid fun h => (twoF_zero (e4.symm.trans h)).1
      have HMask := Lib.hid hMask
      have HLast := Lib.hid hLast
      have HCon := Lib.hid hCon
      have HIns := Lib.hid hIns
      have HCom := Lib.hid hCom
      have HPF1 := Lib.hid hPF1
      have HPF2 := Lib.hid hPF2
      have HAF := Lib.hid hAF
      have HCP := Lib.hid hCP
      have HMK := Lib.hid hMK
      have HLK := Lib.hid hLK
      have HCK := Lib.hid hCK
      have HIK := Lib.hid hIK
      have HGK := Lib.hid hGK
      have HG0 := Lib.hid hG0
      clear hMask hLast hCon hIns hCom hPF1 hPF2 hAF hCP hMK hLK hCK hIK hGK hG0 e1 e2 e3 e4
      have ac0 := HA7.out.cell 0
      have ac1 := HA7.out.cell 1
      have ac2 := HA7.out.cell 2
      simp at ac0 ac1 ac2
      go_wp2_with fail
      refine (HMask.out _).mono ?_
      rintro e wq7 ⟨rfl, hb⟩
      have HP8 := Lib.hid ((HP7.out.below hb HP7.out.lt).alloc (.cells #[.bool ms, .int .u64 (mh : Int), .int .u64 (ml : Int), .int .i64 mb] 31 (0, 0)))
      have HQ8 := Lib.hid ((HQ7.out.below hb HQ7.out.lt).alloc (.cells #[.bool ms, .int .u64 (mh : Int), .int .u64 (ml : Int), .int .i64 mb] 31 (0, 0)))
      have HA8 := Lib.hid ((HA7.out.below hb HA7.out.lt).alloc (.cells #[.bool ms, .int .u64 (mh : Int), .int .u64 (ml : Int), .int .i64 mb] 31 (0, 0)))
      have HB8 := Lib.hid (below_alloc (HB7.out.trans (hb.mono HB7.out.size)) (.cells #[.bool ms, .int .u64 (mh : Int), .int .u64 (ml : Int), .int .i64 mb] 31 (0, 0)))
      have HM8 : Hid (Blk (wq7.alloc (.cells #[.bool ms, .int .u64 (mh : Int), .int .u64 (ml : Int), .int .i64 mb] 31 (0, 0))) wq7.heap.size 31 #[.bool ms, .int .u64 (mh : Int), .int .u64 (ml : Int), .int .i64 mb]) := Lib.hid (Blk.new wq7 _ _)
      clear hb HP7 HQ7 HA7 HB7 ac0 ac1 ac2
      go_upto_region 6 with fail
      generalize wq7.alloc (.cells #[.bool ms, .int .u64 (mh : Int), .int .u64 (ml : Int), .int .i64 mb] 31 (0, 0)) = wx8 at *
      generalize wq7.heap.size = VM at *
      have pc0 := HP8.out.cell 0
      have pc1 := HP8.out.cell 1
      have pc2 := HP8.out.cell 2
      have pc3 := HP8.out.cell 3
      simp at pc0 pc1 pc2 pc3
      go_wp2_with fail
      refine (HLast.out _).mono ?_
      rintro e wq8 ⟨rfl, hb⟩
      have HP9 := Lib.hid ((HP8.out.below hb HP8.out.lt).alloc (.cells #[.bool ls, .int .u64 (lh : Int), .int .u64 (ll : Int)] 29 (0, 0)))
      have HQ9 := Lib.hid ((HQ8.out.below hb HQ8.out.lt).alloc (.cells #[.bool ls, .int .u64 (lh : Int), .int .u64 (ll : Int)] 29 (0, 0)))
      have HA9 := Lib.hid ((HA8.out.below hb HA8.out.lt).alloc (.cells #[.bool ls, .int .u64 (lh : Int), .int .u64 (ll : Int)] 29 (0, 0)))
      have HM9 := Lib.hid ((HM8.out.below hb HM8.out.lt).alloc (.cells #[.bool ls, .int .u64 (lh : Int), .int .u64 (ll : Int)] 29 (0, 0)))
      have HB9 := Lib.hid (below_alloc (HB8.out.trans (hb.mono HB8.out.size)) (.cells #[.bool ls, .int .u64 (lh : Int), .int .u64 (ll : Int)] 29 (0, 0)))
      have HL9 : Hid (Blk (wq8.alloc (.cells #[.bool ls, .int .u64 (lh : Int), .int .u64 (ll : Int)] 29 (0, 0))) wq8.heap.size 29 #[.bool ls, .int .u64 (lh : Int), .int .u64 (ll : Int)]) := Lib.hid (Blk.new wq8 _ _)
      clear hb HP8 HQ8 HA8 HM8 HB8 pc0 pc1 pc2 pc3
      go_upto_region 7 with fail
      generalize wq8.alloc (.cells #[.bool ls, .int .u64 (lh : Int), .int .u64 (ll : Int)] 29 (0, 0)) = wx9 at *
      generalize wq8.heap.size = VL at *
      have pc0 := HP9.out.cell 0
      have pc1 := HP9.out.cell 1
      have pc2 := HP9.out.cell 2
      have pc3 := HP9.out.cell 3
      simp at pc0 pc1 pc2 pc3
      have ac0 := HA9.out.cell 0
      have ac1 := HA9.out.cell 1
      have ac2 := HA9.out.cell 2
      simp at ac0 ac1 ac2
      go_wp2_with fail
      refine (HCon.out _).mono ?_
      rintro e wq9 ⟨rfl, hb⟩
      have HP10 := Lib.hid ((HP9.out.below hb HP9.out.lt))
      have HQ10 := Lib.hid ((HQ9.out.below hb HQ9.out.lt))
      have HA10 := Lib.hid ((HA9.out.below hb HA9.out.lt))
      have HM10 := Lib.hid ((HM9.out.below hb HM9.out.lt))
      have HL10 := Lib.hid ((HL9.out.below hb HL9.out.lt))
      have HB10 := Lib.hid ((HB9.out.trans (hb.mono HB9.out.size)))
      clear hb HP9 HQ9 HA9 HM9 HL9 HB9 pc0 pc1 pc2 pc3 ac0 ac1 ac2
      go_upto_region 8 with fail
      have pc0 := HP10.out.cell 0
      have pc1 := HP10.out.cell 1
      have pc2 := HP10.out.cell 2
      have pc3 := HP10.out.cell 3
      simp at pc0 pc1 pc2 pc3
      have qc0 := HQ10.out.cell 0
      have qc1 := HQ10.out.cell 1
      have qc2 := HQ10.out.cell 2
      have qc3 := HQ10.out.cell 3
      simp at qc0 qc1 qc2 qc3
      go_wp2_with fail
      refine (HIns.out _).mono ?_
      rintro e wq10 ⟨rfl, hb⟩
      have HP11 := Lib.hid ((HP10.out.below hb HP10.out.lt))
      have HQ11 := Lib.hid ((HQ10.out.below hb HQ10.out.lt))
      have HA11 := Lib.hid ((HA10.out.below hb HA10.out.lt))
      have HM11 := Lib.hid ((HM10.out.below hb HM10.out.lt))
      have HL11 := Lib.hid ((HL10.out.below hb HL10.out.lt))
      have HB11 := Lib.hid ((HB10.out.trans (hb.mono HB10.out.size)))
      clear hb HP10 HQ10 HA10 HM10 HL10 HB10 pc0 pc1 pc2 pc3 qc0 qc1 qc2 qc3
      go_upto_region 9 with fail
      have pc0 := HP11.out.cell 0
      have pc1 := HP11.out.cell 1
      have pc2 := HP11.out.cell 2
      have pc3 := HP11.out.cell 3
      simp at pc0 pc1 pc2 pc3
      have qc0 := HQ11.out.cell 0
      have qc1 := HQ11.out.cell 1
      have qc2 := HQ11.out.cell 2
      have qc3 := HQ11.out.cell 3
      simp at qc0 qc1 qc2 qc3
      go_wp2_with fail
      refine (HCom.out _).mono ?_
      rintro e wq11 ⟨rfl, hb⟩
      have HP12 := Lib.hid ((HP11.out.below hb HP11.out.lt).alloc (.cells #[.bool gs, .int .u64 (gh : Int), .int .u64 (gl : Int), .int .i64 gb] 31 (0, 0)))
      have HQ12 := Lib.hid ((HQ11.out.below hb HQ11.out.lt).alloc (.cells #[.bool gs, .int .u64 (gh : Int), .int .u64 (gl : Int), .int .i64 gb] 31 (0, 0)))
      have HA12 := Lib.hid ((HA11.out.below hb HA11.out.lt).alloc (.cells #[.bool gs, .int .u64 (gh : Int), .int .u64 (gl : Int), .int .i64 gb] 31 (0, 0)))
      have HM12 := Lib.hid ((HM11.out.below hb HM11.out.lt).alloc (.cells #[.bool gs, .int .u64 (gh : Int), .int .u64 (gl : Int), .int .i64 gb] 31 (0, 0)))
      have HL12 := Lib.hid ((HL11.out.below hb HL11.out.lt).alloc (.cells #[.bool gs, .int .u64 (gh : Int), .int .u64 (gl : Int), .int .i64 gb] 31 (0, 0)))
      have HB12 := Lib.hid (below_alloc (HB11.out.trans (hb.mono HB11.out.size)) (.cells #[.bool gs, .int .u64 (gh : Int), .int .u64 (gl : Int), .int .i64 gb] 31 (0, 0)))
      have HG12 : Hid (Blk (wq11.alloc (.cells #[.bool gs, .int .u64 (gh : Int), .int .u64 (gl : Int), .int .i64 gb] 31 (0, 0))) wq11.heap.size 31 #[.bool gs, .int .u64 (gh : Int), .int .u64 (gl : Int), .int .i64 gb]) := Lib.hid (Blk.new wq11 _ _)
      clear hb HP11 HQ11 HA11 HM11 HL11 HB11 pc0 pc1 pc2 pc3 qc0 qc1 qc2 qc3
      go_upto_region 10 with fail
      generalize wq11.alloc (.cells #[.bool gs, .int .u64 (gh : Int), .int .u64 (gl : Int), .int .i64 gb] 31 (0, 0)) = wx12 at *
      generalize wq11.heap.size = VG at *
      clear HMask HLast HCon HIns HCom
      have pc0 := HP12.out.cell 0
      have pc1 := HP12.out.cell 1
      have pc2 := HP12.out.cell 2
      have pc3 := HP12.out.cell 3
      simp at pc0 pc1 pc2 pc3
      have qc0 := HQ12.out.cell 0
      have qc1 := HQ12.out.cell 1
      have qc2 := HQ12.out.cell 2
      have qc3 := HQ12.out.cell 3
      simp at qc0 qc1 qc2 qc3
      have lp0 := Later.cell_of pc0
      have lp1 := Later.cell_of pc1
      have lp2 := Later.cell_of pc2
      have lp3 := Later.cell_of pc3
      have lq0 := Later.cell_of qc0
      have lq1 := Later.cell_of qc1
      have lq2 := Later.cell_of qc2
      have lq3 := Later.cell_of qc3
      have hPF1 := fun n : Later wx12 => Calls.later n (HPF1.out n.1)
      have hPF2 := fun n : Later wx12 => Calls.later n (HPF2.out n.1)
      refine wp_region_later_tail 6 (by kernel_rfl) (by kernel_rfl) ?_
      simp only [List.take_succ_cons, List.take_zero, List.drop_succ_cons, List.drop_zero]
      go_big_quiet_step (fail)
      go_big_quiet_step ((go_at_call 11; exact hPF1 _))
      go_big_quiet_step (fail)
      go_big_quiet_step ((go_at_call 11; exact hPF1 _))
      go_big_quiet_step (fail)
      go_big_quiet_step ((go_at_call 11; exact hPF2 _))
      refine wpQuiet_nil ?_
      rintro wq12 ⟨n6, hn6⟩
      have hb : Below wx12.heap.size wx12 wq12 := by rw [hn6]; exact n6.2
      clear hn6 n6 lp0 lp1 lp2 lp3 lq0 lq1 lq2 lq3 hPF1 hPF2 HPF1 HPF2
      go_wp2_with fail
      refine (errs_any wq12.heap.size 2 2 [pf, qf] _ (rdInts_new wq12 _ [pf, qf] _ rfl) (by omega)).mono ?_
      rintro e we12 ⟨rfl, hwe⟩
      have hb2 : Below wx12.heap.size wx12 we12 := by rw [hwe]; exact below_alloc hb _
      clear hwe hb
      rw [HE4.out]
      have HP13 := Lib.hid ((HP12.out.below hb2 HP12.out.lt))
      have HQ13 := Lib.hid ((HQ12.out.below hb2 HQ12.out.lt))
      have HA13 := Lib.hid ((HA12.out.below hb2 HA12.out.lt))
      have HM13 := Lib.hid ((HM12.out.below hb2 HM12.out.lt))
      have HL13 := Lib.hid ((HL12.out.below hb2 HL12.out.lt))
      have HG13 := Lib.hid ((HG12.out.below hb2 HG12.out.lt))
      have HB13 := Lib.hid ((HB12.out.trans (hb2.mono HB12.out.size)))
      clear hb2 HP12 HQ12 HA12 HM12 HL12 HG12 HB12 pc0 pc1 pc2 pc3 qc0 qc1 qc2 qc3
      clear HE4
      have ac0 := HA13.out.cell 0
      have ac1 := HA13.out.cell 1
      have ac2 := HA13.out.cell 2
      simp at ac0 ac1 ac2
      go_upto_if 84 with fail
      go_cut [20] (fun s20 wx => s20 = .int .i64 ((lenN s3 : Nat) : Int) ∧ Below we12.heap.size we12 wx)
      case first =>
        as_aux_lemma =>
          cases s3
          · go_wp2_with fail
            go_meet
            case rel => exact ⟨rfl, Below.refl _ _⟩
          · go_wp2_with fail
            go_meet
            case rel => exact ⟨rfl, Below.refl _ _⟩
      case rest =>
        as_aux_lemma =>
          obtain ⟨rfl, hb⟩ := hcut
          clear ac0 ac1 ac2
          obtain ⟨wx14, hwx⟩ : ∃ x, x = wc := ⟨wc, rfl⟩
          subst hwx
          have HP14 := Lib.hid ((HP13.out.below hb HP13.out.lt))
          have HQ14 := Lib.hid ((HQ13.out.below hb HQ13.out.lt))
          have HA14 := Lib.hid ((HA13.out.below hb HA13.out.lt))
          have HM14 := Lib.hid ((HM13.out.below hb HM13.out.lt))
          have HL14 := Lib.hid ((HL13.out.below hb HL13.out.lt))
          have HG14 := Lib.hid ((HG13.out.below hb HG13.out.lt))
          have HB14 := Lib.hid ((HB13.out.trans (hb.mono HB13.out.size)))
          clear hb HP13 HQ13 HA13 HM13 HL13 HG13 HB13
          generalize lenN s3 = ln at *
          have ac0 := HA14.out.cell 0
          have ac1 := HA14.out.cell 1
          have ac2 := HA14.out.cell 2
          simp at ac0 ac1 ac2
          go_upto_region 14 with fail
          go_cut [21] (fun s21 wx => s21 = .int .i64 mF ∧ Below wx14.heap.size wx14 wx)
          case first =>
            as_aux_lemma =>
              have hW1 : ∀ wx, Calls Tryd.prog 10 #[.bool true, .int .i64 1] wx fun e w'' => e = .returned (.int .i64 1) ∧ wx = w'' := fun wx => when_any true 1 wx
              have hW0 : ∀ wx, Calls Tryd.prog 10 #[.bool false, .int .i64 1] wx fun e w'' => e = .returned (.int .i64 0) ∧ wx = w'' := fun wx => when_any false 1 wx
              have hW0' : ¬ nn < 0 → ¬ nn > (ln : Int) → ∀ wx, Calls Tryd.prog 10 #[.bool (decide (nn < 0) || decide ((ln : Int) < nn)), .int .i64 1] wx fun e w'' => e = .returned (.int .i64 0) ∧ wx = w'' := fun a b wx => by
                rw [decide_eq_false a, decide_eq_false (show ¬ (ln : Int) < nn by omega)]; exact when_any false 1 wx
              have HW0 := Lib.hid hW0'
              clear hW0' hW0
              have hcase : nn < 0 ∨ (¬ nn < 0 ∧ nn > (ln : Int)) ∨ (¬ nn < 0 ∧ ¬ nn > (ln : Int)) := by omega
              rcases hcase with h0 | ⟨h0, h1⟩ | ⟨h0, h1⟩
              · have Hval : Hid (firstE [af, 1] = mF) := Lib.hid (by have h := HE1.out; rw [if_pos (by unfold outB; rw [decide_eq_true h0]; rfl)] at h; exact h)
                skip
                go_wp2_with fail
                refine (HAF.out _).mono ?_
                rintro e wa ⟨rfl, hwa⟩
                have hba : Below wx14.heap.size wx14 wa := by obtain ⟨o, ho⟩ := hwa; rw [ho]; exact below_alloc (Below.refl _ _) _
                clear hwa
                go_wp2_with fail
                refine (hW1 wa).mono ?_
                rintro e wb ⟨rfl, rfl⟩
                go_wp2_with fail
                refine (errs_any wa.heap.size 2 2 [af, 1] _ (rdInts_new wa _ [af, 1] _ rfl) (by omega)).mono ?_
                rintro e wb ⟨rfl, hwe⟩
                have hb2 : Below wx14.heap.size wx14 wb := by rw [hwe]; exact below_alloc hba _
                clear hwe hba
                rw [Hval.out]
                go_wp2_with fail
                go_meet
                case rel => exact ⟨rfl, hb2⟩
              · have Hval : Hid (firstE [af, 1] = mF) := Lib.hid (by have h := HE1.out; rw [if_pos (by unfold outB; rw [decide_eq_true (show (ln : Int) < nn by omega)]; simp)] at h; exact h)
                skip
                go_wp2_with fail
                refine (HAF.out _).mono ?_
                rintro e wa ⟨rfl, hwa⟩
                have hba : Below wx14.heap.size wx14 wa := by obtain ⟨o, ho⟩ := hwa; rw [ho]; exact below_alloc (Below.refl _ _) _
                clear hwa
                go_wp2_with fail
                refine (hW1 wa).mono ?_
                rintro e wb ⟨rfl, rfl⟩
                go_wp2_with fail
                refine (errs_any wa.heap.size 2 2 [af, 1] _ (rdInts_new wa _ [af, 1] _ rfl) (by omega)).mono ?_
                rintro e wb ⟨rfl, hwe⟩
                have hb2 : Below wx14.heap.size wx14 wb := by rw [hwe]; exact below_alloc hba _
                clear hwe hba
                rw [Hval.out]
                go_wp2_with fail
                go_meet
                case rel => exact ⟨rfl, hb2⟩
              · have Hval : Hid (firstE [af, 0] = mF) := Lib.hid (by have h := HE1.out; rw [if_neg (by unfold outB; rw [decide_eq_false h0, decide_eq_false (show ¬ (ln : Int) < nn by omega)]; decide)] at h; exact h)
                skip
                go_wp2_with fail
                refine (HAF.out _).mono ?_
                rintro e wa ⟨rfl, hwa⟩
                have hba : Below wx14.heap.size wx14 wa := by obtain ⟨o, ho⟩ := hwa; rw [ho]; exact below_alloc (Below.refl _ _) _
                clear hwa
                go_wp2_with fail
                refine (HW0.out h0 h1 wa).mono ?_
                rintro e wb ⟨rfl, rfl⟩
                go_wp2_with fail
                refine (errs_any wa.heap.size 2 2 [af, 0] _ (rdInts_new wa _ [af, 0] _ rfl) (by omega)).mono ?_
                rintro e wb ⟨rfl, hwe⟩
                have hb2 : Below wx14.heap.size wx14 wb := by rw [hwe]; exact below_alloc hba _
                clear hwe hba
                rw [Hval.out]
                go_wp2_with fail
                go_meet
                case rel => exact ⟨rfl, hb2⟩
          case rest =>
            as_aux_lemma =>
              obtain ⟨rfl, hb⟩ := hcut
              clear HE1 ac0 ac1 ac2
              obtain ⟨wx15, hwx⟩ : ∃ x, x = wc := ⟨wc, rfl⟩
              subst hwx
              have HP15 := Lib.hid ((HP14.out.below hb HP14.out.lt))
              have HQ15 := Lib.hid ((HQ14.out.below hb HQ14.out.lt))
              have HA15 := Lib.hid ((HA14.out.below hb HA14.out.lt))
              have HM15 := Lib.hid ((HM14.out.below hb HM14.out.lt))
              have HL15 := Lib.hid ((HL14.out.below hb HL14.out.lt))
              have HG15 := Lib.hid ((HG14.out.below hb HG14.out.lt))
              have HB15 := Lib.hid ((HB14.out.trans (hb.mono HB14.out.size)))
              clear hb HP14 HQ14 HA14 HM14 HL14 HG14 HB14
              have pc0 := HP15.out.cell 0
              have pc1 := HP15.out.cell 1
              have pc2 := HP15.out.cell 2
              have pc3 := HP15.out.cell 3
              simp at pc0 pc1 pc2 pc3
              have qc0 := HQ15.out.cell 0
              have qc1 := HQ15.out.cell 1
              have qc2 := HQ15.out.cell 2
              have qc3 := HQ15.out.cell 3
              simp at qc0 qc1 qc2 qc3
              go_upto_region 15 with fail
              go_cut [22] (fun s22 wx => s22 = .int .i64 gF ∧ Below wx15.heap.size wx15 wx)
              case first =>
                as_aux_lemma =>
                  have hW10 : ∀ wx, Calls Tryd.prog 10 #[.bool true, .int .i64 10] wx fun e w'' => e = .returned (.int .i64 10) ∧ wx = w'' := fun wx => when_any true 10 wx
                  have hW0 : ∀ wx, Calls Tryd.prog 10 #[.bool false, .int .i64 10] wx fun e w'' => e = .returned (.int .i64 0) ∧ wx = w'' := fun wx => when_any false 10 wx
                  clear HAF HCP HMK HLK HCK HIK HGK HG0 HE2
                  cases six <;> cases s2
                  · have Hval : Hid (firstE [bo, 0] = gF) := Lib.hid HE3.out
                    clear HE3
                    go_wp2_with fail
                    refine (hW0 _).mono ?_
                    rintro e wb ⟨rfl, rfl⟩
                    go_wp2_with fail
                    refine (errs_any _ 2 2 [bo, 0] _ (rdInts_new wx15 _ [bo, 0] _ rfl) (by omega)).mono ?_
                    rintro e wb ⟨rfl, hwe⟩
                    have hb2 : Below wx15.heap.size wx15 wb := by rw [hwe]; exact below_alloc (Below.refl _ _) _
                    clear hwe
                    rw [Hval.out]
                    go_wp2_with fail
                    go_meet
                    case rel => exact ⟨rfl, hb2⟩
                  · have Hval : Hid (firstE [bo, 10] = gF) := Lib.hid HE3.out
                    clear HE3
                    go_wp2_with fail
                    refine (hW10 _).mono ?_
                    rintro e wb ⟨rfl, rfl⟩
                    go_wp2_with fail
                    refine (errs_any _ 2 2 [bo, 10] _ (rdInts_new wx15 _ [bo, 10] _ rfl) (by omega)).mono ?_
                    rintro e wb ⟨rfl, hwe⟩
                    have hb2 : Below wx15.heap.size wx15 wb := by rw [hwe]; exact below_alloc (Below.refl _ _) _
                    clear hwe
                    rw [Hval.out]
                    go_wp2_with fail
                    go_meet
                    case rel => exact ⟨rfl, hb2⟩
                  · have Hval : Hid (firstE [bo, 10] = gF) := Lib.hid HE3.out
                    clear HE3
                    go_wp2_with fail
                    refine (hW10 _).mono ?_
                    rintro e wb ⟨rfl, rfl⟩
                    go_wp2_with fail
                    refine (errs_any _ 2 2 [bo, 10] _ (rdInts_new wx15 _ [bo, 10] _ rfl) (by omega)).mono ?_
                    rintro e wb ⟨rfl, hwe⟩
                    have hb2 : Below wx15.heap.size wx15 wb := by rw [hwe]; exact below_alloc (Below.refl _ _) _
                    clear hwe
                    rw [Hval.out]
                    go_wp2_with fail
                    go_meet
                    case rel => exact ⟨rfl, hb2⟩
                  · have Hval : Hid (firstE [bo, 0] = gF) := Lib.hid HE3.out
                    clear HE3
                    go_wp2_with fail
                    refine (hW0 _).mono ?_
                    rintro e wb ⟨rfl, rfl⟩
                    go_wp2_with fail
                    refine (errs_any _ 2 2 [bo, 0] _ (rdInts_new wx15 _ [bo, 0] _ rfl) (by omega)).mono ?_
                    rintro e wb ⟨rfl, hwe⟩
                    have hb2 : Below wx15.heap.size wx15 wb := by rw [hwe]; exact below_alloc (Below.refl _ _) _
                    clear hwe
                    rw [Hval.out]
                    go_wp2_with fail
                    go_meet
                    case rel => exact ⟨rfl, hb2⟩
              case rest =>
                as_aux_lemma =>
                  obtain ⟨rfl, hb⟩ := hcut
                  clear HE3 pc0 pc1 pc2 pc3 qc0 qc1 qc2 qc3
                  obtain ⟨wx16, hwx⟩ : ∃ x, x = wc := ⟨wc, rfl⟩
                  subst hwx
                  have HP16 := Lib.hid ((HP15.out.below hb HP15.out.lt))
                  have HQ16 := Lib.hid ((HQ15.out.below hb HQ15.out.lt))
                  have HA16 := Lib.hid ((HA15.out.below hb HA15.out.lt))
                  have HM16 := Lib.hid ((HM15.out.below hb HM15.out.lt))
                  have HL16 := Lib.hid ((HL15.out.below hb HL15.out.lt))
                  have HG16 := Lib.hid ((HG15.out.below hb HG15.out.lt))
                  have HB16 := Lib.hid ((HB15.out.trans (hb.mono HB15.out.size)))
                  clear hb HP15 HQ15 HA15 HM15 HL15 HG15 HB15
                  have pc0 := HP16.out.cell 0
                  have pc1 := HP16.out.cell 1
                  have pc2 := HP16.out.cell 2
                  have pc3 := HP16.out.cell 3
                  simp at pc0 pc1 pc2 pc3
                  have ac0 := HA16.out.cell 0
                  have ac1 := HA16.out.cell 1
                  have ac2 := HA16.out.cell 2
                  simp at ac0 ac1 ac2
                  go_upto_region 16 with fail
                  go_cut [140] (fun s140 wx => s140 = .bool false ∧ Below wx16.heap.size wx16 wx)
                  case first =>
                    as_aux_lemma =>
                      have n1 : (pf != pf) = false := by simp
                      have n2 : (mF != mF) = false := by simp
                      have n3 : (cF != cF) = false := by simp
                      have n4 : (bo != bo) = false := by simp
                      have n5 : (gF != gF) = false := by simp
                      clear HMK HLK HCK HIK HGK HG0
                      have hA3 := HA16.out
                      have HA3 := Lib.hid hA3
                      clear hA3
                      go_wp2_with fail
                      refine (HCP.out _).mono ?_
                      rintro e wa ⟨rfl, hba⟩
                      have HAa := Lib.hid (HA3.out.below hba HA3.out.lt)
                      clear pc0 pc1 pc2 pc3 ac0 ac1 ac2
                      have ac0 := HAa.out.cell 0
                      have ac1 := HAa.out.cell 1
                      have ac2 := HAa.out.cell 2
                      simp at ac0 ac1 ac2
                      go_wp2_with fail
                      refine (HAF.out _).mono ?_
                      rintro e wb ⟨rfl, hwa⟩
                      have hbb : Below wx16.heap.size wx16 wb := by obtain ⟨o, ho⟩ := hwa; rw [ho]; exact below_alloc hba _
                      clear hwa hba
                      go_wp2_with fail
                      refine (errs_any wb.heap.size 2 2 [pf, af] _ (rdInts_new wb _ [pf, af] _ rfl) (by omega)).mono ?_
                      rintro e wd ⟨rfl, hwe⟩
                      have hb2 : Below wx16.heap.size wx16 wd := by rw [hwe]; exact below_alloc hbb _
                      clear hwe hbb
                      rw [HE2.out]
                      go_wp2_with fail
                      go_meet
                      case rel => exact ⟨rfl, hb2⟩
                  case rest =>
                    as_aux_lemma =>
                      obtain ⟨rfl, hb⟩ := hcut
                      clear HE2 HAF HCP pc0 pc1 pc2 pc3 ac0 ac1 ac2
                      obtain ⟨wx17, hwx⟩ : ∃ x, x = wc := ⟨wc, rfl⟩
                      subst hwx
                      have HP17 := Lib.hid ((HP16.out.below hb HP16.out.lt))
                      have HQ17 := Lib.hid ((HQ16.out.below hb HQ16.out.lt))
                      have HA17 := Lib.hid ((HA16.out.below hb HA16.out.lt))
                      have HM17 := Lib.hid ((HM16.out.below hb HM16.out.lt))
                      have HL17 := Lib.hid ((HL16.out.below hb HL16.out.lt))
                      have HG17 := Lib.hid ((HG16.out.below hb HG16.out.lt))
                      have HB17 := Lib.hid ((HB16.out.trans (hb.mono HB16.out.size)))
                      clear hb HP16 HQ16 HA16 HM16 HL16 HG16 HB16
                      have pc0 := HP17.out.cell 0
                      have pc1 := HP17.out.cell 1
                      have pc2 := HP17.out.cell 2
                      have pc3 := HP17.out.cell 3
                      simp at pc0 pc1 pc2 pc3
                      have qc0 := HQ17.out.cell 0
                      have qc1 := HQ17.out.cell 1
                      have qc2 := HQ17.out.cell 2
                      have qc3 := HQ17.out.cell 3
                      simp at qc0 qc1 qc2 qc3
                      have ac0 := HA17.out.cell 0
                      have ac1 := HA17.out.cell 1
                      have ac2 := HA17.out.cell 2
                      simp at ac0 ac1 ac2
                      have mc0 := HM17.out.cell 0
                      have mc1 := HM17.out.cell 1
                      have mc2 := HM17.out.cell 2
                      have mc3 := HM17.out.cell 3
                      simp at mc0 mc1 mc2 mc3
                      have lc0 := HL17.out.cell 0
                      have lc1 := HL17.out.cell 1
                      have lc2 := HL17.out.cell 2
                      simp at lc0 lc1 lc2
                      go_upto_region 18 with fail
                      go_cut [181] (fun s181 wx => s181 = .bool false ∧ Below wx17.heap.size wx17 wx)
                      case first =>
                        as_aux_lemma =>
                          have lp0 := Later.cell_of pc0
                          have lp1 := Later.cell_of pc1
                          have lp2 := Later.cell_of pc2
                          have lp3 := Later.cell_of pc3
                          have lq0 := Later.cell_of qc0
                          have lq1 := Later.cell_of qc1
                          have lq2 := Later.cell_of qc2
                          have lq3 := Later.cell_of qc3
                          have la0 := Later.cell_of ac0
                          have la1 := Later.cell_of ac1
                          have la2 := Later.cell_of ac2
                          have lm0 := Later.cell_of mc0
                          have lm1 := Later.cell_of mc1
                          have lm2 := Later.cell_of mc2
                          have lm3 := Later.cell_of mc3
                          have ll0 := Later.cell_of lc0
                          have ll1 := Later.cell_of lc1
                          have ll2 := Later.cell_of lc2
                          have hN := fun w => pfx_neq ms ms mh mh ml ml mb mb w
                          rw [show (!decide (((ms, mh, ml, mb) : Bool × Int × Int × Int) = (ms, mh, ml, mb))) = false by simp] at hN
                          have hNA := fun w => addr_neq ls ls lh lh ll ll w
                          rw [show (!decide (((ls, lh, ll) : Bool × Int × Int) = (ls, lh, ll))) = false by simp] at hNA
                          have hgd := pfx_guard .neq
                          have hgda := addr_guard .neq
                          have n1 : (cR != cR) = false := by simp
                          have n2 : (iR != iR) = false := by simp
                          clear pc0 pc1 pc2 pc3 qc0 qc1 qc2 qc3 ac0 ac1 ac2 mc0 mc1 mc2 mc3 lc0 lc1 lc2 HGK HG0
                          by_cases hm : mF = 0
                          · by_cases ho : pf = 0
                            · by_cases hc : cF = 0
                              · by_cases hb : bo = 0
                                · as_aux_lemma =>
                                    have hMKc' := HMK.out hm
                                    have hMKc := fun n : Later wx17 => Calls.later n (hMKc' n.1)
                                    clear hMKc'
                                    have hLKc' := HLK.out ho
                                    have hLKc := fun n : Later wx17 => Calls.later n (hLKc' n.1)
                                    clear hLKc'
                                    have hCKc' := HCK.out hc
                                    have hCKc := fun n : Later wx17 => Calls.later n (hCKc' n.1)
                                    clear hCKc'
                                    have hIKc' := HIK.out hb
                                    have hIKc := fun n : Later wx17 => Calls.later n (hIKc' n.1)
                                    clear hIKc'
                                    clear HMK HLK HCK HIK HO2 HO4
                                    subst hm
                                    subst ho
                                    subst hc
                                    subst hb
                                    refine wp_region_later (by kernel_rfl) (by kernel_rfl) ?_
                                    repeat (go_big_quiet_step (first | (go_at_call 25; exact hMKc _) | (go_at_call 33; exact hLKc _) | (go_at_call 34; exact hCKc _) | (go_at_call 35; exact hIKc _)))
                                    refine wpQuiet_nil ?_
                                    rintro wz ⟨n6, hn6⟩
                                    have hb6 : Below wx17.heap.size wx17 wz := by rw [hn6]; exact n6.2
                                    clear hn6 n6
                                    go_wp2_with fail
                                    go_meet
                                    case rel => exact ⟨rfl, hb6⟩
                                · as_aux_lemma =>
                                    have hMKc' := HMK.out hm
                                    have hMKc := fun n : Later wx17 => Calls.later n (hMKc' n.1)
                                    clear hMKc'
                                    have hLKc' := HLK.out ho
                                    have hLKc := fun n : Later wx17 => Calls.later n (hLKc' n.1)
                                    clear hLKc'
                                    have hCKc' := HCK.out hc
                                    have hCKc := fun n : Later wx17 => Calls.later n (hCKc' n.1)
                                    clear hCKc'
                                    clear HMK HLK HCK HIK HO2 HO4
                                    subst hm
                                    subst ho
                                    subst hc
                                    have zbo : (bo == 0) = false := by simpa using hb
                                    have dbo : decide (bo = 0) = false := decide_eq_false hb
                                    refine wp_region_later (by kernel_rfl) (by kernel_rfl) ?_
                                    repeat (go_big_quiet_step (first | (go_at_call 25; exact hMKc _) | (go_at_call 33; exact hLKc _) | (go_at_call 34; exact hCKc _)))
                                    refine wpQuiet_nil ?_
                                    rintro wz ⟨n6, hn6⟩
                                    have hb6 : Below wx17.heap.size wx17 wz := by rw [hn6]; exact n6.2
                                    clear hn6 n6
                                    go_wp2_with fail
                                    go_meet
                                    case rel => exact ⟨rfl, hb6⟩
                              · by_cases hb : bo = 0
                                · as_aux_lemma =>
                                    have hMKc' := HMK.out hm
                                    have hMKc := fun n : Later wx17 => Calls.later n (hMKc' n.1)
                                    clear hMKc'
                                    have hLKc' := HLK.out ho
                                    have hLKc := fun n : Later wx17 => Calls.later n (hLKc' n.1)
                                    clear hLKc'
                                    have hIKc' := HIK.out hb
                                    have hIKc := fun n : Later wx17 => Calls.later n (hIKc' n.1)
                                    clear hIKc'
                                    clear HMK HLK HCK HIK HO2 HO4
                                    subst hm
                                    subst ho
                                    have zcF : (cF == 0) = false := by simpa using hc
                                    have dcF : decide (cF = 0) = false := decide_eq_false hc
                                    subst hb
                                    refine wp_region_later (by kernel_rfl) (by kernel_rfl) ?_
                                    repeat (go_big_quiet_step (first | (go_at_call 25; exact hMKc _) | (go_at_call 33; exact hLKc _) | (go_at_call 35; exact hIKc _)))
                                    refine wpQuiet_nil ?_
                                    rintro wz ⟨n6, hn6⟩
                                    have hb6 : Below wx17.heap.size wx17 wz := by rw [hn6]; exact n6.2
                                    clear hn6 n6
                                    go_wp2_with fail
                                    go_meet
                                    case rel => exact ⟨rfl, hb6⟩
                                · as_aux_lemma =>
                                    have hMKc' := HMK.out hm
                                    have hMKc := fun n : Later wx17 => Calls.later n (hMKc' n.1)
                                    clear hMKc'
                                    have hLKc' := HLK.out ho
                                    have hLKc := fun n : Later wx17 => Calls.later n (hLKc' n.1)
                                    clear hLKc'
                                    clear HMK HLK HCK HIK HO2 HO4
                                    subst hm
                                    subst ho
                                    have zcF : (cF == 0) = false := by simpa using hc
                                    have dcF : decide (cF = 0) = false := decide_eq_false hc
                                    have zbo : (bo == 0) = false := by simpa using hb
                                    have dbo : decide (bo = 0) = false := decide_eq_false hb
                                    refine wp_region_later (by kernel_rfl) (by kernel_rfl) ?_
                                    repeat (go_big_quiet_step (first | (go_at_call 25; exact hMKc _) | (go_at_call 33; exact hLKc _)))
                                    refine wpQuiet_nil ?_
                                    rintro wz ⟨n6, hn6⟩
                                    have hb6 : Below wx17.heap.size wx17 wz := by rw [hn6]; exact n6.2
                                    clear hn6 n6
                                    go_wp2_with fail
                                    go_meet
                                    case rel => exact ⟨rfl, hb6⟩
                            · have hc : ¬ cF = 0 := fun h => ho (HO2.out h)
                              have hb : ¬ bo = 0 := fun h => ho (HO4.out h)
                              as_aux_lemma =>
                                have hMKc' := HMK.out hm
                                have hMKc := fun n : Later wx17 => Calls.later n (hMKc' n.1)
                                clear hMKc'
                                clear HMK HLK HCK HIK HO2 HO4
                                subst hm
                                have zpf : (pf == 0) = false := by simpa using ho
                                have dpf : decide (pf = 0) = false := decide_eq_false ho
                                have zcF : (cF == 0) = false := by simpa using hc
                                have dcF : decide (cF = 0) = false := decide_eq_false hc
                                have zbo : (bo == 0) = false := by simpa using hb
                                have dbo : decide (bo = 0) = false := decide_eq_false hb
                                refine wp_region_later (by kernel_rfl) (by kernel_rfl) ?_
                                repeat (go_big_quiet_step (((go_at_call 25; exact hMKc _))))
                                refine wpQuiet_nil ?_
                                rintro wz ⟨n6, hn6⟩
                                have hb6 : Below wx17.heap.size wx17 wz := by rw [hn6]; exact n6.2
                                clear hn6 n6
                                go_wp2_with fail
                                go_meet
                                case rel => exact ⟨rfl, hb6⟩
                          · by_cases ho : pf = 0
                            · by_cases hc : cF = 0
                              · by_cases hb : bo = 0
                                · as_aux_lemma =>
                                    have hLKc' := HLK.out ho
                                    have hLKc := fun n : Later wx17 => Calls.later n (hLKc' n.1)
                                    clear hLKc'
                                    have hCKc' := HCK.out hc
                                    have hCKc := fun n : Later wx17 => Calls.later n (hCKc' n.1)
                                    clear hCKc'
                                    have hIKc' := HIK.out hb
                                    have hIKc := fun n : Later wx17 => Calls.later n (hIKc' n.1)
                                    clear hIKc'
                                    clear HMK HLK HCK HIK HO2 HO4
                                    have zmF : (mF == 0) = false := by simpa using hm
                                    have dmF : decide (mF = 0) = false := decide_eq_false hm
                                    subst ho
                                    subst hc
                                    subst hb
                                    refine wp_region_later (by kernel_rfl) (by kernel_rfl) ?_
                                    repeat (go_big_quiet_step (first | (go_at_call 33; exact hLKc _) | (go_at_call 34; exact hCKc _) | (go_at_call 35; exact hIKc _)))
                                    refine wpQuiet_nil ?_
                                    rintro wz ⟨n6, hn6⟩
                                    have hb6 : Below wx17.heap.size wx17 wz := by rw [hn6]; exact n6.2
                                    clear hn6 n6
                                    go_wp2_with fail
                                    go_meet
                                    case rel => exact ⟨rfl, hb6⟩
                                · as_aux_lemma =>
                                    have hLKc' := HLK.out ho
                                    have hLKc := fun n : Later wx17 => Calls.later n (hLKc' n.1)
                                    clear hLKc'
                                    have hCKc' := HCK.out hc
                                    have hCKc := fun n : Later wx17 => Calls.later n (hCKc' n.1)
                                    clear hCKc'
                                    clear HMK HLK HCK HIK HO2 HO4
                                    have zmF : (mF == 0) = false := by simpa using hm
                                    have dmF : decide (mF = 0) = false := decide_eq_false hm
                                    subst ho
                                    subst hc
                                    have zbo : (bo == 0) = false := by simpa using hb
                                    have dbo : decide (bo = 0) = false := decide_eq_false hb
                                    refine wp_region_later (by kernel_rfl) (by kernel_rfl) ?_
                                    repeat (go_big_quiet_step (first | (go_at_call 33; exact hLKc _) | (go_at_call 34; exact hCKc _)))
                                    refine wpQuiet_nil ?_
                                    rintro wz ⟨n6, hn6⟩
                                    have hb6 : Below wx17.heap.size wx17 wz := by rw [hn6]; exact n6.2
                                    clear hn6 n6
                                    go_wp2_with fail
                                    go_meet
                                    case rel => exact ⟨rfl, hb6⟩
                              · by_cases hb : bo = 0
                                · as_aux_lemma =>
                                    have hLKc' := HLK.out ho
                                    have hLKc := fun n : Later wx17 => Calls.later n (hLKc' n.1)
                                    clear hLKc'
                                    have hIKc' := HIK.out hb
                                    have hIKc := fun n : Later wx17 => Calls.later n (hIKc' n.1)
                                    clear hIKc'
                                    clear HMK HLK HCK HIK HO2 HO4
                                    have zmF : (mF == 0) = false := by simpa using hm
                                    have dmF : decide (mF = 0) = false := decide_eq_false hm
                                    subst ho
                                    have zcF : (cF == 0) = false := by simpa using hc
                                    have dcF : decide (cF = 0) = false := decide_eq_false hc
                                    subst hb
                                    refine wp_region_later (by kernel_rfl) (by kernel_rfl) ?_
                                    repeat (go_big_quiet_step (first | (go_at_call 33; exact hLKc _) | (go_at_call 35; exact hIKc _)))
                                    refine wpQuiet_nil ?_
                                    rintro wz ⟨n6, hn6⟩
                                    have hb6 : Below wx17.heap.size wx17 wz := by rw [hn6]; exact n6.2
                                    clear hn6 n6
                                    go_wp2_with fail
                                    go_meet
                                    case rel => exact ⟨rfl, hb6⟩
                                · as_aux_lemma =>
                                    have hLKc' := HLK.out ho
                                    have hLKc := fun n : Later wx17 => Calls.later n (hLKc' n.1)
                                    clear hLKc'
                                    clear HMK HLK HCK HIK HO2 HO4
                                    have zmF : (mF == 0) = false := by simpa using hm
                                    have dmF : decide (mF = 0) = false := decide_eq_false hm
                                    subst ho
                                    have zcF : (cF == 0) = false := by simpa using hc
                                    have dcF : decide (cF = 0) = false := decide_eq_false hc
                                    have zbo : (bo == 0) = false := by simpa using hb
                                    have dbo : decide (bo = 0) = false := decide_eq_false hb
                                    refine wp_region_later (by kernel_rfl) (by kernel_rfl) ?_
                                    repeat (go_big_quiet_step (((go_at_call 33; exact hLKc _))))
                                    refine wpQuiet_nil ?_
                                    rintro wz ⟨n6, hn6⟩
                                    have hb6 : Below wx17.heap.size wx17 wz := by rw [hn6]; exact n6.2
                                    clear hn6 n6
                                    go_wp2_with fail
                                    go_meet
                                    case rel => exact ⟨rfl, hb6⟩
                            · have hc : ¬ cF = 0 := fun h => ho (HO2.out h)
                              have hb : ¬ bo = 0 := fun h => ho (HO4.out h)
                              as_aux_lemma =>
                                clear HMK HLK HCK HIK HO2 HO4
                                have zmF : (mF == 0) = false := by simpa using hm
                                have dmF : decide (mF = 0) = false := decide_eq_false hm
                                have zpf : (pf == 0) = false := by simpa using ho
                                have dpf : decide (pf = 0) = false := decide_eq_false ho
                                have zcF : (cF == 0) = false := by simpa using hc
                                have dcF : decide (cF = 0) = false := decide_eq_false hc
                                have zbo : (bo == 0) = false := by simpa using hb
                                have dbo : decide (bo = 0) = false := decide_eq_false hb
                                refine wp_region_later (by kernel_rfl) (by kernel_rfl) ?_
                                repeat (go_big_quiet_step (fail))
                                refine wpQuiet_nil ?_
                                rintro wz ⟨n6, hn6⟩
                                have hb6 : Below wx17.heap.size wx17 wz := by rw [hn6]; exact n6.2
                                clear hn6 n6
                                go_wp2_with fail
                                go_meet
                                case rel => exact ⟨rfl, hb6⟩
                      case rest =>
                        as_aux_lemma =>
                          obtain ⟨rfl, hb⟩ := hcut
                          clear HMK HLK HCK HIK pc0 pc1 pc2 pc3 qc0 qc1 qc2 qc3 ac0 ac1 ac2 mc0 mc1 mc2 mc3 lc0 lc1 lc2
                          obtain ⟨wx18, hwx⟩ : ∃ x, x = wc := ⟨wc, rfl⟩
                          subst hwx
                          have HP18 := Lib.hid ((HP17.out.below hb HP17.out.lt))
                          have HQ18 := Lib.hid ((HQ17.out.below hb HQ17.out.lt))
                          have HA18 := Lib.hid ((HA17.out.below hb HA17.out.lt))
                          have HM18 := Lib.hid ((HM17.out.below hb HM17.out.lt))
                          have HL18 := Lib.hid ((HL17.out.below hb HL17.out.lt))
                          have HG18 := Lib.hid ((HG17.out.below hb HG17.out.lt))
                          have HB18 := Lib.hid ((HB17.out.trans (hb.mono HB17.out.size)))
                          clear hb HP17 HQ17 HA17 HM17 HL17 HG17 HB17
                          have pc0 := HP18.out.cell 0
                          have pc1 := HP18.out.cell 1
                          have pc2 := HP18.out.cell 2
                          have pc3 := HP18.out.cell 3
                          simp at pc0 pc1 pc2 pc3
                          have qc0 := HQ18.out.cell 0
                          have qc1 := HQ18.out.cell 1
                          have qc2 := HQ18.out.cell 2
                          have qc3 := HQ18.out.cell 3
                          simp at qc0 qc1 qc2 qc3
                          have gc0 := HG18.out.cell 0
                          have gc1 := HG18.out.cell 1
                          have gc2 := HG18.out.cell 2
                          have gc3 := HG18.out.cell 3
                          simp at gc0 gc1 gc2 gc3
                          go_upto_region 20 with fail
                          have lp0 := Later.cell_of pc0
                          have lp1 := Later.cell_of pc1
                          have lp2 := Later.cell_of pc2
                          have lp3 := Later.cell_of pc3
                          have lq0 := Later.cell_of qc0
                          have lq1 := Later.cell_of qc1
                          have lq2 := Later.cell_of qc2
                          have lq3 := Later.cell_of qc3
                          have lg0 := Later.cell_of gc0
                          have lg1 := Later.cell_of gc1
                          have lg2 := Later.cell_of gc2
                          have lg3 := Later.cell_of gc3
                          have hAd := fun n : Later wx18 => Calls.later n (addressed_any n.1)
                          have hgd := pfx_guard .eql
                          by_cases hg : gF = 0
                          · as_aux_lemma =>
                              have hGK' := HGK.out hg
                              have hGKc := fun n : Later wx18 => Calls.later n (hGK' n.1)
                              clear hGK' HGK HG0
                              have hE := fun w => pfx_eql gs gs gh gh gl gl gb gb w
                              rw [decide_eq_true (rfl : ((gs, gh, gl, gb) : Bool × Int × Int × Int) = (gs, gh, gl, gb))] at hE
                              subst hg
                              clear pc0 pc1 pc2 pc3 qc0 qc1 qc2 qc3 gc0 gc1 gc2 gc3
                              refine wp_region_later (by kernel_rfl) (by kernel_rfl) ?_
                              repeat (go_big_quiet_step (first | (go_at_call 36; exact hGKc _) | (go_at_call 16; exact hAd _)))
                              refine wpQuiet_nil ?_
                              rintro wz ⟨n6, hn6⟩
                              have hb6 : Below wx18.heap.size wx18 wz := by rw [hn6]; exact n6.2
                              clear hn6 n6
                              have HBz := Lib.hid (HB18.out.trans (hb6.mono HB18.out.size))
                              clear hb6
                              go_wp2_with fail
                              go_ret
                              exact ⟨rfl, HBz.out⟩
                          · as_aux_lemma =>
                              obtain ⟨rfl, rfl, rfl, rfl⟩ := HG0.out hg
                              have hE := fun w => pfx_eql false false 0 0 0 0 0 0 w
                              rw [decide_eq_true (rfl : ((false, (0 : Int), (0 : Int), (0 : Int)) : Bool × Int × Int × Int) = (false, 0, 0, 0))] at hE
                              have z1 : (gF == 0) = false := by simpa using hg
                              have z2 : (gF != 0) = true := by simpa using hg
                              have z3 : decide (gF = 0) = false := decide_eq_false hg
                              clear HGK HG0 pc0 pc1 pc2 pc3 qc0 qc1 qc2 qc3 gc0 gc1 gc2 gc3
                              refine wp_region_later (by kernel_rfl) (by kernel_rfl) ?_
                              repeat (go_big_quiet_step ((go_at_call 16; exact hAd _)))
                              refine wpQuiet_nil ?_
                              rintro wz ⟨n6, hn6⟩
                              have hb6 : Below wx18.heap.size wx18 wz := by rw [hn6]; exact n6.2
                              clear hn6 n6
                              have HBz := Lib.hid (HB18.out.trans (hb6.mono HB18.out.size))
                              clear hb6
                              go_wp2_with fail
                              go_ret
                              exact ⟨rfl, HBz.out⟩
end Go.Proofs.YtaamonhhclffcaaDoor
