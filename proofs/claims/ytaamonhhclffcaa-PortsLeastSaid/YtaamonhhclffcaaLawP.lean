/-
  The law PortsLeast is true for every slice of ints.
-/
import Derived.Test.YtaamonhhclffcaaFLeast
import Derived.Test.YtaamonhhclffcaaPortGen
import Derived.Test.YtaamonhhclffcaaEqualP
import Derived.Test.YtaamonhhclffcaaPortsF
import Derived.Test.YtaamonhhclffcaaFilt
import Derived.Test.YtaamonhhclffcaaLawTurned
namespace Go.Proofs.Ytaamonhhclffcaa
open Go.RowKit Go
set_option linter.unusedVariables false

set_option maxRecDepth 100000 in
set_option maxHeartbeats 4000000 in
theorem law_PortsLeast (ad : Option Addr) (n c : Nat) (w : World) (h : LawArg w ad n) :
    Calls Try.prog 6 #[.slice ad n c] w (Ret (.bool true) w) := by
  have hS := LawArg.strm (c := c) h
  have HB0 : Hid (Below w.heap.size w (w.alloc (.cells #[.slice ad n c, .int .i64 0] 25 (0, 0)))) := Lib.hid (below_alloc (Below.refl _ _) _)
  have hblt : w.heap.size < (w.alloc (.cells #[.slice ad n c, .int .i64 0] 25 (0, 0))).heap.size := hS.lt
  have HS := Lib.hid hS
  clear h hS
  go_enter Try.func6, Try.ntmps6
  go_wp2_with fail
  generalize w.alloc (.cells #[.slice ad n c, .int .i64 0] 25 (0, 0)) = w0 at *
  obtain ⟨b, hbw⟩ : ∃ b, w.heap.size = b := ⟨_, rfl⟩
  have hbe := hbw
  rw [hbw] at hblt HS HB0 ⊢
  have Hbw := Lib.hid hbw
  clear hbw hbe
  refine (range_gen b 0 _ _ _ HS.out (by omega) (by omega) (by omega)).mono ?_
  rintro e w1 ⟨K0, rfl, ⟨hK0, hK1⟩, hg⟩
  obtain ⟨K, rfl⟩ := Int.eq_ofNat_of_zero_le hK0
  have hK5 : K ≤ 5 := by omega
  have HG1 : Hid (Gen b w0 w1 1) := Lib.hid hg
  clear hg hK0 hK1 HS
  go_wp2
  go_loopw [4, 13] (fun s i wr => ∃ (k : Nat) (L : List (Int × Int)), k ≤ K ∧ i = .int .i64 k ∧ Hid (OwnP wr w0.heap.size s L) ∧ Hid (L.length = k) ∧ Hid (Gen b w0 wr (1 + 3 * k))) (fun _ i _ => K - (intOf i).toNat)
  case atStart => exact ⟨0, [], Nat.zero_le _, rfl, Lib.hid (OwnP.nil _ _), Lib.hid rfl, HG1⟩
  case round =>
    obtain ⟨k, L, hk, rfl, HO, HL, HG⟩ := hrel
    by_cases hlt : k < K
    · go_wp2_with fail
      refine (portRange_gen b (1 + 3 * k) _ HG.out.s (by omega)).mono ?_
      rintro e w2 ⟨f, t, rfl, _, _, hg⟩
      have HO2 : Hid (OwnP w2 w0.heap.size u4 L) := Lib.hid (HO.out.gen hg hblt)
      have HG2 : Hid (Gen b w0 w2 (1 + 3 * (k + 1))) := Lib.hid ((HG.out.trans hg).mono (by omega))
      clear hg HO HG
      go_wp2_with (at_builtin; refine wpList_app portE rfl (.tmp 15) (.tmp 18) rfl rfl (World.ownsRow.alloc HO2.out _) rfl (src_two_new _ _ _ _) ?c1 ?c2 ?c3 ?c4 ?_)
      case c1 => first | exact ⟨rfl, rfl⟩ | (intro u hu; simp at hu; rcases hu with rfl | rfl <;> rfl)
      case c2 => have := HL.out; unfold maxLen; omega
      case c3 => have := HL.out; omega
      case c4 => have := HG2.out.g.size; simp; omega
      intro v' w' hO hG
      have HO' : Hid (OwnP w' w0.heap.size v' (L ++ [(f, t)])) := Lib.hid (OwnP.snoc (p := (f, t)) hO)
      have HG' : Hid (Gen b w0 w' (1 + 3 * (k + 1))) := Lib.hid (HG2.out.below (hG.allocFirst.below HG2.out.g.size (own_base HO2.out)) (Nat.le_refl _) hblt)
      clear hO hG HO2 HG2
      go_wp2
      exact ⟨⟨k + 1, L ++ [(f, t)], by omega, by go_num, HO', Lib.hid (by rw [List.length_append, HL.out]; rfl), HG'⟩, by simp [intOf]; omega⟩
    · obtain rfl : k = K := by omega
      go_wp2_with fail
      refine (flip_gen b (1 + 3 * k) _ _ HG.out.s (by omega) (by omega)).mono ?_
      rintro e w2 ⟨kk, rfl, hg⟩
      have HO2 : Hid (OwnP w2 w0.heap.size u4 L) := Lib.hid (HO.out.gen hg hblt)
      have HG2 : Hid (Gen b w0 w2 20) := Lib.hid ((HG.out.trans hg).mono (by omega))
      clear hg HO HG
      go_upto_if 22 with fail
      go_cut [4] (fun s wx => ∃ L : List (Int × Int), L.length ≤ 6 ∧ OwnP wx w0.heap.size s L ∧ Gen b w0 wx 30)
      case first =>
        cases kk
        · go_wp2_with fail
          go_meet
          case rel => exact ⟨L, by have := HL.out; omega, HO2.out, HG2.out.mono (by omega)⟩
        · go_wp2_with fail
          refine (odd_gen b 20 _ _ _ HG2.out.s (by omega) (by omega) (by omega)).mono ?_
          rintro e w3 ⟨x, rfl, _, hg⟩
          have HO3 : Hid (OwnP w3 w0.heap.size u4 L) := Lib.hid (HO2.out.gen hg hblt)
          have HG3 : Hid (Gen b w0 w3 22) := Lib.hid (HG2.out.trans hg)
          clear hg HO2 HG2
          go_wp2_with fail
          refine (odd_gen b 22 _ _ _ HG3.out.s (by omega) (by omega) (by omega)).mono ?_
          rintro e w4 ⟨y, rfl, _, hg⟩
          have HO4 : Hid (OwnP w4 w0.heap.size u4 L) := Lib.hid (HO3.out.gen hg hblt)
          have HG4 : Hid (Gen b w0 w4 24) := Lib.hid (HG3.out.trans hg)
          clear hg HO3 HG3
          go_wp2_with (at_builtin; refine wpList_app portE rfl (.tmp 23) (.tmp 29) rfl rfl (World.ownsRow.alloc HO4.out _) rfl (src_two_new _ _ _ _) ?c1 ?c2 ?c3 ?c4 ?_)
          case c1 => first | exact ⟨rfl, rfl⟩ | (intro u hu; simp at hu; rcases hu with rfl | rfl <;> rfl)
          case c2 => have := HL.out; unfold maxLen; omega
          case c3 => have := HL.out; omega
          case c4 => have := HG4.out.g.size; simp; omega
          intro v' w' hO hG
          have HO' : Hid (OwnP w' w0.heap.size v' (L ++ [(x, y)])) := Lib.hid (OwnP.snoc (p := (x, y)) hO)
          have HG' : Hid (Gen b w0 w' 24) := Lib.hid (HG4.out.below (hG.allocFirst.below HG4.out.g.size (own_base HO4.out)) (Nat.le_refl _) hblt)
          clear hO hG HO4 HG4
          go_wp2_with fail
          go_meet
          case rel => exact ⟨L ++ [(x, y)], by rw [List.length_append, HL.out]; simp; omega, HO'.out, HG'.out.mono (by omega)⟩
      case rest =>
        clear HO2 HG2 HL HG1
        obtain ⟨L, hL, hO, hG⟩ := hcut
        obtain ⟨ad1, c1, hv, _, _, _⟩ := hO.form
        have HR : Hid (RdP wc ad1 L) := Lib.hid (by rw [hv] at hO; exact hO.rd (by omega))
        obtain ⟨q, hq⟩ : ∃ q, L.length = q := ⟨_, rfl⟩
        rw [hq] at hL hv
        subst hv
        have HG := Lib.hid hG
        have Hq := Lib.hid hq
        have HO : Hid (OwnP wc w0.heap.size (.slice ad1 q c1) L) := Lib.hid hO
        clear hG hO hq
        go_wp2_with fail
        refine (fleast_any ad1 q c1 L _ HR.out Hq.out).mono ?_
        rintro e w3 ⟨hb3, ⟨ha, v, rfl, hO3⟩ | ⟨ha, rfl⟩⟩
        · have hz3 := HG.out.g.size
          have HR3 := Lib.hid (HR.out.below hb3)
          have HG3 : Hid (Gen b w0 w3 30) := Lib.hid (HG.out.below hb3 hz3 (by omega))
          have ha' := anyPorts ad1 q c1 L _ HR3.out Hq.out
          rw [ha] at ha'
          have Ha := Lib.hid ha'
          obtain ⟨hLN, hvN⟩ := natL_good (anyF_zero ha)
          have Hsh : Hid ((PI (scan (inRow (natL L)) 65536)).length ≤ 6) := Lib.hid (by
            have := scan_short (natL L) hvN
            rw [natL_len, Hq.out] at this
            rw [PI_len]; omega)
          have HLN := Lib.hid hLN
          have HvN := Lib.hid hvN
          have HnN : Hid ((natL L).length = q) := Lib.hid ((natL_len L).trans Hq.out)
          have HP : Hid (∀ wx, RdP wx ad1 L → Calls Try.prog 38 #[.slice ad1 q c1] wx fun e w' => ∃ v, e = .returned v ∧ OwnP w' wx.heap.size v (PI (scan (inRow (natL L)) 65536)) ∧ Below wx.heap.size wx w') := Lib.hid fun wx hR => leastPortsOf_any ad1 q c1 (natL L) wx (by rw [HLN.out]; exact hR) HnN.out HvN.out
          have HO3 := Lib.hid hO3
          generalize PI (scan (inRow (natL L)) 65536) = R at *
          obtain ⟨a2, c2, hv, _, _, _⟩ := HO3.out.form
          obtain ⟨r, hr⟩ : ∃ r, R.length = r := ⟨_, rfl⟩
          have HR3' : Hid (RdP w3 a2 R) := Lib.hid (by have := HO3.out; rw [hv] at this; exact this.rd (by have := Hsh.out; omega))
          rw [hr] at hv
          subst hv
          have Hr := Lib.hid hr
          have HB3 : Hid (Below wc.heap.size wc w3) := Lib.hid hb3
          clear hb3 ha ha' hLN hvN hO3 HO3 HR HG hr
          go_wp2_with fail
          refine Ha.out.mono ?_
          rintro e w4 ⟨rfl, hb4⟩
          have HR4 := Lib.hid (HR3.out.below hb4)
          have HR4' := Lib.hid (HR3'.out.below hb4)
          have hz4 : w0.heap.size ≤ w3.heap.size := HG3.out.g.size
          have HG4 : Hid (Gen b w0 w4 30) := Lib.hid (HG3.out.below hb4 hz4 (by omega))
          have HB4 : Hid (Below wc.heap.size wc w4) := Lib.hid (HB3.out.trans (hb4.mono HB3.out.size))
          clear hb4 HG3 HR3 HR3' Ha HB3
          go_wp2_with fail
          refine (HP.out _ HR4.out).mono ?_
          rintro e w5 ⟨v2, rfl, hO5, hb5⟩
          obtain ⟨a3, c3, hv, _, _, _⟩ := hO5.form
          have HR5' : Hid (RdP w5 a3 R) := Lib.hid (by rw [hv] at hO5; exact hO5.rd (by have := Hsh.out; omega))
          have HR5 := Lib.hid (HR4.out.below hb5)
          have HR5'' := Lib.hid (HR4'.out.below hb5)
          have HG5 : Hid (Gen b w0 w5 30) := Lib.hid (HG4.out.below hb5 HG4.out.g.size (by have := HG4.out.g.size; omega))
          rw [Hr.out] at hv
          subst hv
          have heq := equal_ports a2 a3 c2 c3 R R w5 HR5''.out HR5'.out
          rw [Hr.out, decide_eq_true rfl] at heq
          have HEq := Lib.hid heq
          have HB5 : Hid (Below wc.heap.size wc w5) := Lib.hid (HB4.out.trans (hb5.mono HB4.out.size))
          clear hb5 hO5 HG4 HR4 HR4' heq HR5'' HR5' HB4
          go_wp2_with fail
          refine HEq.out.mono ?_
          rintro e w6 ⟨rfl, nq, rfl⟩
          have HR6 : Hid (RdP (w5.drewN nq) ad1 L) := Lib.hid (HR5.out.below (below_drewN (Below.refl _ _) nq))
          have HG6 : Hid (Gen b w0 (w5.drewN nq) 30) := Lib.hid (HG5.out.drewN nq)
          have HB6 : Hid (Below wc.heap.size wc (w5.drewN nq)) := Lib.hid (below_drewN HB5.out nq)
          clear HEq HR5 HG5 HB5
          generalize w5.drewN nq = w6 at *
          go_wp2_with fail
          refine (flip_gen b 30 _ _ HG6.out.s (by omega) (by omega)).mono ?_
          rintro e w7 ⟨kk, rfl, hg⟩
          have HO7 : Hid (OwnP w7 w0.heap.size (.slice ad1 q c1) L) := Lib.hid ((HO.out.later HB6.out).gen hg hblt)
          have HG7 : Hid (Gen b w0 w7 31) := Lib.hid (HG6.out.trans hg)
          have HR7 : Hid (RdP w7 ad1 L) := Lib.hid (HO7.out.rd (by have := Hq.out; omega))
          clear hg HG6 HO HB6 HR6
          cases kk
          · clear HP
            have h1 := checkPorts ad1 q c1 L w7 HR7.out Hq.out
            have h2 := fun wx (hb : Below w7.heap.size w7 wx) => qPorts ad1 q c1 L wx (HR7.out.below hb) Hq.out
            generalize portsF L = z at h1 h2
            replace h1 := Lib.hid h1
            replace h2 := Lib.hid h2
            go_wp2_with fail
            refine h1.out.mono ?_
            rintro e w8 ⟨rfl, hb8⟩
            have HB8 : Hid (Below w7.heap.size w7 w8) := Lib.hid hb8
            clear hb8 h1
            go_wp2_with fail
            refine (h2.out _ HB8.out).mono ?_
            rintro e w9 ⟨rfl, hb9⟩
            have HB9 : Hid (Below w7.heap.size w7 w9) := Lib.hid (HB8.out.trans (hb9.mono HB8.out.size))
            clear hb9 HB8 h2
            go_wp2_with fail
            refine (filtered_any _).mono ?_
            rintro e w10 ⟨rfl, hb10⟩
            have HBT : Hid (Below w.heap.size w w10) := Lib.hid (by
              have h3 : Gen b w0 w10 31 := HG7.out.below (HB9.out.trans (hb10.mono HB9.out.size)) HG7.out.g.size (by have := HG7.out.g.size; omega)
              have h4 := h3.toBelow (w := w) (by rw [Hbw.out]; exact HB0.out) (by rw [Hbw.out]; exact Nat.le_refl _)
              exact h4)
            clear hb10 HB9
            go_wp2_with fail
            go_ret
            exact ⟨rfl, HBT.out⟩
          · go_wp2_with fail
            refine (HP.out _ HR7.out).mono ?_
            rintro e w8 ⟨v3, rfl, hO8, hb8⟩
            obtain ⟨a4, c4, hv, _, _, _⟩ := hO8.form
            have HR8 : Hid (RdP w8 a4 R) := Lib.hid (by rw [hv] at hO8; exact hO8.rd (by have := Hsh.out; omega))
            have HG8 : Hid (Gen b w0 w8 31) := Lib.hid (HG7.out.below hb8 HG7.out.g.size (by have := HG7.out.g.size; omega))
            rw [Hr.out] at hv
            subst hv
            clear hO8 hb8 HG7 HO7 HR7 HP
            have h1 := checkPorts a4 r c4 R w8 HR8.out Hr.out
            have h2 := fun wx (hb : Below w8.heap.size w8 wx) => qPorts a4 r c4 R wx (HR8.out.below hb) Hr.out
            generalize portsF R = z at h1 h2
            replace h1 := Lib.hid h1
            replace h2 := Lib.hid h2
            go_wp2_with fail
            refine h1.out.mono ?_
            rintro e wB ⟨rfl, hb8⟩
            have HB8 : Hid (Below w8.heap.size w8 wB) := Lib.hid hb8
            clear hb8 h1
            go_wp2_with fail
            refine (h2.out _ HB8.out).mono ?_
            rintro e w9 ⟨rfl, hb9⟩
            have HB9 : Hid (Below w8.heap.size w8 w9) := Lib.hid (HB8.out.trans (hb9.mono HB8.out.size))
            clear hb9 HB8 h2
            go_wp2_with fail
            refine (filtered_any _).mono ?_
            rintro e w10 ⟨rfl, hb10⟩
            have HBT : Hid (Below w.heap.size w w10) := Lib.hid (by
              have h3 : Gen b w0 w10 31 := HG8.out.below (HB9.out.trans (hb10.mono HB9.out.size)) HG8.out.g.size (by have := HG8.out.g.size; omega)
              have h4 := h3.toBelow (w := w) (by rw [Hbw.out]; exact HB0.out) (by rw [Hbw.out]; exact Nat.le_refl _)
              exact h4)
            clear hb10 HB9
            go_wp2_with fail
            go_ret
            exact ⟨rfl, HBT.out⟩
        · have hz3 := HG.out.g.size
          have HB3 : Hid (Below wc.heap.size wc w3) := Lib.hid hb3
          have HR3 := Lib.hid (HR.out.below hb3)
          have HG3 : Hid (Gen b w0 w3 30) := Lib.hid (HG.out.below hb3 hz3 (by omega))
          have ha' := anyPorts ad1 q c1 L _ HR3.out Hq.out
          rw [ha] at ha'
          have Ha := Lib.hid ha'
          clear hb3 ha' HR HG
          go_wp2_with fail
          refine Ha.out.mono ?_
          rintro e w4 ⟨rfl, hb4⟩
          have hz4 : w0.heap.size ≤ w3.heap.size := HG3.out.g.size
          have HB6 : Hid (Below wc.heap.size wc w4) := Lib.hid (HB3.out.trans (hb4.mono HB3.out.size))
          have HG6 : Hid (Gen b w0 w4 30) := Lib.hid (HG3.out.below hb4 hz4 (by omega))
          clear hb4 HG3 HR3 Ha HB3
          go_wp2_with fail
          refine (flip_gen b 30 _ _ HG6.out.s (by omega) (by omega)).mono ?_
          rintro e w7 ⟨kk, rfl, hg⟩
          have HO7 : Hid (OwnP w7 w0.heap.size (.slice ad1 q c1) L) := Lib.hid ((HO.out.later HB6.out).gen hg hblt)
          have HG7 : Hid (Gen b w0 w7 31) := Lib.hid (HG6.out.trans hg)
          have HR7 : Hid (RdP w7 ad1 L) := Lib.hid (HO7.out.rd (by have := Hq.out; omega))
          clear hg HG6 HO HB6
          cases kk
          all_goals
            have h1 := checkPorts ad1 q c1 L w7 HR7.out Hq.out
            have h2 := fun wx (hb : Below w7.heap.size w7 wx) => qPorts ad1 q c1 L wx (HR7.out.below hb) Hq.out
            generalize portsF L = z at h1 h2
            replace h1 := Lib.hid h1
            replace h2 := Lib.hid h2
            go_wp2_with fail
            refine h1.out.mono ?_
            rintro e w8 ⟨rfl, hb8⟩
            have HB8 : Hid (Below w7.heap.size w7 w8) := Lib.hid hb8
            clear hb8 h1
            go_wp2_with fail
            refine (h2.out _ HB8.out).mono ?_
            rintro e w9 ⟨rfl, hb9⟩
            have HB9 : Hid (Below w7.heap.size w7 w9) := Lib.hid (HB8.out.trans (hb9.mono HB8.out.size))
            clear hb9 HB8 h2
            go_wp2_with fail
            refine (filtered_any _).mono ?_
            rintro e w10 ⟨rfl, hb10⟩
            have HBT : Hid (Below w.heap.size w w10) := Lib.hid (by
              have h3 : Gen b w0 w10 31 := HG7.out.below (HB9.out.trans (hb10.mono HB9.out.size)) HG7.out.g.size (by have := HG7.out.g.size; omega)
              have h4 := h3.toBelow (w := w) (by rw [Hbw.out]; exact HB0.out) (by rw [Hbw.out]; exact Nat.le_refl _)
              exact h4)
            clear hb10 HB9
            go_wp2_with fail
            go_ret
            exact ⟨rfl, HBT.out⟩
end Go.Proofs.Ytaamonhhclffcaa
