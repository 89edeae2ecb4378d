/-
  The law SitesMap is true for every slice of ints.
-/
import Derived.Test.YtaamonhhclffcaaDoorSiteB
import Derived.Test.YtaamonhhclffcaaDoorAddressed
import Derived.Test.YtaamonhhclffcaaDoorPEq
import Derived.Deep.Cut
namespace Go.Proofs.YtaamonhhclffcaaDoor
open Go.RowKit Go
set_option linter.unusedVariables false

theorem viaR_form (site : Int) (six : Bool) (hi lo : Nat) (bits : Int) : ∃ (rs : Bool) (rh rl rb : Int), viaR site six hi lo bits = .agg #[.bool rs, .int .u64 rh, .int .u64 rl, .int .i64 rb] ∧
    (viaF site six hi lo bits = 0 → rs = true ∧ rh = 18230690457315508224 ∧ rl = site * 4294967296 + (lo : Int) ∧ rb = bits + 96) ∧ (viaF site six hi lo bits ≠ 0 → rs = false ∧ rh = 0 ∧ rl = 0 ∧ rb = 0) := by
  unfold viaR
  by_cases h : viaF site six hi lo bits = 0
  · rw [if_pos h]; exact ⟨_, _, _, _, rfl, fun _ => ⟨rfl, rfl, rfl, rfl⟩, fun h2 => absurd h h2⟩
  · rw [if_neg h]; exact ⟨_, _, _, _, rfl, fun h2 => absurd h2 h, fun _ => ⟨rfl, rfl, rfl, rfl⟩⟩
theorem viaF_zero {site : Int} {six : Bool} {hi lo : Nat} {bits : Int} (h : viaF site six hi lo bits = 0) : 0 ≤ site ∧ site ≤ 65535 ∧ six = false ∧ hi = 0 ∧ lo < 4294967296 ∧ 0 ≤ bits ∧ bits ≤ 32 := by
  unfold viaF at h
  by_cases h1 : outB site 0 65535 = true
  · rw [if_pos h1] at h; cases h
  rw [if_neg h1] at h
  by_cases h2 : pFault six hi lo bits ≠ 0
  · rw [if_pos h2] at h; exact absurd h h2
  rw [if_neg h2] at h
  cases six
  · obtain ⟨h3, h4, h5⟩ := pFault_zero (by simpa using h2 : pFault false hi lo bits = 0)
    obtain ⟨h6, h7⟩ := aFault_four h3
    have h8 : bits ≤ 32 := h5
    unfold outB at h1
    simp at h1
    exact ⟨by omega, by omega, rfl, h6, h7, h4, h8⟩
  · simp at h
theorem firstE_via (site : Int) (six : Bool) (hi lo : Nat) (bits : Int) (a s : Int) (ha : a = if outB site 0 65535 = true then 1 else 0) (hs : s = if six = true then 10 else 0) : firstE [a, pFault six hi lo bits, s] = viaF site six hi lo bits := by
  subst ha hs
  unfold viaF
  by_cases h1 : outB site 0 65535 = true
  · rw [if_pos h1, if_pos h1]; rfl
  rw [if_neg h1, if_neg h1]
  by_cases h2 : pFault six hi lo bits ≠ 0
  · rw [if_pos h2]; simp [firstE, h2]
  · rw [if_neg h2]
    have h2 : pFault six hi lo bits = 0 := by simpa using h2
    cases six <;> simp [firstE, h2]
theorem Gen.toBelow2 {b m : Nat} {w u v : World} (h : Gen b u v m) (hw : Below w.heap.size w u) (hb : w.heap.size ≤ b) : Below w.heap.size w v :=
  ⟨h.g.os.trans hw.os, h.g.tape.trans hw.tape, h.g.output.trans hw.output, Nat.le_trans hw.size h.g.size, fun i hi => (h.g.block i (Nat.lt_of_lt_of_le hi hw.size) (by intro e; injection e; omega)).trans (hw.block i hi)⟩
theorem siteP_form (six : Bool) (hi lo : Nat) (bits : Int) : ∃ rl rb : Int, siteP six hi lo bits = #[.bool false, .int .u64 0, .int .u64 rl, .int .i64 rb] := by
  unfold siteP; split
  · exact ⟨_, _, rfl⟩
  · exact ⟨_, _, rfl⟩
theorem xor_nat (x y : Int) : ∃ m : Nat, Go.bits .xor .u64 x y = (m : Int) ∧ U64N m := by
  have h : 0 ≤ Go.bits .xor .u64 x y ∧ Go.bits .xor .u64 x y < 18446744073709551616 := by
    show 0 ≤ IntKind.u64.wrap _ ∧ IntKind.u64.wrap _ < 18446744073709551616
    rw [IntKind.wrap_u64]; omega
  obtain ⟨m, hm⟩ := Int.eq_ofNat_of_zero_le h.1
  exact ⟨m, hm, by unfold U64N; omega⟩
set_option maxRecDepth 100000 in
set_option maxHeartbeats 4000000 in
theorem law_SitesMap (ad : Option Addr) (n c : Nat) (w : World) (h : LawArg w ad n) :
    Calls Tryd.prog 3 #[.slice ad n c] w (Ret (.bool true) w) := by
  have hS := LawArg.strm (c := c) h
  have HB0 : Hid (Below w.heap.size w (w.alloc (.cells #[.slice ad n c, .int .i64 0] 25 (0, 0)))) := Lib.hid (below_alloc (Below.refl _ _) _)
  have hblt : w.heap.size < (w.alloc (.cells #[.slice ad n c, .int .i64 0] 25 (0, 0))).heap.size := hS.lt
  have HS := Lib.hid hS
  clear h hS
  go_enter Tryd.func3, Tryd.ntmps3
  go_wp2_with fail
  generalize w.alloc (.cells #[.slice ad n c, .int .i64 0] 25 (0, 0)) = w0 at *
  obtain ⟨b, hbw⟩ : ∃ b, w.heap.size = b := ⟨_, rfl⟩
  have hbe := hbw
  rw [hbw] at hblt HS HB0 ⊢
  have Hbw := Lib.hid hbw
  clear hbw hbe
  refine (odd_gen b 0 _ _ _ HS.out (by omega) (by omega) (by omega)).mono ?_
  rintro e w1 ⟨site, rfl, hsb, hg⟩
  have HG1 : Hid (Gen b w0 w1 2) := Lib.hid hg
  have Hsb := Lib.hid hsb
  clear hg HS hsb
  go_wp2_with fail
  refine (prefix_gen b 2 _ HG1.out.s (by omega)).mono ?_
  rintro e w2 ⟨six, hi, lo, bits, rfl, h1, h2, h3, hg⟩
  have HG2 : Hid (Gen b w0 w2 16) := Lib.hid (HG1.out.trans hg)
  have HU := Lib.hid (And.intro h1 (And.intro h2 h3))
  have hV := fun wx => via_any site six hi lo bits wx h1 h2
  have hPFa := fun wx => prefixFault_any six hi lo bits wx h1 h2
  obtain ⟨rs, rh, rl, rb, hR, hR0, hR1⟩ := viaR_form site six hi lo bits
  rw [hR] at hV
  have HF := Lib.hid (fun a s => firstE_via site six hi lo bits a s)
  have HF0 := Lib.hid (@viaF_zero site six hi lo bits)
  have HR0 := Lib.hid hR0
  have HR1 := Lib.hid hR1
  obtain ⟨F, hFe⟩ : ∃ F, viaF site six hi lo bits = F := ⟨_, rfl⟩
  obtain ⟨pf, hpfe⟩ : ∃ z, pFault six hi lo bits = z := ⟨_, rfl⟩
  rw [hFe] at hV HF HF0 HR0 HR1
  rw [hpfe] at HF hPFa
  unfold vP at hV hPFa ⊢
  have HV := Lib.hid hV
  have HPFa := Lib.hid hPFa
  clear hV hPFa hR hR0 hR1 hFe hpfe hg HG1 h1 h2 h3
  have HP3 : Hid (Blk (w2.alloc (.cells #[.bool six, .int .u64 (hi : Int), .int .u64 (lo : Int), .int .i64 bits] 31 (0, 0))) w2.heap.size 31 #[.bool six, .int .u64 (hi : Int), .int .u64 (lo : Int), .int .i64 bits]) := Lib.hid (Blk.new w2 _ _)
  have HG3 := Lib.hid (HG2.out.alloc (.cells #[.bool six, .int .u64 (hi : Int), .int .u64 (lo : Int), .int .i64 bits] 31 (0, 0)))
  clear HG2
  go_upto_region 3 with fail
  generalize w2.alloc (.cells #[.bool six, .int .u64 (hi : Int), .int .u64 (lo : Int), .int .i64 bits] 31 (0, 0)) = w3 at *
  generalize w2.heap.size = P at *
  have p0 := HP3.out.cell 0
  have p1 := HP3.out.cell 1
  have p2 := HP3.out.cell 2
  have p3 := HP3.out.cell 3
  simp at p0 p1 p2 p3
  go_wp2_with fail
  refine (HV.out _).mono ?_
  rintro e w4 ⟨rfl, hb⟩
  have HP4 := Lib.hid ((HP3.out.below hb HP3.out.lt).alloc (.cells #[.bool rs, .int .u64 rh, .int .u64 rl, .int .i64 rb] 31 (0, 0)))
  have HG4 := Lib.hid ((HG3.out.below0 hb HG3.out.s.lt).alloc (.cells #[.bool rs, .int .u64 rh, .int .u64 rl, .int .i64 rb] 31 (0, 0)))
  have HA4 : Hid (Blk (w4.alloc (.cells #[.bool rs, .int .u64 rh, .int .u64 rl, .int .i64 rb] 31 (0, 0))) w4.heap.size 31 #[.bool rs, .int .u64 rh, .int .u64 rl, .int .i64 rb]) := Lib.hid (Blk.new w4 _ _)
  clear hb p0 p1 p2 p3 HP3 HG3 HV
  go_upto_region 4 with fail
  generalize w4.alloc (.cells #[.bool rs, .int .u64 rh, .int .u64 rl, .int .i64 rb] 31 (0, 0)) = w5 at *
  generalize w4.heap.size = A at *
  go_cut [8] (fun s8 wx => s8 = .int .i64 F ∧ Below w5.heap.size w5 wx)
  case first =>
    as_aux_lemma =>
      have p0 := HP4.out.cell 0
      have p1 := HP4.out.cell 1
      have p2 := HP4.out.cell 2
      have p3 := HP4.out.cell 3
      simp at p0 p1 p2 p3
      have l0 := Later.cell_of p0
      have l1 := Later.cell_of p1
      have l2 := Later.cell_of p2
      have l3 := Later.cell_of p3
      have hPF := fun n : Later w5 => Calls.later n (HPFa.out n.1)
      obtain ⟨s, hs⟩ : ∃ s : Int, s = if six = true then 10 else 0 := ⟨_, rfl⟩
      have hWs : ∀ n : Later w5, Calls Tryd.prog 10 #[.bool six, .int .i64 10] n.1 fun e w'' => e = .returned (.int .i64 s) ∧ ∃ m : Later w5, w'' = m.1 := fun n => by rw [hs]; exact Calls.later_same n (when_any six 10 n.1)
      have hW1 : ∀ n : Later w5, Calls Tryd.prog 10 #[.bool true, .int .i64 1] n.1 fun e w'' => e = .returned (.int .i64 1) ∧ ∃ m : Later w5, w'' = m.1 := fun n => Calls.later_same n (when_any true 1 n.1)
      have hW0 : ∀ n : Later w5, Calls Tryd.prog 10 #[.bool false, .int .i64 1] n.1 fun e w'' => e = .returned (.int .i64 0) ∧ ∃ m : Later w5, w'' = m.1 := fun n => Calls.later_same n (when_any false 1 n.1)
      have HFs := Lib.hid (fun a ha => HF.out a s ha hs)
      clear hs
      have hsite : site < 0 ∨ 65535 < site ∨ (0 ≤ site ∧ site ≤ 65535) := by omega
      rcases hsite with h0 | h0 | ⟨h0, h0'⟩
      · skip
        have Hval : Hid (firstE [1, pf, s] = F) := Lib.hid (HFs.out 1 (by unfold outB; rw [decide_eq_true h0]; rfl))
        refine wp_region_later_tail 13 (by kernel_rfl) (by kernel_rfl) ?_
        simp only [List.take_succ_cons, List.take_zero, List.drop_succ_cons, List.drop_zero]
        repeat (go_big_quiet_step (first | (go_at_call 11; exact hPF _) | (go_at_call 10; first | exact hW1 _ | exact hWs _)))
        refine wpQuiet_nil ?_
        rintro w6 ⟨n6, hn6⟩
        have hb6 : Below w5.heap.size w5 w6 := by rw [hn6]; exact n6.2
        clear hn6 n6 l0 l1 l2 l3 p0 p1 p2 p3 hPF hWs hW1 hW0 HFs
        go_wp2_with fail
        refine (errs_any w6.heap.size 3 3 [1, pf, s] _ (rdInts_new w6 _ [1, pf, s] _ rfl) (by omega)).mono ?_
        rintro e w7 ⟨rfl, rfl⟩
        rw [Hval.out]
        go_wp2_with fail
        go_meet
        case rel => exact ⟨rfl, below_alloc hb6 _⟩
      · have h1 : ¬ site < 0 := by omega
        have Hval : Hid (firstE [1, pf, s] = F) := Lib.hid (HFs.out 1 (by unfold outB; rw [decide_eq_true h0]; simp))
        refine wp_region_later_tail 13 (by kernel_rfl) (by kernel_rfl) ?_
        simp only [List.take_succ_cons, List.take_zero, List.drop_succ_cons, List.drop_zero]
        repeat (go_big_quiet_step (first | (go_at_call 11; exact hPF _) | (go_at_call 10; first | exact hW1 _ | exact hWs _)))
        refine wpQuiet_nil ?_
        rintro w6 ⟨n6, hn6⟩
        have hb6 : Below w5.heap.size w5 w6 := by rw [hn6]; exact n6.2
        clear hn6 n6 l0 l1 l2 l3 p0 p1 p2 p3 hPF hWs hW1 hW0 HFs
        go_wp2_with fail
        refine (errs_any w6.heap.size 3 3 [1, pf, s] _ (rdInts_new w6 _ [1, pf, s] _ rfl) (by omega)).mono ?_
        rintro e w7 ⟨rfl, rfl⟩
        rw [Hval.out]
        go_wp2_with fail
        go_meet
        case rel => exact ⟨rfl, below_alloc hb6 _⟩
      · have h1 : ¬ site < 0 := by omega
        have h2 : ¬ site > 65535 := by omega
        have Hval : Hid (firstE [0, pf, s] = F) := Lib.hid (HFs.out 0 (by unfold outB; rw [decide_eq_false h1, decide_eq_false (by omega)]; rfl))
        refine wp_region_later_tail 13 (by kernel_rfl) (by kernel_rfl) ?_
        simp only [List.take_succ_cons, List.take_zero, List.drop_succ_cons, List.drop_zero]
        repeat (go_big_quiet_step (first | (go_at_call 11; exact hPF _) | (go_at_call 10; first | exact hW0 _ | exact hWs _)))
        refine wpQuiet_nil ?_
        rintro w6 ⟨n6, hn6⟩
        have hb6 : Below w5.heap.size w5 w6 := by rw [hn6]; exact n6.2
        clear hn6 n6 l0 l1 l2 l3 p0 p1 p2 p3 hPF hWs hW1 hW0 HFs
        go_wp2_with fail
        refine (errs_any w6.heap.size 3 3 [0, pf, s] _ (rdInts_new w6 _ [0, pf, s] _ rfl) (by omega)).mono ?_
        rintro e w7 ⟨rfl, rfl⟩
        rw [Hval.out]
        go_wp2_with fail
        go_meet
        case rel => exact ⟨rfl, below_alloc hb6 _⟩
  case rest =>
    as_aux_lemma =>
      obtain ⟨rfl, hb⟩ := hcut
      have HP5 := Lib.hid (HP4.out.below hb HP4.out.lt)
      have HA5 := Lib.hid (HA4.out.below hb HA4.out.lt)
      have HG5 := Lib.hid (HG4.out.below0 hb HG4.out.s.lt)
      clear hb HP4 HA4 HG4 HPFa HF
      have p0 := HP5.out.cell 0
      have p1 := HP5.out.cell 1
      have p2 := HP5.out.cell 2
      have p3 := HP5.out.cell 3
      have a0 := HA5.out.cell 0
      have a1 := HA5.out.cell 1
      have a2 := HA5.out.cell 2
      have a3 := HA5.out.cell 3
      simp at p0 p1 p2 p3 a0 a1 a2 a3
      go_upto_region 5 with fail
      go_cut [68] (fun s68 wx => s68 = .bool false ∧ Below wc.heap.size wc wx)
      case first =>
        as_aux_lemma =>
          have l0 := Later.cell_of p0
          have l1 := Later.cell_of p1
          have l2 := Later.cell_of p2
          have l3 := Later.cell_of p3
          have k0 := Later.cell_of a0
          have k1 := Later.cell_of a1
          have k2 := Later.cell_of a2
          have k3 := Later.cell_of a3
          have hG := pfx_guard .neq
          by_cases h0 : F = 0
          · as_aux_lemma =>
              subst h0
              obtain ⟨hs0, hs1, rfl, rfl, hlo, hb0, hb1⟩ := HF0.out rfl
              obtain ⟨sn, rfl⟩ := Int.eq_ofNat_of_zero_le hs0
              obtain ⟨hrs, hrh, hrl, hrb⟩ := HR0.out rfl
              have hVO := fun n : Later wc => Calls.later n (viaOf_any sn lo bits n.1 (by omega) hlo ⟨hb0, hb1⟩)
              unfold vP at hVO
              rw [← hrh, ← hrl, ← hrb] at hVO
              subst hrs
              clear hrh hrl hrb
              have hN := fun w => pfx_neq true true rh rh rl rl rb rb w
              rw [show (!decide (((true, rh, rl, rb) : Bool × Int × Int × Int) = (true, rh, rl, rb))) = false by simp] at hN
              have z0 : ((0 : Nat) : Int) = 0 := rfl
              simp only [z0] at hVO p1 l1
              clear HF0 HR0 HR1 Hsb HU
              go_wp2_with fail
              refine wp_region_later (by kernel_rfl) (by kernel_rfl) ?_
              repeat (go_big_quiet_step ((go_at_call 12; exact hVO _)))
              refine wpQuiet_nil ?_
              rintro w6 ⟨n6, hn6⟩
              have hb6 : Below wc.heap.size wc w6 := by rw [hn6]; exact n6.2
              go_wp2_with fail
              go_meet
              case rel => exact ⟨rfl, hb6⟩
          · as_aux_lemma =>
              obtain ⟨rfl, rfl, rfl, rfl⟩ := HR1.out h0
              have hN := fun w => pfx_neq false false 0 0 0 0 0 0 w
              rw [show (!decide (((false, (0 : Int), (0 : Int), (0 : Int)) : Bool × Int × Int × Int) = (false, 0, 0, 0))) = false by simp] at hN
              have hF1 : (F == 0) = false := by simpa using h0
              have hF2 : (F != 0) = true := by simpa using h0
              clear HF0 HR0 HR1 Hsb HU
              go_wp2_with fail
              refine wp_region_later (by kernel_rfl) (by kernel_rfl) ?_
              repeat (go_big_quiet_step (fail))
              refine wpQuiet_nil ?_
              rintro w6 ⟨n6, hn6⟩
              have hb6 : Below wc.heap.size wc w6 := by rw [hn6]; exact n6.2
              go_wp2_with fail
              go_meet
              case rel => exact ⟨rfl, hb6⟩
      case rest =>
        as_aux_lemma =>
          obtain ⟨rfl, hb⟩ := hcut
          have HA6 := Lib.hid (HA5.out.below hb HA5.out.lt)
          have HG6 := Lib.hid (HG5.out.below0 hb HG5.out.s.lt)
          clear hb HP5 HA5 HG5 p0 p1 p2 p3 a0 a1 a2 a3
          have a0 := HA6.out.cell 0
          have a1 := HA6.out.cell 1
          have a2 := HA6.out.cell 2
          have a3 := HA6.out.cell 3
          simp at a0 a1 a2 a3
          have HQ7 : Hid (Blk (wc.alloc (.cells #[.bool rs, .int .u64 rh, .int .u64 rl, .int .i64 rb] 31 (0, 0))) wc.heap.size 31 #[.bool rs, .int .u64 rh, .int .u64 rl, .int .i64 rb]) := Lib.hid (Blk.new wc _ _)
          have HG7 := Lib.hid (HG6.out.alloc (.cells #[.bool rs, .int .u64 rh, .int .u64 rl, .int .i64 rb] 31 (0, 0)))
          have hQ7 : w0.heap.size ≤ wc.heap.size := HG6.out.g.size
          go_upto_region 8 with fail
          clear a0 a1 a2 a3 HA6 HG6
          generalize wc.alloc (.cells #[.bool rs, .int .u64 rh, .int .u64 rl, .int .i64 rb] 31 (0, 0)) = w7 at *
          generalize wc.heap.size = Q at *
          go_cut [75] (fun s75 wx => ∃ z : Bool, s75 = .bool z ∧ (z = false → F = 0) ∧ Blk wx Q 31 #[.bool rs, .int .u64 rh, .int .u64 rl, .int .i64 rb] ∧ Gen b w0 wx 17)
          case first =>
            as_aux_lemma =>
              go_wp2_with fail
              refine (flip_gen b 16 _ _ HG7.out.s (by omega) (by omega)).mono ?_
              rintro e w8 ⟨kk, rfl, hg⟩
              have HQ8 := Lib.hid (HQ7.out.keep hg.g (by omega))
              have HG8 := Lib.hid (HG7.out.trans hg)
              clear hg HR0 HR1 HF0
              cases kk
              · by_cases h0 : F = 0
                · subst h0
                  go_wp2_with fail
                  go_meet
                  case rel => exact ⟨false, rfl, fun _ => by first | rfl | trivial, HQ8.out, HG8.out⟩
                · have hF2 : (F != 0) = true := by simpa using h0
                  go_wp2_with fail
                  go_meet
                  case rel => exact ⟨true, rfl, fun h => (by cases h), HQ8.out, HG8.out⟩
              · go_wp2_with fail
                go_meet
                case rel => exact ⟨true, rfl, fun h => (by cases h), HQ8.out, HG8.out⟩
          case rest =>
            as_aux_lemma =>
              obtain ⟨z, rfl, hz, hQ, hG⟩ := hcut
              have HQ8 := Lib.hid hQ
              have HG8 := Lib.hid hG
              have Hz := Lib.hid hz
              clear hQ hG hz HQ7 HG7
              go_upto_if 75 with fail
              go_cut [] (fun wx => ∃ (six : Bool) (hi lo : Nat) (bits : Int), Blk wx Q 31 #[.bool six, .int .u64 (hi : Int), .int .u64 (lo : Int), .int .i64 bits] ∧ U64N hi ∧ U64N lo ∧ Gen b w0 wx 60)
              case first =>
                as_aux_lemma =>
                  cases z
                  · have hF := Hz.out rfl
                    obtain ⟨hs0, hs1, -, -, hlo, hb0, hb1⟩ := HF0.out hF
                    obtain ⟨rfl, hrh, hrl, hrb⟩ := HR0.out hF
                    have hN : ∃ m1 m2 : Nat, rh = (m1 : Int) ∧ rl = (m2 : Int) ∧ U64N m1 ∧ U64N m2 := by
                      obtain ⟨sn, rfl⟩ := Int.eq_ofNat_of_zero_le hs0
                      exact ⟨18230690457315508224, sn * 4294967296 + lo, hrh, by rw [hrl]; omega, by unfold U64N; decide, by unfold U64N; omega⟩
                    clear hrh hrl hrb HF0 HR0 HR1 hs0 hs1 hlo hb0 hb1 hF
                    obtain ⟨m1, m2, rfl, rfl, hm1, hm2⟩ := hN
                    have HM := Lib.hid (And.intro hm1 hm2)
                    clear hm1 hm2
                    go_wp2_with fail
                    refine (flip_gen b 17 _ _ HG8.out.s (by omega) (by omega)).mono ?_
                    rintro e w9 ⟨kk, rfl, hg⟩
                    have HQ9 := Lib.hid (HQ8.out.keep hg.g (by omega))
                    have HG9 := Lib.hid (HG8.out.trans hg)
                    clear hg HQ8 HG8
                    cases kk
                    · go_wp2_with fail
                      go_meet
                      case rel => exact ⟨true, m1, m2, rb, HQ9.out, HM.out.1, HM.out.2, HG9.out.mono (by omega)⟩
                    · have q2 := HQ9.out.cell 2
                      have qf := HQ9.out.free
                      simp at q2
                      obtain ⟨m3, hm3, hU3⟩ := xor_nat (m2 : Int) 281474976710656
                      have HX := Lib.hid hm3
                      have HU3 := Lib.hid hU3
                      clear hm3 hU3
                      go_wp2_with fail
                      rw [HX.out]
                      go_meet
                      case rel => exact ⟨true, m1, m3, rb, HQ9.out.set 2 (.int .u64 (m3 : Int)), HM.out.1, HU3.out, (HG9.out.mono (by omega)).setCell _ _ hQ7 (by simp only; omega)⟩
                  · clear HF0 HR0 HR1
                    go_wp2_with fail
                    refine (prefix_gen b 17 _ HG8.out.s (by omega)).mono ?_
                    rintro e w9 ⟨six2, hi2, lo2, bits2, rfl, h1, h2, -, hg⟩
                    have HQ9 := Lib.hid (HQ8.out.keep hg.g (by omega))
                    have HG9 : Hid (Gen b w0 w9 60) := Lib.hid ((HG8.out.trans hg).mono (by omega))
                    have HM := Lib.hid (And.intro h1 h2)
                    clear hg HQ8 HG8 h1 h2
                    have q0 := HQ9.out.cell 0
                    have q1 := HQ9.out.cell 1
                    have q2 := HQ9.out.cell 2
                    have q3 := HQ9.out.cell 3
                    have qf := HQ9.out.free
                    simp at q0 q1 q2 q3
                    unfold vP
                    go_wp2_with fail
                    go_meet
                    case rel =>
                      refine ⟨six2, hi2, lo2, bits2, (((HQ9.out.set 0 (.bool six2)).set 1 (.int .u64 (hi2 : Int))).set 2 (.int .u64 (lo2 : Int))).set 3 (.int .i64 bits2), HM.out.1, HM.out.2, ?_⟩
                      repeat refine Gen.setCell ?_ _ _ hQ7 (by simp only; omega)
                      exact HG9.out
              case rest =>
                as_aux_lemma =>
                  clear HQ8 HG8 HF0 HR0 HR1 Hz Hsb HU
                  obtain ⟨six, hi, lo, bits, hQ, h1, h2, hG⟩ := hcut
                  have HQ9 := Lib.hid hQ
                  have HB9 : Hid (Below w.heap.size w wc) := Lib.hid (hG.toBelow2 (w := w) (by rw [Hbw.out]; exact HB0.out) (by rw [Hbw.out]; exact Nat.le_refl _))
                  have hS := fun wx => site_any six hi lo bits wx h1 h2
                  have hP := fun wx => prefixFault_any six hi lo bits wx h1 h2
                  have hO := fun wx (hb : 0 ≤ bits ∧ bits ≤ 128) => siteOf_any six hi lo bits wx h1 h2 hb
                  have hpz := @pFault_zero six hi lo bits
                  unfold siteR at hS
                  unfold vP at hS hP hO
                  obtain ⟨sl, sb4, hsp⟩ := siteP_form six hi lo bits
                  rw [hsp] at hS hO
                  generalize siteN six hi lo bits = sn at *
                  generalize siteB six hi lo bits = sB at *
                  generalize pFault six hi lo bits = pf at *
                  have hln := lenN_le six
                  have HO := Lib.hid (fun h : pf = 0 => fun wx => hO wx (by have := hpz h; omega))
                  have hEq := fun (x1 x2 : Int) w => pfx_eql false false 0 0 x1 x1 x2 x2 w
                  have hEq2 : ∀ (x1 x2 : Int) w, (binOp .eql 31 (.agg #[.bool false, .int .u64 0, .int .u64 x1, .int .i64 x2]) (.agg #[.bool false, .int .u64 0, .int .u64 x1, .int .i64 x2])).run Tryd.prog w = .ok (.bool true) w := fun x1 x2 w => by rw [hEq, decide_eq_true rfl]
                  have hGd := pfx_guard .eql
                  have HEq := Lib.hid hEq2
                  have HGd := Lib.hid hGd
                  have HP := Lib.hid hP
                  clear hQ hG hP hO hpz hsp hEq hEq2 hGd h1 h2 hln
                  have q0 := HQ9.out.cell 0
                  have q1 := HQ9.out.cell 1
                  have q2 := HQ9.out.cell 2
                  have q3 := HQ9.out.cell 3
                  simp at q0 q1 q2 q3
                  by_cases h0 : pf = 0
                  · subst h0
                    rw [if_pos rfl] at hS
                    have HS := Lib.hid hS
                    have HO2 := Lib.hid (HO.out rfl)
                    obtain ⟨f8, hf8⟩ : ∃ f8 : Int, (if sB = true then (0 : Int) else 8) = f8 := ⟨_, rfl⟩
                    rw [hf8] at HS
                    have Hf8 := Lib.hid hf8
                    clear hS HO hf8
                    have hW : ∀ (W : World) (n : Later W), Calls Tryd.prog 10 #[.bool (!sB), .int .i64 8] n.1 fun e w'' => e = .returned (.int .i64 f8) ∧ ∃ m : Later W, w'' = m.1 := fun W n => by
                      have h := Calls.later_same n (when_any (!sB) 8 n.1)
                      rw [← Hf8.out]
                      cases sB <;> exact h
                    have HWn := Lib.hid hW
                    clear hW Hf8
                    as_aux_lemma =>
                      go_wp2_with fail
                      refine (HS.out _).mono ?_
                      rintro e w10 ⟨rfl, hb⟩
                      have HQ10 := Lib.hid ((HQ9.out.below hb HQ9.out.lt).alloc (.cells #[.bool false, .int .u64 0, .int .u64 sl, .int .i64 sb4] 31 (0, 0)))
                      have HB10 := Lib.hid (below_alloc (HB9.out.trans (hb.mono HB9.out.size)) (.cells #[.bool false, .int .u64 0, .int .u64 sl, .int .i64 sb4] 31 (0, 0)))
                      have HF10 : Hid (Blk (w10.alloc (.cells #[.bool false, .int .u64 0, .int .u64 sl, .int .i64 sb4] 31 (0, 0))) w10.heap.size 31 #[.bool false, .int .u64 0, .int .u64 sl, .int .i64 sb4]) := Lib.hid (Blk.new w10 _ _)
                      clear hb HQ9 HB9 q0 q1 q2 q3 HS
                      go_upto_region 13 with fail
                      generalize w10.alloc (.cells #[.bool false, .int .u64 0, .int .u64 sl, .int .i64 sb4] 31 (0, 0)) = w11 at *
                      generalize w10.heap.size = B1 at *
                      have q0 := HQ10.out.cell 0
                      have q1 := HQ10.out.cell 1
                      have q2 := HQ10.out.cell 2
                      have q3 := HQ10.out.cell 3
                      simp at q0 q1 q2 q3
                      go_wp2_with fail
                      refine (HP.out _).mono ?_
                      rintro e w12 ⟨rfl, hb⟩
                      have HQ12 := Lib.hid ((HQ10.out.below hb HQ10.out.lt).alloc (.cells #[.bool false, .int .u64 0, .int .u64 0, .int .i64 0] 31 (0, 0)))
                      have HF12 := Lib.hid ((HF10.out.below hb HF10.out.lt).alloc (.cells #[.bool false, .int .u64 0, .int .u64 0, .int .i64 0] 31 (0, 0)))
                      have HB12 := Lib.hid (below_alloc (HB10.out.trans (hb.mono HB10.out.size)) (.cells #[.bool false, .int .u64 0, .int .u64 0, .int .i64 0] 31 (0, 0)))
                      have HW12 : Hid (Blk (w12.alloc (.cells #[.bool false, .int .u64 0, .int .u64 0, .int .i64 0] 31 (0, 0))) w12.heap.size 31 #[.bool false, .int .u64 0, .int .u64 0, .int .i64 0]) := Lib.hid (Blk.new w12 _ _)
                      have hw12 := HB10.out.size
                      have hne12 : B1 ≠ w12.heap.size := by have := HF10.out.lt; have := hb.size; omega
                      have hwl : w.heap.size ≤ w12.heap.size := by have := hb.size; omega
                      clear hb HQ10 HB10 HF10 q0 q1 q2 q3 HP hw12
                      go_upto_region 15 with fail
                      generalize w12.alloc (.cells #[.bool false, .int .u64 0, .int .u64 0, .int .i64 0] 31 (0, 0)) = w13 at *
                      generalize w12.heap.size = W1 at *
                      have q0 := HQ12.out.cell 0
                      have q1 := HQ12.out.cell 1
                      have q2 := HQ12.out.cell 2
                      have q3 := HQ12.out.cell 3
                      simp at q0 q1 q2 q3
                      go_wp2_with fail
                      refine (HO2.out _).mono ?_
                      rintro e w14 ⟨rfl, hb⟩
                      have HF14 := Lib.hid ((HF12.out.below hb HF12.out.lt).alloc (.cells #[.bool false, .int .u64 0, .int .u64 sl, .int .i64 sb4] 31 (0, 0)))
                      have HW14 := Lib.hid ((HW12.out.below hb HW12.out.lt).alloc (.cells #[.bool false, .int .u64 0, .int .u64 sl, .int .i64 sb4] 31 (0, 0)))
                      have HB14 := Lib.hid (below_alloc (HB12.out.trans (hb.mono HB12.out.size)) (.cells #[.bool false, .int .u64 0, .int .u64 sl, .int .i64 sb4] 31 (0, 0)))
                      have HY14 : Hid (Blk (w14.alloc (.cells #[.bool false, .int .u64 0, .int .u64 sl, .int .i64 sb4] 31 (0, 0))) w14.heap.size 31 #[.bool false, .int .u64 0, .int .u64 sl, .int .i64 sb4]) := Lib.hid (Blk.new w14 _ _)
                      clear hb HQ12 HF12 HW12 HB12 q0 q1 q2 q3 HO2
                      go_upto_region 17 with fail
                      generalize w14.alloc (.cells #[.bool false, .int .u64 0, .int .u64 sl, .int .i64 sb4] 31 (0, 0)) = w15 at *
                      generalize w14.heap.size = Y1 at *
                      have y0 := HY14.out.cell 0
                      have y1 := HY14.out.cell 1
                      have y2 := HY14.out.cell 2
                      have y3 := HY14.out.cell 3
                      simp at y0 y1 y2 y3
                      have l0 := Later.cell_of y0
                      have l1 := Later.cell_of y1
                      have l2 := Later.cell_of y2
                      have l3 := Later.cell_of y3
                      have hW := HWn.out w15
                      refine wp_region_later_tail 6 (by kernel_rfl) (by kernel_rfl) ?_
                      simp only [List.take_succ_cons, List.take_zero, List.drop_succ_cons, List.drop_zero]
                      repeat (go_big_quiet_step ((go_at_call 10; exact hW _)))
                      refine wpQuiet_nil ?_
                      rintro w16 ⟨n6, hn6⟩
                      have hb6 : Below w15.heap.size w15 w16 := by rw [hn6]; exact n6.2
                      have HF16 := Lib.hid (HF14.out.below hb6 HF14.out.lt)
                      have HW16 := Lib.hid (HW14.out.below hb6 HW14.out.lt)
                      have HB16 := Lib.hid (HB14.out.trans (hb6.mono HB14.out.size))
                      clear hn6 n6 hb6 l0 l1 l2 l3 y0 y1 y2 y3 hW HWn HF14 HW14 HB14 HY14
                      have HW17 : Hid (Blk ((((w16.setCell ⟨W1, 0, none⟩ (.bool false)).setCell ⟨W1, 1, none⟩ (.int .u64 0)).setCell ⟨W1, 2, none⟩ (.int .u64 sl)).setCell ⟨W1, 3, none⟩ (.int .i64 sb4)) W1 31 #[.bool false, .int .u64 0, .int .u64 sl, .int .i64 sb4]) := Lib.hid ((((HW16.out.set 0 (.bool false)).set 1 (.int .u64 0)).set 2 (.int .u64 sl)).set 3 (.int .i64 sb4))
                      have HF17 : Hid (Blk ((((w16.setCell ⟨W1, 0, none⟩ (.bool false)).setCell ⟨W1, 1, none⟩ (.int .u64 0)).setCell ⟨W1, 2, none⟩ (.int .u64 sl)).setCell ⟨W1, 3, none⟩ (.int .i64 sb4)) B1 31 #[.bool false, .int .u64 0, .int .u64 sl, .int .i64 sb4]) := Lib.hid ((((HF16.out.far hne12 _ _).far hne12 _ _).far hne12 _ _).far hne12 _ _)
                      have HB17 : Hid (Below w.heap.size w ((((w16.setCell ⟨W1, 0, none⟩ (.bool false)).setCell ⟨W1, 1, none⟩ (.int .u64 0)).setCell ⟨W1, 2, none⟩ (.int .u64 sl)).setCell ⟨W1, 3, none⟩ (.int .i64 sb4))) := Lib.hid (below_set (below_set (below_set (below_set HB16.out hwl _ _) hwl _ _) hwl _ _) hwl _ _)
                      have g0 := HW16.out.cell 0
                      have g1 := HW16.out.cell 1
                      have g2 := HW16.out.cell 2
                      have g3 := HW16.out.cell 3
                      have gf := HW16.out.free
                      simp at g0 g1 g2 g3
                      go_upto_region 18 with fail
                      clear g0 g1 g2 g3 gf HF16 HW16 HB16
                      generalize (((w16.setCell ⟨W1, 0, none⟩ (.bool false)).setCell ⟨W1, 1, none⟩ (.int .u64 0)).setCell ⟨W1, 2, none⟩ (.int .u64 sl)).setCell ⟨W1, 3, none⟩ (.int .i64 sb4) = w17 at *
                      have f0 := HF17.out.cell 0
                      have f1 := HF17.out.cell 1
                      have f2 := HF17.out.cell 2
                      have f3 := HF17.out.cell 3
                      have g0 := HW17.out.cell 0
                      have g1 := HW17.out.cell 1
                      have g2 := HW17.out.cell 2
                      have g3 := HW17.out.cell 3
                      simp at f0 f1 f2 f3 g0 g1 g2 g3
                      have hq := HEq.out sl sb4
                      have hg := HGd.out
                      go_wp2_with fail
                      refine (addressed_any _).mono ?_
                      rintro e w18 ⟨rfl, hb⟩
                      have HB18 := Lib.hid (HB17.out.trans (hb.mono HB17.out.size))
                      clear hb
                      go_wp2_with fail
                      go_ret
                      exact ⟨rfl, HB18.out⟩
                  · rw [if_neg h0] at hS
                    have HS := Lib.hid hS
                    clear hS HO
                    have e1 : (pf == 0) = false := by simpa using h0
                    go_wp2_with fail
                    refine (HS.out _).mono ?_
                    rintro e w10 ⟨rfl, hb⟩
                    have HQ10 := Lib.hid ((HQ9.out.below hb HQ9.out.lt).alloc (.cells #[.bool false, .int .u64 0, .int .u64 0, .int .i64 0] 31 (0, 0)))
                    have HB10 := Lib.hid (below_alloc (HB9.out.trans (hb.mono HB9.out.size)) (.cells #[.bool false, .int .u64 0, .int .u64 0, .int .i64 0] 31 (0, 0)))
                    have HF10 : Hid (Blk (w10.alloc (.cells #[.bool false, .int .u64 0, .int .u64 0, .int .i64 0] 31 (0, 0))) w10.heap.size 31 #[.bool false, .int .u64 0, .int .u64 0, .int .i64 0]) := Lib.hid (Blk.new w10 _ _)
                    clear hb HQ9 HB9 q0 q1 q2 q3
                    go_upto_region 13 with fail
                    generalize w10.alloc (.cells #[.bool false, .int .u64 0, .int .u64 0, .int .i64 0] 31 (0, 0)) = w11 at *
                    generalize w10.heap.size = B1 at *
                    have q0 := HQ10.out.cell 0
                    have q1 := HQ10.out.cell 1
                    have q2 := HQ10.out.cell 2
                    have q3 := HQ10.out.cell 3
                    simp at q0 q1 q2 q3
                    go_wp2_with fail
                    refine (HP.out _).mono ?_
                    rintro e w12 ⟨rfl, hb⟩
                    have HF12 := Lib.hid ((HF10.out.below hb HF10.out.lt).alloc (.cells #[.bool false, .int .u64 0, .int .u64 0, .int .i64 0] 31 (0, 0)))
                    have HB12 := Lib.hid (below_alloc (HB10.out.trans (hb.mono HB10.out.size)) (.cells #[.bool false, .int .u64 0, .int .u64 0, .int .i64 0] 31 (0, 0)))
                    have HW12 : Hid (Blk (w12.alloc (.cells #[.bool false, .int .u64 0, .int .u64 0, .int .i64 0] 31 (0, 0))) w12.heap.size 31 #[.bool false, .int .u64 0, .int .u64 0, .int .i64 0]) := Lib.hid (Blk.new w12 _ _)
                    clear hb HQ10 HB10 HF10 q0 q1 q2 q3 HP
                    go_upto_region 15 with fail
                    generalize w12.alloc (.cells #[.bool false, .int .u64 0, .int .u64 0, .int .i64 0] 31 (0, 0)) = w13 at *
                    generalize w12.heap.size = W1 at *
                    have f0 := HF12.out.cell 0
                    have f1 := HF12.out.cell 1
                    have f2 := HF12.out.cell 2
                    have f3 := HF12.out.cell 3
                    have g0 := HW12.out.cell 0
                    have g1 := HW12.out.cell 1
                    have g2 := HW12.out.cell 2
                    have g3 := HW12.out.cell 3
                    simp at f0 f1 f2 f3 g0 g1 g2 g3
                    have hq := HEq.out 0 0
                    have hg := HGd.out
                    go_wp2_with fail
                    refine (addressed_any _).mono ?_
                    rintro e w14 ⟨rfl, hb⟩
                    have HB14 := Lib.hid (HB12.out.trans (hb.mono HB12.out.size))
                    clear hb
                    go_wp2_with fail
                    go_ret
                    exact ⟨rfl, HB14.out⟩
end Go.Proofs.YtaamonhhclffcaaDoor
