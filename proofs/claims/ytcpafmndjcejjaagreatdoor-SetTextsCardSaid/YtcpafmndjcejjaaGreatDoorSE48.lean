/-
  ParsePrefix and PrefixParse: a prefix read. Condition: at most a million bytes, and the variables that are read.
-/
import Derived.Test.YtcpafmndjcejjaaGreatDoorSE40
set_option linter.unusedVariables false
namespace Go.Proofs.YtcpafmndjcejjaaGreatDoor
open Go.RowKit Go Go.Sort
set_option linter.unusedVariables false

set_option maxRecDepth 100000 in
set_option maxHeartbeats 8000000 in
theorem parsePrefix_any (s : List UInt8) (w : World) (hv : Vr w) (hs : s.length ≤ 1000000) :
    Calls Tryz.prog 44 #[.string (strL s)] w (Ret (psV (parsePF s)) w) := by
  have HP : Hid (Blk (w.alloc (.cells #[.bool false, .int .u64 0, .int .u64 0, .int .i64 0] 45 (0, 0))) w.heap.size 45 #[.bool false, .int .u64 0, .int .u64 0, .int .i64 0]) := Lib.hid (Blk.new w _ _)
  have HB : Hid (Below w.heap.size w (w.alloc (.cells #[.bool false, .int .u64 0, .int .u64 0, .int .i64 0] 45 (0, 0)))) := Lib.hid (below_alloc (Below.refl _ _) _)
  have HV := Lib.hid (hv.below (below_alloc (Below.refl _ _) (.cells #[.bool false, .int .u64 0, .int .u64 0, .int .i64 0] 45 (0, 0))))
  have hl := cut_le s [47]
  have HC : Hid (∀ wx, Vr wx → Calls Tryz.prog 28 #[.string (strL s), .string ⟨#[47]⟩] wx (Ret (.tuple #[.string (strL (Lib.cut s [47]).1), .string (strL (Lib.cut s [47]).2.1), .bool (Lib.cut s [47]).2.2]) wx)) := Lib.hid fun wx hv => cut_any s [47] wx hv hs
  have HL := Lib.hid fun wx (hv : Vr wx) => parse_any (Lib.cut s [47]).1 wx hv (Nat.le_trans hl.1 hs)
  have HNone : Hid (parseF (Lib.cut s [47]).1 = none → parsePF s = none) := Lib.hid parsePF_none
  have HK : Hid (∀ six hi lo, parseF (Lib.cut s [47]).1 = some (six, hi, lo) → ∀ bits wx, Calls Tryz.prog 74 #[.agg #[.bool six, .int .u64 (hi : Int), .int .u64 (lo : Int), .int .i64 bits]] wx (Ret (.int .i64 (pFault six hi lo bits)) wx)) := Lib.hid fun six hi lo h bits wx => by
    obtain ⟨h1, h2, -⟩ := parseF_ok (Nat.le_trans hl.1 hs) h
    exact checkPrefix_any six hi lo bits wx (by unfold U64N at h1; omega) (by unfold U64N at h2; omega)
  have HZ : Hid (∀ six hi lo bits, pFault six hi lo bits = 0 → ((bits.toNat : Nat) : Int) = bits) := Lib.hid fun six hi lo bits h => by
    obtain ⟨n, -, rfl⟩ := pFault_128 h
    rfl
  have HN := Lib.hid fun wx => number_any (Lib.cut s [47]).2.1 3 wx (Nat.le_trans hl.2 hs) (by decide)
  have HSome : Hid (∀ x h l, parseF (Lib.cut s [47]).1 = some (x, h, l) → parsePF s = if numOk (Lib.cut s [47]).2.1 3 = true ∧ pFault x h l (numV (Lib.cut s [47]).2.1) = 0 then some (x, h, l, (numV (Lib.cut s [47]).2.1).toNat) else none) := Lib.hid fun x h l e => parsePF_prog e
  obtain ⟨PR, hPR⟩ : ∃ q, parsePF s = q := ⟨_, rfl⟩
  rw [hPR] at HNone ⊢
  simp only [hPR] at HSome
  generalize parseF (Lib.cut s [47]).1 = R at *
  obtain ⟨N, hN⟩ : ∃ q, (if numOk (Lib.cut s [47]).2.1 3 = true then numV (Lib.cut s [47]).2.1 else 0) = q := ⟨_, rfl⟩
  have HNv : Hid (numOk (Lib.cut s [47]).2.1 3 = true → N = numV (Lib.cut s [47]).2.1) := Lib.hid fun h => by rw [← hN, if_pos h]
  rw [hN] at HN
  generalize numOk (Lib.cut s [47]).2.1 3 = ok at *
  generalize numV (Lib.cut s [47]).2.1 = nv at *
  clear hN
  generalize strL (Lib.cut s [47]).1 = SL at *
  generalize strL (Lib.cut s [47]).2.1 = SR at *
  generalize (Lib.cut s [47]).2.2 = CB at *
  generalize strL s = SS at *
  clear hv hs hl hPR
  go_enter Tryz.func44, Tryz.ntmps44
  go_upto_region 1 with fail
  generalize w.alloc (.cells #[.bool false, .int .u64 0, .int .u64 0, .int .i64 0] 45 (0, 0)) = w1 at *
  obtain ⟨bx, hbx⟩ : ∃ q, w.heap.size = q := ⟨_, rfl⟩
  have Hbx := Lib.hid hbx
  rw [hbx] at HP HB ⊢
  clear hbx
  have HRet : Hid (∀ wx (sx : Bool) (h l n : Int), Blk wx bx 45 #[.bool false, .int .u64 0, .int .u64 0, .int .i64 0] → Below bx w wx → Below bx w ((((wx.setCell ⟨bx, 0, none⟩ (.bool sx)).setCell ⟨bx, 1, none⟩ (.int .u64 h)).setCell ⟨bx, 2, none⟩ (.int .u64 l)).setCell ⟨bx, 3, none⟩ (.int .i64 n))) := Lib.hid fun wx sx h l n hp hb => hb.grown (grown_setCells bx [.bool sx, .int .u64 h, .int .u64 l, .int .i64 n] 0 wx) (Nat.le_of_lt hp.lt) (fun k hk => by injection hk with hk; omega)
  go_wp2_with fail
  refine (HC.out _ HV.out).mono ?_
  rintro e w2 ⟨rfl, hb⟩
  have HP2 := Lib.hid (HP.out.below hb HP.out.lt)
  have HB2 := Lib.hid (HB.out.trans (hb.mono (Nat.le_of_lt HP.out.lt)))
  have HV2 := Lib.hid (HV.out.below hb)
  clear hb HP HB HV HC
  go_wp2_with fail
  refine (HL.out _ HV2.out).mono ?_
  rintro e w3 ⟨rfl, hb⟩
  have HP3 := Lib.hid (HP2.out.below hb HP2.out.lt)
  have HB3 := Lib.hid (HB2.out.trans (hb.mono (Nat.le_of_lt HP2.out.lt)))
  have HV3 := Lib.hid (HV2.out.below hb)
  clear hb HP2 HB2 HV2 HL
  rcases R with _ | ⟨six, hi, lo⟩
  · have hR : PR = none := HNone.out rfl
    subst hR
    clear HNone HSome HK HZ HNv
    rw [show lsV none = .tuple #[.agg #[.bool false, .int .u64 0, .int .u64 0], .int .i64 9] from rfl]
    rw [show psV none = .tuple #[.agg #[.bool false, .int .u64 0, .int .u64 0, .int .i64 0], .int .i64 9] from rfl]
    have HP4 := Lib.hid (HP3.out.alloc (.cells #[.bool false, .int .u64 0, .int .u64 0] 29 (0, 0)))
    have HB4 := Lib.hid (HB3.out.alloc (Nat.le_of_lt HP3.out.lt) (.cells #[.bool false, .int .u64 0, .int .u64 0] 29 (0, 0)))
    have HV4 := Lib.hid (HV3.out.below (below_alloc (Below.refl _ _) (.cells #[.bool false, .int .u64 0, .int .u64 0] 29 (0, 0))))
    have HA4 : Hid (Blk (w3.alloc (.cells #[.bool false, .int .u64 0, .int .u64 0] 29 (0, 0))) w3.heap.size 29 #[.bool false, .int .u64 0, .int .u64 0]) := Lib.hid (Blk.new w3 _ _)
    clear HP3 HB3 HV3
    go_upto_region 3 with fail
    generalize w3.alloc (.cells #[.bool false, .int .u64 0, .int .u64 0] 29 (0, 0)) = w4 at *
    generalize w3.heap.size = ab at *
    have HNx := Lib.hid (HN.out w4)
    clear HN
    go_wp2_with fail
    refine HNx.out.mono ?_
    rintro e w5 ⟨rfl, hb⟩
    have HP5 := Lib.hid (HP4.out.below hb HP4.out.lt)
    have HB5 := Lib.hid (HB4.out.trans (hb.mono (Nat.le_of_lt HP4.out.lt)))
    have HA5 := Lib.hid (HA4.out.below hb HA4.out.lt)
    have HV5 := Lib.hid (HV4.out.below hb)
    clear hb HP4 HB4 HA4 HV4 HNx
    have a0 := HA5.out.cell 0
    have a1 := HA5.out.cell 1
    have a2 := HA5.out.cell 2
    simp at a0 a1 a2
    have HP6 := Lib.hid (HP5.out.alloc (.cells #[.bool false, .int .u64 0, .int .u64 0, .int .i64 N] 45 (0, 0)))
    have HB6 := Lib.hid (HB5.out.alloc (Nat.le_of_lt HP5.out.lt) (.cells #[.bool false, .int .u64 0, .int .u64 0, .int .i64 N] 45 (0, 0)))
    have HV6 := Lib.hid (HV5.out.below (below_alloc (Below.refl _ _) (.cells #[.bool false, .int .u64 0, .int .u64 0, .int .i64 N] 45 (0, 0))))
    have HQ6 : Hid (Blk (w5.alloc (.cells #[.bool false, .int .u64 0, .int .u64 0, .int .i64 N] 45 (0, 0))) w5.heap.size 45 #[.bool false, .int .u64 0, .int .u64 0, .int .i64 N]) := Lib.hid (Blk.new w5 _ _)
    clear HP5 HB5 HV5
    go_upto_region 5 with fail
    generalize w5.alloc (.cells #[.bool false, .int .u64 0, .int .u64 0, .int .i64 N] 45 (0, 0)) = w6 at *
    generalize w5.heap.size = pb at *
    clear a0 a1 a2 HA5
    have q0 := HP6.out.cell 0
    have q1 := HP6.out.cell 1
    have q2 := HP6.out.cell 2
    have q3 := HP6.out.cell 3
    have qf := HP6.out.free
    simp at q0 q1 q2 q3
    have c4 := (HP6.out.set4p (x' := .bool false) (y' := .int .u64 0) (z' := .int .u64 0) (u' := .int .i64 0))
    have HBf := Lib.hid (HRet.out w6 false 0 0 0 HP6.out HB6.out)
    have d0 := c4.cell 0
    have d1 := c4.cell 1
    have d2 := c4.cell 2
    have d3 := c4.cell 3
    simp at d0 d1 d2 d3
    clear c4
    go_wp2_with fail
    refine bodyPost_ret (v := .tuple #[.agg #[.bool false, .int .u64 0, .int .u64 0, .int .i64 0], .int .i64 9]) (by simp [results, Tryz.results44, go_sem, *]) rfl ⟨by first | rfl | (rw [HPs.out]), by rw [Hbx.out]; exact HBf.out⟩
  · have HKx := Lib.hid (HK.out six hi lo rfl)
    have HE := Lib.hid (HSome.out six hi lo rfl)
    clear HNone HSome HK
    rw [show lsV (some (six, hi, lo)) = .tuple #[.agg #[.bool six, .int .u64 (hi : Int), .int .u64 (lo : Int)], .int .i64 0] from rfl]
    have HP4 := Lib.hid (HP3.out.alloc (.cells #[.bool six, .int .u64 (hi : Int), .int .u64 (lo : Int)] 29 (0, 0)))
    have HB4 := Lib.hid (HB3.out.alloc (Nat.le_of_lt HP3.out.lt) (.cells #[.bool six, .int .u64 (hi : Int), .int .u64 (lo : Int)] 29 (0, 0)))
    have HV4 := Lib.hid (HV3.out.below (below_alloc (Below.refl _ _) (.cells #[.bool six, .int .u64 (hi : Int), .int .u64 (lo : Int)] 29 (0, 0))))
    have HA4 : Hid (Blk (w3.alloc (.cells #[.bool six, .int .u64 (hi : Int), .int .u64 (lo : Int)] 29 (0, 0))) w3.heap.size 29 #[.bool six, .int .u64 (hi : Int), .int .u64 (lo : Int)]) := Lib.hid (Blk.new w3 _ _)
    clear HP3 HB3 HV3
    go_upto_region 3 with fail
    generalize w3.alloc (.cells #[.bool six, .int .u64 (hi : Int), .int .u64 (lo : Int)] 29 (0, 0)) = w4 at *
    generalize w3.heap.size = ab at *
    have HNx := Lib.hid (HN.out w4)
    clear HN
    go_wp2_with fail
    refine HNx.out.mono ?_
    rintro e w5 ⟨rfl, hb⟩
    have HP5 := Lib.hid (HP4.out.below hb HP4.out.lt)
    have HB5 := Lib.hid (HB4.out.trans (hb.mono (Nat.le_of_lt HP4.out.lt)))
    have HA5 := Lib.hid (HA4.out.below hb HA4.out.lt)
    have HV5 := Lib.hid (HV4.out.below hb)
    clear hb HP4 HB4 HA4 HV4 HNx
    have a0 := HA5.out.cell 0
    have a1 := HA5.out.cell 1
    have a2 := HA5.out.cell 2
    simp at a0 a1 a2
    have HP6 := Lib.hid (HP5.out.alloc (.cells #[.bool six, .int .u64 (hi : Int), .int .u64 (lo : Int), .int .i64 N] 45 (0, 0)))
    have HB6 := Lib.hid (HB5.out.alloc (Nat.le_of_lt HP5.out.lt) (.cells #[.bool six, .int .u64 (hi : Int), .int .u64 (lo : Int), .int .i64 N] 45 (0, 0)))
    have HV6 := Lib.hid (HV5.out.below (below_alloc (Below.refl _ _) (.cells #[.bool six, .int .u64 (hi : Int), .int .u64 (lo : Int), .int .i64 N] 45 (0, 0))))
    have HQ6 : Hid (Blk (w5.alloc (.cells #[.bool six, .int .u64 (hi : Int), .int .u64 (lo : Int), .int .i64 N] 45 (0, 0))) w5.heap.size 45 #[.bool six, .int .u64 (hi : Int), .int .u64 (lo : Int), .int .i64 N]) := Lib.hid (Blk.new w5 _ _)
    clear HP5 HB5 HV5
    go_upto_region 5 with fail
    generalize w5.alloc (.cells #[.bool six, .int .u64 (hi : Int), .int .u64 (lo : Int), .int .i64 N] 45 (0, 0)) = w6 at *
    generalize w5.heap.size = pb at *
    clear a0 a1 a2 HA5
    cases ok
    · have hR : PR = none := HE.out.trans (if_neg fun h => by cases h.1)
      subst hR
      clear HE HKx HZ HNv
      rw [show psV none = .tuple #[.agg #[.bool false, .int .u64 0, .int .u64 0, .int .i64 0], .int .i64 9] from rfl]
      have q0 := HP6.out.cell 0
      have q1 := HP6.out.cell 1
      have q2 := HP6.out.cell 2
      have q3 := HP6.out.cell 3
      have qf := HP6.out.free
      simp at q0 q1 q2 q3
      have c4 := (HP6.out.set4p (x' := .bool false) (y' := .int .u64 0) (z' := .int .u64 0) (u' := .int .i64 0))
      have HBf := Lib.hid (HRet.out w6 false 0 0 0 HP6.out HB6.out)
      have d0 := c4.cell 0
      have d1 := c4.cell 1
      have d2 := c4.cell 2
      have d3 := c4.cell 3
      simp at d0 d1 d2 d3
      clear c4
      go_wp2_with fail
      refine bodyPost_ret (v := .tuple #[.agg #[.bool false, .int .u64 0, .int .u64 0, .int .i64 0], .int .i64 9]) (by simp [results, Tryz.results44, go_sem, *]) rfl ⟨by first | rfl | (rw [HPs.out]), by rw [Hbx.out]; exact HBf.out⟩
    · obtain rfl : N = nv := HNv.out rfl
      have HZx := Lib.hid (HZ.out six hi lo N)
      have HKy := Lib.hid (HKx.out N w6)
      clear HZ HKx HNv
      generalize pFault six hi lo N = pf at *
      have p0 := HQ6.out.cell 0
      have p1 := HQ6.out.cell 1
      have p2 := HQ6.out.cell 2
      have p3 := HQ6.out.cell 3
      simp at p0 p1 p2 p3
      go_wp2_with fail
      refine HKy.out.mono ?_
      rintro e w7 ⟨rfl, hb⟩
      have HP7 := Lib.hid (HP6.out.below hb HP6.out.lt)
      have HQ7 := Lib.hid (HQ6.out.below hb HQ6.out.lt)
      have HB7 := Lib.hid (HB6.out.trans (hb.mono (Nat.le_of_lt HP6.out.lt)))
      clear hb HP6 HQ6 HB6 HV6 HKy p0 p1 p2 p3
      by_cases hz : pf = 0
      · have hR : PR = some (six, hi, lo, N.toNat) := HE.out.trans (if_pos (by simp [hz]))
        have hn := HZx.out hz
        subst hR
        subst hz
        have HPs : Hid (psV (some (six, hi, lo, N.toNat)) = .tuple #[.agg #[.bool six, .int .u64 (hi : Int), .int .u64 (lo : Int), .int .i64 N], .int .i64 0]) := Lib.hid (by show Value.tuple #[.agg #[.bool six, .int .u64 (hi : Int), .int .u64 (lo : Int), .int .i64 ((N.toNat : Nat) : Int)], .int .i64 0] = _; rw [hn])
        clear HE HZx hn
        have p0 := HQ7.out.cell 0
        have p1 := HQ7.out.cell 1
        have p2 := HQ7.out.cell 2
        have p3 := HQ7.out.cell 3
        simp at p0 p1 p2 p3
        have q0 := HP7.out.cell 0
        have q1 := HP7.out.cell 1
        have q2 := HP7.out.cell 2
        have q3 := HP7.out.cell 3
        have qf := HP7.out.free
        simp at q0 q1 q2 q3
        have c4 := (HP7.out.set4p (x' := .bool six) (y' := .int .u64 (hi : Int)) (z' := .int .u64 (lo : Int)) (u' := .int .i64 N))
        have HBf := Lib.hid (HRet.out w7 six (hi : Int) (lo : Int) N HP7.out HB7.out)
        have d0 := c4.cell 0
        have d1 := c4.cell 1
        have d2 := c4.cell 2
        have d3 := c4.cell 3
        simp at d0 d1 d2 d3
        clear c4
        go_wp2_with fail
        refine bodyPost_ret (v := .tuple #[.agg #[.bool six, .int .u64 (hi : Int), .int .u64 (lo : Int), .int .i64 N], .int .i64 0]) (by simp [results, Tryz.results44, go_sem, *]) rfl ⟨by first | rfl | (rw [HPs.out]), by rw [Hbx.out]; exact HBf.out⟩
      · have hR : PR = none := HE.out.trans (if_neg fun h => hz h.2)
        have hb1 : (pf != 0) = true := by simpa using hz
        subst hR
        clear HE HZx
        rw [show psV none = .tuple #[.agg #[.bool false, .int .u64 0, .int .u64 0, .int .i64 0], .int .i64 9] from rfl]
        have q0 := HP7.out.cell 0
        have q1 := HP7.out.cell 1
        have q2 := HP7.out.cell 2
        have q3 := HP7.out.cell 3
        have qf := HP7.out.free
        simp at q0 q1 q2 q3
        have c4 := (HP7.out.set4p (x' := .bool false) (y' := .int .u64 0) (z' := .int .u64 0) (u' := .int .i64 0))
        have HBf := Lib.hid (HRet.out w7 false 0 0 0 HP7.out HB7.out)
        have d0 := c4.cell 0
        have d1 := c4.cell 1
        have d2 := c4.cell 2
        have d3 := c4.cell 3
        simp at d0 d1 d2 d3
        clear c4
        go_wp2_with fail
        refine bodyPost_ret (v := .tuple #[.agg #[.bool false, .int .u64 0, .int .u64 0, .int .i64 0], .int .i64 9]) (by simp [results, Tryz.results44, go_sem, *]) rfl ⟨by first | rfl | (rw [HPs.out]), by rw [Hbx.out]; exact HBf.out⟩
set_option maxRecDepth 100000 in
set_option maxHeartbeats 8000000 in
theorem prefixParse_any (s : List UInt8) (w : World) (hv : Vr w) (hs : s.length ≤ 1000000) :
    Calls Tryz.prog 47 #[.string (strL s)] w (Ret (psV (parsePF s)) w) := by
  have HP : Hid (Blk (w.alloc (.cells #[.bool false, .int .u64 0, .int .u64 0, .int .i64 0] 45 (0, 0))) w.heap.size 45 #[.bool false, .int .u64 0, .int .u64 0, .int .i64 0]) := Lib.hid (Blk.new w _ _)
  have HB : Hid (Below w.heap.size w (w.alloc (.cells #[.bool false, .int .u64 0, .int .u64 0, .int .i64 0] 45 (0, 0)))) := Lib.hid (below_alloc (Below.refl _ _) _)
  have HV := Lib.hid (hv.below (below_alloc (Below.refl _ _) (.cells #[.bool false, .int .u64 0, .int .u64 0, .int .i64 0] 45 (0, 0))))
  have hl := cut_le s [47]
  have HC : Hid (∀ wx, Vr wx → Calls Tryz.prog 28 #[.string (strL s), .string ⟨#[47]⟩] wx (Ret (.tuple #[.string (strL (Lib.cut s [47]).1), .string (strL (Lib.cut s [47]).2.1), .bool (Lib.cut s [47]).2.2]) wx)) := Lib.hid fun wx hv => cut_any s [47] wx hv hs
  have HL := Lib.hid fun wx (hv : Vr wx) => addrParse_any (Lib.cut s [47]).1 wx hv (Nat.le_trans hl.1 hs)
  have HNone : Hid (parseF (Lib.cut s [47]).1 = none → parsePF s = none) := Lib.hid parsePF_none
  have HK : Hid (∀ six hi lo, parseF (Lib.cut s [47]).1 = some (six, hi, lo) → ∀ bits wx, Calls Tryz.prog 39 #[.agg #[.bool six, .int .u64 (hi : Int), .int .u64 (lo : Int), .int .i64 bits]] wx (Ret (.int .i64 (pFault six hi lo bits)) wx)) := Lib.hid fun six hi lo h bits wx => by
    obtain ⟨h1, h2, -⟩ := parseF_ok (Nat.le_trans hl.1 hs) h
    exact prefixFault_any six hi lo bits wx h1 h2
  have HZ : Hid (∀ six hi lo bits, pFault six hi lo bits = 0 → ((bits.toNat : Nat) : Int) = bits) := Lib.hid fun six hi lo bits h => by
    obtain ⟨n, -, rfl⟩ := pFault_128 h
    rfl
  have HN := Lib.hid fun wx (hv : Vr wx) => atoi_any (Lib.cut s [47]).2.1 wx hv (Nat.le_trans hl.2 hs)
  have HSome : Hid (∀ x h l v, parseF (Lib.cut s [47]).1 = some (x, h, l) → Lib.atoiAll (Lib.cut s [47]).2.1 = .ok v → pFault x h l v = 0 → parsePF s = if pfxT x h l v.toNat = strL s then some (x, h, l, v.toNat) else none) := Lib.hid fun x h l v e e2 e3 => parsePF_ref e e2 e3
  have HSno : Hid (∀ x h l, parseF (Lib.cut s [47]).1 = some (x, h, l) → (∀ v, Lib.atoiAll (Lib.cut s [47]).2.1 = .ok v → pFault x h l v ≠ 0) → parsePF s = none) := Lib.hid fun x h l e e2 => parsePF_ref_none e e2
  have HT : Hid (∀ six hi lo bits, parseF (Lib.cut s [47]).1 = some (six, hi, lo) → pFault six hi lo bits = 0 → ∀ wx, Vr wx → Calls Tryz.prog 42 #[.agg #[.bool six, .int .u64 (hi : Int), .int .u64 (lo : Int), .int .i64 bits]] wx (Ret (.string (pfxT six hi lo bits.toNat)) wx)) := Lib.hid fun six hi lo bits h hf wx hv => by
    obtain ⟨h1, h2, h3⟩ := parseF_ok (Nat.le_trans hl.1 hs) h
    obtain ⟨n, hn, rfl⟩ := pFault_128 hf
    exact prefixLine_any six hi lo n wx h1 h2 h3 (by omega) hv.tb
  obtain ⟨PR, hPR⟩ : ∃ q, parsePF s = q := ⟨_, rfl⟩
  rw [hPR] at HNone ⊢
  simp only [hPR] at HSome HSno
  generalize parseF (Lib.cut s [47]).1 = R at *
  generalize Lib.atoiAll (Lib.cut s [47]).2.1 = AT at *
  generalize strL (Lib.cut s [47]).1 = SL at *
  generalize strL (Lib.cut s [47]).2.1 = SR at *
  generalize (Lib.cut s [47]).2.2 = CB at *
  generalize strL s = SS at *
  clear hv hs hl hPR
  go_enter Tryz.func47, Tryz.ntmps47
  go_upto_region 1 with fail
  generalize w.alloc (.cells #[.bool false, .int .u64 0, .int .u64 0, .int .i64 0] 45 (0, 0)) = w1 at *
  obtain ⟨bx, hbx⟩ : ∃ q, w.heap.size = q := ⟨_, rfl⟩
  have Hbx := Lib.hid hbx
  rw [hbx] at HP HB ⊢
  clear hbx
  have HRet : Hid (∀ wx (sx : Bool) (h l n : Int), Blk wx bx 45 #[.bool false, .int .u64 0, .int .u64 0, .int .i64 0] → Below bx w wx → Below bx w ((((wx.setCell ⟨bx, 0, none⟩ (.bool sx)).setCell ⟨bx, 1, none⟩ (.int .u64 h)).setCell ⟨bx, 2, none⟩ (.int .u64 l)).setCell ⟨bx, 3, none⟩ (.int .i64 n))) := Lib.hid fun wx sx h l n hp hb => hb.grown (grown_setCells bx [.bool sx, .int .u64 h, .int .u64 l, .int .i64 n] 0 wx) (Nat.le_of_lt hp.lt) (fun k hk => by injection hk with hk; omega)
  go_wp2_with fail
  refine (HC.out _ HV.out).mono ?_
  rintro e w2 ⟨rfl, hb⟩
  have HP2 := Lib.hid (HP.out.below hb HP.out.lt)
  have HB2 := Lib.hid (HB.out.trans (hb.mono (Nat.le_of_lt HP.out.lt)))
  have HV2 := Lib.hid (HV.out.below hb)
  clear hb HP HB HV HC
  go_wp2_with fail
  refine (HL.out _ HV2.out).mono ?_
  rintro e w3 ⟨rfl, hb⟩
  have HP3 := Lib.hid (HP2.out.below hb HP2.out.lt)
  have HB3 := Lib.hid (HB2.out.trans (hb.mono (Nat.le_of_lt HP2.out.lt)))
  have HV3 := Lib.hid (HV2.out.below hb)
  clear hb HP2 HB2 HV2 HL
  rcases R with _ | ⟨six, hi, lo⟩
  · have hR : PR = none := HNone.out rfl
    subst hR
    clear HNone HSome HK HZ HSno HT
    rw [show lsV none = .tuple #[.agg #[.bool false, .int .u64 0, .int .u64 0], .int .i64 9] from rfl]
    rw [show psV none = .tuple #[.agg #[.bool false, .int .u64 0, .int .u64 0, .int .i64 0], .int .i64 9] from rfl]
    have HP4 := Lib.hid (HP3.out.alloc (.cells #[.bool false, .int .u64 0, .int .u64 0] 29 (0, 0)))
    have HB4 := Lib.hid (HB3.out.alloc (Nat.le_of_lt HP3.out.lt) (.cells #[.bool false, .int .u64 0, .int .u64 0] 29 (0, 0)))
    have HV4 := Lib.hid (HV3.out.below (below_alloc (Below.refl _ _) (.cells #[.bool false, .int .u64 0, .int .u64 0] 29 (0, 0))))
    have HA4 : Hid (Blk (w3.alloc (.cells #[.bool false, .int .u64 0, .int .u64 0] 29 (0, 0))) w3.heap.size 29 #[.bool false, .int .u64 0, .int .u64 0]) := Lib.hid (Blk.new w3 _ _)
    clear HP3 HB3 HV3
    go_upto_region 3 with fail
    generalize w3.alloc (.cells #[.bool false, .int .u64 0, .int .u64 0] 29 (0, 0)) = w4 at *
    generalize w3.heap.size = ab at *
    have HNx := Lib.hid (HN.out w4 HV4.out)
    clear HN
    go_wp2_with fail
    refine HNx.out.mono ?_
    rintro e w5 ⟨⟨v, ev, rfl, hcs⟩, hb⟩
    have HP5 := Lib.hid (HP4.out.below hb HP4.out.lt)
    have HB5 := Lib.hid (HB4.out.trans (hb.mono (Nat.le_of_lt HP4.out.lt)))
    have HA5 := Lib.hid (HA4.out.below hb HA4.out.lt)
    have HV5 := Lib.hid (HV4.out.below hb)
    have HCs := Lib.hid hcs
    clear hcs
    clear hb HP4 HB4 HA4 HV4 HNx
    have a0 := HA5.out.cell 0
    have a1 := HA5.out.cell 1
    have a2 := HA5.out.cell 2
    simp at a0 a1 a2
    have HP6 := Lib.hid (HP5.out.alloc (.cells #[.bool false, .int .u64 0, .int .u64 0, .int .i64 v] 45 (0, 0)))
    have HB6 := Lib.hid (HB5.out.alloc (Nat.le_of_lt HP5.out.lt) (.cells #[.bool false, .int .u64 0, .int .u64 0, .int .i64 v] 45 (0, 0)))
    have HV6 := Lib.hid (HV5.out.below (below_alloc (Below.refl _ _) (.cells #[.bool false, .int .u64 0, .int .u64 0, .int .i64 v] 45 (0, 0))))
    have HQ6 : Hid (Blk (w5.alloc (.cells #[.bool false, .int .u64 0, .int .u64 0, .int .i64 v] 45 (0, 0))) w5.heap.size 45 #[.bool false, .int .u64 0, .int .u64 0, .int .i64 v]) := Lib.hid (Blk.new w5 _ _)
    clear HP5 HB5 HV5
    go_upto_region 5 with fail
    generalize w5.alloc (.cells #[.bool false, .int .u64 0, .int .u64 0, .int .i64 v] 45 (0, 0)) = w6 at *
    generalize w5.heap.size = pb at *
    clear a0 a1 a2 HA5
    have q0 := HP6.out.cell 0
    have q1 := HP6.out.cell 1
    have q2 := HP6.out.cell 2
    have q3 := HP6.out.cell 3
    have qf := HP6.out.free
    simp at q0 q1 q2 q3
    have c4 := (HP6.out.set4p (x' := .bool false) (y' := .int .u64 0) (z' := .int .u64 0) (u' := .int .i64 0))
    have HBf := Lib.hid (HRet.out w6 false 0 0 0 HP6.out HB6.out)
    have d0 := c4.cell 0
    have d1 := c4.cell 1
    have d2 := c4.cell 2
    have d3 := c4.cell 3
    simp at d0 d1 d2 d3
    clear c4
    go_wp2_with fail
    refine bodyPost_ret (v := .tuple #[.agg #[.bool false, .int .u64 0, .int .u64 0, .int .i64 0], .int .i64 9]) (by simp [results, Tryz.results47, go_sem, *]) rfl ⟨by first | rfl | (rw [HPs.out]), by rw [Hbx.out]; exact HBf.out⟩
  · have HKx := Lib.hid (HK.out six hi lo rfl)
    have HE := Lib.hid fun v => HSome.out six hi lo v rfl
    have HEn := Lib.hid (HSno.out six hi lo rfl)
    have HTx := Lib.hid fun bits => HT.out six hi lo bits rfl
    clear HNone HSome HK HSno HT
    rw [show lsV (some (six, hi, lo)) = .tuple #[.agg #[.bool six, .int .u64 (hi : Int), .int .u64 (lo : Int)], .int .i64 0] from rfl]
    have HP4 := Lib.hid (HP3.out.alloc (.cells #[.bool six, .int .u64 (hi : Int), .int .u64 (lo : Int)] 29 (0, 0)))
    have HB4 := Lib.hid (HB3.out.alloc (Nat.le_of_lt HP3.out.lt) (.cells #[.bool six, .int .u64 (hi : Int), .int .u64 (lo : Int)] 29 (0, 0)))
    have HV4 := Lib.hid (HV3.out.below (below_alloc (Below.refl _ _) (.cells #[.bool six, .int .u64 (hi : Int), .int .u64 (lo : Int)] 29 (0, 0))))
    have HA4 : Hid (Blk (w3.alloc (.cells #[.bool six, .int .u64 (hi : Int), .int .u64 (lo : Int)] 29 (0, 0))) w3.heap.size 29 #[.bool six, .int .u64 (hi : Int), .int .u64 (lo : Int)]) := Lib.hid (Blk.new w3 _ _)
    clear HP3 HB3 HV3
    go_upto_region 3 with fail
    generalize w3.alloc (.cells #[.bool six, .int .u64 (hi : Int), .int .u64 (lo : Int)] 29 (0, 0)) = w4 at *
    generalize w3.heap.size = ab at *
    have HNx := Lib.hid (HN.out w4 HV4.out)
    clear HN
    go_wp2_with fail
    refine HNx.out.mono ?_
    rintro e w5 ⟨⟨v, ev, rfl, hcs⟩, hb⟩
    have HP5 := Lib.hid (HP4.out.below hb HP4.out.lt)
    have HB5 := Lib.hid (HB4.out.trans (hb.mono (Nat.le_of_lt HP4.out.lt)))
    have HA5 := Lib.hid (HA4.out.below hb HA4.out.lt)
    have HV5 := Lib.hid (HV4.out.below hb)
    have HCs := Lib.hid hcs
    clear hcs
    clear hb HP4 HB4 HA4 HV4 HNx
    have a0 := HA5.out.cell 0
    have a1 := HA5.out.cell 1
    have a2 := HA5.out.cell 2
    simp at a0 a1 a2
    have HP6 := Lib.hid (HP5.out.alloc (.cells #[.bool six, .int .u64 (hi : Int), .int .u64 (lo : Int), .int .i64 v] 45 (0, 0)))
    have HB6 := Lib.hid (HB5.out.alloc (Nat.le_of_lt HP5.out.lt) (.cells #[.bool six, .int .u64 (hi : Int), .int .u64 (lo : Int), .int .i64 v] 45 (0, 0)))
    have HV6 := Lib.hid (HV5.out.below (below_alloc (Below.refl _ _) (.cells #[.bool six, .int .u64 (hi : Int), .int .u64 (lo : Int), .int .i64 v] 45 (0, 0))))
    have HQ6 : Hid (Blk (w5.alloc (.cells #[.bool six, .int .u64 (hi : Int), .int .u64 (lo : Int), .int .i64 v] 45 (0, 0))) w5.heap.size 45 #[.bool six, .int .u64 (hi : Int), .int .u64 (lo : Int), .int .i64 v]) := Lib.hid (Blk.new w5 _ _)
    clear HP5 HB5 HV5
    go_upto_region 5 with fail
    generalize w5.alloc (.cells #[.bool six, .int .u64 (hi : Int), .int .u64 (lo : Int), .int .i64 v] 45 (0, 0)) = w6 at *
    generalize w5.heap.size = pb at *
    clear a0 a1 a2 HA5
    cases AT with
    | ok u =>
      have hcs := HCs.out
      simp only at hcs
      obtain ⟨rfl, rfl⟩ := hcs
      clear HCs
      have HE2 := Lib.hid (HE.out v rfl)
      have HEn2 : Hid (pFault six hi lo v ≠ 0 → PR = none) := Lib.hid fun h => HEn.out fun u hu => by
        injection hu with hu
        subst hu
        exact h
      have HZx := Lib.hid (HZ.out six hi lo v)
      have HKy := Lib.hid (HKx.out v w6)
      have HTy := Lib.hid (HTx.out v)
      clear HE HEn HZ HKx HTx
      generalize pFault six hi lo v = pf at *
      generalize pfxT six hi lo v.toNat = PT at *
      have p0 := HQ6.out.cell 0
      have p1 := HQ6.out.cell 1
      have p2 := HQ6.out.cell 2
      have p3 := HQ6.out.cell 3
      simp at p0 p1 p2 p3
      go_wp2_with fail
      refine HKy.out.mono ?_
      rintro e w7 ⟨rfl, hb⟩
      have HP7 := Lib.hid (HP6.out.below hb HP6.out.lt)
      have HQ7 := Lib.hid (HQ6.out.below hb HQ6.out.lt)
      have HB7 := Lib.hid (HB6.out.trans (hb.mono (Nat.le_of_lt HP6.out.lt)))
      have HV7 := Lib.hid (HV6.out.below hb)
      clear hb HP6 HQ6 HB6 HV6 HKy p0 p1 p2 p3
      by_cases hz : pf = 0
      · have HTz := Lib.hid (HTy.out hz w7 HV7.out)
        have hR := HE2.out hz
        have hn := HZx.out hz
        subst hz
        have HR := Lib.hid hR
        have Hn := Lib.hid hn
        clear HE2 HEn2 HZx HTy hR hn
        have p0 := HQ7.out.cell 0
        have p1 := HQ7.out.cell 1
        have p2 := HQ7.out.cell 2
        have p3 := HQ7.out.cell 3
        simp at p0 p1 p2 p3
        go_wp2_with fail
        refine HTz.out.mono ?_
        rintro e w8 ⟨rfl, hb⟩
        have HP8 := Lib.hid (HP7.out.below hb HP7.out.lt)
        have HQ8 := Lib.hid (HQ7.out.below hb HQ7.out.lt)
        have HB8 := Lib.hid (HB7.out.trans (hb.mono (Nat.le_of_lt HP7.out.lt)))
        clear hb HP7 HQ7 HB7 HV7 HTz p0 p1 p2 p3
        have hcmp : (PT.toList == SS.toList) = decide (PT = SS) := by
          by_cases e : PT = SS
          · rw [decide_eq_true e, e]; exact beq_self_eq_true _
          · rw [decide_eq_false e]
            exact beq_eq_false_iff_ne.2 fun h => e (by
              rw [ByteArray.toList_eq, ByteArray.toList_eq] at h
              exact ByteArray.ext (Array.toList_inj.1 h))
        by_cases he : PT = SS
        · have hR := HR.out
          rw [if_pos he] at hR
          subst hR
          rw [decide_eq_true he] at hcmp
          have hcmp2 : PT.toList = SS.toList := by rw [he]
          have HPs : Hid (psV (some (six, hi, lo, v.toNat)) = .tuple #[.agg #[.bool six, .int .u64 (hi : Int), .int .u64 (lo : Int), .int .i64 v], .int .i64 0]) := Lib.hid (by show Value.tuple #[.agg #[.bool six, .int .u64 (hi : Int), .int .u64 (lo : Int), .int .i64 ((v.toNat : Nat) : Int)], .int .i64 0] = _; rw [Hn.out])
          clear HR Hn he
          have p0 := HQ8.out.cell 0
          have p1 := HQ8.out.cell 1
          have p2 := HQ8.out.cell 2
          have p3 := HQ8.out.cell 3
          simp at p0 p1 p2 p3
          have q0 := HP8.out.cell 0
          have q1 := HP8.out.cell 1
          have q2 := HP8.out.cell 2
          have q3 := HP8.out.cell 3
          have qf := HP8.out.free
          simp at q0 q1 q2 q3
          have c4 := (HP8.out.set4p (x' := .bool six) (y' := .int .u64 (hi : Int)) (z' := .int .u64 (lo : Int)) (u' := .int .i64 v))
          have HBf := Lib.hid (HRet.out w8 six (hi : Int) (lo : Int) v HP8.out HB8.out)
          have d0 := c4.cell 0
          have d1 := c4.cell 1
          have d2 := c4.cell 2
          have d3 := c4.cell 3
          simp at d0 d1 d2 d3
          clear c4
          go_wp2_with fail
          refine bodyPost_ret (v := .tuple #[.agg #[.bool six, .int .u64 (hi : Int), .int .u64 (lo : Int), .int .i64 v], .int .i64 0]) (by simp [results, Tryz.results47, go_sem, *]) rfl ⟨by first | rfl | (rw [HPs.out]), by rw [Hbx.out]; exact HBf.out⟩
        · have hR := HR.out
          rw [if_neg he] at hR
          subst hR
          rw [decide_eq_false he] at hcmp
          have hcmp2 : ¬ PT.toList = SS.toList := by
            intro h
            have : (PT.toList == SS.toList) = true := by rw [h]; exact beq_self_eq_true _
            rw [hcmp] at this
            cases this
          clear HR Hn he
          rw [show psV none = .tuple #[.agg #[.bool false, .int .u64 0, .int .u64 0, .int .i64 0], .int .i64 9] from rfl]
          have q0 := HP8.out.cell 0
          have q1 := HP8.out.cell 1
          have q2 := HP8.out.cell 2
          have q3 := HP8.out.cell 3
          have qf := HP8.out.free
          simp at q0 q1 q2 q3
          have c4 := (HP8.out.set4p (x' := .bool false) (y' := .int .u64 0) (z' := .int .u64 0) (u' := .int .i64 0))
          have HBf := Lib.hid (HRet.out w8 false 0 0 0 HP8.out HB8.out)
          have d0 := c4.cell 0
          have d1 := c4.cell 1
          have d2 := c4.cell 2
          have d3 := c4.cell 3
          simp at d0 d1 d2 d3
          clear c4
          go_wp2_with fail
          refine bodyPost_ret (v := .tuple #[.agg #[.bool false, .int .u64 0, .int .u64 0, .int .i64 0], .int .i64 9]) (by simp [results, Tryz.results47, go_sem, *]) rfl ⟨by first | rfl | (rw [HPs.out]), by rw [Hbx.out]; exact HBf.out⟩
      · have hR : PR = none := HEn2.out hz
        have hb1 : (pf != 0) = true := by simpa using hz
        subst hR
        clear HE2 HEn2 HZx HTy
        rw [show psV none = .tuple #[.agg #[.bool false, .int .u64 0, .int .u64 0, .int .i64 0], .int .i64 9] from rfl]
        have q0 := HP7.out.cell 0
        have q1 := HP7.out.cell 1
        have q2 := HP7.out.cell 2
        have q3 := HP7.out.cell 3
        have qf := HP7.out.free
        simp at q0 q1 q2 q3
        have c4 := (HP7.out.set4p (x' := .bool false) (y' := .int .u64 0) (z' := .int .u64 0) (u' := .int .i64 0))
        have HBf := Lib.hid (HRet.out w7 false 0 0 0 HP7.out HB7.out)
        have d0 := c4.cell 0
        have d1 := c4.cell 1
        have d2 := c4.cell 2
        have d3 := c4.cell 3
        simp at d0 d1 d2 d3
        clear c4
        go_wp2_with fail
        refine bodyPost_ret (v := .tuple #[.agg #[.bool false, .int .u64 0, .int .u64 0, .int .i64 0], .int .i64 9]) (by simp [results, Tryz.results47, go_sem, *]) rfl ⟨by first | rfl | (rw [HPs.out]), by rw [Hbx.out]; exact HBf.out⟩
    | range =>
      have hR : PR = none := HEn.out fun v h => by cases h
      subst hR
      clear HE HEn HTx HZ HKx
      have hcs := HCs.out
      simp only at hcs
      obtain ⟨tt, tp, rfl⟩ := hcs
      clear HCs
      rw [show psV none = .tuple #[.agg #[.bool false, .int .u64 0, .int .u64 0, .int .i64 0], .int .i64 9] from rfl]
      have q0 := HP6.out.cell 0
      have q1 := HP6.out.cell 1
      have q2 := HP6.out.cell 2
      have q3 := HP6.out.cell 3
      have qf := HP6.out.free
      simp at q0 q1 q2 q3
      have c4 := (HP6.out.set4p (x' := .bool false) (y' := .int .u64 0) (z' := .int .u64 0) (u' := .int .i64 0))
      have HBf := Lib.hid (HRet.out w6 false 0 0 0 HP6.out HB6.out)
      have d0 := c4.cell 0
      have d1 := c4.cell 1
      have d2 := c4.cell 2
      have d3 := c4.cell 3
      simp at d0 d1 d2 d3
      clear c4
      go_wp2_with fail
      refine bodyPost_ret (v := .tuple #[.agg #[.bool false, .int .u64 0, .int .u64 0, .int .i64 0], .int .i64 9]) (by simp [results, Tryz.results47, go_sem, *]) rfl ⟨by first | rfl | (rw [HPs.out]), by rw [Hbx.out]; exact HBf.out⟩
    | _ =>
      have hR : PR = none := HEn.out fun v h => by cases h
      subst hR
      clear HE HEn HTx HZ HKx
      have hcs := HCs.out
      simp only at hcs
      obtain ⟨tt, tp, rfl⟩ := hcs
      clear HCs
      rw [show psV none = .tuple #[.agg #[.bool false, .int .u64 0, .int .u64 0, .int .i64 0], .int .i64 9] from rfl]
      have q0 := HP6.out.cell 0
      have q1 := HP6.out.cell 1
      have q2 := HP6.out.cell 2
      have q3 := HP6.out.cell 3
      have qf := HP6.out.free
      simp at q0 q1 q2 q3
      have c4 := (HP6.out.set4p (x' := .bool false) (y' := .int .u64 0) (z' := .int .u64 0) (u' := .int .i64 0))
      have HBf := Lib.hid (HRet.out w6 false 0 0 0 HP6.out HB6.out)
      have d0 := c4.cell 0
      have d1 := c4.cell 1
      have d2 := c4.cell 2
      have d3 := c4.cell 3
      simp at d0 d1 d2 d3
      clear c4
      go_wp2_with fail
      refine bodyPost_ret (v := .tuple #[.agg #[.bool false, .int .u64 0, .int .u64 0, .int .i64 0], .int .i64 9]) (by simp [results, Tryz.results47, go_sem, *]) rfl ⟨by first | rfl | (rw [HPs.out]), by rw [Hbx.out]; exact HBf.out⟩
end Go.Proofs.YtcpafmndjcejjaaGreatDoor
