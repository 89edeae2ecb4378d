/-
  The reference's SqueezeTable: its closures, then the whole.
-/
import Derived.Test.YteccghdegckjhaaGreatDoorTD22
import Derived.Test.YteccghdegckjhaaGreatDoorTD17
import Derived.Test.YteccghdegckjhaaGreatDoorTD16
set_option linter.unusedVariables false
namespace Go.Proofs.YteccghdegckjhaaGreatDoor
open Go.RowKit Go
set_option linter.unusedVariables false

set_option maxRecDepth 100000 in
set_option maxHeartbeats 2000000 in
theorem sq11_any (x y : En) (bx : Nat) (w : World) (hb : Blk w bx 48 (layEn.enc x).toArray) :
    Calls Tryz.prog 65 #[.agg (layEn.enc y).toArray, .pointer (some ⟨bx, 0, none⟩)] w (Ret (.bool (!decide (y.1.2.2.2 < x.1.2.2.2))) w) := by
  obtain ⟨⟨a1, a2, a3, a4⟩, ka⟩ := x
  obtain ⟨⟨b1, b2, b3, b4⟩, kb⟩ := y
  show Calls Tryz.prog 65 #[.agg #[.bool b1, .int .u64 (b2 : Int), .int .u64 (b3 : Int), .int .i64 b4, .string (strL kb)], .pointer (some ⟨bx, 0, none⟩)] w (Ret (.bool (!decide (b4 < a4))) w)
  generalize strL kb = K at *
  have HX : Hid (Blk w bx 48 #[.bool a1, .int .u64 (a2 : Int), .int .u64 (a3 : Int), .int .i64 a4, .string (strL ka)]) := Lib.hid hb
  clear hb
  have HP : Hid (Blk (w.alloc (.cells #[.bool b1, .int .u64 (b2 : Int), .int .u64 (b3 : Int), .int .i64 b4, .string K] 48 (0, 0))) w.heap.size 48 #[.bool b1, .int .u64 (b2 : Int), .int .u64 (b3 : Int), .int .i64 b4, .string K]) := Lib.hid (Blk.new w _ _)
  have HX1 := Lib.hid (HX.out.alloc (.cells #[.bool b1, .int .u64 (b2 : Int), .int .u64 (b3 : Int), .int .i64 b4, .string K] 48 (0, 0)))
  have HB : Hid (Below w.heap.size w (w.alloc (.cells #[.bool b1, .int .u64 (b2 : Int), .int .u64 (b3 : Int), .int .i64 b4, .string K] 48 (0, 0)))) := Lib.hid (below_alloc (Below.refl _ _) _)
  have hR : decide (b4 ≥ a4) = !decide (b4 < a4) := by
    by_cases h : b4 < a4
    · rw [decide_eq_true h, decide_eq_false (by omega)]; rfl
    · rw [decide_eq_false h, decide_eq_true (by omega)]; rfl
  have HR := Lib.hid hR
  clear hR
  go_enter Tryz.func65, Tryz.ntmps65
  go_upto_region 1 with fail
  generalize w.alloc (.cells #[.bool b1, .int .u64 (b2 : Int), .int .u64 (b3 : Int), .int .i64 b4, .string K] 48 (0, 0)) = w1 at *
  obtain ⟨pb, hpb⟩ : ∃ q, w.heap.size = q := ⟨_, rfl⟩
  have Hpb := Lib.hid hpb
  rw [hpb] at HP HB ⊢
  clear hpb
  have c3 := HP.out.cell 3
  have d3 := HX1.out.cell 3
  simp at c3 d3
  go_wp2_with fail
  go_ret
  refine ⟨?_, by rw [Hpb.out]; exact HB.out⟩
  rw [← HR.out]
  rfl
set_option maxRecDepth 100000 in
set_option maxHeartbeats 1000000 in
theorem sq1_any (x : En) (ad : Option Addr) (n c tb : Nat) (T : List En) (w : World) (hx : OkPf x.1) (hk : OkT T) (hxn : x.2 ≠ []) (h : RdK layEn w ad T) (hn : T.length = n) (hs : n ≤ 100000) (ht : Blk w tb 42 #[.slice ad n c]) :
    Calls Tryz.prog 64 #[.agg (layEn.enc x).toArray, .pointer (some ⟨tb, 0, none⟩)] w (Ret (.bool (!sqB T x)) w) := by
  subst hn
  have HSq := Lib.hid (sqB_ref hk x hxn)
  have HTx := Lib.hid ht
  have H0 := Lib.hid h
  have hv := hx.num.1
  obtain ⟨a1, a2, a3, a4, hpc, -, haN⟩ := pf_cells hx
  have hec : (layEn.enc x).toArray = #[.bool a1, .int .u64 (a2 : Int), .int .u64 (a3 : Int), .int .i64 (a4 : Int), .string (strL x.2)] := by
    show (enC x).toArray = _
    have : enC x = pfC x.1 ++ [.string (strL x.2)] := rfl
    rw [this, hpc]
    rfl
  have HLk := Lib.hid fun (v : Value) ad2 n2 c2 wx (hr : RdK layEn wx ad2 (shT T x)) (hn2 : (shT T x).length = n2) (hs2 : n2 ≤ 100000) => lookupOf_any ad2 n2 c2 (shT T x) (nuP x.1) wx hr hn2 hs2 (hk.sh x) hv
  rw [haN] at HLk
  have HCl := Lib.hid fun wx (hr : RdK layEn wx ad T) => cloneEn_any ad _ c T wx hr rfl (by omega)
  have egs : ∀ args w, (callFunc 65 args).run Tryz.prog w = .ok (.enter 65 args) w := Go.Proofs.enters_of Tryz.func65 (by kernel_rfl) rfl
  have HDl := Lib.hid fun bx ad2 n2 c2 wx B (ho : OwnK layEn wx B (.slice ad2 n2 c2) T) (hn2 : n2 ≤ 1000000) (hB : B ≤ wx.heap.size) hc => deleteFuncEn_any 65 #[.pointer (some ⟨bx, 0, none⟩)] (fun y => !decide (y.1.2.2.2 < x.1.2.2.2)) B ad2 n2 c2 T wx ho hn2 hB egs hc
  have HEx : Hid (∀ (y : En) bx wx, Blk wx bx 48 #[.bool a1, .int .u64 (a2 : Int), .int .u64 (a3 : Int), .int .i64 (a4 : Int), .string (strL x.2)] → Calls Tryz.prog 65 (#[.agg (layEn.enc y).toArray] ++ #[.pointer (some ⟨bx, 0, none⟩)]) wx (Ret (.bool (!decide (y.1.2.2.2 < x.1.2.2.2))) wx)) := Lib.hid fun y bx wx hb => sq11_any x y bx wx (by rw [hec]; exact hb)
  have HSh : Hid (T.filter (fun y => !(!decide (y.1.2.2.2 < x.1.2.2.2))) = shT T x) := Lib.hid (by unfold shT; simp)
  have HLn : Hid ((shT T x).length ≤ T.length) := Lib.hid (List.length_filter_le _ _)
  have HStr : Hid (∀ e : En, decide (strL e.2 = strL x.2) = decide (e.2 = x.2)) := Lib.hid fun e => by
    by_cases he : e.2 = x.2
    · rw [he]; simp
    · rw [decide_eq_false he, decide_eq_false (fun h2 => he (by have := congrArg ByteArray.toList h2; rwa [ByteArray.toList_eq, ByteArray.toList_eq] at this))]
  rw [hec]
  generalize strL x.2 = K at *
  have HB1 : Hid (Below w.heap.size w (w.alloc (.cells #[.bool a1, .int .u64 (a2 : Int), .int .u64 (a3 : Int), .int .i64 (a4 : Int), .string K] 48 (0, 0)))) := Lib.hid (below_alloc (Below.refl _ _) _)
  have HP1 : Hid (Blk (w.alloc (.cells #[.bool a1, .int .u64 (a2 : Int), .int .u64 (a3 : Int), .int .i64 (a4 : Int), .string K] 48 (0, 0))) w.heap.size 48 #[.bool a1, .int .u64 (a2 : Int), .int .u64 (a3 : Int), .int .i64 (a4 : Int), .string K]) := Lib.hid (Blk.new w _ _)
  have HT1 := Lib.hid (HTx.out.alloc (.cells #[.bool a1, .int .u64 (a2 : Int), .int .u64 (a3 : Int), .int .i64 (a4 : Int), .string K] 48 (0, 0)))
  have HR1 := Lib.hid (H0.out.below (below_alloc (Below.refl _ _) (.cells #[.bool a1, .int .u64 (a2 : Int), .int .u64 (a3 : Int), .int .i64 (a4 : Int), .string K] 48 (0, 0))))
  clear h ht hx hv hpc haN hec hk hxn HTx H0 egs
  generalize sqB T x = SQ at *
  go_enter Tryz.func64, Tryz.ntmps64
  go_upto_region 1 with fail
  generalize w.alloc (.cells #[.bool a1, .int .u64 (a2 : Int), .int .u64 (a3 : Int), .int .i64 (a4 : Int), .string K] 48 (0, 0)) = w1 at *
  obtain ⟨bx, hbx⟩ : ∃ q, w.heap.size = q := ⟨_, rfl⟩
  have Hbx := Lib.hid hbx
  rw [hbx] at HB1 HP1 ⊢
  clear hbx
  have t0 := HT1.out.cell 0
  simp at t0
  go_wp2_with fail
  refine (HCl.out _ HR1.out).mono ?_
  rintro e w2 ⟨v, rfl, ho, hb⟩
  obtain ⟨ad2, c2, rfl, hsrc, hlc, hcm⟩ := ho.form
  have hbl : bx < w1.heap.size := HP1.out.lt
  have HB2 := Lib.hid (HB1.out.trans (hb.mono (Nat.le_of_lt hbl)))
  have HP2 := Lib.hid (HP1.out.below hb HP1.out.lt)
  have hw2 : w1.heap.size ≤ w2.heap.size := hb.size
  have Hw2 := Lib.hid hw2
  have HO := Lib.hid ho
  have HOb : Hid (∀ k, (Value.slice ad2 T.length c2).ownBlock = some k → w1.heap.size ≤ k) := Lib.hid (own_base ho)
  have hDx := (HDl.out bx ad2 T.length c2 w2 w1.heap.size ho (by omega) hb.size fun y _ wx hkv => HEx.out y bx wx (hkv.blk HP2.out fun e2 => by have := HOb.out bx e2; omega))
  have HDx := Lib.hid (hDx.mono fun e w' (h : ∃ v, e = .returned v ∧ OwnK layEn w' w1.heap.size v (T.filter fun y => !(!decide (y.1.2.2.2 < x.1.2.2.2))) ∧ Grew w2 w' (.slice ad2 T.length c2) v) => (show ∃ v, e = .returned v ∧ OwnK layEn w' w1.heap.size v (shT T x) ∧ Grew w2 w' (.slice ad2 T.length c2) v from by
    obtain ⟨v, h1, h2, h3⟩ := h
    refine ⟨v, h1, ?_, h3⟩
    rw [← HSh.out]
    exact h2))
  clear hDx
  clear hsrc hlc hcm ho hb HDl HEx HCl HP1 HB1 HT1 HR1 t0 hw2
  go_wp2_with fail
  refine HDx.out.mono ?_
  rintro e w3 ⟨v, rfl, ho, hg⟩
  obtain ⟨ad3, c3, rfl, -, -, -⟩ := ho.form
  have HB3 : Hid (Below bx w w3) := Lib.hid (Grew.belowB HB2.out hg (by have := Hw2.out; omega) fun k hk => by have := HOb.out k hk; omega)
  have HP3 := Lib.hid ((KeepV.of_grew hg).blk HP2.out fun e2 => by have := HOb.out bx e2; omega)
  have HLx := Lib.hid (HLk.out .nilIface ad3 (shT T x).length c3 w3 ho.rd rfl (by have := HLn.out; omega))
  clear ho hg HDx HLk HP2 HB2 HOb HO Hw2 hbl
  generalize (shT T x).length = n3 at *
  have p0 := HP3.out.cell 0
  have p1 := HP3.out.cell 1
  have p2 := HP3.out.cell 2
  simp at p0 p1 p2
  generalize lkQ (shT T x) (nuP x.1) 128 = LQ at *
  cases LQ with
  | none =>
    have hS : SQ = true := HSq.out
    subst hS
    rw [show lqV none = .tuple #[.string ⟨#[]⟩, .bool false] from rfl] at HLx
    clear HSq
    go_wp2_with fail
    refine HLx.out.mono ?_
    rintro e w4 ⟨rfl, hb⟩
    have HB4 := Lib.hid (HB3.out.trans (hb.mono (Nat.le_of_lt HP3.out.lt)))
    clear hb
    go_wp2_with fail
    go_ret
    exact ⟨rfl, by rw [Hbx.out]; exact HB4.out⟩
  | some f =>
    have hS : SQ = !decide (f.2 = x.2) := HSq.out
    rw [← HStr.out] at hS
    rw [show lqV (some f) = .tuple #[.string (strL f.2), .bool true] from rfl] at HLx
    have HSS := Lib.hid hS
    clear HSq hS HStr
    generalize strL f.2 = FS at *
    go_wp2_with fail
    refine HLx.out.mono ?_
    rintro e w4 ⟨rfl, hb⟩
    have HB4 := Lib.hid (HB3.out.trans (hb.mono (Nat.le_of_lt HP3.out.lt)))
    have HP4 := Lib.hid (HP3.out.below hb HP3.out.lt)
    clear hb HP3 HB3 HLx p0 p1 p2
    have p4 := HP4.out.cell 4
    simp at p4
    have hcmp : (FS.toList == K.toList) = decide (FS = K) := by
      by_cases e : FS = K
      · rw [decide_eq_true e, e]; exact beq_self_eq_true _
      · rw [decide_eq_false e]
        exact beq_eq_false_iff_ne.2 fun h => e (by
          rw [ByteArray.toList_eq, ByteArray.toList_eq] at h
          exact ByteArray.ext (Array.toList_inj.1 h))
    obtain ⟨D, hD⟩ : ∃ q, decide (FS = K) = q := ⟨_, rfl⟩
    rw [hD] at hcmp HSS
    have HSD : Hid (SQ = !D) := HSS
    clear hD HSS
    go_wp2_with fail
    go_ret
    exact ⟨by rw [HSD.out, Bool.not_not]; first | rfl | (congr 2), by rw [Hbx.out]; exact HB4.out⟩
set_option maxRecDepth 100000 in
set_option maxHeartbeats 2000000 in
theorem squeezeTable_any (ad : Option Addr) (n c : Nat) (T : List En) (w : World) (hk : OkT T) (h : RdK layEn w ad T) (hn : T.length = n) (hs : n ≤ 100000) :
    Calls Tryz.prog 27 #[.slice ad n c] w fun e w' => ∃ v, e = .returned v ∧ OwnK layEn w' w.heap.size v (sqL T) ∧ Below w.heap.size w w' := by
  subst hn
  have H0 := Lib.hid h
  have Hk := Lib.hid hk
  have HT : Hid (Blk (w.alloc (.cells #[.slice ad T.length c] 42 (0, 0))) w.heap.size 42 #[.slice ad T.length c]) := Lib.hid (Blk.new w _ _)
  have HB : Hid (Below w.heap.size w (w.alloc (.cells #[.slice ad T.length c] 42 (0, 0)))) := Lib.hid (below_alloc (Below.refl _ _) _)
  have HR := Lib.hid (H0.out.below (below_alloc (Below.refl _ _) (.cells #[.slice ad T.length c] 42 (0, 0))))
  have HCl := Lib.hid fun wx (hr : RdK layEn wx ad T) => cloneEn_any ad _ c T wx hr rfl (by omega)
  have egs : ∀ args w, (callFunc 64 args).run Tryz.prog w = .ok (.enter 64 args) w := Go.Proofs.enters_of Tryz.func64 (by kernel_rfl) rfl
  have HDl := Lib.hid fun bx ad2 n2 c2 wx B (ho : OwnK layEn wx B (.slice ad2 n2 c2) T) (hn2 : n2 ≤ 1000000) (hB : B ≤ wx.heap.size) hc => deleteFuncEn_any 64 #[.pointer (some ⟨bx, 0, none⟩)] (fun x => !sqB T x) B ad2 n2 c2 T wx ho hn2 hB egs hc
  have HEx : Hid (∀ x ∈ T, ∀ bx wx, RdK layEn wx ad T → Blk wx bx 42 #[.slice ad T.length c] → Calls Tryz.prog 64 (#[.agg (layEn.enc x).toArray] ++ #[.pointer (some ⟨bx, 0, none⟩)]) wx (Ret (.bool (!sqB T x)) wx)) := Lib.hid fun x hx bx wx hr hb => sq1_any x ad T.length c bx T wx (hk x hx).1 hk (hk x hx).2 hr rfl hs hb
  have HSh : Hid (T.filter (fun x => !(!sqB T x)) = sqL T) := Lib.hid (by unfold sqL; congr 1; funext x; simp)
  clear h hk egs
  go_enter Tryz.func27, Tryz.ntmps27
  go_upto_region 1 with fail
  generalize w.alloc (.cells #[.slice ad T.length c] 42 (0, 0)) = w1 at *
  obtain ⟨tb, htb⟩ : ∃ q, w.heap.size = q := ⟨_, rfl⟩
  have Htb := Lib.hid htb
  rw [htb] at HB HT ⊢
  clear htb
  have t0 := HT.out.cell 0
  simp at t0
  go_wp2_with fail
  refine (HCl.out _ HR.out).mono ?_
  rintro e w2 ⟨v, rfl, ho, hb⟩
  obtain ⟨ad2, c2, rfl, hsrc, hlc, hcm⟩ := ho.form
  have hbl : tb < w1.heap.size := HT.out.lt
  have HB2 := Lib.hid (HB.out.trans (hb.mono (Nat.le_of_lt hbl)))
  have HT2 := Lib.hid (HT.out.below hb HT.out.lt)
  have Hw2 := Lib.hid hb.size
  have HOb : Hid (∀ k, (Value.slice ad2 T.length c2).ownBlock = some k → w1.heap.size ≤ k) := Lib.hid (own_base ho)
  have hDx := (HDl.out tb ad2 T.length c2 w2 w1.heap.size ho (by omega) hb.size fun x hx wx hkv => HEx.out x hx tb wx (KeepV.rd0 HR.out hb hkv HOb.out) (hkv.blk HT2.out fun e2 => by have := HOb.out tb e2; omega))
  have HDx := Lib.hid (hDx.mono fun e w' (h : ∃ v, e = .returned v ∧ OwnK layEn w' w1.heap.size v (T.filter fun x => !(!sqB T x)) ∧ Grew w2 w' (.slice ad2 T.length c2) v) => (show ∃ v, e = .returned v ∧ OwnK layEn w' w1.heap.size v (sqL T) ∧ Grew w2 w' (.slice ad2 T.length c2) v from by
    obtain ⟨v, h1, h2, h3⟩ := h
    refine ⟨v, h1, ?_, h3⟩
    rw [← HSh.out]
    exact h2))
  clear hDx hsrc hlc hcm ho hb HDl HEx HCl HB HT HR t0 HSh
  go_wp2_with fail
  refine HDx.out.mono ?_
  rintro e w3 ⟨v, rfl, ho, hg⟩
  have HB3 : Hid (Below tb w w3) := Lib.hid (Grew.belowB HB2.out hg (by have := Hw2.out; omega) fun k hk => by have := HOb.out k hk; omega)
  have HO3 := Lib.hid (ho.weak (Nat.le_of_lt hbl))
  clear ho hg HDx HB2 HT2 HOb
  go_wp2_with fail
  go_ret
  exact ⟨v, rfl, by rw [Htb.out]; exact HO3.out, by rw [Htb.out]; exact HB3.out⟩
end Go.Proofs.YteccghdegckjhaaGreatDoor
