/-
  Differ of the program: the first address at which two tables differ.
-/
import Derived.Test.YteccghdegckjhaaGreatDoorTD21
import Derived.Test.YteccghdegckjhaaGreatDoorTD22
import Derived.Test.YteccghdegckjhaaGreatDoorTD23
import Derived.Test.YteccghdegckjhaaGreatDoorTD13
import Derived.Test.YteccghdegckjhaaGreatDoorTD32
set_option linter.unusedVariables false
namespace Go.Proofs.YteccghdegckjhaaGreatDoor
open Go.RowKit Go
set_option linter.unusedVariables false

theorem idxE_0 (a : Option Addr) (n c : Nat) (b : Option Addr) (m d : Nat) (w : World) : (Instr.index 91 (.agg #[.slice a n c, .slice b m d]) (.int .i64 0)).run Tryz.prog w = .ok (.slice a n c) w := by
  have hu : Tryz.prog.underlying 91 = some (.array 2 42) := by kernel_rfl
  have hu2 := Tryz.underlying42
  have hc : Tryz.prog.cellsOf 42 = 1 := by kernel_rfl
  simp [Instr.index, run_underlying hu, asIntOf, part, go_sem]
theorem idxE_1 (a : Option Addr) (n c : Nat) (b : Option Addr) (m d : Nat) (w : World) : (Instr.index 91 (.agg #[.slice a n c, .slice b m d]) (.int .i64 1)).run Tryz.prog w = .ok (.slice b m d) w := by
  have hu : Tryz.prog.underlying 91 = some (.array 2 42) := by kernel_rfl
  have hu2 := Tryz.underlying42
  have hc : Tryz.prog.cellsOf 42 = 1 := by kernel_rfl
  simp [Instr.index, run_underlying hu, asIntOf, part, go_sem]
theorem Blk.lowB {w w' : World} {b B : Nat} {t : TypeId} {cs : Array Value} (h : Blk w b t cs) (hb : Below B w w') (hl : b < B) : Blk w' b t cs := (hb.block b hl).trans h
theorem RdK.ad {w : World} {ad : Option Addr} {L : List Nat} (h : RdK layAd w ad L) {k x : Nat} (hp : L[k]? = some x) :
    ∃ g o, ad = some ⟨g, o, none⟩ ∧ g < w.heap.size ∧ w.cell? ⟨g, o + k * 3, none⟩ = some (.bool (sixN x)) ∧ w.cell? ⟨g, o + k * 3 + 1, none⟩ = some (.int .u64 ((hiN x : Nat) : Int)) ∧ w.cell? ⟨g, o + k * 3 + 2, none⟩ = some (.int .u64 ((loN x : Nat) : Int)) := by
  obtain ⟨g, o, e, hg, h0⟩ := h k _ hp
  have hE : layAd.enc x = adC x := rfl
  have hK : layAd.K = 3 := rfl
  rw [hE, hK] at h0
  exact ⟨g, o, e, hg, h0 0 _ rfl, h0 1 _ rfl, h0 2 _ rfl⟩
theorem Blk.grewNe {w w' : World} {b : Nat} {t : TypeId} {cs : Array Value} {v v' : Value} (hb : Blk w b t cs) (hne : v.ownBlock ≠ some b) (hG : Grew w w' v v') : Blk w' b t cs := (hG.g.block b hb.lt (Ne.symm hne)).trans hb
theorem edT_len2 (T : List En) (h : T.length ≤ 500) : (edT T).length ≤ 1002 := by
  unfold edT
  rw [List.length_cons, List.length_cons]
  have := edT_len (T := T)
  omega
set_option maxRecDepth 100000 in
set_option maxHeartbeats 16000000 in
theorem aDiffer_any (ad1 : Option Addr) (n1 c1 : Nat) (T : List En) (ad2 : Option Addr) (n2 c2 : Nat) (U : List En) (w : World) (h1 : RdK layEn w ad1 T) (hn1 : T.length = n1) (hs1 : n1 ≤ 100000) (hu1 : UE T) (h2 : RdK layEn w ad2 U) (hn2 : U.length = n2) (hs2 : n2 ≤ 100000) (hu2 : UE U) :
    Calls Tryz.prog 21 #[.slice ad1 n1 c1, .slice ad2 n2 c2] w (Ret (difV (twoT T U) (difO T U)) w) := by
  have H1 := Lib.hid h1
  have H2 := Lib.hid h2
  have HC1 := Lib.hid fun wx (hr : RdK layEn wx ad1 T) => checkTable_any ad1 n1 c1 T wx hr hn1 hs1 hu1
  have HC2 := Lib.hid fun wx (hr : RdK layEn wx ad2 U) => checkTable_any ad2 n2 c2 U wx hr hn2 hs2 hu2
  have HK1 : Hid (tabF T = 0 → OkT T ∧ n1 ≤ 500) := Lib.hid fun e => by have := tabF_ok e hu1; rwa [hn1] at this
  have HK2 : Hid (tabF U = 0 → OkT U ∧ n2 ≤ 500) := Lib.hid fun e => by have := tabF_ok e hu2; rwa [hn2] at this
  have HE1 := Lib.hid fun wx (hr : RdK layEn wx ad1 T) (hk : OkT T) (hl : n1 ≤ 500) => aEdges_any ad1 n1 c1 T wx hr hn1 hl hk
  have HE2 := Lib.hid fun wx (hr : RdK layEn wx ad2 U) (hk : OkT U) (hl : n2 ≤ 500) => aEdges_any ad2 n2 c2 U wx hr hn2 hl hk
  have HL1 := Lib.hid fun x wx (hr : RdK layEn wx ad1 T) (hk : OkT T) (hx : VN x) => alookup_any ad1 n1 c1 T x wx hr hn1 hs1 hk hx
  have HL2 := Lib.hid fun x wx (hr : RdK layEn wx ad2 U) (hk : OkT U) (hx : VN x) => alookup_any ad2 n2 c2 U x wx hr hn2 hs2 hk hx
  have HDp := Lib.hid fun (hT : OkT T) (hU : OkT U) (S : List Nat) hp hs => dif_prog hT hU (S := S) hp hs
  have HT0 : Hid (tabF T ≠ 0 → twoT T U = tabF T) := Lib.hid fun h => if_pos h
  have HT1 : Hid (tabF T = 0 → twoT T U = tabF U) := Lib.hid fun h => if_neg (by simp [h])
  have HV0 : Hid (∀ F, F ≠ 0 → difV F (difO T U) = .tuple #[.agg #[.bool false, .int .u64 0, .int .u64 0], .bool false, .int .i64 F]) := Lib.hid fun F hF => by
    cases difO T U with
    | none => rfl
    | some a => exact if_neg hF
  have HV1 : Hid (∀ x, difV 0 (some x) = .tuple #[.agg #[.bool (sixN x), .int .u64 ((hiN x : Nat) : Int), .int .u64 ((loN x : Nat) : Int)], .bool true, .int .i64 0]) := Lib.hid fun x => rfl
  have HV2 : Hid (difV 0 none = .tuple #[.agg #[.bool false, .int .u64 0, .int .u64 0], .bool false, .int .i64 0]) := Lib.hid rfl
  have HD1 : Hid (edT T = edT T ∧ (OkT T → n1 ≤ 500 → (edT T).length ≤ 1002)) := Lib.hid ⟨rfl, fun _ h => edT_len2 T (by omega)⟩
  have HD2 : Hid (OkT U → n2 ≤ 500 → (edT U).length ≤ 1002) := Lib.hid fun _ h => edT_len2 U (by omega)
  have HDb : Hid (∀ x, difB T U x = decide (lkP T x ≠ lkP U x)) := Lib.hid fun x => rfl
  clear h1 h2 hn1 hn2 hu1 hu2
  generalize tabF T = FT at *
  generalize tabF U = FU at *
  generalize twoT T U = F2 at *
  generalize difO T U = DO at *
  generalize edT T = E1 at *
  generalize edT U = E2 at *
  generalize lkP T = L1 at *
  generalize lkP U = L2 at *
  generalize difB T U = DB at *
  have HP : Hid (Blk (w.alloc (.cells #[.bool false, .int .u64 0, .int .u64 0] 28 (0, 0))) w.heap.size 28 #[.bool false, .int .u64 0, .int .u64 0]) := Lib.hid (Blk.new w _ _)
  have HB : Hid (Below w.heap.size w (w.alloc (.cells #[.bool false, .int .u64 0, .int .u64 0] 28 (0, 0)))) := Lib.hid (below_alloc (Below.refl _ _) _)
  have i0 := fun wx => idxE_0 ad1 n1 c1 ad2 n2 c2 wx
  have i1 := fun wx => idxE_1 ad1 n1 c1 ad2 n2 c2 wx
  go_enter Tryz.func21, Tryz.ntmps21
  go_upto_region 1 with fail
  generalize w.alloc (.cells #[.bool false, .int .u64 0, .int .u64 0] 28 (0, 0)) = w1 at *
  obtain ⟨bx, hbx⟩ : ∃ q, w.heap.size = q := ⟨_, rfl⟩
  have Hbx := Lib.hid hbx
  rw [hbx] at HP HB ⊢
  clear hbx
  have HRd1 : Hid (∀ wx, Below bx w wx → RdK layEn wx ad1 T) := Lib.hid fun wx hb => H1.out.below (by rw [Hbx.out]; exact hb)
  have HRd2 : Hid (∀ wx, Below bx w wx → RdK layEn wx ad2 U) := Lib.hid fun wx hb => H2.out.below (by rw [Hbx.out]; exact hb)
  have HRet : Hid (∀ wx (sx : Bool) (h l : Int), Blk wx bx 28 #[.bool false, .int .u64 0, .int .u64 0] → Below bx w wx → Below bx w (((wx.setCell ⟨bx, 0, none⟩ (.bool sx)).setCell ⟨bx, 1, none⟩ (.int .u64 h)).setCell ⟨bx, 2, none⟩ (.int .u64 l))) := Lib.hid fun wx sx h l hp hb => hb.grown (grown_setCells bx [.bool sx, .int .u64 h, .int .u64 l] 0 wx) (Nat.le_of_lt hp.lt) (fun k hk => by injection hk with hk; omega)
  clear H1 H2
  go_wp2_with fail
  go_loopw [8, 9, 16] (fun s8 s9 i wr => ∃ (k : Nat), k ≤ 2 ∧ i = .int .i64 (k : Int) ∧ Hid (1 ≤ k → FT = 0) ∧ Hid (2 ≤ k → FU = 0) ∧ Hid (Blk wr bx 28 #[.bool false, .int .u64 0, .int .u64 0]) ∧ Hid (Below bx w wr)) (fun _ _ i _ => 2 - (intOf i).toNat)
  case atStart => exact ⟨0, by omega, rfl, Lib.hid fun h => absurd h (by decide), Lib.hid fun h => absurd h (by decide), HP, HB⟩
  case round =>
    clear HP HB
    obtain ⟨k, hk, rfl, HF1, HF2, HP, HB⟩ := hrel
    have hk3 : k = 0 ∨ k = 1 ∨ k = 2 := by omega
    rcases hk3 with rfl | rfl | rfl
    · have z0 : ((0 : Nat) : Int) = 0 := rfl
      simp only [z0]
      have HCx := Lib.hid (HC1.out wr (HRd1.out _ HB.out))
      go_wp2_with fail
      refine HCx.out.mono ?_
      rintro e w3 ⟨rfl, hb⟩
      have HP3 := Lib.hid (HP.out.below hb HP.out.lt)
      have HB3 := Lib.hid (HB.out.trans (hb.mono (Nat.le_of_lt HP.out.lt)))
      clear hb HCx HP HB
      by_cases hF : FT = 0
      · have HFn : Hid (1 ≤ 1 → FT = 0) := Lib.hid fun _ => hF
        subst hF
        go_wp2_with fail
        exact ⟨⟨1, by omega, by first | rfl | go_num, HFn, Lib.hid fun h => absurd h (by decide), HP3, HB3⟩, by simp [intOf]⟩
      · have hb1 : (FT != 0) = true := by simpa using hF
        have HVx : Hid (difV F2 DO = .tuple #[.agg #[.bool false, .int .u64 0, .int .u64 0], .bool false, .int .i64 FT]) := Lib.hid (by rw [HT0.out hF, HV0.out FT hF])
        clear HF1 HF2
        have q0 := HP3.out.cell 0
        have q1 := HP3.out.cell 1
        have q2 := HP3.out.cell 2
        have qf := HP3.out.free
        simp at q0 q1 q2
        have c3 := (HP3.out.set3 (x' := .bool false) (y' := .int .u64 0) (z' := .int .u64 0))
        have HBf := Lib.hid (HRet.out w3 false 0 0 HP3.out HB3.out)
        have d0 := c3.cell 0
        have d1 := c3.cell 1
        have d2 := c3.cell 2
        simp at d0 d1 d2
        clear c3
        go_wp2_with fail
        refine bodyPost_ret (v := .tuple #[.agg #[.bool false, .int .u64 0, .int .u64 0], .bool false, .int .i64 FT]) (by simp [results, Tryz.results21, go_sem, *]) rfl ⟨by rw [HVx.out], by rw [Hbx.out]; exact HBf.out⟩
    · have hFT := HF1.out (Nat.le_refl _)
      have z0 : ((1 : Nat) : Int) = 1 := rfl
      simp only [z0]
      have HCx := Lib.hid (HC2.out wr (HRd2.out _ HB.out))
      go_wp2_with fail
      refine HCx.out.mono ?_
      rintro e w3 ⟨rfl, hb⟩
      have HP3 := Lib.hid (HP.out.below hb HP.out.lt)
      have HB3 := Lib.hid (HB.out.trans (hb.mono (Nat.le_of_lt HP.out.lt)))
      clear hb HCx HP HB
      by_cases hF : FU = 0
      · have HFn : Hid (2 ≤ 2 → FU = 0) := Lib.hid fun _ => hF
        subst hF
        go_wp2_with fail
        exact ⟨⟨2, by omega, by first | rfl | go_num, Lib.hid fun _ => hFT, HFn, HP3, HB3⟩, by simp [intOf]⟩
      · have hb1 : (FU != 0) = true := by simpa using hF
        have HVx : Hid (difV F2 DO = .tuple #[.agg #[.bool false, .int .u64 0, .int .u64 0], .bool false, .int .i64 FU]) := Lib.hid (by rw [HT1.out hFT, HV0.out FU hF])
        clear HF1 HF2 hFT
        have q0 := HP3.out.cell 0
        have q1 := HP3.out.cell 1
        have q2 := HP3.out.cell 2
        have qf := HP3.out.free
        simp at q0 q1 q2
        have c3 := (HP3.out.set3 (x' := .bool false) (y' := .int .u64 0) (z' := .int .u64 0))
        have HBf := Lib.hid (HRet.out w3 false 0 0 HP3.out HB3.out)
        have d0 := c3.cell 0
        have d1 := c3.cell 1
        have d2 := c3.cell 2
        simp at d0 d1 d2
        clear c3
        go_wp2_with fail
        refine bodyPost_ret (v := .tuple #[.agg #[.bool false, .int .u64 0, .int .u64 0], .bool false, .int .i64 FU]) (by simp [results, Tryz.results21, go_sem, *]) rfl ⟨by rw [HVx.out], by rw [Hbx.out]; exact HBf.out⟩
    · have HKT := Lib.hid (HK1.out (HF1.out (by omega)))
      have HKU := Lib.hid (HK2.out (HF2.out (by omega)))
      have hF2 : F2 = 0 := by rw [HT1.out (HF1.out (by omega)), HF2.out (by omega)]
      subst hF2
      have z0 : ((2 : Nat) : Int) = 2 := rfl
      simp only [z0]
      have HLn1 := Lib.hid (HD1.out.2 HKT.out.1 HKT.out.2)
      have HLn2 := Lib.hid (HD2.out HKU.out.1 HKU.out.2)
      have HEx := Lib.hid (HE1.out wr (HRd1.out _ HB.out) HKT.out.1 HKT.out.2)
      clear HC1 HC2 HK1 HK2 HT0 HT1 HV0 HD1 HD2 HF1 HF2 HE1 i0 i1
      go_wp2_with fail
      refine HEx.out.mono ?_
      rintro e w3 ⟨v1, rfl, ho1, hb⟩
      have HO3 : Hid (OwnK layAd w3 (bx + 1) v1 E1) := Lib.hid (ho1.weak HP.out.lt)
      have HP3 := Lib.hid (HP.out.below hb HP.out.lt)
      have HB3 := Lib.hid (HB.out.trans (hb.mono (Nat.le_of_lt HP.out.lt)))
      have HEx := Lib.hid (HE2.out w3 (HRd2.out _ HB3.out) HKU.out.1 HKU.out.2)
      clear ho1 hb HP HB HE2
      go_wp2_with fail
      refine HEx.out.mono ?_
      rintro e w4 ⟨v2, rfl, ho2, hb⟩
      have HO4 := Lib.hid (HO3.out.later hb)
      have HP4 := Lib.hid (HP3.out.below hb HP3.out.lt)
      have HB4 := Lib.hid (HB3.out.trans (hb.mono (Nat.le_of_lt HP3.out.lt)))
      obtain ⟨adb, cb, rfl, hsrc, -, -⟩ := ho2.form
      have HSr := Lib.hid hsrc
      clear ho2 hb hsrc HO3 HP3 HB3 HEx
      go_wp2_with (at_builtin; refine wpList_app adE rfl (.tmp 27) (.tmp 29) rfl rfl HO4.out rfl HSr.out ?c1 ?c2 ?c3 ?c4 ?_)
      case c1 => exact layAd.all_one _
      case c2 => unfold maxLen; have := HLn1.out; have := HLn2.out; omega
      case c3 => have := HLn1.out; have := HLn2.out; omega
      case c4 => exact HP4.out.lt
      intro v3 w5 hO hG
      have HO5 : Hid (OwnK layAd w5 (bx + 1) v3 (E1 ++ E2)) := Lib.hid (OwnK.app hO)
      have HP5 := Lib.hid (HP4.out.grewNe (fun e => by have := own_base HO4.out bx e; omega) hG)
      have HB5 : Hid (Below bx w w5) := Lib.hid (Grew.belowB HB4.out hG (Nat.le_of_lt HP4.out.lt) fun k hk => by have := own_base HO4.out k hk; omega)
      obtain ⟨ad3, c3, rfl, -, -, -⟩ := HO5.out.form
      have HLn3 : Hid ((E1 ++ E2).length ≤ 2004) := Lib.hid (by have := HLn1.out; have := HLn2.out; rw [List.length_append]; omega)
      have HSt := Lib.hid (sortAd_any (bx + 1) (E1 ++ E2).length c3 ad3 (E1 ++ E2) w5 HO5.out rfl (by have := HLn3.out; omega) HP5.out.lt)
      clear hO hG HO4 HP4 HB4 HSr HLn1 HLn2 HO5
      generalize hEE : E1 ++ E2 = EE at *
      generalize hmm : EE.length = mm at *
      clear hEE hmm
      go_wp2_with fail
      refine HSt.out.mono ?_
      rintro e w6 ⟨rfl, S, hSp, hSs, ho, hb⟩
      obtain ⟨hFd, hCv, hCl⟩ := HDp.out HKT.out.1 HKU.out.1 S hSp hSs
      have HP6 := Lib.hid (HP5.out.lowB hb (Nat.lt_succ_self _))
      have HB6 := Lib.hid (HB5.out.trans (hb.mono (Nat.le_succ _)))
      have HFd := Lib.hid hFd
      have HCv := Lib.hid hCv
      have HCl := Lib.hid hCl
      have HCp := Lib.hid (compactAd_any (bx + 1) ad3 mm c3 S w6 ho (by have := HLn3.out; omega) HP6.out.lt)
      have HOb : Hid (∀ k, (Value.slice ad3 mm c3).ownBlock = some k → bx + 1 ≤ k) := Lib.hid (own_base ho)
      clear hSp hSs ho hb hFd hCv hCl HP5 HB5 HSt HDp
      generalize compL eqAd S = C at *
      go_wp2_with fail
      refine HCp.out.mono ?_
      rintro e w7 ⟨v4, rfl, ho, hG⟩
      have HP7 := Lib.hid (HP6.out.grewNe (fun e => by have := HOb.out bx e; omega) hG)
      have HB7 : Hid (Below bx w w7) := Lib.hid (Grew.belowB HB6.out hG (Nat.le_of_lt HP6.out.lt) fun k hk => by have := HOb.out k hk; omega)
      obtain ⟨adc, cc, rfl, -, hcc, hcm⟩ := ho.form
      have HRc := Lib.hid ho.rd
      have HCn : Hid (∃ m, C.length = m ∧ m ≤ 2004) := Lib.hid ⟨_, rfl, Nat.le_trans HCl.out HLn3.out⟩
      obtain ⟨m, hm, hmb⟩ := HCn.out
      have Hm := Lib.hid hm
      rw [hm]
      clear ho hG hcc hcm HP6 HB6 HCp HOb HCn hm
      go_wp2_with fail
      go_loopw [12, 36] (fun s12 i wr => ∃ (k : Nat), k ≤ m ∧ i = .int .i64 (k : Int) ∧ Hid (∀ (j y : Nat), j < k → C[j]? = some y → DB y = false) ∧ Hid (Below w7.heap.size w7 wr)) (fun _ i _ => m - (intOf i).toNat)
      case atStart => exact ⟨0, Nat.zero_le _, rfl, Lib.hid fun j y hj => absurd hj (Nat.not_lt_zero _), Lib.hid (Below.refl _ _)⟩
      case round =>
        obtain ⟨k, hk, rfl, HN, HBr⟩ := hrel
        have HPr := Lib.hid (HP7.out.below HBr.out HP7.out.lt)
        have HBw := Lib.hid (HB7.out.trans (HBr.out.mono (Nat.le_of_lt HP7.out.lt)))
        by_cases hlt : k < m
        · have hS : k < C.length := by rw [Hm.out]; exact hlt
          obtain ⟨x, hx⟩ : ∃ x, C[k]? = some x := ⟨_, List.getElem?_eq_getElem hS⟩
          have hxv := HCv.out x (List.mem_of_getElem? hx)
          obtain ⟨g, o, had, hg, b0, b1, b2⟩ := (HRc.out.below HBr.out).ad hx
          subst had
          have HNk : Hid (DB x = false → ∀ (j y : Nat), j < k + 1 → C[j]? = some y → DB y = false) := Lib.hid fun h j y hj hy => by
            rcases Nat.lt_or_ge j k with h1 | h1
            · exact HN.out j y h1 hy
            · obtain rfl : j = k := by omega
              rw [hx] at hy
              exact (Option.some.inj hy) ▸ h
          have HHit : Hid (DB x = true → DO = some x) := Lib.hid fun h => by
            rw [← HFd.out]
            exact find_at hx h HN.out
          have HDx := Lib.hid (HDb.out x)
          have HVx := Lib.hid (HV1.out x)
          have HQ1 := Lib.hid fun wx (hr : RdK layEn wx ad1 T) => HL1.out x wx hr HKT.out.1 hxv
          have HQ2 := Lib.hid fun wx (hr : RdK layEn wx ad2 U) => HL2.out x wx hr HKU.out.1 hxv
          unfold aN at HQ1 HQ2
          clear hx hS hg hxv HN
          generalize sixN x = x1 at *
          generalize hiN x = x2 at *
          generalize loN x = x3 at *
          generalize L1 x = k1 at *
          generalize L2 x = k2 at *
          have HX1 : Hid (Blk (wr.alloc (.cells #[.bool x1, .int .u64 (x2 : Int), .int .u64 (x3 : Int)] 28 (0, 0))) wr.heap.size 28 #[.bool x1, .int .u64 (x2 : Int), .int .u64 (x3 : Int)]) := Lib.hid (Blk.new wr _ _)
          have HP1 := Lib.hid (HPr.out.alloc (.cells #[.bool x1, .int .u64 (x2 : Int), .int .u64 (x3 : Int)] 28 (0, 0)))
          have HB1 : Hid (Below w7.heap.size w7 (wr.alloc (.cells #[.bool x1, .int .u64 (x2 : Int), .int .u64 (x3 : Int)] 28 (0, 0)))) := Lib.hid (Below.alloc HBr.out HBr.out.size _)
          have HW1 : Hid (Below bx w (wr.alloc (.cells #[.bool x1, .int .u64 (x2 : Int), .int .u64 (x3 : Int)] 28 (0, 0)))) := Lib.hid (Below.alloc HBw.out (Nat.le_of_lt HPr.out.lt) _)
          clear HPr HBw
          go_upto_region 13 with fail
          generalize wr.alloc (.cells #[.bool x1, .int .u64 (x2 : Int), .int .u64 (x3 : Int)] 28 (0, 0)) = w8 at *
          generalize wr.heap.size = xb at *
          clear HBr b0 b1 b2
          have f0 := HX1.out.cell 0
          have f1 := HX1.out.cell 1
          have f2 := HX1.out.cell 2
          simp at f0 f1 f2
          have l0 := Later.cell_of f0
          have l1 := Later.cell_of f1
          have l2 := Later.cell_of f2
          have hQ1 := fun y : Later w8 => Calls.later y (HQ1.out y.1 (HRd1.out _ (HW1.out.trans (y.2.mono (Nat.le_of_lt HP1.out.lt)))))
          have hQ2 := fun y : Later w8 => Calls.later y (HQ2.out y.1 (HRd2.out _ (HW1.out.trans (y.2.mono (Nat.le_of_lt HP1.out.lt)))))
          have hcmp : ((strL k1).toList == (strL k2).toList) = decide (k1 = k2) := by
            have h1 : ∀ l : List UInt8, (strL l).toList = l := fun l => by rw [ByteArray.toList_eq]; rfl
            rw [h1, h1]
            by_cases e : k1 = k2
            · rw [decide_eq_true e, e]; exact beq_self_eq_true _
            · rw [decide_eq_false e]; exact beq_eq_false_iff_ne.2 e
          obtain ⟨eqk, heqk⟩ : ∃ q, decide (k1 = k2) = q := ⟨_, rfl⟩
          have HDe : Hid (DB x = !eqk) := Lib.hid (by rw [HDx.out, ← heqk, decide_not])
          rw [heqk] at hcmp
          clear heqk HDx
          generalize strL k1 = s1 at *
          generalize strL k2 = s2 at *
          refine wp_region_later (by kernel_rfl) (by kernel_rfl) ?_
          repeat (go_big_quiet_step (fail))
          go_big_quiet_step ((go_at_call 52; exact hQ1 _))
          repeat (go_big_quiet_step (fail))
          go_big_quiet_step ((go_at_call 52; exact hQ2 _))
          repeat (go_big_quiet_step (fail))
          refine wpQuiet_nil ?_
          rintro w9 ⟨n5, hn5⟩
          have hb : Below w8.heap.size w8 w9 := by rw [hn5]; exact n5.2
          clear hn5 n5 hQ1 hQ2 l0 l1 l2 f0 f1 f2 HQ1 HQ2
          have HX9 := Lib.hid (HX1.out.below hb HX1.out.lt)
          have HP9 := Lib.hid (HP1.out.below hb HP1.out.lt)
          have HB9 := Lib.hid (HB1.out.trans (hb.mono HB1.out.size))
          have HW9 := Lib.hid (HW1.out.trans (hb.mono (Nat.le_of_lt HP1.out.lt)))
          clear hb HX1 HP1 HB1 HW1
          cases eqk
          · have hD : DB x = true := HDe.out
            have hDO : DO = some x := HHit.out hD
            subst hDO
            clear HNk HHit HDe hD
            have f0 := HX9.out.cell 0
            have f1 := HX9.out.cell 1
            have f2 := HX9.out.cell 2
            simp at f0 f1 f2
            have q0 := HP9.out.cell 0
            have q1 := HP9.out.cell 1
            have q2 := HP9.out.cell 2
            have qf := HP9.out.free
            simp at q0 q1 q2
            have c3 := (HP9.out.set3 (x' := .bool x1) (y' := .int .u64 (x2 : Int)) (z' := .int .u64 (x3 : Int)))
            have HBf := Lib.hid (HRet.out w9 x1 (x2 : Int) (x3 : Int) HP9.out HW9.out)
            have d0 := c3.cell 0
            have d1 := c3.cell 1
            have d2 := c3.cell 2
            simp at d0 d1 d2
            clear c3
            go_wp2_with fail
            refine bodyPost_ret (v := .tuple #[.agg #[.bool x1, .int .u64 (x2 : Int), .int .u64 (x3 : Int)], .bool true, .int .i64 0]) (by simp [results, Tryz.results21, go_sem, *]) rfl ⟨by rw [HVx.out], by rw [Hbx.out]; exact HBf.out⟩
          · have HN2 := Lib.hid (HNk.out HDe.out)
            clear HNk HHit HDe HX9
            go_wp2_with fail
            exact ⟨⟨k + 1, by omega, by go_num, HN2, HB9⟩, by simp [intOf]; omega⟩
        · obtain rfl : k = m := by omega
          have hDO : DO = none := by
            rw [← HFd.out]
            exact find_no (by rw [Hm.out]; exact HN.out)
          subst hDO
          have q0 := HPr.out.cell 0
          have q1 := HPr.out.cell 1
          have q2 := HPr.out.cell 2
          have qf := HPr.out.free
          simp at q0 q1 q2
          have c3 := (HPr.out.set3 (x' := .bool false) (y' := .int .u64 0) (z' := .int .u64 0))
          have HBf := Lib.hid (HRet.out wr false 0 0 HPr.out HBw.out)
          have d0 := c3.cell 0
          have d1 := c3.cell 1
          have d2 := c3.cell 2
          simp at d0 d1 d2
          clear c3
          go_wp2_with fail
          refine bodyPost_ret (v := .tuple #[.agg #[.bool false, .int .u64 0, .int .u64 0], .bool false, .int .i64 0]) (by simp [results, Tryz.results21, go_sem, *]) rfl ⟨by rw [HV2.out], by rw [Hbx.out]; exact HBf.out⟩
end Go.Proofs.YteccghdegckjhaaGreatDoor
