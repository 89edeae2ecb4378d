/-
  The law TablesDecide: walked.
-/
import Derived.Test.YteccghdegckjhaaGreatDoorTD18
import Derived.Test.YteccghdegckjhaaGreatDoorTD34
import Derived.Test.YteccghdegckjhaaGreatDoorTD32
import Derived.Test.YteccghdegckjhaaGreatDoorTD35
import Derived.Test.YteccghdegckjhaaGreatDoorTD36
import Derived.Test.YteccghdegckjhaaGreatDoorTD37
import Derived.Test.YteccghdegckjhaaGreatDoorTD39
import Derived.Test.YteccghdegckjhaaGreatDoorTD5
set_option linter.unusedVariables false
namespace Go.Proofs.YteccghdegckjhaaGreatDoor
open Go.RowKit Go
set_option linter.unusedVariables false

theorem firstE_two (a b : Int) : firstE [a, b] = if a ≠ 0 then a else b := by
  unfold firstE firstE firstE
  by_cases h : a ≠ 0
  · rw [if_pos h, if_pos h]
  · rw [if_neg h, if_neg h]
    by_cases h2 : b ≠ 0
    · rw [if_pos h2]
    · rw [if_neg h2]; omega
theorem alV_form (T : List En) (six : Bool) (hi lo : Nat) (hu : UE T) (h1 : U64N hi) (h2 : U64N lo) : ∃ (S : ByteArray) (B : Bool), alV (twoA T six hi lo) (lkP T (numA six hi lo)) = .tuple #[.string S, .bool B, .int .i64 (twoA T six hi lo)] ∧
    (twoA T six hi lo = 0 → ∀ ad n c wx, RdK layEn wx ad T → T.length = n → n ≤ 100000 → Calls Tryz.prog 26 #[.slice ad n c, .agg #[.bool six, .int .u64 (hi : Int), .int .u64 (lo : Int)]] wx (Ret (.tuple #[.string S, .bool B]) wx)) ∧ (twoA T six hi lo ≠ 0 → S = ⟨#[]⟩ ∧ B = false) := by
  by_cases hz : twoA T six hi lo = 0
  · have hT : tabF T = 0 := by
      unfold twoA at hz
      by_cases h : tabF T ≠ 0
      · rw [if_pos h] at hz; exact absurd hz h
      · simpa using h
    have hA : aFault six (hi : Int) (lo : Int) = 0 := by
      unfold twoA at hz
      rwa [if_neg (by simp [hT])] at hz
    have ha := aFault_ok hA h1 h2
    have hk := (tabF_ok hT hu).1
    obtain ⟨e1, e2, e3⟩ := lk_same hk (numA six hi lo)
    refine ⟨strL (lkP T (numA six hi lo)), decide (lkP T (numA six hi lo) ≠ []), ?_, fun _ ad n c wx hr hn hs => ?_, fun h => absurd hz h⟩
    · rw [hz]; exact if_pos rfl
    · have h := lookupOf_any ad n c T (numA six hi lo) wx hr hn hs hk (aN_num ha).1
      rw [aN_eq ha] at h
      have hv : lqV (lkQ T (numA six hi lo) 128) = .tuple #[.string (strL (lkP T (numA six hi lo))), .bool (decide (lkP T (numA six hi lo) ≠ []))] := by
        cases hq : lkQ T (numA six hi lo) 128 with
        | none => rw [e3 hq]; rfl
        | some e =>
          rw [(e2 e hq).1]
          unfold lqV
          rw [decide_eq_true (e2 e hq).2]
      rwa [hv] at h
  · exact ⟨⟨#[]⟩, false, if_neg hz, fun h => absurd h hz, fun _ => ⟨rfl, rfl⟩⟩
theorem difV_form (T U : List En) (hu1 : UE T) (hu2 : UE U) : ∃ (d0 : Bool) (d1 d2 : Int) (db : Bool), difV (twoT T U) (difO T U) = .tuple #[.agg #[.bool d0, .int .u64 d1, .int .u64 d2], .bool db, .int .i64 (twoT T U)] ∧
    (twoT T U = 0 → ∀ ad1 n1 c1 ad2 n2 c2 wx, RdK layEn wx ad1 T → T.length = n1 → n1 ≤ 500 → RdK layEn wx ad2 U → U.length = n2 → n2 ≤ 500 → Calls Tryz.prog 28 #[.slice ad1 n1 c1, .slice ad2 n2 c2] wx (Ret (.tuple #[.agg #[.bool d0, .int .u64 d1, .int .u64 d2], .bool db]) wx)) ∧ (twoT T U ≠ 0 → d0 = false ∧ d1 = 0 ∧ d2 = 0 ∧ db = false) := by
  by_cases hz : twoT T U = 0
  · have hT : tabF T = 0 := by
      unfold twoT at hz
      by_cases h : tabF T ≠ 0
      · rw [if_pos h] at hz; exact absurd hz h
      · simpa using h
    have hU : tabF U = 0 := by
      unfold twoT at hz
      rwa [if_neg (by simp [hT])] at hz
    have hk1 := (tabF_ok hT hu1).1
    have hk2 := (tabF_ok hU hu2).1
    rw [hz]
    cases hd : difO T U with
    | none =>
      refine ⟨false, 0, 0, false, rfl, fun _ ad1 n1 c1 ad2 n2 c2 wx h1 e1 l1 h2 e2 l2 => ?_, fun h => absurd rfl h⟩
      have h := differOf_any ad1 n1 c1 T ad2 n2 c2 U wx h1 e1 l1 hk1 h2 e2 l2 hk2
      rwa [hd] at h
    | some a =>
      refine ⟨sixN a, ((hiN a : Nat) : Int), ((loN a : Nat) : Int), true, rfl, fun _ ad1 n1 c1 ad2 n2 c2 wx h1 e1 l1 h2 e2 l2 => ?_, fun h => absurd rfl h⟩
      have h := differOf_any ad1 n1 c1 T ad2 n2 c2 U wx h1 e1 l1 hk1 h2 e2 l2 hk2
      rw [hd] at h
      exact h
  · refine ⟨false, 0, 0, false, ?_, fun h => absurd h hz, fun _ => ⟨rfl, rfl, rfl, rfl⟩⟩
    cases difO T U with
    | none => rfl
    | some a => exact if_neg hz
theorem enSet_cells (x : En) (k : List UInt8) : layEn.enc (x.1, k) = (layEn.enc x).set 4 (.string (strL k)) := rfl
set_option maxRecDepth 100000 in
set_option maxHeartbeats 32000000 in
theorem law_TablesDecide (ad : Option Addr) (n c : Nat) (w : World) (h : LawArg w ad n) :
    Calls Tryz.prog 4 #[.slice ad n c] w (Ret (.bool true) w) := by
  have hS := LawArg.strm (c := c) h
  have HB0 : Hid (Below w.heap.size w (w.alloc (.cells #[.slice ad n c, .int .i64 0] 25 (0, 0)))) := Lib.hid (below_alloc (Below.refl _ _) _)
  have hblt : w.heap.size < (w.alloc (.cells #[.slice ad n c, .int .i64 0] 25 (0, 0))).heap.size := hS.lt
  have HS := Lib.hid hS
  clear h hS
  go_enter Tryz.func4, Tryz.ntmps4
  go_wp2_with fail
  generalize w.alloc (.cells #[.slice ad n c, .int .i64 0] 25 (0, 0)) = w0 at *
  obtain ⟨b, hbw⟩ : ∃ b, w.heap.size = b := ⟨_, rfl⟩
  rw [hbw] at hblt HS HB0 ⊢
  have Hbw := Lib.hid hbw
  clear hbw
  refine (table_gen b 0 _ HS.out (by omega)).mono ?_
  rintro e w1 ⟨v, T, rfl, hO, hu, hl, hg⟩
  have HG1 : Hid (Gen b w0 w1 100) := Lib.hid (hg.mono (by omega))
  obtain ⟨ad1, c1, rfl, -⟩ := hO.form
  obtain ⟨n1, hn1⟩ : ∃ q, T.length = q := ⟨_, rfl⟩
  rw [hn1] at hO hl ⊢
  have HT1 := Lib.hid hO
  have Hn1 := Lib.hid hn1
  have HuT := Lib.hid hu
  clear hO hu hg hn1 HS
  go_wp2_with fail
  refine (table_gen b 100 _ HG1.out.s (by omega)).mono ?_
  rintro e w2 ⟨v, U, rfl, hO, hu, hl2, hg⟩
  have HG2 : Hid (Gen b w0 w2 200) := Lib.hid ((HG1.out.trans hg).mono (by omega))
  have HT2 := Lib.hid (HT1.out.gen hg hblt)
  obtain ⟨ad2, c2, rfl, -⟩ := hO.form
  obtain ⟨n2, hn2⟩ : ∃ q, U.length = q := ⟨_, rfl⟩
  rw [hn2] at hO hl2 ⊢
  have HU2 := Lib.hid (hO.weak HG1.out.g.size)
  have Hn2 := Lib.hid hn2
  have HuU := Lib.hid hu
  clear hO hu hg hn2 HG1 HT1
  go_wp2_with fail
  refine (raw_gen b 200 _ HG2.out.s (by omega)).mono ?_
  rintro e w3 ⟨six, hi0, lo0, rfl, ⟨hu1, hu2⟩, hg⟩
  obtain ⟨hi, rfl, h1⟩ := nat_of_U64 hu1
  obtain ⟨lo, rfl, h2⟩ := nat_of_U64 hu2
  have HUa := Lib.hid (And.intro h1 h2)
  have HG3 : Hid (Gen b w0 (w3.alloc (.cells #[.bool six, .int .u64 (hi : Int), .int .u64 (lo : Int)] 28 (0, 0))) 206) := Lib.hid ((HG2.out.trans hg).alloc _)
  have HT3 := Lib.hid ((HT2.out.gen hg hblt).alloc (.cells #[.bool six, .int .u64 (hi : Int), .int .u64 (lo : Int)] 28 (0, 0)))
  have HU3 := Lib.hid ((HU2.out.gen hg hblt).alloc (.cells #[.bool six, .int .u64 (hi : Int), .int .u64 (lo : Int)] 28 (0, 0)))
  have HA3 : Hid (Blk (w3.alloc (.cells #[.bool six, .int .u64 (hi : Int), .int .u64 (lo : Int)] 28 (0, 0))) w3.heap.size 28 #[.bool six, .int .u64 (hi : Int), .int .u64 (lo : Int)]) := Lib.hid (Blk.new w3 _ _)
  have hab : b < w3.heap.size := by have := (HG2.out.trans hg).s.lt; omega
  clear hg hu1 hu2 h1 h2 HG2 HT2 HU2
  unfold vAddr
  go_upto_region 3 with fail
  generalize w3.alloc (.cells #[.bool six, .int .u64 (hi : Int), .int .u64 (lo : Int)] 28 (0, 0)) = w4 at *
  generalize w3.heap.size = ab at *
  go_wp2_with fail
  refine (flip_gen b 206 _ _ HG3.out.s (by omega) (by omega)).mono ?_
  rintro e w5 ⟨kk, rfl, hg⟩
  have HG5 : Hid (Gen b w0 w5 207) := Lib.hid (HG3.out.trans hg)
  have HT5 := Lib.hid (HT3.out.gen hg hblt)
  have HU5 := Lib.hid (HU3.out.gen hg hblt)
  have HA5 := Lib.hid (HA3.out.keep hg.g (by omega))
  clear hg HG3 HT3 HU3 HA3
  go_upto_if 33 with fail
  go_cut [5] (fun s5 wx => ∃ (ya : Option Addr) (ny yc : Nat) (Y : List En), s5 = .slice ya ny yc ∧ Y.length = ny ∧ ny ≤ 7 ∧ UE Y ∧ Gen b w0 wx 220 ∧ OwnK layEn wx w0.heap.size (.slice ad1 n1 c1) T ∧ OwnK layEn wx w0.heap.size (.slice ya ny yc) Y ∧ Blk wx ab 28 #[.bool six, .int .u64 (hi : Int), .int .u64 (lo : Int)])
  case first =>
    cases kk
    · go_wp2_with fail
      go_meet
      case rel => exact ⟨_, _, _, U, rfl, Hn2.out, hl2, HuU.out, HG5.out.mono (by omega), HT5.out, HU5.out, HA5.out⟩
    · have HCl := Lib.hid (cloneEn_any ad1 n1 c1 T w5 HT5.out.rd Hn1.out (by omega))
      clear HU5 HuU Hn2 hl2
      go_wp2_with fail
      refine HCl.out.mono ?_
      rintro e w6 ⟨v6, rfl, hO6, hb6⟩
      have HG6 : Hid (Gen b w0 w6 207) := Lib.hid (HG5.out.below0 hb6 HG5.out.s.lt)
      have HT6 := Lib.hid (HT5.out.later hb6)
      have HA6 := Lib.hid (HA5.out.below hb6 HA5.out.lt)
      have HY6 : Hid (OwnK layEn w6 w0.heap.size v6 T) := Lib.hid (hO6.weak HG5.out.g.size)
      have Hfr : Hid (∀ k, v6.ownBlock = some k → w5.heap.size ≤ k) := Lib.hid (own_base hO6)
      have Hab5 : Hid (ab < w5.heap.size) := Lib.hid HA5.out.lt
      have HT5b : Hid (∀ k, (Value.slice ad1 n1 c1).ownBlock = some k → k < w5.heap.size) := Lib.hid (own_lt HT5.out)
      obtain ⟨ya, yc, rfl, -, -, -⟩ := hO6.form
      rw [Hn1.out] at HY6 Hfr ⊢
      clear hO6 hb6 HCl HG5 HT5 HA5
      go_upto_region 5 with fail
      go_cut [42] (fun s wx => ∃ kb : Bool, s = .bool kb ∧ (kb = true → 0 < n1) ∧ Gen b w0 wx 208 ∧ OwnK layEn wx w0.heap.size (.slice ad1 n1 c1) T ∧ OwnK layEn wx w0.heap.size (.slice ya n1 yc) T ∧ Blk wx ab 28 #[.bool six, .int .u64 (hi : Int), .int .u64 (lo : Int)])
      case first =>
        rcases Nat.eq_zero_or_pos n1 with h0 | h0
        · subst h0
          go_wp2_with fail
          go_meet
          case rel => exact ⟨false, rfl, fun h => (by cases h), HG6.out.mono (by omega), HT6.out, HY6.out, HA6.out⟩
        · have z0 : decide (0 < n1) = true := decide_eq_true h0
          have z1 : (n1 : Int) > 0 := by omega
          go_wp2_with fail
          refine (flip_gen b 207 _ _ HG6.out.s (by omega) (by omega)).mono ?_
          rintro e w7 ⟨kb, rfl, hg⟩
          have HG7 : Hid (Gen b w0 w7 208) := Lib.hid (HG6.out.trans hg)
          have HT7 := Lib.hid (HT6.out.gen hg hblt)
          have HY7 := Lib.hid (HY6.out.gen hg hblt)
          have HA7 := Lib.hid (HA6.out.keep hg.g (by omega))
          clear hg HG6 HT6 HY6 HA6
          go_wp2_with fail
          go_meet
          case rel => exact ⟨kb, rfl, fun _ => h0, HG7.out, HT7.out, HY7.out, HA7.out⟩
      case rest =>
        clear HG6 HT6 HY6 HA6
        obtain ⟨kb, rfl, hkb, hg, hT, hY, hA⟩ := hcut
        have HG6 := Lib.hid hg
        have HT6 := Lib.hid hT
        have HY6 := Lib.hid hY
        have HA6 := Lib.hid hA
        have HKb := Lib.hid hkb
        clear hg hT hY hA hkb
        cases kb
        · go_wp2_with fail
          go_meet
          case rel => exact ⟨_, _, _, T, rfl, Hn1.out, hl, HuT.out, HG6.out.mono (by omega), HT6.out, HY6.out, HA6.out⟩
        · have h0 := HKb.out rfl
          obtain ⟨g2, cc2, hv, hg2B, hg2lt, -⟩ := HY6.out.one (by rw [Hn1.out]; exact h0)
          injection hv with hv q1 q2
          subst hv
          clear q1 q2 HKb
          go_wp2_with fail
          refine (next_gen b 208 _ _ HG6.out.s (by omega) (by omega)).mono ?_
          rintro e w8 ⟨kx, rfl, ⟨hk0, hk1⟩, hg⟩
          obtain ⟨q, rfl⟩ := Int.eq_ofNat_of_zero_le hk0
          have hq : q < n1 := by omega
          have HG8 : Hid (Gen b w0 w8 209) := Lib.hid (HG6.out.trans hg)
          have HT8 := Lib.hid (HT6.out.gen hg hblt)
          have HY8 := Lib.hid (HY6.out.gen hg hblt)
          have HA8 := Lib.hid (HA6.out.keep hg.g (by omega))
          clear hg HG6 HT6 HY6 HA6 hk0 hk1
          have HSt := Lib.hid (rdStr_new w8 9 [⟨#[97]⟩, ⟨#[98]⟩] _ rfl)
          go_wp2_with fail
          refine (some_gen b 209 w8.heap.size 2 [⟨#[97]⟩, ⟨#[98]⟩] _ (HG8.out.s.alloc _) (by omega) rfl (by omega) HSt.out (by have := HG8.out.s.lt; omega)).mono ?_
          rintro e w9 ⟨ks, rfl, hks, hg⟩
          have HG9 : Hid (Gen b w0 w9 210) := Lib.hid ((HG8.out.alloc _).trans hg)
          have HT9 := Lib.hid ((HT8.out.alloc _).gen hg hblt)
          have HY9 := Lib.hid ((HY8.out.alloc _).gen hg hblt)
          have HA9 := Lib.hid ((HA8.out.alloc _).keep hg.g (by omega))
          have hkl : ks.data.toList.length ≤ 1000 := by
            simp at hks
            rcases hks with rfl | rfl <;> decide
          have hks2 : strL ks.data.toList = ks := strL_of ks
          obtain ⟨kl, hkl2⟩ : ∃ q, ks.data.toList = q := ⟨_, rfl⟩
          rw [hkl2] at hkl hks2
          subst hks2
          clear hg hks hkl2 HG8 HT8 HY8 HA8 HSt
          obtain ⟨x, hx⟩ : ∃ x, T[q]? = some x := ⟨_, List.getElem?_eq_getElem (by rw [Hn1.out]; exact hq)⟩
          have e0 : w9.cell? ⟨g2, q * 5 + 4, none⟩ = some (.string (strL x.2)) := HY9.out.get (i := q) (j := 4) hx rfl
          have ef := HY9.out.frozen
          have hg2w : w5.heap.size ≤ g2 := Hfr.out g2 rfl
          have habl := Hab5.out
          have HYe : Hid (OwnK layEn (w9.setCell ⟨g2, q * 5 + 4, none⟩ (.string (strL kl))) w0.heap.size (.slice (some ⟨g2, 0, none⟩) n1 yc) (T.set q (x.1, kl))) := Lib.hid (HY9.out.setTo (i := q) (j := 4) (v := .string (strL kl)) (y := (x.1, kl)) hx (by decide) (enSet_cells x kl))
          have HTe : Hid (OwnK layEn (w9.setCell ⟨g2, q * 5 + 4, none⟩ (.string (strL kl))) w0.heap.size (.slice ad1 n1 c1) T) := Lib.hid (World.ownsRow.kept HT9.out (grown_setCells g2 [.string (strL kl)] (q * 5 + 4) w9) (by
            cases hv : (Value.slice ad1 n1 c1).ownBlock with
            | none => exact .inl rfl
            | some k => exact .inr (by have := HT5b.out k hv; simp; omega)))
          have HAe : Hid (Blk (w9.setCell ⟨g2, q * 5 + 4, none⟩ (.string (strL kl))) ab 28 #[.bool six, .int .u64 (hi : Int), .int .u64 (lo : Int)]) := Lib.hid (Blk.farCells HA9.out (by omega) (q * 5 + 4) [.string (strL kl)])
          have HGe : Hid (Gen b w0 (w9.setCell ⟨g2, q * 5 + 4, none⟩ (.string (strL kl))) 220) := Lib.hid ((HG9.out.setCell ⟨g2, q * 5 + 4, none⟩ _ hg2B (by show b < g2; omega)).mono (by omega))
          have HUe : Hid (UE (T.set q (x.1, kl))) := Lib.hid (HuT.out.set q (x.1, kl) ⟨(HuT.out x (List.mem_of_getElem? hx)).1, hkl⟩)
          clear hx HG9 HT9 HY9 HA9
          go_wp2_with fail
          go_meet
          case rel => exact ⟨_, _, _, T.set q (x.1, kl), rfl, List.length_set.trans Hn1.out, hl, HUe.out, HGe.out, HTe.out, HYe.out, HAe.out⟩
  case rest =>
    clear HG5 HT5 HU5 HA5 HuU Hn2 hl2
    obtain ⟨ad2, n2, c2, U, rfl, hn2, hl2, hu, hg, hT, hU, hA⟩ := hcut
    have hbel : Below b w wc := by
      have := Gen.toBelowR (w := w) hg (by rw [Hbw.out]; exact HB0.out) (by rw [Hbw.out]; exact Nat.le_refl _)
      rwa [Hbw.out] at this
    have HBw := Lib.hid hbel
    have hbwc : b ≤ wc.heap.size := by have := hg.s.lt; omega
    have HRT : Hid (∀ wx, Below wc.heap.size wc wx → RdK layEn wx ad1 T) := Lib.hid fun wx hb => hT.rd.below hb
    have HRU : Hid (∀ wx, Below wc.heap.size wc wx → RdK layEn wx ad2 U) := Lib.hid fun wx hb => hU.rd.below hb
    have HAb : Hid (∀ wx, Below wc.heap.size wc wx → Blk wx ab 28 #[.bool six, .int .u64 (hi : Int), .int .u64 (lo : Int)]) := Lib.hid fun wx hb => hA.below hb hA.lt
    have Hn2 := Lib.hid hn2
    have HuU := Lib.hid hu
    clear hg hT hU hA hn2 hu hbel HB0
    obtain ⟨LS, LB, hAl, hAl0, hAl1⟩ := alV_form T six hi lo HuT.out HUa.out.1 HUa.out.2
    obtain ⟨d0, d1, d2, db, hDf, hDf0, hDf1⟩ := difV_form T U HuT.out HuU.out
    have HAl0 := Lib.hid hAl0
    have HAl1 := Lib.hid hAl1
    have HDf0 := Lib.hid hDf0
    have HDf1 := Lib.hid hDf1
    have HLk : Hid (∀ wx, RdK layEn wx ad1 T → Calls Tryz.prog 19 #[.slice ad1 n1 c1, .agg #[.bool six, .int .u64 (hi : Int), .int .u64 (lo : Int)]] wx (Ret (.tuple #[.string LS, .bool LB, .int .i64 (twoA T six hi lo)]) wx)) := Lib.hid fun wx hr => by
      have := aLookup_any ad1 n1 c1 T six hi lo wx hr Hn1.out (by omega) HuT.out HUa.out.1 HUa.out.2
      rwa [hAl] at this
    have HSq := Lib.hid fun wx (hr : RdK layEn wx ad1 T) => aSqueeze_any ad1 n1 c1 T wx hr Hn1.out (by omega) HuT.out
    have HDf : Hid (∀ wx, RdK layEn wx ad1 T → RdK layEn wx ad2 U → Calls Tryz.prog 21 #[.slice ad1 n1 c1, .slice ad2 n2 c2] wx (Ret (.tuple #[.agg #[.bool d0, .int .u64 d1, .int .u64 d2], .bool db, .int .i64 (twoT T U)]) wx)) := Lib.hid fun wx hr1 hr2 => by
      have := aDiffer_any ad1 n1 c1 T ad2 n2 c2 U wx hr1 Hn1.out (by omega) HuT.out hr2 Hn2.out (by omega) HuU.out
      rwa [hDf] at this
    have HT1 := Lib.hid fun wx (hr : RdK layEn wx ad1 T) => tableFault_any ad1 n1 c1 T wx hr Hn1.out (by omega) HuT.out
    have HT2 := Lib.hid fun wx (hr : RdK layEn wx ad2 U) => tableFault_any ad2 n2 c2 U wx hr Hn2.out (by omega) HuU.out
    have HCk := Lib.hid fun wx (hr : RdK layEn wx ad1 T) => checkTable_any ad1 n1 c1 T wx hr Hn1.out (by omega) HuT.out
    have HAf := Lib.hid fun wx => addrFault_any six (hi : Int) (lo : Int) wx ⟨by omega, by have := HUa.out.1; unfold U64N at this; omega⟩ ⟨by omega, by have := HUa.out.2; unfold U64N at this; omega⟩
    unfold vAddr at HAf
    have HF2 : Hid (firstE [tabF T, tabF U] = twoT T U) := Lib.hid (firstE_two _ _)
    have HFL : Hid (firstE [tabF T, aFault six (hi : Int) (lo : Int)] = twoA T six hi lo) := Lib.hid (firstE_two _ _)
    have HRL0 : Hid (tabF T ≠ 0 → (if tabF T = 0 then sqL T else []) = []) := Lib.hid fun h => if_neg h
    have HSz : Hid (tabF T = 0 → ∀ wx, RdK layEn wx ad1 T → Calls Tryz.prog 27 #[.slice ad1 n1 c1] wx fun e w' => ∃ v, e = .returned v ∧ OwnK layEn w' wx.heap.size v (if tabF T = 0 then sqL T else []) ∧ Below wx.heap.size wx w') := Lib.hid fun h wx hr => by
      rw [if_pos h]
      exact squeezeTable_any ad1 n1 c1 T wx (tabF_ok h HuT.out).1 hr Hn1.out (by omega)
    have HRLn : Hid ((if tabF T = 0 then sqL T else []).length ≤ 7) := Lib.hid (by
      split
      · have : (sqL T).length ≤ T.length := List.length_filter_le _ _
        have h2 := Hn1.out
        omega
      · exact Nat.zero_le _)
    clear hAl hAl0 hAl1 hDf hDf0 hDf1
    generalize (if tabF T = 0 then sqL T else []) = RL at *
    generalize twoT T U = F2 at *
    generalize twoA T six hi lo = FL at *
    generalize tabF T = F1 at *
    generalize tabF U = FU at *
    generalize aFault six (hi : Int) (lo : Int) = FA at *
    have HW0 : Hid (Below wc.heap.size wc wc) := Lib.hid (Below.refl _ _)
    have HAx := Lib.hid (HAb.out wc HW0.out)
    have x0 := HAx.out.cell 0
    have x1 := HAx.out.cell 1
    have x2 := HAx.out.cell 2
    simp at x0 x1 x2
    have HCx := Lib.hid (HLk.out wc (HRT.out _ HW0.out))
    go_wp2_with fail
    refine HCx.out.mono ?_
    rintro e v1 ⟨rfl, hb⟩
    have HW1 := Lib.hid (HW0.out.trans (hb.mono HW0.out.size))
    clear hb HCx HW0 HAx x0 x1 x2
    have HCx := Lib.hid (HSq.out v1 (HRT.out _ HW1.out))
    go_wp2_with fail
    refine HCx.out.mono ?_
    rintro e v2 ⟨vy, rfl, hO, hb⟩
    obtain ⟨ady, cy, rfl, -, -, -⟩ := hO.form
    have HW2 := Lib.hid (HW1.out.trans (hb.mono HW1.out.size))
    have HY2 : Hid (OwnK layEn v2 0 (.slice ady RL.length cy) RL) := Lib.hid (hO.weak (Nat.zero_le _))
    obtain ⟨ny, hny⟩ : ∃ q, RL.length = q := ⟨_, rfl⟩
    rw [hny] at HY2 ⊢
    have Hny := Lib.hid hny
    clear hO hb HCx HW1 hny
    have HCx := Lib.hid (HDf.out v2 (HRT.out _ HW2.out) (HRU.out _ HW2.out))
    go_wp2_with fail
    refine HCx.out.mono ?_
    rintro e v3 ⟨rfl, hb⟩
    have HW3 : Hid (Below wc.heap.size wc (v3.alloc (.cells #[.bool d0, .int .u64 d1, .int .u64 d2] 28 (0, 0)))) := Lib.hid (Below.alloc (HW2.out.trans (hb.mono HW2.out.size)) (Nat.le_trans HW2.out.size hb.size) _)
    have HY3 := Lib.hid ((HY2.out.later hb).alloc (.cells #[.bool d0, .int .u64 d1, .int .u64 d2] 28 (0, 0)))
    have HD3 : Hid (Blk (v3.alloc (.cells #[.bool d0, .int .u64 d1, .int .u64 d2] 28 (0, 0))) v3.heap.size 28 #[.bool d0, .int .u64 d1, .int .u64 d2]) := Lib.hid (Blk.new v3 _ _)
    clear hb HCx HW2 HY2
    go_upto_region 10 with fail
    generalize v3.alloc (.cells #[.bool d0, .int .u64 d1, .int .u64 d2] 28 (0, 0)) = u3 at *
    generalize v3.heap.size = bd at *
    have HCx := Lib.hid (HT1.out u3 (HRT.out _ HW3.out))
    go_wp2_with fail
    refine HCx.out.mono ?_
    rintro e v4 ⟨rfl, hb⟩
    have HW4 := Lib.hid (HW3.out.trans (hb.mono HW3.out.size))
    have HY4 := Lib.hid (HY3.out.later hb)
    have HD4 := Lib.hid (HD3.out.below hb HD3.out.lt)
    clear hb HCx HW3 HY3 HD3
    have HCx := Lib.hid (HT1.out v4 (HRT.out _ HW4.out))
    go_wp2_with fail
    refine HCx.out.mono ?_
    rintro e v5 ⟨rfl, hb⟩
    have HW5 := Lib.hid (HW4.out.trans (hb.mono HW4.out.size))
    have HY5 := Lib.hid (HY4.out.later hb)
    have HD5 := Lib.hid (HD4.out.below hb HD4.out.lt)
    clear hb HCx HW4 HY4 HD4
    have HCx := Lib.hid (HT2.out v5 (HRU.out _ HW5.out))
    go_wp2_with fail
    refine HCx.out.mono ?_
    rintro e v6 ⟨rfl, hb⟩
    have HW6 := Lib.hid (HW5.out.trans (hb.mono HW5.out.size))
    have HY6 := Lib.hid (HY5.out.later hb)
    have HD6 := Lib.hid (HD5.out.below hb HD5.out.lt)
    clear hb HCx HW5 HY5 HD5
    go_wp2_with fail
    refine (errs_any _ 2 2 [F1, FU] _ (rdInts_new _ _ [F1, FU] _ rfl) (by omega)).mono ?_
    rintro e q6 ⟨rfl, rfl⟩
    rw [HF2.out]
    have HW7 : Hid (Below wc.heap.size wc (v6.alloc (.cells #[.int .i64 F1, .int .i64 FU] 33 (0, 0)))) := Lib.hid (HW6.out.alloc HW6.out.size (.cells #[.int .i64 F1, .int .i64 FU] 33 (0, 0)))
    have HY7 := Lib.hid (HY6.out.alloc (.cells #[.int .i64 F1, .int .i64 FU] 33 (0, 0)))
    have HD7 := Lib.hid (HD6.out.alloc (.cells #[.int .i64 F1, .int .i64 FU] 33 (0, 0)))
    clear HW6 HY6 HD6
    go_upto_region 11 with fail
    generalize v6.alloc (.cells #[.int .i64 F1, .int .i64 FU] 33 (0, 0)) = v7 at *
    have HAx := Lib.hid (HAb.out v7 HW7.out)
    have x0 := HAx.out.cell 0
    have x1 := HAx.out.cell 1
    have x2 := HAx.out.cell 2
    simp at x0 x1 x2
    have HCx := Lib.hid (HAf.out v7)
    go_wp2_with fail
    refine HCx.out.mono ?_
    rintro e v8 ⟨rfl, oo, hoo⟩
    have hb : Below v7.heap.size v7 v8 := by rw [hoo]; exact below_alloc (Below.refl _ _) _
    clear hoo
    have HW8 := Lib.hid (HW7.out.trans (hb.mono HW7.out.size))
    have HY8 := Lib.hid (HY7.out.later hb)
    have HD8 := Lib.hid (HD7.out.below hb HD7.out.lt)
    clear hb HCx HW7 HY7 HD7 HAx x0 x1 x2
    go_wp2_with fail
    refine (errs_any _ 2 2 [F1, FA] _ (rdInts_new _ _ [F1, FA] _ rfl) (by omega)).mono ?_
    rintro e q8 ⟨rfl, rfl⟩
    rw [HFL.out]
    have HW9 : Hid (Below wc.heap.size wc (v8.alloc (.cells #[.int .i64 F1, .int .i64 FA] 33 (0, 0)))) := Lib.hid (HW8.out.alloc HW8.out.size (.cells #[.int .i64 F1, .int .i64 FA] 33 (0, 0)))
    have HY9 := Lib.hid (HY8.out.alloc (.cells #[.int .i64 F1, .int .i64 FA] 33 (0, 0)))
    have HD9 := Lib.hid (HD8.out.alloc (.cells #[.int .i64 F1, .int .i64 FA] 33 (0, 0)))
    clear HW8 HY8 HD8
    go_upto_region 12 with fail
    generalize v8.alloc (.cells #[.int .i64 F1, .int .i64 FA] 33 (0, 0)) = v9 at *
    have HCx := Lib.hid (HCk.out v9 (HRT.out _ HW9.out))
    go_wp2_with fail
    refine HCx.out.mono ?_
    rintro e v10 ⟨rfl, hb⟩
    have HW10 := Lib.hid (HW9.out.trans (hb.mono HW9.out.size))
    have HY10 := Lib.hid (HY9.out.later hb)
    have HD10 := Lib.hid (HD9.out.below hb HD9.out.lt)
    clear hb HCx HW9 HY9 HD9
    clear HLk HSq HDf HT1 HT2 HCk HAf HF2 HFL
    go_upto_if 105 with fail
    go_cut [18, 19] (fun sa sb wx => sa = .string LS ∧ sb = .bool LB ∧ Below v10.heap.size v10 wx)
    case first =>
      by_cases hz : FL = 0
      · have HLo := Lib.hid (HAl0.out hz ad1 n1 c1 v10 (HRT.out _ HW10.out) Hn1.out (by omega))
        subst hz
        have HAx := Lib.hid (HAb.out v10 HW10.out)
        have x0 := HAx.out.cell 0
        have x1 := HAx.out.cell 1
        have x2 := HAx.out.cell 2
        simp at x0 x1 x2
        go_wp2_with fail
        refine HLo.out.mono ?_
        rintro e y1 ⟨rfl, hb⟩
        go_wp2_with fail
        go_meet
        case rel => exact ⟨rfl, rfl, hb⟩
      · obtain ⟨rfl, rfl⟩ := HAl1.out hz
        have hz2 : (FL == 0) = false := by simpa using hz
        go_wp2_with fail
        go_meet
        case rel => exact ⟨rfl, rfl, Below.refl _ _⟩
    case rest =>
      obtain ⟨rfl, rfl, hb⟩ := hcut
      have HW11 := Lib.hid (HW10.out.trans (hb.mono HW10.out.size))
      have HY11 := Lib.hid (HY10.out.later hb)
      have HD11 := Lib.hid (HD10.out.below hb HD10.out.lt)
      clear HAl0 HAl1 hb HW10 HY10 HD10
      have hRLn := HRLn.out
      go_upto_if 113 with fail
      go_cut [20] (fun sv wx => ∃ (az : Option Addr) (cz : Nat), sv = .slice az ny cz ∧ RdK layEn wx az RL ∧ Below wc.heap.size wc wx)
      case first =>
        by_cases hz : F1 = 0
        · have HSx := Lib.hid (HSz.out hz wc (HRT.out _ HW11.out))
          subst hz
          go_wp2_with fail
          refine HSx.out.mono ?_
          rintro e y1 ⟨vz, rfl, hO, hb⟩
          obtain ⟨az, cz, rfl, -, -, -⟩ := hO.form
          rw [Hny.out] at hO ⊢
          go_wp2_with fail
          go_meet
          case rel => exact ⟨az, cz, rfl, hO.rd, hb⟩
        · have hRL := HRL0.out hz
          have hz2 : (F1 == 0) = false := by simpa using hz
          have hny0 : ny = 0 := by rw [← Hny.out, hRL]; rfl
          subst hRL
          subst hny0
          go_wp2_with fail
          go_meet
          case rel => exact ⟨none, 0, rfl, RdK.nil _ _, Below.refl _ _⟩
      case rest =>
        obtain ⟨az, cz, rfl, hz, hb⟩ := hcut
        have HZ12 := Lib.hid hz
        clear hz HSz HRL0
        have HW12 := Lib.hid (HW11.out.trans (hb.mono HW11.out.size))
        have HY12 := Lib.hid (HY11.out.later hb)
        have HD12 := Lib.hid (HD11.out.below hb HD11.out.lt)
        clear  hb HW11 HY11 HD11
        have HP0 : Hid (Blk (wc.alloc (.cells #[.bool false, .int .u64 0, .int .u64 0] 28 (0, 0))) wc.heap.size 28 #[.bool false, .int .u64 0, .int .u64 0]) := Lib.hid (Blk.new wc _ _)
        have HQ0 : Hid (Below wc.heap.size wc (wc.alloc (.cells #[.bool false, .int .u64 0, .int .u64 0] 28 (0, 0)))) := Lib.hid (below_alloc (Below.refl _ _) _)
        have HWa := Lib.hid (HW12.out.alloc HW12.out.size (.cells #[.bool false, .int .u64 0, .int .u64 0] 28 (0, 0)))
        go_upto_region 21 with fail
        generalize wc.alloc (.cells #[.bool false, .int .u64 0, .int .u64 0] 28 (0, 0)) = w21 at *
        obtain ⟨bz, hbz⟩ : ∃ q, wc.heap.size = q := ⟨_, rfl⟩
        have Hbz := Lib.hid hbz
        rw [hbz] at HP0 HQ0 ⊢
        clear hbz
        go_upto_if 118 with fail
        go_cut [22] (fun sv wx => sv = .bool db ∧ Blk wx bz 28 #[.bool d0, .int .u64 d1, .int .u64 d2] ∧ Below bz wc wx)
        case first =>
          by_cases hz : F2 = 0
          · have HDo := Lib.hid (HDf0.out hz ad1 n1 c1 ad2 n2 c2 w21 (HRT.out _ HWa.out) Hn1.out (by omega) (HRU.out _ HWa.out) Hn2.out (by omega))
            subst hz
            go_wp2_with fail
            refine HDo.out.mono ?_
            rintro e y1 ⟨rfl, hb⟩
            have HP1 := Lib.hid (HP0.out.below hb HP0.out.lt)
            have HQ1 := Lib.hid (HQ0.out.trans (hb.mono (Nat.le_of_lt HP0.out.lt)))
            clear hb HP0 HQ0
            have q0 := HP1.out.cell 0
            have q1 := HP1.out.cell 1
            have q2 := HP1.out.cell 2
            have qf := HP1.out.free
            simp at q0 q1 q2
            have HPs := Lib.hid (HP1.out.set3 (x' := .bool d0) (y' := .int .u64 d1) (z' := .int .u64 d2))
            have HQs : Hid (Below bz wc (((y1.setCell ⟨bz, 0, none⟩ (.bool d0)).setCell ⟨bz, 1, none⟩ (.int .u64 d1)).setCell ⟨bz, 2, none⟩ (.int .u64 d2))) := Lib.hid (HQ1.out.grown (grown_setCells bz [.bool d0, .int .u64 d1, .int .u64 d2] 0 y1) (Nat.le_of_lt HP1.out.lt) (fun k hk => by injection hk with hk; omega))
            go_wp2_with fail
            go_meet
            case rel => exact ⟨rfl, HPs.out, HQs.out⟩
          · obtain ⟨rfl, rfl, rfl, rfl⟩ := HDf1.out hz
            have hz2 : (F2 == 0) = false := by simpa using hz
            go_wp2_with fail
            go_meet
            case rel => exact ⟨rfl, HP0.out, HQ0.out⟩
        case rest =>
          clear HP0 HQ0 HDf0 HDf1 HWa
          obtain ⟨rfl, hP, hb⟩ := hcut
          rw [← Hbz.out] at hb
          have HP1 := Lib.hid hP
          have HZ13 := Lib.hid (HZ12.out.below hb)
          clear hP HZ12
          have HW13 := Lib.hid (HW12.out.trans (hb.mono HW12.out.size))
          have HY13 := Lib.hid (HY12.out.later hb)
          have HD13 := Lib.hid (HD12.out.below hb HD12.out.lt)
          clear  hb HW12 HY12 HD12
          have HEq := Lib.hid (equalEn_any ady az ny cy cz RL wc HY13.out.rd HZ13.out Hny.out (by have := HRLn.out; have := Hny.out; omega))
          go_wp2_with fail
          refine HEq.out.mono ?_
          rintro e y1 ⟨rfl, hb⟩
          have HE1 := Lib.hid (HW13.out.trans (hb.mono HW13.out.size))
          have HD14 := Lib.hid (HD13.out.below hb HD13.out.lt)
          have HP2 := Lib.hid (HP1.out.below hb HP1.out.lt)
          clear hb HEq HW13 HD13 HP1
          have p0 := HD14.out.cell 0
          have p1 := HD14.out.cell 1
          have p2 := HD14.out.cell 2
          simp at p0 p1 p2
          have q0 := HP2.out.cell 0
          have q1 := HP2.out.cell 1
          have q2 := HP2.out.cell 2
          simp at q0 q1 q2
          have hAd := Lib.hid fun wx => addressed_any wx
          have e1 := eqlA_self
          have e2 := addr_guard
          go_wp2_with fail
          refine (hAd.out _).mono ?_
          rintro e z ⟨rfl, hb⟩
          have HE : Hid (Below b w z) := Lib.hid (HBw.out.trans ((HE1.out.trans (hb.mono HE1.out.size)).mono hbwc))
          clear hb
          go_wp2_with fail
          go_ret
          exact ⟨rfl, by rw [Hbw.out]; exact HE.out⟩
end Go.Proofs.YteccghdegckjhaaGreatDoor
