/-
  Generators of tables: RightTable, Table.
-/
import Derived.Test.YteccghdegckjhaaGreatDoorTD14
import Derived.Test.YteccghdegckjhaaGreatDoorTD15
import Derived.Test.YteccghdegckjhaaGreatDoorTD16
import Derived.Test.YteccghdegckjhaaGreatDoorTD13
import Derived.Test.YteccghdegckjhaaGreatDoorTD17
import Derived.OwnWalk
import Derived.Deep.Light
set_option linter.unusedVariables false
namespace Go.Proofs.YteccghdegckjhaaGreatDoor
open Go.RowKit Go
set_option linter.unusedVariables false

set_option maxRecDepth 100000 in
set_option maxHeartbeats 4000000 in
theorem rightTable_gen (b m : Nat) (w : World) (h : Strm w b m) (hm : m + 100 < 1099511627776) :
    Calls Tryz.prog 48 #[.pointer (some ⟨b, 0, none⟩)] w fun e w' => ∃ v T, e = .returned v ∧ OwnK layEn w' w.heap.size v T ∧ (∀ e ∈ T, OkPf e.1 ∧ e.2.length ≤ 1000) ∧ T.length ≤ 7 ∧ Gen b w w' (m + 50) := by
  have hblt := h.lt
  go_enter Tryz.func48, Tryz.ntmps48
  go_wp2_with fail
  refine (range_gen b m 0 7 _ h (by omega) (by omega) (by omega)).mono ?_
  rintro e w1 ⟨r, rfl, hr, hg⟩
  obtain ⟨n, rfl, hn⟩ : ∃ n : Nat, r = (n : Int) ∧ n ≤ 7 := by
    have : 0 ≤ r ∧ r ≤ 7 := by unfold RangeRes at hr; omega
    exact ⟨r.toNat, by omega, by omega⟩
  have HG1 := Lib.hid hg
  clear hg hr h
  go_wp2_with fail
  go_loopw [3, 6] (fun v i wr => ∃ (j : Nat) (V : Value) (L : List EB), j ≤ n ∧ i = .int .i64 (j : Int) ∧ V = v ∧ Hid (OwnK layEB wr w.heap.size V L) ∧ Hid (L.length = j) ∧ Hid (Gen b w wr (m + 1 + 6 * j))) (fun _ i _ => n - (intOf i).toNat)
  case atStart => exact ⟨0, _, [], Nat.zero_le _, rfl, rfl, Lib.hid (OwnK.nil _ _ _), Lib.hid rfl, HG1⟩
  case round =>
    clear HG1
    obtain ⟨j, v, L, hj, rfl, rfl, HO, HL, HG⟩ := hrel
    by_cases hlt : j < n
    · go_wp2_with fail
      refine (rightPrefix_ok b (m + 1 + 6 * j) _ HG.out.s (by omega)).mono ?_
      rintro e w2 ⟨⟨q1, q2, q3, q4⟩, rfl, hok, hg⟩
      have HO2 : Hid (OwnK layEB w2 w.heap.size v L) := Lib.hid (HO.out.gen hg hblt)
      have HG2 : Hid (Gen b w w2 (m + 1 + 6 * j + 5)) := Lib.hid (HG.out.trans hg)
      have Hok := Lib.hid hok
      clear hg HO HG hok
      rw [show (pfC (q1, q2, q3, q4)).toArray = #[.bool q1, .int .u64 ((q2 : Nat) : Int), .int .u64 ((q3 : Nat) : Int), .int .i64 q4] from rfl]
      have HSt := Lib.hid (rdStr_new w2 9 [⟨#[97]⟩, ⟨#[97]⟩, ⟨#[98]⟩, ⟨#[99]⟩] _ rfl)
      go_wp2_with fail
      refine (some_gen b (m + 1 + 6 * j + 5) w2.heap.size 4 [⟨#[97]⟩, ⟨#[97]⟩, ⟨#[98]⟩, ⟨#[99]⟩] _ (HG2.out.s.alloc _) (by omega) rfl (by omega) HSt.out (by have := HG2.out.s.lt; omega)).mono ?_
      rintro e w3 ⟨ks, rfl, hks, hg⟩
      have HG3 : Hid (Gen b w w3 (m + 1 + 6 * (j + 1))) := Lib.hid (((HG2.out.alloc _).trans hg).mono (by omega))
      have HO3 : Hid (OwnK layEB w3 w.heap.size v L) := Lib.hid ((HO2.out.alloc _).gen hg hblt)
      have hkl : ks.data.toList.length ≤ 1000 := by
        simp at hks
        rcases hks with rfl | rfl | rfl <;> decide
      have hks2 : strL ks.data.toList = ks := strL_of ks
      obtain ⟨kl, hkl2⟩ : ∃ q, ks.data.toList = q := ⟨_, rfl⟩
      rw [hkl2] at hkl hks2
      subst hks2
      obtain ⟨x, hx⟩ : ∃ x : EB, x = ⟨((q1, q2, q3, q4), kl), Hok.out, hkl⟩ := ⟨_, rfl⟩
      have HX : Hid ((layEB.enc x).toArray = #[.bool q1, .int .u64 ((q2 : Nat) : Int), .int .u64 ((q3 : Nat) : Int), .int .i64 q4, .string (strL kl)]) := Lib.hid (by rw [hx]; rfl)
      generalize strL kl = KS at *
      clear hg hks hkl hkl2 hx HO2 HG2 HSt Hok
      go_wp2_with (at_builtin; refine wpList_app enE rfl (.tmp 8) (.tmp 15) rfl rfl (World.ownsRow.alloc HO3.out _) rfl (src_new layEB _ x _ _ ?c0) ?c1 ?c2 ?c3 ?c4 ?_)
      case c0 => exact HX.out.symm
      case c1 => exact layEB.one _
      case c2 => have := HL.out; unfold maxLen; omega
      case c3 => have := HL.out; omega
      case c4 => have := HG3.out.g.size; simp; omega
      intro v' w' hO hG
      have HO' : Hid (OwnK layEB w' w.heap.size v' (L ++ [x])) := Lib.hid (OwnK.snoc hO)
      have HG' : Hid (Gen b w w' (m + 1 + 6 * (j + 1))) := Lib.hid (HG3.out.below (hG.allocFirst.below HG3.out.g.size (own_base HO3.out)) (Nat.le_refl _) hblt)
      clear hO hG HO3 HG3
      go_wp2_with fail
      exact ⟨⟨j + 1, _, L ++ [x], by omega, by go_num, rfl, HO', Lib.hid (by rw [List.length_append, HL.out]; rfl), HG'⟩, by simp [intOf]; omega⟩
    · obtain rfl : j = n := by omega
      obtain ⟨ad, c, rfl, -, -, -⟩ := HO.out.form
      have egs : ∀ args w, (callFunc 91 args).run Tryz.prog w = .ok (.enter 91 args) w := Go.Proofs.enters_of Tryz.func91 (by kernel_rfl) rfl
      have HSo := Lib.hid (sortStableEB_any 91 egs rt1_any w.heap.size L.length c ad L wr HO.out (by rw [HL.out]; omega))
      clear egs
      go_wp2_with fail
      refine HSo.out.mono ?_
      rintro e w4 ⟨rfl, ho, hG⟩
      have HG4 : Hid (Gen b w w4 (m + 1 + 6 * j)) := Lib.hid (HG.out.below (hG.below HG.out.g.size (own_base HO.out)) (Nat.le_refl _) hblt)
      have HLs : Hid ((stabE L).length = j) := Lib.hid (by rw [stabE_len, HL.out])
      have hoe := ho.ofEB
      have HCp := Lib.hid (compactFuncEn_any w.heap.size ad L.length c ((stabE L).map (·.1)) w4 hoe (by rw [HL.out]; omega) HG4.out.g.size eqE rt2_any)
      have HOb : Hid (∀ k, (Value.slice ad L.length c).ownBlock = some k → w.heap.size ≤ k) := Lib.hid (own_base ho)
      have HCm : Hid ((∀ e ∈ compL eqE ((stabE L).map (·.1)), OkPf e.1 ∧ e.2.length ≤ 1000) ∧ (compL eqE ((stabE L).map (·.1))).length ≤ 7) := Lib.hid ⟨fun e he => by
        have he2 : e ∈ (stabE L).map (·.1) := by
          cases hS : (stabE L).map (·.1) with
          | nil => rw [hS] at he; cases he
          | cons z l =>
            rw [hS] at he
            rcases List.mem_cons.1 he with rfl | h
            · exact List.mem_cons_self ..
            · exact List.mem_cons_of_mem _ (compF_mem eqE z l e h)
        obtain ⟨z, _, rfl⟩ := List.mem_map.1 he2
        exact z.2, by
        have h1 := compL_len eqE ((stabE L).map (·.1))
        rw [List.length_map, HLs.out] at h1
        omega⟩
      clear ho hoe hG HO HG HSo HLs
      generalize compL eqE ((stabE L).map (·.1)) = C at *
      go_wp2_with fail
      refine HCp.out.mono ?_
      rintro e w5 ⟨v5, rfl, ho, hG⟩
      have HG5 : Hid (Gen b w w5 (m + 50)) := Lib.hid ((HG4.out.below (hG.below HG4.out.g.size HOb.out) (Nat.le_refl _) hblt).mono (by omega))
      have HO5 := Lib.hid ho
      clear ho hG HG4
      go_wp2_with fail
      go_ret
      exact ⟨_, C, rfl, HO5.out, HCm.out.1, HCm.out.2, HG5.out⟩
theorem UE_of {T : List En} (h : ∀ e ∈ T, OkPf e.1 ∧ e.2.length ≤ 1000) : UE T := fun e he => ⟨⟨(h e he).1.ok.1.1, (h e he).1.ok.1.2.1⟩, (h e he).2⟩
theorem UE.set {T : List En} (h : UE T) (i : Nat) (x : En) (hx : u2P x.1 ∧ x.2.length ≤ 1000) : UE (T.set i x) := fun e he => by
  rcases List.mem_or_eq_of_mem_set he with h1 | rfl
  · exact h e h1
  · exact hx
set_option maxRecDepth 100000 in
set_option maxHeartbeats 4000000 in
theorem table_gen (b m : Nat) (w : World) (h : Strm w b m) (hm : m + 200 < 1099511627776) :
    Calls Tryz.prog 13 #[.pointer (some ⟨b, 0, none⟩)] w fun e w' => ∃ v T, e = .returned v ∧ OwnK layEn w' w.heap.size v T ∧ UE T ∧ T.length ≤ 7 ∧ Gen b w w' (m + 100) := by
  have hblt := h.lt
  go_enter Tryz.func13, Tryz.ntmps13
  go_wp2_with fail
  refine (rightTable_gen b m _ h (by omega)).mono ?_
  rintro e w1 ⟨v, T, rfl, ho, hT, hl, hg⟩
  obtain ⟨ad, c, rfl, -, -, -⟩ := ho.form
  have HG1 := Lib.hid hg
  have HO1 := Lib.hid ho
  have HU := Lib.hid (UE_of hT)
  have Hl := Lib.hid hl
  clear hg ho hT h
  by_cases h0 : T.length = 0
  · obtain rfl : T = [] := List.eq_nil_of_length_eq_zero h0
    clear h0
    go_wp2_with fail
    go_ret
    exact ⟨_, [], rfl, HO1.out, HU.out, Hl.out, HG1.out.mono (by omega)⟩
  · have h00 : (T.length : Int) > 0 := by omega
    have h01 : decide (0 < T.length) = true := decide_eq_true (by omega)
    obtain ⟨g, c', hv, hBg, -⟩ := HO1.out.one (by omega)
    injection hv with hv q1 q2
    subst hv
    clear q1 q2
    have Hbg : Hid (b < g) := Lib.hid (by omega)
    go_wp2_with fail
    refine (flip_gen b (m + 50) _ _ HG1.out.s (by omega) (by omega)).mono ?_
    rintro e w2 ⟨kk, rfl, hg⟩
    have HG2 := Lib.hid (HG1.out.trans hg)
    have HO2 := Lib.hid (HO1.out.gen hg hblt)
    clear hg HG1 HO1
    cases kk
    · go_wp2_with fail
      go_ret
      exact ⟨_, T, rfl, HO2.out, HU.out, Hl.out, HG2.out.mono (by omega)⟩
    · go_wp2_with fail
      refine (next_gen b (m + 50 + 1) (T.length : Int) _ HG2.out.s (by omega) (by have := Hl.out; omega)).mono ?_
      rintro e w3 ⟨kx, rfl, hk, hg⟩
      obtain ⟨k, rfl, hkl⟩ : ∃ k : Nat, kx = (k : Int) ∧ k < T.length := by
        unfold BelowRes at hk
        exact ⟨kx.toNat, by omega, by omega⟩
      have HG3 := Lib.hid (HG2.out.trans hg)
      have HO3 := Lib.hid (HO2.out.gen hg hblt)
      clear hg HG2 HO2 hk
      go_wp2_with fail
      refine (prefix_gen b (m + 50 + 1 + 1) _ HG3.out.s (by omega)).mono ?_
      rintro e w4 ⟨six, hi, lo, bits, rfl, hu1, hu2, -, hg⟩
      have HG4 := Lib.hid (HG3.out.trans hg)
      have HO4 := Lib.hid (HO3.out.gen hg hblt)
      have HU2 := Lib.hid (And.intro hu1 hu2)
      clear hg HG3 HO3 hu1 hu2
      unfold vP
      have HSt := Lib.hid (rdStr_new w4 9 [⟨#[97]⟩, ⟨#[]⟩, ⟨#[65]⟩] _ rfl)
      go_wp2_with fail
      refine (some_gen b _ w4.heap.size 3 [⟨#[97]⟩, ⟨#[]⟩, ⟨#[65]⟩] _ (HG4.out.s.alloc _) (by omega) rfl (by omega) HSt.out (by have := HG4.out.s.lt; omega)).mono ?_
      rintro e w5 ⟨ks, rfl, hks, hg⟩
      have HG5 : Hid (Gen b w w5 (m + 100)) := Lib.hid (((HG4.out.alloc _).trans hg).mono (by omega))
      have HO5 := Lib.hid ((HO4.out.alloc _).gen hg hblt)
      have hkl2 : ks.data.toList.length ≤ 1000 := by
        simp at hks
        rcases hks with rfl | rfl | rfl <;> decide
      have hks2 : strL ks.data.toList = ks := strL_of ks
      obtain ⟨kl, hkl3⟩ : ∃ q, ks.data.toList = q := ⟨_, rfl⟩
      rw [hkl3] at hkl2 hks2
      subst hks2
      clear hg hks hkl3 HO4 HG4 HSt
      have HX : Hid (layEn.enc ((six, hi, lo, bits), kl) = [.bool six, .int .u64 (hi : Int), .int .u64 (lo : Int), .int .i64 bits, .string (strL kl)]) := Lib.hid rfl
      have HU3 := Lib.hid (HU.out.set k ((six, hi, lo, bits), kl) ⟨HU2.out, hkl2⟩)
      have HO6 := Lib.hid (HO5.out.setRow (i := k) hkl ((six, hi, lo, bits), kl))
      have HG6 : Hid (Gen b w (w5.setCells g (k * 5) (layEn.enc ((six, hi, lo, bits), kl))) (m + 100)) := Lib.hid (HG5.out.below ((Below.refl w.heap.size w5).grown (grown_setCells g (layEn.enc ((six, hi, lo, bits), kl)) (k * 5) w5) HG5.out.g.size (fun j hj => by injection hj with hj; have := own_base HO5.out g rfl; omega)) (Nat.le_refl _) hblt)
      have HTH : Hid (w5.there g (k * 5) 5) := Lib.hid (HO5.out.there (by show k * 5 + 5 ≤ T.length * 5; omega))
      have HA1 : Hid ((#[.bool six, .int .u64 (hi : Int), .int .u64 (lo : Int), .int .i64 bits, .string (strL kl)] : Array Value).all (·.oneCell') = true) := Lib.hid (all_oneCell_toArray (layEn.one ((six, hi, lo, bits), kl)))
      rw [show layEn.K = 5 from rfl] at HO6
      rw [HX.out] at HO6 HG6
      generalize strL kl = KS at *
      go_upto_region 5 with (refine wpList_store_mid rfl 48 _ _ rfl g (k * 5) #[.bool six, .int .u64 (hi : Int), .int .u64 (lo : Int), .int .i64 bits, .string KS] rfl rfl HTH.out size_en HA1.out ?_; show wpList _ _ _ _ _ (w5.setCells g (k * 5) [.bool six, .int .u64 (hi : Int), .int .u64 (lo : Int), .int .i64 bits, .string KS]))
      generalize w5.setCells g (k * 5) [.bool six, .int .u64 (hi : Int), .int .u64 (lo : Int), .int .i64 bits, .string KS] = w6 at *
      go_wp2_with fail
      go_ret
      exact ⟨_, _, rfl, HO6.out, HU3.out, by rw [List.length_set]; exact Hl.out, HG6.out⟩
end Go.Proofs.YteccghdegckjhaaGreatDoor
