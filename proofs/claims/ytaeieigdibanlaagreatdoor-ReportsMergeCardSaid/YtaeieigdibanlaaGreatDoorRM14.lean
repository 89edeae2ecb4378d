/-
  ReportsOf of the reference.
-/
import Derived.Test.YtaeieigdibanlaaGreatDoorRM10
import Derived.Test.YtaeieigdibanlaaGreatDoorRM9
import Derived.Test.YtaeieigdibanlaaGreatDoorRM13
set_option linter.unusedVariables false
namespace Go.Proofs.YtaeieigdibanlaaGreatDoor
open Go.RowKit Go
set_option linter.unusedVariables false

set_option maxRecDepth 100000 in
set_option maxHeartbeats 4000000 in
theorem reportsOf_any (ad1 ad2 : Option Addr) (n1 c1 n2 c2 : Nat) (A B : List RB) (w : World) (h1 : RdK layRb w ad1 A) (h2 : RdK layRb w ad2 B) (hn1 : A.length = n1) (hn2 : B.length = n2) (hs : n1 + n2 ≤ 20) :
    Calls Tryz.prog 15 #[.slice ad1 n1 c1, .slice ad2 n2 c2] w fun e w' => ∃ v, e = .returned (.tuple #[v, .int .i64 (mergeV A B).2]) ∧ OwnK layRb w' w.heap.size v (mergeV A B).1 ∧ Below w.heap.size w w' := by
  obtain ⟨M, hM⟩ : ∃ M, mergeV A B = M := ⟨_, rfl⟩
  rw [hM]
  have HM3 : Hid (dupR (mergeL A B) = true → (([] : List RB), (13 : Int)) = M) := Lib.hid fun h => by rw [← hM]; unfold mergeV; rw [if_pos h]
  have HM4 : Hid (dupR (mergeL A B) = false → (mergeL A B, (0 : Int)) = M) := Lib.hid fun h => by rw [← hM]; unfold mergeV; rw [if_neg (by simp [h])]
  have hb0 : Below w.heap.size w (w.alloc (.cells #[.slice ad1 n1 c1, .slice ad2 n2 c2] 26 (0, 0))) := below_alloc (Below.refl _ _) _
  have HC := Lib.hid fun c => concatRb_any w.heap.size c ad1 ad2 n1 c1 n2 c2 A B (w.alloc (.cells #[.slice ad1 n1 c1, .slice ad2 n2 c2] 26 (0, 0))) (heap_alloc_new w _) (h1.below hb0) (h2.below hb0) hn1 hn2 (by omega) (by omega)
  have HB0 := Lib.hid hb0
  have Hn1 := Lib.hid hn1
  have Hn2 := Lib.hid hn2
  clear h1 h2 hn1 hn2 hb0 hM
  go_enter Tryz.func15, Tryz.ntmps15
  go_wp2_with fail
  refine (HC.out _).mono ?_
  rintro e w4 ⟨v4, rfl, hO, hb⟩
  have HB := Lib.hid (HB0.out.trans (hb.mono HB0.out.size))
  have HO := Lib.hid (hO.weak HB0.out.size)
  clear hO hb HC HB0
  obtain ⟨a4, c4, hv4, -⟩ := HO.out.form
  subst hv4
  obtain ⟨n4, hn4⟩ : ∃ q, (A ++ B).length = q := ⟨_, rfl⟩
  have hl4 : n4 ≤ 20 := by rw [← hn4, List.length_append, Hn1.out, Hn2.out]; exact hs
  rw [hn4] at HO ⊢
  clear hn4
  have eg : ∀ args w, (callFunc 42 args).run Tryz.prog w = .ok (.enter 42 args) w := Go.Proofs.enters_of Tryz.func42 (by kernel_rfl) rfl
  have HSO := Lib.hid (sortStableRb_any 42 eg reportOrder_any w.heap.size n4 c4 a4 (A ++ B) _ HO.out hl4)
  clear eg
  go_wp2_with fail
  refine HSO.out.mono ?_
  rintro e w5 ⟨rfl, hO5, hG5⟩
  have hb5 := hG5.below HB.out.size (own_base HO.out)
  have HB5 := Lib.hid (HB.out.trans hb5)
  have HO5 := Lib.hid hO5
  clear HSO hO5 hG5 hb5 HB HO
  have HCo := Lib.hid (compactRb_any w.heap.size a4 n4 c4 (stabR (A ++ B)) w5 HO5.out (by omega) HB5.out.size)
  go_wp2_with fail
  refine HCo.out.mono ?_
  rintro e w6 ⟨v6, rfl, hO6, hG6⟩
  have hb6 := hG6.below HB5.out.size (own_base HO5.out)
  have HB6 := Lib.hid (HB5.out.trans hb6)
  have HO6 : Hid (OwnK layRb w6 w.heap.size v6 (mergeL A B)) := Lib.hid hO6
  have hlS := mergeL_len A B
  rw [Hn1.out, Hn2.out] at hlS
  clear HCo hO6 hG6 hb6 HB5 HO5
  generalize mergeL A B = S at *
  obtain ⟨a6, c6, hv6, -⟩ := HO6.out.form
  subst hv6
  obtain ⟨s, hsl⟩ : ∃ q, S.length = q := ⟨_, rfl⟩
  have Hsl := Lib.hid hsl
  rw [hsl] at HO6 hlS ⊢
  clear hsl
  have hs20 : s ≤ 20 := by omega
  have hsn : ¬ (3000 : Int) < (s : Int) := by omega
  obtain ⟨D, hD⟩ : ∃ D, dupR S = D := ⟨_, rfl⟩
  have HD : Hid (dupR (S.drop 0) = D) := Lib.hid hD
  rw [hD] at HM3 HM4
  clear hD
  go_wp2_with fail
  go_loopw [18] (fun i wr => ∃ k : Nat, k ≤ s ∧ i = .int .i64 (k : Int) ∧ Hid (dupR (S.drop (k - 1)) = D) ∧ Hid (Below w6.heap.size w6 wr)) (fun i _ => s - (intOf i).toNat)
  case atStart => exact ⟨0, Nat.zero_le _, rfl, HD, Lib.hid (Below.refl _ _)⟩
  case round =>
    clear HD
    obtain ⟨k1, hk, rfl, HD, HBr⟩ := hrel
    by_cases hlt1 : k1 < s
    · rcases Nat.eq_zero_or_pos k1 with h0 | h0
      · subst h0
        go_upto_region 7 with fail
        refine wp_region_later (by kernel_rfl) (by kernel_rfl) ?_
        repeat (go_big_quiet_step (fail))
        refine wpQuiet_nil ?_
        rintro w7 ⟨m7, hm7⟩
        have hb : Below wr.heap.size wr w7 := by rw [hm7]; exact m7.2
        have HB7 : Hid (Below w6.heap.size w6 w7) := Lib.hid (HBr.out.trans (hb.mono HBr.out.size))
        clear hm7 m7 hb HBr
        have HD1 : Hid (dupR (S.drop (1 - 1)) = D) := HD
        go_wp2_with fail
        exact ⟨⟨1, by omega, rfl, HD1, HB7⟩, by simp [intOf]; omega⟩
      · obtain ⟨k, rfl⟩ : ∃ k, k1 = k + 1 := ⟨k1 - 1, by omega⟩
        rw [Nat.add_sub_cancel] at HD
        obtain ⟨x, hx⟩ : ∃ x, S[k]? = some x := ⟨_, List.getElem?_eq_getElem (by rw [Hsl.out]; omega)⟩
        obtain ⟨y, hy⟩ : ∃ x, S[k + 1]? = some x := ⟨_, List.getElem?_eq_getElem (by rw [Hsl.out]; omega)⟩
        obtain ⟨g, c', hv, -⟩ := HO6.out.one (by rw [Hsl.out]; omega)
        injection hv with hv q1 q2
        subst hv
        clear q1 q2
        have HOr := Lib.hid (HO6.out.later HBr.out)
        have HX : Hid (∀ wx, (∃ m : Later wr, wx = m.1) → wx.rangeAt g (k * 14) ((layRb.enc x).toArray).toList) := Lib.hid fun wx ⟨m, hm⟩ => by subst hm; exact (HOr.out.later m.2).cellsAt hx
        have HY : Hid (∀ wx, (∃ m : Later wr, wx = m.1) → wx.rangeAt g ((k + 1) * 14) ((layRb.enc y).toArray).toList) := Lib.hid fun wx ⟨m, hm⟩ => by subst hm; exact (HOr.out.later m.2).cellsAt hy
        have hst := dupR_step hx hy
        rw [HD.out] at hst
        have hQ := fun q : Later wr => Calls.later q ((reportOrder_any x y q.1).mono fun _ _ => RetD.ret)
        have Xs : ((layRb.enc x).toArray).size = 14 := by rw [List.size_toArray, layRb.len]; rfl
        have Ys : ((layRb.enc y).toArray).size = 14 := by rw [List.size_toArray, layRb.len]; rfl
        obtain ⟨X, hX⟩ : ∃ X, (layRb.enc x).toArray = X := ⟨_, rfl⟩
        obtain ⟨Y, hY⟩ : ∃ Y, (layRb.enc y).toArray = Y := ⟨_, rfl⟩
        rw [hX] at HX Xs hQ
        rw [hY] at HY Ys hQ
        generalize cR x y = C at *
        have HS1 : Hid (C = 0 → D = true) := Lib.hid fun h => by rw [hst]; simp [h]
        have HS2 : Hid (C ≠ 0 → dupR (S.drop (k + 1)) = D) := Lib.hid fun h => by rw [hst]; simp [h]
        clear hX hY hx hy hst HOr
        have e1 : (((k + 1 : Nat) : Int) - 1) = (k : Int) := by omega
        have e2 : IntKind.i64.wrap (k : Int) = (k : Int) := by rw [IntKind.wrap_i64]; omega
        have e3 : wrap64 (((k + 1 : Nat) : Int) - 1) = (k : Int) := by unfold wrap64; omega
        have b1 : (0 : Int) ≤ (k : Int) := by omega
        have b2 : (k : Int) < (s : Int) := by omega
        have b3 : (0 : Int) ≤ ((k + 1 : Nat) : Int) := by omega
        have b4 : ((k + 1 : Nat) : Int) < (s : Int) := by omega
        have b5 : (0 : Int) < ((k + 1 : Nat) : Int) := by omega
        go_upto_region 7 with fail
        refine wp_region_later (by kernel_rfl) (by kernel_rfl) ?_
        repeat (first | (refine wpQuiet_loadn rfl 37 _ rfl _ rfl g (k * 14) rfl X HX.out _ under_rb rfl 14 size_rb Xs ?_; go_simp) | (refine wpQuiet_loadn rfl 37 _ rfl _ rfl g ((k + 1) * 14) rfl Y HY.out _ under_rb rfl 14 size_rb Ys ?_; go_simp) | go_big_quiet_step ((go_at_call 42; exact hQ _)))
        refine wpQuiet_nil ?_
        rintro ⟨w7, hb⟩
        dsimp only
        have HB7 : Hid (Below w6.heap.size w6 w7) := Lib.hid (HBr.out.trans (hb.mono HBr.out.size))
        clear hb hQ HX HY HBr Xs Ys
        by_cases hC : C = 0
        · have hD := HS1.out hC
          have hM := HM3.out hD
          subst hM
          subst hC
          clear HS1 HS2
          go_wp2_with fail
          go_ret2
          exact ⟨_, rfl, OwnK.nil _ _ _, HB6.out.trans (HB7.out.mono HB6.out.size)⟩
        · have HN := Lib.hid (HS2.out hC)
          have hne : (C == 0) = false := beq_eq_false_iff_ne.2 hC
          clear HS1 HS2
          go_wp2_with fail
          exact ⟨⟨k + 1 + 1, by omega, by go_num, HN, HB7⟩, by simp [intOf]; omega⟩
    · obtain rfl : k1 = s := by omega
      have hD : D = false := by rw [← HD.out]; exact dupR_end (by rw [Hsl.out]; omega)
      have hM := HM4.out hD
      subst hM
      clear HD
      go_wp2_with fail
      go_ret2
      exact ⟨_, rfl, HO6.out.later HBr.out, HB6.out.trans (HBr.out.mono HB6.out.size)⟩
end Go.Proofs.YtaeieigdibanlaaGreatDoor
