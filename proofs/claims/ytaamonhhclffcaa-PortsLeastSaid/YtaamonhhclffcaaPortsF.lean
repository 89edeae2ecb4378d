/-
  The first fault of a list of ranges that is to be least: program and reference.
-/
import Derived.Test.YtaamonhhclffcaaPorts
namespace Go.Proofs.Ytaamonhhclffcaa
open Go.RowKit Go
set_option linter.unusedVariables false

def faultAt (L : List (Int × Int)) (i : Nat) : Int :=
  if badP (L.getD i (0, 0)) = true then 1 else if i = 0 then 0 else if (L.getD i (0, 0)).1 ≤ (L.getD (i - 1) (0, 0)).1 then 7 else if (L.getD i (0, 0)).1 ≤ (L.getD (i - 1) (0, 0)).2 + 1 then 16 else 0
def portsF (L : List (Int × Int)) : Int := (((List.range L.length).map (faultAt L)).find? (· != 0)).getD 0
theorem find_first (f : Nat → Int) : ∀ (n k : Nat), k < n → (∀ j, j < k → f j = 0) → f k ≠ 0 → (((List.range n).map f).find? (· != 0)).getD 0 = f k
  | 0, k, h, _, _ => by omega
  | n + 1, k, h, h0, hk => by
    rw [List.range_succ, List.map_append, List.find?_append]
    rcases Nat.lt_or_ge k n with hl | hl
    · have ih := find_first f n k hl h0 hk
      cases hq : ((List.range n).map f).find? (· != 0) with
      | some v => rw [hq] at ih; simpa using ih
      | none =>
        rw [hq] at ih
        simp at ih
        exact absurd ih.symm hk
    · obtain rfl : k = n := by omega
      have hq : ((List.range k).map f).find? (· != 0) = none := by
        rw [List.find?_eq_none]
        intro x hx
        obtain ⟨j, hj, rfl⟩ := List.mem_map.1 hx
        simp [h0 j (List.mem_range.1 hj)]
      rw [hq]
      simp [hk]
theorem portsF_hit {L : List (Int × Int)} {k : Nat} (hk : k < L.length) (h0 : ∀ j, j < k → faultAt L j = 0) {r : Int} (hr : faultAt L k = r) (hn : r ≠ 0) : portsF L = r := by
  unfold portsF
  rw [find_first (faultAt L) L.length k hk h0 (by rw [hr]; exact hn), hr]
theorem portsF_none {L : List (Int × Int)} (h0 : ∀ j, j < L.length → faultAt L j = 0) : portsF L = 0 := by
  unfold portsF
  have hq : ((List.range L.length).map (faultAt L)).find? (· != 0) = none := by
    rw [List.find?_eq_none]
    intro x hx
    obtain ⟨j, hj, rfl⟩ := List.mem_map.1 hx
    simp [h0 j (List.mem_range.1 hj)]
  rw [hq]
  rfl
theorem not_bad {f t : Int} (h : badP (f, t) = false) : 0 ≤ f ∧ f ≤ t ∧ t ≤ 65535 := by
  rw [badP_in] at h
  unfold inB at h
  simp at h
  omega
theorem fault_not_bad {L : List (Int × Int)} {i : Nat} (h : faultAt L i = 0) : badP (L.getD i (0, 0)) = false := by
  unfold faultAt at h
  split at h
  · cases h
  · rename_i h1; simpa using h1
set_option maxRecDepth 100000 in
set_option maxHeartbeats 2000000 in
theorem checkPorts (ad : Option Addr) (n c : Nat) (L : List (Int × Int)) (w : World) (h : RdP w ad L) (hn : L.length = n) : Calls Try.prog 39 #[.slice ad n c] w (Ret (.int .i64 (portsF L)) w) := by
  have hs := h.small
  rw [hn] at hs
  have H0 := Lib.hid h
  have Hn := Lib.hid hn
  obtain ⟨af, haf⟩ : ∃ z, portsF L = z := ⟨_, rfl⟩
  rw [haf]
  have Haf := Lib.hid haf
  have hs2 : ¬ ((n : Int) > 1000) := by omega
  clear haf h hn
  go_enter Try.func39, Try.ntmps39
  go_wp2
  go_loopw [3, 4, 5, 11] (fun iv bx ev i wr => ∃ (k : Nat), k ≤ n ∧ i = .int .i64 k ∧ Hid (∀ j, j < k → faultAt L j = 0) ∧ Hid (Below w.heap.size w wr)) (fun _ _ _ i _ => n - (intOf i).toNat)
  case atStart => exact ⟨0, Nat.zero_le _, rfl, Lib.hid fun j hj => absurd hj (Nat.not_lt_zero _), Lib.hid (Below.refl _ _)⟩
  case round =>
    obtain ⟨k, hk, rfl, HX, HB⟩ := hrel
    by_cases hlt : k < n
    · obtain ⟨g, o, had, hg, c0, c1⟩ := (H0.out.below HB.out).cell k (by rw [Hn.out]; exact hlt)
      subst had
      have Hkl : Hid (k < L.length) := Lib.hid (by rw [Hn.out]; exact hlt)
      obtain ⟨p, hp⟩ : ∃ p, L.getD k (0, 0) = p := ⟨_, rfl⟩
      rw [hp] at c0 c1
      have Hp := Lib.hid hp
      clear hp
      obtain ⟨f, t⟩ := p
      simp only at c0 c1
      have Hpf := Lib.hid (portsFault_any f t)
      have hpk : (portF (f, t) = 1 ∧ badP (f, t) = true) ∨ (portF (f, t) = 0 ∧ badP (f, t) = false) := by unfold portF; cases badP (f, t) <;> simp
      rcases hpk with ⟨e1, e2⟩ | ⟨e1, e2⟩
      · rw [e1] at Hpf
        have Hbad : Hid (af = 1) := Lib.hid (by rw [← Haf.out]; exact portsF_hit Hkl.out HX.out (by unfold faultAt; rw [Hp.out, if_pos e2]) (by decide))
        clear e1 e2
        go_wp2_with fail
        refine (Hpf.out _).mono ?_
        rintro e w' ⟨rfl, hb⟩
        have HB2 := Lib.hid hb
        clear hb
        go_wp2_with fail
        go_ret
        exact ⟨by rw [Hbad.out]; rfl, (below_alloc HB.out _).trans (HB2.out.mono (by have := HB.out.size; simp; omega))⟩
      · rw [e1] at Hpf
        have Hnb := Lib.hid e2
        clear e1 e2
        go_wp2_with fail
        refine (Hpf.out _).mono ?_
        rintro e w' ⟨rfl, hb⟩
        have HB2 : Hid (Below w.heap.size w w') := Lib.hid ((below_alloc HB.out (.cells #[.int .i64 f, .int .i64 t] 64 (0, 0))).trans (hb.mono (by have := HB.out.size; simp; omega)))
        have HBx : Hid (Blk w' wr.heap.size 64 #[.int .i64 f, .int .i64 t]) := Lib.hid (Blk.below (Blk.new wr 64 #[.int .i64 f, .int .i64 t]) hb (by simp))
        clear hb c0 c1
        generalize wr.heap.size = bx at *
        have d0 := HBx.out.cell 0
        simp at d0
        rcases Nat.eq_zero_or_pos k with hk0 | hk0
        · subst hk0
          have Hf0 : Hid (faultAt L 0 = 0) := Lib.hid (by unfold faultAt; rw [Hp.out, if_neg (by rw [Hnb.out]; decide), if_pos rfl])
          go_wp2_with fail
          refine ⟨⟨1, by omega, by go_num, Lib.hid fun j hj => ?_, HB2⟩, by simp [intOf]; omega⟩
          obtain rfl : j = 0 := by omega
          exact Hf0.out
        · obtain ⟨j, rfl⟩ : ∃ j, k = j + 1 := ⟨k - 1, by omega⟩
          obtain ⟨g', o', e9, hg', q0, q1⟩ := (H0.out.below HB2.out).cell j (by rw [Hn.out]; omega)
          injection e9 with e9
          injection e9 with e10 e11 _
          subst e10 e11
          have hnb := fault_not_bad (HX.out j (by omega))
          obtain ⟨p, hp⟩ : ∃ p, L.getD j (0, 0) = p := ⟨_, rfl⟩
          rw [hp] at q0 q1 hnb
          have Hp' := Lib.hid hp
          clear hp
          obtain ⟨f', t'⟩ := p
          simp only at q0 q1
          obtain ⟨b1, b2, b3⟩ := not_bad hnb
          obtain ⟨b4, b5, b6⟩ := not_bad Hnb.out
          have hji : ¬ (((j + 1 : Nat) : Int) = 0) := by omega
          have Hfa : Hid (faultAt L (j + 1) = if f ≤ f' then 7 else if f ≤ t' + 1 then 16 else 0) := Lib.hid (by
            unfold faultAt
            rw [Nat.add_sub_cancel, Hp.out, Hp'.out, if_neg (by rw [Hnb.out]; decide), if_neg (by omega)])
          clear hnb
          go_upto_region 10 with fail
          by_cases h7 : f ≤ f'
          · have Hbad : Hid (af = 7) := Lib.hid (by rw [← Haf.out]; exact portsF_hit Hkl.out HX.out (by rw [Hfa.out, if_pos h7]) (by decide))
            go_quiet (fail)
            go_wp2_with fail
            go_ret
            exact ⟨by rw [Hbad.out]; rfl, below_drewN HB2.out _⟩
          · go_quiet (fail)
            go_upto_region 12 with fail
            by_cases h16 : f ≤ t' + 1
            · have Hbad : Hid (af = 16) := Lib.hid (by rw [← Haf.out]; exact portsF_hit Hkl.out HX.out (by rw [Hfa.out, if_neg h7, if_pos h16]) (by decide))
              go_quiet (fail)
              go_wp2_with fail
              go_ret
              exact ⟨by rw [Hbad.out]; rfl, below_drewN HB2.out _⟩
            · have Hgood : Hid (faultAt L (j + 1) = 0) := Lib.hid (by rw [Hfa.out, if_neg h7, if_neg h16])
              go_quiet (fail)
              go_wp2_with fail
              refine ⟨⟨j + 1 + 1, by omega, by first | go_num | rfl, Lib.hid fun i hi => ?_, Lib.hid (below_drewN HB2.out _)⟩, by simp [intOf]; omega⟩
              rcases Nat.lt_or_ge i (j + 1) with h | h
              · exact HX.out i h
              · obtain rfl : i = j + 1 := by omega
                exact Hgood.out
    · obtain rfl : k = n := by omega
      go_wp2
      go_ret
      exact ⟨by rw [← Haf.out, portsF_none fun j hj => HX.out j (by rw [← Hn.out]; exact hj)]; rfl, HB.out⟩
set_option maxRecDepth 100000 in
set_option maxHeartbeats 2000000 in
theorem qPorts (ad : Option Addr) (n c : Nat) (L : List (Int × Int)) (w : World) (h : RdP w ad L) (hn : L.length = n) : Calls Try.prog 40 #[.slice ad n c] w (Ret (.int .i64 (portsF L)) w) := by
  have hs := h.small
  rw [hn] at hs
  have H0 := Lib.hid h
  have Hn := Lib.hid hn
  obtain ⟨af, haf⟩ : ∃ z, portsF L = z := ⟨_, rfl⟩
  rw [haf]
  have Haf := Lib.hid haf
  have hs2 : ¬ ((n : Int) > 1000) := by omega
  clear haf h hn
  go_enter Try.func40, Try.ntmps40
  go_wp2
  go_loopw [3, 4, 10] (fun iv bx i wr => ∃ (k : Nat), k ≤ n ∧ i = .int .i64 k ∧ Hid (∀ j, j < k → faultAt L j = 0) ∧ Hid (Below w.heap.size w wr)) (fun _ _ i _ => n - (intOf i).toNat)
  case atStart => exact ⟨0, Nat.zero_le _, rfl, Lib.hid fun j hj => absurd hj (Nat.not_lt_zero _), Lib.hid (Below.refl _ _)⟩
  case round =>
    obtain ⟨k, hk, rfl, HX, HB⟩ := hrel
    by_cases hlt : k < n
    · obtain ⟨g, o, had, hg, c0, c1⟩ := (H0.out.below HB.out).cell k (by rw [Hn.out]; exact hlt)
      subst had
      have Hkl : Hid (k < L.length) := Lib.hid (by rw [Hn.out]; exact hlt)
      obtain ⟨p, hp⟩ : ∃ p, L.getD k (0, 0) = p := ⟨_, rfl⟩
      rw [hp] at c0 c1
      have Hp := Lib.hid hp
      clear hp
      obtain ⟨f, t⟩ := p
      simp only at c0 c1
      have Hbp := Lib.hid (badP_in f t)
      have Hin := Lib.hid (in_any f 0 t)
      generalize inB f 0 t = ib at *
      by_cases ht : (65535 : Int) < t
      · have Hbad : Hid (af = 1) := Lib.hid (by rw [← Haf.out]; exact portsF_hit Hkl.out HX.out (by unfold faultAt; rw [Hp.out, if_pos (by rw [Hbp.out, decide_eq_true ht]; simp)]) (by decide))
        cases ib
        all_goals
          go_wp2_with fail
          refine (Hin.out _).mono ?_
          rintro e w' ⟨rfl, rfl⟩
          go_wp2_with fail
          go_ret
          exact ⟨by rw [Hbad.out]; rfl, by repeat (first | (refine below_set ?_ HB.out.size _ _) | exact below_alloc HB.out _)⟩
      · cases ib
        · have Hbad : Hid (af = 1) := Lib.hid (by rw [← Haf.out]; exact portsF_hit Hkl.out HX.out (by unfold faultAt; rw [Hp.out, if_pos (by rw [Hbp.out]; rfl)]) (by decide))
          go_wp2_with fail
          refine (Hin.out _).mono ?_
          rintro e w' ⟨rfl, rfl⟩
          go_wp2_with fail
          go_ret
          exact ⟨by rw [Hbad.out]; rfl, by repeat (first | (refine below_set ?_ HB.out.size _ _) | exact below_alloc HB.out _)⟩
        · have Hnb : Hid (badP (f, t) = false) := Lib.hid (by rw [Hbp.out, decide_eq_false ht]; rfl)
          go_wp2_with fail
          refine (Hin.out _).mono ?_
          rintro e w' ⟨rfl, rfl⟩
          have HB2 : Hid (Below w.heap.size w (wr.alloc (.cells #[.int .i64 f, .int .i64 t] 64 (0, 0)))) := Lib.hid (below_alloc HB.out (.cells #[.int .i64 f, .int .i64 t] 64 (0, 0)))
          go_upto_region 8 with fail
          have HBx : Hid (Blk (wr.alloc (.cells #[.int .i64 f, .int .i64 t] 64 (0, 0))) wr.heap.size 64 #[.int .i64 f, .int .i64 t]) := Lib.hid (Blk.new wr 64 #[.int .i64 f, .int .i64 t])
          clear c0 c1 hg
          generalize wr.alloc (.cells #[.int .i64 f, .int .i64 t] 64 (0, 0)) = w' at *
          generalize wr.heap.size = bx at *
          have d0 := HBx.out.cell 0
          simp at d0
          rcases Nat.eq_zero_or_pos k with hk0 | hk0
          · subst hk0
            have Hf0 : Hid (faultAt L 0 = 0) := Lib.hid (by unfold faultAt; rw [Hp.out, if_neg (by rw [Hnb.out]; decide), if_pos rfl])
            go_quiet (fail)
            go_upto_region 10 with fail
            go_quiet (fail)
            go_wp2_with fail
            refine ⟨⟨1, by omega, by go_num, Lib.hid fun j hj => ?_, Lib.hid (below_drewN HB2.out _)⟩, by simp [intOf]; omega⟩
            obtain rfl : j = 0 := by omega
            exact Hf0.out
          · obtain ⟨j, rfl⟩ : ∃ j, k = j + 1 := ⟨k - 1, by omega⟩
            obtain ⟨g', o', e9, hg', q0, q1⟩ := (H0.out.below HB2.out).cell j (by rw [Hn.out]; omega)
            injection e9 with e9
            injection e9 with e10 e11 _
            subst e10 e11
            have hnb := fault_not_bad (HX.out j (by omega))
            obtain ⟨p, hp⟩ : ∃ p, L.getD j (0, 0) = p := ⟨_, rfl⟩
            rw [hp] at q0 q1 hnb
            have Hp' := Lib.hid hp
            clear hp
            obtain ⟨f', t'⟩ := p
            simp only at q0 q1
            obtain ⟨b1, b2, b3⟩ := not_bad hnb
            obtain ⟨b4, b5, b6⟩ := not_bad Hnb.out
            have hji : ((j + 1 : Nat) : Int) > 0 := by omega
            have Hfa : Hid (faultAt L (j + 1) = if f ≤ f' then 7 else if f ≤ t' + 1 then 16 else 0) := Lib.hid (by
              unfold faultAt
              rw [Nat.add_sub_cancel, Hp.out, Hp'.out, if_neg (by rw [Hnb.out]; decide), if_neg (by omega)])
            clear hnb
            by_cases h7 : f ≤ f'
            · have Hbad : Hid (af = 7) := Lib.hid (by rw [← Haf.out]; exact portsF_hit Hkl.out HX.out (by rw [Hfa.out, if_pos h7]) (by decide))
              go_quiet (fail)
              go_wp2_with fail
              go_ret
              exact ⟨by rw [Hbad.out]; rfl, below_drewN HB2.out _⟩
            · go_quiet (fail)
              go_upto_region 10 with fail
              by_cases h16 : f ≤ t' + 1
              · have Hbad : Hid (af = 16) := Lib.hid (by rw [← Haf.out]; exact portsF_hit Hkl.out HX.out (by rw [Hfa.out, if_neg h7, if_pos h16]) (by decide))
                go_quiet (fail)
                go_wp2_with fail
                go_ret
                exact ⟨by rw [Hbad.out]; rfl, below_drewN HB2.out _⟩
              · have Hgood : Hid (faultAt L (j + 1) = 0) := Lib.hid (by rw [Hfa.out, if_neg h7, if_neg h16])
                go_quiet (fail)
                go_wp2_with fail
                refine ⟨⟨j + 1 + 1, by omega, by first | go_num | rfl, Lib.hid fun i hi => ?_, Lib.hid (below_drewN HB2.out _)⟩, by simp [intOf]; omega⟩
                rcases Nat.lt_or_ge i (j + 1) with h | h
                · exact HX.out i h
                · obtain rfl : i = j + 1 := by omega
                  exact Hgood.out
    · obtain rfl : k = n := by omega
      go_wp2
      go_ret
      exact ⟨by rw [← Haf.out, portsF_none fun j hj => HX.out j (by rw [← Hn.out]; exact hj)]; rfl, HB.out⟩
end Go.Proofs.Ytaamonhhclffcaa
