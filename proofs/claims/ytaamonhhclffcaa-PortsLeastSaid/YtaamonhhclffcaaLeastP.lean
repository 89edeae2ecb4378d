/-
  The program's least list of ports: clone, sort, merge; and the checked one.
-/
import Derived.Test.YtaamonhhclffcaaSortPL
import Derived.Test.YtaamonhhclffcaaPorts
import Derived.StillTailTactics
namespace Go.Proofs.Ytaamonhhclffcaa
open Go.RowKit Go
set_option linter.unusedVariables false

theorem mrg_none (p : Nat × Nat) : mrg [] p = [p] := rfl
theorem mrg_some (D : List (Nat × Nat)) (q p : Nat × Nat) : mrg (D ++ [q]) p = if p.1 ≤ q.2 + 1 then D ++ [(q.1, max q.2 p.2)] else D ++ [q] ++ [p] := by
  unfold mrg
  rw [List.getLast?_concat]
  simp only [List.dropLast_concat]
theorem mrg_len (A : List (Nat × Nat)) (p : Nat × Nat) : (mrg A p).length ≤ A.length + 1 := by
  cases h : A.getLast? with
  | none =>
    have : A = [] := by simpa using h
    subst this; simp [mrg]
  | some q =>
    obtain ⟨D, rfl⟩ := List.getLast?_eq_some_iff.1 h
    rw [mrg_some]
    split <;> simp
theorem foldl_len : ∀ (S A : List (Nat × Nat)), (S.foldl mrg A).length ≤ A.length + S.length
  | [], A => by simp
  | p :: S, A => by
    have h1 := foldl_len S (mrg A p)
    have h2 := mrg_len A p
    simp only [List.foldl_cons, List.length_cons]
    omega
theorem mrg_bd {A : List (Nat × Nat)} {p : Nat × Nat} {N : Nat} (h : ∀ q ∈ A, q.2 ≤ N) (hp : p.2 ≤ N) : ∀ q ∈ mrg A p, q.2 ≤ N := by
  cases hh : A.getLast? with
  | none =>
    have : A = [] := by simpa using hh
    subst this
    intro q hq
    rw [mrg_none] at hq
    simp at hq; rw [hq]; exact hp
  | some r =>
    obtain ⟨D, rfl⟩ := List.getLast?_eq_some_iff.1 hh
    rw [mrg_some]
    have hr := h r (by simp)
    intro q hq
    split at hq
    · simp at hq
      rcases hq with hq | rfl
      · exact h q (by simp [hq])
      · simp only; omega
    · rcases List.mem_append.1 hq with hq | hq
      · exact h q hq
      · simp at hq; rw [hq]; exact hp
theorem foldl_bd {N : Nat} : ∀ (S A : List (Nat × Nat)), (∀ q ∈ A, q.2 ≤ N) → (∀ q ∈ S, q.2 ≤ N) → ∀ q ∈ S.foldl mrg A, q.2 ≤ N
  | [], A, hA, _ => hA
  | p :: S, A, hA, hS => foldl_bd S (mrg A p) (mrg_bd hA (hS p List.mem_cons_self)) fun q h => hS q (List.mem_cons_of_mem _ h)
theorem sortP_any (B n c : Nat) (ad : Option Addr) (M : List (Nat × Nat)) (w : World) (h : OwnP w B (.slice ad n c) (PI M)) (hn : M.length = n) (hn1 : n ≤ 1000) (hB : B ≤ w.heap.size) (hv : ∀ p ∈ M, p.1 < 65536) :
    Calls Try.prog 107 #[.slice ad n c, .func (.func 108) #[] #[]] w fun e w' => e = .returned (.tuple #[]) ∧ ∃ S : List (Nat × Nat), S.Perm M ∧ S.Pairwise (fun p q => p.1 ≤ q.1) ∧ OwnP w' B (.slice ad n c) (PI S) ∧ Below B w w' := by
  rcases Nat.eq_zero_or_pos n with h0 | h0
  · subst h0
    have hM : M = [] := List.eq_nil_of_length_eq_zero hn
    subst hM
    refine (Try.slices_SortFunc_ports_none ad c _ w).mono ?_
    rintro e w' ⟨rfl, rfl⟩
    exact ⟨rfl, [], List.Perm.refl _, List.Pairwise.nil, h, (Below.refl _ _).mono hB⟩
  · obtain ⟨g, c', hv2, _⟩ := h.one (by rw [PI_len]; omega)
    simp at hv2
    obtain ⟨rfl, _, rfl⟩ := hv2
    exact sort_ports B g n c M w h hn hn1 hB hv
set_option maxRecDepth 100000 in
set_option maxHeartbeats 2000000 in
theorem vleast_any (ad : Option Addr) (n c : Nat) (M : List (Nat × Nat)) (w : World) (h : RdP w ad (PI M)) (hn : M.length = n) (hv : ∀ p ∈ M, p.1 ≤ p.2 ∧ p.2 < 65536) :
    Calls Try.prog 81 #[.slice ad n c] w fun e w' => ∃ v, e = .returned v ∧ OwnP w' w.heap.size v (PI (scan (inRow M) 65536)) ∧ Below w.heap.size w w' := by
  have hs := h.small
  rw [PI_len, hn] at hs
  have hc : ad = none → n = 0 := fun e => by
    rcases Nat.eq_zero_or_pos n with h0 | h0
    · exact h0
    · obtain ⟨g, o, e2, _⟩ := h.cell 0 (by rw [PI_len, hn]; exact h0)
      rw [e] at e2; cases e2
  obtain ⟨R, hR⟩ : ∃ R, scan (inRow M) 65536 = R := ⟨_, rfl⟩
  have HR : Hid (∀ S : List (Nat × Nat), S.Perm M → S.Pairwise (fun p q => p.1 ≤ q.1) → S.foldl mrg [] = R) := Lib.hid fun S hp hso => by
    rw [← hR]; exact least_eq (fun p => hp.mem_iff) hso hv
  rw [hR]
  have Hv := Lib.hid hv
  have H0 := Lib.hid h
  have Hn := Lib.hid hn
  have Hc := Lib.hid hc
  clear h hn hv hR hc
  go_enter Try.func81, Try.ntmps81
  go_wp2_with fail
  refine (clone_ports ad n c (PI M) w H0.out (by rw [PI_len, Hn.out]) Hc.out).mono ?_
  rintro e w1 ⟨v, rfl, hO, hB⟩
  obtain ⟨ad1, c1, hv1, _, _, _⟩ := hO.form
  rw [PI_len, Hn.out] at hv1
  subst hv1
  have HO1 := Lib.hid hO
  have HB1 := Lib.hid hB
  clear hO hB
  go_wp2_with fail
  refine (sortP_any w.heap.size n c1 ad1 M w1 HO1.out Hn.out hs HB1.out.size (fun p hp => by have := Hv.out p hp; omega)).mono ?_
  rintro e w2 ⟨rfl, S, hp, hso, hO2, hB2⟩
  have HS : Hid (S.foldl mrg [] = R) := Lib.hid (HR.out S hp hso)
  have Hsl : Hid (S.length = n) := Lib.hid (hp.length_eq.trans Hn.out)
  have Hsv : Hid (∀ p ∈ S, p.1 ≤ p.2 ∧ p.2 < 65536) := Lib.hid fun p h => Hv.out p (hp.mem_iff.1 h)
  have HR2 : Hid (RdP w2 ad1 (PI S)) := Lib.hid (hO2.rd (by rw [PI_len, Hsl.out]; exact hs))
  have HB2 : Hid (Below w.heap.size w w2) := Lib.hid (HB1.out.trans hB2)
  clear hp hso hO2 hB2 HO1 HB1 HR Hv Hn
  go_wp2
  go_loopw [3, 5, 6, 13] (fun out bx nn i wr => ∃ (k : Nat) (A : List (Nat × Nat)), k ≤ n ∧ i = .int .i64 k ∧ Hid ((S.take k).foldl mrg [] = A) ∧ Hid (OwnP wr w2.heap.size out (PI A)) ∧ Hid (Below w2.heap.size w2 wr)) (fun _ _ _ i _ => n - (intOf i).toNat)
  case atStart => exact ⟨0, [], Nat.zero_le _, rfl, Lib.hid rfl, Lib.hid (OwnP.nil _ _), Lib.hid (Below.refl _ _)⟩
  case round =>
    obtain ⟨k, A, hk, rfl, HA, HO, HB⟩ := hrel
    by_cases hlt : k < n
    · have hS : k < S.length := by rw [Hsl.out]; exact hlt
      obtain ⟨g, o, had, hg, c0, c1⟩ := (HR2.out.below HB.out).cell k (by rw [PI_len]; exact hS)
      rw [PI_get S k hS] at c0 c1
      subst had
      obtain ⟨p, hp⟩ : ∃ p, S.getD k (0, 0) = p := ⟨_, rfl⟩
      rw [hp] at c0 c1
      have hpm : p ∈ S := by rw [← hp, List.getD_eq_getElem?_getD, List.getElem?_eq_getElem hS]; exact List.getElem_mem _
      have HA1 : Hid ((S.take (k + 1)).foldl mrg [] = mrg A p) := Lib.hid (by
        rw [List.take_succ_eq_append_getElem hS, List.foldl_append, HA.out, ← hp]
        simp [List.getD, hS])
      have HBd : Hid (∀ q ∈ A, q.2 ≤ 65536) := Lib.hid (by rw [← HA.out]; exact foldl_bd (S.take k) [] (fun q h => (by cases h)) fun q h => (by have := Hsv.out q (List.mem_of_mem_take h); omega))
      have hAl : Hid (A.length ≤ k) := Lib.hid (by
        have := foldl_len (S.take k) []
        rw [HA.out] at this
        simp at this; omega)
      have hv1 := Hsv.out p hpm
      clear hp hpm hS HA
      obtain ⟨f, t⟩ := p
      obtain ⟨hv1, hv2⟩ := hv1
      simp only at c0 c1 hv1 hv2
      have HB1 : Hid (Below w2.heap.size w2 (wr.alloc (.cells #[.int .i64 (f : Int), .int .i64 (t : Int)] 64 (0, 0)))) := Lib.hid (Below.alloc HB.out HB.out.size _)
      have HP1 : Hid (Blk (wr.alloc (.cells #[.int .i64 (f : Int), .int .i64 (t : Int)] 64 (0, 0))) wr.heap.size 64 #[.int .i64 (f : Int), .int .i64 (t : Int)]) := Lib.hid (Blk.new wr _ _)
      have HO1 : Hid (OwnP (wr.alloc (.cells #[.int .i64 (f : Int), .int .i64 (t : Int)] 64 (0, 0))) w2.heap.size u3 (PI A)) := Lib.hid (HO.out.alloc _)
      go_upto_region 7 with fail
      generalize wr.alloc (.cells #[.int .i64 (f : Int), .int .i64 (t : Int)] 64 (0, 0)) = w3 at *
      generalize wr.heap.size = bx at *
      clear HB HO c0 c1 hg
      have d0 := HP1.out.cell 0
      have d1 := HP1.out.cell 1
      simp at d0 d1
      cases hA0 : A.getLast? with
      | none =>
        have hA : A = [] := by simpa using hA0
        subst hA
        obtain ⟨ad3, c3, hv3, _, _, _⟩ := HO1.out.form
        rw [show (PI []).length = 0 from rfl] at hv3
        subst hv3
        clear hA0
        go_upto_region 8 with fail
        go_quiet (fail)
        have HB4 : Hid (Below w2.heap.size w2 (w3.drewN nq)) := Lib.hid (below_drewN HB1.out nq)
        have HO4 : Hid (OwnP (w3.drewN nq) w2.heap.size (.slice ad3 0 c3) (PI [])) := Lib.hid (HO1.out.drewN nq)
        have d0' : (w3.drewN nq).cell? ⟨bx, 0, none⟩ = some (.int .i64 (f : Int)) := d0
        have d1' : (w3.drewN nq).cell? ⟨bx, 1, none⟩ = some (.int .i64 (t : Int)) := d1
        clear d0 d1 HO1 HB1 HP1
        generalize w3.drewN nq = w4 at *
        go_wp2_with (at_builtin; refine wpList_app portE rfl (.tmp 45) (.tmp 47) rfl rfl (World.ownsRow.alloc HO4.out _) rfl (src_two_new _ _ _ _) ?c1 ?c2 ?c3 ?c4 ?_)
        case c1 => first | exact ⟨rfl, rfl⟩ | (intro u hu; simp at hu; rcases hu with rfl | rfl <;> rfl)
        case c2 => unfold maxLen; simp [PI]
        case c3 => simp [PI]
        case c4 => have := HB4.out.size; simp; omega
        intro v' w' hO hG
        have HO' : Hid (OwnP w' w2.heap.size v' (PI (mrg [] (f, t)))) := Lib.hid (by
          rw [mrg_none, show PI [(f, t)] = PI [] ++ [((f : Int), (t : Int))] from rfl]
          exact OwnP.snoc hO)
        have HB' : Hid (Below w2.heap.size w2 w') := Lib.hid ((Below.alloc HB4.out HB4.out.size _).trans (hG.below (by have := HB4.out.size; simp; omega) (own_base HO4.out)))
        clear hO hG
        go_wp2
        exact ⟨⟨k + 1, _, by omega, by go_num, HA1, HO', HB'⟩, by simp [intOf]; omega⟩
      | some q =>
        obtain ⟨D, hA⟩ := List.getLast?_eq_some_iff.1 hA0
        subst hA
        obtain ⟨a, b⟩ := q
        obtain ⟨g2, c2, hv3, hg2, hgl, hc1, hc2⟩ := HO1.out.one (by rw [PI_len]; simp)
        have hl1 : (PI (D ++ [(a, b)])).length = D.length + 1 := by simp [PI]
        rw [hl1] at hv3
        subst hv3
        have hDk : D.length + 1 ≤ k := by have := hAl.out; simpa using this
        have HD : Hid ((D ++ [(a, b)]).getD D.length (0, 0) = (a, b)) := Lib.hid (by simp [List.getD])
        have hget := (HO1.out.get D.length (by rw [hl1]; omega)).2
        rw [PI_get _ _ (by simp), HD.out] at hget
        simp only at hget
        have f1 := HO1.out.frozen (D.length * 2 + 1)
        have Hset : Hid (∀ (w : World) (x : Nat), OwnP w w2.heap.size (.slice (some ⟨g2, 0, none⟩) (D.length + 1) c2) (PI (D ++ [(a, b)])) → OwnP (w.setCell ⟨g2, D.length * 2 + 1, none⟩ (.int .i64 (x : Int))) w2.heap.size (.slice (some ⟨g2, 0, none⟩) (D.length + 1) c2) (PI (D ++ [(a, x)]))) := Lib.hid (by
          intro w x hO
          have h2 := hO.setTo D.length (by rw [hl1]; omega) (x : Int)
          rw [show (PI (D ++ [(a, b)])).set D.length (((PI (D ++ [(a, b)])).getD D.length (0, 0)).1, (x : Int)) = PI (D ++ [(a, x)]) by simp [PI, List.getD]] at h2
          exact h2)
        have HM := Lib.hid (mrg_some D (a, b) (f, t))
        have HA2 : Hid ((S.take (k + 1)).foldl mrg [] = if f ≤ b + 1 then D ++ [(a, max b t)] else D ++ [(a, b)] ++ [(f, t)]) := Lib.hid (HA1.out.trans HM.out)
        have hlen : ((D.length + 1 : Nat) : Int) - 1 = (D.length : Int) := by omega
        have Hl : Hid ((PI (D ++ [(a, b)])).length = D.length + 1) := Lib.hid hl1
        have hbb : b ≤ 65536 := HBd.out (a, b) (by simp)
        clear hA0 hAl HA1 HM HD hl1 hc2 hc1
        generalize D.length = m at *
        have hm1 : (m : Int) < ((m + 1 : Nat) : Int) := by omega
        have hm2 : m < m + 1 := by omega
        have hm0 : ((m : Int) ≥ 0) := by omega
        generalize m + 1 = n1 at *
        have hm3 : (n1 : Int) ≤ 1000 := by omega
        go_upto_region 8 with fail
        by_cases hle : f ≤ b + 1
        · have hle' : (f : Int) ≤ (b : Int) + 1 := by omega
          go_quiet (fail)
          go_upto_region 9 with fail
          have HB4 : Hid (Below w2.heap.size w2 (w3.drewN nq)) := Lib.hid (below_drewN HB1.out nq)
          have HO4 : Hid (OwnP (w3.drewN nq) w2.heap.size (.slice (some ⟨g2, 0, none⟩) n1 c2) (PI (D ++ [(a, b)]))) := Lib.hid (HO1.out.drewN nq)
          have e1 : (w3.drewN nq).cell? ⟨bx, 1, none⟩ = some (.int .i64 (t : Int)) := d1
          have e2 : (w3.drewN nq).cell? ⟨g2, m * 2 + 1, none⟩ = some (.int .i64 (b : Int)) := hget
          have e3 : (w3.drewN nq).frozen? ⟨g2, m * 2 + 1, none⟩ = false := f1
          clear d0 d1 hget f1 HO1 HB1 HP1
          generalize w3.drewN nq = w4 at *
          have e1' : World.cell? { heap := w4.heap, tape := w4.tape, drawn := w4.drawn + 1, os := w4.os, output := w4.output } ⟨bx, 1, none⟩ = some (.int .i64 (t : Int)) := e1
          have e2' : World.cell? { heap := w4.heap, tape := w4.tape, drawn := w4.drawn + 1, os := w4.os, output := w4.output } ⟨g2, m * 2 + 1, none⟩ = some (.int .i64 (b : Int)) := e2
          have HB5 : Hid (Below w2.heap.size w2 w4.drew) := Lib.hid (below_drew HB4.out)
          have HO5 : Hid (OwnP w4.drew w2.heap.size (.slice (some ⟨g2, 0, none⟩) n1 c2) (PI (D ++ [(a, b)]))) := Lib.hid (HO4.out.drewN 1)
          have e3' : w4.drew.frozen? ⟨g2, m * 2 + 1, none⟩ = false := e3
          have e2'' : w4.drew.cell? ⟨g2, m * 2 + 1, none⟩ = some (.int .i64 (b : Int)) := e2
          have hmx : (if b < t then (t : Int) else (b : Int)) = ((max b t : Nat) : Int) := by split <;> omega
          have Hmx := Lib.hid hmx
          clear hmx
          go_still_tail 12, (by kernel_rfl)
          first | rw [Hmx.out] | rw [show max (b : Int) (t : Int) = ((max b t : Nat) : Int) by omega]
          change wpList _ _ _ _ _ w4.drew
          have HS5 : Hid (OwnP (w4.drew.setCell ⟨g2, m * 2 + 1, none⟩ (.int .i64 ((max b t : Nat) : Int))) w2.heap.size (.slice (some ⟨g2, 0, none⟩) n1 c2) (PI ((S.take (k + 1)).foldl mrg []))) := Lib.hid (by rw [HA2.out, if_pos hle]; exact Hset.out _ _ HO5.out)
          have HB6 : Hid (Below w2.heap.size w2 (w4.drew.setCell ⟨g2, m * 2 + 1, none⟩ (.int .i64 ((max b t : Nat) : Int)))) := Lib.hid (Below.setCell HB5.out hg2 _)
          clear e1 e2 e3 e1' e2' HB4 HO4 HB5 HO5 Hset HA2
          generalize w4.drew = w5 at *
          generalize max b t = mx at *
          go_wp2
          exact ⟨⟨k + 1, _, by omega, by go_num, Lib.hid rfl, HS5, HB6⟩, by simp [intOf]; omega⟩
        · have hle' : ¬ ((f : Int) ≤ (b : Int) + 1) := by omega
          go_quiet (fail)
          have HB4 : Hid (Below w2.heap.size w2 (w3.drewN nq)) := Lib.hid (below_drewN HB1.out nq)
          have HO4 : Hid (OwnP (w3.drewN nq) w2.heap.size (.slice (some ⟨g2, 0, none⟩) n1 c2) (PI (D ++ [(a, b)]))) := Lib.hid (HO1.out.drewN nq)
          have e0 : (w3.drewN nq).cell? ⟨bx, 0, none⟩ = some (.int .i64 (f : Int)) := d0
          have e1 : (w3.drewN nq).cell? ⟨bx, 1, none⟩ = some (.int .i64 (t : Int)) := d1
          clear d0 d1 hget f1 HO1 HB1 HP1 Hset
          generalize w3.drewN nq = w4 at *
          have HO5 : Hid (w4.ownsRow w2.heap.size 64 2 (.slice (some ⟨g2, 0, none⟩) n1 c2) n1 (encPs (PI (D ++ [(a, b)])))) := Lib.hid (by have := HO4.out; unfold OwnP at this; rw [Hl.out] at this; exact this)
          go_wp2_with (at_builtin; refine wpList_app portE rfl (.tmp 45) (.tmp 47) rfl rfl (World.ownsRow.alloc HO5.out _) rfl (src_two_new _ _ _ _) ?c1 ?c2 ?c3 ?c4 ?_)
          case c1 => first | exact ⟨rfl, rfl⟩ | (intro u hu; simp at hu; rcases hu with rfl | rfl <;> rfl)
          case c2 => unfold maxLen; omega
          case c3 => omega
          case c4 => have := HB4.out.size; simp; omega
          intro v' w' hO hG
          have HO' : Hid (OwnP w' w2.heap.size v' (PI ((S.take (k + 1)).foldl mrg []))) := Lib.hid (by
            rw [HA2.out, if_neg hle, PI_append]
            rw [← Hl.out] at hO
            exact OwnP.snoc (p := ((f : Int), (t : Int))) hO)
          have HB' : Hid (Below w2.heap.size w2 w') := Lib.hid ((Below.alloc HB4.out HB4.out.size _).trans (hG.below (by have := HB4.out.size; simp; omega) (own_base HO4.out)))
          clear hO hG
          go_wp2
          exact ⟨⟨k + 1, _, by omega, by go_num, Lib.hid rfl, HO', HB'⟩, by simp [intOf]; omega⟩
    · obtain rfl : k = n := by omega
      have HF : Hid (A = R) := Lib.hid (by rw [← HA.out, List.take_of_length_le (by rw [Hsl.out]; exact Nat.le_refl _)]; exact HS.out)
      go_wp2
      go_ret
      refine ⟨_, rfl, ?_, HB2.out.trans (HB.out.mono HB2.out.size)⟩
      rw [← HF.out]
      exact HO.out.weak HB2.out.size
end Go.Proofs.Ytaamonhhclffcaa
