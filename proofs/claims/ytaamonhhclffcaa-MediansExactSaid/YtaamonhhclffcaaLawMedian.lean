/-
  MediansExact: the law's walk. Condition: the list is readable (LawArg).
-/
import Derived.Test.YtaamonhhclffcaaNumGen
import Derived.Test.YtaamonhhclffcaaLawTurned
namespace Go.Proofs.Ytaamonhhclffcaa
open Go.RowKit Go
set_option linter.unusedVariables false

/-- what the five functions of the law give at an own row of numbers, in each later world -/
theorem median_facts {v : Value} {zs : List Int} {w0 : World} {base : Nat} (hO : OwnI w0 base v zs) (hl : zs.length ≤ 7) :
    ∃ f p1 q1 p2 q2 : Int, (∀ w, Below w0.heap.size w0 w → Calls Try.prog 42 #[v] w (Ret (.tuple #[.agg #[.int .i64 p1, .int .i64 q1], .int .i64 f]) w)) ∧
      (∀ w, Below w0.heap.size w0 w → Calls Try.prog 43 #[v] w (Ret (.tuple #[.agg #[.int .i64 p2, .int .i64 q2], .int .i64 f]) w)) ∧
      (∀ w, Below w0.heap.size w0 w → Calls Try.prog 44 #[v] w fun e w' => e = .returned (.int .i64 f) ∧ w' = w) ∧
      (f = 0 → ∀ w, Below w0.heap.size w0 w → Calls Try.prog 46 #[v] w (Ret (.agg #[.int .i64 p1, .int .i64 q1]) w)) ∧
      (f = 0 → ∀ w, Below w0.heap.size w0 w → Calls Try.prog 47 #[v] w (Ret (.agg #[.int .i64 p2, .int .i64 q2]) w)) ∧
      (f ≠ 0 → p1 = 0 ∧ q1 = 0 ∧ p2 = 0 ∧ q2 = 0) := by
  by_cases h0 : zs.length = 0
  · obtain ⟨ad, c, rfl, _⟩ := own_form hO
    rw [h0]
    exact ⟨8, 0, 0, 0, 0, fun w _ => median_none ad c w, fun w _ => spreadP_none ad c w, fun w _ => qNumbersFault_none ad c w, fun h => absurd h (by omega), fun h => absurd h (by omega), fun _ => ⟨rfl, rfl, rfl, rfl⟩⟩
  · obtain ⟨g, c, cur, rfl, _, _, hR, _, _⟩ := hO.slice (by omega)
    have hn : 1 ≤ zs.length ∧ zs.length ≤ 3000 := by omega
    by_cases hf : nFault zs = 0
    · exact ⟨0, _, _, _, _, fun w hb => median_good g 0 _ c zs w (hR.later hb) hn hf, fun w hb => spreadP_good g 0 _ c zs w (hR.later hb) hn hf, fun w hb => by have := qNumbersFault_any g 0 _ c zs w (hR.later hb) hn; rw [hf] at this; exact this,
        fun _ w hb => medianOf_any g 0 _ c zs w (hR.later hb) hn hf, fun _ w hb => spreadOf_any g 0 _ c zs w (hR.later hb) hn hf, fun h => absurd rfl h⟩
    · exact ⟨nFault zs, 0, 0, 0, 0, fun w hb => median_bad g 0 _ c zs w (hR.later hb) hn hf, fun w hb => spreadP_bad g 0 _ c zs w (hR.later hb) hn hf, fun w hb => qNumbersFault_any g 0 _ c zs w (hR.later hb) hn,
        fun h => absurd h hf, fun h => absurd h hf, fun _ => ⟨rfl, rfl, rfl, rfl⟩⟩

set_option maxRecDepth 100000 in
set_option maxHeartbeats 2000000 in
theorem law_MediansExact (ad : Option Addr) (n c : Nat) (w : World) (h : LawArg w ad n) :
    Calls Try.prog 7 #[.slice ad n c] w (Ret (.bool true) w) := by
  have hS := LawArg.strm (c := c) h
  go_enter Try.func7, Try.ntmps7
  go_wp2_with fail
  refine (numbers_gen w.heap.size 0 _ hS (by omega)).mono ?_
  rintro e w1 ⟨v, zs, rfl, hO, hl, hg⟩
  have hs1 := hg.g.size
  simp only [World.size_alloc] at hs1
  have HB1 := Lib.hid (hg.toBelow (w := w) ((Below.refl _ w).alloc (Nat.le_refl _) _) (Nat.le_refl _))
  obtain ⟨f, p1, q1, p2, q2, hM, hSp, hF, hMO, hSO, hz⟩ := median_facts hO hl
  have HM := Lib.hid hM
  have HSp := Lib.hid hSp
  have HF := Lib.hid hF
  have HMO := Lib.hid hMO
  have HSO := Lib.hid hSO
  clear hS h hO hl hg hM hSp hF hMO hSO
  go_wp2_with fail
  refine (HM.out _ (Below.refl _ _)).mono ?_
  rintro e w2 ⟨rfl, hb2⟩
  have HL2 := Lib.hid hb2
  have HA2 : FrBlk (w2.alloc (.cells #[.int .i64 p1, .int .i64 q1] 73 (0, 0))) w2.heap.size p1 q1 := Blk.new w2 _ _
  have HL2' := Lib.hid (below_alloc hb2 (.cells #[.int .i64 p1, .int .i64 q1] 73 (0, 0)))
  have hs2 := hb2.size
  clear hb2
  go_wp2_with fail
  generalize hF1 : w2.heap.size = F1 at *
  have hltA := HA2.lt
  refine (HSp.out _ HL2'.out).mono ?_
  rintro e w3 ⟨rfl, hb3⟩
  have hltB := hb3.size
  have HA3 : FrBlk w3 F1 p1 q1 := Blk.below HA2 hb3 hltA
  have HL3 := Lib.hid (HL2'.out.trans (hb3.mono HL2'.out.size))
  have HA4 : FrBlk (w3.alloc (.cells #[.int .i64 p2, .int .i64 q2] 73 (0, 0))) F1 p1 q1 := Blk.alloc HA3 _
  have HC4 : FrBlk (w3.alloc (.cells #[.int .i64 p2, .int .i64 q2] 73 (0, 0))) w3.heap.size p2 q2 := Blk.new w3 _ _
  have HL4 := Lib.hid (below_alloc HL3.out (.cells #[.int .i64 p2, .int .i64 q2] 73 (0, 0)))
  clear hb3 HL2 HL2' HA2 HA3 HL3 HSp HM
  go_wp2_with fail
  generalize w3.heap.size = F2 at *
  generalize (w3.alloc (.cells #[.int .i64 p2, .int .i64 q2] 73 (0, 0))) = w4 at *
  refine (HF.out _ HL4.out).mono ?_
  rintro e w5 ⟨rfl, rfl⟩
  have HB5 := Lib.hid (HB1.out.trans (HL4.out.mono HB1.out.size))
  obtain ⟨c0, c1, f0⟩ := HA4.cells
  obtain ⟨d0, d1, g0⟩ := HC4.cells
  have hlt5 := HA4.lt
  have hlt6 := HC4.lt
  clear HA4 HC4 HF f0 g0 hltA hltB hs2 hs1
  by_cases h0 : f = 0
  · subst h0
    have l0 := Later.cell_of c0
    have l1 := Later.cell_of c1
    have k0 := Later.cell_of d0
    have k1 := Later.cell_of d1
    have h1 := fun n : Later w5 => Calls.later n (HMO.out rfl n.1 (HL4.out.trans (n.2.mono HL4.out.size)))
    have h2 := fun n : Later w5 => Calls.later n (HSO.out rfl n.1 (HL4.out.trans (n.2.mono HL4.out.size)))
    have h3 := fun n : Later w5 => Calls.later n (flowing_any n.1)
    clear hz HMO HSO
    go_wp2_with fail
    refine wp_region_later (by kernel_rfl) (by kernel_rfl) ?_
    repeat (go_big_quiet_step (first | (go_at_call 46; exact h1 _) | (go_at_call 47; exact h2 _) | (go_at_call 45; exact h3 _)))
    refine wpQuiet_nil ?_
    rintro w6 ⟨n6, rfl⟩
    go_wp2_with fail
    go_ret
    exact ⟨rfl, HB5.out.trans (n6.2.mono HB5.out.size)⟩
  · obtain ⟨rfl, rfl, rfl, rfl⟩ := hz h0
    have e2 : (f != 0) = true := by simpa using h0
    clear hz HMO HSO
    go_wp2_with (go_at_call 45; refine (flowing_any _).mono ?_; rintro e w6 ⟨rfl, hb6⟩; have HB6 := Lib.hid (HB5.out.trans (hb6.mono HB5.out.size)); clear hb6)
    go_ret
    exact ⟨rfl, HB6.out⟩
end Go.Proofs.Ytaamonhhclffcaa
