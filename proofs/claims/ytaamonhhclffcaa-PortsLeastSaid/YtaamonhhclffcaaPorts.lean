/-
  Ranges of ports: the fault of one, the first fault of a list.
-/
import Derived.Test.YtaamonhhclffcaaGenC
import Derived.Test.YtaamonhhclffcaaPure
import Derived.Test.YtaamonhhclffcaaRuns
import Derived.Lib.Hide
namespace Go.Proofs.Ytaamonhhclffcaa
open Go.RowKit Go
set_option linter.unusedVariables false

def badP (p : Int × Int) : Bool := outB p.1 0 p.2 || decide (65535 < p.2)
def portF (p : Int × Int) : Int := if badP p = true then 1 else 0
/-- a row of ranges that can be read -/
structure RdP (w : World) (ad : Option Addr) (L : List (Int × Int)) : Prop where
  small : L.length ≤ 1000
  cell : ∀ i, i < L.length → ∃ g o, ad = some ⟨g, o, none⟩ ∧ g < w.heap.size ∧ w.cell? ⟨g, o + i * 2, none⟩ = some (.int .i64 (L.getD i (0, 0)).1) ∧ w.cell? ⟨g, o + i * 2 + 1, none⟩ = some (.int .i64 (L.getD i (0, 0)).2)
theorem RdP.below {w w' : World} {ad : Option Addr} {L : List (Int × Int)} (h : RdP w ad L) (hb : Below w.heap.size w w') : RdP w' ad L :=
  ⟨h.small, fun i hi => by
    obtain ⟨g, o, e, hg, h1, h2⟩ := h.cell i hi
    exact ⟨g, o, e, Nat.lt_of_lt_of_le hg hb.size, (hb.cell (p := ⟨g, o + i * 2, none⟩) hg).trans h1, (hb.cell (p := ⟨g, o + i * 2 + 1, none⟩) hg).trans h2⟩⟩
set_option maxRecDepth 100000 in
theorem portsFault_any (f t : Int) (w : World) : Calls Try.prog 80 #[.agg #[.int .i64 f, .int .i64 t]] w (Ret (.int .i64 (portF (f, t))) w) := by
  have Hb : Hid (portF (f, t) = if (outB f 0 t || decide (65535 < t)) = true then 1 else 0) := Lib.hid rfl
  generalize portF (f, t) = k at *
  obtain ⟨ob, hob⟩ : ∃ z, outB f 0 t = z := ⟨_, rfl⟩
  rw [hob] at Hb
  have Ho := Lib.hid (outside_any f 0 t (w.alloc (.cells #[.int .i64 f, .int .i64 t] 64 (0, 0))))
  rw [hob] at Ho
  clear hob
  go_enter Try.func80, Try.ntmps80
  go_wp2_with fail
  refine Ho.out.mono ?_
  rintro e w' ⟨rfl, rfl⟩
  by_cases ht : (65535 : Int) < t
  · have H : Hid (k = 1) := Lib.hid (by rw [Hb.out, decide_eq_true ht]; simp)
    cases ob <;> (go_wp2_with fail; go_ret; exact ⟨by rw [H.out]; rfl, below_alloc (Below.refl _ _) _⟩)
  · cases ob
    · have H : Hid (k = 0) := Lib.hid (by rw [Hb.out, decide_eq_false ht]; rfl)
      go_wp2_with fail; go_ret; exact ⟨by rw [H.out]; rfl, below_alloc (Below.refl _ _) _⟩
    · have H : Hid (k = 1) := Lib.hid (by rw [Hb.out]; rfl)
      go_wp2_with fail; go_ret; exact ⟨by rw [H.out]; rfl, below_alloc (Below.refl _ _) _⟩
def anyF (L : List (Int × Int)) : Int := if L.any badP = true then 1 else 0
theorem anyF_hit {L : List (Int × Int)} {k : Nat} (hk : k < L.length) (hb : badP (L.getD k (0, 0)) = true) : anyF L = 1 := by
  have hm : L.getD k (0, 0) ∈ L := by simp [List.getD, List.getElem?_eq_getElem hk]
  unfold anyF
  rw [if_pos (List.any_eq_true.2 ⟨_, hm, hb⟩)]
theorem anyF_none {L : List (Int × Int)} (h : ∀ j, j < L.length → badP (L.getD j (0, 0)) = false) : anyF L = 0 := by
  unfold anyF
  rw [if_neg]
  rw [Bool.not_eq_true, List.any_eq_false]
  intro x hx
  obtain ⟨j, hj, rfl⟩ := List.getElem_of_mem hx
  have h1 := h j hj
  simp [List.getD, List.getElem?_eq_getElem hj] at h1
  simpa using h1
theorem badP_in (f t : Int) : badP (f, t) = (!inB f 0 t || decide (65535 < t)) := by
  show (outB f 0 t || _) = _
  rw [inB_out, Bool.not_not]
set_option maxRecDepth 100000 in
set_option maxHeartbeats 1000000 in
theorem anyPorts (ad : Option Addr) (n c : Nat) (L : List (Int × Int)) (w : World) (h : RdP w ad L) (hn : L.length = n) : Calls Try.prog 36 #[.slice ad n c] w (Ret (.int .i64 (anyF L)) w) := by
  have hs := h.small
  rw [hn] at hs
  have H0 := Lib.hid h
  have Hn := Lib.hid hn
  obtain ⟨af, haf⟩ : ∃ z, anyF L = z := ⟨_, rfl⟩
  rw [haf]
  have Haf := Lib.hid haf
  have hs2 : ¬ ((n : Int) > 1000) := by omega
  clear haf h hn
  go_enter Try.func36, Try.ntmps36
  go_wp2
  go_loopw [4, 10] (fun bx i wr => ∃ (k : Nat), k ≤ n ∧ i = .int .i64 k ∧ Hid (∀ j, j < k → badP (L.getD j (0, 0)) = false) ∧ Hid (Below w.heap.size w wr)) (fun _ i _ => n - (intOf i).toNat)
  case atStart => exact ⟨0, Nat.zero_le _, rfl, Lib.hid fun j hj => absurd hj (Nat.not_lt_zero _), Lib.hid (Below.refl _ _)⟩
  case round =>
    obtain ⟨k, hk, rfl, HX, HB⟩ := hrel
    by_cases hlt : k < n
    · obtain ⟨g, o, had, hg, c0, c1⟩ := (H0.out.below HB.out).cell k (by rw [Hn.out]; exact hlt)
      subst had
      have hkl : k < L.length := by rw [Hn.out]; exact hlt
      have Hkl := Lib.hid hkl
      clear hkl
      obtain ⟨p, hp⟩ : ∃ p, L.getD k (0, 0) = p := ⟨_, rfl⟩
      rw [hp] at c0 c1
      have Hp := Lib.hid hp
      clear hp
      obtain ⟨f, t⟩ := p
      simp only at c0 c1
      have Hbp := Lib.hid (badP_in f t)
      have Hin := Lib.hid (in_any f 0 t)
      generalize inB f 0 t = ib at *
      have hwb : wr.heap.size ≤ wr.heap.size := Nat.le_refl _
      by_cases ht : (65535 : Int) < t
      · have Hbad : Hid (af = 1) := Lib.hid (by rw [← Haf.out]; exact anyF_hit Hkl.out (by rw [Hp.out, Hbp.out, decide_eq_true ht]; simp))
        cases ib
        all_goals
          go_wp2_with fail
          refine (Hin.out _).mono ?_
          rintro e w' ⟨rfl, rfl⟩
          go_wp2_with fail
          go_ret
          exact ⟨by rw [Hbad.out]; rfl, by repeat (first | (refine below_set ?_ HB.out.size _ _) | exact below_alloc HB.out _)⟩
      · cases ib
        · have Hbad : Hid (af = 1) := Lib.hid (by rw [← Haf.out]; exact anyF_hit Hkl.out (by rw [Hp.out, Hbp.out]; rfl))
          go_wp2_with fail
          refine (Hin.out _).mono ?_
          rintro e w' ⟨rfl, rfl⟩
          go_wp2_with fail
          go_ret
          exact ⟨by rw [Hbad.out]; rfl, by repeat (first | (refine below_set ?_ HB.out.size _ _) | exact below_alloc HB.out _)⟩
        · have Hgood : Hid (badP (f, t) = false) := Lib.hid (by rw [Hbp.out, decide_eq_false ht]; rfl)
          go_wp2_with fail
          refine (Hin.out _).mono ?_
          rintro e w' ⟨rfl, rfl⟩
          go_wp2_with fail
          refine ⟨⟨k + 1, by omega, by go_num, Lib.hid fun j hj => ?_, Lib.hid (by repeat (first | (refine below_set ?_ HB.out.size _ _) | exact below_alloc HB.out _))⟩, by simp [intOf]; omega⟩
          rcases Nat.lt_or_ge j k with h | h
          · exact HX.out j h
          · obtain rfl : j = k := by omega
            rw [Hp.out]; exact Hgood.out
    · obtain rfl : k = n := by omega
      go_wp2
      go_ret
      exact ⟨by rw [← Haf.out, anyF_none fun j hj => HX.out j (by rw [← Hn.out]; exact hj)]; rfl, HB.out⟩
end Go.Proofs.Ytaamonhhclffcaa
