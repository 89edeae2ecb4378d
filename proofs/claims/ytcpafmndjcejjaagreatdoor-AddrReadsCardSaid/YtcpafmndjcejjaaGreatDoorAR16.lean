/-
  What functions of strings and numbers read of the library's variables; their contracts in the words of lists of bytes.
-/
import Derived.Test.YtcpafmndjcejjaaGreatDoorAR4
import Derived.Test.YtcpafmndjcejjaaGreatDoorAR11
import Derived.Test.YtcpafmndjcejjaaGreatDoorAR12
import Derived.Test.YtcpafmndjcejjaaGreatDoorAR14
import Derived.Test.YtcpafmndjcejjaaGreatDoorAR15
import Derived.Test.YtcpafmndjcejjaaGreatDoorAR5
set_option linter.unusedVariables false
namespace Go.Proofs.YtcpafmndjcejjaaGreatDoor
open Go.RowKit Go Go.Sort
set_option linter.unusedVariables false

/-- the variables that these functions read -/
structure Vr (w : World) : Prop where
  mx : ∃ m, w.cell? ⟨0, 0, none⟩ = some (.int .i64 m)
  es : ∃ ev, w.cell? ⟨2, 0, none⟩ = some ev ∧ (ev = .nilIface ∨ ∃ te pe, ev = .iface te pe)
  er : ∃ ev, w.cell? ⟨3, 0, none⟩ = some ev ∧ (ev = .nilIface ∨ ∃ te pe, ev = .iface te pe)
  tb : Tabs w
theorem cell_below {w w' : World} {g : Nat} {v : Value} (h : w.cell? ⟨g, 0, none⟩ = some v) (hb : Below w.heap.size w w') : w'.cell? ⟨g, 0, none⟩ = some v :=
  (hb.cell (World.block_lt_of_cell? _ _ h)).trans h
theorem Vr.below {w w' : World} (h : Vr w) (hb : Below w.heap.size w w') : Vr w' := by
  obtain ⟨⟨m, h1⟩, ⟨e, h2, h3⟩, ⟨f, h4, h5⟩, h6⟩ := h
  exact ⟨⟨m, cell_below h1 hb⟩, ⟨e, cell_below h2 hb, h3⟩, ⟨f, cell_below h4 hb, h5⟩, h6.below hb⟩
/-- a row of strings that can be read -/
def RdS (w : World) (g : Nat) (ss : List (List UInt8)) : Prop := g < w.heap.size ∧ ∀ (i : Nat) s, ss[i]? = some s → w.cell? ⟨g, i, none⟩ = some (.string (strL s))
theorem RdS.below {w w' : World} {g : Nat} {ss : List (List UInt8)} (h : RdS w g ss) (hb : Below w.heap.size w w') : RdS w' g ss :=
  ⟨Nat.lt_of_lt_of_le h.1 hb.size, fun i s hs => (hb.cell (p := ⟨g, i, none⟩) h.1).trans (h.2 i s hs)⟩
theorem split_any (s : List UInt8) (c : UInt8) (w : World) (hv : Vr w) (hs : s.length ≤ 1000000) :
    Calls Tryz.prog 61 #[.string (strL s), .string ⟨#[c]⟩] w fun e w' => ∃ g, e = .returned (.slice (some ⟨g, 0, none⟩) (spl c s).length (spl c s).length) ∧ RdS w' g (spl c s) ∧ Below w.heap.size w w' := by
  obtain ⟨m, hm⟩ := hv.mx
  refine (Tryz.strings_Split (strL s) ⟨#[c]⟩ m w (by rw [strL_size]; omega) hm (by show 1 ≤ 1; exact Nat.le_refl _)).mono ?_
  rintro e w' ⟨rfl, rfl⟩
  refine ⟨w.heap.size, by rw [countB_one]; rfl, ⟨by simp, fun i p hp => ?_⟩, below_alloc (Below.refl _ _) _⟩
  rw [cell_of_row _ w.heap.size i _ _ _ (heap_alloc_new w _), splitB_one']
  rw [List.getElem?_toArray, List.getElem?_map, List.getElem?_map]
  show (Option.map _ (Option.map _ ((spl c s)[i]?))) = _
  rw [hp]
  rfl
theorem indexByte_mem (s : List UInt8) (c : UInt8) : decide (0 ≤ Lib.indexByte s c) = s.contains c := by
  induction s with
  | nil => rfl
  | cons b l ih =>
    by_cases h : b = c
    · subst h
      simp [Lib.indexByte]
    · have h2 : (c == b) = false := beq_eq_false_iff_ne.2 (fun e => h e.symm)
      have h3 : (b == c) = false := beq_eq_false_iff_ne.2 h
      rw [List.contains_cons, h2, Bool.false_or, ← ih]
      have e : Lib.indexByte (b :: l) c = if Lib.indexByte l c == -1 then -1 else Lib.indexByte l c + 1 := by rw [Lib.indexByte, if_neg (by simp [h3])]
      have hge := Lib.indexByte_ge l c
      rw [e]
      clear e ih
      generalize Lib.indexByte l c = I at *
      by_cases q : I = -1
      · rw [if_pos (beq_iff_eq.2 q), q]
      · rw [if_neg (fun e => q (beq_iff_eq.1 e))]
        apply decide_eq_decide.2
        omega
theorem contains_any (s : List UInt8) (c : UInt8) (w : World) : Calls Tryz.prog 26 #[.string (strL s), .string ⟨#[c]⟩] w (Ret (.bool (s.contains c)) w) := by
  refine (Tryz.strings_Contains_one (strL s) c w).mono ?_
  rintro e w' ⟨rfl, rfl⟩
  refine ⟨?_, Below.refl _ _⟩
  rw [indexByte_mem]
  rfl
/-- a string cut at the first of some bytes -/
theorem cut_any (s sep : List UInt8) (w : World) (hv : Vr w) (hs : s.length ≤ 1000000) :
    Calls Tryz.prog 28 #[.string (strL s), .string (strL sep)] w (Ret (.tuple #[.string (strL (Lib.cut s sep).1), .string (strL (Lib.cut s sep).2.1), .bool (Lib.cut s sep).2.2]) w) := by
  obtain ⟨m, hm⟩ := hv.mx
  refine (Tryz.strings_Cut (strL s) (strL sep) m w (by rw [strL_size]; omega) hm).mono ?_
  rintro e w' ⟨rfl, n, rfl⟩
  exact ⟨rfl, Go.Proofs.YtcpafmndjcejjaaGreatDoor.below_drewN (Below.refl _ _) n⟩
theorem trimPrefix_any (s p : List UInt8) (w : World) : Calls Tryz.prog 93 #[.string (strL s), .string (strL p)] w (Ret (.string (strL (Lib.trimPrefix s p))) w) := by
  refine (Tryz.strings_TrimPrefix (strL s) (strL p) w).mono ?_
  rintro e w' ⟨rfl, rfl⟩
  exact ⟨rfl, Below.refl _ _⟩
/-- strconv.Atoi: a number and no error, or an error -/
theorem atoi_any (s : List UInt8) (w : World) (hv : Vr w) (hs : s.length ≤ 1000000) :
    Calls Tryz.prog 66 #[.string (strL s)] w fun e w' => (∃ n ev, e = .returned (.tuple #[.int .i64 n, ev]) ∧ (match Lib.atoiAll s with | .ok v => n = v ∧ ev = .nilIface | _ => ∃ t p, ev = .iface t p)) ∧ Below w.heap.size w w' := by
  have hz : (strL s).size = s.length := strL_size s
  cases h : Lib.atoiAll s with
  | ok v =>
    refine (Tryz.strconv_Atoi_ok (strL s) (by omega) v h w).mono ?_
    rintro e w' ⟨rfl, hw⟩
    refine ⟨⟨v, .nilIface, rfl, rfl, rfl⟩, ?_⟩
    rcases hw with rfl | ⟨t, rfl⟩
    · exact Below.refl _ _
    · exact Lib.bytesWorld_below w _ _
  | range =>
    obtain ⟨ev, h1, h2⟩ := hv.er
    refine (Tryz.strconv_Atoi_range (strL s) (by omega) h ev w h1 h2).mono ?_
    rintro e w' ⟨N, rfl, -, -, hb⟩
    exact ⟨⟨_, _, rfl, _, _, rfl⟩, hb⟩
  | _ =>
    obtain ⟨ev, h1, h2⟩ := hv.es
    refine (Tryz.strconv_Atoi_syntax (strL s) (by omega) h ev w h1 h2).mono ?_
    rintro e w' ⟨N, rfl, -, -, hb⟩
    exact ⟨⟨0, _, rfl, _, _, rfl⟩, hb⟩
end Go.Proofs.YtcpafmndjcejjaaGreatDoor
