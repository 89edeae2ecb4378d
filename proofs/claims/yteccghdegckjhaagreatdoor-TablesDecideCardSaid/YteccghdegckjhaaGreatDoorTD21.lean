/-
  Plain law: the first address at which two tables differ, whatever list of their edges is gone through, as long as it rises.
  Numbers below 65536 in hexadecimal digits: strconv.FormatUint, FormatInt at base 16.
  Decimal and hexadecimal numerals of small numbers: strconv.FormatUint, FormatInt, Itoa over the laid tables.
  Strings cut at a byte, in plain words.
  What functions of strings and numbers read of the library's variables; their contracts in the words of lists of bytes.
  The insertion sort of a list whose last part stands right already, in plain words.
  Reports put together, and old ones thinned, in plain words: the program's way and the reference's give one list.
  The fault of a list of reports: the program.
-/
import Derived.Test.YteccghdegckjhaaGreatDoorTD20
import Derived.Test.YteccghdegckjhaaGreatDoorTD13
import Derived.Test.YteccghdegckjhaaGreatDoorTD1
import Derived.Lib.LaidTab
import Derived.Lib.SlBytesRow
import Derived.Test.YteccghdegckjhaaGreatDoorTD5
import Derived.Lib.AppendIntMem
import Derived.LaidSub
import Derived.MakeChecks
import Derived.Lib.SplitLaws
import Derived.Test.YteccghdegckjhaaGreatDoorTD9
import Derived.Test.YteccghdegckjhaaGreatDoorTD25
import Derived.Test.YteccghdegckjhaaGreatDoorTD26
import Derived.Test.YteccghdegckjhaaGreatDoorTD17
import Derived.Test.YteccghdegckjhaaGreatDoorTD10
set_option linter.unusedVariables false
namespace Go.Proofs.YteccghdegckjhaaGreatDoor
open Go.RowKit Go
set_option linter.unusedVariables false

theorem edE_vn {e : En} (h : OkPf e.1) : ∀ x ∈ edE e, VN x := by
  intro x hx
  obtain ⟨h1, h2⟩ := spP_vn h
  unfold edE at hx
  rcases List.mem_cons.1 hx with rfl | hx
  · exact h.num.1
  · by_cases ht : (spP e.1).2 = topN (nuP e.1)
    · rw [if_pos ht] at hx; cases hx
    · rw [if_neg ht] at hx
      obtain rfl := List.mem_singleton.1 hx
      exact (next_num h1 (by rw [h2]; exact ht)).1
theorem edT_vn {T : List En} (h : OkT T) : ∀ x ∈ edT T, VN x := by
  intro x hx
  unfold edT at hx
  rcases List.mem_cons.1 hx with rfl | hx
  · left; decide
  · rcases List.mem_cons.1 hx with rfl | hx
    · right; exact ⟨Nat.le_refl _, by decide⟩
    · obtain ⟨e, he, hxe⟩ := List.mem_flatMap.1 hx
      exact edE_vn (h e he).1 x hxe
theorem compF_all {α : Type} (eq : α → α → Bool) : ∀ (l : List α) (p : α), (∀ a b, a ∈ p :: l → b ∈ p :: l → eq a b = true → a = b) → ∀ x ∈ l, x = p ∨ x ∈ compF eq p l
  | [], p, _, x, hx => by cases hx
  | y :: l, p, h, x, hx => by
    have ih := compF_all eq l y (fun a b ha hb => h a b (List.mem_cons_of_mem _ ha) (List.mem_cons_of_mem _ hb))
    unfold compF
    have key : x = y ∨ x ∈ compF eq y l := by
      rcases List.mem_cons.1 hx with rfl | hx
      · exact .inl rfl
      · exact ih x hx
    by_cases he : eq y p = true
    · rw [if_pos he]
      rcases key with rfl | hk
      · exact .inl (h _ _ (List.mem_cons_of_mem _ (List.mem_cons_self ..)) (List.mem_cons_self ..) he)
      · exact .inr hk
    · rw [if_neg he]
      rcases key with rfl | hk
      · exact .inr (List.mem_cons_self ..)
      · exact .inr (List.mem_cons_of_mem _ hk)
theorem compL_iff {α : Type} (eq : α → α → Bool) (l : List α) (h : ∀ a b, a ∈ l → b ∈ l → eq a b = true → a = b) (x : α) : x ∈ compL eq l ↔ x ∈ l := by
  cases l with
  | nil => exact Iff.rfl
  | cons y l =>
    show x ∈ y :: compF eq y l ↔ _
    constructor
    · intro hx
      rcases List.mem_cons.1 hx with rfl | hx
      · exact List.mem_cons_self ..
      · exact List.mem_cons_of_mem _ (compF_mem eq y l x hx)
    · intro hx
      rcases List.mem_cons.1 hx with rfl | hx
      · exact List.mem_cons_self ..
      · rcases compF_all eq l y h x hx with rfl | hx
        · exact List.mem_cons_self ..
        · exact List.mem_cons_of_mem _ hx
theorem compF_sub {α : Type} (eq : α → α → Bool) : ∀ (l : List α) (p : α), (compF eq p l).Sublist l
  | [], p => List.Sublist.refl _
  | y :: l, p => by
    unfold compF
    split
    · exact List.Sublist.cons _ (compF_sub eq l y)
    · exact List.Sublist.cons_cons _ (compF_sub eq l y)
theorem compL_sub {α : Type} (eq : α → α → Bool) (l : List α) : (compL eq l).Sublist l := by
  cases l with
  | nil => exact List.Sublist.refl _
  | cons y l => exact List.Sublist.cons_cons _ (compF_sub eq l y)
/-- the program's list: sorted, each once -/
theorem dif_prog {T U : List En} (hT : OkT T) (hU : OkT U) {S : List Nat} (hp : S.Perm (edT T ++ edT U)) (hs : S.Pairwise fun p q => keyAd p ≤ keyAd q) :
    (compL eqAd S).find? (difB T U) = difO T U ∧ (∀ x ∈ compL eqAd S, VN x) ∧ (compL eqAd S).length ≤ (edT T ++ edT U).length := by
  have hv : ∀ x ∈ S, VN x := fun x hx => by
    rcases List.mem_append.1 (hp.mem_iff.1 hx) with h | h
    · exact edT_vn hT x h
    · exact edT_vn hU x h
  have hs2 : S.Pairwise (· ≤ ·) := by
    refine List.Pairwise.imp_of_mem ?_ hs
    intro a b ha hb h
    rwa [keyAd_vn (hv a ha), keyAd_vn (hv b hb)] at h
  have hm := compL_iff eqAd S (fun a b ha hb h => by rw [eqAd_iff (hv a ha) (hv b hb)] at h; exact of_decide_eq_true h)
  refine ⟨find_least _ _ _ (hs2.sublist (compL_sub eqAd S)) fun x => (hm x).trans hp.mem_iff, fun x hx => hv x ((hm x).1 hx), ?_⟩
  rw [← hp.length_eq]
  exact compL_len eqAd S
/-- the reference's list: sorted -/
theorem dif_ref {T U : List En} (hT : OkT T) (hU : OkT U) {S : List Nat} (hp : S.Perm (edT (T ++ U))) (hs : S.Pairwise fun p q => keyWd p ≤ keyWd q) :
    S.find? (difB T U) = difO T U ∧ (∀ x ∈ S, VN x) := by
  have hTU : OkT (T ++ U) := fun e he => by
    rcases List.mem_append.1 he with h | h
    · exact hT e h
    · exact hU e h
  have hv : ∀ x ∈ S, VN x := fun x hx => edT_vn hTU x (hp.mem_iff.1 hx)
  have hs2 : S.Pairwise (· ≤ ·) := by
    refine List.Pairwise.imp_of_mem ?_ hs
    intro a b ha hb h
    rwa [keyWd_vn (hv a ha), keyWd_vn (hv b hb)] at h
  refine ⟨find_least _ _ _ hs2 fun x => hp.mem_iff.trans ?_, hv⟩
  unfold edT
  simp only [List.flatMap_append, List.mem_cons, List.mem_append]
  constructor
  · rintro (h | h | h | h)
    · exact .inl (.inl h)
    · exact .inl (.inr (.inl h))
    · exact .inl (.inr (.inr h))
    · exact .inr (.inr (.inr h))
  · rintro ((h | h | h) | (h | h | h))
    · exact .inl h
    · exact .inr (.inl h)
    · exact .inr (.inr (.inl h))
    · exact .inl h
    · exact .inr (.inl h)
    · exact .inr (.inr (.inr h))
/-- what Differ gives -/
def difV (F : Int) : Option Nat → Value
  | some a => if F = 0 then .tuple #[.agg (aN a), .bool true, .int .i64 0] else .tuple #[.agg #[.bool false, .int .u64 0, .int .u64 0], .bool false, .int .i64 F]
  | none => .tuple #[.agg #[.bool false, .int .u64 0, .int .u64 0], .bool false, .int .i64 F]
def twoT (T U : List En) : Int := if tabF T ≠ 0 then tabF T else tabF U
end Go.Proofs.YteccghdegckjhaaGreatDoor

namespace Go.Proofs.YteccghdegckjhaaGreatDoor
open Go.RowKit Go
set_option linter.unusedVariables false

/-- the table's cell for 16 -/
def T16 (w : World) : Prop := w.cell? ⟨5, 15, none⟩ = some (.int .u8 4)
theorem T16.below {w w' : World} (h : T16 w) (hb : Below w.heap.size w w') : T16 w' := Later.cell_of h ⟨w', hb⟩
abbrev DG : ByteArray := ⟨#[48, 49, 50, 51, 52, 53, 54, 55, 56, 57, 97, 98, 99, 100, 101, 102, 103, 104, 105, 106, 107, 108, 109, 110, 111, 112, 113, 114, 115, 116, 117, 118, 119, 120, 121, 122]⟩
/-- the digit n, below 16 -/
def dH (n : Nat) : UInt8 := if h : n < 36 then DG[n]'h else 0
def hexL (u : Nat) : List UInt8 := if u < 16 then [dH u] else if u < 256 then [dH (u / 16), dH (u % 16)] else if u < 4096 then [dH (u / 256), dH (u / 16 % 16), dH (u % 16)] else [dH (u / 4096), dH (u / 256 % 16), dH (u / 16 % 16), dH (u % 16)]
def hexS (u : Nat) : ByteArray := ⟨(hexL u).toArray⟩
end Go.Proofs.YteccghdegckjhaaGreatDoor

namespace Go.Proofs.YteccghdegckjhaaGreatDoor
open Go.RowKit Go Go.Sort
set_option linter.unusedVariables false

theorem tab_below {w w' : World} {name : String} {k : IntKind} {zs : List Int} (h : Lib.TabIs Tryz.prog w name k zs) (hb : Below w.heap.size w w') : Lib.TabIs Tryz.prog w' name k zs := by
  unfold Lib.TabIs World.var? at *
  cases hg : Tryz.prog.globalNamed name with
  | none => simp [hg] at h
  | some g =>
    simp only [hg, Option.bind_some] at h ⊢
    have hlt : g < w.heap.size := by
      rcases Nat.lt_or_ge g w.heap.size with h' | h'
      · exact h'
      · rw [Array.getElem?_eq_none h'] at h; simp at h
    rw [hb.block g hlt]
    exact h
/-- the two tables that numerals read -/
def Tabs (w : World) : Prop := Lib.TabIs Tryz.prog w "internal/strconv.uint64pow10" .u64 Lib.pow10Tab ∧ T16 w
theorem Tabs.below {w w' : World} (h : Tabs w) (hb : Below w.heap.size w w') : Tabs w' := ⟨tab_below h.1 hb, h.2.below hb⟩
end Go.Proofs.YteccghdegckjhaaGreatDoor

namespace Go.Proofs.YteccghdegckjhaaGreatDoor
open Go
set_option linter.unusedVariables false

/-- a string cut at every byte c -/
def spl (c : UInt8) : List UInt8 → List (List UInt8)
  | [] => [[]]
  | x :: l => if x = c then [] :: spl c l else match spl c l with
    | p :: ps => (x :: p) :: ps
    | [] => [[x]]
end Go.Proofs.YteccghdegckjhaaGreatDoor

namespace Go.Proofs.YteccghdegckjhaaGreatDoor
open Go.RowKit Go Go.Sort
set_option linter.unusedVariables false

/-- the variables that these functions read -/
structure Vr (w : World) : Prop where
  mx : ∃ m, w.cell? ⟨0, 0, none⟩ = some (.int .i64 m)
  es : ∃ ev, w.cell? ⟨1, 0, none⟩ = some ev ∧ (ev = .nilIface ∨ ∃ te pe, ev = .iface te pe)
  er : ∃ ev, w.cell? ⟨2, 0, none⟩ = some ev ∧ (ev = .nilIface ∨ ∃ te pe, ev = .iface te pe)
  tb : Tabs w
theorem cell_below {w w' : World} {g : Nat} {v : Value} (h : w.cell? ⟨g, 0, none⟩ = some v) (hb : Below w.heap.size w w') : w'.cell? ⟨g, 0, none⟩ = some v :=
  (hb.cell (World.block_lt_of_cell? _ _ h)).trans h
theorem Vr.below {w w' : World} (h : Vr w) (hb : Below w.heap.size w w') : Vr w' := by
  obtain ⟨⟨m, h1⟩, ⟨e, h2, h3⟩, ⟨f, h4, h5⟩, h6⟩ := h
  exact ⟨⟨m, cell_below h1 hb⟩, ⟨e, cell_below h2 hb, h3⟩, ⟨f, cell_below h4 hb, h5⟩, h6.below hb⟩
/-- a row of strings that can be read -/
def RdS (w : World) (g : Nat) (ss : List (List UInt8)) : Prop := g < w.heap.size ∧ ∀ (i : Nat) s, ss[i]? = some s → w.cell? ⟨g, i, none⟩ = some (.string (strL s))
theorem RdS.below {w w' : World} {g : Nat} {ss : List (List UInt8)} (h : RdS w g ss) (hb : Below w.heap.size w w') : RdS w' g ss :=
  ⟨Nat.lt_of_lt_of_le h.1 hb.size, fun i s hs => (hb.cell (p := ⟨g, i, none⟩) h.1).trans (h.2 i s hs)⟩
end Go.Proofs.YteccghdegckjhaaGreatDoor

namespace Go.Proofs.YteccghdegckjhaaGreatDoor
open Go.RowKit Go Go.Sort
set_option linter.unusedVariables false

section
variable {α : Type} [Inhabited α]
end
end Go.Proofs.YteccghdegckjhaaGreatDoor

namespace Go.Proofs.YteccghdegckjhaaGreatDoor
open Go.RowKit Go Go.Sort
set_option linter.unusedVariables false
end Go.Proofs.YteccghdegckjhaaGreatDoor

namespace Go.Proofs.YteccghdegckjhaaGreatDoor
open Go.RowKit Go
set_option linter.unusedVariables false
end Go.Proofs.YteccghdegckjhaaGreatDoor
