/-
  The address behind another one: span.Next.
  Rows of structs, whatever their element: how they lie, what a call owns of them, how they are read.
  What stays when blocks of some types alone change: rows that can be read, of a type that is not among them.
  What stays while the stream moves on, and while cells of a block are set.
  The reference's order of addresses; the count of draws never goes down.
  Flows: view.FlowFault and the reference's FlowFault are the same function; Back and BackOf.
  The sum of bytes: filter.Sum and the reference's CheckSumOf are the same function of the bytes.
  The last of the law's marks: filtered is true.
-/
import Derived.Test.YteccghdegckjhaaGreatDoorPT6
import Derived.Laws.Externs
import Derived.Test.YteccghdegckjhaaGreatDoorPT4
import Derived.Sort.Grow
import Derived.Test.YteccghdegckjhaaGreatDoorPT1
set_option linter.unusedVariables false
namespace Go.Proofs.YteccghdegckjhaaGreatDoor
open Go.RowKit Go
set_option linter.unusedVariables false
/-- the cells of a prefix -/
def pN (x : Nat) (n : Int) : Array Value := #[.bool (sixN x), .int .u64 ((hiN x : Nat) : Int), .int .u64 ((loN x : Nat) : Int), .int .i64 n]
end Go.Proofs.YteccghdegckjhaaGreatDoor

namespace Go.Proofs.YteccghdegckjhaaGreatDoor
open Go.RowKit Go
set_option linter.unusedVariables false

/-- how an element lies in cells -/
structure Lay (α : Type) where
  enc : α → List Value
  K : Nat
  ty : TypeId
  pos : 0 < K
  len : ∀ x, (enc x).length = K
  one : ∀ x, ∀ v ∈ enc x, v.oneCell' = true
section
variable {α : Type} {E : Lay α}
def Lay.all (E : Lay α) (L : List α) : List Value := L.flatMap E.enc
theorem Lay.all_len (E : Lay α) : ∀ L : List α, (E.all L).length = L.length * E.K
  | [] => by simp [Lay.all]
  | x :: L => by
    have := E.all_len L
    simp only [Lay.all, List.flatMap_cons, List.length_append, E.len, List.length_cons] at this ⊢
    rw [Nat.add_mul, this]; omega
theorem Lay.all_append (E : Lay α) (A B : List α) : E.all (A ++ B) = E.all A ++ E.all B := by simp [Lay.all]
theorem Lay.all_get (E : Lay α) : ∀ (L : List α) (i j : Nat) (x : α), L[i]? = some x → j < E.K → (E.all L)[i * E.K + j]? = (E.enc x)[j]?
  | [], i, j, x, h, _ => by simp at h
  | y :: L, 0, j, x, h, hj => by
    simp at h
    subst h
    rw [Nat.zero_mul, Nat.zero_add]
    show ((E.enc y) ++ E.all L)[j]? = _
    rw [List.getElem?_append_left (by rw [E.len]; exact hj)]
  | y :: L, i + 1, j, x, h, hj => by
    have := E.all_get L i j x (by simpa using h) hj
    show ((E.enc y) ++ E.all L)[(i + 1) * E.K + j]? = _
    rw [List.getElem?_append_right (by rw [E.len, Nat.add_mul]; omega), E.len, show (i + 1) * E.K + j - E.K = i * E.K + j by rw [Nat.add_mul]; omega]
    exact this
theorem Lay.all_cut (E : Lay α) (L : List α) (t : Nat) (h : t < L.length * E.K) : ∃ x, L[t / E.K]? = some x ∧ (E.all L)[t]? = (E.enc x)[t % E.K]? := by
  have hi : t / E.K < L.length := (Nat.div_lt_iff_lt_mul E.pos).2 h
  refine ⟨L[t / E.K], List.getElem?_eq_getElem hi, ?_⟩
  have := E.all_get L (t / E.K) (t % E.K) _ (List.getElem?_eq_getElem hi) (Nat.mod_lt _ E.pos)
  rwa [show t / E.K * E.K + t % E.K = t by rw [Nat.mul_comm]; exact Nat.div_add_mod t E.K] at this
/-- a row that a call owns -/
def OwnK (E : Lay α) (w : World) (base : Nat) (v : Value) (L : List α) : Prop := w.ownsRow base E.ty E.K v L.length (E.all L)
/-- a row that can be read -/
def RdK (E : Lay α) (w : World) (ad : Option Addr) (L : List α) : Prop :=
  ∀ (i : Nat) x, L[i]? = some x → ∃ g o, ad = some ⟨g, o, none⟩ ∧ g < w.heap.size ∧ ∀ j v, (E.enc x)[j]? = some v → w.cell? ⟨g, o + (i * E.K + j), none⟩ = some v
theorem RdK.below {w w' : World} {ad : Option Addr} {L : List α} (h : RdK E w ad L) (hb : Below w.heap.size w w') : RdK E w' ad L := fun i x hx => by
  obtain ⟨g, o, e, hg, hc⟩ := h i x hx
  exact ⟨g, o, e, Nat.lt_of_lt_of_le hg hb.size, fun j v hv => (hb.cell (p := ⟨g, o + (i * E.K + j), none⟩) hg).trans (hc j v hv)⟩
theorem RdK.nil (w : World) (ad : Option Addr) : RdK E w ad [] := fun i x hx => by simp at hx
theorem OwnK.nil (E : Lay α) (w : World) (base : Nat) : OwnK E w base (.slice none 0 0) [] := World.ownsRow_nil w base _ _
theorem OwnK.weak {w : World} {base base' : Nat} {v : Value} {L : List α} (h : OwnK E w base v L) (hb : base' ≤ base) : OwnK E w base' v L := own_weak h hb
theorem OwnK.later {w w' : World} {base : Nat} {v : Value} {L : List α} (h : OwnK E w base v L) (hb : Below w.heap.size w w') : OwnK E w' base v L := own_later h hb
theorem OwnK.alloc {w : World} {base : Nat} {v : Value} {L : List α} (h : OwnK E w base v L) (o : Obj) : OwnK E (w.alloc o) base v L := h.later (below_alloc (Below.refl _ _) _)
theorem OwnK.gen {w w' : World} {b B m : Nat} {v : Value} {L : List α} (h : OwnK E w B v L) (hg : Gen b w w' m) (hb : b < B) : OwnK E w' B v L :=
  World.ownsRow.kept h hg.g (by
    cases hv : v.ownBlock with
    | none => exact .inl rfl
    | some k => exact .inr (by have := own_base h k hv; simp; omega))
theorem OwnK.snoc {w : World} {B : Nat} {v : Value} {L : List α} {x : α} (h : w.ownsRow B E.ty E.K v (L.length + 1) (E.all L ++ E.enc x)) : OwnK E w B v (L ++ [x]) := by
  show w.ownsRow _ _ _ _ _ _
  rw [List.length_append, E.all_append]
  simpa [Lay.all] using h
theorem OwnK.app {w : World} {B : Nat} {v : Value} {L M : List α} (h : w.ownsRow B E.ty E.K v (L.length + M.length) (E.all L ++ E.all M)) : OwnK E w B v (L ++ M) := by
  show w.ownsRow _ _ _ _ _ _
  rw [List.length_append, E.all_append]
  exact h
theorem OwnK.form {w : World} {B : Nat} {v : Value} {L : List α} (h : OwnK E w B v L) : ∃ ad c, v = .slice ad L.length c ∧ Src w ad L.length E.K (E.all L) ∧ L.length ≤ c ∧ c ≤ maxLen := own_form h
theorem OwnK.one {w : World} {B : Nat} {v : Value} {L : List α} (h : OwnK E w B v L) (hl : 1 ≤ L.length) :
    ∃ g c, v = .slice (some ⟨g, 0, none⟩) L.length c ∧ B ≤ g ∧ g < w.heap.size ∧ L.length ≤ c ∧ c ≤ maxLen := by
  rcases h.2 with ⟨rfl, h0⟩ | ⟨g, cap, cur, rfl, hb, hg, hc, hm, hs, ht⟩
  · omega
  · exact ⟨g, cap, rfl, hb, lt_of_block hg, hc, hm⟩
theorem OwnK.block {w : World} {B g n c : Nat} {L : List α} (h : OwnK E w B (.slice (some ⟨g, 0, none⟩) n c) L) : n = L.length ∧ B ≤ g ∧ n ≤ c ∧ c ≤ maxLen ∧ ∃ cur, w.heap[g]? = some (.cells cur E.ty (0, 0)) ∧ cur.size = c * E.K ∧ cur.toList.take (L.length * E.K) = E.all L := by
  rcases h.2 with ⟨hv, _⟩ | ⟨g2, c2, cur, hv, hb, hg, hc, hm, hs, ht⟩
  · cases hv
  · simp at hv
    obtain ⟨rfl, rfl, rfl⟩ := hv
    exact ⟨rfl, hb, hc, hm, cur, hg, hs, ht⟩
theorem OwnK.frozen {w : World} {B g c n : Nat} {L : List α} (h : OwnK E w B (.slice (some ⟨g, 0, none⟩) n c) L) (i : Nat) : w.frozen? ⟨g, i, none⟩ = false := by
  obtain ⟨_, _, _, _, cur, hg, _⟩ := h.block
  exact frozen_of_row w g i cur _ hg
theorem OwnK.get {w : World} {B g c n : Nat} {L : List α} (h : OwnK E w B (.slice (some ⟨g, 0, none⟩) n c) L) {i j : Nat} {x : α} {v : Value} (hi : L[i]? = some x) (hv : (E.enc x)[j]? = some v) :
    w.cell? ⟨g, i * E.K + j, none⟩ = some v := by
  obtain ⟨_, _, _, _, cur, hg, hs, ht⟩ := h.block
  have hj : j < E.K := by rw [← E.len x]; exact (List.getElem?_eq_some_iff.1 hv).1
  have h0 := E.all_get L i j x hi hj
  have hil := (List.getElem?_eq_some_iff.1 hi).1
  have hlt : i * E.K + j < L.length * E.K := by
    have := Nat.mul_le_mul_right E.K (Nat.succ_le_of_lt hil)
    rw [Nat.succ_eq_add_one, Nat.add_mul, Nat.one_mul] at this
    omega
  rw [cell_of_row w g _ _ _ _ hg]
  rw [← ht, List.getElem?_take, if_pos hlt, Array.getElem?_toList] at h0
  rw [h0, hv]
theorem OwnK.rd {w : World} {B n c : Nat} {ad : Option Addr} {L : List α} (h : OwnK E w B (.slice ad n c) L) : RdK E w ad L := fun i x hx => by
  have hi := (List.getElem?_eq_some_iff.1 hx).1
  obtain ⟨g, c', hv, _, hg, _⟩ := h.one (by omega)
  simp at hv
  obtain ⟨rfl, rfl, rfl⟩ := hv
  exact ⟨g, 0, rfl, hg, fun j v hv => by rw [Nat.zero_add]; exact h.get hx hv⟩
end
end Go.Proofs.YteccghdegckjhaaGreatDoor

namespace Go.Proofs.YteccghdegckjhaaGreatDoor
open Go.RowKit Go
set_option linter.unusedVariables false

/-- blocks of other types than those of S stay -/
def KeepT (S : List TypeId) (w w' : World) : Prop := w.heap.size ≤ w'.heap.size ∧ ∀ g, g < w.heap.size → w'.heap[g]? = w.heap[g]? ∨ ∃ cur t p, w.heap[g]? = some (.cells cur t p) ∧ t ∈ S
theorem KeepT.refl (S : List TypeId) (w : World) : KeepT S w w := ⟨Nat.le_refl _, fun _ _ => .inl rfl⟩
theorem KeepT.trans {S : List TypeId} {u v w : World} (h : KeepT S u v) (k : KeepT S v w) : KeepT S u w := by
  refine ⟨Nat.le_trans h.1 k.1, fun g hg => ?_⟩
  rcases h.2 g hg with e | e
  · rcases k.2 g (Nat.lt_of_lt_of_le hg h.1) with e2 | ⟨cur, t, p, e2, ht⟩
    · exact .inl (e2.trans e)
    · exact .inr ⟨cur, t, p, e ▸ e2, ht⟩
  · exact .inr e
theorem KeepT.of_below {S : List TypeId} {w w' : World} (h : Below w.heap.size w w') : KeepT S w w' := ⟨h.size, fun g hg => .inl (h.block g hg)⟩
theorem KeepT.mono {S T : List TypeId} {w w' : World} (h : KeepT S w w') (hs : ∀ t ∈ S, t ∈ T) : KeepT T w w' :=
  ⟨h.1, fun g hg => (h.2 g hg).imp id fun ⟨cur, t, p, e, ht⟩ => ⟨cur, t, p, e, hs t ht⟩⟩
section
variable {α : Type} {E : Lay α}
/-- a row that can be read, in a block of its elements' type -/
structure RdT (E : Lay α) (w : World) (ad : Option Addr) (L : List α) : Prop where
  rd : RdK E w ad L
  ty : ∀ a, ad = some a → ∃ cur p, w.heap[a.block]? = some (.cells cur E.ty p)
theorem RdT.nil (w : World) : RdT E w none [] := ⟨RdK.nil _ _, fun a h => by cases h⟩
theorem RdT.keep {S : List TypeId} {w w' : World} {ad : Option Addr} {L : List α} (h : RdT E w ad L) (k : KeepT S w w') (hS : E.ty ∉ S) : RdT E w' ad L := by
  have key : ∀ a, ad = some a → w'.heap[a.block]? = w.heap[a.block]? := fun a ha => by
    obtain ⟨cur, p, hb⟩ := h.ty a ha
    have hlt : a.block < w.heap.size := by
      rcases Nat.lt_or_ge a.block w.heap.size with h1 | h1
      · exact h1
      · rw [Array.getElem?_eq_none h1] at hb; cases hb
    rcases k.2 a.block hlt with e | ⟨cur2, t, p2, e, ht⟩
    · exact e
    · rw [hb] at e
      injection e with e
      injection e with _ e _
      exact absurd (e ▸ ht) hS
  refine ⟨fun i x hx => ?_, fun a ha => ?_⟩
  · obtain ⟨g, o, e, hg, hc⟩ := h.rd i x hx
    have hk := key _ e
    exact ⟨g, o, e, Nat.lt_of_lt_of_le hg k.1, fun j v hv => (World.cell?_of_block (w := w) (a := ⟨g, o + (i * E.K + j), none⟩) hk).trans (hc j v hv)⟩
  · obtain ⟨cur, p, hb⟩ := h.ty a ha
    exact ⟨cur, p, (key a ha).trans hb⟩
theorem RdT.below {w w' : World} {ad : Option Addr} {L : List α} (h : RdT E w ad L) (hb : Below w.heap.size w w') : RdT E w' ad L := h.keep (S := []) (KeepT.of_below hb) (by simp)
end
end Go.Proofs.YteccghdegckjhaaGreatDoor

namespace Go.Proofs.YteccghdegckjhaaGreatDoor
open Go.RowKit Go
set_option linter.unusedVariables false
theorem KeepT.alloc {S : List TypeId} {u w : World} (h : KeepT S u w) (o : Obj) : KeepT S u (w.alloc o) := h.trans (KeepT.of_below (below_alloc (Below.refl _ _) _))
theorem RdInts.grown {w w' : World} {b g o n : Nat} {zs : List Int} (h : RdInts w g o n zs) (hg : w.grownBy w' (some b)) (hne : g ≠ b) : RdInts w' g o n zs :=
  ⟨h.1, Nat.lt_of_lt_of_le h.2.1 hg.size, fun i hi => (World.cell?_of_block (w := w) (hg.block g h.2.1 (fun e => hne (Option.some.inj e)))).trans (h.2.2 i hi)⟩
end Go.Proofs.YteccghdegckjhaaGreatDoor

namespace Go.Proofs.YteccghdegckjhaaGreatDoor
open Go.RowKit Go
set_option linter.unusedVariables false
end Go.Proofs.YteccghdegckjhaaGreatDoor

namespace Go.Proofs.YteccghdegckjhaaGreatDoor
open Go.RowKit
set_option linter.unusedVariables false
end Go.Proofs.YteccghdegckjhaaGreatDoor

namespace Go.Proofs.YteccghdegckjhaaGreatDoor
open Go.RowKit
set_option linter.unusedVariables false

/-- a slice of bytes that can be read -/
structure RdB (w : World) (ad : Option Addr) (bs : List UInt8) : Prop where
  small : bs.length ≤ 140737488351232
  cell : ∀ i, i < bs.length → ∃ g o, ad = some ⟨g, o, none⟩ ∧ g < w.heap.size ∧ w.cell? ⟨g, o + i, none⟩ = some (.int .u8 ((bs.getD i 0).toNat : Int))

end Go.Proofs.YteccghdegckjhaaGreatDoor

namespace Go.Proofs.YteccghdegckjhaaGreatDoor
open Go.RowKit Go
set_option linter.unusedVariables false
end Go.Proofs.YteccghdegckjhaaGreatDoor
