/-
  span.touches: whether a range that does not begin earlier has addresses in common with another one, or lies next to it.
  Several cells of one element of an own row set, one after the other.
  span.joined: ranges in order, put together where they touch.
  span.Of: the ranges of prefixes, in any order.
  How many blocks a span has at most, plain.
  Spans.Prefixes: the greedy blocks of ranges.
  slices.Equal at rows of prefixes and of ranges.
  addr.set, checkPrefixes, Least of the program.
-/
import Derived.Test.YteccghdegckjhaaGreatDoorTD7
import Derived.Deep.Cut
import Derived.Deep.Light
import Derived.Deep.CutBlock
import Derived.Test.YteccghdegckjhaaGreatDoorTD3
set_option linter.unusedVariables false
namespace Go.Proofs.YteccghdegckjhaaGreatDoor
open Go.RowKit Go
set_option linter.unusedVariables false

/-- a right range -/
structure VR (p : Sp) : Prop where
  a : VN p.1
  b : VN p.2
  s : sixN p.1 = sixN p.2
  le : p.1 ≤ p.2
theorem nm_VN {x : Nat} (h : VN x) : nmN x = x := num_aN h
theorem VR.key {p : Sp} (h : VR p) : keyRg p = p.1 ∧ keyQs p = p.1 := ⟨nm_VN h.a, Nat.mod_eq_of_lt (by have := h.a.lt9; omega)⟩
end Go.Proofs.YteccghdegckjhaaGreatDoor

namespace Go.Proofs.YteccghdegckjhaaGreatDoor
open Go.RowKit Go
set_option linter.unusedVariables false

theorem flat_set (K : Nat) : ∀ (LL : List (List Value)) (i j : Nat) (xs : List Value) (v : Value), (∀ l ∈ LL, l.length = K) → LL[i]? = some xs → j < K → LL.flatten.set (i * K + j) v = (LL.set i (xs.set j v)).flatten
  | [], i, j, xs, v, _, h, _ => by simp at h
  | l :: LL, 0, j, xs, v, hl, h, hj => by
    simp at h
    subst h
    rw [Nat.zero_mul, Nat.zero_add, List.flatten_cons, List.set_append_left _ _ (by rw [hl l (List.mem_cons_self ..)]; exact hj)]
    rfl
  | l :: LL, i + 1, j, xs, v, hl, h, hj => by
    have := flat_set K LL i j xs v (fun l h => hl l (List.mem_cons_of_mem _ h)) (by simpa using h) hj
    have hk := hl l (List.mem_cons_self ..)
    rw [List.flatten_cons, List.set_append_right _ _ (by rw [hk, Nat.add_mul]; omega), hk, show (i + 1) * K + j - K = i * K + j by rw [Nat.add_mul]; omega, this]
    rfl
theorem raw_set {w : World} {B ty K g n c : Nat} {xs : List Value} (h : w.ownsRow B ty K (.slice (some ⟨g, 0, none⟩) n c) n xs) (t : Nat) (v : Value) : (w.setCell ⟨g, t, none⟩ v).ownsRow B ty K (.slice (some ⟨g, 0, none⟩) n c) n (xs.set t v) := by
  rcases h with ⟨hl, ⟨hv, _⟩ | ⟨g2, c2, cur, hv, hb, hg, hc, hm, hs, ht⟩⟩
  · cases hv
  · simp at hv
    obtain ⟨rfl, rfl⟩ := hv
    refine ⟨by rw [List.length_set]; exact hl, .inr ⟨g, c, cur.setIfInBounds t v, rfl, hb, heap_setCell_same w g _ cur _ _ hg, hc, hm, by simpa using hs, ?_⟩⟩
    rw [Array.toList_setIfInBounds, List.take_set, ht]
section
variable {α : Type} {E : Lay α}
theorem Lay.all_flat (E : Lay α) (L : List α) : E.all L = (L.map E.enc).flatten := by simp [Lay.all, List.flatMap]
theorem Lay.all_set3 (E : Lay α) (L : List α) (i j : Nat) (x y : α) (v0 v1 v2 : Value) (hx : L[i]? = some x) (hj : j + 2 < E.K) (hy : E.enc y = (((E.enc x).set j v0).set (j + 1) v1).set (j + 2) v2) :
    (((E.all L).set (i * E.K + j) v0).set (i * E.K + (j + 1)) v1).set (i * E.K + (j + 2)) v2 = E.all (L.set i y) := by
  have hi := (List.getElem?_eq_some_iff.1 hx).1
  have hm : (L.map E.enc)[i]? = some (E.enc x) := by rw [List.getElem?_map, hx]; rfl
  have hk : ∀ l ∈ L.map E.enc, l.length = E.K := fun l hl => by obtain ⟨z, _, rfl⟩ := List.mem_map.1 hl; exact E.len z
  have hks : ∀ (LL : List (List Value)) (z : List Value), (∀ l ∈ LL, l.length = E.K) → z.length = E.K → ∀ l ∈ LL.set i z, l.length = E.K := fun LL z h hz l hl => by
    rcases List.mem_or_eq_of_mem_set hl with h1 | rfl
    · exact h l h1
    · exact hz
  have hg : ∀ (LL : List (List Value)) (z : List Value), i < LL.length → (LL.set i z)[i]? = some z := fun LL z h => by simp [h]
  have hl := E.len x
  rw [E.all_flat, flat_set E.K _ i j _ v0 hk hm (by omega),
    flat_set E.K _ i (j + 1) _ v1 (hks _ _ hk (by simpa using hl)) (hg _ _ (by simpa using hi)) (by omega),
    flat_set E.K _ i (j + 2) _ v2 (hks _ _ (hks _ _ hk (by simpa using hl)) (by simpa using hl)) (hg _ _ (by simpa using hi)) (by omega),
    List.set_set, List.set_set, ← hy, E.all_flat, List.map_set]
theorem OwnK.set3 {w : World} {B g n c : Nat} {L : List α} (h : OwnK E w B (.slice (some ⟨g, 0, none⟩) n c) L) {i j : Nat} {x y : α} (v0 v1 v2 : Value) (hx : L[i]? = some x) (hj : j + 2 < E.K) (hy : E.enc y = (((E.enc x).set j v0).set (j + 1) v1).set (j + 2) v2) :
    OwnK E (((w.setCell ⟨g, i * E.K + j, none⟩ v0).setCell ⟨g, i * E.K + (j + 1), none⟩ v1).setCell ⟨g, i * E.K + (j + 2), none⟩ v2) B (.slice (some ⟨g, 0, none⟩) n c) (L.set i y) := by
  obtain ⟨rfl, _⟩ := h.block
  have := raw_set (raw_set (raw_set h (i * E.K + j) v0) (i * E.K + (j + 1)) v1) (i * E.K + (j + 2)) v2
  rw [E.all_set3 L i j x y v0 v1 v2 hx hj hy] at this
  show World.ownsRow _ _ _ _ _ _ _
  rw [List.length_set]
  exact this
end
end Go.Proofs.YteccghdegckjhaaGreatDoor

namespace Go.Proofs.YteccghdegckjhaaGreatDoor
open Go.RowKit Go
set_option linter.unusedVariables false
end Go.Proofs.YteccghdegckjhaaGreatDoor

namespace Go.Proofs.YteccghdegckjhaaGreatDoor
open Go.RowKit Go
set_option linter.unusedVariables false

/-- a prefix without a fault -/
structure OkPf (p : Pf) : Prop where
  nn : p.2.2.2 = (p.2.2.2.toNat : Int)
  ok : POK p.1 p.2.1 p.2.2.1 p.2.2.2.toNat
def nuP (p : Pf) : Nat := numA p.1 p.2.1 p.2.2.1
/-- the range of a prefix -/
def spP (p : Pf) : Sp := (nuP p, fil (nuP p) (LN (nuP p) - p.2.2.2.toNat))
theorem okPf_of {p : Pf} (h : pFault p.1 p.2.1 p.2.2.1 p.2.2.2 = 0) (h1 : U64N p.2.1) (h2 : U64N p.2.2.1) : OkPf p := by
  obtain ⟨n, hn, hl⟩ := pFault_nat h
  have e : p.2.2.2.toNat = n := by rw [hn]; exact Int.toNat_natCast n
  refine ⟨by rw [e]; exact hn, ?_⟩
  rw [e]
  rw [hn] at h
  exact pFault_pok h h1 h2
theorem OkPf.num {p : Pf} (h : OkPf p) : VN (nuP p) ∧ sixN (nuP p) = p.1 ∧ hiN (nuP p) = p.2.1 ∧ loN (nuP p) = p.2.2.1 := aN_num h.ok.1
theorem OkPf.bits {p : Pf} (h : OkPf p) : p.2.2.2.toNat ≤ LN (nuP p) := by
  rw [LN_six, h.num.2.1]
  exact h.ok.2.1
theorem OkPf.cells {p : Pf} (h : OkPf p) : pfC p = (pN (nuP p) (p.2.2.2.toNat : Int)).toList := by
  obtain ⟨_, a, b, c⟩ := h.num
  unfold pN pfC
  rw [a, b, c, ← h.nn]
theorem OkPf.clr {p : Pf} (h : OkPf p) : clr (nuP p) (LN (nuP p) - p.2.2.2.toNat) = nuP p := by
  have e := mask_num (n := p.2.2.2.toNat) h.ok.1
  rw [h.ok.2.2.1, h.ok.2.2.2] at e
  rw [LN_six, h.num.2.1]
  exact e.symm
theorem RdK.pf {w : World} {ad : Option Addr} {L : List Pf} (h : RdK layPf w ad L) {k : Nat} {p : Pf} (hp : L[k]? = some p) {a1 : Bool} {a2 a3 : Nat} {a4 : Int} (hc : pfC p = [.bool a1, .int .u64 (a2 : Int), .int .u64 (a3 : Int), .int .i64 a4]) :
    ∃ g o, ad = some ⟨g, o, none⟩ ∧ g < w.heap.size ∧ w.cell? ⟨g, o + k * 4, none⟩ = some (.bool a1) ∧ w.cell? ⟨g, o + k * 4 + 1, none⟩ = some (.int .u64 (a2 : Int)) ∧ w.cell? ⟨g, o + k * 4 + 2, none⟩ = some (.int .u64 (a3 : Int)) ∧ w.cell? ⟨g, o + k * 4 + 3, none⟩ = some (.int .i64 a4) := by
  obtain ⟨g, o, e, hg, h0⟩ := h k p hp
  have hE : layPf.enc p = pfC p := rfl
  have hK : layPf.K = 4 := rfl
  rw [hE, hc, hK] at h0
  exact ⟨g, o, e, hg, h0 0 _ rfl, h0 1 _ rfl, h0 2 _ rfl, h0 3 _ rfl⟩
theorem pf_cells {p : Pf} (h : OkPf p) : ∃ (a1 : Bool) (a2 a3 : Nat) (a4 : Nat), pfC p = [.bool a1, .int .u64 (a2 : Int), .int .u64 (a3 : Int), .int .i64 (a4 : Int)] ∧ pN (nuP p) (p.2.2.2.toNat : Int) = #[.bool a1, .int .u64 (a2 : Int), .int .u64 (a3 : Int), .int .i64 (a4 : Int)] ∧ aN (nuP p) = #[.bool a1, .int .u64 (a2 : Int), .int .u64 (a3 : Int)] :=
  ⟨_, _, _, _, h.cells, rfl, rfl⟩
end Go.Proofs.YteccghdegckjhaaGreatDoor

namespace Go.Proofs.YteccghdegckjhaaGreatDoor
open Go
set_option linter.unusedVariables false
end Go.Proofs.YteccghdegckjhaaGreatDoor

namespace Go.Proofs.YteccghdegckjhaaGreatDoor
open Go.RowKit Go
set_option linter.unusedVariables false
theorem own_far {w : World} {base : Nat} {e : TypeId} {size : Nat} {v : Value} {n : Nat} {xs : List Value} {b : Nat} {t : TypeId} {cs : Array Value} (h : w.ownsRow base e size v n xs) (hb : Blk w b t cs) (hne : e ≠ t) (i : Nat) (u : Value) : (w.setCell ⟨b, i, none⟩ u).ownsRow base e size v n xs := by
  rcases h with ⟨hl, hv | ⟨g, c, cur, rfl, hbase, hg, hc, hm, hs, ht⟩⟩
  · exact ⟨hl, .inl hv⟩
  · refine ⟨hl, .inr ⟨g, c, cur, rfl, hbase, ?_, hc, hm, hs, ht⟩⟩
    rw [Below.heap_setCell w ⟨b, i, none⟩ u g (by
      rintro rfl
      unfold Blk at hb
      rw [hg] at hb
      injection hb with hb
      injection hb with _ hb
      exact hne hb)]
    exact hg
theorem OwnK.far {α : Type} {E : Lay α} {w : World} {B : Nat} {v : Value} {L : List α} {b : Nat} {t : TypeId} {cs : Array Value} (h : OwnK E w B v L) (hb : Blk w b t cs) (hne : E.ty ≠ t) (i : Nat) (u : Value) : OwnK E (w.setCell ⟨b, i, none⟩ u) B v L := own_far h hb hne i u
theorem Blk.grew {w w' : World} {b : Nat} {t : TypeId} {cs : Array Value} {base : Nat} {e : TypeId} {size : Nat} {v v' : Value} {n : Nat} {xs : List Value} (hb : Blk w b t cs) (h : w.ownsRow base e size v n xs) (hne : e ≠ t) (hG : Grew w w' v v') : Blk w' b t cs := by
  refine (hG.g.block b hb.lt ?_).trans hb
  rcases h with ⟨hl, ⟨rfl, _⟩ | ⟨g, c, cur, rfl, hbase, hg, hc, hm, hs, ht⟩⟩
  · simp [Value.ownBlock]
  · intro he
    have : b = g := by simpa [Value.ownBlock] using he
    subst this
    unfold Blk at hb
    rw [hg] at hb
    injection hb with hb
    injection hb with _ hb
    exact hne hb
end Go.Proofs.YteccghdegckjhaaGreatDoor

namespace Go.Proofs.YteccghdegckjhaaGreatDoor
open Go.RowKit Go
set_option linter.unusedVariables false
end Go.Proofs.YteccghdegckjhaaGreatDoor

namespace Go.Proofs.YteccghdegckjhaaGreatDoor
open Go.RowKit Go
set_option linter.unusedVariables false

/-- the first number of n that is not 0 -/
def firstN (f : Nat → Int) (n : Nat) : Int := (((List.range n).map f).find? (· != 0)).getD 0
theorem firstN_hit (f : Nat → Int) : ∀ (n k : Nat), k < n → (∀ j, j < k → f j = 0) → f k ≠ 0 → firstN f n = f k := by
  intro n
  induction n with
  | zero => intro k hk; omega
  | succ n ih =>
    intro k hk h0 hne
    unfold firstN at ih ⊢
    rw [List.range_succ, List.map_append, List.find?_append]
    rcases Nat.lt_or_ge k n with hlt | hge
    · have := ih k hlt h0 hne
      cases hf : ((List.range n).map f).find? (· != 0) with
      | none => rw [hf] at this; exact absurd this.symm hne
      | some x => rw [hf] at this; simpa using this
    · obtain rfl : k = n := by omega
      have hf : ((List.range k).map f).find? (· != 0) = none := by
        rw [List.find?_eq_none]
        intro x hx
        obtain ⟨j, hj, rfl⟩ := List.mem_map.1 hx
        simp [h0 j (List.mem_range.1 hj)]
      rw [hf]
      simp [hne]
theorem firstN_none (f : Nat → Int) (n : Nat) (h0 : ∀ j, j < n → f j = 0) : firstN f n = 0 := by
  unfold firstN
  have hf : ((List.range n).map f).find? (· != 0) = none := by
    rw [List.find?_eq_none]
    intro x hx
    obtain ⟨j, hj, rfl⟩ := List.mem_map.1 hx
    simp [h0 j (List.mem_range.1 hj)]
  rw [hf]
  rfl
theorem firstN_zero {f : Nat → Int} {n : Nat} (h : firstN f n = 0) : ∀ j, j < n → f j = 0 := by
  intro j
  induction j using Nat.strongRecOn with
  | _ j ih =>
    intro hj
    rcases Classical.em (f j = 0) with h0 | h0
    · exact h0
    · rw [firstN_hit f n j hj (fun i hi => ih i hi (by omega)) h0] at h
      exact absurd h h0
def pfF (p : Pf) : Int := pFault p.1 p.2.1 p.2.2.1 p.2.2.2
def zPf : Pf := (false, 0, 0, 0)
end Go.Proofs.YteccghdegckjhaaGreatDoor
