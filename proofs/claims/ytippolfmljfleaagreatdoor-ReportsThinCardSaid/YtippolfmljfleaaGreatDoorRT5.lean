/-
  The address behind another one: span.Next.
  Slices that a call owns, and slices that can be read: append, for every element type. Lemmas of this claim's own.
  Rows of structs, whatever their element: how they lie, what a call owns of them, how they are read.
  What stays when blocks of some types alone change: rows that can be read, of a type that is not among them.
  What stays while the stream moves on, and while cells of a block are set.
  The reference's order of addresses; the count of draws never goes down.
  Flows: view.FlowFault and the reference's FlowFault are the same function; Back and BackOf.
  The sum of bytes: filter.Sum and the reference's CheckSumOf are the same function of the bytes.
-/
import Derived.Test.YtippolfmljfleaaGreatDoorRT4
import Derived.Laws.Externs
import Derived.Test.YtippolfmljfleaaGreatDoorRT1
import Derived.Maps.AppendAt
import Derived.Lib.Hide
import Derived.Sort.Grow
set_option linter.unusedVariables false
namespace Go.Proofs.YtippolfmljfleaaGreatDoor
open Go.RowKit Go
set_option linter.unusedVariables false
/-- the cells of a prefix -/
def pN (x : Nat) (n : Int) : Array Value := #[.bool (sixN x), .int .u64 ((hiN x : Nat) : Int), .int .u64 ((loN x : Nat) : Int), .int .i64 n]
end Go.Proofs.YtippolfmljfleaaGreatDoor

namespace Go.Proofs.YtippolfmljfleaaGreatDoor
open Go.RowKit Go
set_option linter.unusedVariables false

/-- the element type's row in the program's table -/
structure EI (P : Program) (t e : TypeId) (size bytes : Nat) : Prop where
  ht : P.underlying t = some (.slice e)
  hi : ∃ i z, P.info? e = some i ∧ i.zero = some z ∧ i.size = size ∧ i.bytes = bytes ∧ z.cells.size = size
  hsz : 0 < size
theorem EI.mk' {P : Program} {t e : TypeId} {size bytes : Nat} {z : Value} (ht : P.underlying t = some (.slice e)) (h : (P.info? e).map (fun i => (i.zero, i.size, i.bytes)) = some (some z, size, bytes)) (hz : z.cells.size = size) (hsz : 0 < size) : EI P t e size bytes := by
  obtain ⟨i, h0, h1, h2, h3⟩ := info_parts h
  exact ⟨ht, ⟨i, z, h0, h1, h2, h3, hz⟩, hsz⟩

/-- m elements that can be read at ad: the cells are 'news' -/
def Src (w : World) (ad : Option Addr) (m size : Nat) (news : List Value) : Prop :=
  news.length = m * size ∧ ∀ j u, news[j]? = some u → ∃ a, ad = some a ∧ a.block < w.heap.size ∧ w.cell? (a.add j) = some u

/-- from w to w' the row of v alone was written, and it stays or lies anew -/
structure Grew (w w' : World) (v v' : Value) : Prop where
  g : w.grownBy w' v.ownBlock
  o : v'.ownBlock = v.ownBlock ∨ ∃ k, v'.ownBlock = some k ∧ w.heap.size ≤ k
theorem Grew.refl (w : World) (v : Value) : Grew w w v v := ⟨World.grownBy.refl w _, .inl rfl⟩
theorem Grew.trans {a b c : World} {u v x : Value} (h : Grew a b u v) (k : Grew b c v x) : Grew a c u x := by
  refine ⟨⟨k.g.os.trans h.g.os, k.g.tape.trans h.g.tape, k.g.output.trans h.g.output, Nat.le_trans h.g.size k.g.size, fun i hi hne => ?_⟩, ?_⟩
  · refine (k.g.block i (Nat.lt_of_lt_of_le hi h.g.size) ?_).trans (h.g.block i hi hne)
    rcases h.o with e | ⟨j, e, hj⟩
    · rw [e]; exact hne
    · rw [e]; intro e2; injection e2 with e2; omega
  · rcases k.o with e | ⟨j, e, hj⟩
    · rcases h.o with e2 | ⟨j, e2, hj⟩
      · exact .inl (e.trans e2)
      · exact .inr ⟨j, e.trans e2, hj⟩
    · exact .inr ⟨j, e, Nat.le_trans h.g.size hj⟩
theorem Grew.alloc {a b : World} {u v : Value} (h : Grew a b u v) (o : Obj) : Grew a (b.alloc o) u v :=
  ⟨h.g.trans (World.grownBy_alloc _ _ _), h.o⟩
theorem Grew.drewN {a b : World} {u v : Value} (h : Grew a b u v) (n : Nat) : Grew a (b.drewN n) u v := ⟨⟨h.g.os, h.g.tape, h.g.output, h.g.size, h.g.block⟩, h.o⟩
/-- nothing below 'base' was written, if the row lies from there on -/
theorem Grew.below {a b : World} {u v : Value} {B : Nat} (h : Grew a b u v) (hB : B ≤ a.heap.size) (hu : ∀ k, u.ownBlock = some k → B ≤ k) : Below B a b :=
  (Below.refl B a).grown h.g hB hu
theorem own_form {w : World} {base : Nat} {e : TypeId} {size : Nat} {v : Value} {n : Nat} {xs : List Value} (h : w.ownsRow base e size v n xs) : ∃ ad c, v = .slice ad n c ∧ Src w ad n size xs ∧ n ≤ c ∧ c ≤ maxLen := by
  rcases h.2 with ⟨rfl, rfl⟩ | ⟨g, cap, cur, rfl, hb, hg, hn, hc, hs, ht⟩
  · have hx : xs = [] := List.eq_nil_of_length_eq_zero (by simpa using h.1)
    subst hx
    exact ⟨none, 0, rfl, ⟨by simp, fun j u hu => by simp at hu⟩, Nat.le_refl _, by unfold maxLen; omega⟩
  · exact ⟨_, cap, rfl, ⟨h.1, fun j u hu => ⟨_, rfl, lt_of_block hg, h.cells (g := g) rfl j u hu⟩⟩, hn, hc⟩
theorem own_base {w : World} {base : Nat} {e : TypeId} {size : Nat} {v : Value} {n : Nat} {xs : List Value} (h : w.ownsRow base e size v n xs) : ∀ k, v.ownBlock = some k → base ≤ k := fun k hk => (h.lt k hk).1
theorem own_lt {w : World} {base : Nat} {e : TypeId} {size : Nat} {v : Value} {n : Nat} {xs : List Value} (h : w.ownsRow base e size v n xs) : ∀ k, v.ownBlock = some k → k < w.heap.size := fun k hk => (h.lt k hk).2
theorem own_weak {w : World} {base base' : Nat} {e : TypeId} {size : Nat} {v : Value} {n : Nat} {xs : List Value} (h : w.ownsRow base e size v n xs) (hb : base' ≤ base) : w.ownsRow base' e size v n xs := by
  refine ⟨h.1, ?_⟩
  rcases h.2 with h2 | ⟨g, cap, cur, hv, hg, r⟩
  · exact .inl h2
  · exact .inr ⟨g, cap, cur, hv, Nat.le_trans hb hg, r⟩
/-- an owned row stays where another world's step leaves its block -/
theorem own_below {w w' : World} {base B : Nat} {e : TypeId} {size : Nat} {v : Value} {n : Nat} {xs : List Value} (h : w.ownsRow base e size v n xs) (hb : Below B w w') (hB : ∀ k, v.ownBlock = some k → k < B) : w'.ownsRow base e size v n xs := by
  refine ⟨h.1, ?_⟩
  rcases h.2 with h2 | ⟨g, cap, cur, rfl, hg, hh, r⟩
  · exact .inl h2
  · exact .inr ⟨g, cap, cur, rfl, hg, (hb.block g (hB g rfl)).trans hh, r⟩
theorem own_later {w w' : World} {base : Nat} {e : TypeId} {size : Nat} {v : Value} {n : Nat} {xs : List Value} (h : w.ownsRow base e size v n xs) (hb : Below w.heap.size w w') : w'.ownsRow base e size v n xs := own_below h hb fun k hk => own_lt h k hk
theorem own_grew {w w' : World} {base : Nat} {e : TypeId} {size : Nat} {v u u' : Value} {n : Nat} {xs : List Value} (h : w.ownsRow base e size v n xs) (hg : Grew w w' u u') (hne : v.ownBlock = none ∨ v.ownBlock ≠ u.ownBlock) : w'.ownsRow base e size v n xs := h.kept hg.g hne
theorem src_later {w w' : World} {ad : Option Addr} {m size : Nat} {news : List Value} (h : Src w ad m size news) (hb : Below w.heap.size w w') : Src w' ad m size news :=
  ⟨h.1, fun j u hu => by
    obtain ⟨a, e, hlt, hc⟩ := h.2 j u hu
    have hlt' : (a.add j).block < w.heap.size := by unfold Addr.add; split <;> exact hlt
    exact ⟨a, e, Nat.lt_of_lt_of_le hlt hb.size, (hb.cell hlt').trans hc⟩⟩
section
variable {P : Program}
theorem run_append_src {t e : TypeId} {size bytes : Nat} (E : EI P t e size bytes) (w : World) (base : Nat) (ty : TypeId) (v : Value) (n : Nat) (xs : List Value) (hown : w.ownsRow base e size v n xs)
    (ad : Option Addr) (m c : Nat) (news : List Value) (hsrc : Src w ad m size news) (h1 : ∀ u ∈ news, u.oneCell' = true)
    (h63 : n + m ≤ maxLen) (hbytes : (n + m) * bytes ≤ 140737488355328) (hbase : base ≤ w.heap.size) :
    ∃ v' w', (Builtin.append_ #[t, t] ty #[v, .slice ad m c]).run P w = .ok v' w' ∧ w'.ownsRow base e size v' (n + m) (xs ++ news) ∧ Grew w w' v v' := by
  obtain ⟨ht, ⟨i, z, hi, hz, hs, hb, hzs⟩, hsz⟩ := E
  cases ad with
  | some a =>
    have hcells : ∀ j u, news[j]? = some u → w.cell? (a.add j) = some u := fun j u hu => by
      obtain ⟨a', e, _, hc⟩ := hsrc.2 j u hu
      injection e with e; subst e; exact hc
    obtain ⟨v', w', hr, h2, h3, _, h5⟩ := run_append_own_at (P := P) w base t ty e i z size bytes ht hi hz hs hb hzs hsz v n xs hown a m c news hsrc.1 hcells h1 h63 hbytes hbase
    exact ⟨v', w', hr, h2, h3, h5.imp id fun h => ⟨_, h, Nat.le_refl _⟩⟩
  | none =>
    have hn : news = [] := by
      cases news with
      | nil => rfl
      | cons x l => obtain ⟨a, e, _⟩ := hsrc.2 0 x rfl; cases e
    subst hn
    have hm : m = 0 := by
      have h0 : m * size = 0 := by have := hsrc.1; simpa using this.symm
      rcases Nat.mul_eq_zero.1 h0 with h | h <;> omega
    subst hm
    have hr : (Builtin.append_ #[t, t] ty #[v, .slice none 0 c]).run P w = .ok v w := by
      rcases hown.2 with ⟨rfl, rfl⟩ | ⟨g, cap, cur, rfl, _, _, hnc, _⟩
      · simp [Builtin.append_, run_underlying ht, sizeOf, typeInfo, hi, Builtin.lenOf, Builtin.firstCells]
      · simp [Builtin.append_, run_underlying ht, sizeOf, typeInfo, hi, Builtin.lenOf, Builtin.firstCells, hnc, storeCells]
    exact ⟨v, w, hr, by simpa using hown, Grew.refl w v⟩

theorem wpList_app {t e : TypeId} {size bytes : Nat} (E : EI P t e size bytes) {w : World} {ops : Array Oper} {rest : List Oper} {o : Oper} {a : Act} {Q : Exit → Act → World → Prop} (hgd : o.guard = none) (s x : Operand)
    (ho : o.op = .call { callee := .builtin .append, args := #[s, x], argTypes := #[t, t] })
    {base : Nat} {v : Value} {n : Nat} {xs : List Value} (hs : a.eval s = v) (hown : w.ownsRow base e size v n xs)
    {ad : Option Addr} {m c : Nat} {news : List Value} (hx : a.eval x = .slice ad m c) (hsrc : Src w ad m size news) (h1 : ∀ u ∈ news, u.oneCell' = true)
    (h63 : n + m ≤ maxLen) (hbytes : (n + m) * bytes ≤ 140737488355328) (hbase : base ≤ w.heap.size)
    (h : ∀ v' w', w'.ownsRow base e size v' (n + m) (xs ++ news) → Grew w w' v v' → wpList P ops Q rest (a.put o.dst v') w') :
    wpList P ops Q (o :: rest) a w := by
  refine wpList_plain hgd fun K hK => ?_
  obtain ⟨v', w', hr, h2, h3⟩ := run_append_src E w base o.type v n xs hown ad m c news hsrc h1 h63 hbytes hbase
  unfold Oper.wp execOp
  simp only [ho, resolve, invoke, builtin, Sem.run_bind, Sem.run_pure, Result.andThen_ok, List.map_toArray, List.map_cons, List.map_nil, hs, hx, hr]
  exact hK _ _ (h v' w' h2 h3)
end
end Go.Proofs.YtippolfmljfleaaGreatDoor

namespace Go.Proofs.YtippolfmljfleaaGreatDoor
open Go.RowKit Go
set_option linter.unusedVariables false

/-- how an element lies in cells -/
structure Lay (α : Type) where
  enc : α → List Value
  K : Nat
  ty : TypeId
  pos : 0 < K
  len : ∀ x, (enc x).length = K
  one : ∀ x, ∀ v ∈ enc x, v.oneCell' = true
section
variable {α : Type} {E : Lay α}
def Lay.all (E : Lay α) (L : List α) : List Value := L.flatMap E.enc
theorem Lay.all_len (E : Lay α) : ∀ L : List α, (E.all L).length = L.length * E.K
  | [] => by simp [Lay.all]
  | x :: L => by
    have := E.all_len L
    simp only [Lay.all, List.flatMap_cons, List.length_append, E.len, List.length_cons] at this ⊢
    rw [Nat.add_mul, this]; omega
theorem Lay.all_append (E : Lay α) (A B : List α) : E.all (A ++ B) = E.all A ++ E.all B := by simp [Lay.all]
theorem Lay.all_one (E : Lay α) (L : List α) : ∀ u ∈ E.all L, u.oneCell' = true := by
  intro u hu
  obtain ⟨x, _, hx⟩ := List.mem_flatMap.1 hu
  exact E.one x u hx
theorem Lay.all_get (E : Lay α) : ∀ (L : List α) (i j : Nat) (x : α), L[i]? = some x → j < E.K → (E.all L)[i * E.K + j]? = (E.enc x)[j]?
  | [], i, j, x, h, _ => by simp at h
  | y :: L, 0, j, x, h, hj => by
    simp at h
    subst h
    rw [Nat.zero_mul, Nat.zero_add]
    show ((E.enc y) ++ E.all L)[j]? = _
    rw [List.getElem?_append_left (by rw [E.len]; exact hj)]
  | y :: L, i + 1, j, x, h, hj => by
    have := E.all_get L i j x (by simpa using h) hj
    show ((E.enc y) ++ E.all L)[(i + 1) * E.K + j]? = _
    rw [List.getElem?_append_right (by rw [E.len, Nat.add_mul]; omega), E.len, show (i + 1) * E.K + j - E.K = i * E.K + j by rw [Nat.add_mul]; omega]
    exact this
theorem Lay.all_cut (E : Lay α) (L : List α) (t : Nat) (h : t < L.length * E.K) : ∃ x, L[t / E.K]? = some x ∧ (E.all L)[t]? = (E.enc x)[t % E.K]? := by
  have hi : t / E.K < L.length := (Nat.div_lt_iff_lt_mul E.pos).2 h
  refine ⟨L[t / E.K], List.getElem?_eq_getElem hi, ?_⟩
  have := E.all_get L (t / E.K) (t % E.K) _ (List.getElem?_eq_getElem hi) (Nat.mod_lt _ E.pos)
  rwa [show t / E.K * E.K + t % E.K = t by rw [Nat.mul_comm]; exact Nat.div_add_mod t E.K] at this
/-- a row that a call owns -/
def OwnK (E : Lay α) (w : World) (base : Nat) (v : Value) (L : List α) : Prop := w.ownsRow base E.ty E.K v L.length (E.all L)
/-- a row that can be read -/
def RdK (E : Lay α) (w : World) (ad : Option Addr) (L : List α) : Prop :=
  ∀ (i : Nat) x, L[i]? = some x → ∃ g o, ad = some ⟨g, o, none⟩ ∧ g < w.heap.size ∧ ∀ j v, (E.enc x)[j]? = some v → w.cell? ⟨g, o + (i * E.K + j), none⟩ = some v
theorem RdK.below {w w' : World} {ad : Option Addr} {L : List α} (h : RdK E w ad L) (hb : Below w.heap.size w w') : RdK E w' ad L := fun i x hx => by
  obtain ⟨g, o, e, hg, hc⟩ := h i x hx
  exact ⟨g, o, e, Nat.lt_of_lt_of_le hg hb.size, fun j v hv => (hb.cell (p := ⟨g, o + (i * E.K + j), none⟩) hg).trans (hc j v hv)⟩
theorem RdK.nil (w : World) (ad : Option Addr) : RdK E w ad [] := fun i x hx => by simp at hx
theorem RdK.none_ {w : World} {L : List α} (h : RdK E w none L) : L = [] := by
  cases L with
  | nil => rfl
  | cons x L => obtain ⟨g, o, e, _⟩ := h 0 x rfl; cases e
theorem OwnK.nil (E : Lay α) (w : World) (base : Nat) : OwnK E w base (.slice none 0 0) [] := World.ownsRow_nil w base _ _
theorem OwnK.weak {w : World} {base base' : Nat} {v : Value} {L : List α} (h : OwnK E w base v L) (hb : base' ≤ base) : OwnK E w base' v L := own_weak h hb
theorem OwnK.later {w w' : World} {base : Nat} {v : Value} {L : List α} (h : OwnK E w base v L) (hb : Below w.heap.size w w') : OwnK E w' base v L := own_later h hb
theorem OwnK.alloc {w : World} {base : Nat} {v : Value} {L : List α} (h : OwnK E w base v L) (o : Obj) : OwnK E (w.alloc o) base v L := h.later (below_alloc (Below.refl _ _) _)
theorem OwnK.gen {w w' : World} {b B m : Nat} {v : Value} {L : List α} (h : OwnK E w B v L) (hg : Gen b w w' m) (hb : b < B) : OwnK E w' B v L :=
  World.ownsRow.kept h hg.g (by
    cases hv : v.ownBlock with
    | none => exact .inl rfl
    | some k => exact .inr (by have := own_base h k hv; simp; omega))
theorem ownK_empty (E : Lay α) (w : World) : OwnK E (w.alloc (.cells #[] E.ty (0, 0))) w.heap.size (.slice (some ⟨w.heap.size, 0, none⟩) 0 0) [] :=
  ⟨by simp [Lay.all], .inr ⟨w.heap.size, 0, #[], rfl, Nat.le_refl _, heap_alloc_new w _, Nat.le_refl _, by unfold maxLen; omega, by simp, by simp [Lay.all]⟩⟩
theorem OwnK.snoc {w : World} {B : Nat} {v : Value} {L : List α} {x : α} (h : w.ownsRow B E.ty E.K v (L.length + 1) (E.all L ++ E.enc x)) : OwnK E w B v (L ++ [x]) := by
  show w.ownsRow _ _ _ _ _ _
  rw [List.length_append, E.all_append]
  simpa [Lay.all] using h
theorem OwnK.app {w : World} {B : Nat} {v : Value} {L M : List α} (h : w.ownsRow B E.ty E.K v (L.length + M.length) (E.all L ++ E.all M)) : OwnK E w B v (L ++ M) := by
  show w.ownsRow _ _ _ _ _ _
  rw [List.length_append, E.all_append]
  exact h
theorem OwnK.form {w : World} {B : Nat} {v : Value} {L : List α} (h : OwnK E w B v L) : ∃ ad c, v = .slice ad L.length c ∧ Src w ad L.length E.K (E.all L) ∧ L.length ≤ c ∧ c ≤ maxLen := own_form h
theorem OwnK.one {w : World} {B : Nat} {v : Value} {L : List α} (h : OwnK E w B v L) (hl : 1 ≤ L.length) :
    ∃ g c, v = .slice (some ⟨g, 0, none⟩) L.length c ∧ B ≤ g ∧ g < w.heap.size ∧ L.length ≤ c ∧ c ≤ maxLen := by
  rcases h.2 with ⟨rfl, h0⟩ | ⟨g, cap, cur, rfl, hb, hg, hc, hm, hs, ht⟩
  · omega
  · exact ⟨g, cap, rfl, hb, lt_of_block hg, hc, hm⟩
theorem OwnK.block {w : World} {B g n c : Nat} {L : List α} (h : OwnK E w B (.slice (some ⟨g, 0, none⟩) n c) L) : n = L.length ∧ B ≤ g ∧ n ≤ c ∧ c ≤ maxLen ∧ ∃ cur, w.heap[g]? = some (.cells cur E.ty (0, 0)) ∧ cur.size = c * E.K ∧ cur.toList.take (L.length * E.K) = E.all L := by
  rcases h.2 with ⟨hv, _⟩ | ⟨g2, c2, cur, hv, hb, hg, hc, hm, hs, ht⟩
  · cases hv
  · simp at hv
    obtain ⟨rfl, rfl, rfl⟩ := hv
    exact ⟨rfl, hb, hc, hm, cur, hg, hs, ht⟩
theorem OwnK.frozen {w : World} {B g c n : Nat} {L : List α} (h : OwnK E w B (.slice (some ⟨g, 0, none⟩) n c) L) (i : Nat) : w.frozen? ⟨g, i, none⟩ = false := by
  obtain ⟨_, _, _, _, cur, hg, _⟩ := h.block
  exact frozen_of_row w g i cur _ hg
theorem OwnK.get {w : World} {B g c n : Nat} {L : List α} (h : OwnK E w B (.slice (some ⟨g, 0, none⟩) n c) L) {i j : Nat} {x : α} {v : Value} (hi : L[i]? = some x) (hv : (E.enc x)[j]? = some v) :
    w.cell? ⟨g, i * E.K + j, none⟩ = some v := by
  obtain ⟨_, _, _, _, cur, hg, hs, ht⟩ := h.block
  have hj : j < E.K := by rw [← E.len x]; exact (List.getElem?_eq_some_iff.1 hv).1
  have h0 := E.all_get L i j x hi hj
  have hil := (List.getElem?_eq_some_iff.1 hi).1
  have hlt : i * E.K + j < L.length * E.K := by
    have := Nat.mul_le_mul_right E.K (Nat.succ_le_of_lt hil)
    rw [Nat.succ_eq_add_one, Nat.add_mul, Nat.one_mul] at this
    omega
  rw [cell_of_row w g _ _ _ _ hg]
  rw [← ht, List.getElem?_take, if_pos hlt, Array.getElem?_toList] at h0
  rw [h0, hv]
theorem OwnK.rd {w : World} {B n c : Nat} {ad : Option Addr} {L : List α} (h : OwnK E w B (.slice ad n c) L) : RdK E w ad L := fun i x hx => by
  have hi := (List.getElem?_eq_some_iff.1 hx).1
  obtain ⟨g, c', hv, _, hg, _⟩ := h.one (by omega)
  simp at hv
  obtain ⟨rfl, rfl, rfl⟩ := hv
  exact ⟨g, 0, rfl, hg, fun j v hv => by rw [Nat.zero_add]; exact h.get hx hv⟩
theorem RdK.src {w : World} {ad : Option Addr} {L : List α} (h : RdK E w ad L) : Src w ad L.length E.K (E.all L) := by
  refine ⟨E.all_len L, fun t u hu => ?_⟩
  have ht : t < L.length * E.K := by
    rw [← E.all_len]; exact (List.getElem?_eq_some_iff.1 hu).1
  obtain ⟨x, hx, e⟩ := E.all_cut L t ht
  obtain ⟨g, o, had, hg, hc⟩ := h _ x hx
  refine ⟨_, had, hg, ?_⟩
  have hadd : (⟨g, o, none⟩ : Addr).add t = ⟨g, o + t, none⟩ := by unfold Addr.add; split <;> simp_all
  rw [hadd]
  have := hc (t % E.K) u (by rw [← e]; exact hu)
  rwa [show t / E.K * E.K + t % E.K = t by rw [Nat.mul_comm]; exact Nat.div_add_mod t E.K] at this
/-- a new block of one element as a source -/
theorem src_new (E : Lay α) (w : World) (x : α) (cs : Array Value) (t : TypeId) (h : cs = (E.enc x).toArray) : Src (w.alloc (.cells cs t)) (some ⟨w.heap.size, 0, none⟩) 1 E.K (E.enc x) := by
  subst h
  refine ⟨by rw [E.len, Nat.one_mul], fun j u hu => ⟨_, rfl, by simp, ?_⟩⟩
  have hadd : (⟨w.heap.size, 0, none⟩ : Addr).add j = ⟨w.heap.size, j, none⟩ := by unfold Addr.add; split <;> simp_all
  rw [hadd, cell_of_row _ w.heap.size j _ _ _ (heap_alloc_new w _)]
  simpa using hu
/-- new cells of one element, stored into an own row -/
theorem Lay.all_set (E : Lay α) : ∀ (L : List α) (i j : Nat) (x y : α) (v : Value), L[i]? = some x → j < E.K → E.enc y = (E.enc x).set j v → (E.all L).set (i * E.K + j) v = E.all (L.set i y)
  | [], i, j, x, y, v, h, _, _ => by simp at h
  | z :: L, 0, j, x, y, v, h, hj, hy => by
    simp at h
    subst h
    rw [Nat.zero_mul, Nat.zero_add]
    show ((E.enc z) ++ E.all L).set j v = _
    rw [List.set_append_left _ _ (by rw [E.len]; exact hj), ← hy]
    rfl
  | z :: L, i + 1, j, x, y, v, h, hj, hy => by
    have := E.all_set L i j x y v (by simpa using h) hj hy
    show ((E.enc z) ++ E.all L).set ((i + 1) * E.K + j) v = _
    rw [List.set_append_right _ _ (by rw [E.len, Nat.add_mul]; omega), E.len, show (i + 1) * E.K + j - E.K = i * E.K + j by rw [Nat.add_mul]; omega, this]
    rfl
theorem OwnK.setTo {w : World} {B g c n : Nat} {L : List α} (h : OwnK E w B (.slice (some ⟨g, 0, none⟩) n c) L) {i j : Nat} {x y : α} {v : Value} (hx : L[i]? = some x) (hj : j < E.K) (hy : E.enc y = (E.enc x).set j v) :
    OwnK E (w.setCell ⟨g, i * E.K + j, none⟩ v) B (.slice (some ⟨g, 0, none⟩) n c) (L.set i y) := by
  obtain ⟨rfl, hb, hc, hm, cur, hg, hs, ht⟩ := h.block
  refine ⟨by rw [E.all_len], .inr ⟨g, c, cur.setIfInBounds (i * E.K + j) v, by simp, hb, heap_setCell_same w g _ cur _ _ hg, by simpa using hc, hm, by simpa using hs, ?_⟩⟩
  rw [Array.toList_setIfInBounds, List.take_set, List.length_set, ht, E.all_set _ _ _ _ _ _ hx hj hy]
end
end Go.Proofs.YtippolfmljfleaaGreatDoor

namespace Go.Proofs.YtippolfmljfleaaGreatDoor
open Go.RowKit Go
set_option linter.unusedVariables false

/-- blocks of other types than those of S stay -/
def KeepT (S : List TypeId) (w w' : World) : Prop := w.heap.size ≤ w'.heap.size ∧ ∀ g, g < w.heap.size → w'.heap[g]? = w.heap[g]? ∨ ∃ cur t p, w.heap[g]? = some (.cells cur t p) ∧ t ∈ S
theorem KeepT.refl (S : List TypeId) (w : World) : KeepT S w w := ⟨Nat.le_refl _, fun _ _ => .inl rfl⟩
theorem KeepT.trans {S : List TypeId} {u v w : World} (h : KeepT S u v) (k : KeepT S v w) : KeepT S u w := by
  refine ⟨Nat.le_trans h.1 k.1, fun g hg => ?_⟩
  rcases h.2 g hg with e | e
  · rcases k.2 g (Nat.lt_of_lt_of_le hg h.1) with e2 | ⟨cur, t, p, e2, ht⟩
    · exact .inl (e2.trans e)
    · exact .inr ⟨cur, t, p, e ▸ e2, ht⟩
  · exact .inr e
theorem KeepT.of_below {S : List TypeId} {w w' : World} (h : Below w.heap.size w w') : KeepT S w w' := ⟨h.size, fun g hg => .inl (h.block g hg)⟩
theorem KeepT.mono {S T : List TypeId} {w w' : World} (h : KeepT S w w') (hs : ∀ t ∈ S, t ∈ T) : KeepT T w w' :=
  ⟨h.1, fun g hg => (h.2 g hg).imp id fun ⟨cur, t, p, e, ht⟩ => ⟨cur, t, p, e, hs t ht⟩⟩
section
variable {α : Type} {E : Lay α}
/-- a row that can be read, in a block of its elements' type -/
structure RdT (E : Lay α) (w : World) (ad : Option Addr) (L : List α) : Prop where
  rd : RdK E w ad L
  ty : ∀ a, ad = some a → ∃ cur p, w.heap[a.block]? = some (.cells cur E.ty p)
theorem RdT.nil (w : World) : RdT E w none [] := ⟨RdK.nil _ _, fun a h => by cases h⟩
theorem RdT.keep {S : List TypeId} {w w' : World} {ad : Option Addr} {L : List α} (h : RdT E w ad L) (k : KeepT S w w') (hS : E.ty ∉ S) : RdT E w' ad L := by
  have key : ∀ a, ad = some a → w'.heap[a.block]? = w.heap[a.block]? := fun a ha => by
    obtain ⟨cur, p, hb⟩ := h.ty a ha
    have hlt : a.block < w.heap.size := by
      rcases Nat.lt_or_ge a.block w.heap.size with h1 | h1
      · exact h1
      · rw [Array.getElem?_eq_none h1] at hb; cases hb
    rcases k.2 a.block hlt with e | ⟨cur2, t, p2, e, ht⟩
    · exact e
    · rw [hb] at e
      injection e with e
      injection e with _ e _
      exact absurd (e ▸ ht) hS
  refine ⟨fun i x hx => ?_, fun a ha => ?_⟩
  · obtain ⟨g, o, e, hg, hc⟩ := h.rd i x hx
    have hk := key _ e
    exact ⟨g, o, e, Nat.lt_of_lt_of_le hg k.1, fun j v hv => (World.cell?_of_block (w := w) (a := ⟨g, o + (i * E.K + j), none⟩) hk).trans (hc j v hv)⟩
  · obtain ⟨cur, p, hb⟩ := h.ty a ha
    exact ⟨cur, p, (key a ha).trans hb⟩
theorem RdT.below {w w' : World} {ad : Option Addr} {L : List α} (h : RdT E w ad L) (hb : Below w.heap.size w w') : RdT E w' ad L := h.keep (S := []) (KeepT.of_below hb) (by simp)
end
end Go.Proofs.YtippolfmljfleaaGreatDoor

namespace Go.Proofs.YtippolfmljfleaaGreatDoor
open Go.RowKit Go
set_option linter.unusedVariables false
theorem KeepT.alloc {S : List TypeId} {u w : World} (h : KeepT S u w) (o : Obj) : KeepT S u (w.alloc o) := h.trans (KeepT.of_below (below_alloc (Below.refl _ _) _))
theorem RdInts.grown {w w' : World} {b g o n : Nat} {zs : List Int} (h : RdInts w g o n zs) (hg : w.grownBy w' (some b)) (hne : g ≠ b) : RdInts w' g o n zs :=
  ⟨h.1, Nat.lt_of_lt_of_le h.2.1 hg.size, fun i hi => (World.cell?_of_block (w := w) (hg.block g h.2.1 (fun e => hne (Option.some.inj e)))).trans (h.2.2 i hi)⟩
end Go.Proofs.YtippolfmljfleaaGreatDoor

namespace Go.Proofs.YtippolfmljfleaaGreatDoor
open Go.RowKit Go
set_option linter.unusedVariables false

set_option maxRecDepth 100000 in
set_option maxHeartbeats 2000000 in
theorem ofD_any (six : Bool) (hi lo : Nat) (w : World) (h1 : hi < 18446744073709551616) (h2 : lo < 18446744073709551616) :
    Calls Tryz.prog 71 #[vA six hi lo] w (RetD (.agg (wCells six hi lo)) w) := by
  have d0 : wrap64 (bits .and .u64 (lo : Int) 65535) = (lo : Int) % 65536 := by rw [u64_and65535]; unfold wrap64; omega
  have d7 : wrap64 (bits .and .u64 (hi : Int) 65535) = (hi : Int) % 65536 := by rw [u64_and65535]; unfold wrap64; omega
  have d1 := dig lo 65536 h2
  have d2 := dig lo 4294967296 h2
  have d3 := dig lo 281474976710656 h2
  have d4 := dig hi 65536 h1
  have d5 := dig hi 4294967296 h1
  have d6 := dig hi 281474976710656 h1
  have hwc : Hid (wCells six hi lo = #[.int .i64 ((lo % 65536 : Nat) : Int), .int .i64 ((lo / 65536 % 65536 : Nat) : Int), .int .i64 ((lo / 4294967296 % 65536 : Nat) : Int), .int .i64 ((lo / 281474976710656 % 65536 : Nat) : Int), .int .i64 ((hi % 65536 : Nat) : Int), .int .i64 ((hi / 65536 % 65536 : Nat) : Int), .int .i64 ((hi / 4294967296 % 65536 : Nat) : Int), .int .i64 ((hi / 281474976710656 % 65536 : Nat) : Int), .int .i64 (if six = true then 1 else 0)]) := Lib.hid rfl
  generalize (lo / 65536 % 65536 : Nat) = r1 at *
  generalize (lo / 4294967296 % 65536 : Nat) = r2 at *
  generalize (lo / 281474976710656 % 65536 : Nat) = r3 at *
  generalize (hi / 65536 % 65536 : Nat) = r4 at *
  generalize (hi / 4294967296 % 65536 : Nat) = r5 at *
  generalize (hi / 281474976710656 % 65536 : Nat) = r6 at *
  generalize wCells six hi lo = wc at *
  have HD := Lib.hid (And.intro d0 (And.intro d1 (And.intro d2 (And.intro d3 (And.intro d7 (And.intro d4 (And.intro d5 d6)))))))
  clear d0 d1 d2 d3 d4 d5 d6 d7
  unfold vA
  go_enter Tryz.func71, Tryz.ntmps71
  go_wp2
  refine wp_loop_rounds 6 ?_
  rw [rounds_succ]
  go_wp2_with (rw [rounds_succ])
  all_goals
    refine bodyPost_ret (v := .agg wc) (by rw [hwc.out]; simp [results, Tryz.results71, go_sem, *]; exact HD.out) rfl ⟨rfl, by repeat (first | exact BelD.refl _ | apply BelD.alloc | apply BelD.drewN | apply BelD.drew)⟩
set_option maxRecDepth 100000 in
set_option maxHeartbeats 1000000 in
theorem orderD_any (s1 : Bool) (h1 l1 : Nat) (s2 : Bool) (h2 l2 : Nat) (w : World) (a1 : U64N h1) (a2 : U64N l1) (a3 : U64N h2) (a4 : U64N l2) :
    Calls Tryz.prog 112 #[.agg #[.bool s1, .int .u64 (h1 : Int), .int .u64 (l1 : Int)], .agg #[.bool s2, .int .u64 (h2 : Int), .int .u64 (l2 : Int)]] w (RetD (.int .i64 (cN (numA s1 h1 l1) (numA s2 h2 l2))) w) := by
  have HP' : Blk ((w.alloc (.cells #[.bool s1, .int .u64 (h1 : Int), .int .u64 (l1 : Int)] 41 (0, 0))).alloc (.cells #[.bool s2, .int .u64 (h2 : Int), .int .u64 (l2 : Int)] 41 (0, 0))) (w.heap.size) 41 #[.bool s1, .int .u64 (h1 : Int), .int .u64 (l1 : Int)] :=
    (Blk.new w 41 #[.bool s1, .int .u64 (h1 : Int), .int .u64 (l1 : Int)]).alloc _
  have HP := Lib.hid HP'
  clear HP'
  have HQ' : Blk ((w.alloc (.cells #[.bool s1, .int .u64 (h1 : Int), .int .u64 (l1 : Int)] 41 (0, 0))).alloc (.cells #[.bool s2, .int .u64 (h2 : Int), .int .u64 (l2 : Int)] 41 (0, 0))) (w.heap.size + 1) 41 #[.bool s2, .int .u64 (h2 : Int), .int .u64 (l2 : Int)] := by
    have this := Blk.new (w.alloc (.cells #[.bool s1, .int .u64 (h1 : Int), .int .u64 (l1 : Int)] 41 (0, 0))) 41 #[.bool s2, .int .u64 (h2 : Int), .int .u64 (l2 : Int)]
    rw [World.size_alloc] at this
    exact this
  have HQ := Lib.hid HQ'
  clear HQ'
  have HB : Hid (BelD w ((w.alloc (.cells #[.bool s1, .int .u64 (h1 : Int), .int .u64 (l1 : Int)] 41 (0, 0))).alloc (.cells #[.bool s2, .int .u64 (h2 : Int), .int .u64 (l2 : Int)] 41 (0, 0)))) := Lib.hid (((BelD.refl _).alloc _).alloc _)
  have HO1 := Lib.hid fun wx => ofD_any s1 h1 l1 wx a1 a2
  have HO2 := Lib.hid fun wx => ofD_any s2 h2 l2 wx a3 a4
  have HC := Lib.hid fun wx => wideCmpD_any (dv s1 (dg h1 l1)) (dv s2 (dg h2 l2)) wx (dv_lt (dg_lt h1 l1)) (dv_lt (dg_lt h2 l2))
  rw [PW_numA _ _ _ a1 a2, PW_numA _ _ _ a3 a4] at HC
  simp only [← wv_wd] at HC
  rw [wCells_wv] at HO1 HO2
  unfold vA at HO1 HO2
  generalize cN (numA s1 h1 l1) (numA s2 h2 l2) = C at *
  generalize wv s1 (dg h1 l1) = V1 at *
  generalize wv s2 (dg h2 l2) = V2 at *
  go_enter Tryz.func112, Tryz.ntmps112
  go_upto_region 1 with fail
  generalize ((w.alloc (.cells #[.bool s1, .int .u64 (h1 : Int), .int .u64 (l1 : Int)] 41 (0, 0))).alloc (.cells #[.bool s2, .int .u64 (h2 : Int), .int .u64 (l2 : Int)] 41 (0, 0))) = w1 at *
  have p0 := HP.out.cell 0
  have p1 := HP.out.cell 1
  have p2 := HP.out.cell 2
  simp at p0 p1 p2
  have q0 := HQ.out.cell 0
  have q1 := HQ.out.cell 1
  have q2 := HQ.out.cell 2
  simp at q0 q1 q2
  have hsz : w.heap.size + 1 < w1.heap.size := HQ.out.lt
  have k1 := fun (m : LaterD w1) => Later.cell (W := w1) ⟨m.1, m.2.b⟩ (i := 0) (Nat.lt_of_succ_lt hsz)
  have k2 := fun (m : LaterD w1) => Later.cell (W := w1) ⟨m.1, m.2.b⟩ (i := 1) (Nat.lt_of_succ_lt hsz)
  have k3 := fun (m : LaterD w1) => Later.cell (W := w1) ⟨m.1, m.2.b⟩ (i := 2) (Nat.lt_of_succ_lt hsz)
  have k4 := fun (m : LaterD w1) => Later.cell (W := w1) ⟨m.1, m.2.b⟩ (i := 0) hsz
  have k5 := fun (m : LaterD w1) => Later.cell (W := w1) ⟨m.1, m.2.b⟩ (i := 1) hsz
  have k6 := fun (m : LaterD w1) => Later.cell (W := w1) ⟨m.1, m.2.b⟩ (i := 2) hsz
  have hO1 := fun m : LaterD w1 => Calls.laterD m (HO1.out m.1)
  have hO2 := fun m : LaterD w1 => Calls.laterD m (HO2.out m.1)
  have hC := fun m : LaterD w1 => Calls.laterD m (HC.out m.1)
  refine wp_region_laterD (by kernel_rfl) (by kernel_rfl) ?_
  repeat (go_big_quiet_step (fail))
  go_big_quiet_step ((go_at_call 71; exact hO1 _))
  repeat (go_big_quiet_step (fail))
  go_big_quiet_step ((go_at_call 71; exact hO2 _))
  repeat (go_big_quiet_step (fail))
  go_big_quiet_step ((go_at_call 150; exact hC _))
  repeat (go_big_quiet_step (fail))
  refine wpQuiet_nil ?_
  rintro w2 ⟨n2, hn2⟩
  have hb : BelD w1 w2 := by rw [hn2]; exact n2.2
  clear hn2 n2 hO1 hO2 hC k1 k2 k3 k4 k5 k6
  have HB2 := Lib.hid (HB.out.trans hb)
  clear hb
  go_wp2_with fail
  go_ret
  exact ⟨rfl, HB2.out⟩
end Go.Proofs.YtippolfmljfleaaGreatDoor

namespace Go.Proofs.YtippolfmljfleaaGreatDoor
open Go.RowKit
set_option linter.unusedVariables false

def badPort (p n : Int) : Bool := outB n 0 65535 || (n != 0 && !hasPorts p)
theorem badPort_yes {p n : Int} (h : hasPorts p = true) : badPort p n = outB n 0 65535 := by simp [badPort, h]
theorem badPort_no {p n : Int} (h : hasPorts p = false) : badPort p n = outB n 0 0 := by
  simp only [badPort, h, outB, Bool.not_false, Bool.and_true]
  rw [Bool.eq_iff_iff]
  simp
  omega
def flowFault (f : FV) : Int :=
  if outB f.p 1 255 = true then 1
  else if aFault f.s1 f.h1 f.l1 ≠ 0 then aFault f.s1 f.h1 f.l1
  else if aFault f.s2 f.h2 f.l2 ≠ 0 then aFault f.s2 f.h2 f.l2
  else if f.s1 ≠ f.s2 then 10
  else if badPort f.p f.fp = true ∨ badPort f.p f.tp = true then 1 else 0

theorem idxA0 (s1 : Bool) (h1 l1 : Int) (s2 : Bool) (h2 l2 : Int) (w : World) : (Instr.index 135 (.agg #[.bool s1, .int .u64 h1, .int .u64 l1, .bool s2, .int .u64 h2, .int .u64 l2]) (.int .i64 0)).run Tryz.prog w = .ok (.agg #[.bool s1, .int .u64 h1, .int .u64 l1]) w := by kernel_rfl
theorem idxA1 (s1 : Bool) (h1 l1 : Int) (s2 : Bool) (h2 l2 : Int) (w : World) : (Instr.index 135 (.agg #[.bool s1, .int .u64 h1, .int .u64 l1, .bool s2, .int .u64 h2, .int .u64 l2]) (.int .i64 1)).run Tryz.prog w = .ok (.agg #[.bool s2, .int .u64 h2, .int .u64 l2]) w := by kernel_rfl
theorem idxI0 (x y : Int) (w : World) : (Instr.index 136 (.agg #[.int .i64 x, .int .i64 y]) (.int .i64 0)).run Tryz.prog w = .ok (.int .i64 x) w := by kernel_rfl
theorem idxI1 (x y : Int) (w : World) : (Instr.index 136 (.agg #[.int .i64 x, .int .i64 y]) (.int .i64 1)).run Tryz.prog w = .ok (.int .i64 y) w := by kernel_rfl

set_option maxRecDepth 100000 in
set_option maxHeartbeats 1000000 in
theorem vFlowFault_any (f : FV) (w : World) (h : f.ok) : Calls Tryz.prog 82 #[.agg f.cells] w (Ret (.int .i64 (flowFault f)) w) := by
  obtain ⟨p, s1, h1, l1, s2, h2, l2, fp, tp⟩ := f
  obtain ⟨hp, b1, b2, b3, b4, hf, ht⟩ := h
  simp only [FV.cells]
  have i0 := idxA0
  have i1 := idxA1
  have j0 := idxI0
  have j1 := idxI1
  have HB := Lib.hid (And.intro b1 (And.intro b2 (And.intro b3 b4)))
  clear b1 b2 b3 b4
  go_enter Tryz.func82, Tryz.ntmps82
  go_wp2_with (go_at_call 42; refine (outside_any _ _ _ _).mono ?_; rintro e w' ⟨rfl, rfl⟩)
  · go_ret
    exact ⟨by simp [flowFault, *], (Below.refl _ _).alloc (Nat.le_refl _) _⟩
  · refine wp_loop_rounds 3 ?_
    rw [rounds_succ]
    go_wp2_with (first | rw [rounds_succ] | (go_at_call 103; refine (checkAddr_any _ _ _ _ (by first | exact HB.out.1 | exact HB.out.2.2.1) (by first | exact HB.out.2.1 | exact HB.out.2.2.2)).mono ?_; rintro e w' ⟨rfl, o, rfl⟩))
    · go_ret; exact ⟨by simp_all [flowFault], by repeat (first | exact Below.refl _ _ | apply below_alloc | apply below_drewN)⟩
    · go_ret; exact ⟨by simp_all [flowFault], by repeat (first | exact Below.refl _ _ | apply below_alloc | apply below_drewN)⟩
    · go_ret; exact ⟨by simp_all [flowFault], by repeat (first | exact Below.refl _ _ | apply below_alloc | apply below_drewN)⟩
    · refine wp_loop_rounds 3 ?_
      rw [rounds_succ]
      go_wp2_with (first | rw [rounds_succ] | (go_at_call 42; refine (outside_any _ _ _ _).mono ?_; rintro e w' ⟨rfl, rfl⟩) | (go_at_call 115; refine (hasPorts_any _ _).mono ?_; rintro e w' ⟨rfl, rfl⟩))
      all_goals (go_ret; refine ⟨?_, by repeat (first | exact Below.refl _ _ | apply below_alloc | apply below_drewN)⟩)
      all_goals (clear i0 i1 j0 j1; simp_all [flowFault, badPort])
set_option maxRecDepth 100000 in
set_option maxHeartbeats 1000000 in
theorem qFlowFault_any (f : FV) (w : World) (h : f.ok) : Calls Tryz.prog 48 #[.agg f.cells] w (Ret (.int .i64 (flowFault f)) w) := by
  obtain ⟨p, s1, h1, l1, s2, h2, l2, fp, tp⟩ := f
  obtain ⟨hp, b1, b2, b3, b4, hf, ht⟩ := h
  simp only [FV.cells]
  have HB := Lib.hid (And.intro b1 (And.intro b2 (And.intro b3 b4)))
  clear b1 b2 b3 b4
  go_enter Tryz.func48, Tryz.ntmps48
  go_wp2_with (go_at_call 47; refine (in_any _ _ _ _).mono ?_; rintro e w' ⟨rfl, rfl⟩)
  · go_ret
    exact ⟨by simp_all [flowFault, inB_out], by repeat (first | exact Below.refl _ _ | apply below_alloc | apply below_drewN)⟩
  · refine wp_loop_rounds 3 ?_
    rw [rounds_succ]
    go_wp2_with (first | rw [rounds_succ] | (go_at_call 68; refine (addrFault_any _ _ _ _ (by first | exact HB.out.1 | exact HB.out.2.2.1) (by first | exact HB.out.2.1 | exact HB.out.2.2.2)).mono ?_; rintro e w' ⟨rfl, o, rfl⟩) | (go_at_call 47; refine (in_any _ _ _ _).mono ?_; rintro e w' ⟨rfl, rfl⟩))
    all_goals (go_ret; refine ⟨?_, by repeat (first | exact Below.refl _ _ | apply below_alloc | apply below_drewN)⟩)
    all_goals clear HB
    all_goals by_cases hP : hasPorts p = true
    all_goals first
      | (have hb := fun n => badPort_yes (n := n) hP; simp_all [flowFault, inB_out, hasPorts]; done)
      | (have hb := fun n => badPort_no (n := n) (Bool.eq_false_iff.2 hP); simp_all [flowFault, inB_out, hasPorts]; done)
end Go.Proofs.YtippolfmljfleaaGreatDoor

namespace Go.Proofs.YtippolfmljfleaaGreatDoor
open Go.RowKit
set_option linter.unusedVariables false

/-- a slice of bytes that can be read -/
structure RdB (w : World) (ad : Option Addr) (bs : List UInt8) : Prop where
  small : bs.length ≤ 140737488351232
  cell : ∀ i, i < bs.length → ∃ g o, ad = some ⟨g, o, none⟩ ∧ g < w.heap.size ∧ w.cell? ⟨g, o + i, none⟩ = some (.int .u8 ((bs.getD i 0).toNat : Int))

end Go.Proofs.YtippolfmljfleaaGreatDoor
