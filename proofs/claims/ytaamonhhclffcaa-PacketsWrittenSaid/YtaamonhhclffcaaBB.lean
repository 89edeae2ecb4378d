/-
  Bytes in drawn regions: what is known of a value (descriptors), how it stays, what each kind of operation leaves.
-/
import Derived.Test.YtaamonhhclffcaaPkt
import Derived.Test.YtaamonhhclffcaaRegionL
namespace Go.Proofs.Ytaamonhhclffcaa
open Go.RowKit Go
set_option linter.unusedVariables false

/-- a slice of bytes that can be read, below block B -/
def Rb (B : Nat) (w : World) (v : Value) (L : List UInt8) : Prop := ∃ ad c, v = .slice ad L.length c ∧ RdB w ad L ∧ Src w ad L.length 1 (encBs L) ∧ L.length ≤ c ∧ c ≤ maxLen ∧ ∀ a, ad = some a → a.block < B
theorem RdB.below {w w' : World} {ad : Option Addr} {bs : List UInt8} {B : Nat} (h : RdB w ad bs) (hb : Below B w w') (hB : ∀ a, ad = some a → a.block < B) : RdB w' ad bs :=
  ⟨h.small, fun i hi => by
    obtain ⟨g, o, e, hg, hc⟩ := h.cell i hi
    exact ⟨g, o, e, Nat.lt_of_lt_of_le hg hb.size, (hb.cell (p := ⟨g, o + i, none⟩) (hB ⟨g, o, none⟩ e)).trans hc⟩⟩
theorem Src.below {w w' : World} {ad : Option Addr} {m size B : Nat} {news : List Value} (h : Src w ad m size news) (hb : Below B w w') (hB : ∀ a, ad = some a → a.block < B) : Src w' ad m size news :=
  ⟨h.1, fun j u hu => by
    obtain ⟨a, e, hlt, hc⟩ := h.2 j u hu
    have h2 : (a.add j).block = a.block := by unfold Addr.add; split <;> rfl
    exact ⟨a, e, Nat.lt_of_lt_of_le hlt hb.size, (hb.cell (p := a.add j) (by rw [h2]; exact hB a e)).trans hc⟩⟩
theorem Rb.below {w w' : World} {B : Nat} {v : Value} {L : List UInt8} (h : Rb B w v L) (hb : Below B w w') : Rb B w' v L := by
  obtain ⟨ad, c, rfl, h1, h2, h3, h4, h5⟩ := h
  exact ⟨ad, c, rfl, h1.below hb h5, h2.below hb h5, h3, h4, h5⟩
theorem Rb.mono {w : World} {B B' : Nat} {v : Value} {L : List UInt8} (h : Rb B w v L) (hB : B ≤ B') : Rb B' w v L := by
  obtain ⟨ad, c, rfl, h1, h2, h3, h4, h5⟩ := h
  exact ⟨ad, c, rfl, h1, h2, h3, h4, fun a e => Nat.lt_of_lt_of_le (h5 a e) hB⟩
theorem OwnB.rb {w : World} {B : Nat} {v : Value} {L : List UInt8} (h : OwnB w B v L) (hl : L.length ≤ 1000000) : Rb w.heap.size w v L := by
  obtain ⟨ad, c, rfl, hs, h1, h2⟩ := h.src
  refine ⟨ad, c, rfl, rdB_of_src hs (by omega), hs, h1, h2, fun a e => ?_⟩
  subst e
  exact own_lt h a.block rfl
theorem rb_arr {w : World} {g : Nat} {t : TypeId} {L : List UInt8} (h : w.heap[g]? = some (.cells (encBs L).toArray t (0, 0))) (hl : L.length ≤ 1000000) : Rb w.heap.size w (.slice (some ⟨g, 0, none⟩) L.length L.length) L := by
  have hlt := lt_of_block h
  have hs : Src w (some ⟨g, 0, none⟩) L.length 1 (encBs L) := by
    refine ⟨by simp [encBs], fun j u hu => ⟨_, rfl, hlt, ?_⟩⟩
    have hadd : (⟨g, 0, none⟩ : Addr).add j = ⟨g, j, none⟩ := by unfold Addr.add; split <;> simp_all
    rw [hadd, cell_of_row w g j _ _ _ h]
    simpa using hu
  refine ⟨_, _, rfl, rdB_of_src hs (by omega), hs, Nat.le_refl _, by unfold maxLen; omega, fun a e => ?_⟩
  injection e with e; subst e; exact hlt
def RbL (B : Nat) (w : World) : List Value → List (List UInt8) → Prop
  | [], [] => True
  | v :: vs, L :: Ls => Rb B w v L ∧ RbL B w vs Ls
  | _, _ => False
theorem RbL.below {w w' : World} {B : Nat} (hb : Below B w w') : ∀ {vs : List Value} {Ls : List (List UInt8)}, RbL B w vs Ls → RbL B w' vs Ls
  | [], [], _ => trivial
  | v :: vs, L :: Ls, h => ⟨h.1.below hb, RbL.below hb h.2⟩
  | [], _ :: _, h => h.elim
  | _ :: _, [], h => h.elim
theorem RbL.mono {w : World} {B B' : Nat} (hB : B ≤ B') : ∀ {vs : List Value} {Ls : List (List UInt8)}, RbL B w vs Ls → RbL B' w vs Ls
  | [], [], _ => trivial
  | v :: vs, L :: Ls, h => ⟨h.1.mono hB, RbL.mono hB h.2⟩
  | [], _ :: _, h => h.elim
  | _ :: _, [], h => h.elim
theorem RbL.len {w : World} {B : Nat} : ∀ {vs : List Value} {Ls : List (List UInt8)}, RbL B w vs Ls → vs.length = Ls.length
  | [], [], _ => rfl
  | v :: vs, L :: Ls, h => by simp [RbL.len h.2]
  | [], _ :: _, h => h.elim
  | _ :: _, [], h => h.elim
theorem RbL.get {w : World} {B : Nat} : ∀ {vs : List Value} {Ls : List (List UInt8)}, RbL B w vs Ls → ∀ (i : Nat) (v : Value) (L : List UInt8), vs[i]? = some v → Ls[i]? = some L → Rb B w v L
  | [], [], _, i, v, L, h, _ => by simp at h
  | v :: vs, L :: Ls, h, 0, v', L', h1, h2 => by simp at h1 h2; subst h1 h2; exact h.1
  | v :: vs, L :: Ls, h, i + 1, v', L', h1, h2 => RbL.get h.2 i v' L' (by simpa using h1) (by simpa using h2)
  | [], _ :: _, h, _, _, _, _, _ => h.elim
  | _ :: _, [], h, _, _, _, _, _ => h.elim

inductive Ds where
  | val (v : Value)
  | own (k : Nat) (L : List UInt8)
  | rd (L : List UInt8)
  | arr (k : Nat) (L : List UInt8)
  | arrs (k : Nat) (Ls : List (List UInt8))
  | gval (c : Bool) (v : Value)
  | any
/-- B: own rows lie from there on; u: the world at the region's start; v0: the row at its start; kp: short fresh rows stay; P: a block that stays -/
structure RC where
  B : Nat
  u : World
  v0 : Value
  kp : Bool
  P : Nat
structure RC.fine (c : RC) : Prop where
  le : c.B ≤ c.u.heap.size
  lt : c.P < c.u.heap.size
  ne : c.v0.ownBlock ≠ some c.P
def Ds.R (c : RC) : Ds → Value → Nat → World → Prop
  | .val x, v, _, _ => v = x
  | .own k L, v, n, w => k ≤ n ∧ (n ≤ k → OwnB w c.B v L ∧ Grew c.u w c.v0 v)
  | .rd L, v, _, _ => Rb c.B c.u v L
  | .arr k L, v, n, w => ∃ g, v = .slice (some ⟨g, 0, none⟩) L.length L.length ∧ (n ≤ k → w.heap[g]? = some (.cells (encBs L).toArray 5 (0, 0)))
  | .arrs k Ls, v, n, w => ∃ g vs, v = .slice (some ⟨g, 0, none⟩) Ls.length Ls.length ∧ (n ≤ k → w.heap[g]? = some (.cells vs.toArray 43 (0, 0)) ∧ RbL w.heap.size w vs Ls)
  | .gval b x, v, _, _ => (b = true → v = x) ∧ (b = false → v = undef)
  | .any, _, _, _ => True
def Ds.okB (kp : Bool) : Ds → Bool
  | .arr k L => k == 0 || (kp && decide (L.length ≤ 2))
  | .arrs k _ => k == 0
  | _ => true
def RC.C (c : RC) (n : Nat) (w : World) : Prop := Below c.B c.u w ∧ (n = 0 → Below c.u.heap.size c.u w) ∧ w.heap[c.P]? = c.u.heap[c.P]?
def RC.S (c : RC) (n : Nat) (w : World) (n' : Nat) (w' : World) : Prop :=
  n ≤ n' ∧ (n' ≤ n → Below w.heap.size w w') ∧ Below c.B w w' ∧ (c.kp = true → ∀ (g : Nat) (cs : Array Value), cs.size ≤ 2 → w.heap[g]? = some (.cells cs 5 (0, 0)) → w'.heap[g]? = some (.cells cs 5 (0, 0)))
theorem RC.start {c : RC} : c.C 0 c.u.drew := ⟨⟨rfl, rfl, rfl, Nat.le_refl _, fun _ _ => rfl⟩, fun _ => ⟨rfl, rfl, rfl, Nat.le_refl _, fun _ _ => rfl⟩, rfl⟩
theorem RC.start0 {c : RC} : c.C 0 c.u := ⟨⟨rfl, rfl, rfl, Nat.le_refl _, fun _ _ => rfl⟩, fun _ => ⟨rfl, rfl, rfl, Nat.le_refl _, fun _ _ => rfl⟩, rfl⟩
theorem RC.C.size {c : RC} {n : Nat} {w : World} (h : c.C n w) : c.u.heap.size ≤ w.heap.size := h.1.size
theorem RC.S.refl {c : RC} {n : Nat} {w : World} : c.S n w n w := ⟨Nat.le_refl _, fun _ => Below.refl _ _, Below.refl _ _, fun _ _ _ _ h => h⟩
theorem RC.S.later {c : RC} (hB : c.fine) {n : Nat} {w w' : World} (hC : c.C n w) (h : Below w.heap.size w w') : c.S n w n w' :=
  ⟨Nat.le_refl _, fun _ => h, h.mono (Nat.le_trans hB.le hC.size), fun _ g cs _ hg => (h.block g (lt_of_block hg)).trans hg⟩
theorem RC.C.later {c : RC} (hB : c.fine) {n : Nat} {w w' : World} (hC : c.C n w) (h : Below w.heap.size w w') : c.C n w' :=
  ⟨hC.1.trans (h.mono (Nat.le_trans hB.le hC.size)), fun hn => (hC.2.1 hn).trans (h.mono hC.size), (h.block c.P (Nat.lt_of_lt_of_le hB.lt hC.size)).trans hC.2.2⟩
theorem Grew.same {w w' : World} (h : Below w.heap.size w w') (v : Value) : Grew w w' v v := ⟨⟨h.os, h.tape, h.output, h.size, fun i hi _ => h.block i hi⟩, .inl rfl⟩
theorem grew_fresh {u w : World} {v : Value} {ad : Option Addr} (h : Below u.heap.size u w) (hv : ∀ k, v.ownBlock = some k → u.heap.size ≤ k) : Grew u w (.slice none 0 0) v := by
  refine ⟨⟨h.os, h.tape, h.output, h.size, fun i hi _ => h.block i hi⟩, ?_⟩
  cases hb : v.ownBlock with
  | none => exact .inl rfl
  | some k => exact .inr ⟨k, rfl, hv k hb⟩
theorem Ds.keep {c : RC} (hB : c.fine) (d : Ds) (hok : d.okB c.kp = true) {v : Value} {n n' : Nat} {w w' : World} (h : d.R c v n w) (hs : c.S n w n' w') : d.R c v n' w' := by
  obtain ⟨s1, s2, s3, s4⟩ := hs
  cases d with
  | val x => exact h
  | gval b x => exact h
  | any => trivial
  | rd L => exact h
  | own k L =>
    refine ⟨Nat.le_trans h.1 s1, fun hk => ?_⟩
    have hb := s2 (by have := h.1; omega)
    obtain ⟨h1, h2⟩ := h.2 (by omega)
    exact ⟨own_later h1 hb, h2.trans (Grew.same hb v)⟩
  | arr k L =>
    obtain ⟨g, e, h1⟩ := h
    refine ⟨g, e, fun hk => ?_⟩
    have hg := h1 (by omega)
    by_cases hn : n' ≤ n
    · exact ((s2 hn).block g (lt_of_block hg)).trans hg
    · simp only [Ds.okB, Bool.or_eq_true, beq_iff_eq, Bool.and_eq_true, decide_eq_true_eq] at hok
      rcases hok with rfl | ⟨hkp, hl⟩
      · omega
      · exact s4 hkp g _ (by simpa [encBs] using hl) hg
  | arrs k Ls =>
    obtain ⟨g, vs, e, h1⟩ := h
    refine ⟨g, vs, e, fun hk => ?_⟩
    simp only [Ds.okB, beq_iff_eq] at hok
    subst hok
    have hb := s2 (by omega)
    obtain ⟨hg, hR⟩ := h1 (by omega)
    exact ⟨(hb.block g (lt_of_block hg)).trans hg, (hR.below hb).mono hb.size⟩
theorem ds_keep {c : RC} (hB : c.fine) (D : List Ds) (hok : D.all (Ds.okB c.kp) = true) : ∀ (p : Nat) (v : Value) (n : Nat) (w : World) (n' : Nat) (w' : World), (D.getD p .any).R c v n w → c.S n w n' w' → (D.getD p .any).R c v n' w' := by
  intro p v n w n' w' h hs
  refine Ds.keep hB _ ?_ h hs
  rw [List.all_eq_true] at hok
  rw [List.getD_eq_getElem?_getD]
  cases hp : D[p]? with
  | none => rfl
  | some d => exact hok d (List.mem_of_getElem? hp)

/-- one more of the chain has run -/
theorem RC.S.grow {c : RC} (hB : c.fine) {n : Nat} {w w' : World} {v v' : Value} {L : List UInt8} (hC : c.C n w) (hO : OwnB w c.B v L) (hG : Grew w w' v v') (hk : c.kp = false ∨ v.ownBlock = none ∨ 3 ≤ L.length) : c.S n w (n + 1) w' := by
  refine ⟨by omega, fun h => by omega, hG.below (Nat.le_trans hB.le hC.size) (own_base hO), fun hkp g cs hcs hg => ?_⟩
  refine (hG.g.block g (lt_of_block hg) ?_).trans hg
  intro e
  rcases hk with h | h | h
  · rw [hkp] at h; cases h
  · rw [h] at e; cases e
  · rcases hO.2 with ⟨rfl, h0⟩ | ⟨g2, cap, cur, rfl, hb, hg2, hn, hm, hsz, ht⟩
    · cases e
    · obtain rfl : g = g2 := by simpa [Value.ownBlock] using e
      rw [hg] at hg2
      injection hg2 with hg2
      injection hg2 with hg2 _ _
      have h3 := congrArg List.length ht
      subst hg2
      simp [encBs] at h3
      omega
theorem chain_ok {c : RC} (hB : c.fine) {n k : Nat} {w w' : World} {v v' : Value} {L L' : List UInt8} (hC : c.C n w) (hn : n = k) (hO : OwnB w c.B v L) (hGo : Grew c.u w c.v0 v) (hO' : OwnB w' c.B v' L') (hG : Grew w w' v v')
    (hk : c.kp = false ∨ v.ownBlock = none ∨ 3 ≤ L.length) : Ds.R c (.own (k + 1) L') v' (n + 1) w' ∧ c.C (n + 1) w' ∧ c.S n w (n + 1) w' := by
  have hS := RC.S.grow hB hC hO hG hk
  refine ⟨⟨by omega, fun _ => ⟨hO', hGo.trans hG⟩⟩, ⟨hC.1.trans hS.2.2.1, fun h => by omega, ?_⟩, hS⟩
  refine (hG.g.block c.P (Nat.lt_of_lt_of_le hB.lt hC.size) ?_).trans hC.2.2
  intro e
  rcases hGo.o with h1 | ⟨j, h1, h2⟩
  · exact hB.ne (by rw [← h1]; exact e.symm)
  · rw [← e] at h1
    injection h1 with h1
    have := hB.lt
    omega
theorem own0 {c : RC} {n : Nat} {w : World} {L : List UInt8} (hC : c.C n w) (hn : n = 0) (hO : OwnB c.u c.B c.v0 L) : Ds.R c (.own 0 L) c.v0 n w :=
  ⟨by omega, fun _ => ⟨own_later hO (hC.2.1 hn), Grew.same (hC.2.1 hn) _⟩⟩
theorem fresh_ok {c : RC} (hB : c.fine) {n : Nat} {w w' : World} {v' : Value} {L : List UInt8} (hC : c.C n w) (hn : n = 0) (hv : c.v0 = .slice none 0 0) (hO : OwnB w' w.heap.size v' L) (hb : Below w.heap.size w w') :
    Ds.R c (.own 0 L) v' n w' ∧ c.C n w' ∧ c.S n w n w' := by
  have hs := hC.size
  refine ⟨⟨by omega, fun _ => ⟨own_weak hO (by have := hB.le; omega), ?_⟩⟩, hC.later hB hb, RC.S.later hB hC hb⟩
  rw [hv]
  exact grew_fresh (ad := none) ((hC.2.1 hn).trans (hb.mono hs)) fun k hk => Nat.le_trans hs (own_base hO k hk)
theorem put_ob {c : RC} (hB : c.fine) {n k : Nat} {w : World} {v : Value} {L : List UInt8} (hC : c.C n w) (hn : n = k) (hO : OwnB w c.B v L) (hGo : Grew c.u w c.v0 v) (hk : c.kp = false ∨ v.ownBlock = none ∨ 3 ≤ L.length)
    (X m : Nat) (hX : X < 18446744073709551616) (hm : m ≤ 8) (hl : L.length ≤ 1000000) :
    Calls Try.prog 94 #[v, .int .u64 X, .int .i64 m] w fun e w' => ∃ v', e = .returned v' ∧ Ds.R c (.own (k + 1) (L ++ be X m)) v' (n + 1) w' ∧ c.C (n + 1) w' ∧ c.S n w (n + 1) w' := by
  refine (put_any v L c.B X m w hO (Nat.le_trans hB.le hC.size) hX hm hl).mono ?_
  rintro e w' ⟨v', rfl, hO', hG⟩
  exact ⟨v', rfl, chain_ok hB hC hn hO hGo hO' hG hk⟩
theorem app_ob {c : RC} (hB : c.fine) {n k : Nat} {w : World} {v y : Value} {L M : List UInt8} {B' : Nat} {o : Oper} {ρ : Operand → Value} {s x : Operand} (ho : o.op = .call { callee := .builtin .append, args := #[s, x], argTypes := #[43, 43] })
    (hC : c.C n w) (hn : n = k) (hs : ρ s = v) (hO : OwnB w c.B v L) (hGo : Grew c.u w c.v0 v) (hk : c.kp = false ∨ v.ownBlock = none ∨ 3 ≤ L.length) (hx : ρ x = y) (hR : Rb B' w y M) (hl : L.length ≤ 1000000) (hm : M.length ≤ 1000000) :
    Op1 Try.prog o ρ w fun v' w' => Ds.R c (.own (k + 1) (L ++ M)) v' (n + 1) w' ∧ c.C (n + 1) w' ∧ c.S n w (n + 1) w' := by
  obtain ⟨ad, cc, rfl, h1, h2, h3, h4, h5⟩ := hR
  refine Op1.app byteE ho hs hO hx h2 (encBs_one M) (by unfold maxLen; omega) (by omega) (Nat.le_trans hB.le hC.size) ?_
  intro v' w' hO' hG
  refine chain_ok hB hC hn hO hGo ?_ hG hk
  show w'.ownsRow _ _ _ _ _ _
  rw [List.length_append, encBs, List.map_append]
  exact hO'
theorem arr_ok {c : RC} (hB : c.fine) {n k : Nat} {w : World} (L : List UInt8) (hC : c.C n w) (cs : Array Value) (hcs : cs = (encBs L).toArray) (m : Nat) (hm : m = L.length) :
    Ds.R c (.arr k L) (.slice (some ⟨w.heap.size, 0, none⟩) m m) n (w.alloc (.cells cs 5 (0, 0))) ∧ c.C n (w.alloc (.cells cs 5 (0, 0))) ∧ c.S n w n (w.alloc (.cells cs 5 (0, 0))) := by
  subst hcs hm
  have hb : Below w.heap.size w (w.alloc (.cells (encBs L).toArray 5 (0, 0))) := below_alloc (Below.refl _ _) _
  exact ⟨⟨_, rfl, fun _ => heap_alloc_new w _⟩, hC.later hB hb, RC.S.later hB hC hb⟩
theorem arrs_ok {c : RC} (hB : c.fine) {n : Nat} {w : World} (vs : List Value) (Ls : List (List UInt8)) (hC : c.C n w) (hR : RbL w.heap.size w vs Ls) (cs : Array Value) (hcs : cs = vs.toArray) (m : Nat) (hm : m = Ls.length) :
    Ds.R c (.arrs 0 Ls) (.slice (some ⟨w.heap.size, 0, none⟩) m m) n (w.alloc (.cells cs 43 (0, 0))) ∧ c.C n (w.alloc (.cells cs 43 (0, 0))) ∧ c.S n w n (w.alloc (.cells cs 43 (0, 0))) := by
  subst hcs hm
  have hb : Below w.heap.size w (w.alloc (.cells vs.toArray 43 (0, 0))) := below_alloc (Below.refl _ _) _
  exact ⟨⟨_, vs, rfl, fun _ => ⟨heap_alloc_new w _, (hR.below hb).mono hb.size⟩⟩, hC.later hB hb, RC.S.later hB hC hb⟩
/-- a call that leaves a known value and the old world -/
theorem ret_ob {c : RC} (hB : c.fine) {n : Nat} {w : World} {v : Value} {f : FuncId} {args : Array Value} (hC : c.C n w) (h : Calls Try.prog f args w (Ret v w)) :
    Calls Try.prog f args w fun e w' => ∃ v', e = .returned v' ∧ Ds.R c (.val v) v' n w' ∧ c.C n w' ∧ c.S n w n w' := by
  refine h.mono ?_
  rintro e w' ⟨rfl, hb⟩
  exact ⟨v, rfl, rfl, hC.later hB hb, RC.S.later hB hC hb⟩
theorem same_post {P : Program} {f : FuncId} {args : Array Value} {w : World} {v : Value} {q : Value → World → Prop} (h : Calls P f args w fun e w' => e = .returned v ∧ w = w') (hq : q v w) : Calls P f args w fun e w' => ∃ v', e = .returned v' ∧ q v' w' :=
  h.mono fun _ _ ⟨e, e2⟩ => ⟨v, e, e2 ▸ hq⟩
/-- a call that leaves a known value and the very world -/
theorem same_ob {c : RC} {n : Nat} {w : World} {v : Value} {f : FuncId} {args : Array Value} (hC : c.C n w) (h : Calls Try.prog f args w fun e w' => e = .returned v ∧ w = w') :
    Calls Try.prog f args w fun e w' => ∃ v', e = .returned v' ∧ Ds.R c (.val v) v' n w' ∧ c.C n w' ∧ c.S n w n w' := by
  refine h.mono ?_
  rintro e w' ⟨rfl, rfl⟩
  exact ⟨v, rfl, rfl, hC, RC.S.refl⟩
theorem big_ob {c : RC} (hB : c.fine) {n : Nat} {w : World} (hC : c.C n w) (hn : n = 0) (hv : c.v0 = .slice none 0 0) (X m : Nat) (hX : X < 18446744073709551616) (hm : m ≤ 8) :
    Calls Try.prog 68 #[.int .u64 X, .int .i64 m] w fun e w' => ∃ v', e = .returned v' ∧ Ds.R c (.own 0 (be X m)) v' n w' ∧ c.C n w' ∧ c.S n w n w' := by
  refine (big_any X m w hX hm).mono ?_
  rintro e w' ⟨v', rfl, hO, hb⟩
  exact ⟨v', rfl, fresh_ok hB hC hn hv hO hb⟩
theorem Op1.gen {P : Program} {o : Oper} {ρ : Operand → Value} {w : World} {post : Value → World → Prop} (h : ∀ post' : Value → World → Prop, (∀ v w', post v w' → post' v w') → Op1 P o ρ w post') : Op1 P o ρ w post := h post fun _ _ h => h
theorem calls_post {P : Program} {f : FuncId} {args : Array Value} {w : World} {p q : Value → World → Prop} (h : Calls P f args w fun e w' => ∃ v', e = .returned v' ∧ p v' w') (hq : ∀ v w', p v w' → q v w') : Calls P f args w fun e w' => ∃ v', e = .returned v' ∧ q v' w' :=
  h.mono fun _ _ ⟨v', e, h1⟩ => ⟨v', e, hq _ _ h1⟩
theorem Op1.load_row {P : Program} {o : Oper} {ρ : Operand → Value} {w : World} {post : Value → World → Prop} (ty : TypeId) (x : Operand) (ho : o.op = .load ty x)
    (g : Nat) (hx : ρ x = .pointer (some ⟨g, 0, none⟩)) (t : TypeId) (cs : Array Value) (fr : Nat × Nat) (d : TypeDesc) (hg : w.heap[g]? = some (.cells cs t fr))
    (hu : P.underlying ty = some d) (hd : (match d with | .struct _ | .array _ _ => true | _ => false) = true) (hi : (P.info? ty).map (·.size) = some cs.size)
    (h : post (.agg cs) w) : Op1 P o ρ w post := by
  unfold Op1 execOp
  simp only [ho, hx, Instr.loadAt, Instr.sureAddr, Sem.run_bind, Sem.run_pure, Result.andThen_ok, run_loadVar_row w g t ty cs fr d hg hu hd hi]
  exact h
/-- the state of a walk in a function that has its packet in a block -/
structure FS (B : Nat) (w1 : World) (P0 : Nat) (x : PV) (pay : List UInt8) (w : World) : Prop where
  bl : Below B w1 w
  sz : B ≤ w.heap.size
  p : PBlk w P0 x
  lt : P0 < B
  rb : Rb B w x.pay pay
theorem FS.below {B : Nat} {w1 : World} {P0 : Nat} {x : PV} {pay : List UInt8} {w w' : World} (h : FS B w1 P0 x pay w) (hb : Below B w w') : FS B w1 P0 x pay w' :=
  ⟨h.bl.trans hb, Nat.le_trans h.sz hb.size, Blk.below h.p hb h.lt, h.lt, h.rb.below hb⟩
theorem FS.later {B : Nat} {w1 : World} {P0 : Nat} {x : PV} {pay : List UInt8} {w w' : World} (h : FS B w1 P0 x pay w) (hb : Below w.heap.size w w') : FS B w1 P0 x pay w' := h.below (hb.mono h.sz)
theorem FS.start {w : World} {x : PV} {pay : List UInt8} (hr : Rb w.heap.size w x.pay pay) : FS (w.alloc (.cells x.cells 45 (0, 0))).heap.size (w.alloc (.cells x.cells 45 (0, 0))) w.heap.size x pay (w.alloc (.cells x.cells 45 (0, 0))) :=
  ⟨Below.refl _ _, Nat.le_refl _, Blk.new w _ _, by simp, (hr.below (below_alloc (Below.refl _ _) _)).mono (by simp)⟩
theorem FS.fine {B : Nat} {w1 : World} {P0 : Nat} {x : PV} {pay : List UInt8} {w : World} (h : FS B w1 P0 x pay w) {v0 : Value} {kp : Bool} (hv : ∀ k, v0.ownBlock = some k → B ≤ k) : RC.fine ⟨B, w, v0, kp, P0⟩ :=
  ⟨h.sz, Blk.lt h.p, fun e => by have := hv P0 e; have := h.lt; simp only at *; omega⟩
theorem u8_nat (k : Nat) : Value.int .u8 (IntKind.u8.wrap (k : Int)) = encB (UInt8.ofNat k) := by
  unfold encB
  refine congrArg (Value.int .u8) ?_
  rw [UInt8.toNat_ofNat', IntKind.wrap_u8]
  omega
end Go.Proofs.Ytaamonhhclffcaa
