/-
  addr.Least, CheckSet, Ranges of the program.
  Sets as spans of numbers: the spans of their prefixes, gaps, what two have in common, and how many prefixes these need.
  The reference's HasOf: whether an address is in one of some prefixes.
  The fault of a list of reports, in plain words.
  addr.CheckSet of the program.
  addr.Ranges and addr.Span of the program.
  A variable made and filled: alloc and store of a whole value at once, the cells whatever.
  Keys: the program's IsKey, the reference's Key (by strings.Trim): both say keyB.
-/
import Derived.Test.YteccghdegckjhaaGreatDoorTD8
import Derived.Test.YteccghdegckjhaaGreatDoorTD4
import Derived.Test.YteccghdegckjhaaGreatDoorTD7
import Derived.Test.YteccghdegckjhaaGreatDoorTD6
import Derived.Deep.MidRow
import Derived.Deep.WholeRow
import Derived.Great.Walk
import Derived.BigQuiet
import Derived.Great.BuildSlice
import Derived.Great.FillDense
import Derived.Test.YteccghdegckjhaaGreatDoorTD5
set_option linter.unusedVariables false
namespace Go.Proofs.YteccghdegckjhaaGreatDoor
open Go.RowKit Go
set_option linter.unusedVariables false
end Go.Proofs.YteccghdegckjhaaGreatDoor

namespace Go.Proofs.YteccghdegckjhaaGreatDoor
open Go.RowKit Go
set_option linter.unusedVariables false
/-- the spans between those of a list, from a number to the last one -/
def gapsF (top : Nat) : List Sp → Nat → List Sp
  | [], x => if x ≤ top then [(x, top)] else []
  | r :: S, x => (if x < r.1 then [(x, r.1 - 1)] else []) ++ gapsF top S (r.2 + 1)
def fam (six : Bool) (S : List Sp) : List Sp := S.filter fun p => sixN p.1 == six
def loF (six : Bool) : Nat := if six = true then 2 ^ 128 else 0
def topF (six : Bool) : Nat := if six = true then 2 ^ 129 - 1 else 2 ^ 32 - 1
def gapsOf (six : Bool) (S : List Sp) : List Sp := gapsF (topF six) (fam six S) (loF six)
/-- the spans between those of a list, of all addresses -/
def gaps (S : List Sp) : List Sp := gapsOf false S ++ gapsOf true S
/-- what two lists of spans have in common -/
def both : List Sp → List Sp → List Sp
  | [], _ => []
  | _ :: _, [] => []
  | p :: A, q :: B => (if max p.1 q.1 ≤ min p.2 q.2 then [(max p.1 q.1, min p.2 q.2)] else []) ++ if p.2 < q.2 then both A (q :: B) else both (p :: A) B
termination_by A B => A.length + B.length
end Go.Proofs.YteccghdegckjhaaGreatDoor

namespace Go.Proofs.YteccghdegckjhaaGreatDoor
open Go.RowKit Go
set_option linter.unusedVariables false

/-- whether a number is in the range of a prefix -/
def inP (p : Pf) (x : Nat) : Bool := decide ((spP p).1 ≤ x) && decide (x ≤ (spP p).2)
theorem holdsN {p : Pf} {x : Nat} (w : World) (hp : OkPf p) (hx : VN x) : Calls Tryz.prog 62 #[.agg (pfC p).toArray, .agg (aN x)] w (Ret (.bool (inP p x)) w) := by
  have h := holds_any p.1 p.2.1 p.2.2.1 p.2.2.2.toNat (sixN x) (hiN x) (loN x) w hp.ok.1.1 hp.ok.1.2.1 (hiN_u x) (loN_u x) hp.ok.2.1
  have e : holdsB p.1 p.2.1 p.2.2.1 p.2.2.2.toNat (sixN x) (hiN x) (loN x) = inP p x := by
    unfold holdsB inP spP
    rw [num_aN hx, fill_num hp.ok.1, LN_six, hp.num.2.1]
    rfl
  rw [e] at h
  have ec : (pfC p).toArray = #[.bool p.1, .int .u64 ((p.2.1 : Nat) : Int), .int .u64 ((p.2.2.1 : Nat) : Int), .int .i64 ((p.2.2.2.toNat : Nat) : Int)] := by
    unfold pfC
    rw [← hp.nn]
  rw [ec]
  exact h
end Go.Proofs.YteccghdegckjhaaGreatDoor

namespace Go.Proofs.YteccghdegckjhaaGreatDoor
open Go.RowKit Go
set_option linter.unusedVariables false

/-- the bytes of a key -/
def smallC (c : UInt8) : Bool := 97 ≤ c && c ≤ 122
def digitC (c : UInt8) : Bool := 48 ≤ c && c ≤ 57
def keyC (c : UInt8) : Bool := smallC c || digitC c || c == 45 || c == 95
def keyB (l : List UInt8) : Bool := decide (1 ≤ l.length ∧ l.length ≤ 40) && (l.take 1).all smallC && l.all keyC
end Go.Proofs.YteccghdegckjhaaGreatDoor

namespace Go.Proofs.YteccghdegckjhaaGreatDoor
open Go.RowKit Go
set_option linter.unusedVariables false
end Go.Proofs.YteccghdegckjhaaGreatDoor

namespace Go.Proofs.YteccghdegckjhaaGreatDoor
open Go.RowKit Go
set_option linter.unusedVariables false
theorem RdK.one {α : Type} (E : Lay α) (w : World) (x : α) (cs : Array Value) (t : TypeId) (h : cs = (E.enc x).toArray) : RdK E (w.alloc (.cells cs t (0, 0))) (some ⟨w.heap.size, 0, none⟩) [x] := by
  subst h
  intro i y hy
  obtain rfl : i = 0 := by
    rcases i with _ | i
    · rfl
    · simp at hy
  simp at hy
  subst hy
  refine ⟨w.heap.size, 0, rfl, by simp, fun j v hv => ?_⟩
  rw [cell_of_row _ w.heap.size _ _ _ _ (heap_alloc_new w _)]
  simpa using hv
end Go.Proofs.YteccghdegckjhaaGreatDoor

namespace Go.Proofs.YteccghdegckjhaaGreatDoor
open Go.RowKit Go
set_option linter.unusedVariables false

theorem alloc_of {P : Program} {ty : TypeId} {z : Value} (hz : ∀ w, (zeroValue ty).run P w = .ok z w) (w : World) : (Instr.alloc ty true (.tuple #[])).run P w = .ok (.pointer (some ⟨w.heap.size, 0, none⟩)) (w.alloc (.cells z.cells ty (0, 0))) := by
  simp [Instr.alloc, hz, newVar, newRow]
/-- a value that is stored whole into the block made last -/
theorem wpList_store_newb {P : Program} {ops : Array Oper} {rest : List Oper} {op : Oper} {a : Act} {Q : Exit → Act → World → Prop} {w : World} {c c' : Array Value} (hgd : op.guard = none) (ty : TypeId) (x y : Operand) (ho : op.op = .store ty x y)
    (hx : a.eval x = .pointer (some ⟨w.heap.size, 0, none⟩)) (hy : a.eval y = .agg c') (hi : (P.info? ty).map (·.size) = some c'.size) (hs : c.size = c'.size) (h1 : c'.all (·.oneCell') = true)
    (h : wpList P ops Q rest (a.put op.dst undef) (w.alloc (.cells c' ty (0, 0)))) : wpList P ops Q (op :: rest) a (w.alloc (.cells c ty (0, 0))) :=
  wpList_store_row hgd ty x y ho w.heap.size c' hx hy ty c (heap_alloc_last w _) hi hs h1 (by rw [World.setRow_alloc_new]; exact h)
/-- alloc, then store: the block is there with the value's cells -/
theorem wpList_var {P : Program} {ops : Array Oper} {rest : List Oper} {o1 o2 : Oper} {a : Act} {Q : Exit → Act → World → Prop} {w : World} (c' : Array Value) (ty : TypeId) {z : Value} (hz : ∀ w, (zeroValue ty).run P w = .ok z w)
    (h1 : o1.guard = none) (e1 : o1.op = .alloc ty) (h2 : o2.guard = none) (x y : Operand) (e2 : o2.op = .store ty x y) (d : Option Tmp) (hd : o1.dst = d)
    (hx : (a.put d (.pointer (some ⟨w.heap.size, 0, none⟩))).eval x = .pointer (some ⟨w.heap.size, 0, none⟩)) (hy : (a.put d (.pointer (some ⟨w.heap.size, 0, none⟩))).eval y = .agg c')
    (m : Nat) (hi : (P.info? ty).map (·.size) = some m) (hm : c'.size = m) (hs : z.cells.size = m) (hone : c'.all (·.oneCell') = true)
    (h : wpList P ops Q rest ((a.put d (.pointer (some ⟨w.heap.size, 0, none⟩))).put o2.dst undef) (w.alloc (.cells c' ty (0, 0)))) : wpList P ops Q (o1 :: o2 :: rest) a w := by
  subst hd hm
  refine wpList_plain h1 fun K hK => ?_
  unfold Oper.wp execOp
  simp only [e1, Sem.run_bind, alloc_of hz w, Sem.run_pure, Result.andThen_ok]
  exact hK _ _ (wpList_store_newb h2 ty x y e2 hx hy hi hs hone h)
/-- a load of many cells; their number said apart -/
theorem wpList_loadn {P : Program} {ops : Array Oper} {rest : List Oper} {op : Oper} {a : Act} {w : World} {Q : Exit → Act → World → Prop} (hgd : op.guard = none) (ty : TypeId) (x : Operand) (ho : op.op = .load ty x)
    (b o : Nat) (hx : a.eval x = .pointer (some ⟨b, o, none⟩)) (cs : List Value) (d : TypeDesc) (hc : w.rangeAt b o cs)
    (hu : P.underlying ty = some d) (hd : d.isRow = true) (m : Nat) (hi : (P.info? ty).map (·.size) = some m) (hm : cs.length = m)
    (h : wpList P ops Q rest (a.put op.dst (.agg cs.toArray)) w) : wpList P ops Q (op :: rest) a w := by
  subst hm
  exact wpList_load_mid hgd ty x ho b o hx cs d hc hu hd hi h
/-- a row of one element out of a whole value, its cells whatever -/
theorem wpList_build1 {P : Program} {ops : Array Oper} {rest : List Oper} {o : Oper} {a : Act} {w : World} {Q : Exit → Act → World → Prop} (hg : o.guard = none) (t e : TypeId) (x : Operand) (ho : o.op = .buildSlice t 1 #[(0, x)])
    (X : Array Value) (hx : a.eval x = .agg X) (m : Nat) (hu : P.underlying t = some (.slice e)) (hi : (P.info? e).map (fun i => (i.size, i.zero.map (fun z => z.cells.size))) = some (m, some m)) (hX : X.size = m) (hpos : 0 < m) (hsmall : m ≤ 2 ^ 24)
    (h : wpList P ops Q rest (a.put o.dst (.slice (some ⟨w.heap.size, 0, none⟩) 1 1)) (w.alloc (.cells X e (0, 0)))) : wpList P ops Q (o :: rest) a w := by
  cases hie : P.info? e with
  | none => rw [hie] at hi; cases hi
  | some ie =>
    rw [hie] at hi
    simp only [Option.map_some, Option.some.injEq, Prod.mk.injEq] at hi
    obtain ⟨h1, h2⟩ := hi
    cases hz : ie.zero with
    | none => rw [hz] at h2; cases h2
    | some z =>
      rw [hz] at h2
      simp only [Option.map_some, Option.some.injEq] at h2
      have hf := Go.Great.fill_whole (s := m) hpos [Value.agg X] ((Array.range (1 * m)).map (z.cells[· % z.cells.size]!)) (fun v hv => by rw [List.mem_singleton] at hv; subst hv; exact hX) (by simp)
      have e2 : (([Value.agg X] : List Value).flatMap fun v => v.cells.toList).toArray = X := by simp [Value.cells]
      rw [e2] at hf
      refine wpList_buildSlice hg t e 1 #[(0, x)] ho X ie z hu hie hz (by rw [h1]; omega) (by rw [h1]; omega) ?_ h
      rw [h1]
      simpa [hx] using hf
theorem Blk.range {w : World} {B : Nat} {t : TypeId} {X : List Value} (h : Blk w B t X.toArray) : w.rangeAt B 0 X := fun j v hv => by
  rw [Nat.zero_add, h.cell j]
  simpa using hv
theorem range_below {w w' : World} {b o B : Nat} {A : List Value} (h : w.rangeAt b o A) (hb : Below B w w') (hlt : b < B) : w'.rangeAt b o A := fun j v hv => (hb.cell (p := ⟨b, o + j, none⟩) hlt).trans (h j v hv)
/-- a load of many cells in a quiet region -/
theorem wpQuiet_loadn {P : Program} {ops : Array Oper} {C : World → Prop} {Q : Act → Prop} {o : Oper} {rest : List Oper} {a : Act} (hw : Region.wanted o (yielded ops a.tmps) = true) (ty : TypeId) (x : Operand) (ho : o.op = .load ty x) (dst : Option Tmp) (hdst : o.dst = dst)
    (b off : Nat) (hx : a.eval x = .pointer (some ⟨b, off, none⟩)) (X : Array Value) (hc : ∀ w, C w → w.rangeAt b off X.toList) (d : TypeDesc) (hu : P.underlying ty = some d) (hd : d.isRow = true) (m : Nat) (hi : (P.info? ty).map (·.size) = some m) (hm : X.size = m)
    (h : wpQuiet P ops C Q rest (a.put dst (.agg X))) : wpQuiet P ops C Q (o :: rest) a := by
  subst hm hdst
  refine BigFrame.wpQuiet_want hw fun K hK => ⟨.agg X, fun w hwC => ?_, hK _ h⟩
  have := run_loadAt_mid w b off ty X.toList d (hc w hwC) hu hd (by simpa using hi)
  unfold Oper.quietAt execOp
  simp only [ho, hx, Sem.run_bind, this, Result.andThen_ok, Sem.run_pure]
  exact ⟨rfl, rfl⟩
theorem wN_size (x : Nat) : (wN x).size = 9 := rfl
theorem size_wide : (Tryz.prog.info? 71).map (·.size) = some 9 := by kernel_rfl
end Go.Proofs.YteccghdegckjhaaGreatDoor

namespace Go.Proofs.YteccghdegckjhaaGreatDoor
open Go.RowKit Go
set_option linter.unusedVariables false

/-- a list of bytes as a string -/
def strL (L : List UInt8) : ByteArray := ⟨L.toArray⟩
theorem strL_of (s : ByteArray) : strL s.data.toList = s := by
  rcases s with ⟨⟨l⟩⟩
  rfl
theorem strL_size (L : List UInt8) : (strL L).size = L.length := by simp [strL, ByteArray.size]
theorem strL_get (L : List UInt8) (i : Nat) (x : UInt8) (hx : L[i]? = some x) (h : i < (strL L).size) : (strL L)[i]'h = x := by
  obtain ⟨h2, rfl⟩ := List.getElem?_eq_some_iff.1 hx
  rfl
theorem strL_take (L : List UInt8) (n : Nat) : (strL L).extract 0 n = strL (L.take n) := by
  unfold strL
  apply ByteArray.ext
  simp
theorem strL_drop (L : List UInt8) (m : Nat) : (strL L).extract m (strL L).size = strL (L.drop m) := by
  unfold strL
  apply ByteArray.ext
  simp [ByteArray.size]
  exact List.take_of_length_le (by simp)
theorem wrap_i64R (x : Nat) (h : x < 9223372036854775808) : IntKind.i64.wrap (x : Int) = (x : Int) := by
  rw [IntKind.wrap_i64]
  omega
def okAt (i : Nat) (c : UInt8) : Bool := smallC c || (decide (0 < i) && (digitC c || c == 45 || c == 95))
theorem okAt_key {L : List UInt8} (h : ∀ (j : Nat) (c : UInt8), L[j]? = some c → okAt j c = true) : keyB L = decide (1 ≤ L.length ∧ L.length ≤ 40) := by
  have h1 : (L.take 1).all smallC = true := by
    cases L with
    | nil => rfl
    | cons x l =>
      have := h 0 x rfl
      simp [okAt] at this
      simp [this]
  have h2 : L.all keyC = true := by
    rw [List.all_eq_true]
    intro c hc
    obtain ⟨j, hj, rfl⟩ := List.getElem_of_mem hc
    have := h j _ (List.getElem?_eq_getElem hj)
    unfold okAt at this
    unfold keyC
    cases hs : smallC L[j]
    · rw [hs] at this
      simp at this
      simp [this.2]
    · rfl
  unfold keyB
  rw [h1, h2]; simp
theorem okAt_bad {L : List UInt8} {j : Nat} {c : UInt8} (hc : L[j]? = some c) (h : okAt j c = false) : keyB L = false := by
  unfold okAt at h
  have hs : smallC c = false := by cases hs : smallC c <;> simp_all
  have hm : c ∈ L := List.mem_of_getElem? hc
  cases j with
  | zero =>
    cases L with
    | nil => cases hc
    | cons x l =>
      have : x = c := by simpa using hc
      subst this
      unfold keyB
      simp [hs]
  | succ j =>
    have hk : keyC c = false := by
      rw [hs] at h
      simp at h
      unfold keyC
      simp [hs, h]
    have : L.all keyC = false := by
      rw [List.all_eq_false]
      exact ⟨c, hm, by simp [hk]⟩
    unfold keyB
    rw [this]; simp
theorem u8_le (a b : UInt8) : a ≤ b ↔ (a.toNat : Int) ≤ (b.toNat : Int) := by rw [UInt8.le_iff_toNat_le]; omega
theorem okAt_int (i : Nat) (c : UInt8) : okAt i c = (decide ((97 : Int) ≤ (c.toNat : Int) ∧ (c.toNat : Int) ≤ 122) || (decide (0 < i) && (decide ((48 : Int) ≤ (c.toNat : Int) ∧ (c.toNat : Int) ≤ 57) || decide ((c.toNat : Int) = 45) || decide ((c.toNat : Int) = 95)))) := by
  have e1 : smallC c = decide ((97 : Int) ≤ (c.toNat : Int) ∧ (c.toNat : Int) ≤ 122) := by
    unfold smallC
    rw [Bool.eq_iff_iff]; simp [u8_le]
  have e2 : digitC c = decide ((48 : Int) ≤ (c.toNat : Int) ∧ (c.toNat : Int) ≤ 57) := by
    unfold digitC
    rw [Bool.eq_iff_iff]; simp [u8_le]
  have e3 : (c == 45) = decide ((c.toNat : Int) = 45) := by
    rw [Bool.eq_iff_iff]; simp [← UInt8.toNat_inj]; omega
  have e4 : (c == 95) = decide ((c.toNat : Int) = 95) := by
    rw [Bool.eq_iff_iff]; simp [← UInt8.toNat_inj]; omega
  unfold okAt
  rw [e1, e2, e3, e4]
set_option maxRecDepth 100000 in
set_option maxHeartbeats 4000000 in
theorem isKey_any (L : List UInt8) (w : World) (hL : L.length ≤ 1000000) : Calls Tryz.prog 60 #[.string (strL L)] w fun e w' => e = .returned (.bool (keyB L)) ∧ w' = w := by
  obtain ⟨B, hB⟩ : ∃ B, keyB L = B := ⟨_, rfl⟩
  have HBad : Hid (∀ (j : Nat) (c : UInt8), L[j]? = some c → okAt j c = false → B = false) := Lib.hid fun j c h1 h2 => by rw [← hB]; exact okAt_bad h1 h2
  have HKey : Hid ((∀ (j : Nat) (c : UInt8), L[j]? = some c → okAt j c = true) → B = decide (1 ≤ L.length ∧ L.length ≤ 40)) := Lib.hid fun h => by rw [← hB]; exact okAt_key h
  rw [hB]
  clear hB
  have HIx := Lib.hid fun (i : Nat) (x : UInt8) hx h => strL_get L i x hx h
  have hsz := strL_size L
  generalize strL L = S at *
  obtain ⟨n, hn⟩ : ∃ n, L.length = n := ⟨_, rfl⟩
  have Hn := Lib.hid hn
  rw [hn] at hsz hL HKey
  clear hn
  go_enter Tryz.func60, Tryz.ntmps60
  go_wp2_with fail
  go_loop [3, 4] (fun i c => ∃ k : Nat, k ≤ n ∧ i = .int .i64 (k : Int) ∧ Hid (∀ (j : Nat) (c : UInt8), j < k → L[j]? = some c → okAt j c = true)) (fun i _ => n - (intOf i).toNat)
  case atStart => exact ⟨0, Nat.zero_le _, rfl, Lib.hid fun j c hj => absurd hj (Nat.not_lt_zero _)⟩
  case round =>
    obtain ⟨k, hk, rfl, HA⟩ := hrel
    by_cases hlt : k < n
    · obtain ⟨x, hx⟩ : ∃ x, L[k]? = some x := ⟨_, List.getElem?_eq_getElem (by rw [Hn.out]; exact hlt)⟩
      have hix : ∀ h : k < S.size, (((S[k]'h).toNat : Nat) : Int) = (x.toNat : Int) := fun h => by rw [HIx.out k x hx h]
      have HB := Lib.hid (HBad.out k x hx)
      have HN : Hid (okAt k x = true → ∀ (j : Nat) (c : UInt8), j < k + 1 → L[j]? = some c → okAt j c = true) := Lib.hid fun h j c hj hc => by
        rcases Nat.lt_or_ge j k with h1 | h1
        · exact HA.out j c h1 hc
        · obtain rfl : j = k := by omega
          rw [hx] at hc
          injection hc with hc
          rw [← hc]; exact h
      have HO := Lib.hid (okAt_int k x)
      obtain ⟨v, hv⟩ : ∃ v : Int, (x.toNat : Int) = v := ⟨_, rfl⟩
      rw [hv] at hix HO
      clear hx hv HA HBad HKey HIx
      by_cases h1 : 97 ≤ v
      · by_cases h2 : v ≤ 122
        · have HN2 := Lib.hid (HN.out (by rw [HO.out]; simp [h1, h2]))
          clear HN HB HO
          go_wp2_with fail
          exact ⟨⟨k + 1, by omega, by go_num, HN2⟩, by simp [intOf]; omega⟩
        · have HB2 := HB.out (by rw [HO.out]; simp; omega)
          subst HB2
          clear HN HB HO
          have g2 : (v ≤ 122) = False := eq_false h2
          rcases Nat.eq_zero_or_pos k with rfl | h3
          · go_wp2_with fail
            go_ret
            exact ⟨rfl, rfl⟩
          · have h4 : 48 ≤ v := by omega
            have h9 : (0 : Int) < (k : Int) := by omega
            have h5 : (v ≤ 57) = False := eq_false (by omega)
            have h6 : (v == 45) = false := beq_eq_false_iff_ne.2 (by omega)
            have h7 : (v == 95) = false := beq_eq_false_iff_ne.2 (by omega)
            go_wp2_with fail
            go_ret
            exact ⟨rfl, rfl⟩
      · have g1 : (97 ≤ v) = False := eq_false h1
        rcases Nat.eq_zero_or_pos k with rfl | h3
        · have HB2 := HB.out (by rw [HO.out]; simp; omega)
          subst HB2
          clear HN HB HO
          go_wp2_with fail
          go_ret
          exact ⟨rfl, rfl⟩
        · have h9 : (0 : Int) < (k : Int) := by omega
          by_cases h4 : 48 ≤ v ∧ v ≤ 57
          · obtain ⟨h4, h5⟩ := h4
            have HN2 := Lib.hid (HN.out (by rw [HO.out]; simp [h3, h4, h5]))
            clear HN HB HO
            go_wp2_with fail
            exact ⟨⟨k + 1, by omega, by go_num, HN2⟩, by simp [intOf]; omega⟩
          · by_cases h6 : v = 45
            · have HN2 := Lib.hid (HN.out (by rw [HO.out]; simp [h3, h6]))
              clear HN HB HO
              subst h6
              go_wp2_with fail
              exact ⟨⟨k + 1, by omega, by go_num, HN2⟩, by simp [intOf]; omega⟩
            · by_cases h7 : v = 95
              · have HN2 := Lib.hid (HN.out (by rw [HO.out]; simp [h3, h7]))
                clear HN HB HO
                subst h7
                go_wp2_with fail
                exact ⟨⟨k + 1, by omega, by go_num, HN2⟩, by simp [intOf]; omega⟩
              · have HB2 := HB.out (by rw [HO.out]; simp; omega)
                subst HB2
                clear HN HB HO
                have g6 : (v == 45) = false := beq_eq_false_iff_ne.2 h6
                have g7 : (v == 95) = false := beq_eq_false_iff_ne.2 h7
                by_cases h5 : 48 ≤ v
                · have h8 : (v ≤ 57) = False := eq_false (by omega)
                  go_wp2_with fail
                  go_ret
                  exact ⟨rfl, rfl⟩
                · have g5 : (48 ≤ v) = False := eq_false h5
                  go_wp2_with fail
                  go_ret
                  exact ⟨rfl, rfl⟩
    · obtain rfl : k = n := by omega
      have HK2 := (HKey.out fun j c hc => HA.out j c (by have := (List.getElem?_eq_some_iff.1 hc).1; rw [Hn.out] at this; exact this) hc)
      clear HA HKey HBad HIx
      rcases Nat.eq_zero_or_pos k with rfl | h3
      · have e : decide (1 ≤ 0 ∧ 0 ≤ 40) = false := by decide
        rw [e] at HK2
        subst HK2
        have hS : S = ⟨#[]⟩ := by
          rcases S with ⟨⟨l⟩⟩
          cases l with
          | nil => rfl
          | cons a l => simp [ByteArray.size] at hsz
        subst hS
        go_wp2_with fail
        go_ret
        exact ⟨rfl, rfl⟩
      · have hne : (S.toList == []) = false := by
          rw [ByteArray.toList_eq]
          rcases S with ⟨⟨l⟩⟩
          cases l with
          | nil => simp [ByteArray.size] at hsz; omega
          | cons a l => rfl
        by_cases h4 : k ≤ 40
        · have h5 : (k : Int) ≤ 40 := by omega
          have e : decide (1 ≤ k ∧ k ≤ 40) = true := by simp; omega
          rw [e] at HK2
          subst HK2
          go_wp2_with fail
          go_ret
          exact ⟨rfl, rfl⟩
        · have h5 : ((k : Int) ≤ 40) = False := eq_false (by omega)
          have e : decide (1 ≤ k ∧ k ≤ 40) = false := by simp; omega
          rw [e] at HK2
          subst HK2
          go_wp2_with fail
          go_ret
          exact ⟨rfl, rfl⟩
end Go.Proofs.YteccghdegckjhaaGreatDoor
