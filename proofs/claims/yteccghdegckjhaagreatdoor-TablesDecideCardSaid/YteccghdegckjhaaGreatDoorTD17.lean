/-
  The stable sort of reports by their order: program and reference (at most twenty).
  What the generator of reports calls: Some, the closure that compares; the state in a round.
  Plain law of tables, continued: what is squeezed out; where two tables differ first.
  wide.plus of the reference, at 1: the next number.
  The reference's wide numbers, said of one number: of, firstOf, lastOf, addr, cmp, ==.
  The contract of slices.SortFunc at a slice of structs over this program, as the kit's lay-plain.mjs prints it. Condition: the slice has no element, or its cells are known, fewer than 2^62 of them.
  The contract of slices.SortFunc at a slice of structs over this program, as the kit's lay-plain.mjs prints it. Condition: the slice has no element, or its cells are known, fewer than 2^62 of them.
  Functions of package slices at a row of structs.
-/
import Derived.Test.YteccghdegckjhaaGreatDoorTD10
import Derived.Test.YteccghdegckjhaaGreatDoorTD13
import Derived.Test.YteccghdegckjhaaGreatDoorTD7
import Derived.Test.YteccghdegckjhaaGreatDoorTD6
import Derived.Test.YteccghdegckjhaaGreatDoorTD3
import Derived.Shelf.SlSortCmp.NoneTotal
import Derived.Test.YteccghdegckjhaaGreatDoorProg
import Derived.Test.YteccghdegckjhaaGreatDoorTD9
import Derived.WalkSpells
set_option linter.unusedVariables false
namespace Go.Proofs.YteccghdegckjhaaGreatDoor
open Go.RowKit Go Go.Sort
set_option linter.unusedVariables false
section
variable {α : Type} [Inhabited α] {E : Lay α}
end
end Go.Proofs.YteccghdegckjhaaGreatDoor

namespace Go.Proofs.YteccghdegckjhaaGreatDoor
open Go.RowKit Go
set_option linter.unusedVariables false

/-- a row of strings that can be read -/
def RdStr (w : World) (g : Nat) (ss : List ByteArray) : Prop := g < w.heap.size ∧ ∀ (i : Nat) s, ss[i]? = some s → w.cell? ⟨g, i, none⟩ = some (.string s)
theorem RdStr.grown {w w' : World} {g b : Nat} {ss : List ByteArray} (h : RdStr w g ss) (hg : w.grownBy w' (some b)) (hne : g ≠ b) : RdStr w' g ss :=
  ⟨Nat.lt_of_lt_of_le h.1 hg.size, fun i s hi => (World.cell?_of_block (hg.block g h.1 (by simpa using hne))).trans (h.2 i s hi)⟩
theorem rdStr_new (w : World) (t : TypeId) (ss : List ByteArray) (vs : Array Value) (hv : vs = (ss.map Value.string).toArray) : RdStr (w.alloc (.cells vs t)) w.heap.size ss := by
  subst hv
  refine ⟨by simp, fun i s hi => ?_⟩
  rw [cell_of_row _ w.heap.size i _ _ _ (heap_alloc_new w _)]
  simp [hi]
set_option maxHeartbeats 1000000 in
theorem some_gen (b m g n : Nat) (ss : List ByteArray) (w : World) (h : Strm w b m) (hm : m < 1099511627776) (hn : ss.length = n) (hn1 : 1 ≤ n ∧ n ≤ 1000) (hs : RdStr w g ss) (hgb : g ≠ b) :
    Calls Tryz.prog 17 #[.pointer (some ⟨b, 0, none⟩), .slice (some ⟨g, 0, none⟩) n n] w fun e w' => ∃ s : ByteArray, e = .returned (.string s) ∧ s ∈ ss ∧ Gen b w w' (m + 1) := by
  have Hs := Lib.hid hs
  have HS := Lib.hid h
  have Hn := Lib.hid hn
  clear hs h hn
  go_enter Tryz.func17, Tryz.ntmps17
  go_wp2_with fail
  refine (next_gen b m _ _ HS.out hm (by omega)).mono ?_
  rintro e w1 ⟨k, rfl, ⟨hk0, hk1⟩, hg⟩
  obtain ⟨j, rfl⟩ := Int.eq_ofNat_of_zero_le hk0
  have hj : j < n := by omega
  obtain ⟨s, hs⟩ : ∃ s, ss[j]? = some s := ⟨_, List.getElem?_eq_getElem (by rw [Hn.out]; exact hj)⟩
  have hc := (Hs.out.grown hg.g hgb).2 j s hs
  have HG := Lib.hid hg
  have hmem := List.mem_of_getElem? hs
  have HM := Lib.hid hmem
  clear hg hs hmem
  have b1 : (0 : Int) ≤ (j : Int) := by omega
  have b2 : (j : Int) < (n : Int) := by omega
  go_wp2_with fail
  go_ret
  exact ⟨s, rfl, HM.out, HG.out⟩
theorem Gen.setCells {b m B : Nat} {u : World} (hB : u.heap.size ≤ B) (hb : b < B) : ∀ (vs : List Value) (o : Nat) (v : World), Gen b u v m → Gen b u (v.setCells B o vs) m
  | [], _, v, h => h
  | x :: l, o, v, h => Gen.setCells hB hb l (o + 1) _ (h.setCell ⟨B, o, none⟩ x hB hb)
theorem Blk.farCells {w : World} {B R : Nat} {t : TypeId} {cs : Array Value} (h : Blk w B t cs) (hne : B ≠ R) (o : Nat) (vs : List Value) : Blk (w.setCells R o vs) B t cs :=
  (heap_setCells_other hne vs o w).trans h
/-- an address that is made of a flow: three cells set one behind the other -/
theorem Blk.set3 {w : World} {B : Nat} {t : TypeId} {x y z x' y' z' : Value} (h : Blk w B t #[x, y, z]) : Blk (((w.setCell ⟨B, 0, none⟩ x').setCell ⟨B, 1, none⟩ y').setCell ⟨B, 2, none⟩ z') B t #[x', y', z'] :=
  Blk.set (Blk.set (Blk.set h 0 x') 1 y') 2 z'
end Go.Proofs.YteccghdegckjhaaGreatDoor

namespace Go.Proofs.YteccghdegckjhaaGreatDoor
open Go.RowKit Go Go.Sort
set_option linter.unusedVariables false

/-- the entries of fewer bits -/
def shT (T : List En) (x : En) : List En := T.filter fun y => decide (y.1.2.2.2 < x.1.2.2.2)
/-- an entry that stays -/
def sqB (T : List En) (x : En) : Bool := decide (lkP (shT T x) (nuP x.1) ≠ x.2)
def sqL (T : List En) : List En := T.filter (sqB T)
def sqStep (x : En) (s : List UInt8 × Int) (y : En) : List UInt8 × Int := if y.1.2.2.2 < x.1.2.2.2 ∧ s.2 < y.1.2.2.2 ∧ inP y.1 (nuP x.1) = true then (y.2, y.1.2.2.2) else s
theorem shT_cons (y : En) (T : List En) (x : En) : shT (y :: T) x = if y.1.2.2.2 < x.1.2.2.2 then y :: shT T x else shT T x := by
  unfold shT
  by_cases h : y.1.2.2.2 < x.1.2.2.2
  · rw [if_pos h, List.filter_cons_of_pos (by simpa using h)]
  · rw [if_neg h, List.filter_cons_of_neg (by simpa using h)]
theorem sq_pass (x : En) (T : List En) : ∀ s, T.foldl (sqStep x) s = (shT T x).foldl (lkStep (nuP x.1)) s := by
  induction T with
  | nil =>
    intro s
    rw [show shT [] x = [] from rfl, List.foldl_nil, List.foldl_nil]
  | cons y T ih =>
    intro s
    rw [List.foldl_cons, ih, shT_cons]
    by_cases h : y.1.2.2.2 < x.1.2.2.2
    · have e : sqStep x s y = lkStep (nuP x.1) s y := by
        unfold sqStep lkStep
        by_cases h2 : s.2 < y.1.2.2.2 ∧ inP y.1 (nuP x.1) = true
        · rw [if_pos ⟨h, h2⟩, if_pos h2]
        · rw [if_neg fun h3 => h2 h3.2, if_neg h2]
      rw [if_pos h, List.foldl_cons, e]
    · have e : sqStep x s y = s := by
        unfold sqStep
        rw [if_neg fun h3 => h h3.1]
      rw [if_neg h, e]
theorem sqB_pass (T : List En) (x : En) : sqB T x = decide ((T.foldl (sqStep x) ([], -1)).1 ≠ x.2) := by
  have e := sq_pass x T ([], -1)
  unfold sqB lkP
  generalize T.foldl (sqStep x) ([], -1) = A at *
  rw [e]
theorem OkT.sh {T : List En} (h : OkT T) (x : En) : OkT (shT T x) := fun e he => h e ((List.mem_filter.1 he).1)
/-- what the reference asks of an entry that goes -/
theorem sqB_ref {T : List En} (h : OkT T) (x : En) (hx : x.2 ≠ []) : sqB T x = match lkQ (shT T x) (nuP x.1) 128 with
    | some e => !decide (e.2 = x.2)
    | none => true := by
  obtain ⟨h1, h2, h3⟩ := lk_same (h.sh x) (nuP x.1)
  unfold sqB
  cases hq : lkQ (shT T x) (nuP x.1) 128 with
  | none =>
    rw [h3 hq]
    simp [Ne.symm hx]
  | some e =>
    rw [(h2 e hq).1]
    simp

/-- where a table can begin to say something else -/
def edE (e : En) : List Nat := nuP e.1 :: (if (spP e.1).2 = topN (nuP e.1) then [] else [(spP e.1).2 + 1])
def edT (T : List En) : List Nat := 0 :: 2 ^ 128 :: T.flatMap edE
def difB (T U : List En) (x : Nat) : Bool := decide (lkP T x ≠ lkP U x)
def difO (T U : List En) : Option Nat := ((edT T ++ edT U).filter (difB T U)).min?
theorem find_least (P : Nat → Bool) (S L : List Nat) (hs : S.Pairwise (· ≤ ·)) (hm : ∀ x, x ∈ S ↔ x ∈ L) : S.find? P = (L.filter P).min? := by
  have key : ∀ (S : List Nat), S.Pairwise (· ≤ ·) → (S.find? P = none ∧ ∀ x ∈ S, P x = false) ∨ (∃ a, S.find? P = some a ∧ a ∈ S ∧ P a = true ∧ ∀ x ∈ S, P x = true → a ≤ x) := by
    intro S
    induction S with
    | nil => intro _; left; exact ⟨rfl, fun x h => by cases h⟩
    | cons b S ih =>
      intro hs
      obtain ⟨h1, h2⟩ := List.pairwise_cons.1 hs
      by_cases hb : P b = true
      · right
        exact ⟨b, List.find?_cons_of_pos hb, List.mem_cons_self .., hb, fun x hx _ => by
          rcases List.mem_cons.1 hx with rfl | hx
          · exact Nat.le_refl _
          · exact h1 x hx⟩
      · rw [List.find?_cons_of_neg hb]
        rcases ih h2 with ⟨e1, e2⟩ | ⟨a, e1, e2, e3, e4⟩
        · left
          refine ⟨e1, fun x hx => ?_⟩
          rcases List.mem_cons.1 hx with rfl | hx
          · exact eq_false_of_ne_true hb
          · exact e2 x hx
        · right
          refine ⟨a, e1, List.mem_cons_of_mem _ e2, e3, fun x hx hp => ?_⟩
          rcases List.mem_cons.1 hx with rfl | hx
          · exact absurd hp hb
          · exact e4 x hx hp
  rcases key S hs with ⟨e1, e2⟩ | ⟨a, e1, e2, e3, e4⟩
  · rw [e1]
    have : L.filter P = [] := by
      rw [List.filter_eq_nil_iff]
      intro x hx
      rw [e2 x ((hm x).2 hx)]
      decide
    rw [this]
    rfl
  · rw [e1]
    symm
    rw [List.min?_eq_some_iff]
    refine ⟨List.mem_filter.2 ⟨(hm a).1 e2, e3⟩, fun b hb => ?_⟩
    obtain ⟨h1, h2⟩ := List.mem_filter.1 hb
    exact e4 b ((hm b).2 h1) h2
end Go.Proofs.YteccghdegckjhaaGreatDoor

namespace Go.Proofs.YteccghdegckjhaaGreatDoor
open Go.RowKit Go
set_option linter.unusedVariables false

/-- what is carried into a digit -/
def carN (x k : Nat) : Nat := (x % 65536 ^ k + 1) / 65536 ^ k
theorem carN_zero (x : Nat) : carN x 0 = 1 := by simp [carN, Nat.mod_one]
theorem carN_le (x k : Nat) : carN x k ≤ 1 := by
  unfold carN
  have hp : 0 < 65536 ^ k := Nat.pow_pos (by decide)
  have h := Nat.mod_lt x hp
  have : (x % 65536 ^ k + 1) / 65536 ^ k ≤ 65536 ^ k / 65536 ^ k := Nat.div_le_div_right (by omega)
  rwa [Nat.div_self hp] at this
theorem carN_dig (x k : Nat) : digN (x + 1) k = (carN x k + digN x k) % 65536 := by
  have hp : 0 < 65536 ^ k := Nat.pow_pos (by decide)
  unfold digN carN
  have e : x + 1 = (x % 65536 ^ k + 1) + 65536 ^ k * (x / 65536 ^ k) := by have := Nat.mod_add_div x (65536 ^ k); omega
  rw [e, Nat.add_mul_div_left _ _ hp, Nat.add_mod, Nat.add_mod ((x % 65536 ^ k + 1) / 65536 ^ k) (x / 65536 ^ k % 65536), Nat.mod_mod]
theorem carN_succ (x k : Nat) : carN x (k + 1) = (carN x k + digN x k) / 65536 := by
  have hp : 0 < 65536 ^ k := Nat.pow_pos (by decide)
  unfold carN digN
  rw [Nat.mod_pow_succ, Nat.pow_succ, ← Nat.div_div_eq_div_mul, show x % 65536 ^ k + 65536 ^ k * (x / 65536 ^ k % 65536) + 1 = x % 65536 ^ k + 1 + 65536 ^ k * (x / 65536 ^ k % 65536) by omega, Nat.add_mul_div_left _ _ hp]
def mixD (x k : Nat) (j : Nat) : Nat := if j < k then digN (x + 1) j else digN x j
theorem wd_set (f : Nat → Nat) (d : Nat) (h : d < 9) (v : Nat) : (wd f).setIfInBounds d (.int .i64 (v : Int)) = wd (fun j => if j = d then v else f j) := by
  have : d = 0 ∨ d = 1 ∨ d = 2 ∨ d = 3 ∨ d = 4 ∨ d = 5 ∨ d = 6 ∨ d = 7 ∨ d = 8 := by omega
  rcases this with rfl | rfl | rfl | rfl | rfl | rfl | rfl | rfl | rfl <;> rfl
theorem wd_one (f : Nat → Nat) : (wd f).all (·.oneCell') = true := by simp [wd, Value.oneCell']
theorem mix_step (x k : Nat) (h : k < 9) : (wd (mixD x k)).setIfInBounds k (.int .i64 (((carN x k + digN x k) % 65536 : Nat) : Int)) = wd (mixD x (k + 1)) := by
  rw [wd_set _ _ h]
  refine wd_congr fun d _ => ?_
  unfold mixD
  by_cases h1 : d = k
  · subst h1; rw [if_pos rfl, if_pos (by omega), carN_dig]
  · rw [if_neg h1]
    by_cases h2 : d < k
    · rw [if_pos h2, if_pos (by omega)]
    · rw [if_neg h2, if_neg (by omega)]
theorem i64_and65535 (n : Nat) : bits .and .i64 (n : Int) 65535 = ((n % 65536 : Nat) : Int) := by
  have h127 : (BitVec.ofInt 64 65535).toNat = 2 ^ 16 - 1 := by decide
  have key : (BitVec.ofInt 64 (n : Int) &&& BitVec.ofInt 64 65535).toNat = n % 65536 := by
    rw [BitVec.toNat_and, BitVec.toNat_ofInt, h127, Nat.and_two_pow_sub_one_eq_mod]
    omega
  show IntKind.i64.wrap ((BitVec.ofInt 64 (n : Int) &&& BitVec.ofInt 64 65535).toNat : Nat) = _
  rw [key, IntKind.wrap_i64]
  omega
set_option maxRecDepth 100000 in
set_option maxHeartbeats 2000000 in
theorem plusN (x : Nat) (w : World) : Calls Tryz.prog 68 #[.agg (wN x), .int .i64 1] w (Ret (.agg (wN (x + 1))) w) := by
  have HZ : Hid (mixD x 9 = mixD x 9 ∧ wd (mixD x 9) = wN (x + 1)) := Lib.hid ⟨rfl, wd_congr fun d hd => by unfold mixD; rw [if_pos hd]⟩
  have H0 : Hid (wN x = wd (mixD x 0)) := Lib.hid (wd_congr fun d _ => by unfold mixD; rw [if_neg (by omega)])
  rw [H0.out]
  have HP' : Blk ((w.alloc (.cells (wd (mixD x 0)) 71 (0, 0))).alloc (.cells #[.int .i64 0, .int .i64 0, .int .i64 0, .int .i64 0, .int .i64 0, .int .i64 0, .int .i64 0, .int .i64 0, .int .i64 0] 71 (0, 0))) (w.heap.size) 71 (wd (mixD x 0)) := (Blk.new w _ _).alloc _
  have HR' : Blk ((w.alloc (.cells (wd (mixD x 0)) 71 (0, 0))).alloc (.cells #[.int .i64 0, .int .i64 0, .int .i64 0, .int .i64 0, .int .i64 0, .int .i64 0, .int .i64 0, .int .i64 0, .int .i64 0] 71 (0, 0))) (w.heap.size + 1) 71 #[.int .i64 0, .int .i64 0, .int .i64 0, .int .i64 0, .int .i64 0, .int .i64 0, .int .i64 0, .int .i64 0, .int .i64 0] := by
    have this := Blk.new (w.alloc (.cells (wd (mixD x 0)) 71 (0, 0))) 71 #[.int .i64 0, .int .i64 0, .int .i64 0, .int .i64 0, .int .i64 0, .int .i64 0, .int .i64 0, .int .i64 0, .int .i64 0]
    rw [World.size_alloc] at this
    exact this
  have HP := Lib.hid HP'
  have HR := Lib.hid HR'
  have HB : Hid (Below w.heap.size w ((w.alloc (.cells (wd (mixD x 0)) 71 (0, 0))).alloc (.cells #[.int .i64 0, .int .i64 0, .int .i64 0, .int .i64 0, .int .i64 0, .int .i64 0, .int .i64 0, .int .i64 0, .int .i64 0] 71 (0, 0)))) := Lib.hid (below_alloc (below_alloc (Below.refl _ _) _) _)
  clear HP' HR'
  have hsz := Tryz.sizeOf71
  have Hc0 := Lib.hid (carN_zero x)
  go_enter Tryz.func68, Tryz.ntmps68
  go_upto_region 1 with fail
  generalize ((w.alloc (.cells (wd (mixD x 0)) 71 (0, 0))).alloc (.cells #[.int .i64 0, .int .i64 0, .int .i64 0, .int .i64 0, .int .i64 0, .int .i64 0, .int .i64 0, .int .i64 0, .int .i64 0] 71 (0, 0))) = w1 at *
  go_wp2_with fail
  go_loopw [1, 5, 6] (fun nv iv i wr => ∃ k : Nat, k ≤ 9 ∧ i = .int .i64 (k : Int) ∧ nv = .int .i64 ((carN x k : Nat) : Int) ∧ Hid (Blk wr w.heap.size 71 (wd (mixD x k))) ∧ Hid (Blk wr (w.heap.size + 1) 71 #[.int .i64 0, .int .i64 0, .int .i64 0, .int .i64 0, .int .i64 0, .int .i64 0, .int .i64 0, .int .i64 0, .int .i64 0]) ∧ Hid (Below w.heap.size w wr)) (fun _ _ i _ => 9 - (intOf i).toNat)
  case atStart => exact ⟨0, by omega, rfl, by rw [Hc0.out]; rfl, HP, HR, HB⟩
  case round =>
    clear HP HR HB
    obtain ⟨k, hk, rfl, rfl, HP, HR, HB⟩ := hrel
    by_cases hlt : k < 9
    · have hc := carN_le x k
      have hd := digN_lt x k
      have hcell : wr.cell? ⟨w.heap.size, k, none⟩ = some (.int .i64 ((digN x k : Nat) : Int)) := by
        rw [HP.out.cell k, wd_get _ _ hlt]
        unfold mixD
        rw [if_neg (Nat.lt_irrefl k)]
      have hfr := HP.out.free k
      have HP2 : Hid (Blk (wr.setCell ⟨w.heap.size, k, none⟩ (.int .i64 (((carN x k + digN x k) % 65536 : Nat) : Int))) w.heap.size 71 (wd (mixD x (k + 1)))) := Lib.hid (by
        rw [← mix_step x k hlt]
        exact HP.out.set k _)
      have HR2 : Hid (Blk (wr.setCell ⟨w.heap.size, k, none⟩ (.int .i64 (((carN x k + digN x k) % 65536 : Nat) : Int))) (w.heap.size + 1) 71 #[.int .i64 0, .int .i64 0, .int .i64 0, .int .i64 0, .int .i64 0, .int .i64 0, .int .i64 0, .int .i64 0, .int .i64 0]) := Lib.hid (HR.out.far (by omega) _ _)
      have HB2 : Hid (Below w.heap.size w (wr.setCell ⟨w.heap.size, k, none⟩ (.int .i64 (((carN x k + digN x k) % 65536 : Nat) : Int)))) := Lib.hid (below_set HB.out (Nat.le_refl _) _ _)
      have Hs := Lib.hid (carN_succ x k)
      clear HP HR HB
      generalize carN x k = c1 at *
      generalize digN x k = d1 at *
      obtain ⟨s, hs⟩ : ∃ s, c1 + d1 = s := ⟨_, rfl⟩
      have hs2 : (c1 : Int) + (d1 : Int) = (s : Int) := by omega
      have hs3 : s ≤ 65536 := by omega
      rw [hs] at HP2 HR2 HB2 Hs
      have ha := i64_and65535 s
      have b1 : (0 : Int) ≤ (k : Int) := by omega
      have b2 : (k : Int) < 9 := by omega
      clear hs hc hd
      go_wp2_with fail
      exact ⟨⟨k + 1, by omega, by go_num, by rw [Hs.out]; exact congrArg _ (by omega), HP2, HR2, HB2⟩, by simp [intOf]; omega⟩
    · obtain rfl : k = 9 := by omega
      rw [← HZ.out.2]
      go_wp2_with (first | refine wpList_load_row rfl 71 (.tmp 2) rfl w.heap.size rfl 71 (wd (mixD x 9)) (0, 0) _ HP.out Tryz.underlying71 rfl (by kernel_rfl) ?_ | refine wpList_store_row rfl 71 (.tmp 4) (.tmp 21) rfl (w.heap.size + 1) (wd (mixD x 9)) rfl rfl 71 #[.int .i64 0, .int .i64 0, .int .i64 0, .int .i64 0, .int .i64 0, .int .i64 0, .int .i64 0, .int .i64 0, .int .i64 0] HR.out (by kernel_rfl) rfl (wd_one _) ?_)
      refine bodyPost_ret (v := .agg (wd (mixD x 9))) (results_cell_row Tryz.results68 _ _ (w.heap.size + 1) 71 (wd (mixD x 9)) (0, 0) _ rfl (HR.out.row _) Tryz.underlying71 rfl (by kernel_rfl)) rfl ⟨by rw [HZ.out.2], belowRow HB.out (by omega) _⟩
end Go.Proofs.YteccghdegckjhaaGreatDoor

namespace Go.Proofs.YteccghdegckjhaaGreatDoor
open Go.RowKit Go
set_option linter.unusedVariables false

theorem ofN {x : Nat} (w : World) (hx : VN x) : Calls Tryz.prog 39 #[.agg (aN x)] w (Ret (.agg (wN x)) w) := by
  have := of_any (sixN x) (hiN x) (loN x) w (hiN_u x) (loN_u x)
  rw [wCells_wv, ← wN_aN hx] at this
  exact this
theorem lastOfN {x n : Nat} (w : World) (hx : VN x) (hn : n ≤ LN x) : Calls Tryz.prog 67 #[.agg (pN x (n : Int))] w (Ret (.agg (wN (fil x (LN x - n)))) w) := by
  have hl := lenN_le (sixN x)
  rw [LN_six] at hn
  have := lastOf_any (sixN x) (hiN x) (loN x) (n : Int) (lenN (sixN x) - n) w (hiN_u x) (loN_u x) (by omega) (by omega) (by omega)
  rw [fil_wN (ok_aN hx), num_aN hx, ← LN_six] at this
  exact this
theorem wideAddrN {x : Nat} (w : World) (hx : VN x) : Calls Tryz.prog 71 #[.agg (wN x)] w (Ret (.agg (aN x)) w) := by
  have := wideAddr_any (sixN x) (dg (hiN x) (loN x)) w (dg_lt _ _)
  rw [PS_dg_hi _ _ (hiN_u x), PS_dg_lo _ _ (loN_u x), ← wN_aN hx] at this
  exact this
def wdl (f : Nat → Nat) : List Int := [((f 0 : Nat) : Int), ((f 1 : Nat) : Int), ((f 2 : Nat) : Int), ((f 3 : Nat) : Int), ((f 4 : Nat) : Int), ((f 5 : Nat) : Int), ((f 6 : Nat) : Int), ((f 7 : Nat) : Int), ((f 8 : Nat) : Int)]
theorem wd_ivs (f : Nat → Nat) : wd f = ivs (wdl f) := rfl
set_option maxRecDepth 100000 in
theorem wd_eq (f g : Nat → Nat) (w : World) : (Op.equalIn 10000 71 (.agg (wd f)) (.agg (wd g))).run Tryz.prog w = .ok (decide (wdl f = wdl g)) w := by
  obtain ⟨i, hi⟩ : ∃ i, Tryz.prog.info? 3 = some i := Option.isSome_iff_exists.1 (by kernel_rfl)
  have hu : Tryz.prog.underlying 71 = some (.array 9 3) := by kernel_rfl
  have hc : Tryz.prog.cellsOf 3 = 1 := by kernel_rfl
  rw [wd_ivs, wd_ivs, show (10000 : Nat) = 9999 + 1 from rfl, run_equalIn_array (P := Tryz.prog) w 9999 (t := 71) _ _ hu hi, hc, items_int _ _ w (List.range 9) (fun i h => by have := List.mem_range.1 h; simp [wdl]; omega)]
  congr 1
  rw [decide_eq_decide]
  constructor
  · intro h
    exact List.ext_getElem (by rfl) fun i h1 h2 => by
      have := h i (List.mem_range.2 h1)
      simpa [List.getD, h1, h2] using this
  · intro h i _
    rw [h]
theorem wdl_inj {x y : Nat} (hx : x < 65536 ^ 9) (hy : y < 65536 ^ 9) : wdl (digN x) = wdl (digN y) ↔ x = y := by
  constructor
  · intro h
    refine wN_inj hx hy fun d hd => ?_
    unfold wdl at h
    simp only [List.cons.injEq] at h
    obtain ⟨a0, a1, a2, a3, a4, a5, a6, a7, a8, _⟩ := h
    have : d = 0 ∨ d = 1 ∨ d = 2 ∨ d = 3 ∨ d = 4 ∨ d = 5 ∨ d = 6 ∨ d = 7 ∨ d = 8 := by omega
    rcases this with rfl | rfl | rfl | rfl | rfl | rfl | rfl | rfl | rfl <;> omega
  · rintro rfl; rfl
theorem wN_neq {x y : Nat} (hx : x < 65536 ^ 9) (hy : y < 65536 ^ 9) (w : World) : (binOp .neq 71 (.agg (wN x)) (.agg (wN y))).run Tryz.prog w = .ok (.bool (!decide (x = y))) w := by
  unfold wN
  rw [run_neq_struct, wd_eq, decide_eq_decide.2 (wdl_inj hx hy)]
  rfl
theorem VN.lt10 {x : Nat} (h : VN x) : x < 65536 ^ 9 ∧ x + 1 < 65536 ^ 9 := by have := h.lt9; omega
end Go.Proofs.YteccghdegckjhaaGreatDoor

namespace Go.Proofs
open Go.Shelf
def Tryz.sortAd_ren : Go.Shelf.Ren := ⟨fun | 6 => 55 | 15 => 99 | 14 => 98 | 28 => 140 | 29 => 141 | 20 => 132 | 21 => 133 | 22 => 134 | 23 => 135 | 24 => 136 | 25 => 137 | 26 => 138 | 27 => 139 | 46 => 173 | 47 => 174 | 48 => 175 | 49 => 176 | 50 => 177 | 57 => 201 | n => n, fun | 22 => 92 | 24 => 28 | 25 => 95 | 3 => 3 | 39 => 112 | 0 => 0 | 53 => 165 | 55 => 26 | 4 => 4 | 46 => 159 | 45 => 158 | 50 => 80 | 5 => 5 | 9 => 9 | 66 => 188 | 70 => 192 | 76 => 217 | 77 => 136 | n => n, fun | n => n⟩
theorem Tryz.sortAd : Go.Proofs.SlLaysF0.n6 Tryz.prog Tryz.sortAd_ren := {
  mixed := by kernel_rfl
  f6 := ⟨Tryz.f55.name, by decide, Tryz.func55.trans (congrArg some (by kernel_rfl))⟩
  f14 := ⟨Tryz.f98.name, by decide, Tryz.func98.trans (congrArg some (by kernel_rfl))⟩
  f15 := Tryz.func99.trans (congrArg some (by kernel_rfl))
  f20 := ⟨Tryz.f132.name, by decide, Tryz.func132.trans (congrArg some (by kernel_rfl))⟩
  f21 := ⟨Tryz.f133.name, by decide, Tryz.func133.trans (congrArg some (by kernel_rfl))⟩
  f22 := ⟨Tryz.f134.name, by decide, Tryz.func134.trans (congrArg some (by kernel_rfl))⟩
  f23 := ⟨Tryz.f135.name, by decide, Tryz.func135.trans (congrArg some (by kernel_rfl))⟩
  f24 := ⟨Tryz.f136.name, by decide, Tryz.func136.trans (congrArg some (by kernel_rfl))⟩
  f25 := ⟨Tryz.f137.name, by decide, Tryz.func137.trans (congrArg some (by kernel_rfl))⟩
  f26 := ⟨Tryz.f138.name, by decide, Tryz.func138.trans (congrArg some (by kernel_rfl))⟩
  f27 := ⟨Tryz.f139.name, by decide, Tryz.func139.trans (congrArg some (by kernel_rfl))⟩
  f28 := Tryz.func140.trans (congrArg some (by kernel_rfl))
  f29 := Tryz.func141.trans (congrArg some (by kernel_rfl))
  f46 := ⟨Tryz.f173.name, by decide, Tryz.func173.trans (congrArg some (by kernel_rfl))⟩
  f47 := Tryz.func174.trans (congrArg some (by kernel_rfl))
  f48 := Tryz.func175.trans (congrArg some (by kernel_rfl))
  f49 := ⟨Tryz.f176.name, by decide, Tryz.func176.trans (congrArg some (by kernel_rfl))⟩
  f50 := ⟨Tryz.f177.name, by decide, Tryz.func177.trans (congrArg some (by kernel_rfl))⟩
  f57 := ⟨Tryz.f201.name, by decide, Tryz.func201.trans (congrArg some (by kernel_rfl))⟩
  t0 := Tryz.underlying0
  a0 := Tryz.isAgg0
  z0 := Tryz.sizeOf0
  v0 := Tryz.zeroValue0
  t3 := Tryz.underlying3
  a3 := Tryz.isAgg3
  z3 := Tryz.sizeOf3
  v3 := Tryz.zeroValue3
  t4 := Tryz.underlying4
  a4 := Tryz.isAgg4
  z4 := Tryz.sizeOf4
  v4 := Tryz.zeroValue4
  t5 := Tryz.underlying5
  a5 := Tryz.isAgg5
  z5 := Tryz.sizeOf5
  v5 := Tryz.zeroValue5
  t9 := Tryz.underlying9
  a9 := Tryz.isAgg9
  z9 := Tryz.sizeOf9
  v9 := Tryz.zeroValue9
  t22 := Tryz.underlying92
  a22 := Tryz.isAgg92
  z22 := Tryz.sizeOf92
  v22 := Tryz.zeroValue92
  t25 := Tryz.underlying95
  a25 := Tryz.isAgg95
  z25 := Tryz.sizeOf95
  v25 := Tryz.zeroValue95
  t39 := Tryz.underlying112
  a39 := Tryz.isAgg112
  z39 := Tryz.sizeOf112
  v39 := Tryz.zeroValue112
  t45 := Tryz.underlying158
  a45 := Tryz.isAgg158
  z45 := Tryz.sizeOf158
  v45 := Tryz.zeroValue158
  t46 := Tryz.underlying159
  a46 := Tryz.isAgg159
  z46 := Tryz.sizeOf159
  v46 := Tryz.zeroValue159
  t50 := Tryz.underlying80
  a50 := Tryz.isAgg80
  z50 := Tryz.sizeOf80
  v50 := Tryz.zeroValue80
  t53 := Tryz.underlying165
  a53 := Tryz.isAgg165
  z53 := Tryz.sizeOf165
  v53 := Tryz.zeroValue165
  t55 := Tryz.underlying26
  a55 := Tryz.isAgg26
  z55 := Tryz.sizeOf26
  v55 := Tryz.zeroValue26
  t66 := Tryz.underlying188
  a66 := Tryz.isAgg188
  z66 := Tryz.sizeOf188
  v66 := Tryz.zeroValue188
  t70 := Tryz.underlying192
  a70 := Tryz.isAgg192
  z70 := Tryz.sizeOf192
  v70 := Tryz.zeroValue192
  t76 := Tryz.underlying217
  a76 := Tryz.isAgg217
  z76 := Tryz.sizeOf217
  v76 := Tryz.zeroValue217
  t77 := Tryz.underlying136
  a77 := Tryz.isAgg136
  z77 := Tryz.sizeOf136
  v77 := Tryz.zeroValue136 }
open Go.Sort Go.RowKit in
theorem Tryz.slices_SortFunc_Ad {α : Type} [Inhabited α] (enc : α → List Value) (hk : ∀ x, (enc x).length = 3) (h1 : ∀ x, ∀ v ∈ enc x, v.oneCell' = true) (cf : α → α → Int) (hO : SWO (ltOf cf)) (g : Nat) (cb : Array Value) (blk off cap : Nat) (d : Array α) (w : World)
    (eg : ∀ args w, (callFunc g args).run Tryz.prog w = .ok (.enter g args) w) (hcmp : CmpLays Tryz.prog g cb enc 3 cf blk off d.size w) (hH : HoldsK enc 3 w blk off d) (hblk : blk < w.heap.size) (hsz : d.size < 4611686018427387904) :
    Calls Tryz.prog 55 #[.slice (some ⟨blk, off, none⟩) d.size cap, .func (.func g) #[] cb] w fun e w' =>
      e = .returned (.tuple #[]) ∧ ∃ d' n os, PermIn 0 d.size d d' ∧ SortedIn (ltOf cf) 0 d.size d' ∧ w' = sortWorldK enc 3 w blk off n d' os :=
  AnyQ.slices_SortFunc Tryz.sortAd 3 Tryz.isAgg28 Tryz.sizeOf28 enc hk h1 cf hO g cb blk off cap d w eg hcmp hH hblk hsz
open Go.Sort Go.RowKit in
theorem Tryz.slices_SortFunc_Ad_none (p : Option Addr) (cap : Nat) (fv : Value) (w : World) :
    Calls Tryz.prog 55 #[.slice p 0 cap, fv] w fun e w' => e = .returned (.tuple #[]) ∧ w' = w :=
  AnyF.slices_SortFunc_none Tryz.sortAd p cap fv w
end Go.Proofs

namespace Go.Proofs
open Go.Shelf
def Tryz.sortWd_ren : Go.Shelf.Ren := ⟨fun | 6 => 69 | 15 => 99 | 14 => 107 | 28 => 140 | 29 => 141 | 20 => 145 | 21 => 146 | 22 => 147 | 23 => 148 | 24 => 149 | 25 => 150 | 26 => 151 | 27 => 152 | 46 => 186 | 47 => 174 | 48 => 175 | 49 => 187 | 50 => 188 | 57 => 206 | n => n, fun | 22 => 103 | 24 => 71 | 25 => 108 | 3 => 3 | 39 => 112 | 0 => 0 | 53 => 165 | 55 => 26 | 4 => 4 | 46 => 159 | 45 => 158 | 50 => 80 | 5 => 5 | 9 => 9 | 66 => 188 | 70 => 192 | 76 => 217 | 77 => 136 | n => n, fun | n => n⟩
theorem Tryz.sortWd : Go.Proofs.SlLaysF0.n6 Tryz.prog Tryz.sortWd_ren := {
  mixed := by kernel_rfl
  f6 := ⟨Tryz.f69.name, by decide, Tryz.func69.trans (congrArg some (by kernel_rfl))⟩
  f14 := ⟨Tryz.f107.name, by decide, Tryz.func107.trans (congrArg some (by kernel_rfl))⟩
  f15 := Tryz.func99.trans (congrArg some (by kernel_rfl))
  f20 := ⟨Tryz.f145.name, by decide, Tryz.func145.trans (congrArg some (by kernel_rfl))⟩
  f21 := ⟨Tryz.f146.name, by decide, Tryz.func146.trans (congrArg some (by kernel_rfl))⟩
  f22 := ⟨Tryz.f147.name, by decide, Tryz.func147.trans (congrArg some (by kernel_rfl))⟩
  f23 := ⟨Tryz.f148.name, by decide, Tryz.func148.trans (congrArg some (by kernel_rfl))⟩
  f24 := ⟨Tryz.f149.name, by decide, Tryz.func149.trans (congrArg some (by kernel_rfl))⟩
  f25 := ⟨Tryz.f150.name, by decide, Tryz.func150.trans (congrArg some (by kernel_rfl))⟩
  f26 := ⟨Tryz.f151.name, by decide, Tryz.func151.trans (congrArg some (by kernel_rfl))⟩
  f27 := ⟨Tryz.f152.name, by decide, Tryz.func152.trans (congrArg some (by kernel_rfl))⟩
  f28 := Tryz.func140.trans (congrArg some (by kernel_rfl))
  f29 := Tryz.func141.trans (congrArg some (by kernel_rfl))
  f46 := ⟨Tryz.f186.name, by decide, Tryz.func186.trans (congrArg some (by kernel_rfl))⟩
  f47 := Tryz.func174.trans (congrArg some (by kernel_rfl))
  f48 := Tryz.func175.trans (congrArg some (by kernel_rfl))
  f49 := ⟨Tryz.f187.name, by decide, Tryz.func187.trans (congrArg some (by kernel_rfl))⟩
  f50 := ⟨Tryz.f188.name, by decide, Tryz.func188.trans (congrArg some (by kernel_rfl))⟩
  f57 := ⟨Tryz.f206.name, by decide, Tryz.func206.trans (congrArg some (by kernel_rfl))⟩
  t0 := Tryz.underlying0
  a0 := Tryz.isAgg0
  z0 := Tryz.sizeOf0
  v0 := Tryz.zeroValue0
  t3 := Tryz.underlying3
  a3 := Tryz.isAgg3
  z3 := Tryz.sizeOf3
  v3 := Tryz.zeroValue3
  t4 := Tryz.underlying4
  a4 := Tryz.isAgg4
  z4 := Tryz.sizeOf4
  v4 := Tryz.zeroValue4
  t5 := Tryz.underlying5
  a5 := Tryz.isAgg5
  z5 := Tryz.sizeOf5
  v5 := Tryz.zeroValue5
  t9 := Tryz.underlying9
  a9 := Tryz.isAgg9
  z9 := Tryz.sizeOf9
  v9 := Tryz.zeroValue9
  t22 := Tryz.underlying103
  a22 := Tryz.isAgg103
  z22 := Tryz.sizeOf103
  v22 := Tryz.zeroValue103
  t25 := Tryz.underlying108
  a25 := Tryz.isAgg108
  z25 := Tryz.sizeOf108
  v25 := Tryz.zeroValue108
  t39 := Tryz.underlying112
  a39 := Tryz.isAgg112
  z39 := Tryz.sizeOf112
  v39 := Tryz.zeroValue112
  t45 := Tryz.underlying158
  a45 := Tryz.isAgg158
  z45 := Tryz.sizeOf158
  v45 := Tryz.zeroValue158
  t46 := Tryz.underlying159
  a46 := Tryz.isAgg159
  z46 := Tryz.sizeOf159
  v46 := Tryz.zeroValue159
  t50 := Tryz.underlying80
  a50 := Tryz.isAgg80
  z50 := Tryz.sizeOf80
  v50 := Tryz.zeroValue80
  t53 := Tryz.underlying165
  a53 := Tryz.isAgg165
  z53 := Tryz.sizeOf165
  v53 := Tryz.zeroValue165
  t55 := Tryz.underlying26
  a55 := Tryz.isAgg26
  z55 := Tryz.sizeOf26
  v55 := Tryz.zeroValue26
  t66 := Tryz.underlying188
  a66 := Tryz.isAgg188
  z66 := Tryz.sizeOf188
  v66 := Tryz.zeroValue188
  t70 := Tryz.underlying192
  a70 := Tryz.isAgg192
  z70 := Tryz.sizeOf192
  v70 := Tryz.zeroValue192
  t76 := Tryz.underlying217
  a76 := Tryz.isAgg217
  z76 := Tryz.sizeOf217
  v76 := Tryz.zeroValue217
  t77 := Tryz.underlying136
  a77 := Tryz.isAgg136
  z77 := Tryz.sizeOf136
  v77 := Tryz.zeroValue136 }
open Go.Sort Go.RowKit in
theorem Tryz.slices_SortFunc_Wd {α : Type} [Inhabited α] (enc : α → List Value) (hk : ∀ x, (enc x).length = 9) (h1 : ∀ x, ∀ v ∈ enc x, v.oneCell' = true) (cf : α → α → Int) (hO : SWO (ltOf cf)) (g : Nat) (cb : Array Value) (blk off cap : Nat) (d : Array α) (w : World)
    (eg : ∀ args w, (callFunc g args).run Tryz.prog w = .ok (.enter g args) w) (hcmp : CmpLays Tryz.prog g cb enc 9 cf blk off d.size w) (hH : HoldsK enc 9 w blk off d) (hblk : blk < w.heap.size) (hsz : d.size < 4611686018427387904) :
    Calls Tryz.prog 69 #[.slice (some ⟨blk, off, none⟩) d.size cap, .func (.func g) #[] cb] w fun e w' =>
      e = .returned (.tuple #[]) ∧ ∃ d' n os, PermIn 0 d.size d d' ∧ SortedIn (ltOf cf) 0 d.size d' ∧ w' = sortWorldK enc 9 w blk off n d' os :=
  AnyQ.slices_SortFunc Tryz.sortWd 9 Tryz.isAgg71 Tryz.sizeOf71 enc hk h1 cf hO g cb blk off cap d w eg hcmp hH hblk hsz
open Go.Sort Go.RowKit in
theorem Tryz.slices_SortFunc_Wd_none (p : Option Addr) (cap : Nat) (fv : Value) (w : World) :
    Calls Tryz.prog 69 #[.slice p 0 cap, fv] w fun e w' => e = .returned (.tuple #[]) ∧ w' = w :=
  AnyF.slices_SortFunc_none Tryz.sortWd p cap fv w
end Go.Proofs

namespace Go.Proofs.YteccghdegckjhaaGreatDoor
open Go.RowKit Go
set_option linter.unusedVariables false

end Go.Proofs.YteccghdegckjhaaGreatDoor
