/-
  What the generator of reports calls: Some, the closure that compares; the state in a round.
  Reports put together: the program.
  Reports put together: the reference.
  An address whose last bits are hidden: the program's hidden.
  Two rows that a call owns, in blocks apart.
  Reports whose addresses are hidden, in plain words.
  The closure of the reference's HideOf; the program's hidden on the cells of a flow.
  Addresses of four numbers as text: textOf of the program, AddrText of the reference.
-/
import Derived.Test.YtippolfmljfleaaGreatDoorAR24
import Derived.Test.YtippolfmljfleaaGreatDoorAR23
import Derived.Test.YtippolfmljfleaaGreatDoorAR7
import Derived.Test.YtippolfmljfleaaGreatDoorAR3
import Derived.Deep.Light
import Derived.Test.YtippolfmljfleaaGreatDoorAR4
import Derived.Test.YtippolfmljfleaaGreatDoorAR6
import Derived.Lib.ItoaLen
set_option linter.unusedVariables false
namespace Go.Proofs.YtippolfmljfleaaGreatDoor
open Go.RowKit Go
set_option linter.unusedVariables false

/-- a row of strings that can be read -/
def RdStr (w : World) (g : Nat) (ss : List ByteArray) : Prop := g < w.heap.size ∧ ∀ (i : Nat) s, ss[i]? = some s → w.cell? ⟨g, i, none⟩ = some (.string s)
theorem RdStr.grown {w w' : World} {g b : Nat} {ss : List ByteArray} (h : RdStr w g ss) (hg : w.grownBy w' (some b)) (hne : g ≠ b) : RdStr w' g ss :=
  ⟨Nat.lt_of_lt_of_le h.1 hg.size, fun i s hi => (World.cell?_of_block (hg.block g h.1 (by simpa using hne))).trans (h.2 i s hi)⟩
theorem rdStr_new (w : World) (t : TypeId) (ss : List ByteArray) (vs : Array Value) (hv : vs = (ss.map Value.string).toArray) : RdStr (w.alloc (.cells vs t)) w.heap.size ss := by
  subst hv
  refine ⟨by simp, fun i s hi => ?_⟩
  rw [cell_of_row _ w.heap.size i _ _ _ (heap_alloc_new w _)]
  simp [hi]
set_option maxHeartbeats 1000000 in
theorem some_gen (b m g n : Nat) (ss : List ByteArray) (w : World) (h : Strm w b m) (hm : m < 1099511627776) (hn : ss.length = n) (hn1 : 1 ≤ n ∧ n ≤ 1000) (hs : RdStr w g ss) (hgb : g ≠ b) :
    Calls Tryz.prog 34 #[.pointer (some ⟨b, 0, none⟩), .slice (some ⟨g, 0, none⟩) n n] w fun e w' => ∃ s : ByteArray, e = .returned (.string s) ∧ s ∈ ss ∧ Gen b w w' (m + 1) := by
  have Hs := Lib.hid hs
  have HS := Lib.hid h
  have Hn := Lib.hid hn
  clear hs h hn
  go_enter Tryz.func34, Tryz.ntmps34
  go_wp2_with fail
  refine (next_gen b m _ _ HS.out hm (by omega)).mono ?_
  rintro e w1 ⟨k, rfl, ⟨hk0, hk1⟩, hg⟩
  obtain ⟨j, rfl⟩ := Int.eq_ofNat_of_zero_le hk0
  have hj : j < n := by omega
  obtain ⟨s, hs⟩ : ∃ s, ss[j]? = some s := ⟨_, List.getElem?_eq_getElem (by rw [Hn.out]; exact hj)⟩
  have hc := (Hs.out.grown hg.g hgb).2 j s hs
  have HG := Lib.hid hg
  have hmem := List.mem_of_getElem? hs
  have HM := Lib.hid hmem
  clear hg hs hmem
  have b1 : (0 : Int) ≤ (j : Int) := by omega
  have b2 : (j : Int) < (n : Int) := by omega
  go_wp2_with fail
  go_ret
  exact ⟨s, rfl, HM.out, HG.out⟩
/-- the state of a round: the flow and the report that it makes -/
structure RpS (b m : Nat) (wr w : World) (F R : Nat) (f : FV) (r : RP) : Prop where
  g : Gen b wr w m
  fb : FBlk w F f
  rb : Blk w R 45 (rpC r).toArray
  fo : f.ok
  ro : r.Sm
  hF : wr.heap.size ≤ F
  hR : wr.heap.size ≤ R
  hne : F ≠ R
  hb : b < wr.heap.size
theorem RpS.step {b m m' : Nat} {wr w w' : World} {F R : Nat} {f : FV} {r : RP} (h : RpS b m wr w F R f r) (hg : Gen b w w' m') : RpS b m' wr w' F R f r :=
  ⟨h.g.trans hg, h.fb.keep hg.g (by have := h.hb; have := h.hF; omega), h.rb.keep hg.g (by have := h.hb; have := h.hR; omega), h.fo, h.ro, h.hF, h.hR, h.hne, h.hb⟩
theorem RpS.mono {b m m' : Nat} {wr w : World} {F R : Nat} {f : FV} {r : RP} (h : RpS b m wr w F R f r) (hm : m ≤ m') : RpS b m' wr w F R f r := { h with g := h.g.mono hm }
theorem RpS.alloc {b m : Nat} {wr w : World} {F R : Nat} {f : FV} {r : RP} (h : RpS b m wr w F R f r) (o : Obj) : RpS b m wr (w.alloc o) F R f r := h.step ((Gen.start h.g.s).alloc o)
theorem Gen.setCells {b m B : Nat} {u : World} (hB : u.heap.size ≤ B) (hb : b < B) : ∀ (vs : List Value) (o : Nat) (v : World), Gen b u v m → Gen b u (v.setCells B o vs) m
  | [], _, v, h => h
  | x :: l, o, v, h => Gen.setCells hB hb l (o + 1) _ (h.setCell ⟨B, o, none⟩ x hB hb)
/-- the state behind the first append: the flow and the report lie still, another report is made -/
structure RpT (b m : Nat) (w2 w : World) (F R O : Nat) (f : FV) (r o : RP) : Prop where
  g : Gen b w2 w m
  fb : FBlk w F f
  rb : Blk w R 45 (rpC r).toArray
  ob : Blk w O 45 (rpC o).toArray
  oo : o.Sm
  hF : F ≠ b
  hR : R ≠ b
  hO : w2.heap.size ≤ O
  hFO : F ≠ O
  hRO : R ≠ O
  hb : b < w2.heap.size
theorem RpT.step {b m m' : Nat} {w2 w w' : World} {F R O : Nat} {f : FV} {r o : RP} (h : RpT b m w2 w F R O f r o) (hg : Gen b w w' m') : RpT b m' w2 w' F R O f r o :=
  ⟨h.g.trans hg, h.fb.keep hg.g h.hF, h.rb.keep hg.g h.hR, h.ob.keep hg.g (by have := h.hb; have := h.hO; omega), h.oo, h.hF, h.hR, h.hO, h.hFO, h.hRO, h.hb⟩
theorem RpT.mono {b m m' : Nat} {w2 w : World} {F R O : Nat} {f : FV} {r o : RP} (h : RpT b m w2 w F R O f r o) (hm : m ≤ m') : RpT b m' w2 w F R O f r o := { h with g := h.g.mono hm }
theorem RpT.alloc {b m : Nat} {w2 w : World} {F R O : Nat} {f : FV} {r o : RP} (h : RpT b m w2 w F R O f r o) (x : Obj) : RpT b m w2 (w.alloc x) F R O f r o := h.step ((Gen.start h.g.s).alloc x)
/-- an address that is made of a flow: three cells set one behind the other -/
theorem Blk.set3 {w : World} {B : Nat} {t : TypeId} {x y z x' y' z' : Value} (h : Blk w B t #[x, y, z]) : Blk (((w.setCell ⟨B, 0, none⟩ x').setCell ⟨B, 1, none⟩ y').setCell ⟨B, 2, none⟩ z') B t #[x', y', z'] :=
  Blk.set (Blk.set (Blk.set h 0 x') 1 y') 2 z'
theorem RpS.far {b m : Nat} {wr w : World} {F R : Nat} {f : FV} {r : RP} (h : RpS b m wr w F R f r) {A : Nat} (hA : wr.heap.size ≤ A) (h1 : F ≠ A) (h2 : R ≠ A) (i : Nat) (x : Value) : RpS b m wr (w.setCell ⟨A, i, none⟩ x) F R f r :=
  ⟨h.g.setCell _ _ hA (by have := h.hb; show b < A; omega), Blk.far h.fb h1 i x, Blk.far h.rb h2 i x, h.fo, h.ro, h.hF, h.hR, h.hne, h.hb⟩
theorem RpT.far {b m : Nat} {w2 w : World} {F R O : Nat} {f : FV} {r o : RP} (h : RpT b m w2 w F R O f r o) {A : Nat} (hA : w2.heap.size ≤ A) (h1 : F ≠ A) (h2 : R ≠ A) (h3 : O ≠ A) (i : Nat) (x : Value) : RpT b m w2 (w.setCell ⟨A, i, none⟩ x) F R O f r o :=
  ⟨h.g.setCell _ _ hA (by have := h.hb; show b < A; omega), Blk.far h.fb h1 i x, Blk.far h.rb h2 i x, Blk.far h.ob h3 i x, h.oo, h.hF, h.hR, h.hO, h.hFO, h.hRO, h.hb⟩
end Go.Proofs.YtippolfmljfleaaGreatDoor

namespace Go.Proofs.YtippolfmljfleaaGreatDoor
open Go.RowKit Go
set_option linter.unusedVariables false
end Go.Proofs.YtippolfmljfleaaGreatDoor

namespace Go.Proofs.YtippolfmljfleaaGreatDoor
open Go.RowKit Go
set_option linter.unusedVariables false
end Go.Proofs.YtippolfmljfleaaGreatDoor

namespace Go.Proofs.YtippolfmljfleaaGreatDoor
open Go.RowKit Go
set_option linter.unusedVariables false
end Go.Proofs.YtippolfmljfleaaGreatDoor

namespace Go.Proofs.YtippolfmljfleaaGreatDoor
open Go.RowKit Go
set_option linter.unusedVariables false

/-- two values whose own blocks are not one -/
def Apart (u v : Value) : Prop := ∀ k, u.ownBlock = some k → v.ownBlock ≠ some k
theorem Apart.symm {u v : Value} (h : Apart u v) : Apart v u := fun k hk e => h k e hk
theorem Apart.or {u v : Value} (h : Apart u v) : v.ownBlock = none ∨ v.ownBlock ≠ u.ownBlock := by
  cases e : v.ownBlock with
  | none => exact .inl rfl
  | some k => exact .inr fun e2 => h k e2.symm e
theorem Apart.none_left (v : Value) : Apart (.slice none 0 0) v := fun k hk => by cases hk
section
variable {α : Type} {E : Lay α}
/-- a row stays where another one, apart from it, is written -/
theorem OwnK.apart {w w' : World} {B : Nat} {u v v' : Value} {L : List α} (h : OwnK E w B u L) (hA : Apart u v) (hG : Grew w w' v v') : OwnK E w' B u L := own_grew h hG hA.symm.or
theorem Apart.grew {w w' : World} {B : Nat} {u v v' : Value} {L : List α} (h : OwnK E w B u L) (hA : Apart u v) (hG : Grew w w' v v') : Apart u v' := fun k hk e => by
  rcases hG.o with e2 | ⟨j, e2, hj⟩
  · rw [e2] at e; exact hA k hk e
  · rw [e2] at e
    injection e with e
    have := own_lt h k hk
    omega
/-- two rows that a call owns, apart -/
structure Two (E : Lay α) (w : World) (B : Nat) (u v : Value) (L M : List α) : Prop where
  l : OwnK E w B u L
  r : OwnK E w B v M
  a : Apart u v
theorem Two.nil (E : Lay α) (w : World) (B : Nat) : Two E w B (.slice none 0 0) (.slice none 0 0) [] [] := ⟨OwnK.nil _ _ _, OwnK.nil _ _ _, Apart.none_left _⟩
theorem Two.later {w w' : World} {B : Nat} {u v : Value} {L M : List α} (h : Two E w B u v L M) (hb : Below w.heap.size w w') : Two E w' B u v L M := ⟨h.l.later hb, h.r.later hb, h.a⟩
theorem Two.alloc {w : World} {B : Nat} {u v : Value} {L M : List α} (h : Two E w B u v L M) (o : Obj) : Two E (w.alloc o) B u v L M := ⟨h.l.alloc o, h.r.alloc o, h.a⟩
theorem Two.left {w w' : World} {B : Nat} {u v u' : Value} {L M L' : List α} (h : Two E w B u v L M) (hO : OwnK E w' B u' L') (hG : Grew w w' u u') : Two E w' B u' v L' M :=
  ⟨hO, h.r.apart h.a.symm hG, (Apart.grew h.r h.a.symm hG).symm⟩
theorem Two.right {w w' : World} {B : Nat} {u v v' : Value} {L M M' : List α} (h : Two E w B u v L M) (hO : OwnK E w' B v' M') (hG : Grew w w' v v') : Two E w' B u v' L M' :=
  ⟨h.l.apart h.a hG, hO, Apart.grew h.l h.a hG⟩
end
end Go.Proofs.YtippolfmljfleaaGreatDoor

namespace Go.Proofs.YtippolfmljfleaaGreatDoor
open Go.RowKit Go
set_option linter.unusedVariables false
/-- the bits of an address that stay -/
def nB (s : Bool) (b4 b6 : Nat) : Nat := if s = true then b6 else b4
def hHi (s : Bool) (h : Int) (b4 b6 : Nat) : Nat := mHi s h.toNat (nB s b4 b6)
def hLo (s : Bool) (l : Int) (b4 b6 : Nat) : Nat := mLo s l.toNat (nB s b4 b6)
def hideF (b4 b6 : Nat) (f : FV) : FV := { f with h1 := (hHi f.s1 f.h1 b4 b6 : Int), l1 := (hLo f.s1 f.l1 b4 b6 : Int), h2 := (hHi f.s2 f.h2 b4 b6 : Int), l2 := (hLo f.s2 f.l2 b4 b6 : Int) }
theorem hHi_ok {s : Bool} {h : Int} {b4 b6 : Nat} (hu : U64 h) : U64 (hHi s h b4 b6 : Int) := by
  obtain ⟨n, rfl, hn⟩ := nat_of_U64 hu
  have : U64N (hHi s (n : Int) b4 b6) := mHi_lt hn
  unfold U64N at this
  unfold U64
  omega
theorem hLo_ok {s : Bool} {h : Int} {b4 b6 : Nat} (hu : U64 h) : U64 (hLo s h b4 b6 : Int) := by
  obtain ⟨n, rfl, hn⟩ := nat_of_U64 hu
  have : U64N (hLo s (n : Int) b4 b6) := mLo_lt hn
  unfold U64N at this
  unfold U64
  omega
theorem hideF_ok {f : FV} {b4 b6 : Nat} (h : f.ok) : (hideF b4 b6 f).ok := ⟨h.1, hHi_ok h.2.1, hLo_ok h.2.2.1, hHi_ok h.2.2.2.1, hLo_ok h.2.2.2.2.1, h.2.2.2.2.2⟩
def hideR (b4 b6 : Nat) (x : RB) : RB := ⟨{ x.1 with f := hideF b4 b6 x.1.f }, hideF_ok x.2.1, x.2.2⟩
def hidP (b4 b6 : Int) (L : List RB) : List RB := togL (L.map (hideR b4.toNat b6.toNat))
end Go.Proofs.YtippolfmljfleaaGreatDoor

namespace Go.Proofs.YtippolfmljfleaaGreatDoor
open Go.RowKit Go
set_option linter.unusedVariables false
end Go.Proofs.YtippolfmljfleaaGreatDoor

namespace Go.Proofs.YtippolfmljfleaaGreatDoor
open Go.RowKit Go
set_option linter.unusedVariables false

def decB (n : Nat) : ByteArray := ⟨(Lib.decDigits n).toArray⟩
def joinS (L : List ByteArray) (sep : ByteArray) : ByteArray := ⟨(Lib.join (L.map (·.data.toList)) sep.data.toList).toArray⟩
theorem interc_len (sep : List UInt8) (K : Nat) : ∀ Ls : List (List UInt8), (∀ x ∈ Ls, x.length ≤ K) → (Lib.join Ls sep).length ≤ Ls.length * (K + sep.length)
  | [], _ => by simp [Lib.join_nil]
  | [x], h => by
    rw [Lib.join_one]
    have := h x (by simp)
    simp
    omega
  | x :: y :: l, h => by
    have h1 := interc_len sep K (y :: l) fun z hz => h z (by simp at hz ⊢; right; exact hz)
    have h2 := h x (by simp)
    have h3 : Lib.join (x :: y :: l) sep = x ++ sep ++ Lib.join (y :: l) sep := by simp [Lib.join, List.intercalate, List.intersperse]
    rw [h3]
    simp only [List.length_append, List.length_cons, Nat.add_mul, Nat.one_mul] at h1 ⊢
    omega
/-- short strings -/
def Short (L : List ByteArray) : Prop := L.length ≤ 8 ∧ ∀ x ∈ L, x.data.toList.length ≤ 30
theorem decB_short (n : Nat) (h : n < 18446744073709551616) : (decB n).data.toList.length ≤ 30 := by
  have := Lib.nDigits_le20 n h
  rw [← Lib.decDigits_length] at this
  simp [decB]
  omega
/-- strings.Join at a piece of a row of strings -/
theorem joinAt_any (g o c : Nat) (L : List ByteArray) (b : UInt8) (w : World) (hs : Short L) (hg : g < w.heap.size) (hc : L.length ≤ c) (hcells : ∀ (j : Nat) x, L[j]? = some x → w.cell? ⟨g, o + j, none⟩ = some (.string x)) :
    Calls Tryz.prog 90 #[.slice (some ⟨g, o, none⟩) L.length c, .string ⟨#[b]⟩] w (Ret (.string (joinS L ⟨#[b]⟩)) w) := by
  have hl := interc_len ((⟨#[b]⟩ : ByteArray).data.toList) 30 (L.map (·.data.toList)) (fun x hx => by
    obtain ⟨y, hy, rfl⟩ := List.mem_map.1 hx
    exact hs.2 y hy)
  rw [List.length_map] at hl
  have h1 := hs.1
  have hsep : ((⟨#[b]⟩ : ByteArray).data.toList).length = 1 := rfl
  rw [hsep] at hl
  exact (Tryz.strings_Join g o c L ⟨#[b]⟩ w hcells hg (by omega) hc (by omega)).mono fun e w' h => h
theorem and255 (n : Nat) : Go.bits .and .u64 (n : Int) 255 = ((n % 256 : Nat) : Int) := by
  have h127 : (BitVec.ofInt 64 255).toNat = 2 ^ 8 - 1 := by decide
  have key : (BitVec.ofInt 64 (n : Int) &&& BitVec.ofInt 64 255).toNat = n % 256 := by
    rw [BitVec.toNat_and, BitVec.toNat_ofInt, h127, Nat.and_two_pow_sub_one_eq_mod]
    omega
  show IntKind.u64.wrap ((BitVec.ofInt 64 (n : Int) &&& BitVec.ofInt 64 255).toNat : Int) = _
  rw [key, IntKind.wrap_u64]
  omega
theorem and255i (n : Nat) : Go.bits .and .i64 (n : Int) 255 = ((n % 256 : Nat) : Int) := by
  have h127 : (BitVec.ofInt 64 255).toNat = 2 ^ 8 - 1 := by decide
  have key : (BitVec.ofInt 64 (n : Int) &&& BitVec.ofInt 64 255).toNat = n % 256 := by
    rw [BitVec.toNat_and, BitVec.toNat_ofInt, h127, Nat.and_two_pow_sub_one_eq_mod]
    omega
  show IntKind.i64.wrap ((BitVec.ofInt 64 (n : Int) &&& BitVec.ofInt 64 255).toNat : Int) = _
  rw [key, IntKind.wrap_i64]
  omega
def fourL (lo : Nat) : List ByteArray := [decB (lo / 16777216 % 256), decB (lo / 65536 % 256), decB (lo / 256 % 256), decB (lo % 256)]
theorem fourL_short (lo : Nat) : Short (fourL lo) := by
  refine ⟨by simp [fourL], fun x hx => ?_⟩
  simp [fourL] at hx
  rcases hx with rfl | rfl | rfl | rfl <;> exact decB_short _ (by omega)

set_option maxRecDepth 100000 in
set_option maxHeartbeats 2000000 in
theorem textFour_any (hi lo : Nat) (w : World) (hlo : lo < 4294967296) (ht : Tabs w) : Calls Tryz.prog 56 #[.agg #[.bool false, .int .u64 (hi : Int), .int .u64 (lo : Int)]] w (Ret (.string (joinS (fourL lo) ⟨#[46]⟩)) w) := by
  obtain ⟨n0, hn0⟩ : ∃ n, (lo / 16777216 % 256) = n := ⟨_, rfl⟩
  have c0 : n0 < 1000 := by omega
  obtain ⟨n1, hn1⟩ : ∃ n, (lo / 65536 % 256) = n := ⟨_, rfl⟩
  have c1 : n1 < 1000 := by omega
  obtain ⟨n2, hn2⟩ : ∃ n, (lo / 256 % 256) = n := ⟨_, rfl⟩
  have c2 : n2 < 1000 := by omega
  obtain ⟨n3, hn3⟩ : ∃ n, (lo % 256) = n := ⟨_, rfl⟩
  have c3 : n3 < 1000 := by omega
  have b0 : Go.bits .and .u64 ((lo : Int) / 16777216) 255 = (n0 : Int) := by rw [show (lo : Int) / 16777216 = ((lo / 16777216 : Nat) : Int) by omega, and255, hn0]
  have b1 : Go.bits .and .u64 ((lo : Int) / 65536) 255 = (n1 : Int) := by rw [show (lo : Int) / 65536 = ((lo / 65536 : Nat) : Int) by omega, and255, hn1]
  have b2 : Go.bits .and .u64 ((lo : Int) / 256) 255 = (n2 : Int) := by rw [show (lo : Int) / 256 = ((lo / 256 : Nat) : Int) by omega, and255, hn2]
  have b3 : Go.bits .and .u64 (lo : Int) 255 = (n3 : Int) := by rw [and255, hn3]
  have hL : fourL lo = [decB n0, decB n1, decB n2, decB n3] := by unfold fourL; rw [hn0, hn1, hn2, hn3]
  have hLs := fourL_short lo
  rw [hL] at hLs ⊢
  clear hL hn0 hn1 hn2 hn3
  have H0 := Lib.hid fun wx (ht : Tabs wx) => fmtU10_any n0 (by omega) wx ht.1
  rw [show (⟨(Lib.decDigits n0).toArray⟩ : ByteArray) = decB n0 from rfl] at H0
  generalize decB n0 = d0 at *
  have H1 := Lib.hid fun wx (ht : Tabs wx) => fmtU10_any n1 (by omega) wx ht.1
  rw [show (⟨(Lib.decDigits n1).toArray⟩ : ByteArray) = decB n1 from rfl] at H1
  generalize decB n1 = d1 at *
  have H2 := Lib.hid fun wx (ht : Tabs wx) => fmtU10_any n2 (by omega) wx ht.1
  rw [show (⟨(Lib.decDigits n2).toArray⟩ : ByteArray) = decB n2 from rfl] at H2
  generalize decB n2 = d2 at *
  have H3 := Lib.hid fun wx (ht : Tabs wx) => fmtU10_any n3 (by omega) wx ht.1
  rw [show (⟨(Lib.decDigits n3).toArray⟩ : ByteArray) = decB n3 from rfl] at H3
  generalize decB n3 = d3 at *
  have HJ := Lib.hid fun g c wx h1 h2 h3 => joinAt_any g 0 c ([d0, d1, d2, d3] : List ByteArray) 46 wx hLs h1 h2 h3
  clear hLs
  generalize joinS ([d0, d1, d2, d3] : List ByteArray) ⟨#[46]⟩ = J at *
  have HP : Hid (Blk (w.alloc (.cells #[.bool false, .int .u64 (hi : Int), .int .u64 (lo : Int)] 41 (0, 0))) w.heap.size 41 #[.bool false, .int .u64 (hi : Int), .int .u64 (lo : Int)]) := Lib.hid (Blk.new w _ _)
  have HB : Hid (Below w.heap.size w (w.alloc (.cells #[.bool false, .int .u64 (hi : Int), .int .u64 (lo : Int)] 41 (0, 0)))) := Lib.hid (below_alloc (Below.refl _ _) _)
  have HT := Lib.hid (ht.below HB.out)
  clear ht
  go_enter Tryz.func56, Tryz.ntmps56
  go_upto_region 1 with fail
  generalize w.alloc (.cells #[.bool false, .int .u64 (hi : Int), .int .u64 (lo : Int)] 41 (0, 0)) = w0 at *
  have p0 := HP.out.cell 0
  simp at p0
  go_wp2
  go_loopw [3, 4, 14] (fun v iv i wr => ∃ k : Nat, k ≤ 4 ∧ i = .int .i64 k ∧ Hid (OwnS wr w0.heap.size v (([d0, d1, d2, d3] : List ByteArray).take k)) ∧ Hid (Below w0.heap.size w0 wr)) (fun _ _ i _ => 4 - (intOf i).toNat)
  case atStart => exact ⟨0, Nat.zero_le _, rfl, Lib.hid (OwnS.nil _ _), Lib.hid (Below.refl _ _)⟩
  case round =>
    clear p0
    obtain ⟨k, hk, rfl, HO, HBr⟩ := hrel
    have p2 := (HP.out.below HBr.out HP.out.lt).cell 2
    simp at p2
    by_cases hlt : k < 4
    · have hk4 : k = 0 ∨ k = 1 ∨ k = 2 ∨ k = 3 := by omega
      have HTr := Lib.hid (HT.out.below HBr.out)
      rcases hk4 with rfl | rfl | rfl | rfl
      · go_wp2_with fail
        refine (H0.out _ HTr.out).mono ?_
        rintro e w' ⟨rfl, hb⟩
        have HO1 := Lib.hid (HO.out.later hb)
        have HBr1 := Lib.hid (HBr.out.trans (hb.mono HBr.out.size))
        clear hb HO HBr HTr p2
        go_wp2_with (at_builtin; refine wpList_app strE rfl (.tmp 17) (.tmp 26) rfl rfl (World.ownsRow.alloc HO1.out _) rfl (src_one_new _ _ _) ?c1 ?c2 ?c3 ?c4 ?_)
        case c1 => first | rfl | (intro u hu; simp at hu; subst hu; rfl)
        case c2 => unfold maxLen; simp
        case c3 => simp
        case c4 => have := HBr1.out.size; simp; omega
        intro v' w2 hO hG
        have HO' := Lib.hid (OwnS.snoc hO)
        have HB' : Hid (Below w0.heap.size w0 w2) := Lib.hid ((Below.alloc HBr1.out HBr1.out.size _).trans (hG.below (by have := HBr1.out.size; simp; omega) (own_base HO1.out)))
        clear hO hG
        go_wp2
        exact ⟨⟨1, by decide, rfl, HO', HB'⟩, by simp [intOf]⟩
      · go_wp2_with fail
        refine (H1.out _ HTr.out).mono ?_
        rintro e w' ⟨rfl, hb⟩
        have HO1 := Lib.hid (HO.out.later hb)
        have HBr1 := Lib.hid (HBr.out.trans (hb.mono HBr.out.size))
        clear hb HO HBr HTr p2
        go_wp2_with (at_builtin; refine wpList_app strE rfl (.tmp 17) (.tmp 26) rfl rfl (World.ownsRow.alloc HO1.out _) rfl (src_one_new _ _ _) ?c1 ?c2 ?c3 ?c4 ?_)
        case c1 => first | rfl | (intro u hu; simp at hu; subst hu; rfl)
        case c2 => unfold maxLen; simp
        case c3 => simp
        case c4 => have := HBr1.out.size; simp; omega
        intro v' w2 hO hG
        have HO' := Lib.hid (OwnS.snoc hO)
        have HB' : Hid (Below w0.heap.size w0 w2) := Lib.hid ((Below.alloc HBr1.out HBr1.out.size _).trans (hG.below (by have := HBr1.out.size; simp; omega) (own_base HO1.out)))
        clear hO hG
        go_wp2
        exact ⟨⟨2, by decide, rfl, HO', HB'⟩, by simp [intOf]⟩
      · go_wp2_with fail
        refine (H2.out _ HTr.out).mono ?_
        rintro e w' ⟨rfl, hb⟩
        have HO1 := Lib.hid (HO.out.later hb)
        have HBr1 := Lib.hid (HBr.out.trans (hb.mono HBr.out.size))
        clear hb HO HBr HTr p2
        go_wp2_with (at_builtin; refine wpList_app strE rfl (.tmp 17) (.tmp 26) rfl rfl (World.ownsRow.alloc HO1.out _) rfl (src_one_new _ _ _) ?c1 ?c2 ?c3 ?c4 ?_)
        case c1 => first | rfl | (intro u hu; simp at hu; subst hu; rfl)
        case c2 => unfold maxLen; simp
        case c3 => simp
        case c4 => have := HBr1.out.size; simp; omega
        intro v' w2 hO hG
        have HO' := Lib.hid (OwnS.snoc hO)
        have HB' : Hid (Below w0.heap.size w0 w2) := Lib.hid ((Below.alloc HBr1.out HBr1.out.size _).trans (hG.below (by have := HBr1.out.size; simp; omega) (own_base HO1.out)))
        clear hO hG
        go_wp2
        exact ⟨⟨3, by decide, rfl, HO', HB'⟩, by simp [intOf]⟩
      · go_wp2_with fail
        refine (H3.out _ HTr.out).mono ?_
        rintro e w' ⟨rfl, hb⟩
        have HO1 := Lib.hid (HO.out.later hb)
        have HBr1 := Lib.hid (HBr.out.trans (hb.mono HBr.out.size))
        clear hb HO HBr HTr p2
        go_wp2_with (at_builtin; refine wpList_app strE rfl (.tmp 17) (.tmp 26) rfl rfl (World.ownsRow.alloc HO1.out _) rfl (src_one_new _ _ _) ?c1 ?c2 ?c3 ?c4 ?_)
        case c1 => first | rfl | (intro u hu; simp at hu; subst hu; rfl)
        case c2 => unfold maxLen; simp
        case c3 => simp
        case c4 => have := HBr1.out.size; simp; omega
        intro v' w2 hO hG
        have HO' := Lib.hid (OwnS.snoc hO)
        have HB' : Hid (Below w0.heap.size w0 w2) := Lib.hid ((Below.alloc HBr1.out HBr1.out.size _).trans (hG.below (by have := HBr1.out.size; simp; omega) (own_base HO1.out)))
        clear hO hG
        go_wp2
        exact ⟨⟨4, by decide, rfl, HO', HB'⟩, by simp [intOf]⟩
    · obtain rfl : k = 4 := by omega
      obtain ⟨g, c, hv, _, hg, hc, _, hcell⟩ := HO.out.one (by simp)
      have hv' : u3 = .slice (some ⟨g, 0, none⟩) 4 c := hv
      have hc' : 4 ≤ c := hc
      have HJ2 := Lib.hid (HJ.out g c wr hg hc' (fun j x hx => by rw [Nat.zero_add]; exact hcell j x hx))
      clear hv hc hcell p2 HJ
      subst hv'
      go_wp2_with fail
      refine HJ2.out.mono ?_
      rintro e w' ⟨rfl, hb⟩
      go_wp2_with fail
      go_ret
      exact ⟨rfl, HB.out.trans ((HBr.out.trans (hb.mono HBr.out.size)).mono HB.out.size)⟩
end Go.Proofs.YtippolfmljfleaaGreatDoor
