/-
  Reports put together: the program.
  Reports put together: the reference.
  An address whose last bits are hidden: the program's hidden.
  Two rows that a call owns, in blocks apart.
  Reports whose addresses are hidden, in plain words.
  The closure of the reference's HideOf; the program's hidden on the cells of a flow.
  Addresses of four numbers as text: textOf of the program, AddrText of the reference.
  Addresses of four numbers as text: AddrText of the reference.
-/
import Derived.Test.YtcpafmndjcejjaaGreatDoorAR26
import Derived.Test.YtcpafmndjcejjaaGreatDoorAR3
import Derived.Deep.Light
import Derived.Test.YtcpafmndjcejjaaGreatDoorAR4
import Derived.Test.YtcpafmndjcejjaaGreatDoorAR7
import Derived.Test.YtcpafmndjcejjaaGreatDoorAR25
import Derived.Lib.ItoaLen
set_option linter.unusedVariables false
namespace Go.Proofs.YtcpafmndjcejjaaGreatDoor
open Go.RowKit Go
set_option linter.unusedVariables false
end Go.Proofs.YtcpafmndjcejjaaGreatDoor

namespace Go.Proofs.YtcpafmndjcejjaaGreatDoor
open Go.RowKit Go
set_option linter.unusedVariables false

end Go.Proofs.YtcpafmndjcejjaaGreatDoor

namespace Go.Proofs.YtcpafmndjcejjaaGreatDoor
open Go.RowKit Go
set_option linter.unusedVariables false

end Go.Proofs.YtcpafmndjcejjaaGreatDoor

namespace Go.Proofs.YtcpafmndjcejjaaGreatDoor
open Go.RowKit Go
set_option linter.unusedVariables false

/-- two values whose own blocks are not one -/
def Apart (u v : Value) : Prop := ∀ k, u.ownBlock = some k → v.ownBlock ≠ some k
theorem Apart.symm {u v : Value} (h : Apart u v) : Apart v u := fun k hk e => h k e hk
theorem Apart.or {u v : Value} (h : Apart u v) : v.ownBlock = none ∨ v.ownBlock ≠ u.ownBlock := by
  cases e : v.ownBlock with
  | none => exact .inl rfl
  | some k => exact .inr fun e2 => h k e2.symm e
theorem Apart.none_left (v : Value) : Apart (.slice none 0 0) v := fun k hk => by cases hk
section
variable {α : Type} {E : Lay α}
/-- a row stays where another one, apart from it, is written -/
theorem OwnK.apart {w w' : World} {B : Nat} {u v v' : Value} {L : List α} (h : OwnK E w B u L) (hA : Apart u v) (hG : Grew w w' v v') : OwnK E w' B u L := own_grew h hG hA.symm.or
theorem Apart.grew {w w' : World} {B : Nat} {u v v' : Value} {L : List α} (h : OwnK E w B u L) (hA : Apart u v) (hG : Grew w w' v v') : Apart u v' := fun k hk e => by
  rcases hG.o with e2 | ⟨j, e2, hj⟩
  · rw [e2] at e; exact hA k hk e
  · rw [e2] at e
    injection e with e
    have := own_lt h k hk
    omega
/-- two rows that a call owns, apart -/
structure Two (E : Lay α) (w : World) (B : Nat) (u v : Value) (L M : List α) : Prop where
  l : OwnK E w B u L
  r : OwnK E w B v M
  a : Apart u v
theorem Two.nil (E : Lay α) (w : World) (B : Nat) : Two E w B (.slice none 0 0) (.slice none 0 0) [] [] := ⟨OwnK.nil _ _ _, OwnK.nil _ _ _, Apart.none_left _⟩
theorem Two.later {w w' : World} {B : Nat} {u v : Value} {L M : List α} (h : Two E w B u v L M) (hb : Below w.heap.size w w') : Two E w' B u v L M := ⟨h.l.later hb, h.r.later hb, h.a⟩
theorem Two.alloc {w : World} {B : Nat} {u v : Value} {L M : List α} (h : Two E w B u v L M) (o : Obj) : Two E (w.alloc o) B u v L M := ⟨h.l.alloc o, h.r.alloc o, h.a⟩
theorem Two.left {w w' : World} {B : Nat} {u v u' : Value} {L M L' : List α} (h : Two E w B u v L M) (hO : OwnK E w' B u' L') (hG : Grew w w' u u') : Two E w' B u' v L' M :=
  ⟨hO, h.r.apart h.a.symm hG, (Apart.grew h.r h.a.symm hG).symm⟩
theorem Two.right {w w' : World} {B : Nat} {u v v' : Value} {L M M' : List α} (h : Two E w B u v L M) (hO : OwnK E w' B v' M') (hG : Grew w w' v v') : Two E w' B u v' L M' :=
  ⟨h.l.apart h.a hG, hO, Apart.grew h.l h.a hG⟩
end
end Go.Proofs.YtcpafmndjcejjaaGreatDoor

namespace Go.Proofs.YtcpafmndjcejjaaGreatDoor
open Go.RowKit Go
set_option linter.unusedVariables false
end Go.Proofs.YtcpafmndjcejjaaGreatDoor

namespace Go.Proofs.YtcpafmndjcejjaaGreatDoor
open Go.RowKit Go
set_option linter.unusedVariables false

end Go.Proofs.YtcpafmndjcejjaaGreatDoor

namespace Go.Proofs.YtcpafmndjcejjaaGreatDoor
open Go.RowKit Go
set_option linter.unusedVariables false

def decB (n : Nat) : ByteArray := ⟨(Lib.decDigits n).toArray⟩
def joinS (L : List ByteArray) (sep : ByteArray) : ByteArray := ⟨(Lib.join (L.map (·.data.toList)) sep.data.toList).toArray⟩
theorem interc_len (sep : List UInt8) (K : Nat) : ∀ Ls : List (List UInt8), (∀ x ∈ Ls, x.length ≤ K) → (Lib.join Ls sep).length ≤ Ls.length * (K + sep.length)
  | [], _ => by simp [Lib.join_nil]
  | [x], h => by
    rw [Lib.join_one]
    have := h x (by simp)
    simp
    omega
  | x :: y :: l, h => by
    have h1 := interc_len sep K (y :: l) fun z hz => h z (by simp at hz ⊢; right; exact hz)
    have h2 := h x (by simp)
    have h3 : Lib.join (x :: y :: l) sep = x ++ sep ++ Lib.join (y :: l) sep := by simp [Lib.join, List.intercalate, List.intersperse]
    rw [h3]
    simp only [List.length_append, List.length_cons, Nat.add_mul, Nat.one_mul] at h1 ⊢
    omega
/-- short strings -/
def Short (L : List ByteArray) : Prop := L.length ≤ 8 ∧ ∀ x ∈ L, x.data.toList.length ≤ 30
theorem decB_short (n : Nat) (h : n < 18446744073709551616) : (decB n).data.toList.length ≤ 30 := by
  have := Lib.nDigits_le20 n h
  rw [← Lib.decDigits_length] at this
  simp [decB]
  omega
/-- strings.Join at a piece of a row of strings -/
theorem joinAt_any (g o c : Nat) (L : List ByteArray) (b : UInt8) (w : World) (hs : Short L) (hg : g < w.heap.size) (hc : L.length ≤ c) (hcells : ∀ (j : Nat) x, L[j]? = some x → w.cell? ⟨g, o + j, none⟩ = some (.string x)) :
    Calls Tryz.prog 51 #[.slice (some ⟨g, o, none⟩) L.length c, .string ⟨#[b]⟩] w (Ret (.string (joinS L ⟨#[b]⟩)) w) := by
  have hl := interc_len ((⟨#[b]⟩ : ByteArray).data.toList) 30 (L.map (·.data.toList)) (fun x hx => by
    obtain ⟨y, hy, rfl⟩ := List.mem_map.1 hx
    exact hs.2 y hy)
  rw [List.length_map] at hl
  have h1 := hs.1
  have hsep : ((⟨#[b]⟩ : ByteArray).data.toList).length = 1 := rfl
  rw [hsep] at hl
  exact (Tryz.strings_Join g o c L ⟨#[b]⟩ w hcells hg (by omega) hc (by omega)).mono fun e w' h => h
theorem and255 (n : Nat) : Go.bits .and .u64 (n : Int) 255 = ((n % 256 : Nat) : Int) := by
  have h127 : (BitVec.ofInt 64 255).toNat = 2 ^ 8 - 1 := by decide
  have key : (BitVec.ofInt 64 (n : Int) &&& BitVec.ofInt 64 255).toNat = n % 256 := by
    rw [BitVec.toNat_and, BitVec.toNat_ofInt, h127, Nat.and_two_pow_sub_one_eq_mod]
    omega
  show IntKind.u64.wrap ((BitVec.ofInt 64 (n : Int) &&& BitVec.ofInt 64 255).toNat : Int) = _
  rw [key, IntKind.wrap_u64]
  omega
theorem and255i (n : Nat) : Go.bits .and .i64 (n : Int) 255 = ((n % 256 : Nat) : Int) := by
  have h127 : (BitVec.ofInt 64 255).toNat = 2 ^ 8 - 1 := by decide
  have key : (BitVec.ofInt 64 (n : Int) &&& BitVec.ofInt 64 255).toNat = n % 256 := by
    rw [BitVec.toNat_and, BitVec.toNat_ofInt, h127, Nat.and_two_pow_sub_one_eq_mod]
    omega
  show IntKind.i64.wrap ((BitVec.ofInt 64 (n : Int) &&& BitVec.ofInt 64 255).toNat : Int) = _
  rw [key, IntKind.wrap_i64]
  omega
def fourL (lo : Nat) : List ByteArray := [decB (lo / 16777216 % 256), decB (lo / 65536 % 256), decB (lo / 256 % 256), decB (lo % 256)]
theorem fourL_short (lo : Nat) : Short (fourL lo) := by
  refine ⟨by simp [fourL], fun x hx => ?_⟩
  simp [fourL] at hx
  rcases hx with rfl | rfl | rfl | rfl <;> exact decB_short _ (by omega)

set_option maxRecDepth 100000 in
set_option maxHeartbeats 2000000 in
theorem textFour_any (hi lo : Nat) (w : World) (hlo : lo < 4294967296) (ht : Tabs w) : Calls Tryz.prog 25 #[.agg #[.bool false, .int .u64 (hi : Int), .int .u64 (lo : Int)]] w (Ret (.string (joinS (fourL lo) ⟨#[46]⟩)) w) := by
  obtain ⟨n0, hn0⟩ : ∃ n, (lo / 16777216 % 256) = n := ⟨_, rfl⟩
  have c0 : n0 < 1000 := by omega
  obtain ⟨n1, hn1⟩ : ∃ n, (lo / 65536 % 256) = n := ⟨_, rfl⟩
  have c1 : n1 < 1000 := by omega
  obtain ⟨n2, hn2⟩ : ∃ n, (lo / 256 % 256) = n := ⟨_, rfl⟩
  have c2 : n2 < 1000 := by omega
  obtain ⟨n3, hn3⟩ : ∃ n, (lo % 256) = n := ⟨_, rfl⟩
  have c3 : n3 < 1000 := by omega
  have b0 : Go.bits .and .u64 ((lo : Int) / 16777216) 255 = (n0 : Int) := by rw [show (lo : Int) / 16777216 = ((lo / 16777216 : Nat) : Int) by omega, and255, hn0]
  have b1 : Go.bits .and .u64 ((lo : Int) / 65536) 255 = (n1 : Int) := by rw [show (lo : Int) / 65536 = ((lo / 65536 : Nat) : Int) by omega, and255, hn1]
  have b2 : Go.bits .and .u64 ((lo : Int) / 256) 255 = (n2 : Int) := by rw [show (lo : Int) / 256 = ((lo / 256 : Nat) : Int) by omega, and255, hn2]
  have b3 : Go.bits .and .u64 (lo : Int) 255 = (n3 : Int) := by rw [and255, hn3]
  have hL : fourL lo = [decB n0, decB n1, decB n2, decB n3] := by unfold fourL; rw [hn0, hn1, hn2, hn3]
  have hLs := fourL_short lo
  rw [hL] at hLs ⊢
  clear hL hn0 hn1 hn2 hn3
  have H0 := Lib.hid fun wx (ht : Tabs wx) => fmtU10_any n0 (by omega) wx ht.1
  rw [show (⟨(Lib.decDigits n0).toArray⟩ : ByteArray) = decB n0 from rfl] at H0
  generalize decB n0 = d0 at *
  have H1 := Lib.hid fun wx (ht : Tabs wx) => fmtU10_any n1 (by omega) wx ht.1
  rw [show (⟨(Lib.decDigits n1).toArray⟩ : ByteArray) = decB n1 from rfl] at H1
  generalize decB n1 = d1 at *
  have H2 := Lib.hid fun wx (ht : Tabs wx) => fmtU10_any n2 (by omega) wx ht.1
  rw [show (⟨(Lib.decDigits n2).toArray⟩ : ByteArray) = decB n2 from rfl] at H2
  generalize decB n2 = d2 at *
  have H3 := Lib.hid fun wx (ht : Tabs wx) => fmtU10_any n3 (by omega) wx ht.1
  rw [show (⟨(Lib.decDigits n3).toArray⟩ : ByteArray) = decB n3 from rfl] at H3
  generalize decB n3 = d3 at *
  have HJ := Lib.hid fun g c wx h1 h2 h3 => joinAt_any g 0 c ([d0, d1, d2, d3] : List ByteArray) 46 wx hLs h1 h2 h3
  clear hLs
  generalize joinS ([d0, d1, d2, d3] : List ByteArray) ⟨#[46]⟩ = J at *
  have HP : Hid (Blk (w.alloc (.cells #[.bool false, .int .u64 (hi : Int), .int .u64 (lo : Int)] 29 (0, 0))) w.heap.size 29 #[.bool false, .int .u64 (hi : Int), .int .u64 (lo : Int)]) := Lib.hid (Blk.new w _ _)
  have HB : Hid (Below w.heap.size w (w.alloc (.cells #[.bool false, .int .u64 (hi : Int), .int .u64 (lo : Int)] 29 (0, 0)))) := Lib.hid (below_alloc (Below.refl _ _) _)
  have HT := Lib.hid (ht.below HB.out)
  clear ht
  go_enter Tryz.func25, Tryz.ntmps25
  go_upto_region 1 with fail
  generalize w.alloc (.cells #[.bool false, .int .u64 (hi : Int), .int .u64 (lo : Int)] 29 (0, 0)) = w0 at *
  have p0 := HP.out.cell 0
  simp at p0
  go_wp2
  go_loopw [3, 4, 14] (fun v iv i wr => ∃ k : Nat, k ≤ 4 ∧ i = .int .i64 k ∧ Hid (OwnS wr w0.heap.size v (([d0, d1, d2, d3] : List ByteArray).take k)) ∧ Hid (Below w0.heap.size w0 wr)) (fun _ _ i _ => 4 - (intOf i).toNat)
  case atStart => exact ⟨0, Nat.zero_le _, rfl, Lib.hid (OwnS.nil _ _), Lib.hid (Below.refl _ _)⟩
  case round =>
    clear p0
    obtain ⟨k, hk, rfl, HO, HBr⟩ := hrel
    have p2 := (HP.out.below HBr.out HP.out.lt).cell 2
    simp at p2
    by_cases hlt : k < 4
    · have hk4 : k = 0 ∨ k = 1 ∨ k = 2 ∨ k = 3 := by omega
      have HTr := Lib.hid (HT.out.below HBr.out)
      rcases hk4 with rfl | rfl | rfl | rfl
      · go_wp2_with fail
        refine (H0.out _ HTr.out).mono ?_
        rintro e w' ⟨rfl, hb⟩
        have HO1 := Lib.hid (HO.out.later hb)
        have HBr1 := Lib.hid (HBr.out.trans (hb.mono HBr.out.size))
        clear hb HO HBr HTr p2
        go_wp2_with (at_builtin; refine wpList_app strE rfl (.tmp 17) (.tmp 26) rfl rfl (World.ownsRow.alloc HO1.out _) rfl (src_one_new _ _ _) ?c1 ?c2 ?c3 ?c4 ?_)
        case c1 => first | rfl | (intro u hu; simp at hu; subst hu; rfl)
        case c2 => unfold maxLen; simp
        case c3 => simp
        case c4 => have := HBr1.out.size; simp; omega
        intro v' w2 hO hG
        have HO' := Lib.hid (OwnS.snoc hO)
        have HB' : Hid (Below w0.heap.size w0 w2) := Lib.hid ((Below.alloc HBr1.out HBr1.out.size _).trans (hG.below (by have := HBr1.out.size; simp; omega) (own_base HO1.out)))
        clear hO hG
        go_wp2
        exact ⟨⟨1, by decide, rfl, HO', HB'⟩, by simp [intOf]⟩
      · go_wp2_with fail
        refine (H1.out _ HTr.out).mono ?_
        rintro e w' ⟨rfl, hb⟩
        have HO1 := Lib.hid (HO.out.later hb)
        have HBr1 := Lib.hid (HBr.out.trans (hb.mono HBr.out.size))
        clear hb HO HBr HTr p2
        go_wp2_with (at_builtin; refine wpList_app strE rfl (.tmp 17) (.tmp 26) rfl rfl (World.ownsRow.alloc HO1.out _) rfl (src_one_new _ _ _) ?c1 ?c2 ?c3 ?c4 ?_)
        case c1 => first | rfl | (intro u hu; simp at hu; subst hu; rfl)
        case c2 => unfold maxLen; simp
        case c3 => simp
        case c4 => have := HBr1.out.size; simp; omega
        intro v' w2 hO hG
        have HO' := Lib.hid (OwnS.snoc hO)
        have HB' : Hid (Below w0.heap.size w0 w2) := Lib.hid ((Below.alloc HBr1.out HBr1.out.size _).trans (hG.below (by have := HBr1.out.size; simp; omega) (own_base HO1.out)))
        clear hO hG
        go_wp2
        exact ⟨⟨2, by decide, rfl, HO', HB'⟩, by simp [intOf]⟩
      · go_wp2_with fail
        refine (H2.out _ HTr.out).mono ?_
        rintro e w' ⟨rfl, hb⟩
        have HO1 := Lib.hid (HO.out.later hb)
        have HBr1 := Lib.hid (HBr.out.trans (hb.mono HBr.out.size))
        clear hb HO HBr HTr p2
        go_wp2_with (at_builtin; refine wpList_app strE rfl (.tmp 17) (.tmp 26) rfl rfl (World.ownsRow.alloc HO1.out _) rfl (src_one_new _ _ _) ?c1 ?c2 ?c3 ?c4 ?_)
        case c1 => first | rfl | (intro u hu; simp at hu; subst hu; rfl)
        case c2 => unfold maxLen; simp
        case c3 => simp
        case c4 => have := HBr1.out.size; simp; omega
        intro v' w2 hO hG
        have HO' := Lib.hid (OwnS.snoc hO)
        have HB' : Hid (Below w0.heap.size w0 w2) := Lib.hid ((Below.alloc HBr1.out HBr1.out.size _).trans (hG.below (by have := HBr1.out.size; simp; omega) (own_base HO1.out)))
        clear hO hG
        go_wp2
        exact ⟨⟨3, by decide, rfl, HO', HB'⟩, by simp [intOf]⟩
      · go_wp2_with fail
        refine (H3.out _ HTr.out).mono ?_
        rintro e w' ⟨rfl, hb⟩
        have HO1 := Lib.hid (HO.out.later hb)
        have HBr1 := Lib.hid (HBr.out.trans (hb.mono HBr.out.size))
        clear hb HO HBr HTr p2
        go_wp2_with (at_builtin; refine wpList_app strE rfl (.tmp 17) (.tmp 26) rfl rfl (World.ownsRow.alloc HO1.out _) rfl (src_one_new _ _ _) ?c1 ?c2 ?c3 ?c4 ?_)
        case c1 => first | rfl | (intro u hu; simp at hu; subst hu; rfl)
        case c2 => unfold maxLen; simp
        case c3 => simp
        case c4 => have := HBr1.out.size; simp; omega
        intro v' w2 hO hG
        have HO' := Lib.hid (OwnS.snoc hO)
        have HB' : Hid (Below w0.heap.size w0 w2) := Lib.hid ((Below.alloc HBr1.out HBr1.out.size _).trans (hG.below (by have := HBr1.out.size; simp; omega) (own_base HO1.out)))
        clear hO hG
        go_wp2
        exact ⟨⟨4, by decide, rfl, HO', HB'⟩, by simp [intOf]⟩
    · obtain rfl : k = 4 := by omega
      obtain ⟨g, c, hv, _, hg, hc, _, hcell⟩ := HO.out.one (by simp)
      have hv' : u3 = .slice (some ⟨g, 0, none⟩) 4 c := hv
      have hc' : 4 ≤ c := hc
      have HJ2 := Lib.hid (HJ.out g c wr hg hc' (fun j x hx => by rw [Nat.zero_add]; exact hcell j x hx))
      clear hv hc hcell p2 HJ
      subst hv'
      go_wp2_with fail
      refine HJ2.out.mono ?_
      rintro e w' ⟨rfl, hb⟩
      go_wp2_with fail
      go_ret
      exact ⟨rfl, HB.out.trans ((HBr.out.trans (hb.mono HBr.out.size)).mono HB.out.size)⟩
end Go.Proofs.YtcpafmndjcejjaaGreatDoor

namespace Go.Proofs.YtcpafmndjcejjaaGreatDoor
open Go.RowKit Go
set_option linter.unusedVariables false

set_option maxRecDepth 100000 in
set_option maxHeartbeats 2000000 in
theorem addrTextFour_any (hi lo : Nat) (w : World) (hhi : hi < 18446744073709551616) (hlo : lo < 4294967296) (ht : Tabs w) : Calls Tryz.prog 21 #[.agg #[.bool false, .int .u64 (hi : Int), .int .u64 (lo : Int)]] w (Ret (.string (joinS (fourL lo) ⟨#[46]⟩)) w) := by
  obtain ⟨n0, hn0⟩ : ∃ n, (lo / 16777216 % 256) = n := ⟨_, rfl⟩
  have c0 : n0 < 1000 := by omega
  obtain ⟨n1, hn1⟩ : ∃ n, (lo / 65536 % 256) = n := ⟨_, rfl⟩
  have c1 : n1 < 1000 := by omega
  obtain ⟨n2, hn2⟩ : ∃ n, (lo / 256 % 256) = n := ⟨_, rfl⟩
  have c2 : n2 < 1000 := by omega
  obtain ⟨n3, hn3⟩ : ∃ n, (lo % 256) = n := ⟨_, rfl⟩
  have c3 : n3 < 1000 := by omega
  have y1e : dg hi lo 1 = lo / 65536 % 65536 := rfl
  have y0e : dg hi lo 0 = lo % 65536 := rfl
  have q1 := wv_get false (dg hi lo) 1 (by decide)
  have q0 := wv_get false (dg hi lo) 0 (by decide)
  obtain ⟨y1, hy1⟩ : ∃ y, dg hi lo 1 = y := ⟨_, rfl⟩
  obtain ⟨y0, hy0⟩ : ∃ y, dg hi lo 0 = y := ⟨_, rfl⟩
  rw [hy1] at y1e q1
  rw [hy0] at y0e q0
  have b0 : (y1 : Int) / 256 = (n0 : Int) := by omega
  have b1 : Go.bits .and .i64 (y1 : Int) 255 = (n1 : Int) := by rw [and255i]; omega
  have b2 : (y0 : Int) / 256 = (n2 : Int) := by omega
  have b3 : Go.bits .and .i64 (y0 : Int) 255 = (n3 : Int) := by rw [and255i]; omega
  have HOf := Lib.hid fun wx => of_any false hi lo wx hhi (by omega)
  rw [wCells_wv] at HOf
  unfold vA at HOf
  have hyb1 : y1 < 65536 := by omega
  have hyb0 : y0 < 65536 := by omega
  have hL : fourL lo = [decB n0, decB n1, decB n2, decB n3] := by unfold fourL; rw [hn0, hn1, hn2, hn3]
  have hLs := fourL_short lo
  rw [hL] at hLs ⊢
  clear hL hn0 hn1 hn2 hn3 y1e y0e hy1 hy0
  have H0 := Lib.hid fun wx (ht : Tabs wx) => itoa_any n0 c0 wx ht.1
  rw [show (⟨(Lib.decDigits n0).toArray⟩ : ByteArray) = decB n0 from rfl] at H0
  generalize decB n0 = d0 at *
  have H1 := Lib.hid fun wx (ht : Tabs wx) => itoa_any n1 c1 wx ht.1
  rw [show (⟨(Lib.decDigits n1).toArray⟩ : ByteArray) = decB n1 from rfl] at H1
  generalize decB n1 = d1 at *
  have H2 := Lib.hid fun wx (ht : Tabs wx) => itoa_any n2 c2 wx ht.1
  rw [show (⟨(Lib.decDigits n2).toArray⟩ : ByteArray) = decB n2 from rfl] at H2
  generalize decB n2 = d2 at *
  have H3 := Lib.hid fun wx (ht : Tabs wx) => itoa_any n3 c3 wx ht.1
  rw [show (⟨(Lib.decDigits n3).toArray⟩ : ByteArray) = decB n3 from rfl] at H3
  generalize decB n3 = d3 at *
  have HJ := Lib.hid fun g c wx h1 h2 h3 => joinAt_any g 0 c ([d0, d1, d2, d3] : List ByteArray) 46 wx hLs h1 h2 h3
  clear hLs
  generalize joinS ([d0, d1, d2, d3] : List ByteArray) ⟨#[46]⟩ = J at *
  have Q1 := Lib.hid q1
  have Q0 := Lib.hid q0
  clear q1 q0
  have HP : Hid (Blk (w.alloc (.cells #[.bool false, .int .u64 (hi : Int), .int .u64 (lo : Int)] 29 (0, 0))) w.heap.size 29 #[.bool false, .int .u64 (hi : Int), .int .u64 (lo : Int)]) := Lib.hid (Blk.new w _ _)
  have HB : Hid (Below w.heap.size w (w.alloc (.cells #[.bool false, .int .u64 (hi : Int), .int .u64 (lo : Int)] 29 (0, 0)))) := Lib.hid (below_alloc (Below.refl _ _) _)
  have HT := Lib.hid (ht.below HB.out)
  clear ht
  go_enter Tryz.func21, Tryz.ntmps21
  go_upto_region 1 with fail
  generalize w.alloc (.cells #[.bool false, .int .u64 (hi : Int), .int .u64 (lo : Int)] 29 (0, 0)) = w0 at *
  have p0 := HP.out.cell 0
  have p1 := HP.out.cell 1
  have p2 := HP.out.cell 2
  simp at p0 p1 p2
  go_wp2_with fail
  refine (HOf.out _).mono ?_
  rintro e w1 ⟨rfl, hb⟩
  have hw1 : w.heap.size ≤ w1.heap.size := Nat.le_trans HB.out.size hb.size
  have HB1 : Hid (Below w.heap.size w (w1.alloc (.cells #[.int .i64 0, .int .i64 0, .int .i64 0, .int .i64 0, .int .i64 0, .int .i64 0, .int .i64 0, .int .i64 0, .int .i64 0] 86 (0, 0)))) := Lib.hid (below_alloc (HB.out.trans (hb.mono HB.out.size)) _)
  have HB2 := Lib.hid (belowRow HB1.out hw1 (wv false (dg hi lo)))
  have HT2 := Lib.hid ((HT.out.below hb).below (belowRow (below_alloc (Below.refl _ _) (.cells #[.int .i64 0, .int .i64 0, .int .i64 0, .int .i64 0, .int .i64 0, .int .i64 0, .int .i64 0, .int .i64 0, .int .i64 0] 86 (0, 0))) (Nat.le_refl _) (wv false (dg hi lo))))
  have HZ : Hid (Blk (w1.alloc (.cells #[.int .i64 0, .int .i64 0, .int .i64 0, .int .i64 0, .int .i64 0, .int .i64 0, .int .i64 0, .int .i64 0, .int .i64 0] 86 (0, 0))) w1.heap.size 86 #[.int .i64 0, .int .i64 0, .int .i64 0, .int .i64 0, .int .i64 0, .int .i64 0, .int .i64 0, .int .i64 0, .int .i64 0]) := Lib.hid (Blk.new w1 _ _)
  have HW2 : Hid (Blk ((w1.alloc (.cells #[.int .i64 0, .int .i64 0, .int .i64 0, .int .i64 0, .int .i64 0, .int .i64 0, .int .i64 0, .int .i64 0, .int .i64 0] 86 (0, 0))).setRow w1.heap.size (wv false (dg hi lo))) w1.heap.size 86 (wv false (dg hi lo))) := Lib.hid (HZ.out.row _)
  clear hb HB HT HP p0 p1 p2 HOf HB1
  go_upto_region 3 with (refine wpList_store_row rfl 86 (.tmp 3) (.tmp 16) rfl w1.heap.size (wv false (dg hi lo)) rfl rfl 86 #[.int .i64 0, .int .i64 0, .int .i64 0, .int .i64 0, .int .i64 0, .int .i64 0, .int .i64 0, .int .i64 0, .int .i64 0] HZ.out (by kernel_rfl) rfl (wv_one _ _) ?_)
  clear HZ
  generalize (w1.alloc (.cells #[.int .i64 0, .int .i64 0, .int .i64 0, .int .i64 0, .int .i64 0, .int .i64 0, .int .i64 0, .int .i64 0, .int .i64 0] 86 (0, 0))).setRow w1.heap.size (wv false (dg hi lo)) = w2 at *
  generalize w1.heap.size = V at *
  have c1 := HW2.out.cell 1
  have c0 := HW2.out.cell 0
  rw [Q1.out] at c1
  rw [Q0.out] at c0
  go_wp2_with fail
  have HR : Hid (Blk (w2.alloc (.cells #[.int .i64 (n0 : Int), .int .i64 (n1 : Int), .int .i64 (n2 : Int), .int .i64 (n3 : Int)] 3 (0, 0))) w2.heap.size 3 #[.int .i64 (n0 : Int), .int .i64 (n1 : Int), .int .i64 (n2 : Int), .int .i64 (n3 : Int)]) := Lib.hid (Blk.new w2 _ _)
  have HB3 := Lib.hid (below_alloc HB2.out (.cells #[.int .i64 (n0 : Int), .int .i64 (n1 : Int), .int .i64 (n2 : Int), .int .i64 (n3 : Int)] 3 (0, 0)))
  have HT3 := Lib.hid (HT2.out.below (below_alloc (Below.refl _ _) (.cells #[.int .i64 (n0 : Int), .int .i64 (n1 : Int), .int .i64 (n2 : Int), .int .i64 (n3 : Int)] 3 (0, 0))))
  clear c1 c0 HB2 HT2 HW2 Q1 Q0
  generalize w2.alloc (.cells #[.int .i64 (n0 : Int), .int .i64 (n1 : Int), .int .i64 (n2 : Int), .int .i64 (n3 : Int)] 3 (0, 0)) = w3 at *
  generalize w2.heap.size = R at *
  go_loopw [4, 6, 31] (fun v iv i wr => ∃ k : Nat, k ≤ 4 ∧ i = .int .i64 k ∧ Hid (OwnS wr w3.heap.size v (([d0, d1, d2, d3] : List ByteArray).take k)) ∧ Hid (Below w3.heap.size w3 wr)) (fun _ _ i _ => 4 - (intOf i).toNat)
  case atStart => exact ⟨0, Nat.zero_le _, rfl, Lib.hid (OwnS.nil _ _), Lib.hid (Below.refl _ _)⟩
  case round =>
    obtain ⟨k, hk, rfl, HO, HBr⟩ := hrel
    by_cases hlt : k < 4
    · have hk4 : k = 0 ∨ k = 1 ∨ k = 2 ∨ k = 3 := by omega
      have HTr := Lib.hid (HT3.out.below HBr.out)
      have HRr := Lib.hid (HR.out.below HBr.out HR.out.lt)
      rcases hk4 with rfl | rfl | rfl | rfl
      · have p := HRr.out.cell 0
        simp at p
        go_wp2_with fail
        refine (H0.out _ HTr.out).mono ?_
        rintro e w' ⟨rfl, hb⟩
        have HO1 := Lib.hid (HO.out.later hb)
        have HBr1 := Lib.hid (HBr.out.trans (hb.mono HBr.out.size))
        clear hb HO HBr HTr HRr p
        go_wp2_with (at_builtin; refine wpList_app strE rfl (.tmp 35) (.tmp 38) rfl rfl (World.ownsRow.alloc HO1.out _) rfl (src_one_new _ _ _) ?c1 ?c2 ?c3 ?c4 ?_)
        case c1 => first | rfl | (intro u hu; simp at hu; subst hu; rfl)
        case c2 => unfold maxLen; simp
        case c3 => simp
        case c4 => have := HBr1.out.size; simp; omega
        intro v' w4 hO hG
        have HO' := Lib.hid (OwnS.snoc hO)
        have HB' : Hid (Below w3.heap.size w3 w4) := Lib.hid ((Below.alloc HBr1.out HBr1.out.size _).trans (hG.below (by have := HBr1.out.size; simp; omega) (own_base HO1.out)))
        clear hO hG
        go_wp2
        exact ⟨⟨1, by decide, rfl, HO', HB'⟩, by simp [intOf]⟩
      · have p := HRr.out.cell 1
        simp at p
        go_wp2_with fail
        refine (H1.out _ HTr.out).mono ?_
        rintro e w' ⟨rfl, hb⟩
        have HO1 := Lib.hid (HO.out.later hb)
        have HBr1 := Lib.hid (HBr.out.trans (hb.mono HBr.out.size))
        clear hb HO HBr HTr HRr p
        go_wp2_with (at_builtin; refine wpList_app strE rfl (.tmp 35) (.tmp 38) rfl rfl (World.ownsRow.alloc HO1.out _) rfl (src_one_new _ _ _) ?c1 ?c2 ?c3 ?c4 ?_)
        case c1 => first | rfl | (intro u hu; simp at hu; subst hu; rfl)
        case c2 => unfold maxLen; simp
        case c3 => simp
        case c4 => have := HBr1.out.size; simp; omega
        intro v' w4 hO hG
        have HO' := Lib.hid (OwnS.snoc hO)
        have HB' : Hid (Below w3.heap.size w3 w4) := Lib.hid ((Below.alloc HBr1.out HBr1.out.size _).trans (hG.below (by have := HBr1.out.size; simp; omega) (own_base HO1.out)))
        clear hO hG
        go_wp2
        exact ⟨⟨2, by decide, rfl, HO', HB'⟩, by simp [intOf]⟩
      · have p := HRr.out.cell 2
        simp at p
        go_wp2_with fail
        refine (H2.out _ HTr.out).mono ?_
        rintro e w' ⟨rfl, hb⟩
        have HO1 := Lib.hid (HO.out.later hb)
        have HBr1 := Lib.hid (HBr.out.trans (hb.mono HBr.out.size))
        clear hb HO HBr HTr HRr p
        go_wp2_with (at_builtin; refine wpList_app strE rfl (.tmp 35) (.tmp 38) rfl rfl (World.ownsRow.alloc HO1.out _) rfl (src_one_new _ _ _) ?c1 ?c2 ?c3 ?c4 ?_)
        case c1 => first | rfl | (intro u hu; simp at hu; subst hu; rfl)
        case c2 => unfold maxLen; simp
        case c3 => simp
        case c4 => have := HBr1.out.size; simp; omega
        intro v' w4 hO hG
        have HO' := Lib.hid (OwnS.snoc hO)
        have HB' : Hid (Below w3.heap.size w3 w4) := Lib.hid ((Below.alloc HBr1.out HBr1.out.size _).trans (hG.below (by have := HBr1.out.size; simp; omega) (own_base HO1.out)))
        clear hO hG
        go_wp2
        exact ⟨⟨3, by decide, rfl, HO', HB'⟩, by simp [intOf]⟩
      · have p := HRr.out.cell 3
        simp at p
        go_wp2_with fail
        refine (H3.out _ HTr.out).mono ?_
        rintro e w' ⟨rfl, hb⟩
        have HO1 := Lib.hid (HO.out.later hb)
        have HBr1 := Lib.hid (HBr.out.trans (hb.mono HBr.out.size))
        clear hb HO HBr HTr HRr p
        go_wp2_with (at_builtin; refine wpList_app strE rfl (.tmp 35) (.tmp 38) rfl rfl (World.ownsRow.alloc HO1.out _) rfl (src_one_new _ _ _) ?c1 ?c2 ?c3 ?c4 ?_)
        case c1 => first | rfl | (intro u hu; simp at hu; subst hu; rfl)
        case c2 => unfold maxLen; simp
        case c3 => simp
        case c4 => have := HBr1.out.size; simp; omega
        intro v' w4 hO hG
        have HO' := Lib.hid (OwnS.snoc hO)
        have HB' : Hid (Below w3.heap.size w3 w4) := Lib.hid ((Below.alloc HBr1.out HBr1.out.size _).trans (hG.below (by have := HBr1.out.size; simp; omega) (own_base HO1.out)))
        clear hO hG
        go_wp2
        exact ⟨⟨4, by decide, rfl, HO', HB'⟩, by simp [intOf]⟩
    · obtain rfl : k = 4 := by omega
      obtain ⟨g, c, hv, _, hg, hc, _, hcell⟩ := HO.out.one (by simp)
      have hv' : u4 = .slice (some ⟨g, 0, none⟩) 4 c := hv
      have hc' : 4 ≤ c := hc
      have HJ2 := Lib.hid (HJ.out g c wr hg hc' (fun j x hx => by rw [Nat.zero_add]; exact hcell j x hx))
      clear hv hc hcell HJ
      subst hv'
      go_wp2_with fail
      refine HJ2.out.mono ?_
      rintro e w' ⟨rfl, hb⟩
      go_wp2_with fail
      go_ret
      exact ⟨rfl, HB3.out.trans ((HBr.out.trans (hb.mono HBr.out.size)).mono HB3.out.size)⟩
end Go.Proofs.YtcpafmndjcejjaaGreatDoor
