/-
  Addresses of four numbers as text: textOf of the program, AddrText of the reference.
-/
import Derived.Test.YtofjlpnebfijoaaDoorDec
import Derived.Test.YtofjlpnebfijoaaDoorPFault
import Derived.Lib.ItoaLen
namespace Go.Proofs.YtofjlpnebfijoaaDoor
open Go.RowKit Go
set_option linter.unusedVariables false

def decB (n : Nat) : ByteArray := ⟨(Lib.decDigits n).toArray⟩
def joinS (L : List ByteArray) (sep : ByteArray) : ByteArray := ⟨(Lib.join (L.map (·.data.toList)) sep.data.toList).toArray⟩
theorem interc_len (sep : List UInt8) (K : Nat) : ∀ Ls : List (List UInt8), (∀ x ∈ Ls, x.length ≤ K) → (Lib.join Ls sep).length ≤ Ls.length * (K + sep.length)
  | [], _ => by simp [Lib.join_nil]
  | [x], h => by
    rw [Lib.join_one]
    have := h x (by simp)
    simp
    omega
  | x :: y :: l, h => by
    have h1 := interc_len sep K (y :: l) fun z hz => h z (by simp at hz ⊢; right; exact hz)
    have h2 := h x (by simp)
    have h3 : Lib.join (x :: y :: l) sep = x ++ sep ++ Lib.join (y :: l) sep := by simp [Lib.join, List.intercalate, List.intersperse]
    rw [h3]
    simp only [List.length_append, List.length_cons, Nat.add_mul, Nat.one_mul] at h1 ⊢
    omega
/-- short strings -/
def Short (L : List ByteArray) : Prop := L.length ≤ 8 ∧ ∀ x ∈ L, x.data.toList.length ≤ 30
theorem decB_short (n : Nat) (h : n < 18446744073709551616) : (decB n).data.toList.length ≤ 30 := by
  have := Lib.nDigits_le20 n h
  rw [← Lib.decDigits_length] at this
  simp [decB]
  omega
/-- strings.Join at a piece of a row of strings -/
theorem joinAt_any (g o c : Nat) (L : List ByteArray) (b : UInt8) (w : World) (hs : Short L) (hg : g < w.heap.size) (hc : L.length ≤ c) (hcells : ∀ (j : Nat) x, L[j]? = some x → w.cell? ⟨g, o + j, none⟩ = some (.string x)) :
    Calls Tryd.prog 19 #[.slice (some ⟨g, o, none⟩) L.length c, .string ⟨#[b]⟩] w (Ret (.string (joinS L ⟨#[b]⟩)) w) := by
  have hl := interc_len ((⟨#[b]⟩ : ByteArray).data.toList) 30 (L.map (·.data.toList)) (fun x hx => by
    obtain ⟨y, hy, rfl⟩ := List.mem_map.1 hx
    exact hs.2 y hy)
  rw [List.length_map] at hl
  have h1 := hs.1
  have hsep : ((⟨#[b]⟩ : ByteArray).data.toList).length = 1 := rfl
  rw [hsep] at hl
  exact (Tryd.strings_Join g o c L ⟨#[b]⟩ w hcells hg (by omega) hc (by omega)).mono fun e w' h => h
theorem and255 (n : Nat) : Go.bits .and .u64 (n : Int) 255 = ((n % 256 : Nat) : Int) := by
  have h127 : (BitVec.ofInt 64 255).toNat = 2 ^ 8 - 1 := by decide
  have key : (BitVec.ofInt 64 (n : Int) &&& BitVec.ofInt 64 255).toNat = n % 256 := by
    rw [BitVec.toNat_and, BitVec.toNat_ofInt, h127, Nat.and_two_pow_sub_one_eq_mod]
    omega
  show IntKind.u64.wrap ((BitVec.ofInt 64 (n : Int) &&& BitVec.ofInt 64 255).toNat : Int) = _
  rw [key, IntKind.wrap_u64]
  omega
theorem and255i (n : Nat) : Go.bits .and .i64 (n : Int) 255 = ((n % 256 : Nat) : Int) := by
  have h127 : (BitVec.ofInt 64 255).toNat = 2 ^ 8 - 1 := by decide
  have key : (BitVec.ofInt 64 (n : Int) &&& BitVec.ofInt 64 255).toNat = n % 256 := by
    rw [BitVec.toNat_and, BitVec.toNat_ofInt, h127, Nat.and_two_pow_sub_one_eq_mod]
    omega
  show IntKind.i64.wrap ((BitVec.ofInt 64 (n : Int) &&& BitVec.ofInt 64 255).toNat : Int) = _
  rw [key, IntKind.wrap_i64]
  omega
def fourL (lo : Nat) : List ByteArray := [decB (lo / 16777216 % 256), decB (lo / 65536 % 256), decB (lo / 256 % 256), decB (lo % 256)]
theorem fourL_short (lo : Nat) : Short (fourL lo) := by
  refine ⟨by simp [fourL], fun x hx => ?_⟩
  simp [fourL] at hx
  rcases hx with rfl | rfl | rfl | rfl <;> exact decB_short _ (by omega)

set_option maxRecDepth 100000 in
set_option maxHeartbeats 2000000 in
theorem textFour_any (hi lo : Nat) (w : World) (hlo : lo < 4294967296) (ht : Tabs w) : Calls Tryd.prog 16 #[.agg #[.bool false, .int .u64 (hi : Int), .int .u64 (lo : Int)]] w (Ret (.string (joinS (fourL lo) ⟨#[46]⟩)) w) := by
  obtain ⟨n0, hn0⟩ : ∃ n, (lo / 16777216 % 256) = n := ⟨_, rfl⟩
  have c0 : n0 < 1000 := by omega
  obtain ⟨n1, hn1⟩ : ∃ n, (lo / 65536 % 256) = n := ⟨_, rfl⟩
  have c1 : n1 < 1000 := by omega
  obtain ⟨n2, hn2⟩ : ∃ n, (lo / 256 % 256) = n := ⟨_, rfl⟩
  have c2 : n2 < 1000 := by omega
  obtain ⟨n3, hn3⟩ : ∃ n, (lo % 256) = n := ⟨_, rfl⟩
  have c3 : n3 < 1000 := by omega
  have b0 : Go.bits .and .u64 ((lo : Int) / 16777216) 255 = (n0 : Int) := by rw [show (lo : Int) / 16777216 = ((lo / 16777216 : Nat) : Int) by omega, and255, hn0]
  have b1 : Go.bits .and .u64 ((lo : Int) / 65536) 255 = (n1 : Int) := by rw [show (lo : Int) / 65536 = ((lo / 65536 : Nat) : Int) by omega, and255, hn1]
  have b2 : Go.bits .and .u64 ((lo : Int) / 256) 255 = (n2 : Int) := by rw [show (lo : Int) / 256 = ((lo / 256 : Nat) : Int) by omega, and255, hn2]
  have b3 : Go.bits .and .u64 (lo : Int) 255 = (n3 : Int) := by rw [and255, hn3]
  have hL : fourL lo = [decB n0, decB n1, decB n2, decB n3] := by unfold fourL; rw [hn0, hn1, hn2, hn3]
  have hLs := fourL_short lo
  rw [hL] at hLs ⊢
  clear hL hn0 hn1 hn2 hn3
  have H0 := Lib.hid fun wx (ht : Tabs wx) => fmtU10_any n0 c0 wx ht.1
  rw [show (⟨(Lib.decDigits n0).toArray⟩ : ByteArray) = decB n0 from rfl] at H0
  generalize decB n0 = d0 at *
  have H1 := Lib.hid fun wx (ht : Tabs wx) => fmtU10_any n1 c1 wx ht.1
  rw [show (⟨(Lib.decDigits n1).toArray⟩ : ByteArray) = decB n1 from rfl] at H1
  generalize decB n1 = d1 at *
  have H2 := Lib.hid fun wx (ht : Tabs wx) => fmtU10_any n2 c2 wx ht.1
  rw [show (⟨(Lib.decDigits n2).toArray⟩ : ByteArray) = decB n2 from rfl] at H2
  generalize decB n2 = d2 at *
  have H3 := Lib.hid fun wx (ht : Tabs wx) => fmtU10_any n3 c3 wx ht.1
  rw [show (⟨(Lib.decDigits n3).toArray⟩ : ByteArray) = decB n3 from rfl] at H3
  generalize decB n3 = d3 at *
  have HJ := Lib.hid fun g c wx h1 h2 h3 => joinAt_any g 0 c ([d0, d1, d2, d3] : List ByteArray) 46 wx hLs h1 h2 h3
  clear hLs
  generalize joinS ([d0, d1, d2, d3] : List ByteArray) ⟨#[46]⟩ = J at *
  have HP : Hid (Blk (w.alloc (.cells #[.bool false, .int .u64 (hi : Int), .int .u64 (lo : Int)] 28 (0, 0))) w.heap.size 28 #[.bool false, .int .u64 (hi : Int), .int .u64 (lo : Int)]) := Lib.hid (Blk.new w _ _)
  have HB : Hid (Below w.heap.size w (w.alloc (.cells #[.bool false, .int .u64 (hi : Int), .int .u64 (lo : Int)] 28 (0, 0)))) := Lib.hid (below_alloc (Below.refl _ _) _)
  have HT := Lib.hid (ht.below HB.out)
  clear ht
  go_enter Tryd.func16, Tryd.ntmps16
  go_upto_region 1 with fail
  generalize w.alloc (.cells #[.bool false, .int .u64 (hi : Int), .int .u64 (lo : Int)] 28 (0, 0)) = w0 at *
  have p0 := HP.out.cell 0
  simp at p0
  go_wp2
  go_loopw [3, 4, 14] (fun v iv i wr => ∃ k : Nat, k ≤ 4 ∧ i = .int .i64 k ∧ Hid (OwnS wr w0.heap.size v (([d0, d1, d2, d3] : List ByteArray).take k)) ∧ Hid (Below w0.heap.size w0 wr)) (fun _ _ i _ => 4 - (intOf i).toNat)
  case atStart => exact ⟨0, Nat.zero_le _, rfl, Lib.hid (OwnS.nil _ _), Lib.hid (Below.refl _ _)⟩
  case round =>
    clear p0
    obtain ⟨k, hk, rfl, HO, HBr⟩ := hrel
    have p2 := (HP.out.below HBr.out HP.out.lt).cell 2
    simp at p2
    by_cases hlt : k < 4
    · have hk4 : k = 0 ∨ k = 1 ∨ k = 2 ∨ k = 3 := by omega
      have HTr := Lib.hid (HT.out.below HBr.out)
      rcases hk4 with rfl | rfl | rfl | rfl
      · go_wp2_with fail
        refine (H0.out _ HTr.out).mono ?_
        rintro e w' ⟨rfl, hb⟩
        have HO1 := Lib.hid (HO.out.later hb)
        have HBr1 := Lib.hid (HBr.out.trans (hb.mono HBr.out.size))
        clear hb HO HBr HTr p2
        go_wp2_with (at_builtin; refine wpList_app strE rfl (.tmp 17) (.tmp 26) rfl rfl (World.ownsRow.alloc HO1.out _) rfl (src_one_new _ _ _) ?c1 ?c2 ?c3 ?c4 ?_)
        case c1 => first | rfl | (intro u hu; simp at hu; subst hu; rfl)
        case c2 => unfold maxLen; simp
        case c3 => simp
        case c4 => have := HBr1.out.size; simp; omega
        intro v' w2 hO hG
        have HO' := Lib.hid (OwnS.snoc hO)
        have HB' : Hid (Below w0.heap.size w0 w2) := Lib.hid ((Below.alloc HBr1.out HBr1.out.size _).trans (hG.below (by have := HBr1.out.size; simp; omega) (own_base HO1.out)))
        clear hO hG
        go_wp2
        exact ⟨⟨1, by decide, rfl, HO', HB'⟩, by simp [intOf]⟩
      · go_wp2_with fail
        refine (H1.out _ HTr.out).mono ?_
        rintro e w' ⟨rfl, hb⟩
        have HO1 := Lib.hid (HO.out.later hb)
        have HBr1 := Lib.hid (HBr.out.trans (hb.mono HBr.out.size))
        clear hb HO HBr HTr p2
        go_wp2_with (at_builtin; refine wpList_app strE rfl (.tmp 17) (.tmp 26) rfl rfl (World.ownsRow.alloc HO1.out _) rfl (src_one_new _ _ _) ?c1 ?c2 ?c3 ?c4 ?_)
        case c1 => first | rfl | (intro u hu; simp at hu; subst hu; rfl)
        case c2 => unfold maxLen; simp
        case c3 => simp
        case c4 => have := HBr1.out.size; simp; omega
        intro v' w2 hO hG
        have HO' := Lib.hid (OwnS.snoc hO)
        have HB' : Hid (Below w0.heap.size w0 w2) := Lib.hid ((Below.alloc HBr1.out HBr1.out.size _).trans (hG.below (by have := HBr1.out.size; simp; omega) (own_base HO1.out)))
        clear hO hG
        go_wp2
        exact ⟨⟨2, by decide, rfl, HO', HB'⟩, by simp [intOf]⟩
      · go_wp2_with fail
        refine (H2.out _ HTr.out).mono ?_
        rintro e w' ⟨rfl, hb⟩
        have HO1 := Lib.hid (HO.out.later hb)
        have HBr1 := Lib.hid (HBr.out.trans (hb.mono HBr.out.size))
        clear hb HO HBr HTr p2
        go_wp2_with (at_builtin; refine wpList_app strE rfl (.tmp 17) (.tmp 26) rfl rfl (World.ownsRow.alloc HO1.out _) rfl (src_one_new _ _ _) ?c1 ?c2 ?c3 ?c4 ?_)
        case c1 => first | rfl | (intro u hu; simp at hu; subst hu; rfl)
        case c2 => unfold maxLen; simp
        case c3 => simp
        case c4 => have := HBr1.out.size; simp; omega
        intro v' w2 hO hG
        have HO' := Lib.hid (OwnS.snoc hO)
        have HB' : Hid (Below w0.heap.size w0 w2) := Lib.hid ((Below.alloc HBr1.out HBr1.out.size _).trans (hG.below (by have := HBr1.out.size; simp; omega) (own_base HO1.out)))
        clear hO hG
        go_wp2
        exact ⟨⟨3, by decide, rfl, HO', HB'⟩, by simp [intOf]⟩
      · go_wp2_with fail
        refine (H3.out _ HTr.out).mono ?_
        rintro e w' ⟨rfl, hb⟩
        have HO1 := Lib.hid (HO.out.later hb)
        have HBr1 := Lib.hid (HBr.out.trans (hb.mono HBr.out.size))
        clear hb HO HBr HTr p2
        go_wp2_with (at_builtin; refine wpList_app strE rfl (.tmp 17) (.tmp 26) rfl rfl (World.ownsRow.alloc HO1.out _) rfl (src_one_new _ _ _) ?c1 ?c2 ?c3 ?c4 ?_)
        case c1 => first | rfl | (intro u hu; simp at hu; subst hu; rfl)
        case c2 => unfold maxLen; simp
        case c3 => simp
        case c4 => have := HBr1.out.size; simp; omega
        intro v' w2 hO hG
        have HO' := Lib.hid (OwnS.snoc hO)
        have HB' : Hid (Below w0.heap.size w0 w2) := Lib.hid ((Below.alloc HBr1.out HBr1.out.size _).trans (hG.below (by have := HBr1.out.size; simp; omega) (own_base HO1.out)))
        clear hO hG
        go_wp2
        exact ⟨⟨4, by decide, rfl, HO', HB'⟩, by simp [intOf]⟩
    · obtain rfl : k = 4 := by omega
      obtain ⟨g, c, hv, _, hg, hc, _, hcell⟩ := HO.out.one (by simp)
      have hv' : u3 = .slice (some ⟨g, 0, none⟩) 4 c := hv
      have hc' : 4 ≤ c := hc
      have HJ2 := Lib.hid (HJ.out g c wr hg hc' (fun j x hx => by rw [Nat.zero_add]; exact hcell j x hx))
      clear hv hc hcell p2 HJ
      subst hv'
      go_wp2_with fail
      refine HJ2.out.mono ?_
      rintro e w' ⟨rfl, hb⟩
      go_wp2_with fail
      go_ret
      exact ⟨rfl, HB.out.trans ((HBr.out.trans (hb.mono HBr.out.size)).mono HB.out.size)⟩
end Go.Proofs.YtofjlpnebfijoaaDoor
