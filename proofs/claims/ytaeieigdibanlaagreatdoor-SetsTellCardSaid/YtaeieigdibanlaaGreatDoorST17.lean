/-
  The reference's RestOf, UnionOf, BothOf, WithoutOf.
  Spans.Has: binary search in spans.
  Covers and Has of the program; CoversOf of the reference.
  The reference's HasOf: whether an address is in one of some prefixes.
  Has of the program and of the reference at any address.
  Numbers below 65536 in hexadecimal digits: strconv.FormatUint, FormatInt at base 16.
  Decimal and hexadecimal numerals of small numbers: strconv.FormatUint, FormatInt, Itoa over the laid tables.
  The program's numbers of 192 bits: a power of 2 added.
-/
import Derived.Test.YtaeieigdibanlaaGreatDoorST16
import Derived.Test.YtaeieigdibanlaaGreatDoorST15
import Derived.Test.YtaeieigdibanlaaGreatDoorST13
import Derived.Test.YtaeieigdibanlaaGreatDoorST4
import Derived.Deep.Light
import Derived.Test.YtaeieigdibanlaaGreatDoorST1
import Derived.Lib.LaidTab
import Derived.Lib.SlBytesRow
import Derived.Test.YtaeieigdibanlaaGreatDoorST11
import Derived.Lib.AppendIntMem
import Derived.LaidSub
import Derived.MakeChecks
import Derived.Test.YtaeieigdibanlaaGreatDoorST18
set_option linter.unusedVariables false
namespace Go.Proofs.YtaeieigdibanlaaGreatDoor
open Go.RowKit Go
set_option linter.unusedVariables false

theorem pfs_len {S : List Sp} (hv : ∀ p ∈ S, VR p) : (pfs S).length ≤ 257 * S.length := by
  unfold pfs
  rw [List.length_map]
  exact allB_crude hv
set_option maxRecDepth 100000 in
set_option maxHeartbeats 1000000 in
theorem restOf_any (ad : Option Addr) (n c : Nat) (L : List Pf) (w : World) (h : RdK layPf w ad L) (hn : L.length = n) (hs : n ≤ 10000) (hv : ∀ p ∈ L, OkPf p) :
    Calls Tryz.prog 68 #[.slice ad n c] w fun e w' => ∃ v, e = .returned v ∧ OwnK layPf w' w.heap.size v (restR L) ∧ Below w.heap.size w w' := by
  have HS := Lib.hid (spansOf_any ad n c L w h hn (by omega) hv)
  have HJv : Hid (∀ p ∈ jn (L.map spP), VR p) := Lib.hid (spn_vr hv)
  have HJc : Hid (Can (jn (L.map spP))) := Lib.hid (spn_can hv)
  have HJl : Hid ((jn (L.map spP)).length ≤ n) := Lib.hid (by rw [← hn]; exact spn_len L)
  have HR : Hid (restR L = pfs (gaps (jn (L.map spP)))) := Lib.hid rfl
  clear h hn hv
  generalize jn (L.map spP) = J at *
  go_enter Tryz.func68, Tryz.ntmps68
  go_wp2_with fail
  refine HS.out.mono ?_
  rintro e w3 ⟨v, rfl, hO, hB⟩
  obtain ⟨ad3, c3, rfl, _⟩ := hO.form
  have HT := Lib.hid (gaps_any ad3 J.length c3 J w3 hO.rd rfl (by have := HJl.out; omega) HJc.out HJv.out)
  have HB3 := Lib.hid hB
  have HGv := Lib.hid (gaps_ok HJc.out HJv.out).2.2
  have HGl := Lib.hid (gaps_len J)
  have HJl2 := Lib.hid HJl.out
  clear hO hB HS HJv HJc
  generalize gaps J = G at *
  generalize J.length = jl at *
  go_wp2_with fail
  refine HT.out.mono ?_
  rintro e w4 ⟨v, rfl, hO, hB⟩
  obtain ⟨ad4, c4, rfl, _⟩ := hO.form
  have HQ := Lib.hid (qprefixes_any ad4 G.length c4 G w4 hO.rd rfl (by have := HGl.out; have := HJl2.out; omega) HGv.out)
  have HB4 := Lib.hid (HB3.out.trans (hB.mono HB3.out.size))
  clear hO hB HT HGv HGl
  generalize G.length = gl at *
  go_wp2_with fail
  refine HQ.out.mono ?_
  rintro e w5 ⟨v, rfl, hO, hB⟩
  have HO5 := Lib.hid (hO.weak HB4.out.size)
  have HB5 := Lib.hid (HB4.out.trans (hB.mono HB4.out.size))
  clear hO hB
  go_wp2_with fail
  go_ret
  exact ⟨_, rfl, by rw [HR.out]; exact HO5.out, HB5.out⟩
set_option maxRecDepth 100000 in
set_option maxHeartbeats 1000000 in
theorem unionOf_any (ad1 ad2 : Option Addr) (n1 c1 n2 c2 : Nat) (L1 L2 : List Pf) (w : World) (h1 : RdK layPf w ad1 L1) (h2 : RdK layPf w ad2 L2) (hn1 : L1.length = n1) (hn2 : L2.length = n2) (hs : n1 + n2 ≤ 100000) (hv1 : ∀ p ∈ L1, OkPf p) (hv2 : ∀ p ∈ L2, OkPf p) :
    Calls Tryz.prog 69 #[.slice ad1 n1 c1, .slice ad2 n2 c2] w fun e w' => ∃ v, e = .returned v ∧ OwnK layPf w' w.heap.size v (unionR L1 L2) ∧ Below w.heap.size w w' := by
  have hb0 : Below w.heap.size w (w.alloc (.cells #[.slice ad1 n1 c1, .slice ad2 n2 c2] 53 (0, 0))) := below_alloc (Below.refl _ _) _
  have HC := Lib.hid fun c => concatPf_any w.heap.size c ad1 ad2 n1 c1 n2 c2 L1 L2 (w.alloc (.cells #[.slice ad1 n1 c1, .slice ad2 n2 c2] 53 (0, 0))) (heap_alloc_new w _) (h1.below hb0) (h2.below hb0) hn1 hn2 (by omega) (by omega)
  have HB0 := Lib.hid hb0
  obtain ⟨LL, hLL⟩ : ∃ LL, L1 ++ L2 = LL := ⟨_, rfl⟩
  obtain ⟨m, hm⟩ : ∃ m, LL.length = m := ⟨_, rfl⟩
  have hmb : m ≤ 100000 := by rw [← hm, ← hLL, List.length_append, hn1, hn2]; exact hs
  have HV := Lib.hid (ok_append hv1 hv2)
  have HU : Hid (unionR L1 L2 = lst LL) := Lib.hid (by rw [← hLL]; rfl)
  rw [hLL] at HC HV
  have Hm := Lib.hid hm
  clear h1 h2 hn1 hn2 hv1 hv2 hb0 hLL hm
  go_enter Tryz.func69, Tryz.ntmps69
  go_wp2_with fail
  refine (HC.out _).mono ?_
  rintro e w3 ⟨v, rfl, hO, hB⟩
  obtain ⟨ad3, c3, rfl, _⟩ := hO.form
  rw [Hm.out] at hO ⊢
  have HT := Lib.hid (leastOf_any ad3 m c3 LL w3 hO.rd Hm.out hmb HV.out)
  have HB3 := Lib.hid (HB0.out.trans (hB.mono HB0.out.size))
  clear hO hB HC HB0
  go_wp2_with fail
  refine HT.out.mono ?_
  rintro e w4 ⟨v, rfl, hO, hB⟩
  have HO4 := Lib.hid (hO.weak HB3.out.size)
  have HB4 := Lib.hid (HB3.out.trans (hB.mono HB3.out.size))
  clear hO hB
  go_wp2_with fail
  go_ret
  exact ⟨_, rfl, by rw [HU.out]; exact HO4.out, HB4.out⟩
set_option maxRecDepth 100000 in
set_option maxHeartbeats 1000000 in
theorem bothOf_any (ad1 ad2 : Option Addr) (n1 c1 n2 c2 : Nat) (L1 L2 : List Pf) (w : World) (h1 : RdK layPf w ad1 L1) (h2 : RdK layPf w ad2 L2) (hn1 : L1.length = n1) (hn2 : L2.length = n2) (hs1 : n1 ≤ 10000) (hs2 : n2 ≤ 10000) (hr1 : (restR L1).length ≤ 4500) (hr2 : (restR L2).length ≤ 4500) (hv1 : ∀ p ∈ L1, OkPf p) (hv2 : ∀ p ∈ L2, OkPf p) :
    Calls Tryz.prog 28 #[.slice ad1 n1 c1, .slice ad2 n2 c2] w fun e w' => ∃ v, e = .returned v ∧ OwnK layPf w' w.heap.size v (bothR L1 L2) ∧ Below w.heap.size w w' := by
  have HR1 := Lib.hid (restOf_any ad1 n1 c1 L1 w h1 hn1 hs1 hv1)
  have HR2 := Lib.hid fun wx (hr : RdK layPf wx ad2 L2) => restOf_any ad2 n2 c2 L2 wx hr hn2 hs2 hv2
  have H2 := Lib.hid h2
  have HV1 := Lib.hid (ok_restR hv1)
  have HV2 := Lib.hid (ok_restR hv2)
  have HVu := Lib.hid (ok_unionR (ok_restR hv1) (ok_restR hv2))
  have HL1 := Lib.hid hr1
  have HL2 := Lib.hid hr2
  have HUl : Hid ((unionR (restR L1) (restR L2)).length ≤ 9000) := Lib.hid (by
    have := lst_len (ok_append (ok_restR hv1) (ok_restR hv2))
    rw [List.length_append] at this
    unfold unionR
    omega)
  have HBo : Hid (bothR L1 L2 = restR (unionR (restR L1) (restR L2))) := Lib.hid rfl
  clear h1 h2 hn1 hn2 hv1 hv2 hr1 hr2
  generalize restR L1 = R1 at *
  generalize restR L2 = R2 at *
  go_enter Tryz.func28, Tryz.ntmps28
  go_wp2_with fail
  refine HR1.out.mono ?_
  rintro e w3 ⟨v, rfl, hO, hB⟩
  obtain ⟨ad3, c3, rfl, _⟩ := hO.form
  have HO3 := Lib.hid hO.rd
  have HB3 := Lib.hid hB
  have HX2 := Lib.hid (H2.out.below hB)
  clear hO hB HR1 H2
  obtain ⟨m1, hm1⟩ : ∃ m, R1.length = m := ⟨_, rfl⟩
  have Hm1 := Lib.hid hm1
  rw [hm1]
  clear hm1
  go_wp2_with fail
  refine (HR2.out _ HX2.out).mono ?_
  rintro e w4 ⟨v, rfl, hO, hB⟩
  obtain ⟨ad4, c4, rfl, _⟩ := hO.form
  have HO4 := Lib.hid hO.rd
  have HO34 := Lib.hid (HO3.out.below hB)
  have HB4 := Lib.hid (HB3.out.trans (hB.mono HB3.out.size))
  clear hO hB HR2 HX2 HO3 HB3
  obtain ⟨m2, hm2⟩ : ∃ m, R2.length = m := ⟨_, rfl⟩
  have Hm2 := Lib.hid hm2
  rw [hm2]
  clear hm2
  have HU := Lib.hid (unionOf_any ad3 ad4 m1 c3 m2 c4 R1 R2 w4 HO34.out HO4.out Hm1.out Hm2.out (by have := HL1.out; have := HL2.out; rw [Hm1.out] at *; rw [Hm2.out] at *; omega) HV1.out HV2.out)
  clear HO34 HO4
  go_wp2_with fail
  refine HU.out.mono ?_
  rintro e w5 ⟨v, rfl, hO, hB⟩
  obtain ⟨ad5, c5, rfl, _⟩ := hO.form
  have HT := Lib.hid (restOf_any ad5 (unionR R1 R2).length c5 (unionR R1 R2) w5 hO.rd rfl (by have := HUl.out; omega) HVu.out)
  rw [← HBo.out] at HT
  have HB5 := Lib.hid (HB4.out.trans (hB.mono HB4.out.size))
  clear hO hB HU HB4
  generalize (unionR R1 R2).length = ul at *
  go_wp2_with fail
  refine HT.out.mono ?_
  rintro e w6 ⟨v, rfl, hO, hB⟩
  have HO6 := Lib.hid (hO.weak HB5.out.size)
  have HB6 := Lib.hid (HB5.out.trans (hB.mono HB5.out.size))
  clear hO hB
  go_wp2_with fail
  go_ret
  exact ⟨_, rfl, HO6.out, HB6.out⟩
end Go.Proofs.YtaeieigdibanlaaGreatDoor

namespace Go.Proofs.YtaeieigdibanlaaGreatDoor
open Go.RowKit Go
set_option linter.unusedVariables false

set_option maxRecDepth 100000 in
set_option maxHeartbeats 1000000 in
theorem has1_any (p : Sp) (x : Nat) (w : World) (hp : VN p.1) (hx : VN x) : Calls Tryz.prog 120 #[.agg (rgC p).toArray, .agg (aN x)] w (Ret (.int .i64 (cN p.1 x)) w) := by
  have HC := Lib.hid fun wx => spanCompareN wx hp hx
  obtain ⟨a1, a2, a3, a4, a5, a6, hpc, ha, -, -, -⟩ := rg_cells p
  rw [ha] at HC
  rw [hpc]
  unfold aN at HC ⊢
  generalize cN p.1 x = R at *
  clear hp hx hpc ha
  generalize sixN x = x1 at *
  generalize hiN x = x2 at *
  generalize loN x = x3 at *
  have HP : Hid (Blk ((w.alloc (.cells #[.bool a1, .int .u64 (a2 : Int), .int .u64 (a3 : Int), .bool a4, .int .u64 (a5 : Int), .int .u64 (a6 : Int)] 143 (0, 0))).alloc (.cells #[.bool x1, .int .u64 (x2 : Int), .int .u64 (x3 : Int)] 33 (0, 0))) w.heap.size 143 #[.bool a1, .int .u64 (a2 : Int), .int .u64 (a3 : Int), .bool a4, .int .u64 (a5 : Int), .int .u64 (a6 : Int)]) := Lib.hid ((Blk.new w _ _).alloc _)
  have HX : Hid (Blk ((w.alloc (.cells #[.bool a1, .int .u64 (a2 : Int), .int .u64 (a3 : Int), .bool a4, .int .u64 (a5 : Int), .int .u64 (a6 : Int)] 143 (0, 0))).alloc (.cells #[.bool x1, .int .u64 (x2 : Int), .int .u64 (x3 : Int)] 33 (0, 0))) (w.heap.size + 1) 33 #[.bool x1, .int .u64 (x2 : Int), .int .u64 (x3 : Int)]) := Lib.hid (by
    have this := Blk.new (w.alloc (.cells #[.bool a1, .int .u64 (a2 : Int), .int .u64 (a3 : Int), .bool a4, .int .u64 (a5 : Int), .int .u64 (a6 : Int)] 143 (0, 0))) 33 #[.bool x1, .int .u64 (x2 : Int), .int .u64 (x3 : Int)]
    rw [World.size_alloc] at this
    exact this)
  have HB : Hid (Below w.heap.size w ((w.alloc (.cells #[.bool a1, .int .u64 (a2 : Int), .int .u64 (a3 : Int), .bool a4, .int .u64 (a5 : Int), .int .u64 (a6 : Int)] 143 (0, 0))).alloc (.cells #[.bool x1, .int .u64 (x2 : Int), .int .u64 (x3 : Int)] 33 (0, 0)))) := Lib.hid (below_alloc (below_alloc (Below.refl _ _) _) _)
  go_enter Tryz.func120, Tryz.ntmps120
  go_upto_region 1 with fail
  generalize ((w.alloc (.cells #[.bool a1, .int .u64 (a2 : Int), .int .u64 (a3 : Int), .bool a4, .int .u64 (a5 : Int), .int .u64 (a6 : Int)] 143 (0, 0))).alloc (.cells #[.bool x1, .int .u64 (x2 : Int), .int .u64 (x3 : Int)] 33 (0, 0))) = w2 at *
  have c0 := HP.out.cell 0
  have c1 := HP.out.cell 1
  have c2 := HP.out.cell 2
  have d0 := HX.out.cell 0
  have d1 := HX.out.cell 1
  have d2 := HX.out.cell 2
  simp at c0 c1 c2 d0 d1 d2
  go_wp2_with fail
  refine (HC.out _).mono ?_
  rintro e w3 ⟨rfl, hb⟩
  have HB3 := Lib.hid (HB.out.trans (hb.b.mono HB.out.size))
  clear hb c0 c1 c2 d0 d1 d2
  go_wp2_with fail
  go_ret
  exact ⟨rfl, HB3.out⟩
/-- what a binary search of a number finds among first numbers that do not fall -/
structure Bin (L : List Sp) (x k : Nat) (b : Bool) : Prop where
  le : k ≤ L.length
  lo : ∀ j p, j < k → L[j]? = some p → p.1 < x
  hi : ∀ j p, k ≤ j → L[j]? = some p → x ≤ p.1
  eq : b = true ↔ ∃ p, L[k]? = some p ∧ p.1 = x
theorem hs_neg {a b : Nat} : cN a b < 0 ↔ a < b := by
  unfold cN
  by_cases h : a < b
  · rw [if_pos h]; exact ⟨fun _ => h, fun _ => by omega⟩
  · rw [if_neg h]
    by_cases h2 : b < a
    · rw [if_pos h2]; exact ⟨fun h3 => by omega, fun h3 => absurd h3 h⟩
    · rw [if_neg h2]; exact ⟨fun h3 => by omega, fun h3 => absurd h3 h⟩
theorem hs_zero {a b : Nat} : cN a b = 0 ↔ a = b := by
  unfold cN
  by_cases h : a < b
  · rw [if_pos h]; exact ⟨fun h3 => by omega, fun h3 => by omega⟩
  · rw [if_neg h]
    by_cases h2 : b < a
    · rw [if_pos h2]; exact ⟨fun h3 => by omega, fun h3 => by omega⟩
    · rw [if_neg h2]; exact ⟨fun h3 => by omega, fun h3 => rfl⟩
set_option maxRecDepth 100000 in
set_option maxHeartbeats 4000000 in
theorem bin_any (ad : Option Addr) (n c : Nat) (L : List Sp) (x : Nat) (w : World) (h : RdK layRg w ad L) (hn : L.length = n) (hs : n ≤ 1000000) (hv : ∀ p ∈ L, VR p) (hx : VN x) (hm : ∀ (j i : Nat) (p q : Sp), j ≤ i → L[j]? = some p → L[i]? = some q → p.1 ≤ q.1) :
    Calls Tryz.prog 119 #[.slice ad n c, .agg (aN x), .func (.func 120) #[] #[]] w fun e w' => ∃ (k : Nat) (b : Bool), e = .returned (.tuple #[.int .i64 (k : Int), .bool b]) ∧ Bin L x k b ∧ Below w.heap.size w w' := by
  have H0 := Lib.hid h
  have Hn := Lib.hid hn
  have Hv := Lib.hid hv
  have Hx := Lib.hid hx
  have Hm := Lib.hid hm
  clear h hn hv hx hm
  have HX : Hid (Blk (w.alloc (.cells (aN x) 33 (0, 0))) w.heap.size 33 (aN x)) := Lib.hid (Blk.new w _ _)
  have HB : Hid (Below w.heap.size w (w.alloc (.cells (aN x) 33 (0, 0)))) := Lib.hid (below_alloc (Below.refl _ _) _)
  have HE : Hid (aN x = #[.bool (sixN x), .int .u64 ((hiN x : Nat) : Int), .int .u64 ((loN x : Nat) : Int)]) := Lib.hid rfl
  rw [HE.out] at HX HB ⊢
  generalize sixN x = x1 at *
  generalize hiN x = x2 at *
  generalize loN x = x3 at *
  go_enter Tryz.func119, Tryz.ntmps119
  go_upto_region 1 with fail
  generalize (w.alloc (.cells #[.bool x1, .int .u64 (x2 : Int), .int .u64 (x3 : Int)] 33 (0, 0))) = w2 at *
  go_wp2_with fail
  go_loopw [9, 10, 11] (fun iv jv s11 wr => ∃ i j : Nat, i ≤ j ∧ j ≤ n ∧ iv = .int .i64 (i : Int) ∧ jv = .int .i64 (j : Int) ∧ Hid (∀ m p, m < i → L[m]? = some p → p.1 < x) ∧ Hid (∀ m p, j ≤ m → L[m]? = some p → x ≤ p.1) ∧ Hid (Below w.heap.size w wr) ∧ Hid (Blk wr w.heap.size 33 #[.bool x1, .int .u64 (x2 : Int), .int .u64 (x3 : Int)])) (fun iv jv _ _ => (intOf jv).toNat - (intOf iv).toNat)
  case atStart => exact ⟨0, n, Nat.zero_le _, Nat.le_refl _, rfl, rfl, Lib.hid fun m p hj => absurd hj (Nat.not_lt_zero _), Lib.hid (fun m p hj hp => absurd (List.getElem?_eq_some_iff.1 hp).1 (by have := Hn.out; omega)), HB, HX⟩
  case round =>
    obtain ⟨i, j, hij, hjn, rfl, rfl, HLo, HHi, HBr, HXr⟩ := hrel
    by_cases hlt : i < j
    · obtain ⟨m, hme, him, hmj⟩ : ∃ m : Nat, ((i : Int) + (j : Int)) / 2 = (m : Int) ∧ i ≤ m ∧ m < j := ⟨(i + j) / 2, by omega, by omega, by omega⟩
      have hS : m < L.length := by rw [Hn.out]; omega
      obtain ⟨p, hp⟩ : ∃ p, L[m]? = some p := ⟨_, List.getElem?_eq_getElem hS⟩
      have hok := Hv.out p (List.mem_of_getElem? hp)
      have HC := Lib.hid fun wx => has1_any p x wx hok.a Hx.out
      rw [HE.out] at HC
      obtain ⟨a1, a2, a3, a4, a5, a6, hpc, -, -, -, -⟩ := rg_cells p
      obtain ⟨g, o, had, hg, c0, c1, c2, c3, c4, c5⟩ := (H0.out.below HBr.out).rg hp hpc
      rw [hpc] at HC
      obtain ⟨C, hC⟩ : ∃ C : Int, cN p.1 x = C := ⟨_, rfl⟩
      have HCl : Hid (C < 0 ↔ p.1 < x) := Lib.hid (by rw [← hC]; exact hs_neg)
      rw [hC] at HC
      have Hp := Lib.hid hp
      have hmn : (m : Int) < (n : Int) := by omega
      subst had
      clear hp hS hok hpc hg hC
      go_upto_region 5 with fail
      have d0 := HXr.out.cell 0
      have d1 := HXr.out.cell 1
      have d2 := HXr.out.cell 2
      simp at d0 d1 d2
      have k0 := Later.cell_of c0
      have k1 := Later.cell_of c1
      have k2 := Later.cell_of c2
      have k3 := Later.cell_of c3
      have k4 := Later.cell_of c4
      have k5 := Later.cell_of c5
      have l0 := Later.cell_of d0
      have l1 := Later.cell_of d1
      have l2 := Later.cell_of d2
      have hD := fun X : Later wr => Calls.later X (HC.out X.1)
      refine wp_region_later (by kernel_rfl) (by kernel_rfl) ?_
      repeat (go_big_quiet_step ((go_at_call 120; exact hD _)))
      refine wpQuiet_nil ?_
      rintro w8 ⟨n8, hn8⟩
      have hb : Below wr.heap.size wr w8 := by rw [hn8]; exact n8.2
      clear hn8 n8
      have HB8 := Lib.hid (HBr.out.trans (hb.mono HBr.out.size))
      have HX8 := Lib.hid (HXr.out.below hb HXr.out.lt)
      clear hb hD HC k0 k1 k2 k3 k4 k5 l0 l1 l2 c0 c1 c2 c3 c4 c5 d0 d1 d2 HBr HXr
      by_cases hpx : p.1 < x
      · have hC0 : C < 0 := HCl.out.2 hpx
        have HLo2 : Hid (∀ m' q, m' < m + 1 → L[m']? = some q → q.1 < x) := Lib.hid fun m' q h1 h2 => Nat.lt_of_le_of_lt (Hm.out m' m q p (by omega) h2 Hp.out) hpx
        clear HLo HCl
        go_wp2_with fail
        exact ⟨⟨m + 1, j, by omega, by omega, by go_num, rfl, HLo2, HHi, HB8, HX8⟩, by simp [intOf]; omega⟩
      · have hC0 : ¬ C < 0 := fun h => hpx (HCl.out.1 h)
        have HHi2 : Hid (∀ m' q, m ≤ m' → L[m']? = some q → x ≤ q.1) := Lib.hid fun m' q h1 h2 => Nat.le_trans (Nat.le_of_not_lt hpx) (Hm.out m m' p q h1 Hp.out h2)
        clear HHi HCl
        go_wp2_with fail
        exact ⟨⟨i, m, by omega, by omega, rfl, rfl, HLo, HHi2, HB8, HX8⟩, by simp [intOf]; omega⟩
    · obtain rfl : i = j := by omega
      by_cases hin : i < n
      · have hS : i < L.length := by rw [Hn.out]; exact hin
        obtain ⟨p, hp⟩ : ∃ p, L[i]? = some p := ⟨_, List.getElem?_eq_getElem hS⟩
        have hok := Hv.out p (List.mem_of_getElem? hp)
        have HC := Lib.hid fun wx => has1_any p x wx hok.a Hx.out
        rw [HE.out] at HC
        obtain ⟨a1, a2, a3, a4, a5, a6, hpc, -, -, -, -⟩ := rg_cells p
        obtain ⟨g, o, had, hg, c0, c1, c2, c3, c4, c5⟩ := (H0.out.below HBr.out).rg hp hpc
        rw [hpc] at HC
        obtain ⟨C, hC⟩ : ∃ C : Int, cN p.1 x = C := ⟨_, rfl⟩
        have HCl : Hid (C = 0 ↔ p.1 = x) := Lib.hid (by rw [← hC]; exact hs_zero)
        rw [hC] at HC
        have HBin : Hid (Bin L x i (C == 0)) := Lib.hid ⟨by have := Hn.out; omega, HLo.out, HHi.out, by
          rw [beq_iff_eq, HCl.out]
          exact ⟨fun h => ⟨p, hp, h⟩, fun ⟨q, h1, h2⟩ => by rw [hp] at h1; rw [Option.some.inj h1]; exact h2⟩⟩
        have hmn : (i : Int) < (n : Int) := by omega
        subst had
        clear hp hS hok hpc hg hC HCl
        go_upto_region 8 with fail
        have d0 := HXr.out.cell 0
        have d1 := HXr.out.cell 1
        have d2 := HXr.out.cell 2
        simp at d0 d1 d2
        have k0 := Later.cell_of c0
        have k1 := Later.cell_of c1
        have k2 := Later.cell_of c2
        have k3 := Later.cell_of c3
        have k4 := Later.cell_of c4
        have k5 := Later.cell_of c5
        have l0 := Later.cell_of d0
        have l1 := Later.cell_of d1
        have l2 := Later.cell_of d2
        have hD := fun X : Later wr => Calls.later X (HC.out X.1)
        refine wp_region_later (by kernel_rfl) (by kernel_rfl) ?_
        repeat (go_big_quiet_step ((go_at_call 120; exact hD _)))
        refine wpQuiet_nil ?_
        rintro w8 ⟨n8, hn8⟩
        have hb : Below wr.heap.size wr w8 := by rw [hn8]; exact n8.2
        clear hn8 n8
        have HB8 := Lib.hid (HBr.out.trans (hb.mono HBr.out.size))
        clear hb hD HC k0 k1 k2 k3 k4 k5 l0 l1 l2 c0 c1 c2 c3 c4 c5 d0 d1 d2 HBr HXr
        go_wp2_with fail
        go_ret2
        first | exact ⟨i, _, rfl, HBin.out, HB8.out⟩ | exact ⟨i, .inl ⟨rfl, HBin.out, HB8.out⟩⟩
      · have hin' : ¬ (i : Int) < (n : Int) := by omega
        have HBin : Hid (Bin L x i false) := Lib.hid ⟨by have := Hn.out; omega, HLo.out, HHi.out, by
          constructor
          · intro h; cases h
          · rintro ⟨p, h1, h2⟩
            exact absurd (List.getElem?_eq_some_iff.1 h1).1 (by have := Hn.out; omega)⟩
        go_upto_region 8 with fail
        refine wp_region_later (by kernel_rfl) (by kernel_rfl) ?_
        repeat (go_big_quiet_step (fail))
        refine wpQuiet_nil ?_
        rintro w8 ⟨n8, hn8⟩
        have hb : Below wr.heap.size wr w8 := by rw [hn8]; exact n8.2
        clear hn8 n8
        have HB8 := Lib.hid (HBr.out.trans (hb.mono HBr.out.size))
        clear hb HBr HXr
        go_wp2_with fail
        go_ret2
        first | exact ⟨i, _, rfl, HBin.out, HB8.out⟩ | exact ⟨i, .inl ⟨rfl, HBin.out, HB8.out⟩⟩
/-- whether a number is in spans, told by what a search finds -/
theorem bin_has {L : List Sp} {x k : Nat} {b : Bool} (hc : Can L) (h : Bin L x k b) : (b = true ∨ ∃ p, 0 < k ∧ L[k - 1]? = some p ∧ x ≤ p.2) ↔ InS L x := by
  constructor
  · rintro (hb | ⟨p, hk, hp, hx⟩)
    · obtain ⟨p, hp, hx⟩ := h.eq.1 hb
      have hm := List.mem_of_getElem? hp
      exact ⟨p, hm, by omega, by have := hc.2 p hm; omega⟩
    · have := h.lo (k - 1) p (by omega) hp
      exact ⟨p, List.mem_of_getElem? hp, by omega, hx⟩
  · rintro ⟨p, hm, h1, h2⟩
    obtain ⟨j, hj, rfl⟩ := List.getElem_of_mem hm
    have hjs := List.getElem?_eq_getElem hj
    rcases Nat.lt_or_ge j k with hjk | hjk
    · right
      have hk1 : k - 1 < L.length := by have := h.le; omega
      refine ⟨L[k - 1], by omega, List.getElem?_eq_getElem hk1, ?_⟩
      rcases Nat.lt_or_ge j (k - 1) with h3 | h3
      · have h4 := List.pairwise_iff_getElem.1 hc.1 j (k - 1) hj hk1 h3
        have h5 := hc.2 _ (List.getElem_mem hk1)
        have h6 := h.lo (k - 1) _ (by omega) (List.getElem?_eq_getElem hk1)
        omega
      · have : j = k - 1 := by omega
        subst this
        exact h2
    · left
      have hx := h.hi j _ hjk hjs
      have hxe : x = L[j].1 := by omega
      rcases Nat.lt_or_ge k j with h3 | h3
      · have hk1 : k < L.length := by omega
        have h4 := List.pairwise_iff_getElem.1 hc.1 k j hk1 hj h3
        have h5 := hc.2 _ (List.getElem_mem hk1)
        have h6 := h.hi k _ (Nat.le_refl _) (List.getElem?_eq_getElem hk1)
        omega
      · have : j = k := by omega
        subst this
        exact h.eq.2 ⟨_, hjs, hxe.symm⟩
theorem can_mono {L : List Sp} (hc : Can L) (j i : Nat) (p q : Sp) (h : j ≤ i) (h1 : L[j]? = some p) (h2 : L[i]? = some q) : p.1 ≤ q.1 := by
  obtain ⟨a1, rfl⟩ := List.getElem?_eq_some_iff.1 h1
  obtain ⟨a2, rfl⟩ := List.getElem?_eq_some_iff.1 h2
  rcases Nat.lt_or_ge j i with h3 | h3
  · have h4 := List.pairwise_iff_getElem.1 hc.1 j i a1 a2 h3
    have h5 := hc.2 _ (List.getElem_mem a1)
    omega
  · have : j = i := by omega
    subst this
    exact Nat.le_refl _
set_option maxRecDepth 100000 in
set_option maxHeartbeats 8000000 in
theorem has_any (ad : Option Addr) (n c : Nat) (L : List Sp) (x : Nat) (w : World) (h : RdK layRg w ad L) (hn : L.length = n) (hs : n ≤ 1000000) (hv : ∀ p ∈ L, VR p) (hx : VN x) (hc : Can L) :
    Calls Tryz.prog 76 #[.slice ad n c, .agg (aN x)] w fun e w' => ∃ b : Bool, e = .returned (.bool b) ∧ (b = true ↔ InS L x) ∧ Below w.heap.size w w' := by
  have H0 := Lib.hid h
  have Hn := Lib.hid hn
  have Hv := Lib.hid hv
  have Hx := Lib.hid hx
  have Hc := Lib.hid hc
  have HBS := Lib.hid fun wx (h : RdK layRg wx ad L) => bin_any ad n c L x wx h hn hs hv hx (can_mono hc)
  clear h hn hv hx hc
  have HX : Hid (Blk (w.alloc (.cells (aN x) 33 (0, 0))) w.heap.size 33 (aN x)) := Lib.hid (Blk.new w _ _)
  have HB : Hid (Below w.heap.size w (w.alloc (.cells (aN x) 33 (0, 0)))) := Lib.hid (below_alloc (Below.refl _ _) _)
  have HE : Hid (aN x = #[.bool (sixN x), .int .u64 ((hiN x : Nat) : Int), .int .u64 ((loN x : Nat) : Int)]) := Lib.hid rfl
  have HSx : Hid (sixN x = sixN x) := Lib.hid rfl
  obtain ⟨x1, hx1⟩ : ∃ x1 : Bool, sixN x = x1 := ⟨_, rfl⟩
  obtain ⟨x2, hx2⟩ : ∃ x2 : Nat, hiN x = x2 := ⟨_, rfl⟩
  obtain ⟨x3, hx3⟩ : ∃ x3 : Nat, loN x = x3 := ⟨_, rfl⟩
  rw [hx1, hx2, hx3] at HE
  have HS1 := Lib.hid hx1
  rw [HE.out] at HX HB HBS ⊢
  clear hx1 hx2 hx3 HSx
  go_enter Tryz.func76, Tryz.ntmps76
  go_upto_region 1 with fail
  generalize (w.alloc (.cells #[.bool x1, .int .u64 (x2 : Int), .int .u64 (x3 : Int)] 33 (0, 0))) = w2 at *
  have d0 := HX.out.cell 0
  have d1 := HX.out.cell 1
  have d2 := HX.out.cell 2
  simp at d0 d1 d2
  go_wp2_with fail
  refine (HBS.out _ (H0.out.below HB.out)).mono ?_
  rintro e w3 ⟨k, b, rfl, hbin, hb⟩
  have HB3 := Lib.hid (HB.out.trans (hb.mono HB.out.size))
  have HX3 := Lib.hid (HX.out.below hb HX.out.lt)
  have HBin := Lib.hid hbin
  have HH := Lib.hid (bin_has Hc.out hbin)
  clear hb hbin HBS HB HX d0 d1 d2
  go_upto_region 2 with fail
  have d0 := HX3.out.cell 0
  have d1 := HX3.out.cell 1
  have d2 := HX3.out.cell 2
  simp at d0 d1 d2
  have l0 := Later.cell_of d0
  have l1 := Later.cell_of d1
  have l2 := Later.cell_of d2
  cases b
  · by_cases hk : 0 < k
    · have hS : k - 1 < L.length := by have := HBin.out.le; omega
      obtain ⟨p, hp⟩ : ∃ p, L[k - 1]? = some p := ⟨_, List.getElem?_eq_getElem hS⟩
      have hok := Hv.out p (List.mem_of_getElem? hp)
      have hlo := HBin.out.lo (k - 1) p (by omega) hp
      have HC := Lib.hid fun wx => spanCompareN (y := p.2) wx Hx.out hok.b
      rw [HE.out] at HC
      obtain ⟨a1, a2, a3, a4, a5, a6, hpc, -, hp2, hs1, -⟩ := rg_cells p
      rw [hp2] at HC
      obtain ⟨g, o, had, hg, c0, c1, c2, c3, c4, c5⟩ := (H0.out.below HB3.out).rg hp hpc
      obtain ⟨C, hC⟩ : ∃ C : Int, cN x p.2 = C := ⟨_, rfl⟩
      have hCl : C ≤ 0 ↔ x ≤ p.2 := by rw [← hC]; exact cN_le x p.2
      rw [hC] at HC
      have HR : Hid (((a1 == x1) = true ∧ C ≤ 0) ↔ InS L x) := Lib.hid (by
        rw [← HH.out]
        constructor
        · rintro ⟨-, h⟩; exact .inr ⟨p, hk, hp, hCl.1 h⟩
        · rintro (h | ⟨q, h1, h2, h3⟩)
          · cases h
          · rw [hp] at h2
            have hq := Option.some.inj h2
            rw [← hq] at h3
            refine ⟨?_, hCl.2 h3⟩
            rw [beq_iff_eq, hs1, ← HS1.out]
            exact (blk_vn hok (by omega) h3).2.2.symm)
      have hk1 : ((k : Int) - 1) = ((k - 1 : Nat) : Int) := by omega
      have hkn : ((k - 1 : Nat) : Int) < (n : Int) := by have := Hn.out; omega
      have hkp : (k : Int) > 0 := by omega
      subst had
      clear hp hS hok hpc hg hC hCl hlo hp2 hs1 HH
      generalize k - 1 = k' at *
      have k0 := Later.cell_of c0
      have k1 := Later.cell_of c1
      have k2 := Later.cell_of c2
      have k3 := Later.cell_of c3
      have k4 := Later.cell_of c4
      have k5 := Later.cell_of c5
      have hD := fun X : Later w3 => Calls.later X ((HC.out X.1).mono fun _ _ h => h.ret)
      cases hsx : (a1 == x1)
      · have HR0 : Hid (¬ InS L x) := Lib.hid fun h => by have := (HR.out.2 h).1; rw [hsx] at this; cases this
        refine wp_region_later (by kernel_rfl) (by kernel_rfl) ?_
        repeat (go_big_quiet_step (fail))
        refine wpQuiet_nil ?_
        rintro w8 ⟨n8, hn8⟩
        have hb : Below w3.heap.size w3 w8 := by rw [hn8]; exact n8.2
        clear hn8 n8
        have HB8 := Lib.hid (HB3.out.trans (hb.mono HB3.out.size))
        clear hb hD HC k0 k1 k2 k3 k4 k5 l0 l1 l2 c0 c1 c2 c3 c4 c5 d0 d1 d2 HB3 HX3
        go_wp2_with fail
        go_ret
        first | exact ⟨false, rfl, ⟨fun h => (by cases h), fun h => absurd h HR0.out⟩, HB8.out⟩ | exact .inl ⟨rfl, ⟨fun h => (by cases h), fun h => absurd h HR0.out⟩, HB8.out⟩ | exact .inl ⟨rfl, HR0.out, HB8.out⟩
      · have HR0 : Hid (decide (C ≤ 0) = true ↔ InS L x) := Lib.hid (by rw [decide_eq_true_iff, ← HR.out]; exact ⟨fun h => ⟨hsx, h⟩, fun h => h.2⟩)
        refine wp_region_later (by kernel_rfl) (by kernel_rfl) ?_
        repeat (go_big_quiet_step ((go_at_call 121; exact hD _)))
        refine wpQuiet_nil ?_
        rintro w8 ⟨n8, hn8⟩
        have hb : Below w3.heap.size w3 w8 := by rw [hn8]; exact n8.2
        clear hn8 n8
        have HB8 := Lib.hid (HB3.out.trans (hb.mono HB3.out.size))
        clear hb hD HC k0 k1 k2 k3 k4 k5 l0 l1 l2 c0 c1 c2 c3 c4 c5 d0 d1 d2 HB3 HX3
        go_wp2_with fail
        go_ret
        exact ⟨_, rfl, HR0.out, HB8.out⟩
    · have hk0 : ¬ (k : Int) > 0 := by omega
      have HR0 : Hid (¬ InS L x) := Lib.hid fun h => by
        rcases HH.out.2 h with h | ⟨p, h1, _⟩
        · cases h
        · exact hk h1
      clear HH
      refine wp_region_later (by kernel_rfl) (by kernel_rfl) ?_
      repeat (go_big_quiet_step (fail))
      refine wpQuiet_nil ?_
      rintro w8 ⟨n8, hn8⟩
      have hb : Below w3.heap.size w3 w8 := by rw [hn8]; exact n8.2
      clear hn8 n8
      have HB8 := Lib.hid (HB3.out.trans (hb.mono HB3.out.size))
      clear hb l0 l1 l2 d0 d1 d2 HB3 HX3
      go_wp2_with fail
      go_ret
      first | exact ⟨false, rfl, ⟨fun h => (by cases h), fun h => absurd h HR0.out⟩, HB8.out⟩ | exact .inl ⟨rfl, ⟨fun h => (by cases h), fun h => absurd h HR0.out⟩, HB8.out⟩ | exact .inl ⟨rfl, HR0.out, HB8.out⟩
  · have HR0 : Hid (InS L x) := Lib.hid (HH.out.1 (.inl rfl))
    clear HH
    refine wp_region_later (by kernel_rfl) (by kernel_rfl) ?_
    repeat (go_big_quiet_step (fail))
    refine wpQuiet_nil ?_
    rintro w8 ⟨n8, hn8⟩
    have hb : Below w3.heap.size w3 w8 := by rw [hn8]; exact n8.2
    clear hn8 n8
    have HB8 := Lib.hid (HB3.out.trans (hb.mono HB3.out.size))
    clear hb l0 l1 l2 d0 d1 d2 HB3 HX3
    go_wp2_with fail
    go_ret
    first | exact ⟨true, rfl, ⟨fun _ => HR0.out, fun _ => rfl⟩, HB8.out⟩ | exact .inr ⟨rfl, ⟨fun _ => HR0.out, fun _ => rfl⟩, HB8.out⟩ | exact .inr ⟨rfl, HR0.out, HB8.out⟩
end Go.Proofs.YtaeieigdibanlaaGreatDoor

namespace Go.Proofs.YtaeieigdibanlaaGreatDoor
open Go.RowKit Go
set_option linter.unusedVariables false

set_option maxRecDepth 100000 in
set_option maxHeartbeats 4000000 in
theorem acovers_any (ad1 ad2 : Option Addr) (n1 c1 n2 c2 : Nat) (L1 L2 : List Pf) (w : World) (h1 : RdK layPf w ad1 L1) (h2 : RdK layPf w ad2 L2) (hn1 : L1.length = n1) (hn2 : L2.length = n2) (hs1 : n1 ≤ 1000) (hs2 : n2 ≤ 1000) (hu1 : U4 L1) (hu2 : U4 L2) :
    Calls Tryz.prog 32 #[.slice ad1 n1 c1, .slice ad2 n2 c2] w (Ret (.tuple #[.bool (decide (firstE [setF L1, setF L2] = 0 ∧ jn (both (spn L2) (gaps (spn L1))) = [])), .int .i64 (firstE [setF L1, setF L2])]) w) := by
  have hb0 : Below w.heap.size w (w.alloc (.cells #[.slice ad1 n1 c1, .slice ad2 n2 c2] 53 (0, 0))) := below_alloc (Below.refl _ _) _
  have HC := Lib.hid fun c => checkSets_any w.heap.size c ad1 ad2 n1 c1 n2 c2 L1 L2 (w.alloc (.cells #[.slice ad1 n1 c1, .slice ad2 n2 c2] 53 (0, 0))) (Blk.new w _ _) (h1.below hb0) (h2.below hb0) hn1 hn2 hs1 hs2 hu1 hu2
  have HB0 := Lib.hid hb0
  have HX1 := Lib.hid (h1.below hb0)
  have HX2 := Lib.hid (h2.below hb0)
  have HOK : Hid (firstE [setF L1, setF L2] = 0 → (∀ p ∈ L1, OkPf p) ∧ ∀ p ∈ L2, OkPf p) := Lib.hid fun h => by
    have hz : setF L1 = 0 ∧ setF L2 = 0 := by
      by_cases e1 : setF L1 = 0
      · by_cases e2 : setF L2 = 0
        · exact ⟨e1, e2⟩
        · simp [firstE, e1, e2] at h
      · simp [firstE, e1] at h
    exact ⟨setF_okS hz.1 hu1, setF_okS hz.2 hu2⟩
  have Hn1 := Lib.hid hn1
  have Hn2 := Lib.hid hn2
  obtain ⟨F, hF⟩ : ∃ F, firstE [setF L1, setF L2] = F := ⟨_, rfl⟩
  rw [hF] at HC HOK ⊢
  obtain ⟨RR, hRR⟩ : ∃ RR, decide (F = 0 ∧ jn (both (spn L2) (gaps (spn L1))) = []) = RR := ⟨_, rfl⟩
  rw [hRR]
  have HR0 : Hid (F = 0 → RR = decide (jn (both (spn L2) (gaps (spn L1))) = [])) := Lib.hid fun h => by rw [← hRR]; simp [h]
  have HR1 : Hid (F ≠ 0 → RR = false) := Lib.hid fun h => by rw [← hRR]; simp [h]
  clear h1 h2 hn1 hn2 hu1 hu2 hb0 hF hRR
  go_enter Tryz.func32, Tryz.ntmps32
  go_wp2_with fail
  refine (HC.out _).mono ?_
  rintro e w2 ⟨rfl, hb⟩
  have HB2 := Lib.hid (HB0.out.trans (hb.mono HB0.out.size))
  have HY1 := Lib.hid (HX1.out.below hb)
  have HY2 := Lib.hid (HX2.out.below hb)
  clear hb HC HB0 HX1 HX2
  by_cases h0 : F = 0
  · obtain ⟨hok1, hok2⟩ := HOK.out h0
    have HS2 := Lib.hid (spanOf_any ad2 n2 c2 L2 w2 HY2.out Hn2.out (by omega) hok2)
    have HS1 := Lib.hid fun wx (hr : RdK layPf wx ad1 L1) => spanOf_any ad1 n1 c1 L1 wx hr Hn1.out (by omega) hok1
    have e1 : jn (L1.map spP) = spn L1 := rfl
    have e2 : jn (L2.map spP) = spn L2 := rfl
    rw [e1] at HS1
    rw [e2] at HS2
    have HV1 := Lib.hid (spn_vr hok1)
    have HV2 := Lib.hid (spn_vr hok2)
    have HK1 := Lib.hid (spn_can hok1)
    have HN1 : Hid ((spn L1).length ≤ 1000) := Lib.hid (by have := spn_len L1; rw [Hn1.out] at this; omega)
    have HN2 : Hid ((spn L2).length ≤ 1000) := Lib.hid (by have := spn_len L2; rw [Hn2.out] at this; omega)
    have HRR := Lib.hid (HR0.out h0)
    clear hok1 hok2 e1 e2 HOK HR0 HR1
    subst h0
    generalize spn L1 = S1 at *
    generalize spn L2 = S2 at *
    go_wp2_with fail
    refine HS2.out.mono ?_
    rintro e w3 ⟨v, rfl, hO, hb⟩
    obtain ⟨b2, d2, rfl, _⟩ := hO.form
    have HO2 := Lib.hid hO.rd
    have HB3 := Lib.hid (HB2.out.trans (hb.mono HB2.out.size))
    have HZ1 := Lib.hid (HY1.out.below hb)
    clear hO hb HS2 HY1 HY2 HB2
    obtain ⟨m2, hm2⟩ : ∃ m, S2.length = m := ⟨_, rfl⟩
    have Hm2 := Lib.hid hm2
    rw [hm2]
    clear hm2
    go_wp2_with fail
    refine (HS1.out _ HZ1.out).mono ?_
    rintro e w4 ⟨v, rfl, hO, hb⟩
    obtain ⟨b1, d1, rfl, _⟩ := hO.form
    have HO1 := Lib.hid hO.rd
    have HO2' := Lib.hid (HO2.out.below hb)
    have HB4 := Lib.hid (HB3.out.trans (hb.mono HB3.out.size))
    clear hO hb HS1 HZ1 HO2 HB3
    obtain ⟨m1, hm1⟩ : ∃ m, S1.length = m := ⟨_, rfl⟩
    have Hm1 := Lib.hid hm1
    rw [hm1]
    clear hm1
    have hmb1 : m1 ≤ 1000 := by rw [← Hm1.out]; exact HN1.out
    have hmb2 : m2 ≤ 1000 := by rw [← Hm2.out]; exact HN2.out
    have HRs := Lib.hid (rest_any b1 m1 d1 S1 w4 HO1.out Hm1.out (by omega) HK1.out HV1.out)
    have HGv := Lib.hid (gaps_ok HK1.out HV1.out).2.2
    have HGl : Hid ((gaps S1).length ≤ 2002) := Lib.hid (by have := gaps_len S1; rw [Hm1.out] at this; omega)
    clear HO1
    generalize gaps S1 = G1 at *
    go_wp2_with fail
    refine HRs.out.mono ?_
    rintro e w5 ⟨v, rfl, hO, hb⟩
    obtain ⟨b5, d5, rfl, _⟩ := hO.form
    have HB5 := Lib.hid (HB4.out.trans (hb.mono HB4.out.size))
    obtain ⟨m5, hm5⟩ : ∃ m, G1.length = m := ⟨_, rfl⟩
    have HT := Lib.hid (sboth_any b2 b5 m2 d2 m5 d5 S2 G1 w5 (HO2'.out.below hb) hO.rd Hm2.out hm5 (by omega) (by rw [← hm5]; have := HGl.out; omega) HV2.out HGv.out)
    rw [hm5]
    clear HO2' HB4 hO hb hm5 HRs HGl
    generalize jn (both S2 G1) = RJ at *
    go_wp2_with fail
    refine HT.out.mono ?_
    rintro e w6 ⟨v, rfl, hO, hb⟩
    obtain ⟨b6, d6, rfl, _⟩ := hO.form
    have HB6 := Lib.hid (HB5.out.trans (hb.mono HB5.out.size))
    have hlen : ((RJ.length : Int) == 0) = decide (RJ = []) := by
      cases RJ with
      | nil => rfl
      | cons a l =>
        have : decide (a :: l = ([] : List Sp)) = false := by simp
        rw [this]
        simp
        omega
    rw [← HRR.out] at hlen
    have HLe := Lib.hid hlen
    clear hO hb HT HB5 hlen
    generalize RJ.length = rl at *
    go_wp2_with fail
    go_ret2
    exact ⟨by rw [← HLe.out]; rfl, HB6.out⟩
  · have h02 : (F != 0) = true := by simpa using h0
    obtain rfl := HR1.out h0
    clear h0 HOK HR0 HR1 HY1 HY2
    go_wp2_with fail
    go_ret2
    exact ⟨rfl, HB2.out⟩
theorem unionR_len {a b : List Pf} (ha : ∀ p ∈ a, OkPf p) (hb : ∀ p ∈ b, OkPf p) : (unionR a b).length ≤ 257 * (a.length + b.length) := by
  have h1 := pfs_len (spn_vr (ok_append ha hb))
  have h2 := spn_len (a ++ b)
  rw [List.length_append] at h2
  show (lst (a ++ b)).length ≤ _
  rw [lst_eq]
  omega
set_option maxRecDepth 100000 in
set_option maxHeartbeats 1000000 in
theorem coversOf_any (ad1 ad2 : Option Addr) (n1 c1 n2 c2 : Nat) (L1 L2 : List Pf) (w : World) (h1 : RdK layPf w ad1 L1) (h2 : RdK layPf w ad2 L2) (hn1 : L1.length = n1) (hn2 : L2.length = n2) (hs1 : n1 ≤ 1000) (hs2 : n2 ≤ 1000) (hv1 : ∀ p ∈ L1, OkPf p) (hv2 : ∀ p ∈ L2, OkPf p) :
    Calls Tryz.prog 36 #[.slice ad1 n1 c1, .slice ad2 n2 c2] w (Ret (.bool (decide (unionR L1 L2 = L1))) w) := by
  have HU := Lib.hid (unionOf_any ad1 ad2 n1 c1 n2 c2 L1 L2 w h1 h2 hn1 hn2 (by omega) hv1 hv2)
  have HX := Lib.hid h1
  have HL := Lib.hid (unionR_len hv1 hv2)
  have Hn1 := Lib.hid hn1
  have Hn2 := Lib.hid hn2
  clear h1 h2 hn1 hn2 hv1 hv2
  generalize unionR L1 L2 = U at *
  go_enter Tryz.func36, Tryz.ntmps36
  go_wp2_with fail
  refine HU.out.mono ?_
  rintro e w1 ⟨v, rfl, hO, hb⟩
  obtain ⟨a3, c3, rfl, -⟩ := hO.form
  have HB := Lib.hid hb
  have HE := Lib.hid (equal_pf a3 ad1 c3 c1 U L1 w1 hO.rd (HX.out.below hb) (by have := HL.out; rw [Hn1.out, Hn2.out] at this; omega))
  rw [Hn1.out] at HE
  clear hb hO HU
  go_wp2_with fail
  refine HE.out.mono ?_
  rintro e w2 ⟨rfl, k2, rfl⟩
  have HB2 := Lib.hid (below_drewN HB.out k2)
  clear HE
  go_wp2_with fail
  go_ret
  exact ⟨rfl, HB2.out⟩
end Go.Proofs.YtaeieigdibanlaaGreatDoor

namespace Go.Proofs.YtaeieigdibanlaaGreatDoor
open Go.RowKit Go
set_option linter.unusedVariables false

/-- whether a number is in the range of a prefix -/
def inP (p : Pf) (x : Nat) : Bool := decide ((spP p).1 ≤ x) && decide (x ≤ (spP p).2)
theorem any_inP (L : List Pf) (x : Nat) : (L.any fun p => inP p x) = true ↔ InS (L.map spP) x := by
  rw [List.any_eq_true]
  unfold InS inP
  constructor
  · rintro ⟨p, hp, h⟩
    simp at h
    exact ⟨spP p, List.mem_map.2 ⟨p, hp, rfl⟩, h⟩
  · rintro ⟨q, hq, h⟩
    obtain ⟨p, hp, rfl⟩ := List.mem_map.1 hq
    exact ⟨p, hp, by simpa using h⟩
theorem holdsN {p : Pf} {x : Nat} (w : World) (hp : OkPf p) (hx : VN x) : Calls Tryz.prog 85 #[.agg (pfC p).toArray, .agg (aN x)] w (Ret (.bool (inP p x)) w) := by
  have h := holds_any p.1 p.2.1 p.2.2.1 p.2.2.2.toNat (sixN x) (hiN x) (loN x) w hp.ok.1.1 hp.ok.1.2.1 (hiN_u x) (loN_u x) hp.ok.2.1
  have e : holdsB p.1 p.2.1 p.2.2.1 p.2.2.2.toNat (sixN x) (hiN x) (loN x) = inP p x := by
    unfold holdsB inP spP
    rw [num_aN hx, fill_num hp.ok.1, LN_six, hp.num.2.1]
    rfl
  rw [e] at h
  have ec : (pfC p).toArray = #[.bool p.1, .int .u64 ((p.2.1 : Nat) : Int), .int .u64 ((p.2.2.1 : Nat) : Int), .int .i64 ((p.2.2.2.toNat : Nat) : Int)] := by
    unfold pfC
    rw [← hp.nn]
  rw [ec]
  exact h
set_option maxRecDepth 100000 in
set_option maxHeartbeats 1000000 in
theorem hasOf1_any {p : Pf} {x : Nat} (bx : Nat) (w : World) (hp : OkPf p) (hx : VN x) (hb : Blk w bx 33 (aN x)) : Calls Tryz.prog 84 #[.agg (pfC p).toArray, .pointer (some ⟨bx, 0, none⟩)] w (Ret (.bool (inP p x)) w) := by
  have HH := Lib.hid fun wx => holdsN wx hp hx
  obtain ⟨p1, p2, p3, p4, hpc, -, -⟩ := pf_cells hp
  rw [hpc] at HH ⊢
  have HX := Lib.hid hb
  clear hb hx hpc hp
  unfold aN at HX HH
  generalize inP p x = R at *
  generalize sixN x = x1 at *
  generalize hiN x = x2 at *
  generalize loN x = x3 at *
  have HP1 : Hid (Blk (w.alloc (.cells #[.bool p1, .int .u64 (p2 : Int), .int .u64 (p3 : Int), .int .i64 (p4 : Int)] 90 (0, 0))) w.heap.size 90 #[.bool p1, .int .u64 (p2 : Int), .int .u64 (p3 : Int), .int .i64 (p4 : Int)]) := Lib.hid (Blk.new w _ _)
  have HX1 : Hid (Blk (w.alloc (.cells #[.bool p1, .int .u64 (p2 : Int), .int .u64 (p3 : Int), .int .i64 (p4 : Int)] 90 (0, 0))) bx 33 #[.bool x1, .int .u64 (x2 : Int), .int .u64 (x3 : Int)]) := Lib.hid (HX.out.alloc _)
  have HB1 : Hid (Below w.heap.size w (w.alloc (.cells #[.bool p1, .int .u64 (p2 : Int), .int .u64 (p3 : Int), .int .i64 (p4 : Int)] 90 (0, 0)))) := Lib.hid (below_alloc (Below.refl _ _) _)
  go_enter Tryz.func84, Tryz.ntmps84
  go_upto_region 1 with fail
  generalize (w.alloc (.cells #[.bool p1, .int .u64 (p2 : Int), .int .u64 (p3 : Int), .int .i64 (p4 : Int)] 90 (0, 0))) = w2 at *
  have c0 := HP1.out.cell 0
  have c1 := HP1.out.cell 1
  have c2 := HP1.out.cell 2
  have c3 := HP1.out.cell 3
  simp at c0 c1 c2 c3
  have d0 := HX1.out.cell 0
  have d1 := HX1.out.cell 1
  have d2 := HX1.out.cell 2
  simp at d0 d1 d2
  go_wp2_with fail
  refine (HH.out _).mono ?_
  rintro e w3 ⟨rfl, hb⟩
  have HB3 := Lib.hid (HB1.out.trans (hb.mono HB1.out.size))
  clear hb c0 c1 c2 c3 d0 d1 d2
  go_wp2_with fail
  go_ret
  exact ⟨rfl, HB3.out⟩
set_option maxRecDepth 100000 in
set_option maxHeartbeats 2000000 in
theorem indexHas_any (ad : Option Addr) (n c bx : Nat) (L : List Pf) (x : Nat) (w : World) (h : RdK layPf w ad L) (hn : L.length = n) (hs : n ≤ 1000000) (hv : ∀ p ∈ L, OkPf p) (hx : VN x) (hb : Blk w bx 33 (aN x)) :
    Calls Tryz.prog 131 #[.slice ad n c, .func (.func 84) #[] #[.pointer (some ⟨bx, 0, none⟩)]] w fun e w' => ∃ k : Int, e = .returned (.int .i64 k) ∧ decide (0 ≤ k) = (L.any fun p => inP p x) ∧ Below w.heap.size w w' := by
  have H0 := Lib.hid h
  have Hn := Lib.hid hn
  have Hv := Lib.hid hv
  have HX := Lib.hid hb
  have Hx := Lib.hid hx
  clear h hn hv hb hx
  go_enter Tryz.func131, Tryz.ntmps131
  go_wp2_with fail
  go_loopw [5, 8] (fun s5 i wr => ∃ k : Nat, k ≤ n ∧ i = .int .i64 (k : Int) ∧ Hid (∀ j p, j < k → L[j]? = some p → inP p x = false) ∧ Hid (Below w.heap.size w wr)) (fun _ i _ => n - (intOf i).toNat)
  case atStart => exact ⟨0, Nat.zero_le _, rfl, Lib.hid fun j p hj => absurd hj (Nat.not_lt_zero _), Lib.hid (Below.refl _ _)⟩
  case round =>
    obtain ⟨k, hk, rfl, HN, HB⟩ := hrel
    by_cases hlt : k < n
    · have hS : k < L.length := by rw [Hn.out]; exact hlt
      obtain ⟨p, hp⟩ : ∃ p, L[k]? = some p := ⟨_, List.getElem?_eq_getElem hS⟩
      have hok := Hv.out p (List.mem_of_getElem? hp)
      have HC := Lib.hid fun wx (hb : Blk wx bx 33 (aN x)) => hasOf1_any bx wx hok Hx.out hb
      obtain ⟨p1, p2, p3, p4, hpc, -, -⟩ := pf_cells hok
      obtain ⟨g, o, had, hg, c0, c1, c2, c3⟩ := (H0.out.below HB.out).pf hp hpc
      rw [hpc] at HC
      have Hp := Lib.hid hp
      have Hpm := Lib.hid (List.mem_of_getElem? hp)
      have HXr := Lib.hid (HX.out.below HB.out HX.out.lt)
      subst had
      clear hp hS hok hpc hg
      go_wp2_with fail
      refine (HC.out _ HXr.out).mono ?_
      rintro e w3 ⟨rfl, hb⟩
      have HB3 := Lib.hid (HB.out.trans (hb.mono HB.out.size))
      clear hb HC HXr c0 c1 c2 c3
      cases hR : inP p x
      · have HN2 : Hid (∀ j q, j < k + 1 → L[j]? = some q → inP q x = false) := Lib.hid fun j q hj hq => by
          rcases Nat.lt_or_ge j k with h1 | h1
          · exact HN.out j q h1 hq
          · obtain rfl : j = k := by omega
            rw [Hp.out] at hq
            exact (Option.some.inj hq) ▸ hR
        clear hR
        go_wp2_with fail
        exact ⟨⟨k + 1, by omega, by go_num, HN2, HB3⟩, by simp [intOf]; omega⟩
      · have HT : Hid ((L.any fun p => inP p x) = true) := Lib.hid (List.any_eq_true.2 ⟨p, Hpm.out, hR⟩)
        clear hR
        go_wp2_with fail
        go_ret
        exact ⟨(k : Int), rfl, by rw [HT.out]; exact decide_eq_true (by omega), HB3.out⟩
    · obtain rfl : k = n := by omega
      have HT : Hid ((L.any fun p => inP p x) = false) := Lib.hid (by
        rw [Bool.eq_false_iff]
        intro h
        obtain ⟨p, hp, hR⟩ := List.any_eq_true.1 h
        obtain ⟨j, hj, rfl⟩ := List.getElem_of_mem hp
        have := HN.out j _ (by rw [← Hn.out]; exact hj) (List.getElem?_eq_getElem hj)
        rw [this] at hR; cases hR)
      go_wp2_with fail
      go_ret
      exact ⟨-1, rfl, by rw [HT.out]; rfl, HB.out⟩
set_option maxRecDepth 100000 in
set_option maxHeartbeats 1000000 in
theorem containsHas_any (ad : Option Addr) (n c bx : Nat) (L : List Pf) (x : Nat) (w : World) (h : RdK layPf w ad L) (hn : L.length = n) (hs : n ≤ 1000000) (hv : ∀ p ∈ L, OkPf p) (hx : VN x) (hb : Blk w bx 33 (aN x)) :
    Calls Tryz.prog 83 #[.slice ad n c, .func (.func 84) #[] #[.pointer (some ⟨bx, 0, none⟩)]] w (Ret (.bool (L.any fun p => inP p x)) w) := by
  have HI := Lib.hid (indexHas_any ad n c bx L x w h hn hs hv hx hb)
  clear h hn hs hv hx hb
  generalize (L.any fun p => inP p x) = R at *
  go_enter Tryz.func83, Tryz.ntmps83
  go_wp2_with fail
  refine HI.out.mono ?_
  rintro e w3 ⟨k, rfl, hk, hb⟩
  have HB := Lib.hid hb
  clear hb HI
  cases R
  · have hk0 : ¬ 0 ≤ k := of_decide_eq_false hk
    have hk1 : ¬ k ≥ 0 := hk0
    go_wp2_with fail
    go_ret
    exact ⟨rfl, HB.out⟩
  · have hk0 : 0 ≤ k := of_decide_eq_true hk
    have hk1 : k ≥ 0 := hk0
    go_wp2_with fail
    go_ret
    exact ⟨rfl, HB.out⟩
set_option maxRecDepth 100000 in
set_option maxHeartbeats 1000000 in
theorem hasOf_any (ad : Option Addr) (n c : Nat) (L : List Pf) (x : Nat) (w : World) (h : RdK layPf w ad L) (hn : L.length = n) (hs : n ≤ 1000000) (hv : ∀ p ∈ L, OkPf p) (hx : VN x) :
    Calls Tryz.prog 35 #[.slice ad n c, .agg (aN x)] w (Ret (.bool (L.any fun p => inP p x)) w) := by
  have hb0 : Below w.heap.size w (w.alloc (.cells (aN x) 33 (0, 0))) := below_alloc (Below.refl _ _) _
  have HC := Lib.hid (containsHas_any ad n c w.heap.size L x (w.alloc (.cells (aN x) 33 (0, 0))) (h.below hb0) hn hs hv hx (Blk.new w _ _))
  have HB0 := Lib.hid hb0
  clear h hn hs hv hx hb0
  generalize (L.any fun p => inP p x) = R at *
  unfold aN at HC HB0 ⊢
  generalize sixN x = x1 at *
  generalize hiN x = x2 at *
  generalize loN x = x3 at *
  go_enter Tryz.func35, Tryz.ntmps35
  go_wp2_with fail
  refine HC.out.mono ?_
  rintro e w3 ⟨rfl, hb⟩
  have HB3 := Lib.hid (HB0.out.trans (hb.mono HB0.out.size))
  clear hb HC HB0
  go_wp2_with fail
  go_ret
  exact ⟨rfl, HB3.out⟩
end Go.Proofs.YtaeieigdibanlaaGreatDoor

namespace Go.Proofs.YtaeieigdibanlaaGreatDoor
open Go.RowKit Go
set_option linter.unusedVariables false

theorem aOK_ofN {s : Bool} {h l : Nat} (hh : U64N h) (hl : U64N l) (h0 : aFault s (h : Int) (l : Int) = 0) : AOK s h l := by
  refine ⟨hh, hl, fun hs => ?_⟩
  subst hs
  unfold aFault at h0
  simp at h0
  constructor <;> omega
/-- what the last region of Has has yielded -/
def haR (rs0 : Value) (S : List Sp) (B : Nat) (X : Array Value) (b : Bool) : Nat → Value → World → Prop
  | 0, v, _ => v = rs0
  | 1, v, w => ∃ ad c, v = .slice ad S.length c ∧ OwnK layRg w B v S
  | 2, v, _ => v = .agg X
  | _, v, _ => v = .bool b
theorem haR_keep {rs0 : Value} {S : List Sp} {B : Nat} {X : Array Value} {b : Bool} (p : Nat) (v : Value) (u w : World) (h : haR rs0 S B X b p v u) (hb : Below u.heap.size u w) : haR rs0 S B X b p v w := by
  rcases p with _ | _ | _ | p
  all_goals first
    | exact h
    | (obtain ⟨ad, c, h1, h2⟩ := h; exact ⟨ad, c, h1, h2.later hb⟩)
def hasF (L : List Pf) (six : Bool) (hi lo : Nat) : Int := if setF L ≠ 0 then setF L else aFault six (hi : Int) (lo : Int)
set_option maxRecDepth 100000 in
set_option maxHeartbeats 4000000 in
theorem ahas_any (ad : Option Addr) (n c : Nat) (L : List Pf) (six : Bool) (hi lo : Nat) (w : World) (h : RdK layPf w ad L) (hn : L.length = n) (hs : n ≤ 1000) (hu : U4 L) (h1 : U64N hi) (h2 : U64N lo) :
    Calls Tryz.prog 31 #[.slice ad n c, .agg #[.bool six, .int .u64 (hi : Int), .int .u64 (lo : Int)]] w (Ret (.tuple #[.bool (decide (hasF L six hi lo = 0) && L.any fun p => inP p (numA six hi lo)), .int .i64 (hasF L six hi lo)]) w) := by
  obtain ⟨B, hB⟩ : ∃ B, (decide (hasF L six hi lo = 0) && L.any fun p => inP p (numA six hi lo)) = B := ⟨_, rfl⟩
  obtain ⟨F, hF⟩ : ∃ F, hasF L six hi lo = F := ⟨_, rfl⟩
  have HB0 : Hid (F ≠ 0 → B = false) := Lib.hid fun h => by rw [← hB, hF]; simp [h]
  have HB1 : Hid (F = 0 → B = (L.any fun p => inP p (numA six hi lo))) := Lib.hid fun h => by rw [← hB, hF]; simp [h]
  have HF1 : Hid (setF L ≠ 0 → F = setF L) := Lib.hid fun h => by rw [← hF]; unfold hasF; rw [if_pos h]
  have HF2 : Hid (setF L = 0 → F = aFault six (hi : Int) (lo : Int)) := Lib.hid fun h => by rw [← hF]; unfold hasF; rw [if_neg (by simp [h])]
  rw [hB, hF]
  have HC := Lib.hid fun wx (hb : Below w.heap.size w wx) => checkSet_any ad n c L wx (h.below hb) hn (by omega) hu
  have HOk : Hid (setF L = 0 → ∀ p ∈ L, OkPf p) := Lib.hid fun e => setF_okS e hu
  have HA := Lib.hid fun wx => checkAddr_any six (hi : Int) (lo : Int) wx (by unfold U64; unfold U64N at h1; omega) (by unfold U64; unfold U64N at h2; omega)
  have HN := Lib.hid fun (h0 : aFault six (hi : Int) (lo : Int) = 0) => aN_num (aOK_ofN h1 h2 h0)
  have H0 := Lib.hid h
  have Hn := Lib.hid hn
  unfold vAddr at HA
  generalize setF L = SF at *
  generalize aFault six (hi : Int) (lo : Int) = AF at *
  clear hB hF h hn hu h1 h2
  have HK : Hid (Blk (w.alloc (.cells #[.bool six, .int .u64 (hi : Int), .int .u64 (lo : Int)] 33 (0, 0))) w.heap.size 33 #[.bool six, .int .u64 (hi : Int), .int .u64 (lo : Int)]) := Lib.hid (Blk.new w _ _)
  have HBw : Hid (Below w.heap.size w (w.alloc (.cells #[.bool six, .int .u64 (hi : Int), .int .u64 (lo : Int)] 33 (0, 0)))) := Lib.hid (below_alloc (Below.refl _ _) _)
  go_enter Tryz.func31, Tryz.ntmps31
  go_upto_region 1 with fail
  generalize (w.alloc (.cells #[.bool six, .int .u64 (hi : Int), .int .u64 (lo : Int)] 33 (0, 0))) = w1 at *
  obtain ⟨bx, hbx⟩ : ∃ bx, w.heap.size = bx := ⟨_, rfl⟩
  have HBX := Lib.hid hbx
  rw [hbx] at HK ⊢
  clear hbx
  go_wp2_with fail
  refine (HC.out _ HBw.out).mono ?_
  rintro e w2 ⟨rfl, hb⟩
  have HB2 := Lib.hid (HBw.out.trans (hb.mono HBw.out.size))
  have HK2 := Lib.hid (HK.out.below hb HK.out.lt)
  clear hb HBw HK HC
  by_cases hS : SF = 0
  case neg =>
    have hS2 : (SF != 0) = true := by simpa using hS
    obtain rfl := HF1.out hS
    obtain rfl := HB0.out hS
    clear hS HB0 HB1 HF1 HF2 HA HN HOk
    go_wp2_with fail
    go_ret2
    exact ⟨rfl, HB2.out⟩
  case pos =>
    obtain rfl := HF2.out hS
    have Hv := Lib.hid (HOk.out hS)
    subst hS
    clear HF1 HF2 HOk
    have d0 := HK2.out.cell 0
    have d1 := HK2.out.cell 1
    have d2 := HK2.out.cell 2
    simp at d0 d1 d2
    go_wp2_with fail
    refine (HA.out _).mono ?_
    rintro e w3 ⟨rfl, o3, rfl⟩
    have HB3 := Lib.hid (below_alloc HB2.out o3)
    have HK3 := Lib.hid (HK2.out.alloc o3)
    generalize w2.alloc o3 = w3 at *
    clear HB2 HK2 HA d0 d1 d2
    by_cases hA : F = 0
    case neg =>
      have hA2 : (F != 0) = true := by simpa using hA
      obtain rfl := HB0.out hA
      clear hA HB0 HB1 HN
      go_wp2_with fail
      go_ret2
      exact ⟨rfl, HB3.out⟩
    case pos =>
      subst hA
      obtain ⟨hx1, hx2, hx3, hx4⟩ := HN.out rfl
      have hB := HB1.out rfl
      obtain ⟨x, hx⟩ : ∃ x, numA six hi lo = x := ⟨_, rfl⟩
      rw [hx] at hx1 hx2 hx3 hx4 hB
      have HXc : Hid ((#[.bool six, .int .u64 (hi : Int), .int .u64 (lo : Int)] : Array Value) = aN x) := Lib.hid (by unfold aN; rw [hx2, hx3, hx4])
      have HSV := Lib.hid (spn_vr Hv.out)
      have HSK := Lib.hid (spn_can Hv.out)
      have HSl : Hid ((spn L).length ≤ 1000) := Lib.hid (by have := spn_len L; rw [Hn.out] at this; omega)
      have HBi : Hid (B = true ↔ InS (spn L) x) := Lib.hid (by rw [hB, any_inP, inS_spn Hv.out])
      have HSp := Lib.hid fun wx (hb : Below w.heap.size w wx) => spanOf_any ad n c L wx (H0.out.below hb) Hn.out (by omega) Hv.out
      have e1 : jn (L.map spP) = spn L := rfl
      rw [e1] at HSp
      clear e1 hx hx2 hx3 hx4 hB HN HB0 HB1
      generalize spn L = S at *
      have HHs := Lib.hid fun ad' c' wx (hr : RdK layRg wx ad' S) => has_any ad' S.length c' S x wx hr rfl (by have := HSl.out; omega) HSV.out hx1 HSK.out
      rw [← HXc.out] at HHs
      go_upto_region 7 with fail
      have d0 := HK3.out.cell 0
      have d1 := HK3.out.cell 1
      have d2 := HK3.out.cell 2
      simp at d0 d1 d2
      have m0 := Later.cell_of d0
      have m1 := Later.cell_of d1
      have m2 := Later.cell_of d2
      clear d0 d1 d2
      refine wp_region_inv 4 0 (haR (.slice ad n c) S bx #[.bool six, .int .u64 (hi : Int), .int .u64 (lo : Int)] B) (fun _ wx => Below w3.heap.size w3 wx) (fun u v => Below u.heap.size u v) (fun _ => 0)
        (by kernel_rfl) (by kernel_rfl) (by decide) haR_keep (below_drew (Below.refl _ _)) ?hX
      case' hX => (apply Exists.intro; refine ⟨fun T => ?hA, ?hob, ?hend⟩)
      case hA =>
        simp only [setAll, List.take_succ_cons, List.take_zero, Act.put, List.setIfInBounds_toArray, List.set_cons_succ, List.set_cons_zero, Nat.reduceAdd]
        exact rfl
      case hob =>
        go_light
        refine ⟨?_, ?_, ?_, ?_, trivial⟩
        all_goals (intro T wx n0 hC hn hp; dsimp only at hn ⊢; unfold Op1)
        · go_simp
          exact ⟨rfl, Below.refl _ _⟩
        · obtain ⟨h0, -⟩ := hp
          have h0 : T 0 = .slice ad n c := h0
          go_simp
          refine (HSp.out wx (HB3.out.trans (hC.mono HB3.out.size))).mono ?_
          rintro e w5 ⟨v, rfl, hO, hb⟩
          have hsz := (HB3.out.trans (hC.mono HB3.out.size)).size
          rw [HBX.out] at hsz
          have hO2 := hO.weak hsz
          obtain ⟨a5, c5, rfl, _⟩ := hO.form
          exact ⟨_, rfl, ⟨_, _, rfl, hO2⟩, hC.trans (hb.mono hC.size), hb⟩
        · have e0 := m0 ⟨wx, hC⟩
          have e1 := m1 ⟨wx, hC⟩
          have e2 := m2 ⟨wx, hC⟩
          simp only at e0 e1 e2
          go_simp
          exact ⟨rfl, Below.refl _ _⟩
        · obtain ⟨⟨a1, q1, h1, hO1⟩, h2, -⟩ := hp
          have h2 : T 2 = .agg #[.bool six, .int .u64 (hi : Int), .int .u64 (lo : Int)] := h2
          rw [h1] at hO1
          go_simp
          refine (HHs.out a1 q1 wx hO1.rd).mono ?_
          rintro e w5 ⟨bb, rfl, hbb, hb⟩
          have hbB : bb = B := by
            rw [Bool.eq_iff_iff, hbb, HBi.out]
          subst hbB
          exact ⟨_, rfl, rfl, hC.trans (hb.mono hC.size), hb⟩
      case hend =>
        intro T w5 ⟨n0, hn0, hC⟩ hR
        have h3 : T 3 = .bool B := hR 3 (by omega)
        have HB5 := Lib.hid (HB3.out.trans (hC.mono HB3.out.size))
        clear hR hC m0 m1 m2 HK3 HB3
        simp only [List.drop_succ_cons, List.drop_zero, h3]
        go_wp2_with fail
        go_ret2
        exact ⟨rfl, HB5.out⟩
end Go.Proofs.YtaeieigdibanlaaGreatDoor

namespace Go.Proofs.YtaeieigdibanlaaGreatDoor
open Go.RowKit Go
set_option linter.unusedVariables false

/-- the table's cell for 16 -/
def T16 (w : World) : Prop := w.cell? ⟨7, 15, none⟩ = some (.int .u8 4)
theorem T16.below {w w' : World} (h : T16 w) (hb : Below w.heap.size w w') : T16 w' := Later.cell_of h ⟨w', hb⟩
abbrev DG : ByteArray := ⟨#[48, 49, 50, 51, 52, 53, 54, 55, 56, 57, 97, 98, 99, 100, 101, 102, 103, 104, 105, 106, 107, 108, 109, 110, 111, 112, 113, 114, 115, 116, 117, 118, 119, 120, 121, 122]⟩
end Go.Proofs.YtaeieigdibanlaaGreatDoor

namespace Go.Proofs.YtaeieigdibanlaaGreatDoor
open Go.RowKit Go Go.Sort
set_option linter.unusedVariables false

theorem tab_below {w w' : World} {name : String} {k : IntKind} {zs : List Int} (h : Lib.TabIs Tryz.prog w name k zs) (hb : Below w.heap.size w w') : Lib.TabIs Tryz.prog w' name k zs := by
  unfold Lib.TabIs World.var? at *
  cases hg : Tryz.prog.globalNamed name with
  | none => simp [hg] at h
  | some g =>
    simp only [hg, Option.bind_some] at h ⊢
    have hlt : g < w.heap.size := by
      rcases Nat.lt_or_ge g w.heap.size with h' | h'
      · exact h'
      · rw [Array.getElem?_eq_none h'] at h; simp at h
    rw [hb.block g hlt]
    exact h
theorem below_grow {B : Nat} {u w : World} (h : Below B u w) (hB : B ≤ w.heap.size) (k : Nat) (os : Array Obj) : Below B u (grow (w.drewN k) os) :=
  ⟨h.os, h.tape, h.output, Nat.le_trans h.size (by show w.heap.size ≤ (w.heap ++ os).size; simp), fun i hi => (Lib.heap_grow_old w k os i (Nat.lt_of_lt_of_le hi hB)).trans (h.block i hi)⟩
/-- the two tables that numerals read -/
def Tabs (w : World) : Prop := Lib.TabIs Tryz.prog w "internal/strconv.uint64pow10" .u64 Lib.pow10Tab ∧ T16 w
theorem Tabs.below {w w' : World} (h : Tabs w) (hb : Below w.heap.size w w') : Tabs w' := ⟨tab_below h.1 hb, h.2.below hb⟩
set_option maxRecDepth 100000 in
set_option maxHeartbeats 2000000 in
theorem iFmtU_big (u : Nat) (h1 : 100 ≤ u) (h2 : u < 18446744073709551616) (w : World) (htab : Lib.TabIs Tryz.prog w "internal/strconv.uint64pow10" .u64 Lib.pow10Tab) :
    Calls Tryz.prog 157 #[.int .u64 (u : Int), .int .i64 10] w (Ret (.string ⟨(Lib.decDigits u).toArray⟩) w) := by
  have hu64 : u < 18446744073709551616 := by omega
  have hnd20 : Lib.nDigits u ≤ 20 := by have := Lib.numDigits_eq u (by omega) hu64; split at this <;> omega
  have hal : Tryz.prog.arrayLen 205 = 24 := by kernel_rfl
  have hsl : ∀ W, (Instr.sliceAt 205 (.pointer (some ⟨w.heap.size, 0, none⟩)) none (some (.int .i64 (Lib.nDigits u : Int))) none).run Tryz.prog W = .ok (.slice (some ⟨w.heap.size, 0, none⟩) (Lib.nDigits u) 24) W := fun W => by
    rw [run_sliceAt_array_h W 205 ⟨w.heap.size, 0, none⟩ (by kernel_rfl) .i64 (Lib.nDigits u : Int) (by omega) (by rw [hal]; omega)]
    go_simp
  have hH0 := Lib.holds_zero0 w 205 (Lib.nDigits u) (by omega)
  have hfmt := Tryz.internal_strconv_formatBase10 w.heap.size 0 24 u (Array.replicate (Lib.nDigits u) 0) (w.alloc (.cells Lib.zeros24 205)) hH0 (by rw [Array.size_replicate]; exact Lib.lt_pow_nDigits u) hu64 (by rw [Array.size_replicate]; omega)
  rw [Array.size_replicate] at hfmt
  unfold Lib.zeros24 at hfmt hH0
  have HH0 := Lib.hid hH0
  have Hfmt := Lib.hid hfmt
  have Hnd := Lib.hid (Tryz.internal_strconv_numDigits u (by omega) hu64 (w.alloc (.cells #[.int .u8 0, .int .u8 0, .int .u8 0, .int .u8 0, .int .u8 0, .int .u8 0, .int .u8 0, .int .u8 0, .int .u8 0, .int .u8 0, .int .u8 0, .int .u8 0, .int .u8 0, .int .u8 0, .int .u8 0, .int .u8 0, .int .u8 0, .int .u8 0, .int .u8 0, .int .u8 0, .int .u8 0, .int .u8 0, .int .u8 0, .int .u8 0] 205)) (Lib.tabIs_alloc htab _))
  have hu3 : ¬ (u : Int) < 100 := by omega
  clear hH0 hal hfmt htab
  go_enter Tryz.func157, Tryz.ntmps157
  go_wp2_with fail
  refine Hnd.out.mono ?_
  rintro e w' ⟨rfl, rfl⟩
  clear Hnd
  go_wp2_with fail
  refine Hfmt.out.mono ?_
  rintro e w' ⟨rfl, k, v', dk, rfl, hF⟩
  have hcv : (convert 158 9 (.slice (some ⟨w.heap.size, 0, none⟩) (Lib.nDigits u) 24)).run Tryz.prog ((putRow (fun (b : UInt8) => Value.int .u8 (b.toNat : Int)) (w.alloc (.cells #[.int .u8 0, .int .u8 0, .int .u8 0, .int .u8 0, .int .u8 0, .int .u8 0, .int .u8 0, .int .u8 0, .int .u8 0, .int .u8 0, .int .u8 0, .int .u8 0, .int .u8 0, .int .u8 0, .int .u8 0, .int .u8 0, .int .u8 0, .int .u8 0, .int .u8 0, .int .u8 0, .int .u8 0, .int .u8 0, .int .u8 0, .int .u8 0] 205)) w.heap.size 0 dk).drewN k) = .ok (.string ⟨(Lib.decDigits u).toArray⟩) ((putRow (fun (b : UInt8) => Value.int .u8 (b.toNat : Int)) (w.alloc (.cells #[.int .u8 0, .int .u8 0, .int .u8 0, .int .u8 0, .int .u8 0, .int .u8 0, .int .u8 0, .int .u8 0, .int .u8 0, .int .u8 0, .int .u8 0, .int .u8 0, .int .u8 0, .int .u8 0, .int .u8 0, .int .u8 0, .int .u8 0, .int .u8 0, .int .u8 0, .int .u8 0, .int .u8 0, .int .u8 0, .int .u8 0, .int .u8 0] 205)) w.heap.size 0 dk).drewN k) := by
    have h := run_convert_bytes_back (P := Tryz.prog) ((putRow (fun (b : UInt8) => Value.int .u8 (b.toNat : Int)) (w.alloc (.cells #[.int .u8 0, .int .u8 0, .int .u8 0, .int .u8 0, .int .u8 0, .int .u8 0, .int .u8 0, .int .u8 0, .int .u8 0, .int .u8 0, .int .u8 0, .int .u8 0, .int .u8 0, .int .u8 0, .int .u8 0, .int .u8 0, .int .u8 0, .int .u8 0, .int .u8 0, .int .u8 0, .int .u8 0, .int .u8 0, .int .u8 0, .int .u8 0] 205)) w.heap.size 0 dk).drewN k) 158 9 5 ⟨w.heap.size, 0, none⟩ 24 (Lib.decDigits u) (by kernel_rfl) (by kernel_rfl) (by kernel_rfl) (fun j hj => by
      rw [Lib.row_is_numeral hF j hj, Lib.add_plain, World.cell?_drewN]
      exact cell?_putRow (fun (b : UInt8) => Value.int .u8 (b.toNat : Int)) _ w.heap.size 0 _ dk HH0.out (by rw [hF.size, Array.size_replicate]) j (by rw [hF.size]; rw [Lib.decDigits_length] at hj; exact hj))
    rw [Lib.decDigits_length] at h
    exact h
  obtain ⟨os, eo⟩ := Lib.fin_at w (.cells #[.int .u8 0, .int .u8 0, .int .u8 0, .int .u8 0, .int .u8 0, .int .u8 0, .int .u8 0, .int .u8 0, .int .u8 0, .int .u8 0, .int .u8 0, .int .u8 0, .int .u8 0, .int .u8 0, .int .u8 0, .int .u8 0, .int .u8 0, .int .u8 0, .int .u8 0, .int .u8 0, .int .u8 0, .int .u8 0, .int .u8 0, .int .u8 0] 205) dk k 0
  have HB : Hid (Below w.heap.size w ((putRow (fun (b : UInt8) => Value.int .u8 (b.toNat : Int)) (w.alloc (.cells #[.int .u8 0, .int .u8 0, .int .u8 0, .int .u8 0, .int .u8 0, .int .u8 0, .int .u8 0, .int .u8 0, .int .u8 0, .int .u8 0, .int .u8 0, .int .u8 0, .int .u8 0, .int .u8 0, .int .u8 0, .int .u8 0, .int .u8 0, .int .u8 0, .int .u8 0, .int .u8 0, .int .u8 0, .int .u8 0, .int .u8 0, .int .u8 0] 205)) w.heap.size 0 dk).drewN k)) := Lib.hid (by rw [eo]; exact below_grow (Below.refl _ _) (Nat.le_refl _) _ _)
  clear eo hF HH0 Hfmt
  go_wp2
  go_ret
  exact ⟨rfl, HB.out⟩
theorem fmtU10_any (u : Nat) (h2 : u < 18446744073709551616) (w : World) (htab : Lib.TabIs Tryz.prog w "internal/strconv.uint64pow10" .u64 Lib.pow10Tab) :
    Calls Tryz.prog 129 #[.int .u64 (u : Int), .int .i64 10] w (Ret (.string ⟨(Lib.decDigits u).toArray⟩) w) := by
  rcases Nat.lt_or_ge u 100 with h | h
  · refine (fmtU_small u h w).mono ?_
    rintro e w' ⟨rfl, rfl⟩
    exact ⟨rfl, Below.refl _ _⟩
  · have H := Lib.hid (iFmtU_big u h h2 w htab)
    generalize Lib.decDigits u = s at *
    clear htab
    go_enter Tryz.func129, Tryz.ntmps129
    go_wp2_with fail
    refine H.out.mono ?_
    rintro e w' ⟨rfl, hb⟩
    go_wp2_with fail
    go_ret
    exact ⟨rfl, hb⟩
end Go.Proofs.YtaeieigdibanlaaGreatDoor

namespace Go.Proofs.YtaeieigdibanlaaGreatDoor
open Go.RowKit Go
set_option linter.unusedVariables false

theorem grown_of_below {w w' : World} {r : Option Nat} (h : Below w.heap.size w w') : w.grownBy w' r := ⟨h.os, h.tape, h.output, h.size, fun i hi _ => h.block i hi⟩
theorem grown_of_set {w : World} {b i : Nat} {v : Value} : w.grownBy (w.setCell ⟨b, i, none⟩ v) (some b) := ⟨rfl, rfl, rfl, by simp [World.setCell], fun j hj hne => Below.heap_setCell w _ _ j (fun e => hne (by rw [e]))⟩
/-- the part of 2^n in the k-th word -/
def eX (n k : Nat) : Nat := if n / 64 = k then 2 ^ (n % 64) else 0
theorem eX_lt (n k : Nat) : eX n k < 18446744073709551616 := by
  unfold eX
  split
  · exact Nat.lt_of_le_of_lt (Nat.pow_le_pow_right (by decide) (show n % 64 ≤ 63 by omega)) (by decide)
  · decide
theorem eX_sum {n : Nat} (h : n < 192) : eX n 0 + eX n 1 * 18446744073709551616 + eX n 2 * 340282366920938463463374607431768211456 = 2 ^ n := by
  have hd : n = 64 * (n / 64) + n % 64 := by omega
  have h3 : n / 64 = 0 ∨ n / 64 = 1 ∨ n / 64 = 2 := by omega
  unfold eX
  rcases h3 with e | e | e
  all_goals
    rw [e] at hd ⊢
    conv => rhs; rw [hd, Nat.pow_add]
    simp
    try omega
/-- what one word's addition yields -/
def caR (b k : Nat) (c x cy lo hi : Int) : Nat → Value → Nat → World → Prop
  | 0, v, _, _ => v = .pointer (some ⟨b, 0, none⟩)
  | 1, v, _, _ => v = .int .i64 (k : Int)
  | 2, v, _, _ => v = .pointer (some ⟨b, 0, none⟩)
  | 3, v, _, _ => v = .int .i64 (k : Int)
  | 4, v, _, _ => v = .pointer (some ⟨b, 0, none⟩)
  | 5, v, _, _ => v = .pointer (some ⟨b, k, none⟩)
  | 6, v, _, _ => v = .int .u64 c
  | 7, v, _, _ => v = .int .u64 x
  | 8, v, _, _ => v = .int .u64 cy
  | 9, v, _, _ => v = .tuple #[.int .u64 lo, .int .u64 hi]
  | 10, v, _, _ => v = .tuple #[.int .u64 lo, .int .u64 hi]
  | 11, v, _, _ => v = .int .u64 lo
  | 12, v, _, _ => v = .int .u64 hi
  | 13, v, _, _ => v = .pointer (some ⟨b, 0, none⟩)
  | 14, v, _, _ => v = .pointer (some ⟨b, k, none⟩)
  | _, _, n, _ => 1 ≤ n
def caS (n : Nat) (_ : World) (n' : Nat) (_ : World) : Prop := n ≤ n'
theorem caR_keep {b k : Nat} {c x cy lo hi : Int} (p : Nat) (v : Value) (n : Nat) (u : World) (m : Nat) (w : World) (h : caR b k c x cy lo hi p v n u) (hb : caS n u m w) : caR b k c x cy lo hi p v m w := by
  unfold caS at hb
  rcases p with _ | _ | _ | _ | _ | _ | _ | _ | _ | _ | _ | _ | _ | _ | _ | p
  all_goals first
    | exact h
    | (have h : 1 ≤ n := h; show 1 ≤ m; omega)
def caC (b k : Nat) (lo : Int) (w0 : World) (n : Nat) (w : World) : Prop := (n = 0 → Below w0.heap.size w0 w) ∧ (1 ≤ n → ∃ w2, Below w0.heap.size w0 w2 ∧ w = w2.setCell ⟨b, k, none⟩ (.int .u64 lo))
theorem add64_all (x y c : Nat) (hx : x < 18446744073709551616) (hy : y < 18446744073709551616) (hc : c ≤ 1) (w : World) : (callFunc 127 #[.int .u64 (x : Int), .int .u64 (y : Int), .int .u64 (c : Int)]).run Tryz.prog w = .ok (.value (.tuple #[.int .u64 (((x + y + c) % 18446744073709551616 : Nat) : Int), .int .u64 (((x + y + c) / 18446744073709551616 : Nat) : Int)])) w := by
  rw [run_callFunc_extern Tryz.func127 (by kernel_rfl) (by kernel_rfl) (by kernel_rfl) (e := add64Entry) (by kernel_rfl), run_add64 (x : Int) (y : Int) (c : Int) (by omega) (by omega) (by omega) (by omega)]
  simp only [Result.andThen]
  congr 5 <;> omega
set_option maxRecDepth 100000 in
set_option maxHeartbeats 4000000 in
theorem cAdd_any (b : Nat) (c0 c1 c2 n : Nat) (w : World) (hB : Blk w b 108 #[.int .u64 (c0 : Int), .int .u64 (c1 : Int), .int .u64 (c2 : Int)]) (hn : n ≤ 128) (hc0 : c0 < 18446744073709551616) (hc1 : c1 < 18446744073709551616) (hc2 : c2 < 18446744073709551616) (hV : c0 + c1 * 18446744073709551616 + c2 * 340282366920938463463374607431768211456 + 2 ^ n < 6277101735386680763835789423207666416102355444464034512896) :
    Calls Tryz.prog 80 #[.pointer (some ⟨b, 0, none⟩), .int .i64 (n : Int)] w fun e w' => e = .returned (.tuple #[]) ∧ ∃ d0 d1 d2 : Nat, d0 < 18446744073709551616 ∧ d1 < 18446744073709551616 ∧ d2 < 18446744073709551616 ∧ d0 + d1 * 18446744073709551616 + d2 * 340282366920938463463374607431768211456 = c0 + c1 * 18446744073709551616 + c2 * 340282366920938463463374607431768211456 + 2 ^ n ∧ Blk w' b 108 #[.int .u64 (d0 : Int), .int .u64 (d1 : Int), .int .u64 (d2 : Int)] ∧ w.grownBy w' (some b) := by
  have HV := Lib.hid hV
  have HE := Lib.hid (eX_sum (n := n) (by omega))
  have hx0 := eX_lt n 0
  have hx1 := eX_lt n 1
  have hx2 := eX_lt n 2
  have hwr : IntKind.u64.wrap (2 ^ (n % 64)) = ((2 ^ (n % 64) : Nat) : Int) := by
    have h1 : (2 : Nat) ^ (n % 64) < 18446744073709551616 := Nat.lt_of_le_of_lt (Nat.pow_le_pow_right (by decide) (show n % 64 ≤ 63 by omega)) (by decide)
    have e2 : ∀ x, IntKind.u64.wrap x = x % 18446744073709551616 := fun x => rfl
    have e3 : ((2 : Int) ^ (n % 64)) = ((2 ^ (n % 64) : Nat) : Int) := by simp
    obtain ⟨q, hq⟩ : ∃ q : Nat, 2 ^ (n % 64) = q := ⟨_, rfl⟩
    rw [e2, e3, hq]
    rw [hq] at h1
    omega
  have HWr := Lib.hid hwr
  have HX0 : Hid (∀ v : Int, ((n / 64 = 0 ∧ v = IntKind.u64.wrap (2 ^ (n % 64))) ∨ (n / 64 ≠ 0 ∧ v = 0)) → v = ((eX n 0 : Nat) : Int)) := Lib.hid fun v h => by
    unfold eX
    rcases h with ⟨h1, h2⟩ | ⟨h1, h2⟩
    · rw [if_pos h1, h2, HWr.out]
    · rw [if_neg h1, h2]; rfl
  have HX1 : Hid (∀ v : Int, ((n / 64 = 1 ∧ v = IntKind.u64.wrap (2 ^ (n % 64))) ∨ (n / 64 ≠ 1 ∧ v = 0)) → v = ((eX n 1 : Nat) : Int)) := Lib.hid fun v h => by
    unfold eX
    rcases h with ⟨h1, h2⟩ | ⟨h1, h2⟩
    · rw [if_pos h1, h2, HWr.out]
    · rw [if_neg h1, h2]; rfl
  have HX2 : Hid (∀ v : Int, ((n / 64 = 2 ∧ v = IntKind.u64.wrap (2 ^ (n % 64))) ∨ (n / 64 ≠ 2 ∧ v = 0)) → v = ((eX n 2 : Nat) : Int)) := Lib.hid fun v h => by
    unfold eX
    rcases h with ⟨h1, h2⟩ | ⟨h1, h2⟩
    · rw [if_pos h1, h2, HWr.out]
    · rw [if_neg h1, h2]; rfl
  clear hwr HWr hV
  obtain ⟨x0, hx0e⟩ : ∃ x, eX n 0 = x := ⟨_, rfl⟩
  obtain ⟨x1, hx1e⟩ : ∃ x, eX n 1 = x := ⟨_, rfl⟩
  obtain ⟨x2, hx2e⟩ : ∃ x, eX n 2 = x := ⟨_, rfl⟩
  rw [hx0e] at HX0 HE hx0
  rw [hx1e] at HX1 HE hx1
  rw [hx2e] at HX2 HE hx2
  clear hx0e hx1e hx2e
  generalize 2 ^ n = P2 at *
  have HB0 := Lib.hid hB
  have HG0 : Hid (w.grownBy w (some b)) := Lib.hid (World.grownBy.refl w _)
  clear hB
  go_enter Tryz.func80, Tryz.ntmps80
  go_wp2_with fail
  refine wp_loop_rounds 4 ?_
  rw [rounds_succ]
  go_upto_if 13 with fail
  go_cut [6] (fun s6 wx => s6 = .int .u64 (x0 : Int) ∧ w = wx)
  case first =>
    as_aux_lemma =>
      by_cases h : n / 64 = 0
      · have he := HX0.out _ (.inl ⟨h, rfl⟩)
        have hq : ((n : Int) / 64 == 0) = true := by simp; omega
        go_wp2_with fail
        go_meet
        case rel => exact ⟨by rw [← he], rfl⟩
      · have he := HX0.out _ (.inr ⟨h, rfl⟩)
        have hq : ((n : Int) / 64 == 0) = false := by simp; omega
        go_wp2_with fail
        go_meet
        case rel => exact ⟨by rw [← he], rfl⟩
  case rest =>
  obtain ⟨rfl, rfl⟩ := hcut
  clear HX0
  obtain ⟨lo0, hlo0⟩ : ∃ v : Nat, (c0 + x0 + 0) % 18446744073709551616 = v := ⟨_, rfl⟩
  obtain ⟨y1, hy1⟩ : ∃ v : Nat, (c0 + x0 + 0) / 18446744073709551616 = v := ⟨_, rfl⟩
  have hAdd : ∀ wz, (callFunc 127 #[.int .u64 (c0 : Int), .int .u64 (x0 : Int), .int .u64 0]).run Tryz.prog wz = .ok (.value (.tuple #[.int .u64 (lo0 : Int), .int .u64 (y1 : Int)])) wz := fun wz => by
    have this := add64_all c0 x0 0 hc0 hx0 (by omega) wz
    rw [hlo0, hy1] at this
    exact this
  have HLo0 : Hid (c0 + x0 + 0 = lo0 + y1 * 18446744073709551616 ∧ lo0 < 18446744073709551616) := Lib.hid (by omega)
  have hyc1 : y1 ≤ 1 := by omega
  clear hlo0 hy1
  have e0 := HB0.out.cell 0
  simp at e0
  have l0 := Later.cell_of e0
  clear e0
  go_upto_region 7 with fail
  refine Lm.wp_region_lim 16 1 (caR b 0 (c0 : Int) (x0 : Int) (0 : Int) (lo0 : Int) (y1 : Int)) (caC b 0 (lo0 : Int) w) caS (fun q => if q = 15 then 1 else 0) (fun q => if q = 12 then 1 else 0)
    (by kernel_rfl) (by kernel_rfl) (by decide) (by kernel_rfl) caR_keep ⟨fun _ => below_drew (Below.refl _ _), fun h => absurd h (by decide)⟩ ?hX0
  case' hX0 => (apply Exists.intro; refine ⟨fun TT => ?hA0, ?hob0, ?hend0⟩)
  case hA0 =>
    simp only [setAll, List.take_succ_cons, List.take_zero, Act.put, List.setIfInBounds_toArray, List.set_cons_succ, List.set_cons_zero, Nat.reduceAdd]
    exact rfl
  case hob0 =>
    go_light
    refine ⟨?_, ?_, ?_, ?_, ?_, ?_, ?_, ?_, ?_, ?_, ?_, ?_, ?_, ?_, ?_, ?_, trivial⟩
    all_goals (intro TT wx n0 hC hn hp; dsimp only at hn ⊢)
    · unfold Op1
      go_simp
      first | exact ⟨rfl, hC, Nat.le_refl _⟩ | exact ⟨rfl, Nat.le_refl _⟩ | exact Nat.le_refl _
    · unfold Op1
      go_simp
      first | exact ⟨rfl, hC, Nat.le_refl _⟩ | exact ⟨rfl, Nat.le_refl _⟩ | exact Nat.le_refl _
    · unfold Op1
      go_simp
      first | exact ⟨rfl, hC, Nat.le_refl _⟩ | exact ⟨rfl, Nat.le_refl _⟩ | exact Nat.le_refl _
    · unfold Op1
      go_simp
      first | exact ⟨rfl, hC, Nat.le_refl _⟩ | exact ⟨rfl, Nat.le_refl _⟩ | exact Nat.le_refl _
    · obtain ⟨h0, -⟩ := hp
      have h0 : TT 2 = .pointer (some ⟨b, 0, none⟩) := h0
      unfold Op1
      go_simp
      first | exact ⟨rfl, hC, Nat.le_refl _⟩ | exact ⟨rfl, Nat.le_refl _⟩ | exact Nat.le_refl _
    · obtain ⟨h0, h1, -⟩ := hp
      have h0 : TT 4 = .pointer (some ⟨b, 0, none⟩) := h0
      have h1 : TT 3 = .int .i64 ((0 : Nat) : Int) := h1
      unfold Op1
      go_simp
      first | exact ⟨rfl, hC, Nat.le_refl _⟩ | exact ⟨rfl, Nat.le_refl _⟩ | exact Nat.le_refl _
    · obtain ⟨h0, -⟩ := hp
      have h0 : TT 5 = .pointer (some ⟨b, 0, none⟩) := h0
      have hn0 : n0 = 0 := by simpa using hn
      subst hn0
      have e0 := l0 ⟨wx, hC.1 rfl⟩
      simp only at e0
      unfold Op1
      go_simp
      first | exact ⟨rfl, hC, Nat.le_refl _⟩ | exact ⟨rfl, Nat.le_refl _⟩ | exact Nat.le_refl _
    · unfold Op1
      go_simp
      first | exact ⟨rfl, hC, Nat.le_refl _⟩ | exact ⟨rfl, Nat.le_refl _⟩ | exact Nat.le_refl _
    · unfold Op1
      go_simp
      first | exact ⟨rfl, hC, Nat.le_refl _⟩ | exact ⟨rfl, Nat.le_refl _⟩ | exact Nat.le_refl _
    · obtain ⟨h0, h1, h2, -⟩ := hp
      have h0 : TT 6 = .int .u64 (c0 : Int) := h0
      have h1 : TT 7 = .int .u64 (x0 : Int) := h1
      have h2 : TT 8 = .int .u64 (0 : Int) := h2
      have hA := hAdd wx
      unfold Op1
      go_simp
      first | exact ⟨rfl, hC, Nat.le_refl _⟩ | exact ⟨rfl, Nat.le_refl _⟩ | exact Nat.le_refl _
    · obtain ⟨h0, -⟩ := hp
      have h0 : TT 9 = .tuple #[.int .u64 (lo0 : Int), .int .u64 (y1 : Int)] := h0
      unfold Op1
      go_simp
      first | exact ⟨rfl, hC, Nat.le_refl _⟩ | exact ⟨rfl, Nat.le_refl _⟩ | exact Nat.le_refl _
    · obtain ⟨h0, -⟩ := hp
      have h0 : TT 10 = .tuple #[.int .u64 (lo0 : Int), .int .u64 (y1 : Int)] := h0
      unfold Op1
      go_simp
      first | exact ⟨rfl, hC, Nat.le_refl _⟩ | exact ⟨rfl, Nat.le_refl _⟩ | exact Nat.le_refl _
    · obtain ⟨h0, -⟩ := hp
      have h0 : TT 10 = .tuple #[.int .u64 (lo0 : Int), .int .u64 (y1 : Int)] := h0
      unfold Op1
      go_simp
      first | exact ⟨rfl, hC, Nat.le_refl _⟩ | exact ⟨rfl, Nat.le_refl _⟩ | exact Nat.le_refl _
    · obtain ⟨h0, -⟩ := hp
      have h0 : TT 0 = .pointer (some ⟨b, 0, none⟩) := h0
      unfold Op1
      go_simp
      first | exact ⟨rfl, hC, Nat.le_refl _⟩ | exact ⟨rfl, Nat.le_refl _⟩ | exact Nat.le_refl _
    · obtain ⟨h0, h1, -⟩ := hp
      have h0 : TT 13 = .pointer (some ⟨b, 0, none⟩) := h0
      have h1 : TT 1 = .int .i64 ((0 : Nat) : Int) := h1
      unfold Op1
      go_simp
      first | exact ⟨rfl, hC, Nat.le_refl _⟩ | exact ⟨rfl, Nat.le_refl _⟩ | exact Nat.le_refl _
    · obtain ⟨h0, h1, -⟩ := hp
      have h0 : TT 14 = .pointer (some ⟨b, 0, none⟩) := h0
      have h1 : TT 11 = .int .u64 (lo0 : Int) := h1
      have hn0 : n0 = 0 := by simpa using hn
      subst hn0
      have hb := hC.1 rfl
      have e0 := l0 ⟨wx, hb⟩
      have f0 := (HB0.out.below hb HB0.out.lt).free 0
      simp only at e0
      unfold Op1
      go_simp
      exact ⟨Nat.le_refl _, ⟨fun h => absurd h (by decide), fun _ => ⟨wx, hb, rfl⟩⟩, Nat.zero_le _⟩
  case hend0 =>
  intro TT w09 ⟨n0, hn0, hC, hR⟩
  have t12 : TT 12 = .int .u64 (y1 : Int) := hR 12 (by omega)
  have t15 : 1 ≤ n0 := hR 15 (by omega)
  obtain ⟨w08, hb, hw⟩ := hC.2 t15
  have HB1 : Hid (Blk w09 b 108 #[.int .u64 (lo0 : Int), .int .u64 (c1 : Int), .int .u64 (c2 : Int)]) := Lib.hid (by rw [hw]; exact (HB0.out.below hb HB0.out.lt).set 0 (.int .u64 (lo0 : Int)))
  have HG1 : Hid (w.grownBy w09 (some b)) := Lib.hid (by rw [hw]; exact grown_trans (grown_trans HG0.out (grown_of_below hb)) grown_of_set)
  clear hR hC hb hw t15 hn0 HB0 HG0 hAdd l0
  simp only [List.drop_succ_cons, List.drop_zero]
  go_wp2_with fail
  rw [rounds_succ]
  go_upto_if 13 with fail
  go_cut [6] (fun s6 wx => s6 = .int .u64 (x1 : Int) ∧ w09 = wx)
  case first =>
    as_aux_lemma =>
      by_cases h : n / 64 = 1
      · have he := HX1.out _ (.inl ⟨h, rfl⟩)
        have hq : ((n : Int) / 64 == 1) = true := by simp; omega
        go_wp2_with fail
        go_meet
        case rel => exact ⟨by rw [← he], rfl⟩
      · have he := HX1.out _ (.inr ⟨h, rfl⟩)
        have hq : ((n : Int) / 64 == 1) = false := by simp; omega
        go_wp2_with fail
        go_meet
        case rel => exact ⟨by rw [← he], rfl⟩
  case rest =>
  obtain ⟨rfl, rfl⟩ := hcut
  clear HX1
  obtain ⟨lo1, hlo1⟩ : ∃ v : Nat, (c1 + x1 + y1) % 18446744073709551616 = v := ⟨_, rfl⟩
  obtain ⟨y2, hy2⟩ : ∃ v : Nat, (c1 + x1 + y1) / 18446744073709551616 = v := ⟨_, rfl⟩
  have hAdd : ∀ wz, (callFunc 127 #[.int .u64 (c1 : Int), .int .u64 (x1 : Int), .int .u64 (y1 : Int)]).run Tryz.prog wz = .ok (.value (.tuple #[.int .u64 (lo1 : Int), .int .u64 (y2 : Int)])) wz := fun wz => by
    have this := add64_all c1 x1 y1 hc1 hx1 (by omega) wz
    rw [hlo1, hy2] at this
    exact this
  have HLo1 : Hid (c1 + x1 + y1 = lo1 + y2 * 18446744073709551616 ∧ lo1 < 18446744073709551616) := Lib.hid (by omega)
  have hyc2 : y2 ≤ 1 := by omega
  clear hlo1 hy2
  have e0 := HB1.out.cell 1
  simp at e0
  have l0 := Later.cell_of e0
  clear e0
  go_upto_region 7 with fail
  refine Lm.wp_region_lim 16 1 (caR b 1 (c1 : Int) (x1 : Int) (y1 : Int) (lo1 : Int) (y2 : Int)) (caC b 1 (lo1 : Int) w09) caS (fun q => if q = 15 then 1 else 0) (fun q => if q = 12 then 1 else 0)
    (by kernel_rfl) (by kernel_rfl) (by decide) (by kernel_rfl) caR_keep ⟨fun _ => below_drew (Below.refl _ _), fun h => absurd h (by decide)⟩ ?hX1
  case' hX1 => (apply Exists.intro; refine ⟨fun TT => ?hA1, ?hob1, ?hend1⟩)
  case hA1 =>
    simp only [setAll, List.take_succ_cons, List.take_zero, Act.put, List.setIfInBounds_toArray, List.set_cons_succ, List.set_cons_zero, Nat.reduceAdd]
    exact rfl
  case hob1 =>
    go_light
    refine ⟨?_, ?_, ?_, ?_, ?_, ?_, ?_, ?_, ?_, ?_, ?_, ?_, ?_, ?_, ?_, ?_, trivial⟩
    all_goals (intro TT wx n0 hC hn hp; dsimp only at hn ⊢)
    · unfold Op1
      go_simp
      first | exact ⟨rfl, hC, Nat.le_refl _⟩ | exact ⟨rfl, Nat.le_refl _⟩ | exact Nat.le_refl _
    · unfold Op1
      go_simp
      first | exact ⟨rfl, hC, Nat.le_refl _⟩ | exact ⟨rfl, Nat.le_refl _⟩ | exact Nat.le_refl _
    · unfold Op1
      go_simp
      first | exact ⟨rfl, hC, Nat.le_refl _⟩ | exact ⟨rfl, Nat.le_refl _⟩ | exact Nat.le_refl _
    · unfold Op1
      go_simp
      first | exact ⟨rfl, hC, Nat.le_refl _⟩ | exact ⟨rfl, Nat.le_refl _⟩ | exact Nat.le_refl _
    · obtain ⟨h0, -⟩ := hp
      have h0 : TT 2 = .pointer (some ⟨b, 0, none⟩) := h0
      unfold Op1
      go_simp
      first | exact ⟨rfl, hC, Nat.le_refl _⟩ | exact ⟨rfl, Nat.le_refl _⟩ | exact Nat.le_refl _
    · obtain ⟨h0, h1, -⟩ := hp
      have h0 : TT 4 = .pointer (some ⟨b, 0, none⟩) := h0
      have h1 : TT 3 = .int .i64 ((1 : Nat) : Int) := h1
      unfold Op1
      go_simp
      first | exact ⟨rfl, hC, Nat.le_refl _⟩ | exact ⟨rfl, Nat.le_refl _⟩ | exact Nat.le_refl _
    · obtain ⟨h0, -⟩ := hp
      have h0 : TT 5 = .pointer (some ⟨b, 1, none⟩) := h0
      have hn0 : n0 = 0 := by simpa using hn
      subst hn0
      have e0 := l0 ⟨wx, hC.1 rfl⟩
      simp only at e0
      unfold Op1
      go_simp
      first | exact ⟨rfl, hC, Nat.le_refl _⟩ | exact ⟨rfl, Nat.le_refl _⟩ | exact Nat.le_refl _
    · unfold Op1
      go_simp
      first | exact ⟨rfl, hC, Nat.le_refl _⟩ | exact ⟨rfl, Nat.le_refl _⟩ | exact Nat.le_refl _
    · unfold Op1
      go_simp
      first | exact ⟨rfl, hC, Nat.le_refl _⟩ | exact ⟨rfl, Nat.le_refl _⟩ | exact Nat.le_refl _
    · obtain ⟨h0, h1, h2, -⟩ := hp
      have h0 : TT 6 = .int .u64 (c1 : Int) := h0
      have h1 : TT 7 = .int .u64 (x1 : Int) := h1
      have h2 : TT 8 = .int .u64 (y1 : Int) := h2
      have hA := hAdd wx
      unfold Op1
      go_simp
      first | exact ⟨rfl, hC, Nat.le_refl _⟩ | exact ⟨rfl, Nat.le_refl _⟩ | exact Nat.le_refl _
    · obtain ⟨h0, -⟩ := hp
      have h0 : TT 9 = .tuple #[.int .u64 (lo1 : Int), .int .u64 (y2 : Int)] := h0
      unfold Op1
      go_simp
      first | exact ⟨rfl, hC, Nat.le_refl _⟩ | exact ⟨rfl, Nat.le_refl _⟩ | exact Nat.le_refl _
    · obtain ⟨h0, -⟩ := hp
      have h0 : TT 10 = .tuple #[.int .u64 (lo1 : Int), .int .u64 (y2 : Int)] := h0
      unfold Op1
      go_simp
      first | exact ⟨rfl, hC, Nat.le_refl _⟩ | exact ⟨rfl, Nat.le_refl _⟩ | exact Nat.le_refl _
    · obtain ⟨h0, -⟩ := hp
      have h0 : TT 10 = .tuple #[.int .u64 (lo1 : Int), .int .u64 (y2 : Int)] := h0
      unfold Op1
      go_simp
      first | exact ⟨rfl, hC, Nat.le_refl _⟩ | exact ⟨rfl, Nat.le_refl _⟩ | exact Nat.le_refl _
    · obtain ⟨h0, -⟩ := hp
      have h0 : TT 0 = .pointer (some ⟨b, 0, none⟩) := h0
      unfold Op1
      go_simp
      first | exact ⟨rfl, hC, Nat.le_refl _⟩ | exact ⟨rfl, Nat.le_refl _⟩ | exact Nat.le_refl _
    · obtain ⟨h0, h1, -⟩ := hp
      have h0 : TT 13 = .pointer (some ⟨b, 0, none⟩) := h0
      have h1 : TT 1 = .int .i64 ((1 : Nat) : Int) := h1
      unfold Op1
      go_simp
      first | exact ⟨rfl, hC, Nat.le_refl _⟩ | exact ⟨rfl, Nat.le_refl _⟩ | exact Nat.le_refl _
    · obtain ⟨h0, h1, -⟩ := hp
      have h0 : TT 14 = .pointer (some ⟨b, 1, none⟩) := h0
      have h1 : TT 11 = .int .u64 (lo1 : Int) := h1
      have hn0 : n0 = 0 := by simpa using hn
      subst hn0
      have hb := hC.1 rfl
      have e0 := l0 ⟨wx, hb⟩
      have f0 := (HB1.out.below hb HB1.out.lt).free 1
      simp only at e0
      unfold Op1
      go_simp
      exact ⟨Nat.le_refl _, ⟨fun h => absurd h (by decide), fun _ => ⟨wx, hb, rfl⟩⟩, Nat.zero_le _⟩
  case hend1 =>
  intro TT w19 ⟨n0, hn0, hC, hR⟩
  have t12 : TT 12 = .int .u64 (y2 : Int) := hR 12 (by omega)
  have t15 : 1 ≤ n0 := hR 15 (by omega)
  obtain ⟨w18, hb, hw⟩ := hC.2 t15
  have HB2 : Hid (Blk w19 b 108 #[.int .u64 (lo0 : Int), .int .u64 (lo1 : Int), .int .u64 (c2 : Int)]) := Lib.hid (by rw [hw]; exact (HB1.out.below hb HB1.out.lt).set 1 (.int .u64 (lo1 : Int)))
  have HG2 : Hid (w.grownBy w19 (some b)) := Lib.hid (by rw [hw]; exact grown_trans (grown_trans HG1.out (grown_of_below hb)) grown_of_set)
  clear hR hC hb hw t15 hn0 HB1 HG1 hAdd l0
  simp only [List.drop_succ_cons, List.drop_zero]
  go_wp2_with fail
  rw [rounds_succ]
  go_upto_if 13 with fail
  go_cut [6] (fun s6 wx => s6 = .int .u64 (x2 : Int) ∧ w19 = wx)
  case first =>
    as_aux_lemma =>
      by_cases h : n / 64 = 2
      · have he := HX2.out _ (.inl ⟨h, rfl⟩)
        have hq : ((n : Int) / 64 == 2) = true := by simp; omega
        go_wp2_with fail
        go_meet
        case rel => exact ⟨by rw [← he], rfl⟩
      · have he := HX2.out _ (.inr ⟨h, rfl⟩)
        have hq : ((n : Int) / 64 == 2) = false := by simp; omega
        go_wp2_with fail
        go_meet
        case rel => exact ⟨by rw [← he], rfl⟩
  case rest =>
  obtain ⟨rfl, rfl⟩ := hcut
  clear HX2
  obtain ⟨lo2, hlo2⟩ : ∃ v : Nat, (c2 + x2 + y2) % 18446744073709551616 = v := ⟨_, rfl⟩
  obtain ⟨y3, hy3⟩ : ∃ v : Nat, (c2 + x2 + y2) / 18446744073709551616 = v := ⟨_, rfl⟩
  have hAdd : ∀ wz, (callFunc 127 #[.int .u64 (c2 : Int), .int .u64 (x2 : Int), .int .u64 (y2 : Int)]).run Tryz.prog wz = .ok (.value (.tuple #[.int .u64 (lo2 : Int), .int .u64 (y3 : Int)])) wz := fun wz => by
    have this := add64_all c2 x2 y2 hc2 hx2 (by omega) wz
    rw [hlo2, hy3] at this
    exact this
  have HLo2 : Hid (c2 + x2 + y2 = lo2 + y3 * 18446744073709551616 ∧ lo2 < 18446744073709551616) := Lib.hid (by omega)
  have hyc3 : y3 ≤ 1 := by omega
  clear hlo2 hy3
  have e0 := HB2.out.cell 2
  simp at e0
  have l0 := Later.cell_of e0
  clear e0
  go_upto_region 7 with fail
  refine Lm.wp_region_lim 16 1 (caR b 2 (c2 : Int) (x2 : Int) (y2 : Int) (lo2 : Int) (y3 : Int)) (caC b 2 (lo2 : Int) w19) caS (fun q => if q = 15 then 1 else 0) (fun q => if q = 12 then 1 else 0)
    (by kernel_rfl) (by kernel_rfl) (by decide) (by kernel_rfl) caR_keep ⟨fun _ => below_drew (Below.refl _ _), fun h => absurd h (by decide)⟩ ?hX2
  case' hX2 => (apply Exists.intro; refine ⟨fun TT => ?hA2, ?hob2, ?hend2⟩)
  case hA2 =>
    simp only [setAll, List.take_succ_cons, List.take_zero, Act.put, List.setIfInBounds_toArray, List.set_cons_succ, List.set_cons_zero, Nat.reduceAdd]
    exact rfl
  case hob2 =>
    go_light
    refine ⟨?_, ?_, ?_, ?_, ?_, ?_, ?_, ?_, ?_, ?_, ?_, ?_, ?_, ?_, ?_, ?_, trivial⟩
    all_goals (intro TT wx n0 hC hn hp; dsimp only at hn ⊢)
    · unfold Op1
      go_simp
      first | exact ⟨rfl, hC, Nat.le_refl _⟩ | exact ⟨rfl, Nat.le_refl _⟩ | exact Nat.le_refl _
    · unfold Op1
      go_simp
      first | exact ⟨rfl, hC, Nat.le_refl _⟩ | exact ⟨rfl, Nat.le_refl _⟩ | exact Nat.le_refl _
    · unfold Op1
      go_simp
      first | exact ⟨rfl, hC, Nat.le_refl _⟩ | exact ⟨rfl, Nat.le_refl _⟩ | exact Nat.le_refl _
    · unfold Op1
      go_simp
      first | exact ⟨rfl, hC, Nat.le_refl _⟩ | exact ⟨rfl, Nat.le_refl _⟩ | exact Nat.le_refl _
    · obtain ⟨h0, -⟩ := hp
      have h0 : TT 2 = .pointer (some ⟨b, 0, none⟩) := h0
      unfold Op1
      go_simp
      first | exact ⟨rfl, hC, Nat.le_refl _⟩ | exact ⟨rfl, Nat.le_refl _⟩ | exact Nat.le_refl _
    · obtain ⟨h0, h1, -⟩ := hp
      have h0 : TT 4 = .pointer (some ⟨b, 0, none⟩) := h0
      have h1 : TT 3 = .int .i64 ((2 : Nat) : Int) := h1
      unfold Op1
      go_simp
      first | exact ⟨rfl, hC, Nat.le_refl _⟩ | exact ⟨rfl, Nat.le_refl _⟩ | exact Nat.le_refl _
    · obtain ⟨h0, -⟩ := hp
      have h0 : TT 5 = .pointer (some ⟨b, 2, none⟩) := h0
      have hn0 : n0 = 0 := by simpa using hn
      subst hn0
      have e0 := l0 ⟨wx, hC.1 rfl⟩
      simp only at e0
      unfold Op1
      go_simp
      first | exact ⟨rfl, hC, Nat.le_refl _⟩ | exact ⟨rfl, Nat.le_refl _⟩ | exact Nat.le_refl _
    · unfold Op1
      go_simp
      first | exact ⟨rfl, hC, Nat.le_refl _⟩ | exact ⟨rfl, Nat.le_refl _⟩ | exact Nat.le_refl _
    · unfold Op1
      go_simp
      first | exact ⟨rfl, hC, Nat.le_refl _⟩ | exact ⟨rfl, Nat.le_refl _⟩ | exact Nat.le_refl _
    · obtain ⟨h0, h1, h2, -⟩ := hp
      have h0 : TT 6 = .int .u64 (c2 : Int) := h0
      have h1 : TT 7 = .int .u64 (x2 : Int) := h1
      have h2 : TT 8 = .int .u64 (y2 : Int) := h2
      have hA := hAdd wx
      unfold Op1
      go_simp
      first | exact ⟨rfl, hC, Nat.le_refl _⟩ | exact ⟨rfl, Nat.le_refl _⟩ | exact Nat.le_refl _
    · obtain ⟨h0, -⟩ := hp
      have h0 : TT 9 = .tuple #[.int .u64 (lo2 : Int), .int .u64 (y3 : Int)] := h0
      unfold Op1
      go_simp
      first | exact ⟨rfl, hC, Nat.le_refl _⟩ | exact ⟨rfl, Nat.le_refl _⟩ | exact Nat.le_refl _
    · obtain ⟨h0, -⟩ := hp
      have h0 : TT 10 = .tuple #[.int .u64 (lo2 : Int), .int .u64 (y3 : Int)] := h0
      unfold Op1
      go_simp
      first | exact ⟨rfl, hC, Nat.le_refl _⟩ | exact ⟨rfl, Nat.le_refl _⟩ | exact Nat.le_refl _
    · obtain ⟨h0, -⟩ := hp
      have h0 : TT 10 = .tuple #[.int .u64 (lo2 : Int), .int .u64 (y3 : Int)] := h0
      unfold Op1
      go_simp
      first | exact ⟨rfl, hC, Nat.le_refl _⟩ | exact ⟨rfl, Nat.le_refl _⟩ | exact Nat.le_refl _
    · obtain ⟨h0, -⟩ := hp
      have h0 : TT 0 = .pointer (some ⟨b, 0, none⟩) := h0
      unfold Op1
      go_simp
      first | exact ⟨rfl, hC, Nat.le_refl _⟩ | exact ⟨rfl, Nat.le_refl _⟩ | exact Nat.le_refl _
    · obtain ⟨h0, h1, -⟩ := hp
      have h0 : TT 13 = .pointer (some ⟨b, 0, none⟩) := h0
      have h1 : TT 1 = .int .i64 ((2 : Nat) : Int) := h1
      unfold Op1
      go_simp
      first | exact ⟨rfl, hC, Nat.le_refl _⟩ | exact ⟨rfl, Nat.le_refl _⟩ | exact Nat.le_refl _
    · obtain ⟨h0, h1, -⟩ := hp
      have h0 : TT 14 = .pointer (some ⟨b, 2, none⟩) := h0
      have h1 : TT 11 = .int .u64 (lo2 : Int) := h1
      have hn0 : n0 = 0 := by simpa using hn
      subst hn0
      have hb := hC.1 rfl
      have e0 := l0 ⟨wx, hb⟩
      have f0 := (HB2.out.below hb HB2.out.lt).free 2
      simp only at e0
      unfold Op1
      go_simp
      exact ⟨Nat.le_refl _, ⟨fun h => absurd h (by decide), fun _ => ⟨wx, hb, rfl⟩⟩, Nat.zero_le _⟩
  case hend2 =>
  intro TT w29 ⟨n0, hn0, hC, hR⟩
  have t12 : TT 12 = .int .u64 (y3 : Int) := hR 12 (by omega)
  have t15 : 1 ≤ n0 := hR 15 (by omega)
  obtain ⟨w28, hb, hw⟩ := hC.2 t15
  have HB3 : Hid (Blk w29 b 108 #[.int .u64 (lo0 : Int), .int .u64 (lo1 : Int), .int .u64 (lo2 : Int)]) := Lib.hid (by rw [hw]; exact (HB2.out.below hb HB2.out.lt).set 2 (.int .u64 (lo2 : Int)))
  have HG3 : Hid (w.grownBy w29 (some b)) := Lib.hid (by rw [hw]; exact grown_trans (grown_trans HG2.out (grown_of_below hb)) grown_of_set)
  clear hR hC hb hw t15 hn0 HB2 HG2 hAdd l0
  simp only [List.drop_succ_cons, List.drop_zero]
  go_wp2_with fail
  rw [rounds_succ]
  go_wp2_with fail
  have := HV.out
  have := HE.out
  have := HLo0.out
  have := HLo1.out
  have := HLo2.out
  go_end0
  exact ⟨rfl, lo0, lo1, lo2, by omega, by omega, by omega, by omega, HB3.out, HG3.out⟩
end Go.Proofs.YtaeieigdibanlaaGreatDoor
