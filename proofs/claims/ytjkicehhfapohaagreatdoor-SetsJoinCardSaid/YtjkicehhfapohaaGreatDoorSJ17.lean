/-
  The reference's RestOf, UnionOf, BothOf, WithoutOf.
  Spans.Or.
  The mark of the address laws: addressed is true. And the small functions errs, when.
  addr.checkSets, Union, Both, Without, Rest.
  How many prefixes what is joined of small sets has.
-/
import Derived.Test.YtjkicehhfapohaaGreatDoorSJ16
import Derived.Test.YtjkicehhfapohaaGreatDoorSJ15
import Derived.Test.YtjkicehhfapohaaGreatDoorSJ13
import Derived.Test.YtjkicehhfapohaaGreatDoorSJ3
import Derived.Test.YtjkicehhfapohaaGreatDoorSJ5
import Derived.Test.YtjkicehhfapohaaGreatDoorSJ14
import Derived.Test.YtjkicehhfapohaaGreatDoorSJ18
import Derived.Test.YtjkicehhfapohaaGreatDoorSJ9
set_option linter.unusedVariables false
namespace Go.Proofs.YtjkicehhfapohaaGreatDoor
open Go.RowKit Go
set_option linter.unusedVariables false

theorem pfs_len {S : List Sp} (hv : ∀ p ∈ S, VR p) : (pfs S).length ≤ 257 * S.length := by
  unfold pfs
  rw [List.length_map]
  exact allB_crude hv
theorem restR_len {L : List Pf} (hv : ∀ p ∈ L, OkPf p) : (restR L).length ≤ 257 * (2 * L.length + 2) := by
  have h1 := pfs_len (gaps_ok (spn_can hv) (spn_vr hv)).2.2
  have h2 := gaps_len (spn L)
  have h3 := spn_len L
  unfold restR
  omega
set_option maxRecDepth 100000 in
set_option maxHeartbeats 1000000 in
theorem restOf_any (ad : Option Addr) (n c : Nat) (L : List Pf) (w : World) (h : RdK layPf w ad L) (hn : L.length = n) (hs : n ≤ 10000) (hv : ∀ p ∈ L, OkPf p) :
    Calls Tryz.prog 30 #[.slice ad n c] w fun e w' => ∃ v, e = .returned v ∧ OwnK layPf w' w.heap.size v (restR L) ∧ Below w.heap.size w w' := by
  have HS := Lib.hid (spansOf_any ad n c L w h hn (by omega) hv)
  have HJv : Hid (∀ p ∈ jn (L.map spP), VR p) := Lib.hid (spn_vr hv)
  have HJc : Hid (Can (jn (L.map spP))) := Lib.hid (spn_can hv)
  have HJl : Hid ((jn (L.map spP)).length ≤ n) := Lib.hid (by rw [← hn]; exact spn_len L)
  have HR : Hid (restR L = pfs (gaps (jn (L.map spP)))) := Lib.hid rfl
  clear h hn hv
  generalize jn (L.map spP) = J at *
  go_enter Tryz.func30, Tryz.ntmps30
  go_wp2_with fail
  refine HS.out.mono ?_
  rintro e w3 ⟨v, rfl, hO, hB⟩
  obtain ⟨ad3, c3, rfl, _⟩ := hO.form
  have HT := Lib.hid (gaps_any ad3 J.length c3 J w3 hO.rd rfl (by have := HJl.out; omega) HJc.out HJv.out)
  have HB3 := Lib.hid hB
  have HGv := Lib.hid (gaps_ok HJc.out HJv.out).2.2
  have HGl := Lib.hid (gaps_len J)
  have HJl2 := Lib.hid HJl.out
  clear hO hB HS HJv HJc
  generalize gaps J = G at *
  generalize J.length = jl at *
  go_wp2_with fail
  refine HT.out.mono ?_
  rintro e w4 ⟨v, rfl, hO, hB⟩
  obtain ⟨ad4, c4, rfl, _⟩ := hO.form
  have HQ := Lib.hid (qprefixes_any ad4 G.length c4 G w4 hO.rd rfl (by have := HGl.out; have := HJl2.out; omega) HGv.out)
  have HB4 := Lib.hid (HB3.out.trans (hB.mono HB3.out.size))
  clear hO hB HT HGv HGl
  generalize G.length = gl at *
  go_wp2_with fail
  refine HQ.out.mono ?_
  rintro e w5 ⟨v, rfl, hO, hB⟩
  have HO5 := Lib.hid (hO.weak HB4.out.size)
  have HB5 := Lib.hid (HB4.out.trans (hB.mono HB4.out.size))
  clear hO hB
  go_wp2_with fail
  go_ret
  exact ⟨_, rfl, by rw [HR.out]; exact HO5.out, HB5.out⟩
set_option maxRecDepth 100000 in
set_option maxHeartbeats 1000000 in
theorem unionOf_any (ad1 ad2 : Option Addr) (n1 c1 n2 c2 : Nat) (L1 L2 : List Pf) (w : World) (h1 : RdK layPf w ad1 L1) (h2 : RdK layPf w ad2 L2) (hn1 : L1.length = n1) (hn2 : L2.length = n2) (hs : n1 + n2 ≤ 100000) (hv1 : ∀ p ∈ L1, OkPf p) (hv2 : ∀ p ∈ L2, OkPf p) :
    Calls Tryz.prog 27 #[.slice ad1 n1 c1, .slice ad2 n2 c2] w fun e w' => ∃ v, e = .returned v ∧ OwnK layPf w' w.heap.size v (unionR L1 L2) ∧ Below w.heap.size w w' := by
  have hb0 : Below w.heap.size w (w.alloc (.cells #[.slice ad1 n1 c1, .slice ad2 n2 c2] 26 (0, 0))) := below_alloc (Below.refl _ _) _
  have HC := Lib.hid fun c => concatPf_any w.heap.size c ad1 ad2 n1 c1 n2 c2 L1 L2 (w.alloc (.cells #[.slice ad1 n1 c1, .slice ad2 n2 c2] 26 (0, 0))) (heap_alloc_new w _) (h1.below hb0) (h2.below hb0) hn1 hn2 (by omega) (by omega)
  have HB0 := Lib.hid hb0
  obtain ⟨LL, hLL⟩ : ∃ LL, L1 ++ L2 = LL := ⟨_, rfl⟩
  obtain ⟨m, hm⟩ : ∃ m, LL.length = m := ⟨_, rfl⟩
  have hmb : m ≤ 100000 := by rw [← hm, ← hLL, List.length_append, hn1, hn2]; exact hs
  have HV := Lib.hid (ok_append hv1 hv2)
  have HU : Hid (unionR L1 L2 = lst LL) := Lib.hid (by rw [← hLL]; rfl)
  rw [hLL] at HC HV
  have Hm := Lib.hid hm
  clear h1 h2 hn1 hn2 hv1 hv2 hb0 hLL hm
  go_enter Tryz.func27, Tryz.ntmps27
  go_wp2_with fail
  refine (HC.out _).mono ?_
  rintro e w3 ⟨v, rfl, hO, hB⟩
  obtain ⟨ad3, c3, rfl, _⟩ := hO.form
  rw [Hm.out] at hO ⊢
  have HT := Lib.hid (leastOf_any ad3 m c3 LL w3 hO.rd Hm.out hmb HV.out)
  have HB3 := Lib.hid (HB0.out.trans (hB.mono HB0.out.size))
  clear hO hB HC HB0
  go_wp2_with fail
  refine HT.out.mono ?_
  rintro e w4 ⟨v, rfl, hO, hB⟩
  have HO4 := Lib.hid (hO.weak HB3.out.size)
  have HB4 := Lib.hid (HB3.out.trans (hB.mono HB3.out.size))
  clear hO hB
  go_wp2_with fail
  go_ret
  exact ⟨_, rfl, by rw [HU.out]; exact HO4.out, HB4.out⟩
set_option maxRecDepth 100000 in
set_option maxHeartbeats 1000000 in
theorem bothOf_any (ad1 ad2 : Option Addr) (n1 c1 n2 c2 : Nat) (L1 L2 : List Pf) (w : World) (h1 : RdK layPf w ad1 L1) (h2 : RdK layPf w ad2 L2) (hn1 : L1.length = n1) (hn2 : L2.length = n2) (hs1 : n1 ≤ 10000) (hs2 : n2 ≤ 10000) (hr1 : (restR L1).length ≤ 4500) (hr2 : (restR L2).length ≤ 4500) (hv1 : ∀ p ∈ L1, OkPf p) (hv2 : ∀ p ∈ L2, OkPf p) :
    Calls Tryz.prog 28 #[.slice ad1 n1 c1, .slice ad2 n2 c2] w fun e w' => ∃ v, e = .returned v ∧ OwnK layPf w' w.heap.size v (bothR L1 L2) ∧ Below w.heap.size w w' := by
  have HR1 := Lib.hid (restOf_any ad1 n1 c1 L1 w h1 hn1 hs1 hv1)
  have HR2 := Lib.hid fun wx (hr : RdK layPf wx ad2 L2) => restOf_any ad2 n2 c2 L2 wx hr hn2 hs2 hv2
  have H2 := Lib.hid h2
  have HV1 := Lib.hid (ok_restR hv1)
  have HV2 := Lib.hid (ok_restR hv2)
  have HVu := Lib.hid (ok_unionR (ok_restR hv1) (ok_restR hv2))
  have HL1 := Lib.hid hr1
  have HL2 := Lib.hid hr2
  have HUl : Hid ((unionR (restR L1) (restR L2)).length ≤ 9000) := Lib.hid (by
    have := lst_len (ok_append (ok_restR hv1) (ok_restR hv2))
    rw [List.length_append] at this
    unfold unionR
    omega)
  have HBo : Hid (bothR L1 L2 = restR (unionR (restR L1) (restR L2))) := Lib.hid rfl
  clear h1 h2 hn1 hn2 hv1 hv2 hr1 hr2
  generalize restR L1 = R1 at *
  generalize restR L2 = R2 at *
  go_enter Tryz.func28, Tryz.ntmps28
  go_wp2_with fail
  refine HR1.out.mono ?_
  rintro e w3 ⟨v, rfl, hO, hB⟩
  obtain ⟨ad3, c3, rfl, _⟩ := hO.form
  have HO3 := Lib.hid hO.rd
  have HB3 := Lib.hid hB
  have HX2 := Lib.hid (H2.out.below hB)
  clear hO hB HR1 H2
  obtain ⟨m1, hm1⟩ : ∃ m, R1.length = m := ⟨_, rfl⟩
  have Hm1 := Lib.hid hm1
  rw [hm1]
  clear hm1
  go_wp2_with fail
  refine (HR2.out _ HX2.out).mono ?_
  rintro e w4 ⟨v, rfl, hO, hB⟩
  obtain ⟨ad4, c4, rfl, _⟩ := hO.form
  have HO4 := Lib.hid hO.rd
  have HO34 := Lib.hid (HO3.out.below hB)
  have HB4 := Lib.hid (HB3.out.trans (hB.mono HB3.out.size))
  clear hO hB HR2 HX2 HO3 HB3
  obtain ⟨m2, hm2⟩ : ∃ m, R2.length = m := ⟨_, rfl⟩
  have Hm2 := Lib.hid hm2
  rw [hm2]
  clear hm2
  have HU := Lib.hid (unionOf_any ad3 ad4 m1 c3 m2 c4 R1 R2 w4 HO34.out HO4.out Hm1.out Hm2.out (by have := HL1.out; have := HL2.out; rw [Hm1.out] at *; rw [Hm2.out] at *; omega) HV1.out HV2.out)
  clear HO34 HO4
  go_wp2_with fail
  refine HU.out.mono ?_
  rintro e w5 ⟨v, rfl, hO, hB⟩
  obtain ⟨ad5, c5, rfl, _⟩ := hO.form
  have HT := Lib.hid (restOf_any ad5 (unionR R1 R2).length c5 (unionR R1 R2) w5 hO.rd rfl (by have := HUl.out; omega) HVu.out)
  rw [← HBo.out] at HT
  have HB5 := Lib.hid (HB4.out.trans (hB.mono HB4.out.size))
  clear hO hB HU HB4
  generalize (unionR R1 R2).length = ul at *
  go_wp2_with fail
  refine HT.out.mono ?_
  rintro e w6 ⟨v, rfl, hO, hB⟩
  have HO6 := Lib.hid (hO.weak HB5.out.size)
  have HB6 := Lib.hid (HB5.out.trans (hB.mono HB5.out.size))
  clear hO hB
  go_wp2_with fail
  go_ret
  exact ⟨_, rfl, HO6.out, HB6.out⟩
set_option maxRecDepth 100000 in
set_option maxHeartbeats 1000000 in
theorem withoutOf_any (ad1 ad2 : Option Addr) (n1 c1 n2 c2 : Nat) (L1 L2 : List Pf) (w : World) (h1 : RdK layPf w ad1 L1) (h2 : RdK layPf w ad2 L2) (hn1 : L1.length = n1) (hn2 : L2.length = n2) (hs1 : n1 ≤ 10000) (hs2 : n2 ≤ 10000) (hr1 : (restR L1).length ≤ 4500) (hr2 : (restR L2).length ≤ 4500) (hr3 : (restR (restR L2)).length ≤ 4500) (hv1 : ∀ p ∈ L1, OkPf p) (hv2 : ∀ p ∈ L2, OkPf p) :
    Calls Tryz.prog 29 #[.slice ad1 n1 c1, .slice ad2 n2 c2] w fun e w' => ∃ v, e = .returned v ∧ OwnK layPf w' w.heap.size v (withoutR L1 L2) ∧ Below w.heap.size w w' := by
  have HR2 := Lib.hid (restOf_any ad2 n2 c2 L2 w h2 hn2 hs2 hv2)
  have H1 := Lib.hid h1
  have HV2 := Lib.hid (ok_restR hv2)
  have HV1 := Lib.hid hv1
  have Hn1 := Lib.hid hn1
  have HL1 := Lib.hid hr1
  have HL2 := Lib.hid hr2
  have HL3 := Lib.hid hr3
  have HBo : Hid (withoutR L1 L2 = bothR L1 (restR L2)) := Lib.hid rfl
  clear h1 h2 hn1 hn2 hv1 hv2 hr1 hr2 hr3
  generalize restR L2 = R2 at *
  go_enter Tryz.func29, Tryz.ntmps29
  go_wp2_with fail
  refine HR2.out.mono ?_
  rintro e w3 ⟨v, rfl, hO, hB⟩
  obtain ⟨ad3, c3, rfl, _⟩ := hO.form
  have HT := Lib.hid (bothOf_any ad1 ad3 n1 c1 R2.length c3 L1 R2 w3 (H1.out.below hB) hO.rd Hn1.out rfl hs1 (by have := HL2.out; omega) HL1.out HL3.out HV1.out HV2.out)
  rw [← HBo.out] at HT
  have HB3 := Lib.hid hB
  clear hO hB HR2 H1
  generalize R2.length = ul at *
  go_wp2_with fail
  refine HT.out.mono ?_
  rintro e w6 ⟨v, rfl, hO, hB⟩
  have HO6 := Lib.hid (hO.weak HB3.out.size)
  have HB6 := Lib.hid (HB3.out.trans (hB.mono HB3.out.size))
  clear hO hB
  go_wp2_with fail
  go_ret
  exact ⟨_, rfl, HO6.out, HB6.out⟩
end Go.Proofs.YtjkicehhfapohaaGreatDoor

namespace Go.Proofs.YtjkicehhfapohaaGreatDoor
open Go.RowKit Go
set_option linter.unusedVariables false

set_option maxRecDepth 100000 in
set_option maxHeartbeats 2000000 in
theorem or_any (ad1 ad2 : Option Addr) (na ca nb cb : Nat) (LA LB : List Sp) (w : World) (h1 : RdK layRg w ad1 LA) (h2 : RdK layRg w ad2 LB) (hn1 : LA.length = na) (hn2 : LB.length = nb) (hs1 : na ≤ 10000) (hs2 : nb ≤ 10000) (hv1 : ∀ p ∈ LA, VR p) (hv2 : ∀ p ∈ LB, VR p) :
    Calls Tryz.prog 59 #[.slice ad1 na ca, .slice ad2 nb cb] w fun e w' => ∃ v, e = .returned v ∧ OwnK layRg w' w.heap.size v (jn (LA ++ LB)) ∧ Below w.heap.size w w' := by
  have HCl := Lib.hid (clone_rg ad1 na ca LA w h1 hn1 (by omega))
  have H2 := Lib.hid h2
  have HV := Lib.hid (vr_append hv1 hv2)
  have Hn1 := Lib.hid hn1
  have Hn2 := Lib.hid hn2
  clear h1 h2 hn1 hn2 hv1 hv2
  go_enter Tryz.func59, Tryz.ntmps59
  go_wp2_with fail
  refine HCl.out.mono ?_
  rintro e w2 ⟨v, rfl, hO, hb⟩
  have HO := Lib.hid hO
  have HB := Lib.hid hb
  have hsr := (H2.out.below hb).src
  rw [Hn2.out] at hsr
  have HS : Hid (Src w2 ad2 nb 6 (layRg.all LB)) := Lib.hid hsr
  have HOr : Hid (w2.ownsRow w.heap.size 35 6 v LA.length (layRg.all LA)) := Lib.hid hO
  have HSo := Lib.hid (layRg.all_one LB)
  clear hO hb HCl H2 hsr
  go_wp2_with (at_builtin; refine wpList_app rgE rfl (.tmp 6) (.tmp 7) rfl rfl HOr.out rfl HS.out HSo.out ?c2 ?c3 ?c4 ?_)
  case c2 => unfold maxLen; rw [Hn1.out]; omega
  case c3 => rw [Hn1.out]; omega
  case c4 => exact HB.out.size
  intro v' w3 hO hG
  have HO3 : Hid (OwnK layRg w3 w.heap.size v' (LA ++ LB)) := Lib.hid (OwnK.app (by rw [Hn2.out]; exact hO))
  have HB3 := Lib.hid (HB.out.trans (hG.below HB.out.size (own_base HO.out)))
  obtain ⟨ad3, c3, hv3, _⟩ := HO3.out.form
  subst hv3
  obtain ⟨LL, hLL⟩ : ∃ LL, LA ++ LB = LL := ⟨_, rfl⟩
  have hlL : LL.length ≤ 20000 := by rw [← hLL, List.length_append, Hn1.out, Hn2.out]; omega
  rw [hLL] at HO3 HV ⊢
  obtain ⟨lm, hlm⟩ : ∃ lm, LL.length = lm := ⟨_, rfl⟩
  have HJ := Lib.hid (joined_any ad3 lm c3 LL w3 HO3.out.rd hlm (by omega) HV.out)
  rw [hlm]
  have Hlm := Lib.hid hlm
  have HLL := Lib.hid hLL
  clear hlL hlm hLL HOr HS HSo
  clear hO hG HO HB HO3
  go_wp2_with fail
  refine HJ.out.mono ?_
  rintro e w4 ⟨v, rfl, hO, hb⟩
  go_wp2_with fail
  go_ret
  exact ⟨_, rfl, by rw [HLL.out]; exact hO.weak HB3.out.size, HB3.out.trans (hb.mono HB3.out.size)⟩
end Go.Proofs.YtjkicehhfapohaaGreatDoor

namespace Go.Proofs.YtjkicehhfapohaaGreatDoor
open Go.RowKit Go
set_option linter.unusedVariables false

theorem iFmtU_small (i : Nat) (h : i < 100) (w : World) : Calls Tryz.prog 102 #[.int .u64 (i : Int), .int .i64 10] w fun e w' => e = .returned (.string ⟨(Lib.decDigits i).toArray⟩) ∧ w' = w := by
  have hc := Tryz.internal_strconv_small i h w
  generalize Lib.decDigits i = s at *
  have hi : (i : Int) < 100 := by omega
  have e1 : IntKind.i64.wrap (i : Int) = (i : Int) := by rw [IntKind.wrap_i64]; omega
  have Hc := Lib.hid hc
  clear hc
  go_enter Tryz.func102, Tryz.ntmps102
  go_wp2_with fail
  refine Hc.out.mono ?_
  rintro e w' ⟨rfl, rfl⟩
  go_wp2_with fail
  go_ret
  exact ⟨rfl, rfl⟩
theorem fmtU_small (i : Nat) (h : i < 100) (w : World) : Calls Tryz.prog 93 #[.int .u64 (i : Int), .int .i64 10] w fun e w' => e = .returned (.string ⟨(Lib.decDigits i).toArray⟩) ∧ w' = w := by
  have hc := iFmtU_small i h w
  generalize Lib.decDigits i = s at *
  have Hc := Lib.hid hc
  clear hc
  go_enter Tryz.func93, Tryz.ntmps93
  go_wp2_with fail
  refine Hc.out.mono ?_
  rintro e w' ⟨rfl, rfl⟩
  go_wp2_with fail
  go_ret
  exact ⟨rfl, rfl⟩
/-- an own row of strings -/
def encSs (L : List ByteArray) : List Value := L.map Value.string
def OwnS (w : World) (base : Nat) (v : Value) (L : List ByteArray) : Prop := w.ownsRow base 9 1 v L.length (encSs L)
theorem strE : EI Tryz.prog 113 9 1 16 := EI.mk' (z := .string ⟨#[]⟩) Tryz.underlying113 (by kernel_rfl) rfl (by decide)
theorem OwnS.nil (w : World) (base : Nat) : OwnS w base (.slice none 0 0) [] := World.ownsRow_nil w base _ 1
theorem OwnS.later {w w' : World} {base : Nat} {v : Value} {L : List ByteArray} (h : OwnS w base v L) (hb : Below w.heap.size w w') : OwnS w' base v L := own_later h hb
theorem OwnS.snoc {w : World} {B : Nat} {v : Value} {L : List ByteArray} {s : ByteArray} (h : w.ownsRow B 9 1 v (L.length + 1) (encSs L ++ [.string s])) : OwnS w B v (L ++ [s]) := by
  show w.ownsRow _ _ _ _ _ _
  rw [List.length_append, encSs, List.map_append]
  exact h
theorem OwnS.one {w : World} {B : Nat} {v : Value} {L : List ByteArray} (h : OwnS w B v L) (hl : 1 ≤ L.length) :
    ∃ g c, v = .slice (some ⟨g, 0, none⟩) L.length c ∧ B ≤ g ∧ g < w.heap.size ∧ L.length ≤ c ∧ c ≤ maxLen ∧ ∀ (j : Nat) x, L[j]? = some x → w.cell? ⟨g, j, none⟩ = some (.string x) := by
  rcases h.2 with ⟨rfl, h0⟩ | ⟨g, cap, cur, rfl, hb, hg, hc, hm, hs, ht⟩
  · omega
  · refine ⟨g, cap, rfl, hb, lt_of_block hg, hc, hm, fun j x hx => ?_⟩
    have hj : j < L.length := by
      rcases Nat.lt_or_ge j L.length with h | h
      · exact h
      · rw [List.getElem?_eq_none h] at hx; cases hx
    rw [cell_of_row w g _ _ _ _ hg]
    have h2 : (encSs L)[j]? = some (.string x) := by simp [encSs, hx]
    rw [← ht, List.getElem?_take, if_pos (by omega), Array.getElem?_toList] at h2
    exact h2
set_option maxRecDepth 100000 in
set_option maxHeartbeats 1000000 in
theorem textOf_one (w : World) : Calls Tryz.prog 77 #[.agg #[.bool false, .int .u64 0, .int .u64 1]] w (Ret (.string ⟨#[48, 46, 48, 46, 48, 46, 49]⟩) w) := by
  have h0 := fun w => fmtU_small 0 (by decide) w
  have h1 := fun w => fmtU_small 1 (by decide) w
  rw [show Lib.decDigits 0 = [48] by rw [Lib.decDigits]; rfl] at h0
  rw [show Lib.decDigits 1 = [49] by rw [Lib.decDigits]; rfl] at h1
  have H0 := Lib.hid h0
  have H1 := Lib.hid h1
  clear h0 h1
  have b0 : Go.bits .and .u64 0 255 = 0 := by decide
  have b1 : Go.bits .and .u64 1 255 = 1 := by decide
  have HP : Hid (Blk (w.alloc (.cells #[.bool false, .int .u64 0, .int .u64 1] 32 (0, 0))) w.heap.size 32 #[.bool false, .int .u64 0, .int .u64 1]) := Lib.hid (Blk.new w _ _)
  have HB : Hid (Below w.heap.size w (w.alloc (.cells #[.bool false, .int .u64 0, .int .u64 1] 32 (0, 0)))) := Lib.hid (below_alloc (Below.refl _ _) _)
  go_enter Tryz.func77, Tryz.ntmps77
  go_upto_region 1 with fail
  generalize w.alloc (.cells #[.bool false, .int .u64 0, .int .u64 1] 32 (0, 0)) = w0 at *
  have p0 := HP.out.cell 0
  simp at p0
  go_wp2
  go_loopw [3, 4, 14] (fun v iv i wr => ∃ k : Nat, k ≤ 4 ∧ i = .int .i64 k ∧ Hid (OwnS wr w0.heap.size v (([⟨#[48]⟩, ⟨#[48]⟩, ⟨#[48]⟩, ⟨#[49]⟩] : List ByteArray).take k)) ∧ Hid (Below w0.heap.size w0 wr)) (fun _ _ i _ => 4 - (intOf i).toNat)
  case atStart => exact ⟨0, Nat.zero_le _, rfl, Lib.hid (OwnS.nil _ _), Lib.hid (Below.refl _ _)⟩
  case round =>
    clear p0
    obtain ⟨k, hk, rfl, HO, HBr⟩ := hrel
    have p2 := (HP.out.below HBr.out HP.out.lt).cell 2
    simp at p2
    by_cases hlt : k < 4
    · have hk4 : k = 0 ∨ k = 1 ∨ k = 2 ∨ k = 3 := by omega
      rcases hk4 with rfl | rfl | rfl | rfl
      all_goals
        go_wp2_with fail
        first
          | (refine (H0.out _).mono ?_)
          | (refine (H1.out _).mono ?_)
        rintro e w' ⟨rfl, rfl⟩
        go_wp2_with (at_builtin; refine wpList_app strE rfl (.tmp 17) (.tmp 26) rfl rfl (World.ownsRow.alloc HO.out _) rfl (src_one_new _ _ _) ?c1 ?c2 ?c3 ?c4 ?_)
        case c1 => first | rfl | (intro u hu; simp at hu; subst hu; rfl)
        case c2 => unfold maxLen; simp
        case c3 => simp
        case c4 => have := HBr.out.size; simp; omega
        intro v' w2 hO hG
        have HO' := Lib.hid (OwnS.snoc hO)
        have HB' : Hid (Below w0.heap.size w0 w2) := Lib.hid ((Below.alloc HBr.out HBr.out.size _).trans (hG.below (by have := HBr.out.size; simp; omega) (own_base HO.out)))
        clear hO hG p2
        go_wp2
        exact ⟨⟨_, by decide, rfl, HO', HB'⟩, by simp [intOf]⟩
    · obtain rfl : k = 4 := by omega
      obtain ⟨g, c, hv, _, hg, hc, _, hcell⟩ := HO.out.one (by decide)
      rw [show (([⟨#[48]⟩, ⟨#[48]⟩, ⟨#[48]⟩, ⟨#[49]⟩] : List ByteArray).take 4) = [⟨#[48]⟩, ⟨#[48]⟩, ⟨#[48]⟩, ⟨#[49]⟩] from rfl] at hcell
      have hv' : u3 = .slice (some ⟨g, 0, none⟩) 4 c := hv
      have hc' : 4 ≤ c := hc
      clear hv hc
      subst hv'
      have hJ := Tryz.strings_Join g 0 c [⟨#[48]⟩, ⟨#[48]⟩, ⟨#[48]⟩, ⟨#[49]⟩] ⟨#[46]⟩ wr (fun j x hx => by rw [Nat.zero_add]; exact hcell j x hx) hg (by decide) hc' (by decide)
      rw [show (⟨(Lib.join (([⟨#[48]⟩, ⟨#[48]⟩, ⟨#[48]⟩, ⟨#[49]⟩] : List ByteArray).map (·.data.toList)) (⟨#[46]⟩ : ByteArray).data.toList).toArray⟩ : ByteArray) = ⟨#[48, 46, 48, 46, 48, 46, 49]⟩ by decide] at hJ
      have HJ := Lib.hid hJ
      clear hJ hcell p2
      go_wp2_with fail
      refine HJ.out.mono ?_
      rintro e w' ⟨rfl, hb⟩
      go_wp2_with fail
      go_ret
      exact ⟨rfl, HB.out.trans ((HBr.out.trans (hb.mono HBr.out.size)).mono HB.out.size)⟩
set_option maxRecDepth 100000 in
theorem addressed_any (w : World) : Calls Tryz.prog 26 #[] w (Ret (.bool true) w) := by
  have hT : ∀ w, Calls Tryz.prog 55 #[.agg #[.bool false, .int .u64 0, .int .u64 1]] w (Ret (.tuple #[.string ⟨#[48, 46, 48, 46, 48, 46, 49]⟩, .int .i64 0]) w) := fun w => by
    have HC := Lib.hid fun wx => checkAddr_any false 0 1 wx ⟨by decide, by decide⟩ ⟨by decide, by decide⟩
    have HT := Lib.hid fun wx => textOf_one wx
    have HP : Hid (Blk (w.alloc (.cells #[.bool false, .int .u64 0, .int .u64 1] 32 (0, 0))) w.heap.size 32 #[.bool false, .int .u64 0, .int .u64 1]) := Lib.hid (Blk.new w _ _)
    have HB : Hid (Below w.heap.size w (w.alloc (.cells #[.bool false, .int .u64 0, .int .u64 1] 32 (0, 0)))) := Lib.hid (below_alloc (Below.refl _ _) _)
    go_enter Tryz.func55, Tryz.ntmps55
    go_upto_region 1 with fail
    generalize w.alloc (.cells #[.bool false, .int .u64 0, .int .u64 1] 32 (0, 0)) = w0 at *
    have p0 := HP.out.cell 0
    have p1 := HP.out.cell 1
    have p2 := HP.out.cell 2
    simp at p0 p1 p2
    go_wp2_with fail
    refine (HC.out _).mono ?_
    rintro e w' ⟨rfl, o, rfl⟩
    have q0 := (HP.out.alloc o).cell 0
    have q1 := (HP.out.alloc o).cell 1
    have q2 := (HP.out.alloc o).cell 2
    simp at q0 q1 q2
    have ha : aFault false 0 1 = 0 := by decide
    go_wp2_with fail
    refine (HT.out _).mono ?_
    rintro e w2 ⟨rfl, hb⟩
    go_wp2_with fail
    go_ret2
    exact ⟨rfl, (below_alloc HB.out o).trans (hb.mono (by have := HB.out.size; simp; omega))⟩
  have HT := Lib.hid hT
  clear hT
  go_enter Tryz.func26, Tryz.ntmps26
  go_wp2_with fail
  refine (HT.out _).mono ?_
  rintro e w2 ⟨rfl, hb⟩
  go_wp2
  go_ret
  exact ⟨rfl, hb⟩
def firstE : List Int → Int
  | [] => 0
  | x :: l => if x ≠ 0 then x else firstE l
theorem firstE_hit : ∀ {l : List Int} {k : Nat}, k < l.length → (∀ j, j < k → l.getD j 0 = 0) → l.getD k 0 ≠ 0 → firstE l = l.getD k 0
  | [], k, h, _, _ => absurd h (Nat.not_lt_zero _)
  | x :: l, 0, h, _, h2 => by simp at h2 ⊢; simp [firstE, h2]
  | x :: l, k + 1, h, h1, h2 => by
    have h0 : x = 0 := h1 0 (by omega)
    rw [firstE, if_neg (by simp [h0])]
    have := firstE_hit (l := l) (k := k) (by simpa using h) (fun j hj => by have := h1 (j + 1) (by omega); simpa using this) (by simpa using h2)
    rw [this]; simp
theorem firstE_none : ∀ {l : List Int}, (∀ j, j < l.length → l.getD j 0 = 0) → firstE l = 0
  | [], _ => rfl
  | x :: l, h => by
    have h0 : x = 0 := h 0 (by simp)
    rw [firstE, if_neg (by simp [h0])]
    exact firstE_none fun j hj => by have := h (j + 1) (by simpa using hj); simpa using this
set_option maxHeartbeats 1000000 in
theorem errs_any (g n c : Nat) (zs : List Int) (w : World) (hz : RdInts w g 0 n zs) (hn : n ≤ 1000) :
    Calls Tryz.prog 15 #[.slice (some ⟨g, 0, none⟩) n c] w fun e w' => e = .returned (.int .i64 (firstE zs)) ∧ w' = w := by
  obtain ⟨hl, hg, hc⟩ := hz
  have Hc := Lib.hid hc
  have Hl := Lib.hid hl
  clear hc hl
  go_enter Tryz.func15, Tryz.ntmps15
  go_wp2
  go_loop [4, 7] (fun e i => ∃ k : Nat, k ≤ n ∧ i = .int .i64 k ∧ Hid (∀ j, j < k → zs.getD j 0 = 0)) (fun _ i => n - (intOf i).toNat)
  case atStart => exact ⟨0, Nat.zero_le _, rfl, Lib.hid fun j hj => absurd hj (Nat.not_lt_zero _)⟩
  case round =>
    obtain ⟨k, hk, rfl, HX⟩ := hrel
    by_cases hlt : k < n
    · have hcell := Hc.out k hlt
      rw [Nat.zero_add] at hcell
      by_cases h0 : zs.getD k 0 = 0
      · rw [h0] at hcell
        have H0 := Lib.hid h0
        clear h0
        go_wp2
        refine ⟨⟨k + 1, by omega, by go_num, Lib.hid fun j hj => ?_⟩, by simp [intOf]; omega⟩
        rcases Nat.lt_or_ge j k with h | h
        · exact HX.out j h
        · obtain rfl : j = k := by omega
          exact H0.out
      · have H0 : Hid (firstE zs = zs.getD k 0) := Lib.hid (firstE_hit (by rw [Hl.out]; exact hlt) HX.out h0)
        generalize zs.getD k 0 = z at *
        have h1 : (z != 0) = true := by simpa using h0
        go_wp2
        go_ret
        exact ⟨by rw [H0.out]; rfl, rfl⟩
    · obtain rfl : k = n := by omega
      have H0 : Hid (firstE zs = 0) := Lib.hid (firstE_none fun j hj => HX.out j (by rw [← Hl.out]; exact hj))
      go_wp2
      go_ret
      exact ⟨by rw [H0.out]; rfl, rfl⟩
theorem when_any (b : Bool) (x : Int) (w : World) : Calls Tryz.prog 18 #[.bool b, .int .i64 x] w fun e w' => e = .returned (.int .i64 (if b = true then x else 0)) ∧ w = w' := by
  cases b
  all_goals
    go_enter Tryz.func18, Tryz.ntmps18
    go_wp2
    go_ret
    exact ⟨rfl, rfl⟩
end Go.Proofs.YtjkicehhfapohaaGreatDoor

namespace Go.Proofs.YtjkicehhfapohaaGreatDoor
open Go.RowKit Go
set_option linter.unusedVariables false

theorem setF_okS {L : List Pf} (h : setF L = 0) (hu : U4 L) : ∀ p ∈ L, OkPf p := fun p hp => by
  unfold setF at h
  by_cases h1 : 1000 < L.length
  · rw [if_pos h1] at h; cases h
  · rw [if_neg h1] at h
    by_cases h2 : scanF L ≠ 0
    · rw [if_pos h2] at h; exact absurd h h2
    · have h2 : scanF L = 0 := by simpa using h2
      obtain ⟨i, hi, rfl⟩ := List.getElem_of_mem hp
      have := fAt_zero (firstN_zero h2 i hi)
      simp only [List.getD, List.getElem?_eq_getElem hi, Option.getD_some] at this
      obtain ⟨u1, u2⟩ := hu _ (List.getElem_mem hi)
      exact okPf_of this u1 u2
set_option maxRecDepth 100000 in
set_option maxHeartbeats 2000000 in
theorem checkSets_any (g c : Nat) (ad1 ad2 : Option Addr) (n1 c1 n2 c2 : Nat) (L1 L2 : List Pf) (w : World) (hg : Blk w g 26 #[.slice ad1 n1 c1, .slice ad2 n2 c2]) (h1 : RdK layPf w ad1 L1) (h2 : RdK layPf w ad2 L2) (hn1 : L1.length = n1) (hn2 : L2.length = n2) (hs1 : n1 ≤ 1000) (hs2 : n2 ≤ 1000) (hu1 : U4 L1) (hu2 : U4 L2) :
    Calls Tryz.prog 58 #[.slice (some ⟨g, 0, none⟩) 2 c] w (Ret (.int .i64 (firstE [setF L1, setF L2])) w) := by
  have HG := Lib.hid hg
  have HC1 := Lib.hid fun wx (hr : RdK layPf wx ad1 L1) => checkSet_any ad1 n1 c1 L1 wx hr hn1 (by omega) hu1
  have HC2 := Lib.hid fun wx (hr : RdK layPf wx ad2 L2) => checkSet_any ad2 n2 c2 L2 wx hr hn2 (by omega) hu2
  have H1 := Lib.hid h1
  have H2 := Lib.hid h2
  clear hg h1 h2 hn1 hn2 hu1 hu2
  generalize setF L1 = F1 at *
  generalize setF L2 = F2 at *
  obtain ⟨F, hF⟩ : ∃ F, firstE [F1, F2] = F := ⟨_, rfl⟩
  have HF1 : Hid (F1 ≠ 0 → F = F1) := Lib.hid fun h => by rw [← hF]; simp [firstE, h]
  have HF2 : Hid (F1 = 0 → F = F2) := Lib.hid fun h => by
    rw [← hF]
    by_cases h2 : F2 = 0 <;> simp [firstE, h, h2]
  rw [hF]
  clear hF
  go_enter Tryz.func58, Tryz.ntmps58
  go_wp2_with fail
  go_loopw [4, 5, 8] (fun s4 s5 i wr => ∃ k : Nat, k ≤ 2 ∧ i = .int .i64 (k : Int) ∧ Hid (1 ≤ k → F1 = 0) ∧ Hid (2 ≤ k → F2 = 0) ∧ Hid (Below w.heap.size w wr)) (fun _ _ i _ => 2 - (intOf i).toNat)
  case atStart => exact ⟨0, by omega, rfl, Lib.hid (fun h => by omega), Lib.hid (fun h => by omega), Lib.hid (Below.refl _ _)⟩
  case round =>
    obtain ⟨k, hk, rfl, HA, HZ, HB⟩ := hrel
    have HG2 := HG.out.below HB.out HG.out.lt
    have e0 := HG2.cell 0
    have e1 := HG2.cell 1
    simp at e0 e1
    clear HG2
    have hk3 : k = 0 ∨ k = 1 ∨ k = 2 := by omega
    rcases hk3 with rfl | rfl | rfl
    · go_wp2_with fail
      refine (HC1.out _ (H1.out.below HB.out)).mono ?_
      rintro e w3 ⟨rfl, hb⟩
      have HB3 := Lib.hid (HB.out.trans (hb.mono HB.out.size))
      clear hb HB HC1 HC2 H1 H2 e0 e1
      by_cases h : F1 = 0
      · subst h
        clear HF1 HF2 HA HZ
        go_wp2_with fail
        exact ⟨⟨1, by omega, rfl, Lib.hid (by first | trivial | (intro _; rfl)), Lib.hid (by first | trivial | (intro h; omega)), HB3⟩, by simp [intOf]⟩
      · have hf := HF1.out h
        have h2 : (F1 != 0) = true := by simpa using h
        clear HF1 HF2 HA HZ
        subst hf
        go_wp2_with fail
        go_ret
        exact ⟨rfl, HB3.out⟩
    · have hz := HA.out (by omega)
      go_wp2_with fail
      refine (HC2.out _ (H2.out.below HB.out)).mono ?_
      rintro e w3 ⟨rfl, hb⟩
      have HB3 := Lib.hid (HB.out.trans (hb.mono HB.out.size))
      clear hb HB HC1 HC2 H1 H2 e0 e1
      have hf := HF2.out hz
      by_cases h : F2 = 0
      · subst h
        clear HF1 HF2 HA HZ
        go_wp2_with fail
        exact ⟨⟨2, by omega, rfl, Lib.hid (by first | trivial | exact fun _ => hz), Lib.hid (by first | trivial | (intro _; rfl)), HB3⟩, by simp [intOf]⟩
      · have h2 : (F2 != 0) = true := by simpa using h
        clear HF1 HF2 HA HZ
        subst hf
        go_wp2_with fail
        go_ret
        exact ⟨rfl, HB3.out⟩
    · have hf := HF2.out (HA.out (by omega))
      have hz := HZ.out (Nat.le_refl _)
      clear HF1 HF2 HA HZ HC1 HC2 H1 H2
      subst hf
      go_wp2_with fail
      go_ret
      exact ⟨by rw [hz]; rfl, HB.out⟩
set_option maxRecDepth 100000 in
set_option maxHeartbeats 4000000 in
theorem aunion_any (ad1 ad2 : Option Addr) (n1 c1 n2 c2 : Nat) (L1 L2 : List Pf) (w : World) (h1 : RdK layPf w ad1 L1) (h2 : RdK layPf w ad2 L2) (hn1 : L1.length = n1) (hn2 : L2.length = n2) (hs1 : n1 ≤ 1000) (hs2 : n2 ≤ 1000) (hu1 : U4 L1) (hu2 : U4 L2)
    (hl : firstE [setF L1, setF L2] = 0 → (pfs (jn (spn L1 ++ spn L2))).length ≤ 1000) :
    Calls Tryz.prog 31 #[.slice ad1 n1 c1, .slice ad2 n2 c2] w fun e w' => ∃ v, e = .returned (.tuple #[v, .int .i64 (firstE [setF L1, setF L2])]) ∧ OwnK layPf w' w.heap.size v (if firstE [setF L1, setF L2] = 0 then pfs (jn (spn L1 ++ spn L2)) else []) ∧ Below w.heap.size w w' := by
  have hb0 : Below w.heap.size w (w.alloc (.cells #[.slice ad1 n1 c1, .slice ad2 n2 c2] 26 (0, 0))) := below_alloc (Below.refl _ _) _
  have HC := Lib.hid fun c => checkSets_any w.heap.size c ad1 ad2 n1 c1 n2 c2 L1 L2 (w.alloc (.cells #[.slice ad1 n1 c1, .slice ad2 n2 c2] 26 (0, 0))) (Blk.new w _ _) (h1.below hb0) (h2.below hb0) hn1 hn2 hs1 hs2 hu1 hu2
  have HB0 := Lib.hid hb0
  have HX1 := Lib.hid (h1.below hb0)
  have HX2 := Lib.hid (h2.below hb0)
  have HOK : Hid (firstE [setF L1, setF L2] = 0 → (∀ p ∈ L1, OkPf p) ∧ ∀ p ∈ L2, OkPf p) := Lib.hid fun h => by
    have hz : setF L1 = 0 ∧ setF L2 = 0 := by
      by_cases e1 : setF L1 = 0
      · by_cases e2 : setF L2 = 0
        · exact ⟨e1, e2⟩
        · simp [firstE, e1, e2] at h
      · simp [firstE, e1] at h
    exact ⟨setF_okS hz.1 hu1, setF_okS hz.2 hu2⟩
  have Hn1 := Lib.hid hn1
  have Hn2 := Lib.hid hn2
  have HL := Lib.hid hl
  obtain ⟨F, hF⟩ : ∃ F, firstE [setF L1, setF L2] = F := ⟨_, rfl⟩
  rw [hF] at HC HOK HL ⊢
  obtain ⟨RR, hRR⟩ : ∃ RR, (if F = 0 then pfs (jn (spn L1 ++ spn L2)) else []) = RR := ⟨_, rfl⟩
  rw [hRR]
  have HR0 : Hid (F = 0 → RR = pfs (jn (spn L1 ++ spn L2))) := Lib.hid fun h => by rw [← hRR, if_pos h]
  have HR1 : Hid (F ≠ 0 → RR = []) := Lib.hid fun h => by rw [← hRR, if_neg h]
  clear h1 h2 hn1 hn2 hu1 hu2 hb0 hl hF hRR
  go_enter Tryz.func31, Tryz.ntmps31
  go_wp2_with fail
  refine (HC.out _).mono ?_
  rintro e w2 ⟨rfl, hb⟩
  have HB2 := Lib.hid (HB0.out.trans (hb.mono HB0.out.size))
  have HY1 := Lib.hid (HX1.out.below hb)
  have HY2 := Lib.hid (HX2.out.below hb)
  clear hb HC HB0 HX1 HX2
  by_cases h0 : F = 0
  · obtain ⟨hok1, hok2⟩ := HOK.out h0
    have HS1 := Lib.hid (spanOf_any ad1 n1 c1 L1 w2 HY1.out Hn1.out (by omega) hok1)
    have HS2 := Lib.hid fun wx (hr : RdK layPf wx ad2 L2) => spanOf_any ad2 n2 c2 L2 wx hr Hn2.out (by omega) hok2
    have e1 : jn (L1.map spP) = spn L1 := rfl
    have e2 : jn (L2.map spP) = spn L2 := rfl
    rw [e1] at HS1
    rw [e2] at HS2
    have HV1 := Lib.hid (spn_vr hok1)
    have HV2 := Lib.hid (spn_vr hok2)
    have HK2 := Lib.hid (spn_can hok2)
    have HN1 : Hid ((spn L1).length ≤ 1000) := Lib.hid (by have := spn_len L1; rw [Hn1.out] at this; omega)
    have HN2 : Hid ((spn L2).length ≤ 1000) := Lib.hid (by have := spn_len L2; rw [Hn2.out] at this; omega)
    have HRR := Lib.hid (HR0.out h0)
    have HLz := Lib.hid (HL.out h0)
    clear hok1 hok2 e1 e2 HOK HR0 HR1 HL
    subst h0
    generalize spn L1 = S1 at *
    generalize spn L2 = S2 at *
    go_wp2_with fail
    refine HS1.out.mono ?_
    rintro e w3 ⟨v, rfl, hO, hb⟩
    obtain ⟨b1, d1, rfl, _⟩ := hO.form
    have HO1 := Lib.hid hO.rd
    have HB3 := Lib.hid (HB2.out.trans (hb.mono HB2.out.size))
    have HZ2 := Lib.hid (HY2.out.below hb)
    clear hO hb HS1 HY1 HY2 HB2
    obtain ⟨m1, hm1⟩ : ∃ m, S1.length = m := ⟨_, rfl⟩
    have Hm1 := Lib.hid hm1
    rw [hm1]
    clear hm1
    go_wp2_with fail
    refine (HS2.out _ HZ2.out).mono ?_
    rintro e w4 ⟨v, rfl, hO, hb⟩
    obtain ⟨b2, d2, rfl, _⟩ := hO.form
    have HO2 := Lib.hid hO.rd
    have HO1' := Lib.hid (HO1.out.below hb)
    have HB4 := Lib.hid (HB3.out.trans (hb.mono HB3.out.size))
    clear hO hb HS2 HZ2 HO1 HB3
    obtain ⟨m2, hm2⟩ : ∃ m, S2.length = m := ⟨_, rfl⟩
    have Hm2 := Lib.hid hm2
    rw [hm2]
    clear hm2
    have hmb1 : m1 ≤ 1000 := by rw [← Hm1.out]; exact HN1.out
    have hmb2 : m2 ≤ 1000 := by rw [← Hm2.out]; exact HN2.out
    have HT := Lib.hid (or_any b1 b2 m1 d1 m2 d2 S1 S2 w4 HO1'.out HO2.out Hm1.out Hm2.out (by omega) (by omega) HV1.out HV2.out)
    have HJv := Lib.hid (jn_vr (vr_append HV1.out HV2.out))
    have HJl : Hid ((jn (S1 ++ S2)).length ≤ 100000) := Lib.hid (by have := jn_len (S1 ++ S2); rw [List.length_append, Hm1.out, Hm2.out] at this; omega)
    have HB5 := HB4
    clear HO1' HO2 HB4
    generalize jn (S1 ++ S2) = RJ at *
    go_wp2_with fail
    refine HT.out.mono ?_
    rintro e w6 ⟨v, rfl, hO, hb⟩
    obtain ⟨b6, d6, rfl, _⟩ := hO.form
    have HSt := Lib.hid (set_any b6 RJ.length d6 RJ w6 hO.rd rfl HJl.out HJv.out)
    have hz2 : setBd (pfs RJ).length = 0 := if_neg (by have := HLz.out; omega)
    rw [hz2, if_pos rfl] at HSt
    have HB6 := Lib.hid (HB5.out.trans (hb.mono HB5.out.size))
    clear hO hb HT HB5 hz2
    generalize RJ.length = jl at *
    go_wp2_with fail
    refine HSt.out.mono ?_
    rintro e w7 ⟨v, rfl, hO, hb⟩
    have HO7 := Lib.hid (hO.weak HB6.out.size)
    have HB7 := Lib.hid (HB6.out.trans (hb.mono HB6.out.size))
    clear hO hb
    go_wp2_with fail
    go_ret2
    exact ⟨_, rfl, by rw [HRR.out]; exact HO7.out, HB7.out⟩
  · have HRR := Lib.hid (HR1.out h0)
    have hF2 : (F != 0) = true := by simpa using h0
    clear h0 HOK HR0 HR1 HL
    go_wp2_with fail
    go_ret2
    exact ⟨_, rfl, by rw [HRR.out]; exact OwnK.nil _ _ _, HB2.out⟩
set_option maxRecDepth 100000 in
set_option maxHeartbeats 4000000 in
theorem aboth_any (ad1 ad2 : Option Addr) (n1 c1 n2 c2 : Nat) (L1 L2 : List Pf) (w : World) (h1 : RdK layPf w ad1 L1) (h2 : RdK layPf w ad2 L2) (hn1 : L1.length = n1) (hn2 : L2.length = n2) (hs1 : n1 ≤ 1000) (hs2 : n2 ≤ 1000) (hu1 : U4 L1) (hu2 : U4 L2)
    (hl : firstE [setF L1, setF L2] = 0 → (pfs (jn (both (spn L1) (spn L2)))).length ≤ 1000) :
    Calls Tryz.prog 32 #[.slice ad1 n1 c1, .slice ad2 n2 c2] w fun e w' => ∃ v, e = .returned (.tuple #[v, .int .i64 (firstE [setF L1, setF L2])]) ∧ OwnK layPf w' w.heap.size v (if firstE [setF L1, setF L2] = 0 then pfs (jn (both (spn L1) (spn L2))) else []) ∧ Below w.heap.size w w' := by
  have hb0 : Below w.heap.size w (w.alloc (.cells #[.slice ad1 n1 c1, .slice ad2 n2 c2] 26 (0, 0))) := below_alloc (Below.refl _ _) _
  have HC := Lib.hid fun c => checkSets_any w.heap.size c ad1 ad2 n1 c1 n2 c2 L1 L2 (w.alloc (.cells #[.slice ad1 n1 c1, .slice ad2 n2 c2] 26 (0, 0))) (Blk.new w _ _) (h1.below hb0) (h2.below hb0) hn1 hn2 hs1 hs2 hu1 hu2
  have HB0 := Lib.hid hb0
  have HX1 := Lib.hid (h1.below hb0)
  have HX2 := Lib.hid (h2.below hb0)
  have HOK : Hid (firstE [setF L1, setF L2] = 0 → (∀ p ∈ L1, OkPf p) ∧ ∀ p ∈ L2, OkPf p) := Lib.hid fun h => by
    have hz : setF L1 = 0 ∧ setF L2 = 0 := by
      by_cases e1 : setF L1 = 0
      · by_cases e2 : setF L2 = 0
        · exact ⟨e1, e2⟩
        · simp [firstE, e1, e2] at h
      · simp [firstE, e1] at h
    exact ⟨setF_okS hz.1 hu1, setF_okS hz.2 hu2⟩
  have Hn1 := Lib.hid hn1
  have Hn2 := Lib.hid hn2
  have HL := Lib.hid hl
  obtain ⟨F, hF⟩ : ∃ F, firstE [setF L1, setF L2] = F := ⟨_, rfl⟩
  rw [hF] at HC HOK HL ⊢
  obtain ⟨RR, hRR⟩ : ∃ RR, (if F = 0 then pfs (jn (both (spn L1) (spn L2))) else []) = RR := ⟨_, rfl⟩
  rw [hRR]
  have HR0 : Hid (F = 0 → RR = pfs (jn (both (spn L1) (spn L2)))) := Lib.hid fun h => by rw [← hRR, if_pos h]
  have HR1 : Hid (F ≠ 0 → RR = []) := Lib.hid fun h => by rw [← hRR, if_neg h]
  clear h1 h2 hn1 hn2 hu1 hu2 hb0 hl hF hRR
  go_enter Tryz.func32, Tryz.ntmps32
  go_wp2_with fail
  refine (HC.out _).mono ?_
  rintro e w2 ⟨rfl, hb⟩
  have HB2 := Lib.hid (HB0.out.trans (hb.mono HB0.out.size))
  have HY1 := Lib.hid (HX1.out.below hb)
  have HY2 := Lib.hid (HX2.out.below hb)
  clear hb HC HB0 HX1 HX2
  by_cases h0 : F = 0
  · obtain ⟨hok1, hok2⟩ := HOK.out h0
    have HS1 := Lib.hid (spanOf_any ad1 n1 c1 L1 w2 HY1.out Hn1.out (by omega) hok1)
    have HS2 := Lib.hid fun wx (hr : RdK layPf wx ad2 L2) => spanOf_any ad2 n2 c2 L2 wx hr Hn2.out (by omega) hok2
    have e1 : jn (L1.map spP) = spn L1 := rfl
    have e2 : jn (L2.map spP) = spn L2 := rfl
    rw [e1] at HS1
    rw [e2] at HS2
    have HV1 := Lib.hid (spn_vr hok1)
    have HV2 := Lib.hid (spn_vr hok2)
    have HK2 := Lib.hid (spn_can hok2)
    have HN1 : Hid ((spn L1).length ≤ 1000) := Lib.hid (by have := spn_len L1; rw [Hn1.out] at this; omega)
    have HN2 : Hid ((spn L2).length ≤ 1000) := Lib.hid (by have := spn_len L2; rw [Hn2.out] at this; omega)
    have HRR := Lib.hid (HR0.out h0)
    have HLz := Lib.hid (HL.out h0)
    clear hok1 hok2 e1 e2 HOK HR0 HR1 HL
    subst h0
    generalize spn L1 = S1 at *
    generalize spn L2 = S2 at *
    go_wp2_with fail
    refine HS1.out.mono ?_
    rintro e w3 ⟨v, rfl, hO, hb⟩
    obtain ⟨b1, d1, rfl, _⟩ := hO.form
    have HO1 := Lib.hid hO.rd
    have HB3 := Lib.hid (HB2.out.trans (hb.mono HB2.out.size))
    have HZ2 := Lib.hid (HY2.out.below hb)
    clear hO hb HS1 HY1 HY2 HB2
    obtain ⟨m1, hm1⟩ : ∃ m, S1.length = m := ⟨_, rfl⟩
    have Hm1 := Lib.hid hm1
    rw [hm1]
    clear hm1
    go_wp2_with fail
    refine (HS2.out _ HZ2.out).mono ?_
    rintro e w4 ⟨v, rfl, hO, hb⟩
    obtain ⟨b2, d2, rfl, _⟩ := hO.form
    have HO2 := Lib.hid hO.rd
    have HO1' := Lib.hid (HO1.out.below hb)
    have HB4 := Lib.hid (HB3.out.trans (hb.mono HB3.out.size))
    clear hO hb HS2 HZ2 HO1 HB3
    obtain ⟨m2, hm2⟩ : ∃ m, S2.length = m := ⟨_, rfl⟩
    have Hm2 := Lib.hid hm2
    rw [hm2]
    clear hm2
    have hmb1 : m1 ≤ 1000 := by rw [← Hm1.out]; exact HN1.out
    have hmb2 : m2 ≤ 1000 := by rw [← Hm2.out]; exact HN2.out
    have HT := Lib.hid (sboth_any b1 b2 m1 d1 m2 d2 S1 S2 w4 HO1'.out HO2.out Hm1.out Hm2.out (by omega) (by omega) HV1.out HV2.out)
    have hbv := both_vr _ S1 S2 (Nat.le_refl _) HV1.out HV2.out
    have HJv := Lib.hid (jn_vr hbv.1)
    have HJl : Hid ((jn (both S1 S2)).length ≤ 100000) := Lib.hid (by have := jn_len (both S1 S2); have := hbv.2; rw [Hm1.out, Hm2.out] at this; omega)
    have HB5 := HB4
    clear HO1' HO2 HB4 hbv
    generalize jn (both S1 S2) = RJ at *
    go_wp2_with fail
    refine HT.out.mono ?_
    rintro e w6 ⟨v, rfl, hO, hb⟩
    obtain ⟨b6, d6, rfl, _⟩ := hO.form
    have HSt := Lib.hid (set_any b6 RJ.length d6 RJ w6 hO.rd rfl HJl.out HJv.out)
    have hz2 : setBd (pfs RJ).length = 0 := if_neg (by have := HLz.out; omega)
    rw [hz2, if_pos rfl] at HSt
    have HB6 := Lib.hid (HB5.out.trans (hb.mono HB5.out.size))
    clear hO hb HT HB5 hz2
    generalize RJ.length = jl at *
    go_wp2_with fail
    refine HSt.out.mono ?_
    rintro e w7 ⟨v, rfl, hO, hb⟩
    have HO7 := Lib.hid (hO.weak HB6.out.size)
    have HB7 := Lib.hid (HB6.out.trans (hb.mono HB6.out.size))
    clear hO hb
    go_wp2_with fail
    go_ret2
    exact ⟨_, rfl, by rw [HRR.out]; exact HO7.out, HB7.out⟩
  · have HRR := Lib.hid (HR1.out h0)
    have hF2 : (F != 0) = true := by simpa using h0
    clear h0 HOK HR0 HR1 HL
    go_wp2_with fail
    go_ret2
    exact ⟨_, rfl, by rw [HRR.out]; exact OwnK.nil _ _ _, HB2.out⟩
set_option maxRecDepth 100000 in
set_option maxHeartbeats 4000000 in
theorem awithout_any (ad1 ad2 : Option Addr) (n1 c1 n2 c2 : Nat) (L1 L2 : List Pf) (w : World) (h1 : RdK layPf w ad1 L1) (h2 : RdK layPf w ad2 L2) (hn1 : L1.length = n1) (hn2 : L2.length = n2) (hs1 : n1 ≤ 1000) (hs2 : n2 ≤ 1000) (hu1 : U4 L1) (hu2 : U4 L2)
    (hl : firstE [setF L1, setF L2] = 0 → (pfs (jn (both (spn L1) (gaps (spn L2))))).length ≤ 1000) :
    Calls Tryz.prog 33 #[.slice ad1 n1 c1, .slice ad2 n2 c2] w fun e w' => ∃ v, e = .returned (.tuple #[v, .int .i64 (firstE [setF L1, setF L2])]) ∧ OwnK layPf w' w.heap.size v (if firstE [setF L1, setF L2] = 0 then pfs (jn (both (spn L1) (gaps (spn L2)))) else []) ∧ Below w.heap.size w w' := by
  have hb0 : Below w.heap.size w (w.alloc (.cells #[.slice ad1 n1 c1, .slice ad2 n2 c2] 26 (0, 0))) := below_alloc (Below.refl _ _) _
  have HC := Lib.hid fun c => checkSets_any w.heap.size c ad1 ad2 n1 c1 n2 c2 L1 L2 (w.alloc (.cells #[.slice ad1 n1 c1, .slice ad2 n2 c2] 26 (0, 0))) (Blk.new w _ _) (h1.below hb0) (h2.below hb0) hn1 hn2 hs1 hs2 hu1 hu2
  have HB0 := Lib.hid hb0
  have HX1 := Lib.hid (h1.below hb0)
  have HX2 := Lib.hid (h2.below hb0)
  have HOK : Hid (firstE [setF L1, setF L2] = 0 → (∀ p ∈ L1, OkPf p) ∧ ∀ p ∈ L2, OkPf p) := Lib.hid fun h => by
    have hz : setF L1 = 0 ∧ setF L2 = 0 := by
      by_cases e1 : setF L1 = 0
      · by_cases e2 : setF L2 = 0
        · exact ⟨e1, e2⟩
        · simp [firstE, e1, e2] at h
      · simp [firstE, e1] at h
    exact ⟨setF_okS hz.1 hu1, setF_okS hz.2 hu2⟩
  have Hn1 := Lib.hid hn1
  have Hn2 := Lib.hid hn2
  have HL := Lib.hid hl
  obtain ⟨F, hF⟩ : ∃ F, firstE [setF L1, setF L2] = F := ⟨_, rfl⟩
  rw [hF] at HC HOK HL ⊢
  obtain ⟨RR, hRR⟩ : ∃ RR, (if F = 0 then pfs (jn (both (spn L1) (gaps (spn L2)))) else []) = RR := ⟨_, rfl⟩
  rw [hRR]
  have HR0 : Hid (F = 0 → RR = pfs (jn (both (spn L1) (gaps (spn L2))))) := Lib.hid fun h => by rw [← hRR, if_pos h]
  have HR1 : Hid (F ≠ 0 → RR = []) := Lib.hid fun h => by rw [← hRR, if_neg h]
  clear h1 h2 hn1 hn2 hu1 hu2 hb0 hl hF hRR
  go_enter Tryz.func33, Tryz.ntmps33
  go_wp2_with fail
  refine (HC.out _).mono ?_
  rintro e w2 ⟨rfl, hb⟩
  have HB2 := Lib.hid (HB0.out.trans (hb.mono HB0.out.size))
  have HY1 := Lib.hid (HX1.out.below hb)
  have HY2 := Lib.hid (HX2.out.below hb)
  clear hb HC HB0 HX1 HX2
  by_cases h0 : F = 0
  · obtain ⟨hok1, hok2⟩ := HOK.out h0
    have HS1 := Lib.hid (spanOf_any ad1 n1 c1 L1 w2 HY1.out Hn1.out (by omega) hok1)
    have HS2 := Lib.hid fun wx (hr : RdK layPf wx ad2 L2) => spanOf_any ad2 n2 c2 L2 wx hr Hn2.out (by omega) hok2
    have e1 : jn (L1.map spP) = spn L1 := rfl
    have e2 : jn (L2.map spP) = spn L2 := rfl
    rw [e1] at HS1
    rw [e2] at HS2
    have HV1 := Lib.hid (spn_vr hok1)
    have HV2 := Lib.hid (spn_vr hok2)
    have HK2 := Lib.hid (spn_can hok2)
    have HN1 : Hid ((spn L1).length ≤ 1000) := Lib.hid (by have := spn_len L1; rw [Hn1.out] at this; omega)
    have HN2 : Hid ((spn L2).length ≤ 1000) := Lib.hid (by have := spn_len L2; rw [Hn2.out] at this; omega)
    have HRR := Lib.hid (HR0.out h0)
    have HLz := Lib.hid (HL.out h0)
    clear hok1 hok2 e1 e2 HOK HR0 HR1 HL
    subst h0
    generalize spn L1 = S1 at *
    generalize spn L2 = S2 at *
    go_wp2_with fail
    refine HS1.out.mono ?_
    rintro e w3 ⟨v, rfl, hO, hb⟩
    obtain ⟨b1, d1, rfl, _⟩ := hO.form
    have HO1 := Lib.hid hO.rd
    have HB3 := Lib.hid (HB2.out.trans (hb.mono HB2.out.size))
    have HZ2 := Lib.hid (HY2.out.below hb)
    clear hO hb HS1 HY1 HY2 HB2
    obtain ⟨m1, hm1⟩ : ∃ m, S1.length = m := ⟨_, rfl⟩
    have Hm1 := Lib.hid hm1
    rw [hm1]
    clear hm1
    go_wp2_with fail
    refine (HS2.out _ HZ2.out).mono ?_
    rintro e w4 ⟨v, rfl, hO, hb⟩
    obtain ⟨b2, d2, rfl, _⟩ := hO.form
    have HO2 := Lib.hid hO.rd
    have HO1' := Lib.hid (HO1.out.below hb)
    have HB4 := Lib.hid (HB3.out.trans (hb.mono HB3.out.size))
    clear hO hb HS2 HZ2 HO1 HB3
    obtain ⟨m2, hm2⟩ : ∃ m, S2.length = m := ⟨_, rfl⟩
    have Hm2 := Lib.hid hm2
    rw [hm2]
    clear hm2
    have hmb1 : m1 ≤ 1000 := by rw [← Hm1.out]; exact HN1.out
    have hmb2 : m2 ≤ 1000 := by rw [← Hm2.out]; exact HN2.out
    have HRs := Lib.hid (rest_any b2 m2 d2 S2 w4 HO2.out Hm2.out (by omega) HK2.out HV2.out)
    have HGv := Lib.hid (gaps_ok HK2.out HV2.out).2.2
    have HGl : Hid ((gaps S2).length ≤ 2002) := Lib.hid (by have := gaps_len S2; rw [Hm2.out] at this; omega)
    clear HO2
    generalize gaps S2 = G2 at *
    go_wp2_with fail
    refine HRs.out.mono ?_
    rintro e w5 ⟨v, rfl, hO, hb⟩
    obtain ⟨b5, d5, rfl, _⟩ := hO.form
    have HB5 := Lib.hid (HB4.out.trans (hb.mono HB4.out.size))
    obtain ⟨m5, hm5⟩ : ∃ m, G2.length = m := ⟨_, rfl⟩
    have HT := Lib.hid (sboth_any b1 b5 m1 d1 m5 d5 S1 G2 w5 (HO1'.out.below hb) hO.rd Hm1.out hm5 (by omega) (by rw [← hm5]; have := HGl.out; omega) HV1.out HGv.out)
    have hbv := both_vr _ S1 G2 (Nat.le_refl _) HV1.out HGv.out
    have HJv := Lib.hid (jn_vr hbv.1)
    have HJl : Hid ((jn (both S1 G2)).length ≤ 100000) := Lib.hid (by have := jn_len (both S1 G2); have h2 := hbv.2; have := HGl.out; rw [Hm1.out] at h2; omega)
    rw [hm5]
    clear HO1' HB4 hbv hO hb hm5 HRs HGl
    generalize jn (both S1 G2) = RJ at *
    go_wp2_with fail
    refine HT.out.mono ?_
    rintro e w6 ⟨v, rfl, hO, hb⟩
    obtain ⟨b6, d6, rfl, _⟩ := hO.form
    have HSt := Lib.hid (set_any b6 RJ.length d6 RJ w6 hO.rd rfl HJl.out HJv.out)
    have hz2 : setBd (pfs RJ).length = 0 := if_neg (by have := HLz.out; omega)
    rw [hz2, if_pos rfl] at HSt
    have HB6 := Lib.hid (HB5.out.trans (hb.mono HB5.out.size))
    clear hO hb HT HB5 hz2
    generalize RJ.length = jl at *
    go_wp2_with fail
    refine HSt.out.mono ?_
    rintro e w7 ⟨v, rfl, hO, hb⟩
    have HO7 := Lib.hid (hO.weak HB6.out.size)
    have HB7 := Lib.hid (HB6.out.trans (hb.mono HB6.out.size))
    clear hO hb
    go_wp2_with fail
    go_ret2
    exact ⟨_, rfl, by rw [HRR.out]; exact HO7.out, HB7.out⟩
  · have HRR := Lib.hid (HR1.out h0)
    have hF2 : (F != 0) = true := by simpa using h0
    clear h0 HOK HR0 HR1 HL
    go_wp2_with fail
    go_ret2
    exact ⟨_, rfl, by rw [HRR.out]; exact OwnK.nil _ _ _, HB2.out⟩
set_option maxRecDepth 100000 in
set_option maxHeartbeats 4000000 in
theorem arest_any (ad1 : Option Addr) (n1 c1 : Nat) (L1 : List Pf) (w : World) (h1 : RdK layPf w ad1 L1) (hn1 : L1.length = n1) (hs1 : n1 ≤ 1000) (hu1 : U4 L1)
    (hl : setF L1 = 0 → (pfs (gaps (spn L1))).length ≤ 1000) :
    Calls Tryz.prog 34 #[.slice ad1 n1 c1] w fun e w' => ∃ v, e = .returned (.tuple #[v, .int .i64 (setF L1)]) ∧ OwnK layPf w' w.heap.size v (if setF L1 = 0 then pfs (gaps (spn L1)) else []) ∧ Below w.heap.size w w' := by
  have HC := Lib.hid (checkSet_any ad1 n1 c1 L1 w h1 hn1 (by omega) hu1)
  have HX1 := Lib.hid h1
  have HOK : Hid (setF L1 = 0 → ∀ p ∈ L1, OkPf p) := Lib.hid fun h => setF_okS h hu1
  have Hn1 := Lib.hid hn1
  have HL := Lib.hid hl
  obtain ⟨F, hF⟩ : ∃ F, setF L1 = F := ⟨_, rfl⟩
  rw [hF] at HC HOK HL ⊢
  obtain ⟨RR, hRR⟩ : ∃ RR, (if F = 0 then pfs (gaps (spn L1)) else []) = RR := ⟨_, rfl⟩
  rw [hRR]
  have HR0 : Hid (F = 0 → RR = pfs (gaps (spn L1))) := Lib.hid fun h => by rw [← hRR, if_pos h]
  have HR1 : Hid (F ≠ 0 → RR = []) := Lib.hid fun h => by rw [← hRR, if_neg h]
  clear h1 hn1 hu1 hl hF hRR
  go_enter Tryz.func34, Tryz.ntmps34
  go_wp2_with fail
  refine HC.out.mono ?_
  rintro e w2 ⟨rfl, hb⟩
  have HB2 := Lib.hid hb
  have HY1 := Lib.hid (HX1.out.below hb)
  clear hb HC HX1
  by_cases h0 : F = 0
  · have hok1 := HOK.out h0
    have HS1 := Lib.hid (spanOf_any ad1 n1 c1 L1 w2 HY1.out Hn1.out (by omega) hok1)
    have e1 : jn (L1.map spP) = spn L1 := rfl
    rw [e1] at HS1
    have HV1 := Lib.hid (spn_vr hok1)
    have HK1 := Lib.hid (spn_can hok1)
    have HN1 : Hid ((spn L1).length ≤ 1000) := Lib.hid (by have := spn_len L1; rw [Hn1.out] at this; omega)
    have HRR := Lib.hid (HR0.out h0)
    have HLz := Lib.hid (HL.out h0)
    clear hok1 e1 HOK HR0 HR1 HL
    subst h0
    generalize spn L1 = S1 at *
    go_wp2_with fail
    refine HS1.out.mono ?_
    rintro e w3 ⟨v, rfl, hO, hb⟩
    obtain ⟨b1, d1, rfl, _⟩ := hO.form
    have HO1 := Lib.hid hO.rd
    have HB4 := Lib.hid (HB2.out.trans (hb.mono HB2.out.size))
    clear hO hb HS1 HY1 HB2
    obtain ⟨m1, hm1⟩ : ∃ m, S1.length = m := ⟨_, rfl⟩
    have Hm1 := Lib.hid hm1
    rw [hm1]
    clear hm1
    have hmb1 : m1 ≤ 1000 := by rw [← Hm1.out]; exact HN1.out
    have HT := Lib.hid (rest_any b1 m1 d1 S1 w3 HO1.out Hm1.out (by omega) HK1.out HV1.out)
    have HJv := Lib.hid (gaps_ok HK1.out HV1.out).2.2
    have HJl : Hid ((gaps S1).length ≤ 100000) := Lib.hid (by have := gaps_len S1; rw [Hm1.out] at this; omega)
    have HB5 := HB4
    clear HO1 HB4
    generalize gaps S1 = RJ at *
    go_wp2_with fail
    refine HT.out.mono ?_
    rintro e w6 ⟨v, rfl, hO, hb⟩
    obtain ⟨b6, d6, rfl, _⟩ := hO.form
    have hz2 : setBd (pfs RJ).length = 0 := if_neg (by have := HLz.out; omega)
    have HSt := Lib.hid (set_any b6 RJ.length d6 RJ w6 hO.rd rfl HJl.out HJv.out)
    rw [hz2, if_pos rfl] at HSt
    have HB6 := Lib.hid (HB5.out.trans (hb.mono HB5.out.size))
    clear hO hb HT HB5 hz2
    generalize RJ.length = jl at *
    go_wp2_with fail
    refine HSt.out.mono ?_
    rintro e w7 ⟨v, rfl, hO, hb⟩
    have HO7 := Lib.hid (hO.weak HB6.out.size)
    have HB7 := Lib.hid (HB6.out.trans (hb.mono HB6.out.size))
    clear hO hb
    go_wp2_with fail
    go_ret2
    exact ⟨_, rfl, by rw [HRR.out]; exact HO7.out, HB7.out⟩
  · have HRR := Lib.hid (HR1.out h0)
    have hF2 : (F != 0) = true := by simpa using h0
    clear h0 HOK HR0 HR1 HL
    go_wp2_with fail
    go_ret2
    exact ⟨_, rfl, by rw [HRR.out]; exact OwnK.nil _ _ _, HB2.out⟩
end Go.Proofs.YtjkicehhfapohaaGreatDoor

namespace Go.Proofs.YtjkicehhfapohaaGreatDoor
open Go.RowKit Go
set_option linter.unusedVariables false

theorem pfs_allB (S : List Sp) : (pfs S).length = (allB S).length := by unfold pfs; rw [List.length_map]
theorem sps_pfx {L : List Pf} (hv : ∀ p ∈ L, OkPf p) : ∀ p ∈ L.map spP, ∃ j, PfxSp p j := fun p hp => by
  obtain ⟨q, hq, rfl⟩ := List.mem_map.1 hp
  exact ⟨_, (hv q hq).sp⟩
/-- all addresses, as two prefixes -/
def whole : List Sp := [(0, 2 ^ 32 - 1), (2 ^ 128, 2 ^ 129 - 1)]
theorem whole_pfx : ∀ p ∈ whole, ∃ j, PfxSp p j := fun p hp => by
  unfold whole at hp
  simp only [List.mem_cons, List.not_mem_nil, or_false] at hp
  rcases hp with rfl | rfl
  · exact ⟨32, by decide, ⟨0, by decide⟩, by decide⟩
  · exact ⟨128, by decide, ⟨1, by decide⟩, by decide⟩
theorem inS_whole (x : Nat) : InS whole x ↔ VN x := by
  unfold whole VN
  rw [inS_cons, inS_cons]
  simp only [inS_nil, or_false]
  have e1 : (2 : Nat) ^ 32 = 4294967296 := by decide
  have e2 : (2 : Nat) ^ 128 = 340282366920938463463374607431768211456 := by decide
  have e3 : (2 : Nat) ^ 129 = 680564733841876926926749214863536422912 := by decide
  rw [e1, e2, e3]
  omega
theorem union_len {X Y : List Pf} (hx : ∀ p ∈ X, OkPf p) (hy : ∀ p ∈ Y, OkPf p) : (pfs (jn (spn X ++ spn Y))).length ≤ X.length + Y.length := by
  rw [← union_eq hx hy]
  have := lst_len (ok_append hx hy)
  rw [List.length_append] at this
  exact this
theorem both_len {X Y : List Pf} (hx : ∀ p ∈ X, OkPf p) (hy : ∀ p ∈ Y, OkPf p) : (pfs (jn (both (spn X) (spn Y)))).length ≤ X.length + Y.length + 2 := by
  obtain ⟨h1, h2, h3⟩ := both_ok (spn_can hx) (spn_can hy) (spn_vr hx) (spn_vr hy)
  have := cover_len h1 h3 (A := X.map spP) (C := Y.map spP) (B := []) (sps_pfx hx) (sps_pfx hy) (by simp) (fun x => by
    rw [h2, inS_spn hx, inS_spn hy]
    simp [inS_nil])
  rw [List.length_map, List.length_map] at this
  rw [pfs_allB]
  simpa using this
theorem without_len {X Y : List Pf} (hx : ∀ p ∈ X, OkPf p) (hy : ∀ p ∈ Y, OkPf p) : (pfs (jn (both (spn X) (gaps (spn Y))))).length ≤ 2 * X.length + 128 * Y.length + 2 := by
  have g := gaps_ok (spn_can hy) (spn_vr hy)
  obtain ⟨h1, h2, h3⟩ := both_ok (spn_can hx) g.1 (spn_vr hx) g.2.2
  have := cover_len h1 h3 (A := X.map spP) (C := X.map spP) (B := Y.map spP) (sps_pfx hx) (sps_pfx hx) (sps_pfx hy) (fun x => by
    rw [h2, g.2.1, ← inS_spn hx, ← inS_spn hy]
    constructor
    · rintro ⟨a, b, c⟩; exact ⟨a, a, c⟩
    · rintro ⟨a, b, c⟩; exact ⟨a, vr_vn (spn_vr hx) a, c⟩)
  rw [List.length_map, List.length_map] at this
  rw [pfs_allB]
  omega
theorem rest_len {X : List Pf} (hx : ∀ p ∈ X, OkPf p) : (pfs (gaps (spn X))).length ≤ 128 * X.length + 6 := by
  have g := gaps_ok (spn_can hx) (spn_vr hx)
  have := cover_len g.1 g.2.2 (A := whole) (C := whole) (B := X.map spP) whole_pfx whole_pfx (sps_pfx hx) (fun x => by
    rw [g.2.1, inS_whole, ← inS_spn hx]
    constructor
    · rintro ⟨a, b⟩; exact ⟨a, a, b⟩
    · rintro ⟨a, _, b⟩; exact ⟨a, b⟩)
  rw [List.length_map] at this
  rw [pfs_allB]
  have hw : whole.length = 2 := rfl
  omega
theorem gaps_gaps {S : List Sp} (hc : Can S) (hv : ∀ p ∈ S, VR p) : gaps (gaps S) = S := by
  have g := gaps_ok hc hv
  have g2 := gaps_ok g.1 g.2.2
  refine can_unique g2.1 hc fun x => ?_
  rw [g2.2.1, g.2.1]
  constructor
  · rintro ⟨a, b⟩
    exact Classical.byContradiction fun h => b ⟨a, h⟩
  · intro h
    exact ⟨vr_vn hv h, fun h2 => h2.2 h⟩
theorem rest2_len {X : List Pf} (hx : ∀ p ∈ X, OkPf p) : (restR (restR X)).length ≤ X.length := by
  have e : restR (restR X) = lst X := by
    show pfs (gaps (spn (restR X))) = pfs (spn X)
    rw [spn_restR hx, gaps_gaps (spn_can hx) (spn_vr hx)]
  rw [e]
  exact lst_len hx
end Go.Proofs.YtjkicehhfapohaaGreatDoor
