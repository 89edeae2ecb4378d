/-
  The program's Size of a set.
  How many prefixes what is joined of small sets has.
  The state of the law SetsTell; the second set's length.
  The tables of numerals, out of what a row lists: the listed tables lie as the program's text lays them.
-/
import Derived.Test.YtaeieigdibanlaaGreatDoorST20
import Derived.Test.YtaeieigdibanlaaGreatDoorST19
import Derived.Test.YtaeieigdibanlaaGreatDoorST15
import Derived.Test.YtaeieigdibanlaaGreatDoorST13
import Derived.Test.YtaeieigdibanlaaGreatDoorST17
import Derived.Test.YtaeieigdibanlaaGreatDoorST11
set_option linter.unusedVariables false
namespace Go.Proofs.YtaeieigdibanlaaGreatDoor
open Go.RowKit Go
set_option linter.unusedVariables false

theorem below_of_grown {B b : Nat} {u w w' : World} (h : Below B u w) (hg : w.grownBy w' (some b)) (hB : B ≤ b) (hs : B ≤ w.heap.size) : Below B u w' :=
  h.trans ⟨hg.os, hg.tape, hg.output, hg.size, fun k hk => hg.block k (Nat.lt_of_lt_of_le hk hs) (by intro e; injection e with e; omega)⟩
set_option maxRecDepth 100000 in
set_option maxHeartbeats 4000000 in
theorem aSize_any (ad : Option Addr) (n c : Nat) (L : List Pf) (w : World) (h : RdK layPf w ad L) (hn : L.length = n) (hs : n ≤ 100000) (hu : U4 L) (ht : Lib.TabIs Tryz.prog w "internal/strconv.uint64pow10" .u64 Lib.pow10Tab) :
    Calls Tryz.prog 33 #[.slice ad n c] w (Ret (.tuple #[.string (if setF L = 0 then dS (sizeL L) else ⟨#[]⟩), .int .i64 (setF L)]) w) := by
  have H0 := Lib.hid h
  have Hn := Lib.hid hn
  have HT := Lib.hid ht
  have HC := Lib.hid (checkSet_any ad n c L w h hn hs hu)
  have HOk : Hid (setF L = 0 → ∀ p ∈ L, OkPf p) := Lib.hid fun e => setF_okS e hu
  obtain ⟨R, hR⟩ : ∃ R, dS (sizeL L) = R := ⟨_, rfl⟩
  have HR := Lib.hid hR
  rw [hR]
  generalize setF L = F at *
  clear h hn hu ht hR
  by_cases hF : F = 0
  case neg =>
    rw [if_neg hF]
    have hF2 : (F != 0) = true := by simpa using hF
    go_enter Tryz.func33, Tryz.ntmps33
    go_wp2_with fail
    refine HC.out.mono ?_
    rintro e w1 ⟨rfl, hb⟩
    have HB := Lib.hid hb
    clear hb hF HC
    go_wp2_with fail
    go_ret2
    exact ⟨rfl, HB.out⟩
  case pos =>
    subst hF
    rw [if_pos rfl]
    have Hv := Lib.hid (HOk.out rfl)
    clear HOk
    go_enter Tryz.func33, Tryz.ntmps33
    go_wp2_with fail
    refine HC.out.mono ?_
    rintro e w1 ⟨rfl, hb⟩
    have HB1 := Lib.hid hb
    clear hb HC
    have HK0 : Hid (Blk (w1.alloc (.cells #[.int .u64 0, .int .u64 0, .int .u64 0] 108 (0, 0))) w1.heap.size 108 #[.int .u64 0, .int .u64 0, .int .u64 0]) := Lib.hid (Blk.new w1 _ _)
    have HB2 : Hid (Below w.heap.size w (w1.alloc (.cells #[.int .u64 0, .int .u64 0, .int .u64 0] 108 (0, 0)))) := Lib.hid (below_alloc HB1.out _)
    have hb1 : w.heap.size ≤ w1.heap.size := HB1.out.size
    go_upto_region 5 with fail
    generalize (w1.alloc (.cells #[.int .u64 0, .int .u64 0, .int .u64 0] 108 (0, 0))) = w2 at *
    generalize w1.heap.size = b at *
    clear HB1
    go_wp2_with fail
    go_loopw [15] (fun i wr => ∃ k d0 d1 d2 : Nat, k ≤ n ∧ i = .int .i64 (k : Int) ∧ d0 < 18446744073709551616 ∧ d1 < 18446744073709551616 ∧ d2 < 18446744073709551616 ∧ Hid (d0 + d1 * 18446744073709551616 + d2 * 340282366920938463463374607431768211456 = sizeL (L.take k)) ∧ Hid (Blk wr b 108 #[.int .u64 (d0 : Int), .int .u64 (d1 : Int), .int .u64 (d2 : Int)]) ∧ Hid (Below w.heap.size w wr)) (fun i _ => n - (intOf i).toNat)
    case atStart => exact ⟨0, 0, 0, 0, by omega, rfl, by decide, by decide, by decide, Lib.hid rfl, HK0, HB2⟩
    case round =>
      clear HK0 HB2
      obtain ⟨k, d0, d1, d2, hk, rfl, hd0, hd1, hd2, HV, HK, HB⟩ := hrel
      by_cases hlt : k < n
      · have hlt2 : k < L.length := by rw [Hn.out]; exact hlt
        obtain ⟨p, hp⟩ : ∃ p, L[k]? = some p := ⟨_, List.getElem?_eq_getElem hlt2⟩
        obtain ⟨g, o, had, hg, c0, c1, c2, c3⟩ := (H0.out.below HB.out).pf hp rfl
        subst had
        have hok := Hv.out p (List.mem_of_getElem? hp)
        have hbits := hok.bits
        obtain ⟨e, he⟩ : ∃ e, pExp p = e := ⟨_, rfl⟩
        have he128 : e ≤ 128 := by rw [← he]; exact pExp_le p
        have HV2 : Hid (sizeL (L.take (k + 1)) = sizeL (L.take k) + 2 ^ e) := Lib.hid (by rw [List.take_add_one, hp, Option.toList_some, sizeL_snoc, he])
        have HVl : Hid (sizeL (L.take k) + 2 ^ e < 6277101735386680763835789423207666416102355444464034512896) := Lib.hid (by
          rw [← HV2.out]
          have h1 := sizeL_le (L.take (k + 1))
          have h2 : (L.take (k + 1)).length ≤ 100000 := by rw [List.length_take]; omega
          have h3 : (L.take (k + 1)).length * 2 ^ 128 ≤ 100000 * 2 ^ 128 := Nat.mul_le_mul_right _ h2
          have h4 : 100000 * 2 ^ 128 < 6277101735386680763835789423207666416102355444464034512896 := by decide
          omega)
        have hsub : ((lenN p.1 : Nat) : Int) - p.2.2.2 = (e : Int) := by
          have h1 := hok.num.2.1
          have h2 := hok.nn
          rw [← he]
          unfold pExp
          have h3 : LN (nuP p) = lenN p.1 := by rw [LN_six, h1]
          omega
        have hLen := fun wx => length_any p.1 p.2.1 p.2.2.1 wx
        clear he hok hbits hp hlt2
        obtain ⟨p1, p2, p3, p4⟩ := p
        simp only at c0 c1 c2 c3 hsub hLen
        generalize lenN p1 = ll at *
        have HK1 : Hid (Blk (wr.alloc (.cells #[.bool p1, .int .u64 (p2 : Int), .int .u64 (p3 : Int), .int .i64 p4] 90 (0, 0))) wr.heap.size 90 #[.bool p1, .int .u64 (p2 : Int), .int .u64 (p3 : Int), .int .i64 p4]) := Lib.hid (Blk.new wr _ _)
        have HB1 : Hid (Below w.heap.size w (wr.alloc (.cells #[.bool p1, .int .u64 (p2 : Int), .int .u64 (p3 : Int), .int .i64 p4] 90 (0, 0)))) := Lib.hid (below_alloc HB.out _)
        have HC1 := Lib.hid (HK.out.alloc (.cells #[.bool p1, .int .u64 (p2 : Int), .int .u64 (p3 : Int), .int .i64 p4] 90 (0, 0)))
        go_upto_region 8 with fail
        generalize (wr.alloc (.cells #[.bool p1, .int .u64 (p2 : Int), .int .u64 (p3 : Int), .int .i64 p4] 90 (0, 0))) = w3 at *
        generalize wr.heap.size = b5 at *
        have x0 := HK1.out.cell 0
        have x1 := HK1.out.cell 1
        have x2 := HK1.out.cell 2
        have x3 := HK1.out.cell 3
        simp at x0 x1 x2 x3
        have l0 := Later.cell_of x0
        have l1 := Later.cell_of x1
        have l2 := Later.cell_of x2
        have l3 := Later.cell_of x3
        have hL := fun x : Later w3 => Calls.later x (hLen x.1)
        unfold vA at hL
        clear x0 x1 x2 x3 c0 c1 c2 c3 hLen HB HK HK1
        refine wp_region_later_tail 6 (by kernel_rfl) (by kernel_rfl) ?_
        simp only [List.take_succ_cons, List.take_zero, List.drop_succ_cons, List.drop_zero]
        repeat (go_big_quiet_step ((go_at_call 81; exact hL _)))
        refine wpQuiet_nil ?_
        rintro w4 ⟨m4, hm4⟩
        have hb4 : Below w3.heap.size w3 w4 := by rw [hm4]; exact m4.2
        have HB4 : Hid (Below w.heap.size w w4) := Lib.hid (HB1.out.trans (hb4.mono HB1.out.size))
        have HC4 := Lib.hid (HC1.out.below hb4 HC1.out.lt)
        clear hm4 m4 HB1 HC1 hb4 l0 l1 l2 l3 hL
        have HAd := Lib.hid (cAdd_any b d0 d1 d2 e w4 HC4.out he128 hd0 hd1 hd2 (by rw [HV.out]; exact HVl.out))
        go_wp2_with fail
        refine HAd.out.mono ?_
        rintro e9 w5 ⟨rfl, f0, f1, f2, hf0, hf1, hf2, hfv, hK, hg5⟩
        have HK5 := Lib.hid hK
        have HB5 : Hid (Below w.heap.size w w5) := Lib.hid (below_of_grown HB4.out hg5 hb1 HB4.out.size)
        have HV5 : Hid (f0 + f1 * 18446744073709551616 + f2 * 340282366920938463463374607431768211456 = sizeL (L.take (k + 1))) := Lib.hid (by rw [HV2.out, ← HV.out]; exact hfv)
        clear hK hg5 hfv HAd HC4 HB4 HV HV2 HVl
        go_wp2_with fail
        exact ⟨⟨k + 1, f0, f1, f2, by omega, by go_num, hf0, hf1, hf2, HV5, HK5, HB5⟩, by simp [intOf]; omega⟩
      · obtain rfl : k = n := by omega
        have hR3 : dS (d0 + d1 * 18446744073709551616 + d2 * 340282366920938463463374607431768211456) = R := by
          rw [HV.out, ← HR.out]
          have : L.take k = L := by rw [← Hn.out]; exact List.take_length
          rw [this]
        have HTx := Lib.hid (tab_below HT.out HB.out)
        have HX := Lib.hid (cText_any d0 d1 d2 wr hd0 hd1 hd2 HTx.out)
        rw [hR3] at HX
        clear hR3 HV
        have e0 := HK.out.cell 0
        have e1 := HK.out.cell 1
        have e2 := HK.out.cell 2
        simp at e0 e1 e2
        go_wp2_with fail
        refine HX.out.mono ?_
        rintro e w5 ⟨rfl, hb⟩
        have HB5 := Lib.hid (HB.out.trans (hb.mono HB.out.size))
        clear hb HX HK HB e0 e1 e2
        go_wp2_with fail
        go_ret2
        exact ⟨rfl, HB5.out⟩
end Go.Proofs.YtaeieigdibanlaaGreatDoor

namespace Go.Proofs.YtaeieigdibanlaaGreatDoor
open Go.RowKit Go
set_option linter.unusedVariables false

theorem pfs_allB (S : List Sp) : (pfs S).length = (allB S).length := by unfold pfs; rw [List.length_map]
theorem sps_pfx {L : List Pf} (hv : ∀ p ∈ L, OkPf p) : ∀ p ∈ L.map spP, ∃ j, PfxSp p j := fun p hp => by
  obtain ⟨q, hq, rfl⟩ := List.mem_map.1 hp
  exact ⟨_, (hv q hq).sp⟩
/-- all addresses, as two prefixes -/
def whole : List Sp := [(0, 2 ^ 32 - 1), (2 ^ 128, 2 ^ 129 - 1)]
theorem whole_pfx : ∀ p ∈ whole, ∃ j, PfxSp p j := fun p hp => by
  unfold whole at hp
  simp only [List.mem_cons, List.not_mem_nil, or_false] at hp
  rcases hp with rfl | rfl
  · exact ⟨32, by decide, ⟨0, by decide⟩, by decide⟩
  · exact ⟨128, by decide, ⟨1, by decide⟩, by decide⟩
theorem inS_whole (x : Nat) : InS whole x ↔ VN x := by
  unfold whole VN
  rw [inS_cons, inS_cons]
  simp only [inS_nil, or_false]
  have e1 : (2 : Nat) ^ 32 = 4294967296 := by decide
  have e2 : (2 : Nat) ^ 128 = 340282366920938463463374607431768211456 := by decide
  have e3 : (2 : Nat) ^ 129 = 680564733841876926926749214863536422912 := by decide
  rw [e1, e2, e3]
  omega
theorem both_len {X Y : List Pf} (hx : ∀ p ∈ X, OkPf p) (hy : ∀ p ∈ Y, OkPf p) : (pfs (jn (both (spn X) (spn Y)))).length ≤ X.length + Y.length + 2 := by
  obtain ⟨h1, h2, h3⟩ := both_ok (spn_can hx) (spn_can hy) (spn_vr hx) (spn_vr hy)
  have := cover_len h1 h3 (A := X.map spP) (C := Y.map spP) (B := []) (sps_pfx hx) (sps_pfx hy) (by simp) (fun x => by
    rw [h2, inS_spn hx, inS_spn hy]
    simp [inS_nil])
  rw [List.length_map, List.length_map] at this
  rw [pfs_allB]
  simpa using this
theorem rest_len {X : List Pf} (hx : ∀ p ∈ X, OkPf p) : (pfs (gaps (spn X))).length ≤ 128 * X.length + 6 := by
  have g := gaps_ok (spn_can hx) (spn_vr hx)
  have := cover_len g.1 g.2.2 (A := whole) (C := whole) (B := X.map spP) whole_pfx whole_pfx (sps_pfx hx) (fun x => by
    rw [g.2.1, inS_whole, ← inS_spn hx]
    constructor
    · rintro ⟨a, b⟩; exact ⟨a, a, b⟩
    · rintro ⟨a, _, b⟩; exact ⟨a, b⟩)
  rw [List.length_map] at this
  rw [pfs_allB]
  have hw : whole.length = 2 := rfl
  omega
end Go.Proofs.YtaeieigdibanlaaGreatDoor

namespace Go.Proofs.YtaeieigdibanlaaGreatDoor
open Go.RowKit Go
set_option linter.unusedVariables false

theorem lst_lenT {Z : List Pf} (hz : ∀ p ∈ Z, OkPf p) : (lst Z).length ≤ Z.length := by
  have h := allB_len (S := spn Z) (L := Z.map spP) (jn_joined (sps_le hz)) (sps_pfx hz) (fun c hc => by
    have := spn_vr hz c hc
    rw [LN_six, LN_six, this.s])
  rw [lst_eq]
  unfold pfs
  rw [List.length_map]
  simpa using h
theorem firstE_two (a b : Int) : firstE [a, b] = if a ≠ 0 then a else b := by
  by_cases h : a = 0 <;> by_cases h2 : b = 0 <;> simp [firstE, h, h2]
theorem lst_same {X : List Pf} (h : setF X = 0) : lst X = X := by
  unfold setF at h
  by_cases h1 : 1000 < X.length
  · rw [if_pos h1] at h; cases h
  · rw [if_neg h1] at h
    by_cases h2 : scanF X ≠ 0
    · rw [if_pos h2] at h; exact absurd h h2
    · rw [if_neg h2] at h
      by_cases h3 : lst X = X
      · exact h3
      · rw [if_neg h3] at h; cases h
/-- the stream, the first set, the address -/
structure TellS (b m : Nat) (w0 : World) (xa : Option Addr) (nx xc : Nat) (X : List Pf) (pa : Nat) (A : Array Value) (w : World) : Prop where
  g : Gen b w0 w m
  x : OwnK layPf w w0.heap.size (.slice xa nx xc) X
  p : Blk w pa 33 A
  bb : b < w0.heap.size
  pb : w0.heap.size ≤ pa
theorem TellS.step {b m m' nx xc pa : Nat} {w0 w w' : World} {xa : Option Addr} {X : List Pf} {A : Array Value} (h : TellS b m w0 xa nx xc X pa A w) (hg : Gen b w w' m') : TellS b m' w0 xa nx xc X pa A w' :=
  ⟨h.g.trans hg, h.x.gen hg h.bb, h.p.keep hg.g (by have := h.bb; have := h.pb; omega), h.bb, h.pb⟩
theorem TellS.below {b m nx xc pa : Nat} {w0 w w' : World} {xa : Option Addr} {X : List Pf} {A : Array Value} (h : TellS b m w0 xa nx xc X pa A w) (hb : Below w.heap.size w w') : TellS b m w0 xa nx xc X pa A w' :=
  ⟨h.g.below0 hb h.g.s.lt, h.x.later hb, h.p.below hb h.p.lt, h.bb, h.pb⟩
theorem TellS.mono {b m m' nx xc pa : Nat} {w0 w : World} {xa : Option Addr} {X : List Pf} {A : Array Value} (h : TellS b m w0 xa nx xc X pa A w) (hm : m ≤ m') : TellS b m' w0 xa nx xc X pa A w := { h with g := h.g.mono hm }
end Go.Proofs.YtaeieigdibanlaaGreatDoor

namespace Go.Proofs.YtaeieigdibanlaaGreatDoor
open Go.RowKit Go
set_option linter.unusedVariables false

/-- the numbers of a listed table -/
def numsOf : DataW Unit → List Int
  | .agg l => l.map fun | .lit (.int _ z) => z | _ => 0
  | _ => []
theorem tabs_of {w : World} {L : List (String × DataW Unit)} {d64 : DataW Unit} (h : laidMetH Tryz.prog L w)
    (e1 : L.filter (fun x => x.1 == "internal/strconv.uint64pow10") = [("internal/strconv.uint64pow10", Lib.tabData .u64 Lib.pow10Tab)])
    (e2 : L.filter (fun x => x.1 == "math/bits.deBruijn64tab") = [("math/bits.deBruijn64tab", d64)])
    (e3 : d64 = Lib.tabData .u8 (numsOf d64)) (e4 : (numsOf d64).length = 64) (e5 : (numsOf d64).getD 15 0 = 4) : Tabs w := by
  refine ⟨?_, ?_⟩
  · have h1 := h.filter (fun x => x.1 == "internal/strconv.uint64pow10")
    rw [e1] at h1
    replace h1 : laidMet Tryz.prog [("internal/strconv.uint64pow10", Lib.tabData .u64 Lib.pow10Tab)] w := (laidMetH_iff.1 h1).1
    exact Lib.tabIs_of_head (g := 3) (t := 238) (e := 31) (n := 20) (by kernel_rfl) (by kernel_rfl) (by kernel_rfl) (by kernel_rfl) (by kernel_rfl) (by kernel_rfl) h1
  · have h2 := h.filter (fun x => x.1 == "math/bits.deBruijn64tab")
    rw [e2, e3] at h2
    replace h2 : laidMet Tryz.prog [("math/bits.deBruijn64tab", Lib.tabData .u8 (numsOf d64))] w := (laidMetH_iff.1 h2).1
    have := Lib.TabIs.cell (Lib.tabIs_of_head (g := 7) (t := 265) (e := 5) (n := 64) (by kernel_rfl) (by kernel_rfl) (by kernel_rfl) (by kernel_rfl) (by kernel_rfl) (by kernel_rfl) h2) (g := 7) (by kernel_rfl) 15 (by rw [e4]; decide)
    rw [e5] at this
    exact this
end Go.Proofs.YtaeieigdibanlaaGreatDoor
