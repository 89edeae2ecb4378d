/-
  The reference's lets: whether a row lets a flow in.
  The program's lets: whether a ready row lets a flow in.
  Rows that let a flow in: the reference's DecidesOf and the program's lets.
  Rows that let a flow in: the reference's DecidesOf.
  What stays when blocks of some types alone change: rows that can be read, of a type that is not among them.
  Rows of filters (api.Filter, filter.row): how they lie, and what their slices hold.
  What stays while the stream moves on, and while cells of a block are set.
  The generator of right prefixes: what it returns is a right prefix.
-/
import Derived.Test.YtgppbebdmbeohaaGreatRD10
import Derived.Test.YtgppbebdmbeohaaGreatRD5
import Derived.Test.YtgppbebdmbeohaaGreatRD1
import Derived.Test.YtgppbebdmbeohaaGreatRD3
import Derived.Test.YtgppbebdmbeohaaGreatRD7
set_option linter.unusedVariables false
namespace Go.Proofs.YtgppbebdmbeohaaGreat
open Go.RowKit Go
set_option linter.unusedVariables false

/-- a row of a filter -/
structure FR where
  p : Int
  src : List Pf
  dst : List Pf
  po : List (Int × Int)
/-- the three rows that a filter's slices point to -/
structure FRAt (w : World) (r : FR) (s1 s2 s3 : Option Addr) (n1 n2 n3 : Nat) : Prop where
  r1 : RdK layPf w s1 r.src
  r2 : RdK layPf w s2 r.dst
  r3 : RdK layPo w s3 r.po
  l1 : r.src.length = n1
  l2 : r.dst.length = n2
  l3 : r.po.length = n3
theorem FRAt.below {w w' : World} {r : FR} {s1 s2 s3 : Option Addr} {n1 n2 n3 : Nat} (h : FRAt w r s1 s2 s3 n1 n2 n3) (hb : Below w.heap.size w w') : FRAt w' r s1 s2 s3 n1 n2 n3 :=
  ⟨h.r1.below hb, h.r2.below hb, h.r3.below hb, h.l1, h.l2, h.l3⟩
/-- whether a row lets in a flow of a protocol, from a number to a number, to a port -/
def letsB (r : FR) (fp : Int) (x y : Nat) (t : Int) : Bool :=
  (decide (r.p = 0) || decide (r.p = fp)) && (r.src.any fun p => inP p x) && (r.dst.any fun p => inP p y) && (r.po.any fun p => inPo p t)
def flC (fp : Int) (x y : Nat) (a b : Int) : Array Value := #[.int .i64 fp, .bool (sixN x), .int .u64 ((hiN x : Nat) : Int), .int .u64 ((loN x : Nat) : Int), .bool (sixN y), .int .u64 ((hiN y : Nat) : Int), .int .u64 ((loN y : Nat) : Int), .int .i64 a, .int .i64 b]
set_option maxRecDepth 100000 in
set_option maxHeartbeats 8000000 in
theorem qlets_any (r : FR) (s1 s2 s3 : Option Addr) (n1 n2 n3 c1 c2 c3 : Nat) (fp : Int) (x y : Nat) (a b : Int) (w : World) (h : FRAt w r s1 s2 s3 n1 n2 n3) (hs1 : n1 ≤ 1000000) (hs2 : n2 ≤ 1000000) (hs3 : n3 ≤ 1000000) (hv1 : ∀ p ∈ r.src, OkPf p) (hv2 : ∀ p ∈ r.dst, OkPf p) (hx : VN x) (hy : VN y) :
    Calls Tryz.prog 52 #[.agg #[.int .i64 r.p, .slice s1 n1 c1, .slice s2 n2 c2, .slice s3 n3 c3], .agg (flC fp x y a b)] w (Ret (.bool (letsB r fp x y b)) w) := by
  have H1 := Lib.hid fun wx (hb : Below w.heap.size w wx) => hasOf_any s1 n1 c1 r.src x wx (h.r1.below hb) h.l1 hs1 hv1 hx
  have H2 := Lib.hid fun wx (hb : Below w.heap.size w wx) => hasOf_any s2 n2 c2 r.dst y wx (h.r2.below hb) h.l2 hs2 hv2 hy
  have H3 := Lib.hid fun bx wx (hb : Below w.heap.size w wx) => containsPoQ_any s3 n3 c3 bx r.po b wx (h.r3.below hb) h.l3 hs3
  have HL : Hid (letsB r fp x y b = ((decide (r.p = 0) || decide (r.p = fp)) && (r.src.any fun p => inP p x) && (r.dst.any fun p => inP p y) && (r.po.any fun p => inPo p b))) := Lib.hid rfl
  rw [HL.out]
  clear h hs1 hs2 hs3 hv1 hv2 hx hy HL
  generalize (r.src.any fun p => inP p x) = R1 at *
  generalize (r.dst.any fun p => inP p y) = R2 at *
  generalize (r.po.any fun p => inPo p b) = R3 at *
  generalize r.p = rp at *
  unfold aN at H1 H2
  unfold flC
  generalize sixN x = x1 at *
  generalize hiN x = x2 at *
  generalize loN x = x3 at *
  generalize sixN y = y1 at *
  generalize hiN y = y2 at *
  generalize loN y = y3 at *
  have HP : Hid (Blk ((w.alloc (.cells #[.int .i64 rp, .slice s1 n1 c1, .slice s2 n2 c2, .slice s3 n3 c3] 75 (0, 0))).alloc (.cells #[.int .i64 fp, .bool x1, .int .u64 (x2 : Int), .int .u64 (x3 : Int), .bool y1, .int .u64 (y2 : Int), .int .u64 (y3 : Int), .int .i64 a, .int .i64 b] 34 (0, 0))) w.heap.size 75 #[.int .i64 rp, .slice s1 n1 c1, .slice s2 n2 c2, .slice s3 n3 c3]) := Lib.hid ((Blk.new w _ _).alloc _)
  have HF : Hid (Blk ((w.alloc (.cells #[.int .i64 rp, .slice s1 n1 c1, .slice s2 n2 c2, .slice s3 n3 c3] 75 (0, 0))).alloc (.cells #[.int .i64 fp, .bool x1, .int .u64 (x2 : Int), .int .u64 (x3 : Int), .bool y1, .int .u64 (y2 : Int), .int .u64 (y3 : Int), .int .i64 a, .int .i64 b] 34 (0, 0))) (w.heap.size + 1) 34 #[.int .i64 fp, .bool x1, .int .u64 (x2 : Int), .int .u64 (x3 : Int), .bool y1, .int .u64 (y2 : Int), .int .u64 (y3 : Int), .int .i64 a, .int .i64 b]) := Lib.hid (by
    have this := Blk.new (w.alloc (.cells #[.int .i64 rp, .slice s1 n1 c1, .slice s2 n2 c2, .slice s3 n3 c3] 75 (0, 0))) 34 #[.int .i64 fp, .bool x1, .int .u64 (x2 : Int), .int .u64 (x3 : Int), .bool y1, .int .u64 (y2 : Int), .int .u64 (y3 : Int), .int .i64 a, .int .i64 b]
    rw [World.size_alloc] at this
    exact this)
  have HB : Hid (Below w.heap.size w ((w.alloc (.cells #[.int .i64 rp, .slice s1 n1 c1, .slice s2 n2 c2, .slice s3 n3 c3] 75 (0, 0))).alloc (.cells #[.int .i64 fp, .bool x1, .int .u64 (x2 : Int), .int .u64 (x3 : Int), .bool y1, .int .u64 (y2 : Int), .int .u64 (y3 : Int), .int .i64 a, .int .i64 b] 34 (0, 0)))) := Lib.hid (below_alloc (below_alloc (Below.refl _ _) _) _)
  obtain ⟨P, hP⟩ : ∃ P : Bool, (decide (rp = 0) || decide (rp = fp)) = P := ⟨_, rfl⟩
  rw [hP]
  go_enter Tryz.func52, Tryz.ntmps52
  go_upto_region 1 with fail
  generalize ((w.alloc (.cells #[.int .i64 rp, .slice s1 n1 c1, .slice s2 n2 c2, .slice s3 n3 c3] 75 (0, 0))).alloc (.cells #[.int .i64 fp, .bool x1, .int .u64 (x2 : Int), .int .u64 (x3 : Int), .bool y1, .int .u64 (y2 : Int), .int .u64 (y3 : Int), .int .i64 a, .int .i64 b] 34 (0, 0))) = w2 at *
  have c0 := HP.out.cell 0
  have c1' := HP.out.cell 1
  have c2' := HP.out.cell 2
  have c3' := HP.out.cell 3
  have d0 := HF.out.cell 0
  have d1 := HF.out.cell 1
  have d2 := HF.out.cell 2
  have d3 := HF.out.cell 3
  simp at c0 c1' c2' c3' d0 d1 d2 d3
  cases P
  · have h0 : ¬ rp = 0 := fun h => by rw [h] at hP; simp at hP
    have h1 : ¬ rp = fp := fun h => by rw [h] at hP; simp at hP
    clear hP
    go_wp2_with fail
    go_ret
    exact ⟨by first | rfl | simp, HB.out⟩
  · by_cases h0 : rp = 0
    · clear hP
      go_wp2_with fail
      refine (H1.out _ HB.out).mono ?_
      rintro e w3 ⟨rfl, hb⟩
      have HB3 := Lib.hid (HB.out.trans (hb.mono HB.out.size))
      have HP3 := Lib.hid (HP.out.below hb HP.out.lt)
      have HF3 := Lib.hid (HF.out.below hb HF.out.lt)
      clear hb H1 HB HP HF c0 c1' c2' c3' d0 d1 d2 d3
      cases R1
      · go_wp2_with fail
        go_ret
        exact ⟨by first | rfl | simp, HB3.out⟩
      · have c2' := HP3.out.cell 2
        have d4 := HF3.out.cell 4
        have d5 := HF3.out.cell 5
        have d6 := HF3.out.cell 6
        simp at c2' d4 d5 d6
        go_wp2_with fail
        refine (H2.out _ HB3.out).mono ?_
        rintro e w4 ⟨rfl, hb⟩
        have HB4 := Lib.hid (HB3.out.trans (hb.mono HB3.out.size))
        have HP4 := Lib.hid (HP3.out.below hb HP3.out.lt)
        have HF4 := Lib.hid (HF3.out.below hb HF3.out.lt)
        clear hb H2 HB3 HP3 HF3 c2' d4 d5 d6
        cases R2
        · go_wp2_with fail
          go_ret
          exact ⟨by first | rfl | simp, HB4.out⟩
        · have c3' := HP4.out.cell 3
          have d8 := HF4.out.cell 8
          simp at c3' d8
          have HC := Lib.hid (H3.out _ _ HB4.out d8 HF4.out.lt)
          go_wp2_with fail
          refine HC.out.mono ?_
          rintro e w5 ⟨rfl, hb⟩
          have HB5 := Lib.hid (HB4.out.trans (hb.mono HB4.out.size))
          clear hb H3 HC HB4 HP4 HF4 c3' d8
          go_wp2_with fail
          go_ret
          exact ⟨by first | rfl | simp, HB5.out⟩
    · have h1 : rp = fp := by simpa [h0] using hP
      clear hP
      go_wp2_with fail
      refine (H1.out _ HB.out).mono ?_
      rintro e w3 ⟨rfl, hb⟩
      have HB3 := Lib.hid (HB.out.trans (hb.mono HB.out.size))
      have HP3 := Lib.hid (HP.out.below hb HP.out.lt)
      have HF3 := Lib.hid (HF.out.below hb HF.out.lt)
      clear hb H1 HB HP HF c0 c1' c2' c3' d0 d1 d2 d3
      cases R1
      · go_wp2_with fail
        go_ret
        exact ⟨by first | rfl | simp, HB3.out⟩
      · have c2' := HP3.out.cell 2
        have d4 := HF3.out.cell 4
        have d5 := HF3.out.cell 5
        have d6 := HF3.out.cell 6
        simp at c2' d4 d5 d6
        go_wp2_with fail
        refine (H2.out _ HB3.out).mono ?_
        rintro e w4 ⟨rfl, hb⟩
        have HB4 := Lib.hid (HB3.out.trans (hb.mono HB3.out.size))
        have HP4 := Lib.hid (HP3.out.below hb HP3.out.lt)
        have HF4 := Lib.hid (HF3.out.below hb HF3.out.lt)
        clear hb H2 HB3 HP3 HF3 c2' d4 d5 d6
        cases R2
        · go_wp2_with fail
          go_ret
          exact ⟨by first | rfl | simp, HB4.out⟩
        · have c3' := HP4.out.cell 3
          have d8 := HF4.out.cell 8
          simp at c3' d8
          have HC := Lib.hid (H3.out _ _ HB4.out d8 HF4.out.lt)
          go_wp2_with fail
          refine HC.out.mono ?_
          rintro e w5 ⟨rfl, hb⟩
          have HB5 := Lib.hid (HB4.out.trans (hb.mono HB4.out.size))
          clear hb H3 HC HB4 HP4 HF4 c3' d8
          go_wp2_with fail
          go_ret
          exact ⟨by first | rfl | simp, HB5.out⟩
end Go.Proofs.YtgppbebdmbeohaaGreat

namespace Go.Proofs.YtgppbebdmbeohaaGreat
open Go.RowKit Go
set_option linter.unusedVariables false

theorem hasL_any (ad : Option Addr) (n c : Nat) (L : List Pf) (x : Nat) (w : World) (h : RdK layRg w ad (spn L)) (hn : (spn L).length = n) (hs : n ≤ 1000000) (hv : ∀ p ∈ L, OkPf p) (hx : VN x) :
    Calls Tryz.prog 99 #[.slice ad n c, .agg (aN x)] w (Ret (.bool (L.any fun p => inP p x)) w) := by
  refine (has_any ad n c (spn L) x w h hn hs (spn_vr hv) hx (spn_can hv)).mono ?_
  rintro e w' ⟨b, rfl, hb, hB⟩
  have : b = (L.any fun p => inP p x) := by
    rw [Bool.eq_iff_iff, hb, inS_spn hv, any_inP]
  rw [this]
  exact ⟨rfl, hB⟩
/-- what a ready row's slices point to -/
structure FWAt (w : World) (r : FR) (s1 s2 s3 : Option Addr) (n1 n2 n3 : Nat) : Prop where
  r1 : RdK layRg w s1 (spn r.src)
  r2 : RdK layRg w s2 (spn r.dst)
  r3 : RdK layPo w s3 r.po
  l1 : (spn r.src).length = n1
  l2 : (spn r.dst).length = n2
  l3 : r.po.length = n3
theorem FWAt.below {w w' : World} {r : FR} {s1 s2 s3 : Option Addr} {n1 n2 n3 : Nat} (h : FWAt w r s1 s2 s3 n1 n2 n3) (hb : Below w.heap.size w w') : FWAt w' r s1 s2 s3 n1 n2 n3 :=
  ⟨h.r1.below hb, h.r2.below hb, h.r3.below hb, h.l1, h.l2, h.l3⟩
set_option maxRecDepth 100000 in
set_option maxHeartbeats 8000000 in
theorem flets1_any (r : FR) (s1 s2 s3 : Option Addr) (n1 n2 n3 c1 c2 c3 bx : Nat) (fp : Int) (x y : Nat) (a b : Int) (w : World) (h : FWAt w r s1 s2 s3 n1 n2 n3) (hs1 : n1 ≤ 1000000) (hs2 : n2 ≤ 1000000) (hs3 : n3 ≤ 1000000) (hv1 : ∀ p ∈ r.src, OkPf p) (hv2 : ∀ p ∈ r.dst, OkPf p) (hx : VN x) (hy : VN y) (hf : Blk w bx 34 (flC fp x y a b)) :
    Calls Tryz.prog 97 #[.agg #[.int .i64 r.p, .slice s1 n1 c1, .slice s2 n2 c2, .slice s3 n3 c3], .pointer (some ⟨bx, 0, none⟩)] w (Ret (.bool (letsB r fp x y b)) w) := by
  have H1 := Lib.hid fun wx (hb : Below w.heap.size w wx) => hasL_any s1 n1 c1 r.src x wx (h.r1.below hb) h.l1 hs1 hv1 hx
  have H2 := Lib.hid fun wx (hb : Below w.heap.size w wx) => hasL_any s2 n2 c2 r.dst y wx (h.r2.below hb) h.l2 hs2 hv2 hy
  have H3 := Lib.hid fun wx (hb : Below w.heap.size w wx) => inPorts_any s3 n3 c3 r.po b wx (h.r3.below hb) h.l3 hs3
  have HL : Hid (letsB r fp x y b = ((decide (r.p = 0) || decide (r.p = fp)) && (r.src.any fun p => inP p x) && (r.dst.any fun p => inP p y) && (r.po.any fun p => inPo p b))) := Lib.hid rfl
  rw [HL.out]
  have HF0 := Lib.hid hf
  clear h hs1 hs2 hs3 hv1 hv2 hx hy HL hf
  generalize (r.src.any fun p => inP p x) = R1 at *
  generalize (r.dst.any fun p => inP p y) = R2 at *
  generalize (r.po.any fun p => inPo p b) = R3 at *
  generalize r.p = rp at *
  unfold aN at H1 H2
  unfold flC at HF0
  generalize sixN x = x1 at *
  generalize hiN x = x2 at *
  generalize loN x = x3 at *
  generalize sixN y = y1 at *
  generalize hiN y = y2 at *
  generalize loN y = y3 at *
  have HP : Hid (Blk (w.alloc (.cells #[.int .i64 rp, .slice s1 n1 c1, .slice s2 n2 c2, .slice s3 n3 c3] 130 (0, 0))) w.heap.size 130 #[.int .i64 rp, .slice s1 n1 c1, .slice s2 n2 c2, .slice s3 n3 c3]) := Lib.hid (Blk.new w _ _)
  have HF : Hid (Blk (w.alloc (.cells #[.int .i64 rp, .slice s1 n1 c1, .slice s2 n2 c2, .slice s3 n3 c3] 130 (0, 0))) bx 34 #[.int .i64 fp, .bool x1, .int .u64 (x2 : Int), .int .u64 (x3 : Int), .bool y1, .int .u64 (y2 : Int), .int .u64 (y3 : Int), .int .i64 a, .int .i64 b]) := Lib.hid (HF0.out.alloc _)
  have HB : Hid (Below w.heap.size w (w.alloc (.cells #[.int .i64 rp, .slice s1 n1 c1, .slice s2 n2 c2, .slice s3 n3 c3] 130 (0, 0)))) := Lib.hid (below_alloc (Below.refl _ _) _)
  clear HF0
  obtain ⟨P, hP⟩ : ∃ P : Bool, (decide (rp = 0) || decide (rp = fp)) = P := ⟨_, rfl⟩
  rw [hP]
  go_enter Tryz.func97, Tryz.ntmps97
  go_upto_region 1 with fail
  generalize (w.alloc (.cells #[.int .i64 rp, .slice s1 n1 c1, .slice s2 n2 c2, .slice s3 n3 c3] 130 (0, 0))) = w2 at *
  have c0 := HP.out.cell 0
  have c3' := HP.out.cell 3
  have d0 := HF.out.cell 0
  have d8 := HF.out.cell 8
  simp at c0 c3' d0 d8
  cases P
  · have h0 : ¬ rp = 0 := fun h => by rw [h] at hP; simp at hP
    have h1 : ¬ rp = fp := fun h => by rw [h] at hP; simp at hP
    clear hP
    go_wp2_with fail
    go_ret
    exact ⟨by first | rfl | simp, HB.out⟩
  · by_cases h0 : rp = 0
    · clear hP
      go_wp2_with fail
      refine (H3.out _ HB.out).mono ?_
      rintro e w3 ⟨rfl, hb⟩
      have HB3 := Lib.hid (HB.out.trans (hb.mono HB.out.size))
      have HP3 := Lib.hid (HP.out.below hb HP.out.lt)
      have HF3 := Lib.hid (HF.out.below hb HF.out.lt)
      clear hb H3 HB HP HF c0 c3' d0 d8
      cases R3
      · go_wp2_with fail
        go_ret
        exact ⟨by first | rfl | simp, HB3.out⟩
      · have c1' := HP3.out.cell 1
        have d1 := HF3.out.cell 1
        have d2 := HF3.out.cell 2
        have d3 := HF3.out.cell 3
        simp at c1' d1 d2 d3
        go_wp2_with fail
        refine (H1.out _ HB3.out).mono ?_
        rintro e w4 ⟨rfl, hb⟩
        have HB4 := Lib.hid (HB3.out.trans (hb.mono HB3.out.size))
        have HP4 := Lib.hid (HP3.out.below hb HP3.out.lt)
        have HF4 := Lib.hid (HF3.out.below hb HF3.out.lt)
        clear hb H1 HB3 HP3 HF3 c1' d1 d2 d3
        cases R1
        · go_wp2_with fail
          go_ret
          exact ⟨by first | rfl | simp, HB4.out⟩
        · have c2' := HP4.out.cell 2
          have d4 := HF4.out.cell 4
          have d5 := HF4.out.cell 5
          have d6 := HF4.out.cell 6
          simp at c2' d4 d5 d6
          go_wp2_with fail
          refine (H2.out _ HB4.out).mono ?_
          rintro e w5 ⟨rfl, hb⟩
          have HB5 := Lib.hid (HB4.out.trans (hb.mono HB4.out.size))
          clear hb H2 HB4 HP4 HF4 c2' d4 d5 d6
          go_wp2_with fail
          go_ret
          exact ⟨by first | rfl | simp, HB5.out⟩
    · have h1 : rp = fp := by simpa [h0] using hP
      clear hP
      go_wp2_with fail
      refine (H3.out _ HB.out).mono ?_
      rintro e w3 ⟨rfl, hb⟩
      have HB3 := Lib.hid (HB.out.trans (hb.mono HB.out.size))
      have HP3 := Lib.hid (HP.out.below hb HP.out.lt)
      have HF3 := Lib.hid (HF.out.below hb HF.out.lt)
      clear hb H3 HB HP HF c0 c3' d0 d8
      cases R3
      · go_wp2_with fail
        go_ret
        exact ⟨by first | rfl | simp, HB3.out⟩
      · have c1' := HP3.out.cell 1
        have d1 := HF3.out.cell 1
        have d2 := HF3.out.cell 2
        have d3 := HF3.out.cell 3
        simp at c1' d1 d2 d3
        go_wp2_with fail
        refine (H1.out _ HB3.out).mono ?_
        rintro e w4 ⟨rfl, hb⟩
        have HB4 := Lib.hid (HB3.out.trans (hb.mono HB3.out.size))
        have HP4 := Lib.hid (HP3.out.below hb HP3.out.lt)
        have HF4 := Lib.hid (HF3.out.below hb HF3.out.lt)
        clear hb H1 HB3 HP3 HF3 c1' d1 d2 d3
        cases R1
        · go_wp2_with fail
          go_ret
          exact ⟨by first | rfl | simp, HB4.out⟩
        · have c2' := HP4.out.cell 2
          have d4 := HF4.out.cell 4
          have d5 := HF4.out.cell 5
          have d6 := HF4.out.cell 6
          simp at c2' d4 d5 d6
          go_wp2_with fail
          refine (H2.out _ HB4.out).mono ?_
          rintro e w5 ⟨rfl, hb⟩
          have HB5 := Lib.hid (HB4.out.trans (hb.mono HB4.out.size))
          clear hb H2 HB4 HP4 HF4 c2' d4 d5 d6
          go_wp2_with fail
          go_ret
          exact ⟨by first | rfl | simp, HB5.out⟩
end Go.Proofs.YtgppbebdmbeohaaGreat

namespace Go.Proofs.YtgppbebdmbeohaaGreat
open Go.RowKit Go
set_option linter.unusedVariables false

/-- whether one of some rows lets a flow in -/
def decB (L : List FR) (fp : Int) (x y : Nat) (t : Int) : Bool := L.any fun r => letsB r fp x y t
/-- the prefixes of a row are right -/
structure FR.Ok (r : FR) : Prop where
  v1 : ∀ p ∈ r.src, OkPf p
  v2 : ∀ p ∈ r.dst, OkPf p
/-- the cells of rows: four each -/
def FwsAt (w : World) (ad : Option Addr) (L : List FR) : Prop := ∀ (k : Nat) (r : FR), L[k]? = some r → ∃ g o s1 s2 s3 n1 n2 n3 c1 c2 c3, ad = some ⟨g, o, none⟩ ∧ g < w.heap.size ∧ w.cell? ⟨g, o + k * 4, none⟩ = some (.int .i64 r.p) ∧ w.cell? ⟨g, o + k * 4 + 1, none⟩ = some (.slice s1 n1 c1) ∧ w.cell? ⟨g, o + k * 4 + 2, none⟩ = some (.slice s2 n2 c2) ∧ w.cell? ⟨g, o + k * 4 + 3, none⟩ = some (.slice s3 n3 c3) ∧ FWAt w r s1 s2 s3 n1 n2 n3 ∧ n1 ≤ 1000000 ∧ n2 ≤ 1000000 ∧ n3 ≤ 1000000
theorem FwsAt.below {w w' : World} {ad : Option Addr} {L : List FR} (h : FwsAt w ad L) (hb : Below w.heap.size w w') : FwsAt w' ad L := fun k r hr => by
  obtain ⟨g, o, s1, s2, s3, n1, n2, n3, c1, c2, c3, e, hg, h0, h1, h2, h3, h4, h5⟩ := h k r hr
  exact ⟨g, o, s1, s2, s3, n1, n2, n3, c1, c2, c3, e, Nat.lt_of_lt_of_le hg hb.size, (hb.cell (p := ⟨g, o + k * 4, none⟩) hg).trans h0, (hb.cell (p := ⟨g, o + k * 4 + 1, none⟩) hg).trans h1, (hb.cell (p := ⟨g, o + k * 4 + 2, none⟩) hg).trans h2, (hb.cell (p := ⟨g, o + k * 4 + 3, none⟩) hg).trans h3, h4.below hb, h5⟩
set_option maxRecDepth 100000 in
set_option maxHeartbeats 4000000 in
theorem indexRow_any (ad : Option Addr) (n c bx : Nat) (L : List FR) (fp : Int) (x y : Nat) (a b : Int) (w : World) (h : FwsAt w ad L) (hn : L.length = n) (hs : n ≤ 1000000) (hv : ∀ r ∈ L, r.Ok) (hx : VN x) (hy : VN y) (hb : Blk w bx 34 (flC fp x y a b)) :
    Calls Tryz.prog 136 #[.slice ad n c, .func (.func 97) #[] #[.pointer (some ⟨bx, 0, none⟩)]] w fun e w' => ∃ k : Int, e = .returned (.int .i64 k) ∧ decide (0 ≤ k) = decB L fp x y b ∧ Below w.heap.size w w' := by
  have H0 := Lib.hid h
  have Hn := Lib.hid hn
  have Hv := Lib.hid hv
  have HX := Lib.hid hb
  have Hx := Lib.hid hx
  have Hy := Lib.hid hy
  clear h hn hv hb hx hy
  go_enter Tryz.func136, Tryz.ntmps136
  go_wp2_with fail
  go_loopw [5, 8] (fun s5 i wr => ∃ k : Nat, k ≤ n ∧ i = .int .i64 (k : Int) ∧ Hid (∀ j r, j < k → L[j]? = some r → letsB r fp x y b = false) ∧ Hid (Below w.heap.size w wr)) (fun _ i _ => n - (intOf i).toNat)
  case atStart => exact ⟨0, Nat.zero_le _, rfl, Lib.hid fun j p hj => absurd hj (Nat.not_lt_zero _), Lib.hid (Below.refl _ _)⟩
  case round =>
    obtain ⟨k, hk, rfl, HN, HB⟩ := hrel
    by_cases hlt : k < n
    · have hS : k < L.length := by rw [Hn.out]; exact hlt
      obtain ⟨r, hr⟩ : ∃ r, L[k]? = some r := ⟨_, List.getElem?_eq_getElem hS⟩
      have hok := Hv.out r (List.mem_of_getElem? hr)
      obtain ⟨g, o, s1, s2, s3, n1, n2, n3, c1, c2, c3, had, hg, k0, k1, k2, k3, hA, m1, m2, m3⟩ := (H0.out.below HB.out) k r hr
      have HC := Lib.hid (flets1_any r s1 s2 s3 n1 n2 n3 c1 c2 c3 bx fp x y a b wr hA m1 m2 m3 hok.v1 hok.v2 Hx.out Hy.out (HX.out.below HB.out HX.out.lt))
      have Hp := Lib.hid hr
      have Hpm := Lib.hid (List.mem_of_getElem? hr)
      obtain ⟨rp, hrp⟩ : ∃ rp : Int, r.p = rp := ⟨_, rfl⟩
      rw [hrp] at k0 HC
      subst had
      clear hr hS hg hA m1 m2 m3 hok hrp
      go_wp2_with fail
      refine HC.out.mono ?_
      rintro e w3 ⟨rfl, hb⟩
      have HB3 := Lib.hid (HB.out.trans (hb.mono HB.out.size))
      clear hb HC k0 k1 k2 k3
      cases hR : letsB r fp x y b
      · have HN2 : Hid (∀ j q, j < k + 1 → L[j]? = some q → letsB q fp x y b = false) := Lib.hid fun j q hj hq => by
          rcases Nat.lt_or_ge j k with h1 | h1
          · exact HN.out j q h1 hq
          · obtain rfl : j = k := by omega
            rw [Hp.out] at hq
            exact (Option.some.inj hq) ▸ hR
        clear hR
        go_wp2_with fail
        exact ⟨⟨k + 1, by omega, by go_num, HN2, HB3⟩, by simp [intOf]; omega⟩
      · have HT : Hid (decB L fp x y b = true) := Lib.hid (List.any_eq_true.2 ⟨_, Hpm.out, hR⟩)
        clear hR
        go_wp2_with fail
        go_ret
        exact ⟨(k : Int), rfl, by rw [HT.out]; exact decide_eq_true (by omega), HB3.out⟩
    · obtain rfl : k = n := by omega
      have HT : Hid (decB L fp x y b = false) := Lib.hid (by
        rw [Bool.eq_false_iff]
        intro h
        obtain ⟨p, hp, hR⟩ := List.any_eq_true.1 h
        obtain ⟨j, hj, rfl⟩ := List.getElem_of_mem hp
        have := HN.out j _ (by rw [← Hn.out]; exact hj) (List.getElem?_eq_getElem hj)
        rw [this] at hR; cases hR)
      go_wp2_with fail
      go_ret
      exact ⟨-1, rfl, by rw [HT.out]; rfl, HB.out⟩
set_option maxRecDepth 100000 in
set_option maxHeartbeats 1000000 in
theorem containsRow_any (ad : Option Addr) (n c bx : Nat) (L : List FR) (fp : Int) (x y : Nat) (a b : Int) (w : World) (h : FwsAt w ad L) (hn : L.length = n) (hs : n ≤ 1000000) (hv : ∀ r ∈ L, r.Ok) (hx : VN x) (hy : VN y) (hb : Blk w bx 34 (flC fp x y a b)) :
    Calls Tryz.prog 96 #[.slice ad n c, .func (.func 97) #[] #[.pointer (some ⟨bx, 0, none⟩)]] w (Ret (.bool (decB L fp x y b)) w) := by
  have HI := Lib.hid (indexRow_any ad n c bx L fp x y a b w h hn hs hv hx hy hb)
  clear h hn hs hv hx hy hb
  generalize decB L fp x y b = R at *
  go_enter Tryz.func96, Tryz.ntmps96
  go_wp2_with fail
  refine HI.out.mono ?_
  rintro e w3 ⟨k, rfl, hk, hb⟩
  have HB := Lib.hid hb
  clear hb HI
  cases R
  · have hk0 : ¬ 0 ≤ k := of_decide_eq_false hk
    have hk1 : ¬ k ≥ 0 := hk0
    go_wp2_with fail
    go_ret
    exact ⟨rfl, HB.out⟩
  · have hk0 : 0 ≤ k := of_decide_eq_true hk
    have hk1 : k ≥ 0 := hk0
    go_wp2_with fail
    go_ret
    exact ⟨rfl, HB.out⟩
set_option maxRecDepth 100000 in
set_option maxHeartbeats 1000000 in
theorem flets_any (ad : Option Addr) (n c : Nat) (L : List FR) (fp : Int) (x y : Nat) (a b : Int) (w : World) (h : FwsAt w ad L) (hn : L.length = n) (hs : n ≤ 1000000) (hv : ∀ r ∈ L, r.Ok) (hx : VN x) (hy : VN y) :
    Calls Tryz.prog 47 #[.slice ad n c, .agg (flC fp x y a b)] w (Ret (.bool (decB L fp x y b)) w) := by
  have hb0 : Below w.heap.size w (w.alloc (.cells (flC fp x y a b) 34 (0, 0))) := below_alloc (Below.refl _ _) _
  have HC := Lib.hid (containsRow_any ad n c w.heap.size L fp x y a b (w.alloc (.cells (flC fp x y a b) 34 (0, 0))) (h.below hb0) hn hs hv hx hy (Blk.new w _ _))
  have HB0 := Lib.hid hb0
  clear h hn hs hv hx hy hb0
  generalize decB L fp x y b = R at *
  unfold flC at HC HB0 ⊢
  generalize sixN x = x1 at *
  generalize hiN x = x2 at *
  generalize loN x = x3 at *
  generalize sixN y = y1 at *
  generalize hiN y = y2 at *
  generalize loN y = y3 at *
  go_enter Tryz.func47, Tryz.ntmps47
  go_wp2_with fail
  refine HC.out.mono ?_
  rintro e w3 ⟨rfl, hb⟩
  have HB3 := Lib.hid (HB0.out.trans (hb.mono HB0.out.size))
  clear hb HC HB0
  go_wp2_with fail
  go_ret
  exact ⟨rfl, HB3.out⟩
end Go.Proofs.YtgppbebdmbeohaaGreat

namespace Go.Proofs.YtgppbebdmbeohaaGreat
open Go.RowKit Go
set_option linter.unusedVariables false

/-- the cells of rows: four each -/
def FlsAt (w : World) (ad : Option Addr) (L : List FR) : Prop := ∀ (k : Nat) (r : FR), L[k]? = some r → ∃ g o s1 s2 s3 n1 n2 n3 c1 c2 c3, ad = some ⟨g, o, none⟩ ∧ g < w.heap.size ∧ w.cell? ⟨g, o + k * 4, none⟩ = some (.int .i64 r.p) ∧ w.cell? ⟨g, o + k * 4 + 1, none⟩ = some (.slice s1 n1 c1) ∧ w.cell? ⟨g, o + k * 4 + 2, none⟩ = some (.slice s2 n2 c2) ∧ w.cell? ⟨g, o + k * 4 + 3, none⟩ = some (.slice s3 n3 c3) ∧ FRAt w r s1 s2 s3 n1 n2 n3 ∧ n1 ≤ 1000000 ∧ n2 ≤ 1000000 ∧ n3 ≤ 1000000
theorem FlsAt.below {w w' : World} {ad : Option Addr} {L : List FR} (h : FlsAt w ad L) (hb : Below w.heap.size w w') : FlsAt w' ad L := fun k r hr => by
  obtain ⟨g, o, s1, s2, s3, n1, n2, n3, c1, c2, c3, e, hg, h0, h1, h2, h3, h4, h5⟩ := h k r hr
  exact ⟨g, o, s1, s2, s3, n1, n2, n3, c1, c2, c3, e, Nat.lt_of_lt_of_le hg hb.size, (hb.cell (p := ⟨g, o + k * 4, none⟩) hg).trans h0, (hb.cell (p := ⟨g, o + k * 4 + 1, none⟩) hg).trans h1, (hb.cell (p := ⟨g, o + k * 4 + 2, none⟩) hg).trans h2, (hb.cell (p := ⟨g, o + k * 4 + 3, none⟩) hg).trans h3, h4.below hb, h5⟩
set_option maxRecDepth 100000 in
set_option maxHeartbeats 4000000 in
theorem dec1_any (r : FR) (s1 s2 s3 : Option Addr) (n1 n2 n3 c1 c2 c3 bx : Nat) (fp : Int) (x y : Nat) (a b : Int) (w : World) (h : FRAt w r s1 s2 s3 n1 n2 n3) (hs1 : n1 ≤ 1000000) (hs2 : n2 ≤ 1000000) (hs3 : n3 ≤ 1000000) (hv1 : ∀ p ∈ r.src, OkPf p) (hv2 : ∀ p ∈ r.dst, OkPf p) (hx : VN x) (hy : VN y) (hf : Blk w bx 34 (flC fp x y a b)) :
    Calls Tryz.prog 51 #[.agg #[.int .i64 r.p, .slice s1 n1 c1, .slice s2 n2 c2, .slice s3 n3 c3], .pointer (some ⟨bx, 0, none⟩)] w (Ret (.bool (letsB r fp x y b)) w) := by
  have HC := Lib.hid fun wx (hb : Below w.heap.size w wx) => qlets_any r s1 s2 s3 n1 n2 n3 c1 c2 c3 fp x y a b wx (h.below hb) hs1 hs2 hs3 hv1 hv2 hx hy
  have HF0 := Lib.hid hf
  clear h hs1 hs2 hs3 hv1 hv2 hx hy hf
  generalize letsB r fp x y b = R at *
  generalize r.p = rp at *
  unfold flC at HF0 HC
  generalize sixN x = x1 at *
  generalize hiN x = x2 at *
  generalize loN x = x3 at *
  generalize sixN y = y1 at *
  generalize hiN y = y2 at *
  generalize loN y = y3 at *
  have HP : Hid (Blk (w.alloc (.cells #[.int .i64 rp, .slice s1 n1 c1, .slice s2 n2 c2, .slice s3 n3 c3] 75 (0, 0))) w.heap.size 75 #[.int .i64 rp, .slice s1 n1 c1, .slice s2 n2 c2, .slice s3 n3 c3]) := Lib.hid (Blk.new w _ _)
  have HF : Hid (Blk (w.alloc (.cells #[.int .i64 rp, .slice s1 n1 c1, .slice s2 n2 c2, .slice s3 n3 c3] 75 (0, 0))) bx 34 #[.int .i64 fp, .bool x1, .int .u64 (x2 : Int), .int .u64 (x3 : Int), .bool y1, .int .u64 (y2 : Int), .int .u64 (y3 : Int), .int .i64 a, .int .i64 b]) := Lib.hid (HF0.out.alloc _)
  have HB : Hid (Below w.heap.size w (w.alloc (.cells #[.int .i64 rp, .slice s1 n1 c1, .slice s2 n2 c2, .slice s3 n3 c3] 75 (0, 0)))) := Lib.hid (below_alloc (Below.refl _ _) _)
  clear HF0
  go_enter Tryz.func51, Tryz.ntmps51
  go_upto_region 1 with fail
  generalize (w.alloc (.cells #[.int .i64 rp, .slice s1 n1 c1, .slice s2 n2 c2, .slice s3 n3 c3] 75 (0, 0))) = w2 at *
  have c0 := HP.out.cell 0
  have c1' := HP.out.cell 1
  have c2' := HP.out.cell 2
  have c3' := HP.out.cell 3
  have d0 := HF.out.cell 0
  have d1 := HF.out.cell 1
  have d2 := HF.out.cell 2
  have d3 := HF.out.cell 3
  have d4 := HF.out.cell 4
  have d5 := HF.out.cell 5
  have d6 := HF.out.cell 6
  have d7 := HF.out.cell 7
  have d8 := HF.out.cell 8
  simp at c0 c1' c2' c3' d0 d1 d2 d3 d4 d5 d6 d7 d8
  go_wp2_with fail
  refine (HC.out _ HB.out).mono ?_
  rintro e w3 ⟨rfl, hb⟩
  have HB3 := Lib.hid (HB.out.trans (hb.mono HB.out.size))
  clear hb HC HB HP HF c0 c1' c2' c3' d0 d1 d2 d3 d4 d5 d6 d7 d8
  go_wp2_with fail
  go_ret
  exact ⟨rfl, HB3.out⟩
set_option maxRecDepth 100000 in
set_option maxHeartbeats 4000000 in
theorem indexFl_any (ad : Option Addr) (n c bx : Nat) (L : List FR) (fp : Int) (x y : Nat) (a b : Int) (w : World) (h : FlsAt w ad L) (hn : L.length = n) (hs : n ≤ 1000000) (hv : ∀ r ∈ L, r.Ok) (hx : VN x) (hy : VN y) (hb : Blk w bx 34 (flC fp x y a b)) :
    Calls Tryz.prog 101 #[.slice ad n c, .func (.func 51) #[] #[.pointer (some ⟨bx, 0, none⟩)]] w fun e w' => ∃ k : Int, e = .returned (.int .i64 k) ∧ decide (0 ≤ k) = decB L fp x y b ∧ Below w.heap.size w w' := by
  have H0 := Lib.hid h
  have Hn := Lib.hid hn
  have Hv := Lib.hid hv
  have HX := Lib.hid hb
  have Hx := Lib.hid hx
  have Hy := Lib.hid hy
  clear h hn hv hb hx hy
  go_enter Tryz.func101, Tryz.ntmps101
  go_wp2_with fail
  go_loopw [5, 8] (fun s5 i wr => ∃ k : Nat, k ≤ n ∧ i = .int .i64 (k : Int) ∧ Hid (∀ j r, j < k → L[j]? = some r → letsB r fp x y b = false) ∧ Hid (Below w.heap.size w wr)) (fun _ i _ => n - (intOf i).toNat)
  case atStart => exact ⟨0, Nat.zero_le _, rfl, Lib.hid fun j p hj => absurd hj (Nat.not_lt_zero _), Lib.hid (Below.refl _ _)⟩
  case round =>
    obtain ⟨k, hk, rfl, HN, HB⟩ := hrel
    by_cases hlt : k < n
    · have hS : k < L.length := by rw [Hn.out]; exact hlt
      obtain ⟨r, hr⟩ : ∃ r, L[k]? = some r := ⟨_, List.getElem?_eq_getElem hS⟩
      have hok := Hv.out r (List.mem_of_getElem? hr)
      obtain ⟨g, o, s1, s2, s3, n1, n2, n3, c1, c2, c3, had, hg, k0, k1, k2, k3, hA, m1, m2, m3⟩ := (H0.out.below HB.out) k r hr
      have HC := Lib.hid (dec1_any r s1 s2 s3 n1 n2 n3 c1 c2 c3 bx fp x y a b wr hA m1 m2 m3 hok.v1 hok.v2 Hx.out Hy.out (HX.out.below HB.out HX.out.lt))
      have Hp := Lib.hid hr
      have Hpm := Lib.hid (List.mem_of_getElem? hr)
      obtain ⟨rp, hrp⟩ : ∃ rp : Int, r.p = rp := ⟨_, rfl⟩
      rw [hrp] at k0 HC
      subst had
      clear hr hS hg hA m1 m2 m3 hok hrp
      go_wp2_with fail
      refine HC.out.mono ?_
      rintro e w3 ⟨rfl, hb⟩
      have HB3 := Lib.hid (HB.out.trans (hb.mono HB.out.size))
      clear hb HC k0 k1 k2 k3
      cases hR : letsB r fp x y b
      · have HN2 : Hid (∀ j q, j < k + 1 → L[j]? = some q → letsB q fp x y b = false) := Lib.hid fun j q hj hq => by
          rcases Nat.lt_or_ge j k with h1 | h1
          · exact HN.out j q h1 hq
          · obtain rfl : j = k := by omega
            rw [Hp.out] at hq
            exact (Option.some.inj hq) ▸ hR
        clear hR
        go_wp2_with fail
        exact ⟨⟨k + 1, by omega, by go_num, HN2, HB3⟩, by simp [intOf]; omega⟩
      · have HT : Hid (decB L fp x y b = true) := Lib.hid (List.any_eq_true.2 ⟨_, Hpm.out, hR⟩)
        clear hR
        go_wp2_with fail
        go_ret
        exact ⟨(k : Int), rfl, by rw [HT.out]; exact decide_eq_true (by omega), HB3.out⟩
    · obtain rfl : k = n := by omega
      have HT : Hid (decB L fp x y b = false) := Lib.hid (by
        rw [Bool.eq_false_iff]
        intro h
        obtain ⟨p, hp, hR⟩ := List.any_eq_true.1 h
        obtain ⟨j, hj, rfl⟩ := List.getElem_of_mem hp
        have := HN.out j _ (by rw [← Hn.out]; exact hj) (List.getElem?_eq_getElem hj)
        rw [this] at hR; cases hR)
      go_wp2_with fail
      go_ret
      exact ⟨-1, rfl, by rw [HT.out]; rfl, HB.out⟩
set_option maxRecDepth 100000 in
set_option maxHeartbeats 1000000 in
theorem containsFl_any (ad : Option Addr) (n c bx : Nat) (L : List FR) (fp : Int) (x y : Nat) (a b : Int) (w : World) (h : FlsAt w ad L) (hn : L.length = n) (hs : n ≤ 1000000) (hv : ∀ r ∈ L, r.Ok) (hx : VN x) (hy : VN y) (hb : Blk w bx 34 (flC fp x y a b)) :
    Calls Tryz.prog 50 #[.slice ad n c, .func (.func 51) #[] #[.pointer (some ⟨bx, 0, none⟩)]] w (Ret (.bool (decB L fp x y b)) w) := by
  have HI := Lib.hid (indexFl_any ad n c bx L fp x y a b w h hn hs hv hx hy hb)
  clear h hn hs hv hx hy hb
  generalize decB L fp x y b = R at *
  go_enter Tryz.func50, Tryz.ntmps50
  go_wp2_with fail
  refine HI.out.mono ?_
  rintro e w3 ⟨k, rfl, hk, hb⟩
  have HB := Lib.hid hb
  clear hb HI
  cases R
  · have hk0 : ¬ 0 ≤ k := of_decide_eq_false hk
    have hk1 : ¬ k ≥ 0 := hk0
    go_wp2_with fail
    go_ret
    exact ⟨rfl, HB.out⟩
  · have hk0 : 0 ≤ k := of_decide_eq_true hk
    have hk1 : k ≥ 0 := hk0
    go_wp2_with fail
    go_ret
    exact ⟨rfl, HB.out⟩
set_option maxRecDepth 100000 in
set_option maxHeartbeats 1000000 in
theorem decidesOf_any (ad : Option Addr) (n c : Nat) (L : List FR) (fp : Int) (x y : Nat) (a b : Int) (w : World) (h : FlsAt w ad L) (hn : L.length = n) (hs : n ≤ 1000000) (hv : ∀ r ∈ L, r.Ok) (hx : VN x) (hy : VN y) :
    Calls Tryz.prog 12 #[.slice ad n c, .agg (flC fp x y a b)] w (Ret (.bool (decB L fp x y b)) w) := by
  have hb0 : Below w.heap.size w (w.alloc (.cells (flC fp x y a b) 34 (0, 0))) := below_alloc (Below.refl _ _) _
  have HC := Lib.hid (containsFl_any ad n c w.heap.size L fp x y a b (w.alloc (.cells (flC fp x y a b) 34 (0, 0))) (h.below hb0) hn hs hv hx hy (Blk.new w _ _))
  have HB0 := Lib.hid hb0
  clear h hn hs hv hx hy hb0
  generalize decB L fp x y b = R at *
  unfold flC at HC HB0 ⊢
  generalize sixN x = x1 at *
  generalize hiN x = x2 at *
  generalize loN x = x3 at *
  generalize sixN y = y1 at *
  generalize hiN y = y2 at *
  generalize loN y = y3 at *
  go_enter Tryz.func12, Tryz.ntmps12
  go_wp2_with fail
  refine HC.out.mono ?_
  rintro e w3 ⟨rfl, hb⟩
  have HB3 := Lib.hid (HB0.out.trans (hb.mono HB0.out.size))
  clear hb HC HB0
  go_wp2_with fail
  go_ret
  exact ⟨rfl, HB3.out⟩
end Go.Proofs.YtgppbebdmbeohaaGreat

namespace Go.Proofs.YtgppbebdmbeohaaGreat
open Go.RowKit Go
set_option linter.unusedVariables false

/-- blocks of other types than those of S stay -/
def KeepT (S : List TypeId) (w w' : World) : Prop := w.heap.size ≤ w'.heap.size ∧ ∀ g, g < w.heap.size → w'.heap[g]? = w.heap[g]? ∨ ∃ cur t p, w.heap[g]? = some (.cells cur t p) ∧ t ∈ S
theorem KeepT.refl (S : List TypeId) (w : World) : KeepT S w w := ⟨Nat.le_refl _, fun _ _ => .inl rfl⟩
theorem KeepT.trans {S : List TypeId} {u v w : World} (h : KeepT S u v) (k : KeepT S v w) : KeepT S u w := by
  refine ⟨Nat.le_trans h.1 k.1, fun g hg => ?_⟩
  rcases h.2 g hg with e | e
  · rcases k.2 g (Nat.lt_of_lt_of_le hg h.1) with e2 | ⟨cur, t, p, e2, ht⟩
    · exact .inl (e2.trans e)
    · exact .inr ⟨cur, t, p, e ▸ e2, ht⟩
  · exact .inr e
theorem KeepT.of_below {S : List TypeId} {w w' : World} (h : Below w.heap.size w w') : KeepT S w w' := ⟨h.size, fun g hg => .inl (h.block g hg)⟩
theorem KeepT.mono {S T : List TypeId} {w w' : World} (h : KeepT S w w') (hs : ∀ t ∈ S, t ∈ T) : KeepT T w w' :=
  ⟨h.1, fun g hg => (h.2 g hg).imp id fun ⟨cur, t, p, e, ht⟩ => ⟨cur, t, p, e, hs t ht⟩⟩
theorem KeepT.of_grown {S : List TypeId} {w w' : World} {b : Nat} {cur : Array Value} {t : TypeId} {p : Nat × Nat} (h : w.grownBy w' (some b)) (hb : w.heap[b]? = some (.cells cur t p)) (ht : t ∈ S) : KeepT S w w' :=
  ⟨h.size, fun g hg => by
    by_cases e : g = b
    · subst e; exact .inr ⟨cur, t, p, hb, ht⟩
    · exact .inl (h.block g hg (fun h => e (Option.some.inj h)))⟩
section
variable {α : Type} {E : Lay α}
theorem KeepT.of_grew {S : List TypeId} {w w' : World} {B : Nat} {v v' : Value} {L : List α} (hO : OwnK E w B v L) (hg : Grew w w' v v') (ht : E.ty ∈ S) : KeepT S w w' := by
  rcases hO.2 with ⟨rfl, _⟩ | ⟨g, cap, cur, rfl, hb, hh, _⟩
  · exact ⟨hg.g.size, fun g hg' => .inl (hg.g.block g hg' (by simp [Value.ownBlock]))⟩
  · refine ⟨hg.g.size, fun j hj => ?_⟩
    by_cases e : j = g
    · subst e; exact .inr ⟨cur, E.ty, (0, 0), hh, ht⟩
    · exact .inl (hg.g.block j hj (by simpa [Value.ownBlock] using e))
/-- a row that can be read, in a block of its elements' type -/
structure RdT (E : Lay α) (w : World) (ad : Option Addr) (L : List α) : Prop where
  rd : RdK E w ad L
  ty : ∀ a, ad = some a → ∃ cur p, w.heap[a.block]? = some (.cells cur E.ty p)
theorem RdT.nil (w : World) : RdT E w none [] := ⟨RdK.nil _ _, fun a h => by cases h⟩
theorem RdT.keep {S : List TypeId} {w w' : World} {ad : Option Addr} {L : List α} (h : RdT E w ad L) (k : KeepT S w w') (hS : E.ty ∉ S) : RdT E w' ad L := by
  have key : ∀ a, ad = some a → w'.heap[a.block]? = w.heap[a.block]? := fun a ha => by
    obtain ⟨cur, p, hb⟩ := h.ty a ha
    have hlt : a.block < w.heap.size := by
      rcases Nat.lt_or_ge a.block w.heap.size with h1 | h1
      · exact h1
      · rw [Array.getElem?_eq_none h1] at hb; cases hb
    rcases k.2 a.block hlt with e | ⟨cur2, t, p2, e, ht⟩
    · exact e
    · rw [hb] at e
      injection e with e
      injection e with _ e _
      exact absurd (e ▸ ht) hS
  refine ⟨fun i x hx => ?_, fun a ha => ?_⟩
  · obtain ⟨g, o, e, hg, hc⟩ := h.rd i x hx
    have hk := key _ e
    exact ⟨g, o, e, Nat.lt_of_lt_of_le hg k.1, fun j v hv => (World.cell?_of_block (w := w) (a := ⟨g, o + (i * E.K + j), none⟩) hk).trans (hc j v hv)⟩
  · obtain ⟨cur, p, hb⟩ := h.ty a ha
    exact ⟨cur, p, (key a ha).trans hb⟩
theorem RdT.below {w w' : World} {ad : Option Addr} {L : List α} (h : RdT E w ad L) (hb : Below w.heap.size w w') : RdT E w' ad L := h.keep (S := []) (KeepT.of_below hb) (by simp)
theorem OwnK.rdT {w : World} {B n c : Nat} {ad : Option Addr} {L : List α} (h : OwnK E w B (.slice ad n c) L) : RdT E w ad L := by
  refine ⟨h.rd, fun a ha => ?_⟩
  subst ha
  rcases h.2 with ⟨e, _⟩ | ⟨g, cap, cur, e, hb, hh, _⟩
  · cases e
  · injection e with e _ _
    injection e with e
    subst e
    exact ⟨cur, (0, 0), hh⟩
/-- an owned row of another type stays -/
theorem OwnK.keepT {S : List TypeId} {w w' : World} {B : Nat} {v : Value} {L : List α} (h : OwnK E w B v L) (k : KeepT S w w') (hS : E.ty ∉ S) : OwnK E w' B v L := by
  refine ⟨h.1, ?_⟩
  rcases h.2 with h2 | ⟨g, cap, cur, hv, hg, hh, r⟩
  · exact .inl h2
  · refine .inr ⟨g, cap, cur, hv, hg, ?_, r⟩
    rcases k.2 g (lt_of_block hh) with e | ⟨cur2, t, p2, e, ht⟩
    · exact e.trans hh
    · rw [hh] at e
      injection e with e
      injection e with _ e _
      exact absurd (e ▸ ht) hS
end
end Go.Proofs.YtgppbebdmbeohaaGreat

namespace Go.Proofs.YtgppbebdmbeohaaGreat
open Go.RowKit Go
set_option linter.unusedVariables false

abbrev Sl := Option Addr × Nat × Nat
/-- the cells of a row -/
abbrev FC := Int × Sl × Sl × Sl
def fcC (x : FC) : List Value := [.int .i64 x.1, .slice x.2.1.1 x.2.1.2.1 x.2.1.2.2, .slice x.2.2.1.1 x.2.2.1.2.1 x.2.2.1.2.2, .slice x.2.2.2.1 x.2.2.2.2.1 x.2.2.2.2.2]
def layFl : Lay FC := ⟨fcC, 4, 75, by decide, fun _ => rfl, fun p v hv => by simp [fcC] at hv; rcases hv with rfl | rfl | rfl | rfl <;> rfl⟩
theorem flE : EI Tryz.prog 26 75 4 80 := EI.mk' (z := .agg #[.int .i64 0, .slice none 0 0, .slice none 0 0, .slice none 0 0]) Tryz.underlying26 (by kernel_rfl) rfl (by decide)
/-- what a row's slices hold -/
structure FlcT (w : World) (r : FR) (c : FC) : Prop where
  e : c.1 = r.p
  t1 : RdT layPf w c.2.1.1 r.src
  t2 : RdT layPf w c.2.2.1.1 r.dst
  t3 : RdT layPo w c.2.2.2.1 r.po
  l1 : r.src.length = c.2.1.2.1
  l2 : r.dst.length = c.2.2.1.2.1
  l3 : r.po.length = c.2.2.2.2.1
  m1 : c.2.1.2.1 ≤ 100000
  m2 : c.2.2.1.2.1 ≤ 100000
  m3 : c.2.2.2.2.1 ≤ 100000
theorem FlcT.keep {S : List TypeId} {w w' : World} {r : FR} {c : FC} (h : FlcT w r c) (k : KeepT S w w') (h1 : layPf.ty ∉ S) (h2 : layPo.ty ∉ S) : FlcT w' r c :=
  ⟨h.e, h.t1.keep k h1, h.t2.keep k h1, h.t3.keep k h2, h.l1, h.l2, h.l3, h.m1, h.m2, h.m3⟩
/-- an owned row of filters -/
def FlO (w : World) (B : Nat) (v : Value) (L : List FR) : Prop := ∃ C : List FC, OwnK layFl w B v C ∧ C.length = L.length ∧ ∀ (k : Nat) (c : FC) (r : FR), C[k]? = some c → L[k]? = some r → FlcT w r c
theorem FlO.nil (w : World) (B : Nat) : FlO w B (.slice none 0 0) [] := ⟨[], OwnK.nil _ _ _, rfl, fun k c r h => by simp at h⟩
theorem FlO.later {w w' : World} {B : Nat} {v : Value} {L : List FR} (h : FlO w B v L) (hb : Below w.heap.size w w') : FlO w' B v L := by
  obtain ⟨C, hO, hl, hc⟩ := h
  exact ⟨C, hO.later hb, hl, fun k c r h1 h2 => (hc k c r h1 h2).keep (S := []) (KeepT.of_below hb) (by simp) (by simp)⟩
theorem FlO.weak {w : World} {B B' : Nat} {v : Value} {L : List FR} (h : FlO w B v L) (hb : B' ≤ B) : FlO w B' v L := by
  obtain ⟨C, hO, hl, hc⟩ := h
  exact ⟨C, hO.weak hb, hl, hc⟩
theorem FlO.form {w : World} {B : Nat} {v : Value} {L : List FR} (h : FlO w B v L) : ∃ ad c, v = .slice ad L.length c ∧ L.length ≤ c ∧ c ≤ maxLen := by
  obtain ⟨C, hO, hl, hc⟩ := h
  obtain ⟨ad, c, e, _, h1, h2⟩ := hO.form
  rw [hl] at e h1
  exact ⟨ad, c, e, h1, h2⟩
theorem FlO.at {w : World} {B n c : Nat} {ad : Option Addr} {L : List FR} (h : FlO w B (.slice ad n c) L) : FlsAt w ad L := fun k r hr => by
  obtain ⟨C, hO, hl, hc⟩ := h
  have hk : k < C.length := by rw [hl]; exact (List.getElem?_eq_some_iff.1 hr).1
  have hC : C[k]? = some C[k] := List.getElem?_eq_getElem hk
  have ht := hc k _ r hC hr
  generalize C[k] = x at *
  obtain ⟨g, o, e, hg, h0⟩ := hO.rd k x hC
  have hE : layFl.enc x = fcC x := rfl
  have hK : layFl.K = 4 := rfl
  rw [hE, hK] at h0
  obtain ⟨xp, ⟨a1, n1, c1⟩, ⟨a2, n2, c2⟩, ⟨a3, n3, c3⟩⟩ := x
  have hp := ht.e
  simp only at hp
  subst hp
  exact ⟨g, o, a1, a2, a3, n1, n2, n3, c1, c2, c3, e, hg, h0 0 _ rfl, h0 1 _ rfl, h0 2 _ rfl, h0 3 _ rfl, ⟨ht.t1.rd, ht.t2.rd, ht.t3.rd, ht.l1, ht.l2, ht.l3⟩, Nat.le_trans ht.m1 (by decide), Nat.le_trans ht.m2 (by decide), Nat.le_trans ht.m3 (by decide)⟩
/-- one more row, after an append -/
theorem FlO.snoc {w w' : World} {B : Nat} {v v' : Value} {L : List FR} {C : List FC} {r : FR} {c : FC} (hO : OwnK layFl w B v C) (hl : C.length = L.length) (hc : ∀ (k : Nat) (c : FC) (r : FR), C[k]? = some c → L[k]? = some r → FlcT w r c) (hx : FlcT w r c) (hg : Grew w w' v v') (hO2 : OwnK layFl w' B v' (C ++ [c])) : FlO w' B v' (L ++ [r]) := by
  have hk := KeepT.of_grew (S := [75]) hO hg (by simp [layFl])
  refine ⟨C ++ [c], hO2, by simp [hl], fun k c2 r2 h1 h2 => FlcT.keep (S := [75]) (w := w) ?_ hk (by decide) (by decide)⟩
  rcases Nat.lt_or_ge k C.length with h3 | h3
  · rw [List.getElem?_append_left h3] at h1
    rw [List.getElem?_append_left (by rw [← hl]; exact h3)] at h2
    exact hc k c2 r2 h1 h2
  · rw [List.getElem?_append_right h3] at h1
    rw [List.getElem?_append_right (by rw [← hl]; exact h3)] at h2
    have e1 := List.getElem?_eq_some_iff.1 h1
    have e2 := List.getElem?_eq_some_iff.1 h2
    obtain ⟨i1, rfl⟩ := e1
    obtain ⟨i2, rfl⟩ := e2
    simpa using hx
def layFw : Lay FC := ⟨fcC, 4, 130, by decide, fun _ => rfl, fun p v hv => by simp [fcC] at hv; rcases hv with rfl | rfl | rfl | rfl <;> rfl⟩
theorem fwE : EI Tryz.prog 89 130 4 80 := EI.mk' (z := .agg #[.int .i64 0, .slice none 0 0, .slice none 0 0, .slice none 0 0]) Tryz.underlying89 (by kernel_rfl) rfl (by decide)
/-- what a ready row's slices hold -/
structure FwcT (w : World) (r : FR) (c : FC) : Prop where
  e : c.1 = r.p
  t1 : RdT layRg w c.2.1.1 (spn r.src)
  t2 : RdT layRg w c.2.2.1.1 (spn r.dst)
  t3 : RdT layPo w c.2.2.2.1 r.po
  l1 : (spn r.src).length = c.2.1.2.1
  l2 : (spn r.dst).length = c.2.2.1.2.1
  l3 : r.po.length = c.2.2.2.2.1
  m1 : c.2.1.2.1 ≤ 100000
  m2 : c.2.2.1.2.1 ≤ 100000
  m3 : c.2.2.2.2.1 ≤ 100000
theorem FwcT.keep {S : List TypeId} {w w' : World} {r : FR} {c : FC} (h : FwcT w r c) (k : KeepT S w w') (h1 : layRg.ty ∉ S) (h2 : layPo.ty ∉ S) : FwcT w' r c :=
  ⟨h.e, h.t1.keep k h1, h.t2.keep k h1, h.t3.keep k h2, h.l1, h.l2, h.l3, h.m1, h.m2, h.m3⟩
/-- an owned row of ready rows -/
def FwO (w : World) (B : Nat) (v : Value) (L : List FR) : Prop := ∃ C : List FC, OwnK layFw w B v C ∧ C.length = L.length ∧ ∀ (k : Nat) (c : FC) (r : FR), C[k]? = some c → L[k]? = some r → FwcT w r c
theorem FwO.nil (w : World) (B : Nat) : FwO w B (.slice none 0 0) [] := ⟨[], OwnK.nil _ _ _, rfl, fun k c r h => by simp at h⟩
theorem FwO.later {w w' : World} {B : Nat} {v : Value} {L : List FR} (h : FwO w B v L) (hb : Below w.heap.size w w') : FwO w' B v L := by
  obtain ⟨C, hO, hl, hc⟩ := h
  exact ⟨C, hO.later hb, hl, fun k c r h1 h2 => (hc k c r h1 h2).keep (S := []) (KeepT.of_below hb) (by simp) (by simp)⟩
theorem FwO.weak {w : World} {B B' : Nat} {v : Value} {L : List FR} (h : FwO w B v L) (hb : B' ≤ B) : FwO w B' v L := by
  obtain ⟨C, hO, hl, hc⟩ := h
  exact ⟨C, hO.weak hb, hl, hc⟩
theorem FwO.form {w : World} {B : Nat} {v : Value} {L : List FR} (h : FwO w B v L) : ∃ ad c, v = .slice ad L.length c ∧ L.length ≤ c ∧ c ≤ maxLen := by
  obtain ⟨C, hO, hl, hc⟩ := h
  obtain ⟨ad, c, e, _, h1, h2⟩ := hO.form
  rw [hl] at e h1
  exact ⟨ad, c, e, h1, h2⟩
theorem FwO.at {w : World} {B n c : Nat} {ad : Option Addr} {L : List FR} (h : FwO w B (.slice ad n c) L) : FwsAt w ad L := fun k r hr => by
  obtain ⟨C, hO, hl, hc⟩ := h
  have hk : k < C.length := by rw [hl]; exact (List.getElem?_eq_some_iff.1 hr).1
  have hC : C[k]? = some C[k] := List.getElem?_eq_getElem hk
  have ht := hc k _ r hC hr
  generalize C[k] = x at *
  obtain ⟨g, o, e, hg, h0⟩ := hO.rd k x hC
  have hE : layFw.enc x = fcC x := rfl
  have hK : layFw.K = 4 := rfl
  rw [hE, hK] at h0
  obtain ⟨xp, ⟨a1, n1, c1⟩, ⟨a2, n2, c2⟩, ⟨a3, n3, c3⟩⟩ := x
  have hp := ht.e
  simp only at hp
  subst hp
  exact ⟨g, o, a1, a2, a3, n1, n2, n3, c1, c2, c3, e, hg, h0 0 _ rfl, h0 1 _ rfl, h0 2 _ rfl, h0 3 _ rfl, ⟨ht.t1.rd, ht.t2.rd, ht.t3.rd, ht.l1, ht.l2, ht.l3⟩, Nat.le_trans ht.m1 (by decide), Nat.le_trans ht.m2 (by decide), Nat.le_trans ht.m3 (by decide)⟩
/-- one more row, after an append -/
theorem FwO.snoc {w w' : World} {B : Nat} {v v' : Value} {L : List FR} {C : List FC} {r : FR} {c : FC} (hO : OwnK layFw w B v C) (hl : C.length = L.length) (hc : ∀ (k : Nat) (c : FC) (r : FR), C[k]? = some c → L[k]? = some r → FwcT w r c) (hx : FwcT w r c) (hg : Grew w w' v v') (hO2 : OwnK layFw w' B v' (C ++ [c])) : FwO w' B v' (L ++ [r]) := by
  have hk := KeepT.of_grew (S := [130]) hO hg (by simp [layFw])
  refine ⟨C ++ [c], hO2, by simp [hl], fun k c2 r2 h1 h2 => FwcT.keep (S := [130]) (w := w) ?_ hk (by decide) (by decide)⟩
  rcases Nat.lt_or_ge k C.length with h3 | h3
  · rw [List.getElem?_append_left h3] at h1
    rw [List.getElem?_append_left (by rw [← hl]; exact h3)] at h2
    exact hc k c2 r2 h1 h2
  · rw [List.getElem?_append_right h3] at h1
    rw [List.getElem?_append_right (by rw [← hl]; exact h3)] at h2
    have e1 := List.getElem?_eq_some_iff.1 h1
    have e2 := List.getElem?_eq_some_iff.1 h2
    obtain ⟨i1, rfl⟩ := e1
    obtain ⟨i2, rfl⟩ := e2
    simpa using hx
end Go.Proofs.YtgppbebdmbeohaaGreat

namespace Go.Proofs.YtgppbebdmbeohaaGreat
open Go.RowKit Go
set_option linter.unusedVariables false

theorem KeepT.of_gen {b m m' : Nat} {w w' : World} (h : Strm w b m) (hg : Gen b w w' m') : KeepT [25] w w' := by
  obtain ⟨ad, n, c, k, zs, hb, _⟩ := h.ex
  exact KeepT.of_grown hg.g hb (by simp)
theorem KeepT.of_set {S : List TypeId} {w : World} {B i : Nat} {v : Value} {t : TypeId} {cs : Array Value} (h : Blk w B t cs) (ht : t ∈ S) : KeepT S w (w.setCell ⟨B, i, none⟩ v) :=
  ⟨by simp, fun g hg => by
    by_cases e : g = B
    · subst e; exact .inr ⟨cs, t, (0, 0), h, ht⟩
    · exact .inl (Below.heap_setCell _ _ _ _ e)⟩
theorem KeepT.alloc {S : List TypeId} {u w : World} (h : KeepT S u w) (o : Obj) : KeepT S u (w.alloc o) := h.trans (KeepT.of_below (below_alloc (Below.refl _ _) _))
theorem RdInts.grown {w w' : World} {b g o n : Nat} {zs : List Int} (h : RdInts w g o n zs) (hg : w.grownBy w' (some b)) (hne : g ≠ b) : RdInts w' g o n zs :=
  ⟨h.1, Nat.lt_of_lt_of_le h.2.1 hg.size, fun i hi => (World.cell?_of_block (w := w) (hg.block g h.2.1 (fun e => hne (Option.some.inj e)))).trans (h.2.2 i hi)⟩
end Go.Proofs.YtgppbebdmbeohaaGreat

namespace Go.Proofs.YtgppbebdmbeohaaGreat
open Go.RowKit Go
set_option linter.unusedVariables false

def PfxOk (b : Nat) (w : World) (m : Nat) (e : Ending) (w' : World) : Prop :=
  ∃ p : Pf, e = .returned (.agg (pfC p).toArray) ∧ OkPf p ∧ Gen b w w' m
set_option maxRecDepth 100000 in
set_option maxHeartbeats 600000 in
theorem rightPrefix_ok (b m : Nat) (w : World) (h : Strm w b m) (hm : m + 10 < 1099511627776) :
    Calls Tryz.prog 122 #[.pointer (some ⟨b, 0, none⟩)] w (PfxOk b w (m + 5)) := by
  have hblt := h.lt
  have HG0 : Hid (Gen b w (w.alloc (.cells #[.bool false, .int .u64 0, .int .u64 0, .int .i64 0] 114 (0, 0))) m) := Lib.hid ((Gen.start h).alloc _)
  have HR0 : Hid (Blk (w.alloc (.cells #[.bool false, .int .u64 0, .int .u64 0, .int .i64 0] 114 (0, 0))) w.heap.size 114 #[.bool false, .int .u64 0, .int .u64 0, .int .i64 0]) := Lib.hid (Blk.new w _ _)
  clear h
  go_enter Tryz.func122, Tryz.ntmps122
  go_wp2_with fail
  refine (mAddr_gen b m _ HG0.out.s (by omega)).mono ?_
  rintro e w1 ⟨six, hi0, lo0, rfl, ⟨hu1, hu2, hu3⟩, hg⟩
  obtain ⟨hi, rfl, h1⟩ := nat_of_U64 hu1
  obtain ⟨lo, rfl, h2⟩ := nat_of_U64 hu2
  have HU := Lib.hid (And.intro h1 h2)
  have HA : Hid (AOK six hi lo) := Lib.hid ⟨h1, h2, fun e => by have := hu3 e; omega⟩
  have HG1 := Lib.hid ((HG0.out.trans hg).alloc (.cells #[.bool six, .int .u64 (hi : Int), .int .u64 (lo : Int)] 32 (0, 0)))
  have HR1 := Lib.hid ((HR0.out.keep hg.g (by omega)).alloc (.cells #[.bool six, .int .u64 (hi : Int), .int .u64 (lo : Int)] 32 (0, 0)))
  have HA1 : Hid (Blk (w1.alloc (.cells #[.bool six, .int .u64 (hi : Int), .int .u64 (lo : Int)] 32 (0, 0))) w1.heap.size 32 #[.bool six, .int .u64 (hi : Int), .int .u64 (lo : Int)]) := Lib.hid (Blk.new w1 _ _)
  have hw1 : w.heap.size < w1.heap.size := HR0.out.keep hg.g (by omega) |> Blk.lt
  clear hu1 hu2 hu3 h1 h2 hg HG0 HR0
  unfold vAddr
  go_upto_region 2 with fail
  generalize w1.alloc (.cells #[.bool six, .int .u64 (hi : Int), .int .u64 (lo : Int)] 32 (0, 0)) = w2 at *
  generalize w1.heap.size = F at *
  have key : ∀ (n : Nat) (wx : World), n ≤ 128 → Calls Tryz.prog 118 #[.agg #[.bool six, .int .u64 (hi : Int), .int .u64 (lo : Int)], .int .i64 (n : Int)] wx (Ret (vP six (mHi six hi n) (mLo six lo n) (n : Int)) wx) := fun n wx hn => maskOf_any six hi lo n wx HU.out.1 HU.out.2 hn
  have HK := Lib.hid key
  clear key
  go_wp2_with fail
  refine (pick_new b (m + 3) _ _ _ _ [0, 8, 24, 27, 28, 29, 30, 31, 32] _ HG1.out.s rfl (by omega) rfl (by decide) rfl).mono ?_
  rintro e w3 ⟨x, rfl, hx, hg⟩
  have hxb : 0 ≤ x ∧ x ≤ 32 := by simp at hx; omega
  obtain ⟨n, rfl⟩ := Int.eq_ofNat_of_zero_le hxb.1
  have hn : n ≤ 128 := by omega
  have hn32 : n ≤ 32 := by omega
  have HG3 := Lib.hid (HG1.out.trans hg)
  have HR3 := Lib.hid (HR1.out.keep hg.g (by omega))
  have HA3 := Lib.hid (HA1.out.keep hg.g (by omega))
  clear hx hxb hg HG1 HR1 HA1
  have a0 := HA3.out.cell 0
  have a1 := HA3.out.cell 1
  have a2 := HA3.out.cell 2
  simp at a0 a1 a2
  cases six
  · go_wp2_with fail
    refine (HK.out n _ hn).mono ?_
    rintro e w5 ⟨rfl, hb⟩
    have HG5 := Lib.hid (HG3.out.below0 hb HG3.out.s.lt)
    have HR5 := Lib.hid (HR3.out.below hb HR3.out.lt)
    have HO : Hid (POK false (mHi false hi n) (mLo false lo n) n) := Lib.hid (mask_pok HA.out hn32)
    have h1 : U64N (mHi false hi n) := mHi_lt HU.out.1
    have h2 : U64N (mLo false lo n) := mLo_lt HU.out.2
    generalize mHi false hi n = mh at *
    generalize mLo false lo n = ml at *
    have HU2 := Lib.hid (And.intro h1 h2)
    clear h1 h2 hb a0 a1 a2 HG3 HR3 HA3
    have r0 := HR5.out.cell 0
    have r1 := HR5.out.cell 1
    have r2 := HR5.out.cell 2
    have r3 := HR5.out.cell 3
    have rf := HR5.out.free
    simp at r0 r1 r2 r3
    unfold vP
    go_wp2_with fail
    refine bodyPost_ret (v := .agg #[.bool false, .int .u64 (mh : Int), .int .u64 (ml : Int), .int .i64 (n : Int)]) (by simp [results, Tryz.results122, go_sem, r0, r1, r2, r3]) rfl ⟨(false, mh, ml, (n : Int)), rfl, ⟨rfl, HO.out⟩, ?_⟩
    repeat refine Gen.setCell ?_ _ _ (Nat.le_refl _) hblt
    exact HG5.out.mono (by omega)
  · go_wp2_with fail
    refine (pick_new b (m + 3 + 1) _ _ _ _ [0, 8, 32, 48, 63, 64, 65, 96, 127, 128] _ HG3.out.s rfl (by omega) rfl (by decide) rfl).mono ?_
    rintro e w4 ⟨x, rfl, hx, hg⟩
    have hxb : 0 ≤ x ∧ x ≤ 128 := by simp at hx; omega
    obtain ⟨n2, rfl⟩ := Int.eq_ofNat_of_zero_le hxb.1
    have hn2 : n2 ≤ 128 := by omega
    have HG4 := Lib.hid (HG3.out.trans hg)
    have HR4 := Lib.hid (HR3.out.keep hg.g (by omega))
    have HA4 := Lib.hid (HA3.out.keep hg.g (by omega))
    clear hx hxb hg HG3 HR3 HA3 a0 a1 a2
    have a0 := HA4.out.cell 0
    have a1 := HA4.out.cell 1
    have a2 := HA4.out.cell 2
    simp at a0 a1 a2
    go_wp2_with fail
    refine (HK.out n2 _ hn2).mono ?_
    rintro e w5 ⟨rfl, hb⟩
    have HG5 := Lib.hid (HG4.out.below0 hb HG4.out.s.lt)
    have HR5 := Lib.hid (HR4.out.below hb HR4.out.lt)
    have HO : Hid (POK true (mHi true hi n2) (mLo true lo n2) n2) := Lib.hid (mask_pok HA.out hn2)
    have h1 : U64N (mHi true hi n2) := mHi_lt HU.out.1
    have h2 : U64N (mLo true lo n2) := mLo_lt HU.out.2
    generalize mHi true hi n2 = mh at *
    generalize mLo true lo n2 = ml at *
    have HU2 := Lib.hid (And.intro h1 h2)
    clear h1 h2 hb a0 a1 a2 HG4 HR4 HA4
    have r0 := HR5.out.cell 0
    have r1 := HR5.out.cell 1
    have r2 := HR5.out.cell 2
    have r3 := HR5.out.cell 3
    have rf := HR5.out.free
    simp at r0 r1 r2 r3
    unfold vP
    go_wp2_with fail
    refine bodyPost_ret (v := .agg #[.bool true, .int .u64 (mh : Int), .int .u64 (ml : Int), .int .i64 (n2 : Int)]) (by simp [results, Tryz.results122, go_sem, r0, r1, r2, r3]) rfl ⟨(true, mh, ml, (n2 : Int)), rfl, ⟨rfl, HO.out⟩, ?_⟩
    repeat refine Gen.setCell ?_ _ _ (Nat.le_refl _) hblt
    exact HG5.out.mono (by omega)
end Go.Proofs.YtgppbebdmbeohaaGreat
