/-
  The generator of rows (lanemake's Rows).
  The mark of the address laws: addressed is true. And the small functions errs, when.
  The last of the law's marks: filtered is true.
  Generators of flows and times: contracts of Flow, Times.
  The law RowsDecide: walked.
-/
import Derived.Test.YtgppbebdmbeohaaGreatRD22
import Derived.Test.YtgppbebdmbeohaaGreatRD3
import Derived.Test.YtgppbebdmbeohaaGreatRD5
import Derived.Test.YtgppbebdmbeohaaGreatRD17
import Derived.Test.YtgppbebdmbeohaaGreatRD1
import Derived.Test.YtgppbebdmbeohaaGreatRD20
set_option linter.unusedVariables false
namespace Go.Proofs.YtgppbebdmbeohaaGreat
open Go.RowKit Go
set_option linter.unusedVariables false

/-- one cell of one row is set -/
theorem FlO.setTo {w : World} {B g c n k j : Nat} {L : List FR} {C : List FC} {r : FR} {x y : FC} {v : Value} (hO : OwnK layFl w B (.slice (some ⟨g, 0, none⟩) n c) C) (hl : C.length = L.length) (hc : ∀ (k : Nat) (c : FC) (r : FR), C[k]? = some c → L[k]? = some r → FlcT w r c)
    (hx : C[k]? = some x) (hj : j < 4) (hy : fcC y = (fcC x).set j v) (hr : FlcT w r y) : FlO (w.setCell ⟨g, k * 4 + j, none⟩ v) B (.slice (some ⟨g, 0, none⟩) n c) (L.set k r) := by
  obtain ⟨_, _, _, _, cur, hb, _⟩ := hO.block
  have hkt : KeepT [75] w (w.setCell ⟨g, k * 4 + j, none⟩ v) := KeepT.of_set (cs := cur) hb (by simp [layFl])
  refine ⟨C.set k y, hO.setTo hx hj hy, by simp [hl], fun i c2 r2 h1 h2 => FlcT.keep (w := w) ?_ hkt (by decide) (by decide)⟩
  by_cases e : i = k
  · subst e
    rw [List.getElem?_set_self (List.getElem?_eq_some_iff.1 hx).1] at h1
    rw [List.getElem?_set_self (by rw [← hl]; exact (List.getElem?_eq_some_iff.1 hx).1)] at h2
    injection h1 with h1
    injection h2 with h2
    subst h1 h2
    exact hr
  · rw [List.getElem?_set_ne (Ne.symm e)] at h1
    rw [List.getElem?_set_ne (Ne.symm e)] at h2
    exact hc i c2 r2 h1 h2
theorem un_set {L : List FR} {k : Nat} {r : FR} (h : ∀ r ∈ L, r.Sm) (hr : r.Un) : ∀ q ∈ L.set k r, q.Un := fun q hq => by
  rcases List.mem_or_eq_of_mem_set hq with hq | rfl
  · exact (h q hq).un
  · exact hr
theorem Blk.newAt (w : World) (t : TypeId) (cs : Array Value) {g : Nat} (h : w.heap.size = g) : Blk (w.alloc (.cells cs t (0, 0))) g t cs := h ▸ Blk.new w t cs
theorem Blk.rdT {α : Type} (E : Lay α) {w : World} {A : Nat} {cs : Array Value} (L : List α) (hb : Blk w A E.ty cs) (h : cs = (E.all L).toArray) : RdT E w (some ⟨A, 0, none⟩) L := by
  subst h
  refine ⟨fun i x hx => ⟨A, 0, rfl, hb.lt, fun j v hv => ?_⟩, fun a ha => ?_⟩
  · have hj : j < E.K := by rw [← E.len x]; exact (List.getElem?_eq_some_iff.1 hv).1
    rw [hb.cell (0 + (i * E.K + j)), Nat.zero_add, List.getElem?_toArray, E.all_get L i j x hx hj, hv]
  · injection ha with ha
    subst ha
    exact ⟨_, _, hb⟩
set_option maxRecDepth 100000 in
set_option maxHeartbeats 8000000 in
theorem rows_gen (b m most : Nat) (w : World) (h : Strm w b m) (hmo : most ≤ 100) (hm : m + 20000 < 1099511627776) :
    Calls Tryz.prog 5 #[.pointer (some ⟨b, 0, none⟩), .int .i64 (most : Int)] w fun e w' => ∃ v L, e = .returned v ∧ FlO w' w.heap.size v L ∧ L.length ≤ most ∧ (∀ r ∈ L, r.Un) ∧ Gen b w w' (m + 200 + 40 * most) := by
  have hblt := h.lt
  have HG0 : Hid (Gen b w w m) := Lib.hid (Gen.start h)
  clear h
  go_enter Tryz.func5, Tryz.ntmps5
  go_wp2_with fail
  refine (rightRows_gen b m most _ HG0.out.s hmo (by omega)).mono ?_
  rintro e w1 ⟨v, L, rfl, hO, hl, hs, hg⟩
  have HG1 : Hid (Gen b w w1 (m + 1 + 40 * most)) := Lib.hid (HG0.out.trans hg)
  have HO1 := Lib.hid hO
  have HS1 := Lib.hid hs
  obtain ⟨ad, c, rfl, -⟩ := hO.form
  obtain ⟨ln, hln⟩ : ∃ n, L.length = n := ⟨_, rfl⟩
  have HN := Lib.hid hln
  have hw1 := hg.g.size
  rw [hln] at HO1 hl ⊢
  clear hO hs hg HG0 hln
  go_wp2_with fail
  · refine (flip_gen b (m + 1 + 40 * most) _ _ HG1.out.s (by omega) (by omega)).mono ?_
    rintro e w2 ⟨fl, rfl, hg⟩
    have hl0 : 1 ≤ ln := by omega
    have HG2 : Hid (Gen b w w2 (m + 1 + 40 * most + 1)) := Lib.hid (HG1.out.trans hg)
    have HO2 := Lib.hid (HO1.out.gen HG1.out.s hg hblt)
    clear hg HG1 HO1
    cases fl
    · go_wp2_with fail
      go_ret
      exact ⟨_, L, rfl, by first | exact HO2.out | (rw [HN.out]; exact HO2.out), by rw [HN.out]; exact hl, fun r hr => (HS1.out r hr).un, HG2.out.mono (by omega)⟩
    · go_wp2_with fail
      refine (next_gen b (m + 1 + 40 * most + 1) _ _ HG2.out.s (by omega) (by omega)).mono ?_
      rintro e w3 ⟨q, rfl, ⟨hq0, hq1⟩, hg⟩
      obtain ⟨q, rfl⟩ := Int.eq_ofNat_of_zero_le hq0
      have hq : q < ln := by omega
      have HG3 : Hid (Gen b w w3 (m + 1 + 40 * most + 2)) := Lib.hid (HG2.out.trans hg)
      have HO3 := Lib.hid (HO2.out.gen HG2.out.s hg hblt)
      clear hg HG2 HO2 hq0 hq1
      obtain ⟨D, hD, hDl, hDc⟩ := HO3.out
      have hlD : D.length = ln := hDl.trans HN.out
      obtain ⟨g, c', hv, hgw, -⟩ := hD.one (by omega)
      injection hv with hv e1 e2
      subst hv
      clear e1 e2 HO3
      have HD3 := Lib.hid hD
      have HDl := Lib.hid hDl
      have HDc3 := Lib.hid hDc
      have HlD := Lib.hid hlD
      have hqL : q < L.length := by rw [HN.out]; exact hq
      obtain ⟨ro, hro⟩ : ∃ ro, L[q]? = some ro := ⟨_, List.getElem?_eq_getElem hqL⟩
      obtain ⟨⟨y, ⟨b1, p1, d1⟩, ⟨b2, p2, d2⟩, ⟨b3, p3, d3⟩⟩, hco⟩ : ∃ co, D[q]? = some co := ⟨_, List.getElem?_eq_getElem (by omega)⟩
      have Hro := Lib.hid hro
      have Hco := Lib.hid hco
      have HSo := Lib.hid (HS1.out ro (List.mem_of_getElem? hro))
      clear hD hDl hDc hlD hqL hro hco
      go_wp2_with fail
      refine (next_gen b (m + 1 + 40 * most + 2) _ _ HG3.out.s (by omega) (by omega)).mono ?_
      rintro e w4 ⟨z, rfl, ⟨hz0, hz1⟩, hg⟩
      have HG4 : Hid (Gen b w w4 (m + 1 + 40 * most + 3)) := Lib.hid (HG3.out.trans hg)
      have HD4 := Lib.hid (HD3.out.gen hg hblt)
      have HDc4 : Hid (∀ (k : Nat) (c : FC) (r : FR), D[k]? = some c → L[k]? = some r → FlcT w4 r c) := Lib.hid fun k c r h1 h2 => (HDc3.out k c r h1 h2).keep (KeepT.of_gen HG3.out.s hg) (by decide) (by decide)
      clear hg HG3 HD3 HDc3
      have h4 : z = 0 ∨ z = 1 ∨ z = 2 ∨ z = 3 := by omega
      clear hz0 hz1
      rcases h4 with rfl | rfl | rfl | rfl
      · go_wp2_with fail
        refine (odd_gen b (m + 1 + 40 * most + 3) _ _ _ HG4.out.s (by omega) (by omega) (by omega)).mono ?_
        rintro e w5 ⟨x, rfl, -, hg⟩
        have HG5 : Hid (Gen b w w5 (m + 1 + 40 * most + 5)) := Lib.hid (HG4.out.trans hg)
        have HD5 := Lib.hid (HD4.out.gen hg hblt)
        have HDc5 : Hid (∀ (k : Nat) (c : FC) (r : FR), D[k]? = some c → L[k]? = some r → FlcT w5 r c) := Lib.hid fun k c r h1 h2 => (HDc4.out k c r h1 h2).keep (KeepT.of_gen HG4.out.s hg) (by decide) (by decide)
        have HY : Hid (FlcT w5 ⟨x, ro.src, ro.dst, ro.po⟩ (x, (b1, p1, d1), (b2, p2, d2), (b3, p3, d3))) := Lib.hid (by
          have := HDc5.out q _ _ Hco.out Hro.out
          exact ⟨rfl, this.t1, this.t2, this.t3, this.l1, this.l2, this.l3, this.m1, this.m2, this.m3⟩)
        clear hg HG4 HD4 HDc4
        have HF := Lib.hid (FlO.setTo (k := q) (j := 0) (r := ⟨x, ro.src, ro.dst, ro.po⟩) (y := (x, (b1, p1, d1), (b2, p2, d2), (b3, p3, d3))) (v := .int .i64 x) HD5.out HDl.out HDc5.out Hco.out (by decide) rfl HY.out)
        have HU := Lib.hid (un_set (k := q) (r := ⟨x, ro.src, ro.dst, ro.po⟩) HS1.out (let u := HSo.out.un; ⟨u.u1, u.u2, u.l1, u.l2, u.l3⟩))
        have HGz : Hid (Gen b w (w5.setCell ⟨g, q * 4, none⟩ (.int .i64 x)) (m + 200 + 40 * most)) := Lib.hid ((HG5.out.setCell ⟨g, _, none⟩ _ hgw (Nat.lt_of_lt_of_le hblt hgw)).mono (by omega))
        have kf : ∀ i, w5.frozen? ⟨g, i, none⟩ = false := HD5.out.frozen
        have kc : w5.cell? ⟨g, q * 4, none⟩ = some _ := HD5.out.get (j := 0) Hco.out rfl
        clear HD5 HDc5 HG5 HY
        go_wp2_with fail
        go_ret
        exact ⟨_, _, rfl, HF.out, by rw [List.length_set, HN.out]; exact hl, HU.out, HGz.out⟩
      · go_wp2_with fail
        refine (set_gen b (m + 1 + 40 * most + 3) _ HG4.out.s (by omega)).mono ?_
        rintro e w5 ⟨v, S, rfl, hO, hsl, hsu, hg⟩
        have HG5 : Hid (Gen b w w5 (m + 1 + 40 * most + 53)) := Lib.hid (HG4.out.trans hg)
        have HD5 := Lib.hid (HD4.out.gen hg hblt)
        have HDc5 : Hid (∀ (k : Nat) (c : FC) (r : FR), D[k]? = some c → L[k]? = some r → FlcT w5 r c) := Lib.hid fun k c r h1 h2 => (HDc4.out k c r h1 h2).keep (KeepT.of_gen HG4.out.s hg) (by decide) (by decide)
        obtain ⟨a5, c5, rfl, -⟩ := hO.form
        obtain ⟨n5, hn5⟩ : ∃ n, S.length = n := ⟨_, rfl⟩
        have HU5 := Lib.hid (And.intro hsl hsu)
        have HY : Hid (FlcT w5 ⟨ro.p, S, ro.dst, ro.po⟩ (y, (a5, n5, c5), (b2, p2, d2), (b3, p3, d3))) := Lib.hid (by
          have := HDc5.out q _ _ Hco.out Hro.out
          exact ⟨this.e, hO.rdT, this.t2, this.t3, hn5, this.l2, this.l3, by simp; omega, this.m2, this.m3⟩)
        rw [hn5]
        clear hg HG4 HD4 HDc4 hO hsl hsu hn5
        have HF := Lib.hid (FlO.setTo (k := q) (j := 1) (r := ⟨ro.p, S, ro.dst, ro.po⟩) (y := (y, (a5, n5, c5), (b2, p2, d2), (b3, p3, d3))) (v := .slice a5 n5 c5) HD5.out HDl.out HDc5.out Hco.out (by decide) rfl HY.out)
        have HU := Lib.hid (un_set (k := q) (r := ⟨ro.p, S, ro.dst, ro.po⟩) HS1.out (let u := HSo.out.un; ⟨HU5.out.2, u.u2, (by have := HU5.out.1; show S.length ≤ 100000; omega), u.l2, u.l3⟩))
        have HGz : Hid (Gen b w (w5.setCell ⟨g, q * 4 + 1, none⟩ (.slice a5 n5 c5)) (m + 200 + 40 * most)) := Lib.hid ((HG5.out.setCell ⟨g, _, none⟩ _ hgw (Nat.lt_of_lt_of_le hblt hgw)).mono (by omega))
        have kf : ∀ i, w5.frozen? ⟨g, i, none⟩ = false := HD5.out.frozen
        have kc : w5.cell? ⟨g, q * 4 + 1, none⟩ = some _ := HD5.out.get (j := 1) Hco.out rfl
        clear HD5 HDc5 HG5 HY
        go_wp2_with fail
        go_ret
        exact ⟨_, _, rfl, HF.out, by rw [List.length_set, HN.out]; exact hl, HU.out, HGz.out⟩
      · have HY : Hid (FlcT w4 ⟨ro.p, ro.src, [], ro.po⟩ (y, (b1, p1, d1), (none, 0, 0), (b3, p3, d3))) := Lib.hid (by
          have := HDc4.out q _ _ Hco.out Hro.out
          exact ⟨this.e, this.t1, RdT.nil _, this.t3, this.l1, rfl, this.l3, this.m1, by simp, this.m3⟩)
        have HF := Lib.hid (FlO.setTo (k := q) (j := 2) (r := ⟨ro.p, ro.src, [], ro.po⟩) (y := (y, (b1, p1, d1), (none, 0, 0), (b3, p3, d3))) (v := .slice none 0 0) HD4.out HDl.out HDc4.out Hco.out (by decide) rfl HY.out)
        have HU := Lib.hid (un_set (k := q) (r := ⟨ro.p, ro.src, [], ro.po⟩) HS1.out (let u := HSo.out.un; ⟨u.u1, (fun p hp => by cases hp), u.l1, (by simp), u.l3⟩))
        have HGz : Hid (Gen b w (w4.setCell ⟨g, q * 4 + 2, none⟩ (.slice none 0 0)) (m + 200 + 40 * most)) := Lib.hid ((HG4.out.setCell ⟨g, _, none⟩ _ hgw (Nat.lt_of_lt_of_le hblt hgw)).mono (by omega))
        have kf : ∀ i, w4.frozen? ⟨g, i, none⟩ = false := HD4.out.frozen
        have kc : w4.cell? ⟨g, q * 4 + 2, none⟩ = some _ := HD4.out.get (j := 2) Hco.out rfl
        clear HD4 HDc4 HG4 HY
        go_wp2_with fail
        go_ret
        exact ⟨_, _, rfl, HF.out, by rw [List.length_set, HN.out]; exact hl, HU.out, HGz.out⟩
      · obtain ⟨W5, hW5⟩ : ∃ W5, (((((w4.alloc (.cells #[.int .i64 5, .int .i64 9, .int .i64 10, .int .i64 12] 78 (0, 0))).alloc (.cells #[.int .i64 9, .int .i64 5] 78 (0, 0))).alloc (.cells #[.int .i64 5, .int .i64 9, .int .i64 1, .int .i64 2] 78 (0, 0))).alloc (.cells #[.int .i64 0, .int .i64 65536] 78 (0, 0))).alloc (.cells #[.slice none 0 0, .slice (some ⟨w4.heap.size, 0, none⟩) 2 2, .slice (some ⟨w4.heap.size + 1, 0, none⟩) 1 1, .slice (some ⟨w4.heap.size + 1 + 1, 0, none⟩) 2 2, .slice (some ⟨w4.heap.size + 1 + 1 + 1, 0, none⟩) 1 1] 73 (0, 0))) = W5 := ⟨_, rfl⟩
        have HA0 : Hid (Blk W5 (w4.heap.size) 78 #[.int .i64 5, .int .i64 9, .int .i64 10, .int .i64 12]) := Lib.hid (by rw [← hW5]; exact ((((Blk.newAt w4 78 #[.int .i64 5, .int .i64 9, .int .i64 10, .int .i64 12] (by simp)).alloc _).alloc _).alloc _).alloc _)
        have HA1 : Hid (Blk W5 (w4.heap.size + 1) 78 #[.int .i64 9, .int .i64 5]) := Lib.hid (by rw [← hW5]; exact (((Blk.newAt (w4.alloc (.cells #[.int .i64 5, .int .i64 9, .int .i64 10, .int .i64 12] 78 (0, 0))) 78 #[.int .i64 9, .int .i64 5] (by simp [World.size_alloc])).alloc _).alloc _).alloc _)
        have HA2 : Hid (Blk W5 (w4.heap.size + 1 + 1) 78 #[.int .i64 5, .int .i64 9, .int .i64 1, .int .i64 2]) := Lib.hid (by rw [← hW5]; exact ((Blk.newAt ((w4.alloc (.cells #[.int .i64 5, .int .i64 9, .int .i64 10, .int .i64 12] 78 (0, 0))).alloc (.cells #[.int .i64 9, .int .i64 5] 78 (0, 0))) 78 #[.int .i64 5, .int .i64 9, .int .i64 1, .int .i64 2] (by simp [World.size_alloc])).alloc _).alloc _)
        have HA3 : Hid (Blk W5 (w4.heap.size + 1 + 1 + 1) 78 #[.int .i64 0, .int .i64 65536]) := Lib.hid (by rw [← hW5]; exact (Blk.newAt (((w4.alloc (.cells #[.int .i64 5, .int .i64 9, .int .i64 10, .int .i64 12] 78 (0, 0))).alloc (.cells #[.int .i64 9, .int .i64 5] 78 (0, 0))).alloc (.cells #[.int .i64 5, .int .i64 9, .int .i64 1, .int .i64 2] 78 (0, 0))) 78 #[.int .i64 0, .int .i64 65536] (by simp [World.size_alloc])).alloc _)
        have HA4 : Hid (Blk W5 (w4.heap.size + 1 + 1 + 1 + 1) 73 #[.slice none 0 0, .slice (some ⟨w4.heap.size, 0, none⟩) 2 2, .slice (some ⟨w4.heap.size + 1, 0, none⟩) 1 1, .slice (some ⟨w4.heap.size + 1 + 1, 0, none⟩) 2 2, .slice (some ⟨w4.heap.size + 1 + 1 + 1, 0, none⟩) 1 1]) := Lib.hid (by rw [← hW5]; exact Blk.newAt ((((w4.alloc (.cells #[.int .i64 5, .int .i64 9, .int .i64 10, .int .i64 12] 78 (0, 0))).alloc (.cells #[.int .i64 9, .int .i64 5] 78 (0, 0))).alloc (.cells #[.int .i64 5, .int .i64 9, .int .i64 1, .int .i64 2] 78 (0, 0))).alloc (.cells #[.int .i64 0, .int .i64 65536] 78 (0, 0))) 73 #[.slice none 0 0, .slice (some ⟨w4.heap.size, 0, none⟩) 2 2, .slice (some ⟨w4.heap.size + 1, 0, none⟩) 1 1, .slice (some ⟨w4.heap.size + 1 + 1, 0, none⟩) 2 2, .slice (some ⟨w4.heap.size + 1 + 1 + 1, 0, none⟩) 1 1] (by simp [World.size_alloc]))
        have hb5 : Below w4.heap.size w4 W5 := by rw [← hW5]; exact below_alloc (below_alloc (below_alloc (below_alloc (below_alloc (Below.refl _ _) _) _) _) _) _
        have hbw4 := HG4.out.s.lt
        have HG5 : Hid (Gen b w W5 (m + 1 + 40 * most + 3)) := Lib.hid (HG4.out.below0 hb5 hbw4)
        have HD5 := Lib.hid (HD4.out.later hb5)
        have HDc5 : Hid (∀ (k : Nat) (c : FC) (r : FR), D[k]? = some c → L[k]? = some r → FlcT W5 r c) := Lib.hid fun k c r h1 h2 => (HDc4.out k c r h1 h2).keep (S := []) (KeepT.of_below hb5) (by simp) (by simp)
        have HE : Hid (W5 = (((((w4.alloc (.cells #[.int .i64 5, .int .i64 9, .int .i64 10, .int .i64 12] 78 (0, 0))).alloc (.cells #[.int .i64 9, .int .i64 5] 78 (0, 0))).alloc (.cells #[.int .i64 5, .int .i64 9, .int .i64 1, .int .i64 2] 78 (0, 0))).alloc (.cells #[.int .i64 0, .int .i64 65536] 78 (0, 0))).alloc (.cells #[.slice none 0 0, .slice (some ⟨w4.heap.size, 0, none⟩) 2 2, .slice (some ⟨w4.heap.size + 1, 0, none⟩) 1 1, .slice (some ⟨w4.heap.size + 1 + 1, 0, none⟩) 2 2, .slice (some ⟨w4.heap.size + 1 + 1 + 1, 0, none⟩) 1 1] 73 (0, 0)))) := Lib.hid hW5.symm
        clear HG4 HD4 HDc4 hb5
        go_wp2_with fail
        generalize w4.heap.size = s at *
        clear hW5 HE
        refine (next_gen b (m + 1 + 40 * most + 3) _ _ HG5.out.s (by omega) (by omega)).mono ?_
        rintro e w6 ⟨z, rfl, ⟨hz0, hz1⟩, hg⟩
        have HG6 : Hid (Gen b w w6 (m + 1 + 40 * most + 4)) := Lib.hid (HG5.out.trans hg)
        have HD6 := Lib.hid (HD5.out.gen hg hblt)
        have HDc6 : Hid (∀ (k : Nat) (c : FC) (r : FR), D[k]? = some c → L[k]? = some r → FlcT w6 r c) := Lib.hid fun k c r h1 h2 => (HDc5.out k c r h1 h2).keep (KeepT.of_gen HG5.out.s hg) (by decide) (by decide)
        have hA0 := HA0.out.keep hg.g (by omega)
        have hA1 := HA1.out.keep hg.g (by omega)
        have hA2 := HA2.out.keep hg.g (by omega)
        have hA3 := HA3.out.keep hg.g (by omega)
        have hA4 := HA4.out.keep hg.g (by omega)
        have HT0 := Lib.hid (Blk.rdT layPo [(5, 9), (10, 12)] hA0 rfl)
        have HT1 := Lib.hid (Blk.rdT layPo [(9, 5)] hA1 rfl)
        have HT2 := Lib.hid (Blk.rdT layPo [(5, 9), (1, 2)] hA2 rfl)
        have HT3 := Lib.hid (Blk.rdT layPo [(0, 65536)] hA3 rfl)
        have x0 := hA4.cell 0
        have x1 := hA4.cell 1
        have x2 := hA4.cell 2
        have x3 := hA4.cell 3
        have x4 := hA4.cell 4
        simp at x0 x1 x2 x3 x4
        have h5 : z = 0 ∨ z = 1 ∨ z = 2 ∨ z = 3 ∨ z = 4 := by omega
        clear hz0 hz1 hg HG5 HD5 HDc5 hA0 hA1 hA2 hA3 hA4 HA0 HA1 HA2 HA3 HA4
        rcases h5 with rfl | rfl | rfl | rfl | rfl
        · have HY : Hid (FlcT w6 ⟨ro.p, ro.src, ro.dst, []⟩ (y, (b1, p1, d1), (b2, p2, d2), (none, 0, 0))) := Lib.hid (by
            have := HDc6.out q _ _ Hco.out Hro.out
            exact ⟨this.e, this.t1, this.t2, RdT.nil _, this.l1, this.l2, rfl, this.m1, this.m2, by simp⟩)
          clear HT0 HT1 HT2 HT3
          have HF := Lib.hid (FlO.setTo (k := q) (j := 3) (r := ⟨ro.p, ro.src, ro.dst, []⟩) (y := (y, (b1, p1, d1), (b2, p2, d2), (none, 0, 0))) (v := .slice none 0 0) HD6.out HDl.out HDc6.out Hco.out (by decide) rfl HY.out)
          have HU := Lib.hid (un_set (k := q) (r := ⟨ro.p, ro.src, ro.dst, []⟩) HS1.out (let u := HSo.out.un; ⟨u.u1, u.u2, u.l1, u.l2, (by simp)⟩))
          have HGz : Hid (Gen b w (w6.setCell ⟨g, q * 4 + 3, none⟩ (.slice none 0 0)) (m + 200 + 40 * most)) := Lib.hid ((HG6.out.setCell ⟨g, _, none⟩ _ hgw (Nat.lt_of_lt_of_le hblt hgw)).mono (by omega))
          have kf : ∀ i, w6.frozen? ⟨g, i, none⟩ = false := HD6.out.frozen
          have kc : w6.cell? ⟨g, q * 4 + 3, none⟩ = some _ := HD6.out.get (j := 3) Hco.out rfl
          clear HD6 HDc6 HG6 HY
          go_wp2_with fail
          go_ret
          exact ⟨_, _, rfl, HF.out, by rw [List.length_set, HN.out]; exact hl, HU.out, HGz.out⟩
        · have HY : Hid (FlcT w6 ⟨ro.p, ro.src, ro.dst, [(5, 9), (10, 12)]⟩ (y, (b1, p1, d1), (b2, p2, d2), (some ⟨s, 0, none⟩, 2, 2))) := Lib.hid (by
            have := HDc6.out q _ _ Hco.out Hro.out
            exact ⟨this.e, this.t1, this.t2, HT0.out, this.l1, this.l2, rfl, this.m1, this.m2, by simp⟩)
          clear HT0 HT1 HT2 HT3
          have HF := Lib.hid (FlO.setTo (k := q) (j := 3) (r := ⟨ro.p, ro.src, ro.dst, [(5, 9), (10, 12)]⟩) (y := (y, (b1, p1, d1), (b2, p2, d2), (some ⟨s, 0, none⟩, 2, 2))) (v := .slice (some ⟨s, 0, none⟩) 2 2) HD6.out HDl.out HDc6.out Hco.out (by decide) rfl HY.out)
          have HU := Lib.hid (un_set (k := q) (r := ⟨ro.p, ro.src, ro.dst, [(5, 9), (10, 12)]⟩) HS1.out (let u := HSo.out.un; ⟨u.u1, u.u2, u.l1, u.l2, (by simp)⟩))
          have HGz : Hid (Gen b w (w6.setCell ⟨g, q * 4 + 3, none⟩ (.slice (some ⟨s, 0, none⟩) 2 2)) (m + 200 + 40 * most)) := Lib.hid ((HG6.out.setCell ⟨g, _, none⟩ _ hgw (Nat.lt_of_lt_of_le hblt hgw)).mono (by omega))
          have kf : ∀ i, w6.frozen? ⟨g, i, none⟩ = false := HD6.out.frozen
          have kc : w6.cell? ⟨g, q * 4 + 3, none⟩ = some _ := HD6.out.get (j := 3) Hco.out rfl
          clear HD6 HDc6 HG6 HY
          go_wp2_with fail
          go_ret
          exact ⟨_, _, rfl, HF.out, by rw [List.length_set, HN.out]; exact hl, HU.out, HGz.out⟩
        · have HY : Hid (FlcT w6 ⟨ro.p, ro.src, ro.dst, [(9, 5)]⟩ (y, (b1, p1, d1), (b2, p2, d2), (some ⟨s + 1, 0, none⟩, 1, 1))) := Lib.hid (by
            have := HDc6.out q _ _ Hco.out Hro.out
            exact ⟨this.e, this.t1, this.t2, HT1.out, this.l1, this.l2, rfl, this.m1, this.m2, by simp⟩)
          clear HT0 HT1 HT2 HT3
          have HF := Lib.hid (FlO.setTo (k := q) (j := 3) (r := ⟨ro.p, ro.src, ro.dst, [(9, 5)]⟩) (y := (y, (b1, p1, d1), (b2, p2, d2), (some ⟨s + 1, 0, none⟩, 1, 1))) (v := .slice (some ⟨s + 1, 0, none⟩) 1 1) HD6.out HDl.out HDc6.out Hco.out (by decide) rfl HY.out)
          have HU := Lib.hid (un_set (k := q) (r := ⟨ro.p, ro.src, ro.dst, [(9, 5)]⟩) HS1.out (let u := HSo.out.un; ⟨u.u1, u.u2, u.l1, u.l2, (by simp)⟩))
          have HGz : Hid (Gen b w (w6.setCell ⟨g, q * 4 + 3, none⟩ (.slice (some ⟨s + 1, 0, none⟩) 1 1)) (m + 200 + 40 * most)) := Lib.hid ((HG6.out.setCell ⟨g, _, none⟩ _ hgw (Nat.lt_of_lt_of_le hblt hgw)).mono (by omega))
          have kf : ∀ i, w6.frozen? ⟨g, i, none⟩ = false := HD6.out.frozen
          have kc : w6.cell? ⟨g, q * 4 + 3, none⟩ = some _ := HD6.out.get (j := 3) Hco.out rfl
          clear HD6 HDc6 HG6 HY
          go_wp2_with fail
          go_ret
          exact ⟨_, _, rfl, HF.out, by rw [List.length_set, HN.out]; exact hl, HU.out, HGz.out⟩
        · have HY : Hid (FlcT w6 ⟨ro.p, ro.src, ro.dst, [(5, 9), (1, 2)]⟩ (y, (b1, p1, d1), (b2, p2, d2), (some ⟨s + 1 + 1, 0, none⟩, 2, 2))) := Lib.hid (by
            have := HDc6.out q _ _ Hco.out Hro.out
            exact ⟨this.e, this.t1, this.t2, HT2.out, this.l1, this.l2, rfl, this.m1, this.m2, by simp⟩)
          clear HT0 HT1 HT2 HT3
          have HF := Lib.hid (FlO.setTo (k := q) (j := 3) (r := ⟨ro.p, ro.src, ro.dst, [(5, 9), (1, 2)]⟩) (y := (y, (b1, p1, d1), (b2, p2, d2), (some ⟨s + 1 + 1, 0, none⟩, 2, 2))) (v := .slice (some ⟨s + 1 + 1, 0, none⟩) 2 2) HD6.out HDl.out HDc6.out Hco.out (by decide) rfl HY.out)
          have HU := Lib.hid (un_set (k := q) (r := ⟨ro.p, ro.src, ro.dst, [(5, 9), (1, 2)]⟩) HS1.out (let u := HSo.out.un; ⟨u.u1, u.u2, u.l1, u.l2, (by simp)⟩))
          have HGz : Hid (Gen b w (w6.setCell ⟨g, q * 4 + 3, none⟩ (.slice (some ⟨s + 1 + 1, 0, none⟩) 2 2)) (m + 200 + 40 * most)) := Lib.hid ((HG6.out.setCell ⟨g, _, none⟩ _ hgw (Nat.lt_of_lt_of_le hblt hgw)).mono (by omega))
          have kf : ∀ i, w6.frozen? ⟨g, i, none⟩ = false := HD6.out.frozen
          have kc : w6.cell? ⟨g, q * 4 + 3, none⟩ = some _ := HD6.out.get (j := 3) Hco.out rfl
          clear HD6 HDc6 HG6 HY
          go_wp2_with fail
          go_ret
          exact ⟨_, _, rfl, HF.out, by rw [List.length_set, HN.out]; exact hl, HU.out, HGz.out⟩
        · have HY : Hid (FlcT w6 ⟨ro.p, ro.src, ro.dst, [(0, 65536)]⟩ (y, (b1, p1, d1), (b2, p2, d2), (some ⟨s + 1 + 1 + 1, 0, none⟩, 1, 1))) := Lib.hid (by
            have := HDc6.out q _ _ Hco.out Hro.out
            exact ⟨this.e, this.t1, this.t2, HT3.out, this.l1, this.l2, rfl, this.m1, this.m2, by simp⟩)
          clear HT0 HT1 HT2 HT3
          have HF := Lib.hid (FlO.setTo (k := q) (j := 3) (r := ⟨ro.p, ro.src, ro.dst, [(0, 65536)]⟩) (y := (y, (b1, p1, d1), (b2, p2, d2), (some ⟨s + 1 + 1 + 1, 0, none⟩, 1, 1))) (v := .slice (some ⟨s + 1 + 1 + 1, 0, none⟩) 1 1) HD6.out HDl.out HDc6.out Hco.out (by decide) rfl HY.out)
          have HU := Lib.hid (un_set (k := q) (r := ⟨ro.p, ro.src, ro.dst, [(0, 65536)]⟩) HS1.out (let u := HSo.out.un; ⟨u.u1, u.u2, u.l1, u.l2, (by simp)⟩))
          have HGz : Hid (Gen b w (w6.setCell ⟨g, q * 4 + 3, none⟩ (.slice (some ⟨s + 1 + 1 + 1, 0, none⟩) 1 1)) (m + 200 + 40 * most)) := Lib.hid ((HG6.out.setCell ⟨g, _, none⟩ _ hgw (Nat.lt_of_lt_of_le hblt hgw)).mono (by omega))
          have kf : ∀ i, w6.frozen? ⟨g, i, none⟩ = false := HD6.out.frozen
          have kc : w6.cell? ⟨g, q * 4 + 3, none⟩ = some _ := HD6.out.get (j := 3) Hco.out rfl
          clear HD6 HDc6 HG6 HY
          go_wp2_with fail
          go_ret
          exact ⟨_, _, rfl, HF.out, by rw [List.length_set, HN.out]; exact hl, HU.out, HGz.out⟩
  · go_ret
    exact ⟨_, L, rfl, by first | exact HO1.out | (rw [HN.out]; exact HO1.out), by rw [HN.out]; exact hl, fun r hr => (HS1.out r hr).un, HG1.out.mono (by omega)⟩
end Go.Proofs.YtgppbebdmbeohaaGreat

namespace Go.Proofs.YtgppbebdmbeohaaGreat
open Go.RowKit Go
set_option linter.unusedVariables false

/-- an own row of strings -/
def encSs (L : List ByteArray) : List Value := L.map Value.string
def OwnS (w : World) (base : Nat) (v : Value) (L : List ByteArray) : Prop := w.ownsRow base 9 1 v L.length (encSs L)
theorem OwnS.nil (w : World) (base : Nat) : OwnS w base (.slice none 0 0) [] := World.ownsRow_nil w base _ 1
theorem OwnS.later {w w' : World} {base : Nat} {v : Value} {L : List ByteArray} (h : OwnS w base v L) (hb : Below w.heap.size w w') : OwnS w' base v L := own_later h hb
theorem OwnS.snoc {w : World} {B : Nat} {v : Value} {L : List ByteArray} {s : ByteArray} (h : w.ownsRow B 9 1 v (L.length + 1) (encSs L ++ [.string s])) : OwnS w B v (L ++ [s]) := by
  show w.ownsRow _ _ _ _ _ _
  rw [List.length_append, encSs, List.map_append]
  exact h
theorem OwnS.one {w : World} {B : Nat} {v : Value} {L : List ByteArray} (h : OwnS w B v L) (hl : 1 ≤ L.length) :
    ∃ g c, v = .slice (some ⟨g, 0, none⟩) L.length c ∧ B ≤ g ∧ g < w.heap.size ∧ L.length ≤ c ∧ c ≤ maxLen ∧ ∀ (j : Nat) x, L[j]? = some x → w.cell? ⟨g, j, none⟩ = some (.string x) := by
  rcases h.2 with ⟨rfl, h0⟩ | ⟨g, cap, cur, rfl, hb, hg, hc, hm, hs, ht⟩
  · omega
  · refine ⟨g, cap, rfl, hb, lt_of_block hg, hc, hm, fun j x hx => ?_⟩
    have hj : j < L.length := by
      rcases Nat.lt_or_ge j L.length with h | h
      · exact h
      · rw [List.getElem?_eq_none h] at hx; cases hx
    rw [cell_of_row w g _ _ _ _ hg]
    have h2 : (encSs L)[j]? = some (.string x) := by simp [encSs, hx]
    rw [← ht, List.getElem?_take, if_pos (by omega), Array.getElem?_toList] at h2
    exact h2
def firstE : List Int → Int
  | [] => 0
  | x :: l => if x ≠ 0 then x else firstE l
theorem firstE_hit : ∀ {l : List Int} {k : Nat}, k < l.length → (∀ j, j < k → l.getD j 0 = 0) → l.getD k 0 ≠ 0 → firstE l = l.getD k 0
  | [], k, h, _, _ => absurd h (Nat.not_lt_zero _)
  | x :: l, 0, h, _, h2 => by simp at h2 ⊢; simp [firstE, h2]
  | x :: l, k + 1, h, h1, h2 => by
    have h0 : x = 0 := h1 0 (by omega)
    rw [firstE, if_neg (by simp [h0])]
    have := firstE_hit (l := l) (k := k) (by simpa using h) (fun j hj => by have := h1 (j + 1) (by omega); simpa using this) (by simpa using h2)
    rw [this]; simp
theorem firstE_none : ∀ {l : List Int}, (∀ j, j < l.length → l.getD j 0 = 0) → firstE l = 0
  | [], _ => rfl
  | x :: l, h => by
    have h0 : x = 0 := h 0 (by simp)
    rw [firstE, if_neg (by simp [h0])]
    exact firstE_none fun j hj => by have := h (j + 1) (by simpa using hj); simpa using this
set_option maxHeartbeats 1000000 in
theorem errs_any (g n c : Nat) (zs : List Int) (w : World) (hz : RdInts w g 0 n zs) (hn : n ≤ 1000) :
    Calls Tryz.prog 10 #[.slice (some ⟨g, 0, none⟩) n c] w fun e w' => e = .returned (.int .i64 (firstE zs)) ∧ w' = w := by
  obtain ⟨hl, hg, hc⟩ := hz
  have Hc := Lib.hid hc
  have Hl := Lib.hid hl
  clear hc hl
  go_enter Tryz.func10, Tryz.ntmps10
  go_wp2
  go_loop [4, 7] (fun e i => ∃ k : Nat, k ≤ n ∧ i = .int .i64 k ∧ Hid (∀ j, j < k → zs.getD j 0 = 0)) (fun _ i => n - (intOf i).toNat)
  case atStart => exact ⟨0, Nat.zero_le _, rfl, Lib.hid fun j hj => absurd hj (Nat.not_lt_zero _)⟩
  case round =>
    obtain ⟨k, hk, rfl, HX⟩ := hrel
    by_cases hlt : k < n
    · have hcell := Hc.out k hlt
      rw [Nat.zero_add] at hcell
      by_cases h0 : zs.getD k 0 = 0
      · rw [h0] at hcell
        have H0 := Lib.hid h0
        clear h0
        go_wp2
        refine ⟨⟨k + 1, by omega, by go_num, Lib.hid fun j hj => ?_⟩, by simp [intOf]; omega⟩
        rcases Nat.lt_or_ge j k with h | h
        · exact HX.out j h
        · obtain rfl : j = k := by omega
          exact H0.out
      · have H0 : Hid (firstE zs = zs.getD k 0) := Lib.hid (firstE_hit (by rw [Hl.out]; exact hlt) HX.out h0)
        generalize zs.getD k 0 = z at *
        have h1 : (z != 0) = true := by simpa using h0
        go_wp2
        go_ret
        exact ⟨by rw [H0.out]; rfl, rfl⟩
    · obtain rfl : k = n := by omega
      have H0 : Hid (firstE zs = 0) := Lib.hid (firstE_none fun j hj => HX.out j (by rw [← Hl.out]; exact hj))
      go_wp2
      go_ret
      exact ⟨by rw [H0.out]; rfl, rfl⟩
theorem when_any (b : Bool) (x : Int) (w : World) : Calls Tryz.prog 18 #[.bool b, .int .i64 x] w fun e w' => e = .returned (.int .i64 (if b = true then x else 0)) ∧ w = w' := by
  cases b
  all_goals
    go_enter Tryz.func18, Tryz.ntmps18
    go_wp2
    go_ret
    exact ⟨rfl, rfl⟩
end Go.Proofs.YtgppbebdmbeohaaGreat

namespace Go.Proofs.YtgppbebdmbeohaaGreat
open Go.RowKit Go
set_option linter.unusedVariables false

theorem filtered_any (w : World) : Calls Tryz.prog 13 #[] w (Ret (.bool true) w) := by
  have hr : RdB (w.alloc (.cells #[.int .u8 0, .int .u8 1] 5 (0, 0))) (some ⟨w.heap.size, 0, none⟩) [0, 1] := by
    refine ⟨by decide, fun i hi => ⟨w.heap.size, 0, rfl, by simp, ?_⟩⟩
    have hb := Blk.new w 5 #[.int .u8 0, .int .u8 1]
    have hi : i < 2 := hi
    rw [Blk.cell hb]
    match i, hi with
    | 0, _ => rfl
    | 1, _ => rfl
  have hs : foldSum (sumB [0, 1] true) = 1 := by decide
  go_enter Tryz.func13, Tryz.ntmps13
  go_wp2_with fail
  refine (sum_any _ 2 [0, 1] _ hr).mono ?_
  rintro e w1 ⟨rfl, rfl⟩
  rw [hs]
  go_wp2_with fail
  go_ret
  exact ⟨rfl, below_alloc (Below.refl _ _) _⟩
end Go.Proofs.YtgppbebdmbeohaaGreat

namespace Go.Proofs.YtgppbebdmbeohaaGreat
open Go.RowKit
set_option linter.unusedVariables false

set_option maxHeartbeats 1000000 in
set_option maxRecDepth 100000 in
theorem flow_gen (b m : Nat) (w : World) (h : Strm w b m) (hm : m + 20 < 1099511627776) :
    Calls Tryz.prog 8 #[.pointer (some ⟨b, 0, none⟩)] w fun e w' => ∃ f : FV, e = .returned (.agg f.cells) ∧ f.ok ∧ Gen b w w' (m + 19) := by
  have hblt := h.lt
  go_enter Tryz.func8, Tryz.ntmps8
  go_wp2_with fail
  refine (rightFlow_gen b m _ (h.alloc _) (by omega)).mono ?_
  rintro e w1 ⟨f, rfl, HO, hg⟩
  have HO := Lib.hid HO
  have HA1 : Hid (FBlk w1 w.heap.size FV.zero) := (Blk.new w _ _).keep hg.g (by omega)
  have HG1 := Lib.hid (((Gen.start h).alloc _).trans hg)
  clear hg
  unfold FV.cells
  go_wp2_with fail
  have hlt : w.heap.size < w1.heap.size := Blk.lt HA1.out
  refine (flip_gen b (m + 11) _ _ (HG1.out.s.alloc _) (by omega) (by omega)).mono ?_
  rintro e w2 ⟨kk, rfl, hg⟩
  have HF2 : Hid (FBlk w2 w1.heap.size f) := (Blk.new w1 _ _).keep hg.g (by have := HG1.out.s.lt; omega)
  have HA2 : Hid (FBlk w2 w.heap.size FV.zero) := (Blk.alloc HA1.out _).keep hg.g (by omega)
  have HG2 := Lib.hid ((HG1.out.alloc _).trans hg)
  clear hg HA1 HG1
  generalize w1.heap.size = F at *
  go_upto_if 7 with fail
  go_cut [] (fun wx => ∃ f : FV, FBlk wx F f ∧ f.ok ∧ FBlk wx w.heap.size FV.zero ∧ Gen b w wx (m + 19))
  case rest =>
    clear HF2 HA2 HG2 HO
    obtain ⟨f, HF, HO, HA, HG⟩ := hcut
    obtain ⟨c0, c1, c2, c3, c4, c5, c6, c7, c8, f0⟩ := FBlk.cells HF
    obtain ⟨d0, d1, d2, d3, d4, d5, d6, d7, d8, g0⟩ := FBlk.cells HA
    have HG := Lib.hid HG
    have hne : w.heap.size ≠ F := by omega
    clear HF HA hlt
    go_wp2_with fail
    refine bodyPost_ret (v := .agg f.cells) (by simp [results, Tryz.results8, go_sem, d0, d1, d2, d3, d4, d5, d6, d7, d8, FV.cells]) rfl ⟨f, rfl, HO, ?_⟩
    exact Gen.setB HG.out (Nat.le_refl _) hblt _ _ _ _ _ _ _ _ _ _ _ _ _ _ _ _ _ _
  case first =>
    go_wp2_with fail
    rotate_right
    · go_meet
      case rel => exact ⟨f, HF2.out, HO.out, HA2.out, HG2.out.mono (by omega)⟩
    · refine (next_gen b (m + 12) _ _ HG2.out.s (by omega) (by omega)).mono ?_
      rintro e w3 ⟨k3, rfl, ⟨hk0, hk1⟩, hg⟩
      have HF3 := Lib.hid (HF2.out.keep hg.g (by have := HG2.out.s.lt; omega))
      have HA3 := Lib.hid (HA2.out.keep hg.g (by omega))
      have HG3 := Lib.hid (HG2.out.trans hg)
      clear hg HF2 HA2 HG2
      go_wp2_with fail
      all_goals first
        | (refine (odd_gen b (m + 12 + 1) _ _ _ HG3.out.s (by omega) (by omega) (by omega)).mono ?_
           rintro e w4 ⟨k4, rfl, ⟨hk40, hk41⟩, hg⟩
           have HF4 := HF3.out.keep hg.g (by omega)
           obtain ⟨c0, -, -, -, -, -, -, c7, c8, f0⟩ := FBlk.cells (f := f) HF4
           have HF4 := Lib.hid HF4
           have HA4 := Lib.hid (HA3.out.keep hg.g (by omega))
           have HG4 := Lib.hid (HG3.out.trans hg)
           clear hg HF3 HA3 HG3
           go_wp2_with fail
           go_meet
           case rel =>
             refine ⟨_, by first | exact FBlk.setP (f := f) HF4.out k4 | exact FBlk.setFp (f := f) HF4.out k4 | exact FBlk.setTp (f := f) HF4.out k4, ?_, Blk.far HA4.out (by omega) _ _, Gen.setCell (HG4.out.mono (by omega)) ⟨F, _, none⟩ _ (Nat.le_of_lt hlt) (by simp only; omega)⟩
             have := HO.out
             simp only [FV.ok, I41, U64] at this ⊢
             omega)
        | (refine (raw_gen b (m + 12 + 1) _ HG3.out.s (by omega)).mono ?_
           rintro e w4 ⟨six, hi, lo, rfl, ⟨hu1, hu2⟩, hg⟩
           have HF4 := HF3.out.keep hg.g (by omega)
           obtain ⟨-, c1, c2, c3, -, -, -, -, -, f0⟩ := FBlk.cells (f := f) HF4
           have HF4 := Lib.hid HF4
           have HA4 := Lib.hid (HA3.out.keep hg.g (by omega))
           have HG4 := Lib.hid (HG3.out.trans hg)
           clear hg HF3 HA3 HG3
           unfold vAddr
           go_wp2_with fail
           go_meet
           case rel =>
             refine ⟨_, FBlk.setFrom (f := f) HF4.out six hi lo, ?_, Blk.far (Blk.far (Blk.far HA4.out (by omega) 1 _) (by omega) 2 _) (by omega) 3 _, Gen.setCell (Gen.setCell (Gen.setCell (HG4.out.mono (by omega)) ⟨F, 1, none⟩ _ (Nat.le_of_lt hlt) (by simp only; omega)) ⟨F, 2, none⟩ _ (Nat.le_of_lt hlt) (by simp only; omega)) ⟨F, 3, none⟩ _ (Nat.le_of_lt hlt) (by simp only; omega)⟩
             have := HO.out
             simp only [FV.ok, I41, U64] at this hu1 hu2 ⊢
             omega)
end Go.Proofs.YtgppbebdmbeohaaGreat

namespace Go.Proofs.YtgppbebdmbeohaaGreat
open Go.RowKit Go
set_option linter.unusedVariables false

theorem Gen.toBelowR {b m : Nat} {w u v : World} (h : Gen b u v m) (hw : Below w.heap.size w u) (hb : w.heap.size ≤ b) : Below w.heap.size w v :=
  hw.trans ⟨h.g.os, h.g.tape, h.g.output, h.g.size, fun k hk => h.g.block k (Nat.lt_of_lt_of_le hk hw.size) (by intro e; injection e with e; omega)⟩
theorem firstE2 (a b : Int) : firstE [a, b] = if a ≠ 0 then a else b := by
  unfold firstE
  by_cases h : a ≠ 0
  · rw [if_pos h, if_pos h]
  · rw [if_neg h, if_neg h]
    by_cases h2 : b ≠ 0
    · unfold firstE; rw [if_pos h2]
    · have h2 : b = 0 := by simpa using h2
      subst h2; rfl
set_option maxRecDepth 100000 in
set_option maxHeartbeats 8000000 in
theorem law_RowsDecide (ad : Option Addr) (n c : Nat) (w : World) (h : LawArg w ad n) :
    Calls Tryz.prog 3 #[.slice ad n c] w (Ret (.bool true) w) := by
  have hS := LawArg.strm (c := c) h
  have hB0 : Below w.heap.size w (w.alloc (.cells #[.slice ad n c, .int .i64 0] 25 (0, 0))) := below_alloc (Below.refl _ _) _
  have hbs : w.heap.size < (w.alloc (.cells #[.slice ad n c, .int .i64 0] 25 (0, 0))).heap.size := by simp
  clear h
  go_enter Tryz.func3, Tryz.ntmps3
  go_upto_region 2 with fail
  generalize (w.alloc (.cells #[.slice ad n c, .int .i64 0] 25 (0, 0))) = w0 at *
  obtain ⟨b, hb⟩ : ∃ b, w.heap.size = b := ⟨_, rfl⟩
  have HW : Hid (w.heap.size ≤ b) := Lib.hid (by omega)
  rw [hb] at hS hbs ⊢
  have HB0 := Lib.hid hB0
  clear hb hB0
  go_wp2_with fail
  refine (rows_gen b 0 5 _ hS (by omega) (by omega)).mono ?_
  rintro e w1 ⟨v, L, rfl, hO, hl, hu, hg⟩
  have HG1 := Lib.hid hg
  obtain ⟨a1, c1, rfl, -⟩ := hO.form
  have HU := Lib.hid hu
  obtain ⟨ln, hln⟩ : ∃ k, L.length = k := ⟨_, rfl⟩
  have HN := Lib.hid hln
  rw [hln] at hO hl ⊢
  have HO1 := Lib.hid hO
  have hbw1 := hg.s.lt
  clear hO hu hg hln hS
  have HQ := Lib.hid fun wx (hx : FlsAt wx a1 L) => rowsFault_any a1 ln c1 L wx hx HN.out (by omega) HU.out
  have HC := Lib.hid fun wx (hx : FlsAt wx a1 L) => fCheck_any a1 ln c1 L wx hx HN.out (by omega) HU.out
  have HD := Lib.hid fun f wx (hf : FV.ok f) (hx : FlsAt wx a1 L) => fDecides_any a1 ln c1 L f wx hx HN.out (by omega) HU.out hf
  have HE : Hid (rowsF L = 0 → ∀ (f : FV) wx, flowFault f = 0 → f.ok → FlsAt wx a1 L → Calls Tryz.prog 12 #[.slice a1 ln c1, .agg f.cells] wx (Ret (.bool (decV L f)) wx)) := Lib.hid fun h0 f wx h1 hf hr => by
    obtain ⟨k1, k2, k3⟩ := rowsF_ok h0 HU.out
    obtain ⟨g1, g2, g3⟩ := flow_num h1 hf
    rw [g3]
    exact decidesOf_any a1 ln c1 L f.p (flX f) (flY f) f.fp f.tp wx hr HN.out (by omega) k2 g1 g2
  generalize rowsF L = RF at *
  go_wp2_with fail
  refine (HQ.out _ HO1.out.at).mono ?_
  rintro e w2 ⟨rfl, hb⟩
  have HG2 : Hid (Gen b w0 w2 400) := Lib.hid ((HG1.out.below0 hb hbw1).mono (by omega))
  have HO2 := Lib.hid (HO1.out.later hb)
  clear hb HG1 HO1 HQ
  go_wp2_with fail
  refine (HC.out _ HO2.out.at).mono ?_
  rintro e w3 ⟨rfl, hb⟩
  have HG3 : Hid (Gen b w0 w3 400) := Lib.hid (HG2.out.below0 hb HG2.out.s.lt)
  have HO3 := Lib.hid (HO2.out.later hb)
  clear hb HG2 HO2 HC
  go_wp2_with fail
  go_loopw [6, 7, 8, 9, 21] (fun s6 s7 s8 s9 i wr => ∃ j : Nat, j ≤ 4 ∧ i = .int .i64 (j : Int) ∧ Hid (FlO wr w0.heap.size (.slice a1 ln c1) L) ∧ Hid (Gen b w0 wr (400 + 20 * j))) (fun _ _ _ _ i _ => 4 - (intOf i).toNat)
  case atStart => exact ⟨0, by omega, rfl, HO3, HG3⟩
  case round =>
    obtain ⟨j, hj, rfl, HO, HG⟩ := hrel
    by_cases hlt : j < 4
    · go_wp2_with fail
      refine (flow_gen b (400 + 20 * j) _ HG.out.s (by omega)).mono ?_
      rintro e w4 ⟨f, rfl, hf, hg⟩
      have HG4 : Hid (Gen b w0 w4 (400 + 20 * (j + 1))) := Lib.hid ((HG.out.trans hg).mono (by omega))
      have HO4 := Lib.hid (HO.out.gen HG.out.s hg hbs)
      have HFo := Lib.hid hf
      have HE2 : Hid (RF = 0 → flowFault f = 0 → ∀ wx, FlsAt wx a1 L → Calls Tryz.prog 12 #[.slice a1 ln c1, .agg f.cells] wx (Ret (.bool (decV L f)) wx)) := Lib.hid fun h0 h1 wx hx => HE.out h0 f wx h1 hf hx
      have HD2 := Lib.hid fun wx (hx : FlsAt wx a1 L) => HD.out f wx hf hx
      have HQ2 := Lib.hid fun wx => qFlowFault_any f wx hf
      clear hf hg HG HO HFo
      generalize flowFault f = FF at *
      generalize decV L f = DV at *
      obtain ⟨EB, hEB⟩ : ∃ b, (decide (RF = 0) && decide (FF = 0) && DV) = b := ⟨_, rfl⟩
      obtain ⟨EV, hEV⟩ : ∃ v, (if RF ≠ 0 then RF else FF) = v := ⟨_, rfl⟩
      have HV1 : Hid (EV ≠ 0 → EB = false) := Lib.hid fun h => by
        rw [← hEB]
        by_cases h1 : RF = 0
        · by_cases h2 : FF = 0
          · rw [← hEV, if_neg (by simp [h1])] at h; exact absurd h2 h
          · simp [h2]
        · simp [h1]
      have HV2 : Hid (EV = 0 → RF = 0 ∧ FF = 0 ∧ EB = DV) := Lib.hid fun h => by
        by_cases h1 : RF = 0
        · rw [← hEV, if_neg (by simp [h1])] at h
          exact ⟨h1, h, by rw [← hEB]; simp [h1, h]⟩
        · rw [← hEV, if_pos h1] at h; exact absurd h h1
      have HV3 : Hid (firstE [RF, FF] = EV) := Lib.hid ((firstE2 RF FF).trans hEV)
      rw [hEB, hEV] at HD2
      clear hEB hEV
      have HCe : Hid (f.cells = #[.int .i64 f.p, .bool f.s1, .int .u64 f.h1, .int .u64 f.l1, .bool f.s2, .int .u64 f.h2, .int .u64 f.l2, .int .i64 f.fp, .int .i64 f.tp]) := Lib.hid rfl
      rw [HCe.out] at HE2 HD2 HQ2 ⊢
      obtain ⟨p, s1, h1, l1, s2, h2, l2, fp, tp⟩ := f
      simp only at HE2 HD2 HQ2 HCe ⊢
      clear HCe
      have HF5 : Hid (Blk (w4.alloc (.cells #[.int .i64 p, .bool s1, .int .u64 h1, .int .u64 l1, .bool s2, .int .u64 h2, .int .u64 l2, .int .i64 fp, .int .i64 tp] 34 (0, 0))) w4.heap.size 34 #[.int .i64 p, .bool s1, .int .u64 h1, .int .u64 l1, .bool s2, .int .u64 h2, .int .u64 l2, .int .i64 fp, .int .i64 tp]) := Lib.hid (Blk.new w4 _ _)
      have HG5 := Lib.hid (HG4.out.alloc (.cells #[.int .i64 p, .bool s1, .int .u64 h1, .int .u64 l1, .bool s2, .int .u64 h2, .int .u64 l2, .int .i64 fp, .int .i64 tp] 34 (0, 0)))
      have HO5 : Hid (FlO (w4.alloc (.cells #[.int .i64 p, .bool s1, .int .u64 h1, .int .u64 l1, .bool s2, .int .u64 h2, .int .u64 l2, .int .i64 fp, .int .i64 tp] 34 (0, 0))) w0.heap.size (.slice a1 ln c1) L) := Lib.hid (HO4.out.later (below_alloc (Below.refl _ _) _))
      clear HG4 HO4
      go_upto_region 9 with fail
      generalize w4.alloc (.cells #[.int .i64 p, .bool s1, .int .u64 h1, .int .u64 l1, .bool s2, .int .u64 h2, .int .u64 l2, .int .i64 fp, .int .i64 tp] 34 (0, 0)) = w5 at *
      generalize w4.heap.size = F at *
      have d0 := HF5.out.cell 0
      have d1 := HF5.out.cell 1
      have d2 := HF5.out.cell 2
      have d3 := HF5.out.cell 3
      have d4 := HF5.out.cell 4
      have d5 := HF5.out.cell 5
      have d6 := HF5.out.cell 6
      have d7 := HF5.out.cell 7
      have d8 := HF5.out.cell 8
      simp at d0 d1 d2 d3 d4 d5 d6 d7 d8
      go_wp2_with fail
      refine (HD2.out _ HO5.out.at).mono ?_
      rintro e w6 ⟨rfl, hb⟩
      have HG6 : Hid (Gen b w0 w6 (400 + 20 * (j + 1))) := Lib.hid (HG5.out.below0 hb HG5.out.s.lt)
      have HO6 := Lib.hid (HO5.out.later hb)
      have HF6 := Lib.hid (HF5.out.below hb HF5.out.lt)
      clear hb HG5 HO5 HF5 HD2 d0 d1 d2 d3 d4 d5 d6 d7 d8
      have d0 := HF6.out.cell 0
      have d1 := HF6.out.cell 1
      have d2 := HF6.out.cell 2
      have d3 := HF6.out.cell 3
      have d4 := HF6.out.cell 4
      have d5 := HF6.out.cell 5
      have d6 := HF6.out.cell 6
      have d7 := HF6.out.cell 7
      have d8 := HF6.out.cell 8
      simp at d0 d1 d2 d3 d4 d5 d6 d7 d8
      go_wp2_with fail
      refine (HQ2.out _).mono ?_
      rintro e w7 ⟨rfl, hb⟩
      have HG7 : Hid (Gen b w0 w7 (400 + 20 * (j + 1))) := Lib.hid (HG6.out.below0 hb HG6.out.s.lt)
      have HO7 := Lib.hid (HO6.out.later hb)
      have HF7 := Lib.hid (HF6.out.below hb HF6.out.lt)
      clear hb HG6 HO6 HF6 HQ2 d0 d1 d2 d3 d4 d5 d6 d7 d8
      have HG8 := Lib.hid (HG7.out.alloc (.cells #[.int .i64 RF, .int .i64 FF] 28 (0, 0)))
      have HO8 : Hid (FlO (w7.alloc (.cells #[.int .i64 RF, .int .i64 FF] 28 (0, 0))) w0.heap.size (.slice a1 ln c1) L) := Lib.hid (HO7.out.later (below_alloc (Below.refl _ _) _))
      have HF8 := Lib.hid (HF7.out.alloc (.cells #[.int .i64 RF, .int .i64 FF] 28 (0, 0)))
      have HEr := Lib.hid (errs_any w7.heap.size 2 2 [RF, FF] (w7.alloc (.cells #[.int .i64 RF, .int .i64 FF] 28 (0, 0))) (rdInts_new w7 _ [RF, FF] _ rfl) (by omega))
      rw [HV3.out] at HEr
      go_wp2_with fail
      refine HEr.out.mono ?_
      rintro e w8 ⟨rfl, rfl⟩
      clear HEr HG7 HO7 HF7
      generalize (w7.alloc (.cells #[.int .i64 RF, .int .i64 FF] 28 (0, 0))) = w8 at *
      by_cases hE : EV = 0
      · obtain ⟨r1, r2, rfl⟩ := HV2.out hE
        have HE3 := Lib.hid (HE2.out r1 r2)
        clear r1 r2 HE2 HV1 HV2 HV3
        subst hE
        have d0 := HF8.out.cell 0
        have d1 := HF8.out.cell 1
        have d2 := HF8.out.cell 2
        have d3 := HF8.out.cell 3
        have d4 := HF8.out.cell 4
        have d5 := HF8.out.cell 5
        have d6 := HF8.out.cell 6
        have d7 := HF8.out.cell 7
        have d8 := HF8.out.cell 8
        simp at d0 d1 d2 d3 d4 d5 d6 d7 d8
        go_wp2_with fail
        refine (HE3.out _ HO8.out.at).mono ?_
        rintro e w9 ⟨rfl, hb⟩
        have HG9 : Hid (Gen b w0 w9 (400 + 20 * (j + 1))) := Lib.hid (HG8.out.below0 hb HG8.out.s.lt)
        have HO9 := Lib.hid (HO8.out.later hb)
        clear hb HG8 HO8 HF8 HE3 d0 d1 d2 d3 d4 d5 d6 d7 d8
        go_wp2_with fail
        exact ⟨⟨j + 1, by omega, by go_num, HO9, HG9⟩, by simp [intOf]; omega⟩
      · have hb := HV1.out hE
        have hE2 : (EV == 0) = false := by simpa using hE
        subst hb
        clear hE HE2 HV1 HV2 HV3
        go_wp2_with fail
        exact ⟨⟨j + 1, by omega, by go_num, HO8, HG8⟩, by simp [intOf]; omega⟩
    · obtain rfl : j = 4 := by omega
      have HB := Lib.hid (HG.out.toBelowR HB0.out HW.out)
      clear HO HG
      go_wp2_with fail
      refine (filtered_any _).mono ?_
      rintro e w9 ⟨rfl, hb⟩
      have HB9 := Lib.hid (HB.out.trans (hb.mono HB.out.size))
      clear hb
      go_wp2_with fail
      go_ret
      exact ⟨rfl, HB9.out⟩
end Go.Proofs.YtgppbebdmbeohaaGreat
