/-
  The reference's firstOf and lastOf: the digits of an address, low bits struck or filled.
-/
import Derived.Test.YtaamonhhclffcaaDoorWv
namespace Go.Proofs.YtaamonhhclffcaaDoor
open Go.RowKit Go
set_option linter.unusedVariables false

set_option maxRecDepth 100000 in
set_option maxHeartbeats 2000000 in
theorem firstOf_any (six : Bool) (hi lo : Nat) (bits : Int) (n : Nat) (w : World) (h1 : hi < 18446744073709551616) (h2 : lo < 18446744073709551616) (hb1 : -1000 ≤ bits ∧ bits ≤ 1099511627777) (hb2 : ((lenN six : Nat) : Int) - bits ≤ 128) (hn : (((lenN six : Nat) : Int) - bits).toNat = n) :
    Calls Tryd.prog 41 #[vA six hi lo, .int .i64 bits] w (Ret (.agg (wv six (clrF hi lo n))) w) := by
  have hln := lenN_le six
  have HO : Hid (∀ wx, Calls Tryd.prog 42 #[vA six hi lo] wx (Ret (.agg (wv six (dg hi lo))) wx)) := Lib.hid fun wx => of_any six hi lo wx h1 h2
  have HL := Lib.hid fun wx => lengthQ_any six hi lo wx
  have Hz := Lib.hid (clrF_zero six hi lo)
  have hn1 : n ≤ 128 := by omega
  have Hn := Lib.hid hn
  obtain ⟨ln, hl⟩ : ∃ ln, lenN six = ln := ⟨_, rfl⟩
  rw [hl] at HL hb2 Hn hln
  clear hl hn
  unfold vA at HO HL
  try unfold vA
  have HA0 : Blk (w.alloc (.cells #[.bool six, .int .u64 (hi : Int), .int .u64 (lo : Int)] 29 (0, 0))) w.heap.size 29 #[.bool six, .int .u64 (hi : Int), .int .u64 (lo : Int)] := Blk.new w _ _
  have HR0 : Blk ((w.alloc (.cells #[.bool six, .int .u64 (hi : Int), .int .u64 (lo : Int)] 29 (0, 0))).alloc (.cells #[.int .i64 0, .int .i64 0, .int .i64 0, .int .i64 0, .int .i64 0, .int .i64 0, .int .i64 0, .int .i64 0, .int .i64 0] 71 (0, 0))) (w.heap.size + 1) 71 #[.int .i64 0, .int .i64 0, .int .i64 0, .int .i64 0, .int .i64 0, .int .i64 0, .int .i64 0, .int .i64 0, .int .i64 0] := by
    have := Blk.new (w.alloc (.cells #[.bool six, .int .u64 (hi : Int), .int .u64 (lo : Int)] 29 (0, 0))) 71 #[.int .i64 0, .int .i64 0, .int .i64 0, .int .i64 0, .int .i64 0, .int .i64 0, .int .i64 0, .int .i64 0, .int .i64 0]
    rw [World.size_alloc] at this
    exact this
  have HA1 := Lib.hid (HA0.alloc (.cells #[.int .i64 0, .int .i64 0, .int .i64 0, .int .i64 0, .int .i64 0, .int .i64 0, .int .i64 0, .int .i64 0, .int .i64 0] 71 (0, 0)))
  have HR1 := Lib.hid HR0
  have HB1 : Hid (Below w.heap.size w ((w.alloc (.cells #[.bool six, .int .u64 (hi : Int), .int .u64 (lo : Int)] 29 (0, 0))).alloc (.cells #[.int .i64 0, .int .i64 0, .int .i64 0, .int .i64 0, .int .i64 0, .int .i64 0, .int .i64 0, .int .i64 0, .int .i64 0] 71 (0, 0)))) := Lib.hid (below_alloc (below_alloc (Below.refl _ _) _) _)
  clear HA0 HR0
  go_enter Tryd.func41, Tryd.ntmps41
  go_wp2_with fail
  refine (HO.out _).mono ?_
  rintro e w2 ⟨rfl, hb⟩
  have hA1 := HA1.out.lt
  have hR1 := HR1.out.lt
  have HA2 := Lib.hid ((HA1.out.below hb hA1).alloc (.cells #[.int .i64 0, .int .i64 0, .int .i64 0, .int .i64 0, .int .i64 0, .int .i64 0, .int .i64 0, .int .i64 0, .int .i64 0] 71 (0, 0)))
  have HR2 := Lib.hid ((HR1.out.below hb hR1).alloc (.cells #[.int .i64 0, .int .i64 0, .int .i64 0, .int .i64 0, .int .i64 0, .int .i64 0, .int .i64 0, .int .i64 0, .int .i64 0] 71 (0, 0)))
  have hs2 := hb.size
  have HB2 : Hid (Below w.heap.size w (w2.alloc (.cells #[.int .i64 0, .int .i64 0, .int .i64 0, .int .i64 0, .int .i64 0, .int .i64 0, .int .i64 0, .int .i64 0, .int .i64 0] 71 (0, 0)))) := Lib.hid (below_alloc (HB1.out.trans (hb.mono HB1.out.size)) _)
  have HZ2 : Hid (Blk (w2.alloc (.cells #[.int .i64 0, .int .i64 0, .int .i64 0, .int .i64 0, .int .i64 0, .int .i64 0, .int .i64 0, .int .i64 0, .int .i64 0] 71 (0, 0))) w2.heap.size 71 #[.int .i64 0, .int .i64 0, .int .i64 0, .int .i64 0, .int .i64 0, .int .i64 0, .int .i64 0, .int .i64 0, .int .i64 0]) := Lib.hid (Blk.new w2 _ _)
  have hw2 : w.heap.size + 2 ≤ w2.heap.size := by simp at hs2; omega
  clear hb HA1 HR1 HB1 hs2 hA1 hR1 HO
  have HW3 : Hid (Blk ((w2.alloc (.cells #[.int .i64 0, .int .i64 0, .int .i64 0, .int .i64 0, .int .i64 0, .int .i64 0, .int .i64 0, .int .i64 0, .int .i64 0] 71 (0, 0))).setRow w2.heap.size (wv six (dg hi lo))) w2.heap.size 71 (wv six (dg hi lo))) := Lib.hid (HZ2.out.row _)
  have HA3 := Lib.hid (HA2.out.rowFar (show w.heap.size ≠ w2.heap.size by omega) (wv six (dg hi lo)))
  have HR3 := Lib.hid (HR2.out.rowFar (show w.heap.size + 1 ≠ w2.heap.size by omega) (wv six (dg hi lo)))
  have HB3 := Lib.hid (belowRow HB2.out (show w.heap.size ≤ w2.heap.size by omega) (wv six (dg hi lo)))
  clear HA2 HR2 HB2
  have a0 := HA3.out.cell 0
  have a1 := HA3.out.cell 1
  have a2 := HA3.out.cell 2
  simp at a0 a1 a2
  go_wp2_with (refine wpList_store_row rfl 71 (.tmp 5) (.tmp 8) rfl w2.heap.size (wv six (dg hi lo)) rfl rfl 71 #[.int .i64 0, .int .i64 0, .int .i64 0, .int .i64 0, .int .i64 0, .int .i64 0, .int .i64 0, .int .i64 0, .int .i64 0] HZ2.out (by kernel_rfl) rfl (wv_one _ _) ?_)
  clear HZ2
  generalize (w2.alloc (.cells #[.int .i64 0, .int .i64 0, .int .i64 0, .int .i64 0, .int .i64 0, .int .i64 0, .int .i64 0, .int .i64 0, .int .i64 0] 71 (0, 0))).setRow w2.heap.size (wv six (dg hi lo)) = w3 at *
  generalize w2.heap.size = W at *
  go_wp2_with fail
  refine (HL.out _).mono ?_
  rintro e w4 ⟨rfl, hb⟩
  have HA4 := Lib.hid (HA3.out.below hb HA3.out.lt)
  have HR4 := Lib.hid (HR3.out.below hb HR3.out.lt)
  have HW4 : Hid (Blk w4 W 71 (wv six (clrF hi lo 0))) := Lib.hid (by rw [Hz.out]; exact HW3.out.below hb HW3.out.lt)
  have HB4 := Lib.hid (HB3.out.trans (hb.mono HB3.out.size))
  clear hb HA3 HR3 HW3 HB3 HL Hz a0 a1 a2
  go_wp2_with fail
  go_loopw [6, 13] (fun iv i wr => ∃ k : Nat, k ≤ n ∧ i = .int .i64 k ∧ Hid (Blk wr W 71 (wv six (clrF hi lo k))) ∧ Hid (Blk wr (w.heap.size + 1) 71 #[.int .i64 0, .int .i64 0, .int .i64 0, .int .i64 0, .int .i64 0, .int .i64 0, .int .i64 0, .int .i64 0, .int .i64 0]) ∧ Hid (Below w.heap.size w wr)) (fun _ i _ => n - (intOf i).toNat)
  case atStart => exact ⟨0, Nat.zero_le _, rfl, HW4, HR4, HB4⟩
  case round =>
    clear HW4 HR4 HB4 HA4
    obtain ⟨k, hk, rfl, HW, HR, HB⟩ := hrel
    have hnn := Hn.out
    by_cases hlt : k < n
    · have hc1 : (k : Int) < (ln : Int) - bits := by omega
      have hk128 : k < 128 := by omega
      have Hst := Lib.hid (clrF_step six hi lo k hk128)
      have Hat := Lib.hid (clrF_at hi lo k)
      have Hop := Lib.hid (andNot_bit (dg hi lo (k / 16)) (k % 16) (dg_lt _ _ _) (by omega))
      have hcell := HW.out.cell (k / 16)
      rw [wv_get _ _ _ (by omega), Hat.out] at hcell
      have hfr := HW.out.free (k / 16)
      obtain ⟨q, hq⟩ : ∃ q, k / 16 = q := ⟨_, rfl⟩
      obtain ⟨r, hr⟩ : ∃ r, k % 16 = r := ⟨_, rfl⟩
      rw [hq, hr] at Hst Hop hcell
      rw [hq] at hfr
      have e1 : (k : Int) / 16 = (q : Int) := by omega
      have e2 : (k : Int) % 16 = (r : Int) := by omega
      have hq8 : q < 8 := by omega
      have hr16 : r < 16 := by omega
      have hp2 : (2 : Nat) ^ r ≤ 32768 := by
        have := Nat.pow_le_pow_right (n := 2) (by decide) (show r ≤ 15 by omega)
        exact this
      have e3 : ((2 ^ r : Nat) : Int) = (2 : Int) ^ r := by rw [Int.natCast_pow]; rfl
      rw [e3] at Hop
      have eW : IntKind.i64.wrap ((2 : Int) ^ r) = (2 : Int) ^ r := by
        rw [← e3, IntKind.wrap_i64]
        generalize (2 : Nat) ^ r = pn at *
        omega
      have hw5 : ∃ c0 : Nat, clr (dg hi lo q) r = c0 := ⟨_, rfl⟩
      obtain ⟨c0, hc0⟩ := hw5
      obtain ⟨c1, hc1'⟩ : ∃ c1 : Nat, clr (dg hi lo q) (r + 1) = c1 := ⟨_, rfl⟩
      rw [hc0] at Hop hcell
      rw [hc1'] at Hop Hst
      clear hc0 hc1' hp2 Hat hnn e3
      have HWn : Hid (∀ w', Blk w' W 71 (wv six (clrF hi lo k)) → Blk (w'.setCell ⟨W, q, none⟩ (.int .i64 (c1 : Int))) W 71 (wv six (clrF hi lo (k + 1)))) := Lib.hid fun w' h => by
        have := h.set q (.int .i64 (c1 : Int))
        rw [Hst.out] at this
        exact this
      clear Hst
      have hWl : w.heap.size + 2 ≤ W := hw2
      have hcell' : World.cell? { heap := wr.heap, tape := wr.tape, drawn := wr.drawn + 1, os := wr.os, output := wr.output } ⟨W, q, none⟩ = some (.int .i64 (c0 : Int)) := hcell
      have e5 : IntKind.i64.wrap (q : Int) = (q : Int) := by rw [IntKind.wrap_i64]; omega
      have e6 : IntKind.i64.wrap (r : Int) = (r : Int) := by rw [IntKind.wrap_i64]; omega
      have b1 : (0 : Int) ≤ (q : Int) := by omega
      have b2 : (q : Int) < 9 := by omega
      have e7 : (k : Int).tmod 16 = (r : Int) := by rw [Int.tmod_eq_emod_of_nonneg (by omega)]; exact e2
      have b3 : ¬ (r : Int) < 0 := by omega
      have b4 : (0 : Int) ≤ (r : Int) := by omega
      go_upto_region 5 with fail
      go_still_tail 9, (by kernel_rfl)
      rw [Hop.out]
      change wpList _ _ _ _ _ wr.drew
      have HW5 : Hid (Blk (wr.drew.setCell ⟨W, q, none⟩ (.int .i64 (c1 : Int))) W 71 (wv six (clrF hi lo (k + 1)))) := Lib.hid (HWn.out wr.drew (HW.out.drewN 1))
      have HR5 : Hid (Blk (wr.drew.setCell ⟨W, q, none⟩ (.int .i64 (c1 : Int))) (w.heap.size + 1) 71 #[.int .i64 0, .int .i64 0, .int .i64 0, .int .i64 0, .int .i64 0, .int .i64 0, .int .i64 0, .int .i64 0, .int .i64 0]) := Lib.hid (Blk.far (HR.out.drewN 1) (by omega) _ _)
      have HB5 : Hid (Below w.heap.size w (wr.drew.setCell ⟨W, q, none⟩ (.int .i64 (c1 : Int)))) := Lib.hid (below_set (below_drew HB.out) (by omega) _ _)
      have hd1 : wr.drew.cell? ⟨W, q, none⟩ = some (.int .i64 (c0 : Int)) := hcell
      have hd2 : wr.drew.frozen? ⟨W, q, none⟩ = false := hfr
      clear hcell' hcell hfr HWn HW HR HB Hop e1 e2 e5 e6 e7
      generalize wr.drew = w5 at *
      go_wp2
      exact ⟨⟨k + 1, by omega, by go_num, HW5, HR5, HB5⟩, by simp [intOf]; omega⟩
    · obtain rfl : k = n := by omega
      have hc1 : ¬ (k : Int) < (ln : Int) - bits := by omega
      go_wp2_with (first | refine wpList_load_row rfl 71 (.tmp 5) rfl W rfl 71 (wv six (clrF hi lo k)) (0, 0) _ HW.out Tryd.underlying71 rfl (by kernel_rfl) ?_ | refine wpList_store_row rfl 71 (.tmp 4) (.tmp 26) rfl (w.heap.size + 1) (wv six (clrF hi lo k)) rfl rfl 71 #[.int .i64 0, .int .i64 0, .int .i64 0, .int .i64 0, .int .i64 0, .int .i64 0, .int .i64 0, .int .i64 0, .int .i64 0] HR.out (by kernel_rfl) rfl (wv_one _ _) ?_)
      refine bodyPost_ret (v := .agg (wv six (clrF hi lo k))) (results_cell_row Tryd.results41 _ _ (w.heap.size + 1) 71 (wv six (clrF hi lo k)) (0, 0) _ rfl (HR.out.row _) Tryd.underlying71 rfl (by kernel_rfl)) rfl ⟨rfl, belowRow HB.out (by omega) _⟩

set_option maxRecDepth 100000 in
set_option maxHeartbeats 2000000 in
theorem lastOf_any (six : Bool) (hi lo : Nat) (bits : Int) (n : Nat) (w : World) (h1 : hi < 18446744073709551616) (h2 : lo < 18446744073709551616) (hb1 : -1000 ≤ bits ∧ bits ≤ 1099511627777) (hb2 : ((lenN six : Nat) : Int) - bits ≤ 128) (hn : (((lenN six : Nat) : Int) - bits).toNat = n) :
    Calls Tryd.prog 61 #[.agg #[.bool six, .int .u64 (hi : Int), .int .u64 (lo : Int), .int .i64 bits]] w (Ret (.agg (wv six (filF hi lo n))) w) := by
  have hln := lenN_le six
  have HO : Hid (∀ wx, Calls Tryd.prog 42 #[vA six hi lo] wx (Ret (.agg (wv six (dg hi lo))) wx)) := Lib.hid fun wx => of_any six hi lo wx h1 h2
  have HL := Lib.hid fun wx => lengthQ_any six hi lo wx
  have Hz := Lib.hid (filF_zero six hi lo)
  have hn1 : n ≤ 128 := by omega
  have Hn := Lib.hid hn
  obtain ⟨ln, hl⟩ : ∃ ln, lenN six = ln := ⟨_, rfl⟩
  rw [hl] at HL hb2 Hn hln
  clear hl hn
  unfold vA at HO HL
  try unfold vA
  have HA0 : Blk (w.alloc (.cells #[.bool six, .int .u64 (hi : Int), .int .u64 (lo : Int), .int .i64 bits] 31 (0, 0))) w.heap.size 31 #[.bool six, .int .u64 (hi : Int), .int .u64 (lo : Int), .int .i64 bits] := Blk.new w _ _
  have HR0 : Blk ((w.alloc (.cells #[.bool six, .int .u64 (hi : Int), .int .u64 (lo : Int), .int .i64 bits] 31 (0, 0))).alloc (.cells #[.int .i64 0, .int .i64 0, .int .i64 0, .int .i64 0, .int .i64 0, .int .i64 0, .int .i64 0, .int .i64 0, .int .i64 0] 71 (0, 0))) (w.heap.size + 1) 71 #[.int .i64 0, .int .i64 0, .int .i64 0, .int .i64 0, .int .i64 0, .int .i64 0, .int .i64 0, .int .i64 0, .int .i64 0] := by
    have := Blk.new (w.alloc (.cells #[.bool six, .int .u64 (hi : Int), .int .u64 (lo : Int), .int .i64 bits] 31 (0, 0))) 71 #[.int .i64 0, .int .i64 0, .int .i64 0, .int .i64 0, .int .i64 0, .int .i64 0, .int .i64 0, .int .i64 0, .int .i64 0]
    rw [World.size_alloc] at this
    exact this
  have HA1 := Lib.hid (HA0.alloc (.cells #[.int .i64 0, .int .i64 0, .int .i64 0, .int .i64 0, .int .i64 0, .int .i64 0, .int .i64 0, .int .i64 0, .int .i64 0] 71 (0, 0)))
  have HR1 := Lib.hid HR0
  have HB1 : Hid (Below w.heap.size w ((w.alloc (.cells #[.bool six, .int .u64 (hi : Int), .int .u64 (lo : Int), .int .i64 bits] 31 (0, 0))).alloc (.cells #[.int .i64 0, .int .i64 0, .int .i64 0, .int .i64 0, .int .i64 0, .int .i64 0, .int .i64 0, .int .i64 0, .int .i64 0] 71 (0, 0)))) := Lib.hid (below_alloc (below_alloc (Below.refl _ _) _) _)
  clear HA0 HR0
  go_enter Tryd.func61, Tryd.ntmps61
  go_wp2_with fail
  refine (HO.out _).mono ?_
  rintro e w2 ⟨rfl, hb⟩
  have hA1 := HA1.out.lt
  have hR1 := HR1.out.lt
  have HA2 := Lib.hid ((HA1.out.below hb hA1).alloc (.cells #[.int .i64 0, .int .i64 0, .int .i64 0, .int .i64 0, .int .i64 0, .int .i64 0, .int .i64 0, .int .i64 0, .int .i64 0] 71 (0, 0)))
  have HR2 := Lib.hid ((HR1.out.below hb hR1).alloc (.cells #[.int .i64 0, .int .i64 0, .int .i64 0, .int .i64 0, .int .i64 0, .int .i64 0, .int .i64 0, .int .i64 0, .int .i64 0] 71 (0, 0)))
  have hs2 := hb.size
  have HB2 : Hid (Below w.heap.size w (w2.alloc (.cells #[.int .i64 0, .int .i64 0, .int .i64 0, .int .i64 0, .int .i64 0, .int .i64 0, .int .i64 0, .int .i64 0, .int .i64 0] 71 (0, 0)))) := Lib.hid (below_alloc (HB1.out.trans (hb.mono HB1.out.size)) _)
  have HZ2 : Hid (Blk (w2.alloc (.cells #[.int .i64 0, .int .i64 0, .int .i64 0, .int .i64 0, .int .i64 0, .int .i64 0, .int .i64 0, .int .i64 0, .int .i64 0] 71 (0, 0))) w2.heap.size 71 #[.int .i64 0, .int .i64 0, .int .i64 0, .int .i64 0, .int .i64 0, .int .i64 0, .int .i64 0, .int .i64 0, .int .i64 0]) := Lib.hid (Blk.new w2 _ _)
  have hw2 : w.heap.size + 2 ≤ w2.heap.size := by simp at hs2; omega
  clear hb HA1 HR1 HB1 hs2 hA1 hR1 HO
  have HW3 : Hid (Blk ((w2.alloc (.cells #[.int .i64 0, .int .i64 0, .int .i64 0, .int .i64 0, .int .i64 0, .int .i64 0, .int .i64 0, .int .i64 0, .int .i64 0] 71 (0, 0))).setRow w2.heap.size (wv six (dg hi lo))) w2.heap.size 71 (wv six (dg hi lo))) := Lib.hid (HZ2.out.row _)
  have HA3 := Lib.hid (HA2.out.rowFar (show w.heap.size ≠ w2.heap.size by omega) (wv six (dg hi lo)))
  have HR3 := Lib.hid (HR2.out.rowFar (show w.heap.size + 1 ≠ w2.heap.size by omega) (wv six (dg hi lo)))
  have HB3 := Lib.hid (belowRow HB2.out (show w.heap.size ≤ w2.heap.size by omega) (wv six (dg hi lo)))
  clear HA2 HR2 HB2
  have a0 := HA3.out.cell 0
  have a1 := HA3.out.cell 1
  have a2 := HA3.out.cell 2
  have a3 := HA3.out.cell 3
  simp at a0 a1 a2 a3
  go_wp2_with (refine wpList_store_row rfl 71 (.tmp 3) (.tmp 7) rfl w2.heap.size (wv six (dg hi lo)) rfl rfl 71 #[.int .i64 0, .int .i64 0, .int .i64 0, .int .i64 0, .int .i64 0, .int .i64 0, .int .i64 0, .int .i64 0, .int .i64 0] HZ2.out (by kernel_rfl) rfl (wv_one _ _) ?_)
  clear HZ2
  generalize (w2.alloc (.cells #[.int .i64 0, .int .i64 0, .int .i64 0, .int .i64 0, .int .i64 0, .int .i64 0, .int .i64 0, .int .i64 0, .int .i64 0] 71 (0, 0))).setRow w2.heap.size (wv six (dg hi lo)) = w3 at *
  generalize w2.heap.size = W at *
  have l0 := Later.cell_of a0
  have l1 := Later.cell_of a1
  have l2 := Later.cell_of a2
  have l3 := Later.cell_of a3
  have hL := fun n : Later w3 => Calls.later n (HL.out n.1)
  simp only [Act.put]
  refine wp_region_later (by kernel_rfl) (by kernel_rfl) ?_
  repeat (go_big_quiet_step ((go_at_call 40; exact hL _)))
  refine wpQuiet_nil ?_
  rintro w4 ⟨n4, hn4⟩
  have hb : Below w3.heap.size w3 w4 := by rw [hn4]; exact n4.2
  clear hn4 n4
  clear hL l0 l1 l2 l3
  have HA4 := Lib.hid (HA3.out.below hb HA3.out.lt)
  have HR4 := Lib.hid (HR3.out.below hb HR3.out.lt)
  have HW4 : Hid (Blk w4 W 71 (wv six (filF hi lo 0))) := Lib.hid (by rw [Hz.out]; exact HW3.out.below hb HW3.out.lt)
  have HB4 := Lib.hid (HB3.out.trans (hb.mono HB3.out.size))
  clear hb HA3 HR3 HW3 HB3 HL Hz a0 a1 a2 a3
  go_wp2_with fail
  go_loopw [4, 14] (fun iv i wr => ∃ k : Nat, k ≤ n ∧ i = .int .i64 k ∧ Hid (Blk wr W 71 (wv six (filF hi lo k))) ∧ Hid (Blk wr (w.heap.size + 1) 71 #[.int .i64 0, .int .i64 0, .int .i64 0, .int .i64 0, .int .i64 0, .int .i64 0, .int .i64 0, .int .i64 0, .int .i64 0]) ∧ Hid (Below w.heap.size w wr)) (fun _ i _ => n - (intOf i).toNat)
  case atStart => exact ⟨0, Nat.zero_le _, rfl, HW4, HR4, HB4⟩
  case round =>
    clear HW4 HR4 HB4 HA4
    obtain ⟨k, hk, rfl, HW, HR, HB⟩ := hrel
    have hnn := Hn.out
    by_cases hlt : k < n
    · have hc1 : (k : Int) < (ln : Int) - bits := by omega
      have hk128 : k < 128 := by omega
      have Hst := Lib.hid (filF_step six hi lo k hk128)
      have Hat := Lib.hid (filF_at hi lo k)
      have Hop := Lib.hid (or_bit (dg hi lo (k / 16)) (k % 16) (dg_lt _ _ _) (by omega))
      have hcell := HW.out.cell (k / 16)
      rw [wv_get _ _ _ (by omega), Hat.out] at hcell
      have hfr := HW.out.free (k / 16)
      obtain ⟨q, hq⟩ : ∃ q, k / 16 = q := ⟨_, rfl⟩
      obtain ⟨r, hr⟩ : ∃ r, k % 16 = r := ⟨_, rfl⟩
      rw [hq, hr] at Hst Hop hcell
      rw [hq] at hfr
      have e1 : (k : Int) / 16 = (q : Int) := by omega
      have e2 : (k : Int) % 16 = (r : Int) := by omega
      have hq8 : q < 8 := by omega
      have hr16 : r < 16 := by omega
      have hp2 : (2 : Nat) ^ r ≤ 32768 := by
        have := Nat.pow_le_pow_right (n := 2) (by decide) (show r ≤ 15 by omega)
        exact this
      have e3 : ((2 ^ r : Nat) : Int) = (2 : Int) ^ r := by rw [Int.natCast_pow]; rfl
      rw [e3] at Hop
      have eW : IntKind.i64.wrap ((2 : Int) ^ r) = (2 : Int) ^ r := by
        rw [← e3, IntKind.wrap_i64]
        generalize (2 : Nat) ^ r = pn at *
        omega
      have hw5 : ∃ c0 : Nat, fil (dg hi lo q) r = c0 := ⟨_, rfl⟩
      obtain ⟨c0, hc0⟩ := hw5
      obtain ⟨c1, hc1'⟩ : ∃ c1 : Nat, fil (dg hi lo q) (r + 1) = c1 := ⟨_, rfl⟩
      rw [hc0] at Hop hcell
      rw [hc1'] at Hop Hst
      clear hc0 hc1' hp2 Hat hnn e3
      have HWn : Hid (∀ w', Blk w' W 71 (wv six (filF hi lo k)) → Blk (w'.setCell ⟨W, q, none⟩ (.int .i64 (c1 : Int))) W 71 (wv six (filF hi lo (k + 1)))) := Lib.hid fun w' h => by
        have := h.set q (.int .i64 (c1 : Int))
        rw [Hst.out] at this
        exact this
      clear Hst
      have hWl : w.heap.size + 2 ≤ W := hw2
      have hcell' : World.cell? { heap := wr.heap, tape := wr.tape, drawn := wr.drawn + 1, os := wr.os, output := wr.output } ⟨W, q, none⟩ = some (.int .i64 (c0 : Int)) := hcell
      have e5 : IntKind.i64.wrap (q : Int) = (q : Int) := by rw [IntKind.wrap_i64]; omega
      have e6 : IntKind.i64.wrap (r : Int) = (r : Int) := by rw [IntKind.wrap_i64]; omega
      have b1 : (0 : Int) ≤ (q : Int) := by omega
      have b2 : (q : Int) < 9 := by omega
      have e7 : (k : Int).tmod 16 = (r : Int) := by rw [Int.tmod_eq_emod_of_nonneg (by omega)]; exact e2
      have b3 : ¬ (r : Int) < 0 := by omega
      have b4 : (0 : Int) ≤ (r : Int) := by omega
      go_upto_region 5 with fail
      go_still_tail 9, (by kernel_rfl)
      rw [Hop.out]
      change wpList _ _ _ _ _ wr.drew
      have HW5 : Hid (Blk (wr.drew.setCell ⟨W, q, none⟩ (.int .i64 (c1 : Int))) W 71 (wv six (filF hi lo (k + 1)))) := Lib.hid (HWn.out wr.drew (HW.out.drewN 1))
      have HR5 : Hid (Blk (wr.drew.setCell ⟨W, q, none⟩ (.int .i64 (c1 : Int))) (w.heap.size + 1) 71 #[.int .i64 0, .int .i64 0, .int .i64 0, .int .i64 0, .int .i64 0, .int .i64 0, .int .i64 0, .int .i64 0, .int .i64 0]) := Lib.hid (Blk.far (HR.out.drewN 1) (by omega) _ _)
      have HB5 : Hid (Below w.heap.size w (wr.drew.setCell ⟨W, q, none⟩ (.int .i64 (c1 : Int)))) := Lib.hid (below_set (below_drew HB.out) (by omega) _ _)
      have hd1 : wr.drew.cell? ⟨W, q, none⟩ = some (.int .i64 (c0 : Int)) := hcell
      have hd2 : wr.drew.frozen? ⟨W, q, none⟩ = false := hfr
      clear hcell' hcell hfr HWn HW HR HB Hop e1 e2 e5 e6 e7
      generalize wr.drew = w5 at *
      go_wp2
      exact ⟨⟨k + 1, by omega, by go_num, HW5, HR5, HB5⟩, by simp [intOf]; omega⟩
    · obtain rfl : k = n := by omega
      have hc1 : ¬ (k : Int) < (ln : Int) - bits := by omega
      go_wp2_with (first | refine wpList_load_row rfl 71 (.tmp 3) rfl W rfl 71 (wv six (filF hi lo k)) (0, 0) _ HW.out Tryd.underlying71 rfl (by kernel_rfl) ?_ | refine wpList_store_row rfl 71 (.tmp 2) (.tmp 27) rfl (w.heap.size + 1) (wv six (filF hi lo k)) rfl rfl 71 #[.int .i64 0, .int .i64 0, .int .i64 0, .int .i64 0, .int .i64 0, .int .i64 0, .int .i64 0, .int .i64 0, .int .i64 0] HR.out (by kernel_rfl) rfl (wv_one _ _) ?_)
      refine bodyPost_ret (v := .agg (wv six (filF hi lo k))) (results_cell_row Tryd.results61 _ _ (w.heap.size + 1) 71 (wv six (filF hi lo k)) (0, 0) _ rfl (HR.out.row _) Tryd.underlying71 rfl (by kernel_rfl)) rfl ⟨rfl, belowRow HB.out (by omega) _⟩
end Go.Proofs.YtaamonhhclffcaaDoor
