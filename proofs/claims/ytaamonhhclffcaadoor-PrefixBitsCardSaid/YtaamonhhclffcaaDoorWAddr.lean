/-
  The address of a wide number.
-/
import Derived.Test.YtaamonhhclffcaaDoorFirst
namespace Go.Proofs.YtaamonhhclffcaaDoor
open Go.RowKit Go
set_option linter.unusedVariables false

/-- the number of k digits from place o on -/
def PS (f : Nat → Nat) (o : Nat) : Nat → Nat
  | 0 => 0
  | k + 1 => PS f o k + f (o + k) * 2 ^ (16 * k)
theorem PS_lt (f : Nat → Nat) (hf : ∀ d, f d < 65536) (o : Nat) : ∀ k, PS f o k < 2 ^ (16 * k)
  | 0 => by simp [PS]
  | k + 1 => by
    have h1 := PS_lt f hf o k
    have h2 := hf (o + k)
    have e : 2 ^ (16 * (k + 1)) = 65536 * 2 ^ (16 * k) := by rw [Nat.mul_add, Nat.pow_add, Nat.mul_comm]
    unfold PS
    rw [e]
    have h3 : f (o + k) * 2 ^ (16 * k) ≤ 65535 * 2 ^ (16 * k) := Nat.mul_le_mul_right _ (by omega)
    omega
theorem PS_four (f : Nat → Nat) (o : Nat) : PS f o 4 = f o + 65536 * (f (o + 1) + 65536 * (f (o + 2) + 65536 * f (o + 3))) := by
  simp only [PS, Nat.add_zero, Nat.mul_zero, Nat.pow_zero, Nat.mul_one, Nat.zero_add, Nat.reduceMul, Nat.reducePow]
  omega
theorem shl_cast (x s : Nat) (hx : x < 65536) (hs : s ≤ 48) : IntKind.u64.wrap ((x : Int) * 2 ^ s) = ((x * 2 ^ s : Nat) : Int) := by
  have e : (x : Int) * 2 ^ s = ((x * 2 ^ s : Nat) : Int) := by rw [Int.natCast_mul, Int.natCast_pow]; rfl
  have h1 : x * 2 ^ s ≤ 65535 * 2 ^ 48 := Nat.mul_le_mul (by omega) (Nat.pow_le_pow_right (by decide) hs)
  rw [e, IntKind.wrap_u64]
  generalize x * 2 ^ s = y at *
  omega
set_option maxRecDepth 100000 in
set_option maxHeartbeats 4000000 in
theorem wideAddr_any (six : Bool) (f : Nat → Nat) (w : World) (hf : ∀ d, f d < 65536) :
    Calls Tryd.prog 54 #[.agg (wv six f)] w (Ret (vA six (PS f 4 4) (PS f 0 4)) w) := by
  have Hf := Lib.hid hf
  clear hf
  have HA0 : Blk (w.alloc (.cells (wv six f) 71 (0, 0))) w.heap.size 71 (wv six f) := Blk.new w _ _
  have HA1 : Hid (Blk (((w.alloc (.cells (wv six f) 71 (0, 0))).alloc (.cells #[.bool false, .int .u64 0, .int .u64 0] 29 (0, 0))).alloc (.cells #[.bool false, .int .u64 0, .int .u64 0] 29 (0, 0))) w.heap.size 71 (wv six f)) := Lib.hid ((HA0.alloc _).alloc _)
  have HR1 : Hid (Blk (((w.alloc (.cells (wv six f) 71 (0, 0))).alloc (.cells #[.bool false, .int .u64 0, .int .u64 0] 29 (0, 0))).alloc (.cells #[.bool false, .int .u64 0, .int .u64 0] 29 (0, 0))) (w.heap.size + 1) 29 #[.bool false, .int .u64 0, .int .u64 0]) := Lib.hid (by
    have := Blk.new (w.alloc (.cells (wv six f) 71 (0, 0))) 29 #[.bool false, .int .u64 0, .int .u64 0]
    rw [World.size_alloc] at this
    exact this.alloc _)
  have HZ1 : Hid (Blk (((w.alloc (.cells (wv six f) 71 (0, 0))).alloc (.cells #[.bool false, .int .u64 0, .int .u64 0] 29 (0, 0))).alloc (.cells #[.bool false, .int .u64 0, .int .u64 0] 29 (0, 0))) (w.heap.size + 1 + 1) 29 #[.bool false, .int .u64 ((PS f 4 0 : Nat) : Int), .int .u64 ((PS f 0 0 : Nat) : Int)]) := Lib.hid (by
    have := Blk.new ((w.alloc (.cells (wv six f) 71 (0, 0))).alloc (.cells #[.bool false, .int .u64 0, .int .u64 0] 29 (0, 0))) 29 #[.bool false, .int .u64 0, .int .u64 0]
    rw [World.size_alloc, World.size_alloc] at this
    exact this)
  have HB1 : Hid (Below w.heap.size w (((w.alloc (.cells (wv six f) 71 (0, 0))).alloc (.cells #[.bool false, .int .u64 0, .int .u64 0] 29 (0, 0))).alloc (.cells #[.bool false, .int .u64 0, .int .u64 0] 29 (0, 0)))) := Lib.hid (below_alloc (below_alloc (below_alloc (Below.refl _ _) _) _) _)
  clear HA0
  have hsz := Tryd.sizeOf71
  go_enter Tryd.func54, Tryd.ntmps54
  go_upto_region 2 with fail
  generalize ((w.alloc (.cells (wv six f) 71 (0, 0))).alloc (.cells #[.bool false, .int .u64 0, .int .u64 0] 29 (0, 0))).alloc (.cells #[.bool false, .int .u64 0, .int .u64 0] 29 (0, 0)) = w1 at *
  generalize hw0 : w.heap.size = W at *
  have Hw0 := Lib.hid hw0
  clear hw0
  go_wp2
  go_loopw [4, 5] (fun iv i wr => ∃ k : Nat, k ≤ 4 ∧ i = .int .i64 k ∧ Hid (Blk wr W 71 (wv six f)) ∧ Hid (Blk wr (W + 1) 29 #[.bool false, .int .u64 0, .int .u64 0]) ∧ Hid (Blk wr (W + 1 + 1) 29 #[.bool false, .int .u64 ((PS f 4 k : Nat) : Int), .int .u64 ((PS f 0 k : Nat) : Int)]) ∧ Hid (Below W w wr)) (fun _ i _ => 4 - (intOf i).toNat)
  case atStart => exact ⟨0, Nat.zero_le _, rfl, HA1, HR1, HZ1, HB1⟩
  case round =>
    clear HA1 HR1 HZ1 HB1
    obtain ⟨k, hk, rfl, HA, HR, HZ, HB⟩ := hrel
    by_cases hlt : k < 4
    · have Hop0 := Lib.hid (or_join (PS f 0 k) (f (0 + k)) (16 * k) (PS_lt f Hf.out 0 k) (by omega) (Hf.out _))
      have Hop4 := Lib.hid (or_join (PS f 4 k) (f (4 + k)) (16 * k) (PS_lt f Hf.out 4 k) (by omega) (Hf.out _))
      have c0 := HA.out.cell k
      rw [wv_get _ _ _ (by omega)] at c0
      have c4 := HA.out.cell (4 + k)
      rw [wv_get _ _ _ (by omega)] at c4
      rw [Nat.zero_add] at Hop0
      have HN0 : Hid (PS f 0 (k + 1) = PS f 0 k + f k * 2 ^ (16 * k)) := Lib.hid (by conv => lhs; unfold PS; rw [Nat.zero_add])
      have HN4 : Hid (PS f 4 (k + 1) = PS f 4 k + f (4 + k) * 2 ^ (16 * k)) := Lib.hid rfl
      have hx := Hf.out k
      have hy := Hf.out (4 + k)
      rw [← HN0.out] at Hop0
      rw [← HN4.out] at Hop4
      have z1 := HZ.out.cell 1
      have z2 := HZ.out.cell 2
      have zf := HZ.out.free
      simp at z1 z2
      have HZ2 : Hid (∀ w', Blk w' (W + 1 + 1) 29 #[.bool false, .int .u64 ((PS f 4 k : Nat) : Int), .int .u64 ((PS f 0 k : Nat) : Int)] → Blk (w'.setCell ⟨W + 1 + 1, 2, none⟩ (.int .u64 ((PS f 0 (k + 1) : Nat) : Int))) (W + 1 + 1) 29 #[.bool false, .int .u64 ((PS f 4 k : Nat) : Int), .int .u64 ((PS f 0 (k + 1) : Nat) : Int)]) := Lib.hid fun w' h => h.set 2 _
      have HZ3 : Hid (∀ w', Blk w' (W + 1 + 1) 29 #[.bool false, .int .u64 ((PS f 4 k : Nat) : Int), .int .u64 ((PS f 0 (k + 1) : Nat) : Int)] → Blk (w'.setCell ⟨W + 1 + 1, 1, none⟩ (.int .u64 ((PS f 4 (k + 1) : Nat) : Int))) (W + 1 + 1) 29 #[.bool false, .int .u64 ((PS f 4 (k + 1) : Nat) : Int), .int .u64 ((PS f 0 (k + 1) : Nat) : Int)]) := Lib.hid fun w' h => h.set 1 _
      have E0 : Hid (bits .or .u64 ((PS f 0 k : Nat) : Int) (IntKind.u64.wrap (((f k : Nat) : Int) * 2 ^ (16 * k))) = ((PS f 0 (k + 1) : Nat) : Int)) := Lib.hid (by
        rw [← Hop0.out]; congr 1
        exact shl_cast (f k) (16 * k) (Hf.out _) (by omega))
      have E4 : Hid (bits .or .u64 ((PS f 4 k : Nat) : Int) (IntKind.u64.wrap (((f (4 + k) : Nat) : Int) * 2 ^ (16 * k))) = ((PS f 4 (k + 1) : Nat) : Int)) := Lib.hid (by
        rw [← Hop4.out]; congr 1
        exact shl_cast (f (4 + k)) (16 * k) (Hf.out _) (by omega))
      clear Hop0 Hop4
      generalize hg1 : PS f 0 (k + 1) = l1 at *
      generalize hg4 : PS f 4 (k + 1) = h1 at *
      replace hg1 := Lib.hid hg1
      replace hg4 := Lib.hid hg4
      generalize PS f 0 k = l0 at *
      generalize PS f 4 k = h0 at *
      generalize f k = x at *
      generalize f (4 + k) = y at *
      obtain ⟨sh, hsh⟩ : ∃ sh, 16 * k = sh := ⟨_, rfl⟩
      rw [hsh] at E0 E4
      obtain ⟨j, hj⟩ : ∃ j, 4 + k = j := ⟨_, rfl⟩
      rw [hj] at c4
      have e1 : (16 : Int) * (k : Int) = (sh : Int) := by omega
      have e2 : (4 : Int) + (k : Int) = (j : Int) := by omega
      have e3 : IntKind.i64.wrap (sh : Int) = (sh : Int) := by rw [IntKind.wrap_i64]; omega
      have e4 : IntKind.i64.wrap (j : Int) = (j : Int) := by rw [IntKind.wrap_i64]; omega
      have e5 : IntKind.u64.wrap (x : Int) = (x : Int) := by rw [IntKind.wrap_u64]; omega
      have e6 : IntKind.u64.wrap (y : Int) = (y : Int) := by rw [IntKind.wrap_u64]; omega
      have b1 : (0 : Int) ≤ (k : Int) := by omega
      have b2 : (k : Int) < 9 := by omega
      have b3 : (0 : Int) ≤ (j : Int) := by omega
      have b4 : (j : Int) < 9 := by omega
      have b5 : ¬ (sh : Int) < 0 := by omega
      have b6 : sh < 64 := by omega
      clear HN0 HN4 hsh hj
      have r0 : World.cell? { heap := wr.heap, tape := wr.tape, drawn := wr.drawn + 1, os := wr.os, output := wr.output } ⟨W, k, none⟩ = some (.int .i64 (x : Int)) := c0
      have r1 : World.cell? { heap := wr.heap, tape := wr.tape, drawn := wr.drawn + 1, os := wr.os, output := wr.output } ⟨W + 1 + 1, 2, none⟩ = some (.int .u64 (l0 : Int)) := z2
      go_upto_region 5 with fail
      go_still_tail 11, (by kernel_rfl)
      rw [E0.out]
      change wpList _ _ _ _ _ wr.drew
      have HA5 : Hid (Blk (wr.drew.setCell ⟨W + 1 + 1, 2, none⟩ (.int .u64 (l1 : Int))) W 71 (wv six f)) := Lib.hid (Blk.far (HA.out.drewN 1) (by omega) _ _)
      have HR5 : Hid (Blk (wr.drew.setCell ⟨W + 1 + 1, 2, none⟩ (.int .u64 (l1 : Int))) (W + 1) 29 #[.bool false, .int .u64 0, .int .u64 0]) := Lib.hid (Blk.far (HR.out.drewN 1) (by omega) _ _)
      have HZ5 := Lib.hid (HZ2.out wr.drew (HZ.out.drewN 1))
      have HB5 : Hid (Below W w (wr.drew.setCell ⟨W + 1 + 1, 2, none⟩ (.int .u64 (l1 : Int)))) := Lib.hid (by
        have h1 := HB.out
        rw [← Hw0.out] at h1 ⊢
        exact below_set (below_drew h1) (by omega) _ _)
      have hd1 : wr.drew.cell? ⟨W + 1 + 1, 2, none⟩ = some (.int .u64 (l0 : Int)) := z2
      have hd2 : wr.drew.frozen? ⟨W + 1 + 1, 2, none⟩ = false := zf 2
      have q0 : (wr.drew.setCell ⟨W + 1 + 1, 2, none⟩ (.int .u64 (l1 : Int))).cell? ⟨W, j, none⟩ = some (.int .i64 (y : Int)) := by
        rw [HA5.out.cell j]; rw [← HA.out.cell j]; exact c4
      have q1 : (wr.drew.setCell ⟨W + 1 + 1, 2, none⟩ (.int .u64 (l1 : Int))).cell? ⟨W + 1 + 1, 1, none⟩ = some (.int .u64 (h0 : Int)) := by
        rw [HZ5.out.cell 1]; rfl
      clear r0 r1 c0 c4 z1 z2 zf HA HR HZ HB HZ2 E0
      generalize wr.drew = w5 at *
      go_upto_region 6 with fail
      clear hd1 hd2
      generalize w5.setCell ⟨W + 1 + 1, 2, none⟩ (.int .u64 (l1 : Int)) = w6 at *
      have r0 : World.cell? { heap := w6.heap, tape := w6.tape, drawn := w6.drawn + 1, os := w6.os, output := w6.output } ⟨W, j, none⟩ = some (.int .i64 (y : Int)) := q0
      have r1 : World.cell? { heap := w6.heap, tape := w6.tape, drawn := w6.drawn + 1, os := w6.os, output := w6.output } ⟨W + 1 + 1, 1, none⟩ = some (.int .u64 (h0 : Int)) := q1
      go_still_tail 12, (by kernel_rfl)
      rw [E4.out]
      change wpList _ _ _ _ _ w6.drew
      have HA7 : Hid (Blk (w6.drew.setCell ⟨W + 1 + 1, 1, none⟩ (.int .u64 (h1 : Int))) W 71 (wv six f)) := Lib.hid (Blk.far (HA5.out.drewN 1) (by omega) _ _)
      have HR7 : Hid (Blk (w6.drew.setCell ⟨W + 1 + 1, 1, none⟩ (.int .u64 (h1 : Int))) (W + 1) 29 #[.bool false, .int .u64 0, .int .u64 0]) := Lib.hid (Blk.far (HR5.out.drewN 1) (by omega) _ _)
      have HZ7 := Lib.hid (HZ3.out w6.drew (HZ5.out.drewN 1))
      have HB7 : Hid (Below W w (w6.drew.setCell ⟨W + 1 + 1, 1, none⟩ (.int .u64 (h1 : Int)))) := Lib.hid (by
        have h1 := HB5.out
        rw [← Hw0.out] at h1 ⊢
        exact below_set (below_drew h1) (by omega) _ _)
      have hd1 : w6.drew.cell? ⟨W + 1 + 1, 1, none⟩ = some (.int .u64 (h0 : Int)) := q1
      have hd2 : w6.drew.frozen? ⟨W + 1 + 1, 1, none⟩ = false := (HZ5.out.drewN 1).free 1
      clear r0 r1 q0 q1 HA5 HR5 HZ5 HB5 HZ3 E4 e1 e2 e3 e4 e5 e6
      generalize w6.drew = w7 at *
      go_wp2
      exact ⟨⟨k + 1, by omega, by go_num, HA7, HR7, Lib.hid (by rw [hg1.out, hg4.out]; exact HZ7.out), HB7⟩, by simp [intOf]; omega⟩
    · obtain rfl : k = 4 := by omega
      have c8 : wr.cell? ⟨W, 8, none⟩ = some (.int .i64 (if six = true then 1 else 0)) := by rw [HA.out.cell 8]; rfl
      generalize PS f 4 4 = h4 at *
      generalize PS f 0 4 = l4 at *
      have z0 := HZ.out.cell 0
      have z1 := HZ.out.cell 1
      have z2 := HZ.out.cell 2
      have zf := HZ.out.free
      have r0 := HR.out.cell 0
      have r1 := HR.out.cell 1
      have r2 := HR.out.cell 2
      have rf := HR.out.free
      simp at z0 z1 z2 r0 r1 r2
      have hne : W + 1 + 1 ≠ W + 1 := by omega
      cases six
      all_goals
        simp at c8
        go_wp2
        refine bodyPost_ret (v := .agg #[.bool _, .int .u64 (h4 : Int), .int .u64 (l4 : Int)]) (by simp [results, Tryd.results54, go_sem, z0, z1, z2, r0, r1, r2]) rfl ⟨rfl, ?_⟩
        rw [Hw0.out]
        repeat refine Below.setCell ?_ (by first | (simp; omega) | simp) _
        exact HB.out
end Go.Proofs.YtaamonhhclffcaaDoor
