/-
  slices.Equal of two rows of ranges.
-/
import Derived.Test.YtaamonhhclffcaaPortRow
import Derived.Laws.StructEq
namespace Go.Proofs.Ytaamonhhclffcaa
open Go.RowKit Go
set_option linter.unusedVariables false

theorem guard_ports (x y : Operand) (a b c d : Int) (w : World) : (eqGuard .neq 64 x y (.agg #[.int .i64 a, .int .i64 b]) (.agg #[.int .i64 c, .int .i64 d])).run Try.prog w = .ok () w :=
  run_eqGuard_agg w _ _ _ _ _ _ (by kernel_rfl)
theorem neq_ports (a b c d : Int) (w : World) : (binOp .neq 64 (.agg #[.int .i64 a, .int .i64 b]) (.agg #[.int .i64 c, .int .i64 d])).run Try.prog w = .ok (.bool (decide ((a, b) ≠ (c, d)))) w := by
  have u3 := Try.underlying3
  have a3 := Try.isAgg3
  have z3 := Try.sizeOf3
  have hS : Try.prog.underlying 64 = some (.struct (Try.prog.fieldsOf 64)) := by kernel_rfl
  have hp : Try.prog.stoodInHeld 64 = false := by kernel_rfl
  rw [run_neq_struct, show (10000 : Nat) = 9999 + 1 from rfl, run_equalIn_agg w 9999 64 _ _ hS hp]
  simp only [Program.fieldsOf, Try.underlying64]
  go_simp
  by_cases h1 : a = c <;> by_cases h2 : b = d <;> simp [h1, h2]
set_option maxRecDepth 100000 in
set_option maxHeartbeats 1000000 in
theorem equal_ports (a1 a2 : Option Addr) (c1 c2 : Nat) (xs ys : List (Int × Int)) (w : World) (h1 : RdP w a1 xs) (h2 : RdP w a2 ys) :
    Calls Try.prog 37 #[.slice a1 xs.length c1, .slice a2 ys.length c2] w fun e w' => e = .returned (.bool (decide (xs = ys))) ∧ ∃ n, w' = w.drewN n := by
  have hs1 := h1.small
  generalize hn : xs.length = n
  rw [hn] at hs1
  have gp := guard_ports
  have np := neq_ports
  by_cases hl : xs.length = ys.length
  · rw [← hl, hn]
    have Hn := Lib.hid hn
    have Hl := Lib.hid hl
    clear hn hl
    go_enter Try.func37, Try.ntmps37
    go_wp2
    go_loopw [13] (fun i wr => ∃ (k q : Nat), k ≤ n ∧ i = .int .i64 k ∧ xs.take k = ys.take k ∧ wr = w.drewN q) (fun i _ => n - (intOf i).toNat)
    case atStart => exact ⟨0, 0, Nat.zero_le _, rfl, rfl, rfl⟩
    case round =>
      obtain ⟨k, q, hk, rfl, heq, rfl⟩ := hrel
      have Heq := Lib.hid heq
      clear heq
      by_cases hlt : k < n
      · obtain ⟨g1, o1, e1, hg1, c10, c11⟩ := h1.cell k (by rw [Hn.out]; exact hlt)
        obtain ⟨g2, o2, e2, hg2, c20, c21⟩ := h2.cell k (by rw [← Hl.out, Hn.out]; exact hlt)
        have hx : xs.take (k + 1) = xs.take k ++ [xs.getD k (0, 0)] := by
          rw [List.take_succ_eq_append_getElem (by rw [Hn.out]; exact hlt)]
          simp [List.getD, List.getElem?_eq_getElem (show k < xs.length by rw [Hn.out]; exact hlt)]
        have hy : ys.take (k + 1) = ys.take k ++ [ys.getD k (0, 0)] := by
          rw [List.take_succ_eq_append_getElem (by rw [← Hl.out, Hn.out]; exact hlt)]
          simp [List.getD, List.getElem?_eq_getElem (show k < ys.length by rw [← Hl.out, Hn.out]; exact hlt)]
        have hne : xs = ys → xs.getD k (0, 0) = ys.getD k (0, 0) := by rintro rfl; rfl
        have Hx := Lib.hid hx
        have Hy := Lib.hid hy
        have Hne := Lib.hid hne
        clear hx hy hne
        subst e1 e2
        generalize xs.getD k (0, 0) = x at *
        generalize ys.getD k (0, 0) = y at *
        obtain ⟨xa, xb⟩ := x
        obtain ⟨ya, yb⟩ := y
        simp only at c10 c11 c20 c21
        by_cases hxy : (xa, xb) = (ya, yb)
        · have hd : decide ((xa, xb) ≠ (ya, yb)) = false := by simp [hxy]
          have np' : ∀ w, (binOp .neq 64 (.agg #[.int .i64 xa, .int .i64 xb]) (.agg #[.int .i64 ya, .int .i64 yb])).run Try.prog w = .ok (.bool false) w := fun w => by rw [np, hd]
          have Hxy := Lib.hid hxy
          clear np hd hxy
          go_wp2_with fail
          go_quiet (fail)
          go_wp2_with fail
          refine ⟨⟨k + 1, _, by omega, by go_num, ?_, rfl⟩, by simp [intOf]; omega⟩
          rw [Hx.out, Hy.out, Heq.out, Hxy.out]
        · have hd : decide ((xa, xb) ≠ (ya, yb)) = true := by simp [hxy]
          have np' : ∀ w, (binOp .neq 64 (.agg #[.int .i64 xa, .int .i64 xb]) (.agg #[.int .i64 ya, .int .i64 yb])).run Try.prog w = .ok (.bool true) w := fun w => by rw [np, hd]
          have Hxy : Hid (decide (xs = ys) = false) := Lib.hid (decide_eq_false fun e => hxy (Hne.out e))
          clear np hd hxy
          go_wp2_with fail
          go_quiet (fail)
          go_wp2_with fail
          go_ret
          exact ⟨by rw [Hxy.out]; rfl, q + nq, by rw [World.drewN_drewN]⟩
      · obtain rfl : k = n := by omega
        have hxy : xs = ys := by
          have := Heq.out
          rwa [List.take_of_length_le (by rw [Hn.out]; exact Nat.le_refl _), List.take_of_length_le (by rw [← Hl.out, Hn.out]; exact Nat.le_refl _)] at this
        have Hxy := Lib.hid hxy
        clear hxy
        go_wp2
        go_ret
        exact ⟨by simp [Hxy.out], _, rfl⟩
  · have hxy : xs ≠ ys := fun e => hl (by rw [e])
    have Hxy := Lib.hid hxy
    have hnb : ((n : Int) != (ys.length : Int)) = true := by rw [bne_iff_ne]; omega
    have hnb2 : n ≠ ys.length := by omega
    clear hxy hn hl
    go_enter Try.func37, Try.ntmps37
    go_wp2
    go_ret
    exact ⟨by simp [Hxy.out], 0, rfl⟩
end Go.Proofs.Ytaamonhhclffcaa
