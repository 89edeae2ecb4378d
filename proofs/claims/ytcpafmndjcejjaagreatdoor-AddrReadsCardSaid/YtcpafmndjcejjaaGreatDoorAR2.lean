/-
  Numbers below 65536 in hexadecimal digits: strconv.FormatUint, FormatInt at base 16.
-/
import Derived.Test.YtcpafmndjcejjaaGreatDoorAR1
import Derived.Lib.LaidTab
import Derived.Lib.SlBytesRow
set_option linter.unusedVariables false
namespace Go.Proofs.YtcpafmndjcejjaaGreatDoor
open Go.RowKit Go
set_option linter.unusedVariables false

/-- the table's cell for 16 -/
def T16 (w : World) : Prop := w.cell? ⟨7, 15, none⟩ = some (.int .u8 4)
theorem T16.below {w w' : World} (h : T16 w) (hb : Below w.heap.size w w') : T16 w' := Later.cell_of h ⟨w', hb⟩
theorem isPow_any (w : World) : Calls Tryz.prog 157 #[.int .i64 16] w fun e w' => e = .returned (.bool true) ∧ w' = w := by
  go_enter Tryz.func157, Tryz.ntmps157
  go_wp2
  go_ret
  exact ⟨rfl, rfl⟩
theorem tz64_any (w : World) (h : T16 w) : Calls Tryz.prog 174 #[.int .u64 16] w fun e w' => e = .returned (.int .i64 4) ∧ w' = w := by
  unfold T16 at h
  have e1 : bits .and .u64 16 (IntKind.u64.wrap (-16)) = 16 := by decide +kernel
  have e2 : IntKind.u64.wrap (16 * 285870213051353865) / 288230376151711744 = 15 := by decide +kernel
  go_enter Tryz.func174, Tryz.ntmps174
  go_wp2
  go_ret
  exact ⟨rfl, rfl⟩
theorem tz_any (w : World) (h : T16 w) : Calls Tryz.prog 158 #[.int .u64 16] w fun e w' => e = .returned (.int .i64 4) ∧ w' = w := by
  have H := Lib.hid (tz64_any w h)
  clear h
  go_enter Tryz.func158, Tryz.ntmps158
  go_wp2_with fail
  refine H.out.mono ?_
  rintro e w' ⟨rfl, rfl⟩
  go_wp2
  go_ret
  exact ⟨rfl, rfl⟩
abbrev DG : ByteArray := ⟨#[48, 49, 50, 51, 52, 53, 54, 55, 56, 57, 97, 98, 99, 100, 101, 102, 103, 104, 105, 106, 107, 108, 109, 110, 111, 112, 113, 114, 115, 116, 117, 118, 119, 120, 121, 122]⟩
/-- the digit n, below 16 -/
def dH (n : Nat) : UInt8 := if h : n < 36 then DG[n]'h else 0
theorem dH_at (n : Nat) (h : n < DG.size) : (DG[n]'h) = dH n := by
  unfold dH
  exact (dif_pos (show n < 36 from h)).symm
def hexL (u : Nat) : List UInt8 := if u < 16 then [dH u] else if u < 256 then [dH (u / 16), dH (u % 16)] else if u < 4096 then [dH (u / 256), dH (u / 16 % 16), dH (u % 16)] else [dH (u / 4096), dH (u / 256 % 16), dH (u / 16 % 16), dH (u % 16)]
def hexS (u : Nat) : ByteArray := ⟨(hexL u).toArray⟩
theorem and15 (n : Nat) : Go.bits .and .u64 (n : Int) 15 = ((n % 16 : Nat) : Int) := by
  have h127 : (BitVec.ofInt 64 15).toNat = 2 ^ 4 - 1 := by decide
  have key : (BitVec.ofInt 64 (n : Int) &&& BitVec.ofInt 64 15).toNat = n % 16 := by
    rw [BitVec.toNat_and, BitVec.toNat_ofInt, h127, Nat.and_two_pow_sub_one_eq_mod]
    omega
  show IntKind.u64.wrap ((BitVec.ofInt 64 (n : Int) &&& BitVec.ofInt 64 15).toNat : Int) = _
  rw [key, IntKind.wrap_u64]
  omega
set_option maxRecDepth 100000 in
set_option maxHeartbeats 2000000 in
theorem bits1_any (u : Nat) (w : World) (h0 : 0 ≤ u) (hu : u < 16) (h : T16 w) : Calls Tryz.prog 123 #[.slice none 0 0, .int .u64 (u : Int), .int .i64 16, .bool false, .bool false] w fun e w' => e = .returned (.tuple #[.slice none 0 0, .string (hexS u)]) ∧ Below w.heap.size w w' := by
  have HP := Lib.hid fun wx => isPow_any wx
  have HT := Lib.hid fun wx (hb : Below w.heap.size w wx) => tz_any wx (h.below hb)
  clear h
  have hs : hexS u = ⟨#[dH u]⟩ := by unfold hexS hexL; rw [if_pos (show u < 16 by omega)]
  rw [hs]
  clear hs
  go_enter Tryz.func123, Tryz.ntmps123
  go_wp2_with fail
  refine (HP.out _).mono ?_
  rintro e w' ⟨rfl, rfl⟩
  go_wp2_with fail
  refine (HT.out _ (below_alloc (Below.refl _ _) _)).mono ?_
  rintro e w' ⟨rfl, rfl⟩
  go_wp2_with fail
  refine wp_loop_rounds 6 ?_
  rw [rounds_succ]
  go_wp2_with (rw [rounds_succ])
  have hz : Tryz.zeroCells173.size = 65 := by kernel_rfl
  have key : (convert 65 9 (.slice (some ⟨w.heap.size, 64, none⟩) 1 1)).run Tryz.prog (w.alloc (.cells (Tryz.zeroCells173.setIfInBounds 64 (.int .u8 (((DG[u]'(show u < 36 by omega)).toNat : Nat) : Int))) 173 (0, 0))) = .ok (.string ⟨#[dH u]⟩) (w.alloc (.cells (Tryz.zeroCells173.setIfInBounds 64 (.int .u8 (((DG[u]'(show u < 36 by omega)).toNat : Nat) : Int))) 173 (0, 0))) :=
    Lib.run_convert_whole _ 65 5 9 (by kernel_rfl) (by kernel_rfl) (by kernel_rfl) w.heap.size 64 ⟨#[dH u]⟩ (by
      intro i hi
      have hi : i < 1 := hi
      rw [(Blk.new w 173 _).cell]
      have hi2 : i = 0 := by omega
      rcases hi2 with rfl <;> (simp [hz, dH_at] <;> rfl)) 1
  clear hz
  rw [key]
  clear key
  go_wp2
  go_ret2
  exact ⟨rfl, below_alloc (Below.refl _ _) _⟩
set_option maxRecDepth 100000 in
set_option maxHeartbeats 2000000 in
theorem bits2_any (u : Nat) (w : World) (h0 : 16 ≤ u) (hu : u < 256) (h : T16 w) : Calls Tryz.prog 123 #[.slice none 0 0, .int .u64 (u : Int), .int .i64 16, .bool false, .bool false] w fun e w' => e = .returned (.tuple #[.slice none 0 0, .string (hexS u)]) ∧ Below w.heap.size w w' := by
  have HP := Lib.hid fun wx => isPow_any wx
  have HT := Lib.hid fun wx (hb : Below w.heap.size w wx) => tz_any wx (h.below hb)
  clear h
  have hs : hexS u = ⟨#[dH (u / 16), dH (u % 16)]⟩ := by unfold hexS hexL; rw [if_neg (show ¬ u < 16 by omega), if_pos (show u < 256 by omega)]
  rw [hs]
  clear hs
  have a0 := and15 u
  obtain ⟨v0, hv0⟩ : ∃ v, u % 16 = v := ⟨_, rfl⟩
  rw [hv0] at a0 ⊢
  have bv0 : v0 < 16 := by omega
  obtain ⟨r1, hr1⟩ : ∃ r, u / 16 = r := ⟨_, rfl⟩
  have d0 : ((u : Int)) / 16 = (r1 : Int) := by omega
  try rw [hr1]
  have g1 : r1 < 16 := by omega
  clear hv0 hr1
  go_enter Tryz.func123, Tryz.ntmps123
  go_wp2_with fail
  refine (HP.out _).mono ?_
  rintro e w' ⟨rfl, rfl⟩
  go_wp2_with fail
  refine (HT.out _ (below_alloc (Below.refl _ _) _)).mono ?_
  rintro e w' ⟨rfl, rfl⟩
  go_wp2_with fail
  refine wp_loop_rounds 6 ?_
  rw [rounds_succ]
  go_wp2_with (rw [rounds_succ])
  have hz : Tryz.zeroCells173.size = 65 := by kernel_rfl
  have key : (convert 65 9 (.slice (some ⟨w.heap.size, 63, none⟩) 2 2)).run Tryz.prog (w.alloc (.cells ((Tryz.zeroCells173.setIfInBounds 64 (.int .u8 (((DG[v0]'(show v0 < 36 by omega)).toNat : Nat) : Int))).setIfInBounds 63 (.int .u8 (((DG[r1]'(show r1 < 36 by omega)).toNat : Nat) : Int))) 173 (0, 0))) = .ok (.string ⟨#[dH r1, dH v0]⟩) (w.alloc (.cells ((Tryz.zeroCells173.setIfInBounds 64 (.int .u8 (((DG[v0]'(show v0 < 36 by omega)).toNat : Nat) : Int))).setIfInBounds 63 (.int .u8 (((DG[r1]'(show r1 < 36 by omega)).toNat : Nat) : Int))) 173 (0, 0))) :=
    Lib.run_convert_whole _ 65 5 9 (by kernel_rfl) (by kernel_rfl) (by kernel_rfl) w.heap.size 63 ⟨#[dH r1, dH v0]⟩ (by
      intro i hi
      have hi : i < 2 := hi
      rw [(Blk.new w 173 _).cell]
      have hi2 : i = 0 ∨ i = 1 := by omega
      rcases hi2 with rfl | rfl <;> (simp [hz, dH_at] <;> rfl)) 2
  clear hz
  rw [key]
  clear key
  go_wp2
  go_ret2
  exact ⟨rfl, below_alloc (Below.refl _ _) _⟩
set_option maxRecDepth 100000 in
set_option maxHeartbeats 2000000 in
theorem bits3_any (u : Nat) (w : World) (h0 : 256 ≤ u) (hu : u < 4096) (h : T16 w) : Calls Tryz.prog 123 #[.slice none 0 0, .int .u64 (u : Int), .int .i64 16, .bool false, .bool false] w fun e w' => e = .returned (.tuple #[.slice none 0 0, .string (hexS u)]) ∧ Below w.heap.size w w' := by
  have HP := Lib.hid fun wx => isPow_any wx
  have HT := Lib.hid fun wx (hb : Below w.heap.size w wx) => tz_any wx (h.below hb)
  clear h
  have hs : hexS u = ⟨#[dH (u / 256), dH (u / 16 % 16), dH (u % 16)]⟩ := by unfold hexS hexL; rw [if_neg (show ¬ u < 16 by omega), if_neg (show ¬ u < 256 by omega), if_pos (show u < 4096 by omega)]
  rw [hs]
  clear hs
  have a0 := and15 u
  obtain ⟨v0, hv0⟩ : ∃ v, u % 16 = v := ⟨_, rfl⟩
  rw [hv0] at a0 ⊢
  have bv0 : v0 < 16 := by omega
  obtain ⟨r1, hr1⟩ : ∃ r, u / 16 = r := ⟨_, rfl⟩
  have d0 : ((u : Int)) / 16 = (r1 : Int) := by omega
  have a1 := and15 (u / 16)
  obtain ⟨v1, hv1⟩ : ∃ v, (u / 16) % 16 = v := ⟨_, rfl⟩
  rw [hv1] at a1 ⊢
  have bv1 : v1 < 16 := by omega
  obtain ⟨r2, hr2⟩ : ∃ r, u / 256 = r := ⟨_, rfl⟩
  have d1 : ((r1 : Int)) / 16 = (r2 : Int) := by omega
  rw [hr1] at a1
  try rw [hr1]
  have g1 : 16 ≤ r1 := by omega
  try rw [hr2]
  have g2 : r2 < 16 := by omega
  clear hv0 hv1 hr1 hr2
  go_enter Tryz.func123, Tryz.ntmps123
  go_wp2_with fail
  refine (HP.out _).mono ?_
  rintro e w' ⟨rfl, rfl⟩
  go_wp2_with fail
  refine (HT.out _ (below_alloc (Below.refl _ _) _)).mono ?_
  rintro e w' ⟨rfl, rfl⟩
  go_wp2_with fail
  refine wp_loop_rounds 6 ?_
  rw [rounds_succ]
  go_wp2_with (rw [rounds_succ])
  have hz : Tryz.zeroCells173.size = 65 := by kernel_rfl
  have key : (convert 65 9 (.slice (some ⟨w.heap.size, 62, none⟩) 3 3)).run Tryz.prog (w.alloc (.cells (((Tryz.zeroCells173.setIfInBounds 64 (.int .u8 (((DG[v0]'(show v0 < 36 by omega)).toNat : Nat) : Int))).setIfInBounds 63 (.int .u8 (((DG[v1]'(show v1 < 36 by omega)).toNat : Nat) : Int))).setIfInBounds 62 (.int .u8 (((DG[r2]'(show r2 < 36 by omega)).toNat : Nat) : Int))) 173 (0, 0))) = .ok (.string ⟨#[dH r2, dH v1, dH v0]⟩) (w.alloc (.cells (((Tryz.zeroCells173.setIfInBounds 64 (.int .u8 (((DG[v0]'(show v0 < 36 by omega)).toNat : Nat) : Int))).setIfInBounds 63 (.int .u8 (((DG[v1]'(show v1 < 36 by omega)).toNat : Nat) : Int))).setIfInBounds 62 (.int .u8 (((DG[r2]'(show r2 < 36 by omega)).toNat : Nat) : Int))) 173 (0, 0))) :=
    Lib.run_convert_whole _ 65 5 9 (by kernel_rfl) (by kernel_rfl) (by kernel_rfl) w.heap.size 62 ⟨#[dH r2, dH v1, dH v0]⟩ (by
      intro i hi
      have hi : i < 3 := hi
      rw [(Blk.new w 173 _).cell]
      have hi2 : i = 0 ∨ i = 1 ∨ i = 2 := by omega
      rcases hi2 with rfl | rfl | rfl <;> (simp [hz, dH_at] <;> rfl)) 3
  clear hz
  rw [key]
  clear key
  go_wp2
  go_ret2
  exact ⟨rfl, below_alloc (Below.refl _ _) _⟩
set_option maxRecDepth 100000 in
set_option maxHeartbeats 2000000 in
theorem bits4_any (u : Nat) (w : World) (h0 : 4096 ≤ u) (hu : u < 65536) (h : T16 w) : Calls Tryz.prog 123 #[.slice none 0 0, .int .u64 (u : Int), .int .i64 16, .bool false, .bool false] w fun e w' => e = .returned (.tuple #[.slice none 0 0, .string (hexS u)]) ∧ Below w.heap.size w w' := by
  have HP := Lib.hid fun wx => isPow_any wx
  have HT := Lib.hid fun wx (hb : Below w.heap.size w wx) => tz_any wx (h.below hb)
  clear h
  have hs : hexS u = ⟨#[dH (u / 4096), dH (u / 256 % 16), dH (u / 16 % 16), dH (u % 16)]⟩ := by unfold hexS hexL; rw [if_neg (show ¬ u < 16 by omega), if_neg (show ¬ u < 256 by omega), if_neg (show ¬ u < 4096 by omega)]
  rw [hs]
  clear hs
  have a0 := and15 u
  obtain ⟨v0, hv0⟩ : ∃ v, u % 16 = v := ⟨_, rfl⟩
  rw [hv0] at a0 ⊢
  have bv0 : v0 < 16 := by omega
  obtain ⟨r1, hr1⟩ : ∃ r, u / 16 = r := ⟨_, rfl⟩
  have d0 : ((u : Int)) / 16 = (r1 : Int) := by omega
  have a1 := and15 (u / 16)
  obtain ⟨v1, hv1⟩ : ∃ v, (u / 16) % 16 = v := ⟨_, rfl⟩
  rw [hv1] at a1 ⊢
  have bv1 : v1 < 16 := by omega
  obtain ⟨r2, hr2⟩ : ∃ r, u / 256 = r := ⟨_, rfl⟩
  have d1 : ((r1 : Int)) / 16 = (r2 : Int) := by omega
  rw [hr1] at a1
  have a2 := and15 (u / 256)
  obtain ⟨v2, hv2⟩ : ∃ v, (u / 256) % 16 = v := ⟨_, rfl⟩
  rw [hv2] at a2 ⊢
  have bv2 : v2 < 16 := by omega
  obtain ⟨r3, hr3⟩ : ∃ r, u / 4096 = r := ⟨_, rfl⟩
  have d2 : ((r2 : Int)) / 16 = (r3 : Int) := by omega
  rw [hr2] at a2
  try rw [hr1]
  have g1 : 16 ≤ r1 := by omega
  try rw [hr2]
  have g2 : 16 ≤ r2 := by omega
  try rw [hr3]
  have g3 : r3 < 16 := by omega
  clear hv0 hv1 hv2 hr1 hr2 hr3
  go_enter Tryz.func123, Tryz.ntmps123
  go_wp2_with fail
  refine (HP.out _).mono ?_
  rintro e w' ⟨rfl, rfl⟩
  go_wp2_with fail
  refine (HT.out _ (below_alloc (Below.refl _ _) _)).mono ?_
  rintro e w' ⟨rfl, rfl⟩
  go_wp2_with fail
  refine wp_loop_rounds 6 ?_
  rw [rounds_succ]
  go_wp2_with (rw [rounds_succ])
  have hz : Tryz.zeroCells173.size = 65 := by kernel_rfl
  have key : (convert 65 9 (.slice (some ⟨w.heap.size, 61, none⟩) 4 4)).run Tryz.prog (w.alloc (.cells ((((Tryz.zeroCells173.setIfInBounds 64 (.int .u8 (((DG[v0]'(show v0 < 36 by omega)).toNat : Nat) : Int))).setIfInBounds 63 (.int .u8 (((DG[v1]'(show v1 < 36 by omega)).toNat : Nat) : Int))).setIfInBounds 62 (.int .u8 (((DG[v2]'(show v2 < 36 by omega)).toNat : Nat) : Int))).setIfInBounds 61 (.int .u8 (((DG[r3]'(show r3 < 36 by omega)).toNat : Nat) : Int))) 173 (0, 0))) = .ok (.string ⟨#[dH r3, dH v2, dH v1, dH v0]⟩) (w.alloc (.cells ((((Tryz.zeroCells173.setIfInBounds 64 (.int .u8 (((DG[v0]'(show v0 < 36 by omega)).toNat : Nat) : Int))).setIfInBounds 63 (.int .u8 (((DG[v1]'(show v1 < 36 by omega)).toNat : Nat) : Int))).setIfInBounds 62 (.int .u8 (((DG[v2]'(show v2 < 36 by omega)).toNat : Nat) : Int))).setIfInBounds 61 (.int .u8 (((DG[r3]'(show r3 < 36 by omega)).toNat : Nat) : Int))) 173 (0, 0))) :=
    Lib.run_convert_whole _ 65 5 9 (by kernel_rfl) (by kernel_rfl) (by kernel_rfl) w.heap.size 61 ⟨#[dH r3, dH v2, dH v1, dH v0]⟩ (by
      intro i hi
      have hi : i < 4 := hi
      rw [(Blk.new w 173 _).cell]
      have hi2 : i = 0 ∨ i = 1 ∨ i = 2 ∨ i = 3 := by omega
      rcases hi2 with rfl | rfl | rfl | rfl <;> (simp [hz, dH_at] <;> rfl)) 4
  clear hz
  rw [key]
  clear key
  go_wp2
  go_ret2
  exact ⟨rfl, below_alloc (Below.refl _ _) _⟩
end Go.Proofs.YtcpafmndjcejjaaGreatDoor
