/-
  The text of a prefix: prefixText and PrefixText of the program, PrefixLine of the reference.
-/
import Derived.Test.YtcpafmndjcejjaaGreatDoorSE37
import Derived.Test.YtcpafmndjcejjaaGreatDoorSE38
import Derived.Test.YtcpafmndjcejjaaGreatDoorSE3
import Derived.Test.YtcpafmndjcejjaaGreatDoorSE4
set_option linter.unusedVariables false
namespace Go.Proofs.YtcpafmndjcejjaaGreatDoor
open Go.RowKit Go Go.Sort
set_option linter.unusedVariables false

/-- the text of a prefix -/
def pfxT (six : Bool) (hi lo n : Nat) : ByteArray := txtA six hi lo ++ ⟨#[47]⟩ ++ ⟨(Lib.decDigits n).toArray⟩
theorem dec_size {n : Nat} (h : n < 1000) : (⟨(Lib.decDigits n).toArray⟩ : ByteArray).size ≤ 3 := by
  show (Lib.decDigits n).toArray.size ≤ 3
  rw [List.size_toArray, Lib.decDigits_length]
  exact nDigits_lt (by decide) h
theorem pfxT_size {six : Bool} {hi lo n : Nat} (h : n < 1000) : (pfxT six hi lo n).size ≤ 804 := by
  unfold pfxT
  have h1 := txtA_size six hi lo
  have h2 := dec_size h
  rw [ByteArray.size_append, ByteArray.size_append]
  have : (⟨#[47]⟩ : ByteArray).size = 1 := rfl
  omega
set_option maxRecDepth 100000 in
set_option maxHeartbeats 4000000 in
theorem prefixText_any (six : Bool) (hi lo n : Nat) (w : World) (h1 : U64N hi) (h2 : U64N lo) (hf : aFault six (hi : Int) (lo : Int) = 0) (hn : n < 1000) (ht : Tabs w) :
    Calls Tryz.prog 37 #[.agg #[.bool six, .int .u64 (hi : Int), .int .u64 (lo : Int), .int .i64 (n : Int)]] w (Ret (.string (pfxT six hi lo n)) w) := by
  have HP : Hid (Blk (w.alloc (.cells #[.bool six, .int .u64 (hi : Int), .int .u64 (lo : Int), .int .i64 (n : Int)] 45 (0, 0))) w.heap.size 45 #[.bool six, .int .u64 (hi : Int), .int .u64 (lo : Int), .int .i64 (n : Int)]) := Lib.hid (Blk.new w _ _)
  have HB : Hid (Below w.heap.size w (w.alloc (.cells #[.bool six, .int .u64 (hi : Int), .int .u64 (lo : Int), .int .i64 (n : Int)] 45 (0, 0)))) := Lib.hid (below_alloc (Below.refl _ _) _)
  have HV := Lib.hid (ht.below (below_alloc (Below.refl _ _) (.cells #[.bool six, .int .u64 (hi : Int), .int .u64 (lo : Int), .int .i64 (n : Int)] 45 (0, 0))))
  have hsz := txtA_size six hi lo
  have hds := dec_size hn
  have HE : Hid (pfxT six hi lo n = txtA six hi lo ++ ⟨#[47]⟩ ++ ⟨(Lib.decDigits n).toArray⟩) := Lib.hid rfl
  have HT := Lib.hid fun wx (ht : Tabs wx) => textOf_any six hi lo wx h1 h2 hf ht
  have HI := Lib.hid fun wx (ht : Tabs wx) => itoa_any n hn wx ht.1
  generalize pfxT six hi lo n = PT at *
  generalize txtA six hi lo = TX at *
  obtain ⟨DX, hDX⟩ : ∃ q : ByteArray, ⟨(Lib.decDigits n).toArray⟩ = q := ⟨_, rfl⟩
  rw [hDX] at hds HE HI
  clear h1 h2 hf ht hDX
  go_enter Tryz.func37, Tryz.ntmps37
  go_upto_region 1 with fail
  generalize w.alloc (.cells #[.bool six, .int .u64 (hi : Int), .int .u64 (lo : Int), .int .i64 (n : Int)] 45 (0, 0)) = w1 at *
  obtain ⟨bx, hbx⟩ : ∃ q, w.heap.size = q := ⟨_, rfl⟩
  have Hbx := Lib.hid hbx
  rw [hbx] at HP HB ⊢
  clear hbx
  have hb1 : bx ≤ w1.heap.size := Nat.le_of_lt HP.out.lt
  have c0 := HP.out.cell 0
  have c1 := HP.out.cell 1
  have c2 := HP.out.cell 2
  have c3 := HP.out.cell 3
  simp at c0 c1 c2 c3
  have l0 := Later.cell_of c0
  have l1 := Later.cell_of c1
  have l2 := Later.cell_of c2
  have l3 := Later.cell_of c3
  have hQT := fun m : Later w1 => Calls.later m (HT.out m.1 (HV.out.below m.2))
  have hQI := fun m : Later w1 => Calls.later m (HI.out m.1 (HV.out.below m.2))
  have nb1 : ¬ 9223372036854775807 < TX.size + 1 := by omega
  have nb2 : ¬ 9223372036854775807 < TX.size + 1 + DX.size := by omega
  clear hsz hds
  refine wp_region_later (by kernel_rfl) (by kernel_rfl) ?_
  repeat (go_big_quiet_step (first | (go_at_call 25; exact hQT _) | (go_at_call 50; exact hQI _)))
  refine wpQuiet_nil ?_
  rintro w4 ⟨m4, hm4⟩
  have hb4 : Below w1.heap.size w1 w4 := by rw [hm4]; exact m4.2
  have HB4 := Lib.hid (HB.out.trans (hb4.mono hb1))
  clear hm4 m4 hb4
  rw [← HE.out]
  go_wp2_with fail
  go_ret
  exact ⟨rfl, by rw [Hbx.out]; exact HB4.out⟩
set_option maxRecDepth 100000 in
set_option maxHeartbeats 4000000 in
theorem prefixLine_any (six : Bool) (hi lo n : Nat) (w : World) (h1 : U64N hi) (h2 : U64N lo) (hf : aFault six (hi : Int) (lo : Int) = 0) (hn : n < 1000) (ht : Tabs w) :
    Calls Tryz.prog 42 #[.agg #[.bool six, .int .u64 (hi : Int), .int .u64 (lo : Int), .int .i64 (n : Int)]] w (Ret (.string (pfxT six hi lo n)) w) := by
  have HP : Hid (Blk (w.alloc (.cells #[.bool six, .int .u64 (hi : Int), .int .u64 (lo : Int), .int .i64 (n : Int)] 45 (0, 0))) w.heap.size 45 #[.bool six, .int .u64 (hi : Int), .int .u64 (lo : Int), .int .i64 (n : Int)]) := Lib.hid (Blk.new w _ _)
  have HB : Hid (Below w.heap.size w (w.alloc (.cells #[.bool six, .int .u64 (hi : Int), .int .u64 (lo : Int), .int .i64 (n : Int)] 45 (0, 0)))) := Lib.hid (below_alloc (Below.refl _ _) _)
  have HV := Lib.hid (ht.below (below_alloc (Below.refl _ _) (.cells #[.bool six, .int .u64 (hi : Int), .int .u64 (lo : Int), .int .i64 (n : Int)] 45 (0, 0))))
  have hsz := txtA_size six hi lo
  have hds := dec_size hn
  have HE : Hid (pfxT six hi lo n = txtA six hi lo ++ ⟨#[47]⟩ ++ ⟨(Lib.decDigits n).toArray⟩) := Lib.hid rfl
  have HT := Lib.hid fun wx (ht : Tabs wx) => addrText_any six hi lo wx h1 h2 hf ht
  have HI := Lib.hid fun wx (ht : Tabs wx) => itoa_any n hn wx ht.1
  generalize pfxT six hi lo n = PT at *
  generalize txtA six hi lo = TX at *
  obtain ⟨DX, hDX⟩ : ∃ q : ByteArray, ⟨(Lib.decDigits n).toArray⟩ = q := ⟨_, rfl⟩
  rw [hDX] at hds HE HI
  clear h1 h2 hf ht hDX
  go_enter Tryz.func42, Tryz.ntmps42
  go_upto_region 1 with fail
  generalize w.alloc (.cells #[.bool six, .int .u64 (hi : Int), .int .u64 (lo : Int), .int .i64 (n : Int)] 45 (0, 0)) = w1 at *
  obtain ⟨bx, hbx⟩ : ∃ q, w.heap.size = q := ⟨_, rfl⟩
  have Hbx := Lib.hid hbx
  rw [hbx] at HP HB ⊢
  clear hbx
  have hb1 : bx ≤ w1.heap.size := Nat.le_of_lt HP.out.lt
  have c0 := HP.out.cell 0
  have c1 := HP.out.cell 1
  have c2 := HP.out.cell 2
  have c3 := HP.out.cell 3
  simp at c0 c1 c2 c3
  have l0 := Later.cell_of c0
  have l1 := Later.cell_of c1
  have l2 := Later.cell_of c2
  have l3 := Later.cell_of c3
  have hQT := fun m : Later w1 => Calls.later m (HT.out m.1 (HV.out.below m.2))
  have hQI := fun m : Later w1 => Calls.later m (HI.out m.1 (HV.out.below m.2))
  have nb1 : ¬ 9223372036854775807 < TX.size + 1 := by omega
  have nb2 : ¬ 9223372036854775807 < TX.size + 1 + DX.size := by omega
  clear hsz hds
  refine wp_region_later (by kernel_rfl) (by kernel_rfl) ?_
  repeat (go_big_quiet_step (first | (go_at_call 21; exact hQT _) | (go_at_call 50; exact hQI _)))
  refine wpQuiet_nil ?_
  rintro w4 ⟨m4, hm4⟩
  have hb4 : Below w1.heap.size w1 w4 := by rw [hm4]; exact m4.2
  have HB4 := Lib.hid (HB.out.trans (hb4.mono hb1))
  clear hm4 m4 hb4
  rw [← HE.out]
  go_wp2_with fail
  go_ret
  exact ⟨rfl, by rw [Hbx.out]; exact HB4.out⟩
end Go.Proofs.YtcpafmndjcejjaaGreatDoor
