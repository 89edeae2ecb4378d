/-
  An address of eight groups as text: textOf of the program.
-/
import Derived.Test.YtcpafmndjcejjaaGreatDoorAR32
set_option linter.unusedVariables false
namespace Go.Proofs.YtcpafmndjcejjaaGreatDoor
open Go.RowKit Go
set_option linter.unusedVariables false

theorem run0_le2 (z : Nat → Bool) : ∀ k i, i ≤ 8 → i + run0 z k i ≤ 8
  | 0, i, h => by show i + 0 ≤ 8; omega
  | k + 1, i, h => by
    unfold run0
    by_cases hc : i < 8 ∧ z i = true
    · rw [if_pos hc]
      have := run0_le2 z k (i + 1) (by omega)
      omega
    · rw [if_neg hc]; omega
theorem zF_bd (z : Nat → Bool) : ∀ k i f m, f + m ≤ 8 → (zF z k i f m).1 + (zF z k i f m).2 ≤ 8
  | 0, i, f, m, h => h
  | k + 1, i, f, m, h => by
    unfold zF
    by_cases hc : i < 8
    · rw [if_pos hc]
      apply zF_bd
      have := run0_le2 z 8 i (by omega)
      split <;> omega
    · rw [if_neg hc]; exact h
theorem hexS_short (n : Nat) : (hexS n).data.toList.length ≤ 30 := by
  unfold hexS hexL
  split
  · simp
  · split
    · simp
    · split <;> simp
def sixL (g : Nat → Nat) : List ByteArray := [hexS (g 7), hexS (g 6), hexS (g 5), hexS (g 4), hexS (g 3), hexS (g 2), hexS (g 1), hexS (g 0)]
theorem sixL_short (g : Nat → Nat) : Short (sixL g) := by
  refine ⟨by simp [sixL], fun x hx => ?_⟩
  simp [sixL] at hx
  rcases hx with rfl | rfl | rfl | rfl | rfl | rfl | rfl | rfl <;> exact hexS_short _
theorem Short.take {L : List ByteArray} (h : Short L) (n : Nat) : Short (L.take n) := ⟨by have := h.1; simp; omega, fun x hx => h.2 x (List.mem_of_mem_take hx)⟩
theorem Short.drop {L : List ByteArray} (h : Short L) (n : Nat) : Short (L.drop n) := ⟨by have := h.1; simp; omega, fun x hx => h.2 x (List.mem_of_mem_drop hx)⟩
theorem joinS_size {L : List ByteArray} (hs : Short L) (b : UInt8) : (joinS L ⟨#[b]⟩).size ≤ 248 := by
  have hl := interc_len ((⟨#[b]⟩ : ByteArray).data.toList) 30 (L.map (·.data.toList)) (fun x hx => by
    obtain ⟨y, hy, rfl⟩ := List.mem_map.1 hx
    exact hs.2 y hy)
  rw [List.length_map] at hl
  have h1 := hs.1
  have hsep : ((⟨#[b]⟩ : ByteArray).data.toList).length = 1 := rfl
  rw [hsep] at hl
  show (Lib.join _ _).toArray.size ≤ 248
  rw [List.size_toArray]
  omega
theorem add_str (a b : ByteArray) (ha : a.size ≤ 1000000) (hb : b.size ≤ 1000000) (w : World) : (binOp .add 9 (.string a) (.string b)).run Tryz.prog w = .ok (.string (a ++ b)) w := by
  have ha' : (a.size : Int) ≤ 8388608 := by omega
  have hb' : (b.size : Int) ≤ 8388608 := by omega
  simp [binOp, run_string_add, *]
def gapS (L : List ByteArray) (f m : Nat) : ByteArray := joinS (L.take f) ⟨#[58]⟩ ++ ⟨#[58, 58]⟩ ++ joinS (L.drop (f + m)) ⟨#[58]⟩
def sixT (g : Nat → Nat) : ByteArray := if (zF (zB g) 8 0 0 0).2 < 2 then joinS (sixL g) ⟨#[58]⟩ else gapS (sixL g) (zF (zB g) 8 0 0 0).1 (zF (zB g) 8 0 0 0).2
theorem idx8_0 (a0 a1 a2 a3 a4 a5 a6 a7 : Int) (w : World) : (Instr.index 60 (.agg #[.int .u64 a0, .int .u64 a1, .int .u64 a2, .int .u64 a3, .int .u64 a4, .int .u64 a5, .int .u64 a6, .int .u64 a7]) (.int .i64 0)).run Tryz.prog w = .ok (.int .u64 a0) w := by
  have hu : Tryz.prog.underlying 60 = some (.array 8 27) := by kernel_rfl
  have hu2 : Tryz.prog.underlying 27 = some (.int .u64) := by kernel_rfl
  have hc : Tryz.prog.cellsOf 27 = 1 := by kernel_rfl
  simp [Instr.index, run_underlying hu, asIntOf, part, go_sem]
theorem idx8_1 (a0 a1 a2 a3 a4 a5 a6 a7 : Int) (w : World) : (Instr.index 60 (.agg #[.int .u64 a0, .int .u64 a1, .int .u64 a2, .int .u64 a3, .int .u64 a4, .int .u64 a5, .int .u64 a6, .int .u64 a7]) (.int .i64 1)).run Tryz.prog w = .ok (.int .u64 a1) w := by
  have hu : Tryz.prog.underlying 60 = some (.array 8 27) := by kernel_rfl
  have hu2 : Tryz.prog.underlying 27 = some (.int .u64) := by kernel_rfl
  have hc : Tryz.prog.cellsOf 27 = 1 := by kernel_rfl
  simp [Instr.index, run_underlying hu, asIntOf, part, go_sem]
theorem idx8_2 (a0 a1 a2 a3 a4 a5 a6 a7 : Int) (w : World) : (Instr.index 60 (.agg #[.int .u64 a0, .int .u64 a1, .int .u64 a2, .int .u64 a3, .int .u64 a4, .int .u64 a5, .int .u64 a6, .int .u64 a7]) (.int .i64 2)).run Tryz.prog w = .ok (.int .u64 a2) w := by
  have hu : Tryz.prog.underlying 60 = some (.array 8 27) := by kernel_rfl
  have hu2 : Tryz.prog.underlying 27 = some (.int .u64) := by kernel_rfl
  have hc : Tryz.prog.cellsOf 27 = 1 := by kernel_rfl
  simp [Instr.index, run_underlying hu, asIntOf, part, go_sem]
theorem idx8_3 (a0 a1 a2 a3 a4 a5 a6 a7 : Int) (w : World) : (Instr.index 60 (.agg #[.int .u64 a0, .int .u64 a1, .int .u64 a2, .int .u64 a3, .int .u64 a4, .int .u64 a5, .int .u64 a6, .int .u64 a7]) (.int .i64 3)).run Tryz.prog w = .ok (.int .u64 a3) w := by
  have hu : Tryz.prog.underlying 60 = some (.array 8 27) := by kernel_rfl
  have hu2 : Tryz.prog.underlying 27 = some (.int .u64) := by kernel_rfl
  have hc : Tryz.prog.cellsOf 27 = 1 := by kernel_rfl
  simp [Instr.index, run_underlying hu, asIntOf, part, go_sem]
theorem idx8_4 (a0 a1 a2 a3 a4 a5 a6 a7 : Int) (w : World) : (Instr.index 60 (.agg #[.int .u64 a0, .int .u64 a1, .int .u64 a2, .int .u64 a3, .int .u64 a4, .int .u64 a5, .int .u64 a6, .int .u64 a7]) (.int .i64 4)).run Tryz.prog w = .ok (.int .u64 a4) w := by
  have hu : Tryz.prog.underlying 60 = some (.array 8 27) := by kernel_rfl
  have hu2 : Tryz.prog.underlying 27 = some (.int .u64) := by kernel_rfl
  have hc : Tryz.prog.cellsOf 27 = 1 := by kernel_rfl
  simp [Instr.index, run_underlying hu, asIntOf, part, go_sem]
theorem idx8_5 (a0 a1 a2 a3 a4 a5 a6 a7 : Int) (w : World) : (Instr.index 60 (.agg #[.int .u64 a0, .int .u64 a1, .int .u64 a2, .int .u64 a3, .int .u64 a4, .int .u64 a5, .int .u64 a6, .int .u64 a7]) (.int .i64 5)).run Tryz.prog w = .ok (.int .u64 a5) w := by
  have hu : Tryz.prog.underlying 60 = some (.array 8 27) := by kernel_rfl
  have hu2 : Tryz.prog.underlying 27 = some (.int .u64) := by kernel_rfl
  have hc : Tryz.prog.cellsOf 27 = 1 := by kernel_rfl
  simp [Instr.index, run_underlying hu, asIntOf, part, go_sem]
theorem idx8_6 (a0 a1 a2 a3 a4 a5 a6 a7 : Int) (w : World) : (Instr.index 60 (.agg #[.int .u64 a0, .int .u64 a1, .int .u64 a2, .int .u64 a3, .int .u64 a4, .int .u64 a5, .int .u64 a6, .int .u64 a7]) (.int .i64 6)).run Tryz.prog w = .ok (.int .u64 a6) w := by
  have hu : Tryz.prog.underlying 60 = some (.array 8 27) := by kernel_rfl
  have hu2 : Tryz.prog.underlying 27 = some (.int .u64) := by kernel_rfl
  have hc : Tryz.prog.cellsOf 27 = 1 := by kernel_rfl
  simp [Instr.index, run_underlying hu, asIntOf, part, go_sem]
theorem idx8_7 (a0 a1 a2 a3 a4 a5 a6 a7 : Int) (w : World) : (Instr.index 60 (.agg #[.int .u64 a0, .int .u64 a1, .int .u64 a2, .int .u64 a3, .int .u64 a4, .int .u64 a5, .int .u64 a6, .int .u64 a7]) (.int .i64 7)).run Tryz.prog w = .ok (.int .u64 a7) w := by
  have hu : Tryz.prog.underlying 60 = some (.array 8 27) := by kernel_rfl
  have hu2 : Tryz.prog.underlying 27 = some (.int .u64) := by kernel_rfl
  have hc : Tryz.prog.cellsOf 27 = 1 := by kernel_rfl
  simp [Instr.index, run_underlying hu, asIntOf, part, go_sem]
theorem slice_from (g c D : Nat) (W : World) (hD : D ≤ 8) (hc : 8 ≤ c) : (Instr.slice 76 (.slice (some ⟨g, 0, none⟩) 8 c) (some (.int .i64 (D : Int))) none none).run Tryz.prog W = .ok (.slice (some ⟨g, if c = D then 0 else D, none⟩) (8 - D) (c - D)) W := by
  have ht : Tryz.prog.underlying 76 = some (.slice (Tryz.prog.elem 76)) := by kernel_rfl
  have he : Tryz.prog.elem 76 = 9 := by kernel_rfl
  rw [run_slice_l W 76 (some ⟨g, 0, none⟩) 8 c ht .i64 (D : Int) (by omega) (by omega), he, Tryz.sizeOf9]
  by_cases h : c = D
  · simp [Result.andThen, sliced, h]
  · by_cases h0 : D = 0
    · subst h0
      simp [Result.andThen, sliced, Addr.add, h]
    · simp [Result.andThen, sliced, Addr.add, h, h0]
set_option maxRecDepth 100000 in
set_option maxHeartbeats 2000000 in
theorem textSix_any (hi lo : Nat) (w : World) (h1 : hi < 18446744073709551616) (h2 : lo < 18446744073709551616) (ht : Tabs w) : Calls Tryz.prog 25 #[.agg #[.bool true, .int .u64 (hi : Int), .int .u64 (lo : Int)]] w (Ret (.string (sixT (dg hi lo))) w) := by
  have HGr := Lib.hid fun wx => groupsA_any hi lo wx h1 h2
  have HZs := Lib.hid fun wx => zeros_any (dg hi lo) wx
  have hbd := zF_bd (zB (dg hi lo)) 8 0 0 0 (by decide)
  have hls := sixL_short (dg hi lo)
  have HR : Hid (sixT (dg hi lo) = if (zF (zB (dg hi lo)) 8 0 0 0).2 < 2 then joinS (sixL (dg hi lo)) ⟨#[58]⟩ else gapS (sixL (dg hi lo)) (zF (zB (dg hi lo)) 8 0 0 0).1 (zF (zB (dg hi lo)) 8 0 0 0).2) := Lib.hid rfl
  generalize sixT (dg hi lo) = R at *
  generalize (zF (zB (dg hi lo)) 8 0 0 0).1 = F at *
  generalize (zF (zB (dg hi lo)) 8 0 0 0).2 = M at *
  unfold G8 at HGr HZs
  unfold sixL at hls HR
  have hd0 := dg_lt hi lo 0
  generalize dg hi lo 0 = g0 at *
  have H0 := Lib.hid fun wx (ht : Tabs wx) => fmtU16_any g0 wx hd0 ht.2
  generalize hexS g0 = d0 at *
  have hd1 := dg_lt hi lo 1
  generalize dg hi lo 1 = g1 at *
  have H1 := Lib.hid fun wx (ht : Tabs wx) => fmtU16_any g1 wx hd1 ht.2
  generalize hexS g1 = d1 at *
  have hd2 := dg_lt hi lo 2
  generalize dg hi lo 2 = g2 at *
  have H2 := Lib.hid fun wx (ht : Tabs wx) => fmtU16_any g2 wx hd2 ht.2
  generalize hexS g2 = d2 at *
  have hd3 := dg_lt hi lo 3
  generalize dg hi lo 3 = g3 at *
  have H3 := Lib.hid fun wx (ht : Tabs wx) => fmtU16_any g3 wx hd3 ht.2
  generalize hexS g3 = d3 at *
  have hd4 := dg_lt hi lo 4
  generalize dg hi lo 4 = g4 at *
  have H4 := Lib.hid fun wx (ht : Tabs wx) => fmtU16_any g4 wx hd4 ht.2
  generalize hexS g4 = d4 at *
  have hd5 := dg_lt hi lo 5
  generalize dg hi lo 5 = g5 at *
  have H5 := Lib.hid fun wx (ht : Tabs wx) => fmtU16_any g5 wx hd5 ht.2
  generalize hexS g5 = d5 at *
  have hd6 := dg_lt hi lo 6
  generalize dg hi lo 6 = g6 at *
  have H6 := Lib.hid fun wx (ht : Tabs wx) => fmtU16_any g6 wx hd6 ht.2
  generalize hexS g6 = d6 at *
  have hd7 := dg_lt hi lo 7
  generalize dg hi lo 7 = g7 at *
  have H7 := Lib.hid fun wx (ht : Tabs wx) => fmtU16_any g7 wx hd7 ht.2
  generalize hexS g7 = d7 at *
  have HP : Hid (Blk (w.alloc (.cells #[.bool true, .int .u64 (hi : Int), .int .u64 (lo : Int)] 29 (0, 0))) w.heap.size 29 #[.bool true, .int .u64 (hi : Int), .int .u64 (lo : Int)]) := Lib.hid (Blk.new w _ _)
  have HB : Hid (Below w.heap.size w (w.alloc (.cells #[.bool true, .int .u64 (hi : Int), .int .u64 (lo : Int)] 29 (0, 0)))) := Lib.hid (below_alloc (Below.refl _ _) _)
  have HT := Lib.hid (ht.below HB.out)
  have HLs := Lib.hid hls
  clear ht hls
  have i0 := fun wx => idx8_0 (g7 : Int) (g6 : Int) (g5 : Int) (g4 : Int) (g3 : Int) (g2 : Int) (g1 : Int) (g0 : Int) wx
  have i1 := fun wx => idx8_1 (g7 : Int) (g6 : Int) (g5 : Int) (g4 : Int) (g3 : Int) (g2 : Int) (g1 : Int) (g0 : Int) wx
  have i2 := fun wx => idx8_2 (g7 : Int) (g6 : Int) (g5 : Int) (g4 : Int) (g3 : Int) (g2 : Int) (g1 : Int) (g0 : Int) wx
  have i3 := fun wx => idx8_3 (g7 : Int) (g6 : Int) (g5 : Int) (g4 : Int) (g3 : Int) (g2 : Int) (g1 : Int) (g0 : Int) wx
  have i4 := fun wx => idx8_4 (g7 : Int) (g6 : Int) (g5 : Int) (g4 : Int) (g3 : Int) (g2 : Int) (g1 : Int) (g0 : Int) wx
  have i5 := fun wx => idx8_5 (g7 : Int) (g6 : Int) (g5 : Int) (g4 : Int) (g3 : Int) (g2 : Int) (g1 : Int) (g0 : Int) wx
  have i6 := fun wx => idx8_6 (g7 : Int) (g6 : Int) (g5 : Int) (g4 : Int) (g3 : Int) (g2 : Int) (g1 : Int) (g0 : Int) wx
  have i7 := fun wx => idx8_7 (g7 : Int) (g6 : Int) (g5 : Int) (g4 : Int) (g3 : Int) (g2 : Int) (g1 : Int) (g0 : Int) wx
  go_enter Tryz.func25, Tryz.ntmps25
  go_upto_region 1 with fail
  generalize w.alloc (.cells #[.bool true, .int .u64 (hi : Int), .int .u64 (lo : Int)] 29 (0, 0)) = w0 at *
  have p0 := HP.out.cell 0
  have p1 := HP.out.cell 1
  have p2 := HP.out.cell 2
  simp at p0 p1 p2
  go_wp2_with fail
  refine (HGr.out _).mono ?_
  rintro e w1 ⟨rfl, hb⟩
  have HB2 : Hid (Below w.heap.size w (w1.alloc (.cells #[.int .u64 (g7 : Int), .int .u64 (g6 : Int), .int .u64 (g5 : Int), .int .u64 (g4 : Int), .int .u64 (g3 : Int), .int .u64 (g2 : Int), .int .u64 (g1 : Int), .int .u64 (g0 : Int)] 60 (0, 0)))) := Lib.hid (below_alloc (HB.out.trans (hb.mono HB.out.size)) _)
  have HT2 := Lib.hid ((HT.out.below hb).below (below_alloc (Below.refl _ _) (.cells #[.int .u64 (g7 : Int), .int .u64 (g6 : Int), .int .u64 (g5 : Int), .int .u64 (g4 : Int), .int .u64 (g3 : Int), .int .u64 (g2 : Int), .int .u64 (g1 : Int), .int .u64 (g0 : Int)] 60 (0, 0))))
  have HG2 : Hid (Blk (w1.alloc (.cells #[.int .u64 (g7 : Int), .int .u64 (g6 : Int), .int .u64 (g5 : Int), .int .u64 (g4 : Int), .int .u64 (g3 : Int), .int .u64 (g2 : Int), .int .u64 (g1 : Int), .int .u64 (g0 : Int)] 60 (0, 0))) w1.heap.size 60 #[.int .u64 (g7 : Int), .int .u64 (g6 : Int), .int .u64 (g5 : Int), .int .u64 (g4 : Int), .int .u64 (g3 : Int), .int .u64 (g2 : Int), .int .u64 (g1 : Int), .int .u64 (g0 : Int)]) := Lib.hid (Blk.new w1 _ _)
  clear hb HB HT HP p0 p1 p2 HGr
  go_upto_region 10 with fail
  generalize w1.alloc (.cells #[.int .u64 (g7 : Int), .int .u64 (g6 : Int), .int .u64 (g5 : Int), .int .u64 (g4 : Int), .int .u64 (g3 : Int), .int .u64 (g2 : Int), .int .u64 (g1 : Int), .int .u64 (g0 : Int)] 60 (0, 0)) = w2 at *
  generalize w1.heap.size = V at *
  have q0 := HG2.out.cell 0
  have q1 := HG2.out.cell 1
  have q2 := HG2.out.cell 2
  have q3 := HG2.out.cell 3
  have q4 := HG2.out.cell 4
  have q5 := HG2.out.cell 5
  have q6 := HG2.out.cell 6
  have q7 := HG2.out.cell 7
  simp at q0 q1 q2 q3 q4 q5 q6 q7
  go_wp2_with fail
  go_loopw [6, 8, 34] (fun v iv i wr => ∃ k : Nat, k ≤ 8 ∧ i = .int .i64 k ∧ Hid (OwnS wr w2.heap.size v (([d7, d6, d5, d4, d3, d2, d1, d0] : List ByteArray).take k)) ∧ Hid (Below w2.heap.size w2 wr)) (fun _ _ i _ => 8 - (intOf i).toNat)
  case atStart => exact ⟨0, Nat.zero_le _, rfl, Lib.hid (OwnS.nil _ _), Lib.hid (Below.refl _ _)⟩
  case round =>
    clear q0 q1 q2 q3 q4 q5 q6 q7
    obtain ⟨k, hk, rfl, HO, HBr⟩ := hrel
    by_cases hlt : k < 8
    · have hk8 : k = 0 ∨ k = 1 ∨ k = 2 ∨ k = 3 ∨ k = 4 ∨ k = 5 ∨ k = 6 ∨ k = 7 := by omega
      have HTr := Lib.hid (HT2.out.below HBr.out)
      rcases hk8 with rfl | rfl | rfl | rfl | rfl | rfl | rfl | rfl
      · go_wp2_with fail
        refine (H7.out _ HTr.out).mono ?_
        rintro e w' ⟨rfl, hb⟩
        have HO1 := Lib.hid (HO.out.later hb)
        have HBr1 := Lib.hid (HBr.out.trans (hb.mono HBr.out.size))
        clear hb HO HBr HTr
        go_wp2_with (at_builtin; refine wpList_app strE rfl (.tmp 37) (.tmp 40) rfl rfl (World.ownsRow.alloc HO1.out _) rfl (src_one_new _ _ _) ?c1 ?c2 ?c3 ?c4 ?_)
        case c1 => first | rfl | (intro u hu; simp at hu; subst hu; rfl)
        case c2 => unfold maxLen; simp
        case c3 => simp
        case c4 => have := HBr1.out.size; simp; omega
        intro v' w4 hO hG
        have HO' := Lib.hid (show OwnS w4 w2.heap.size v' (([d7, d6, d5, d4, d3, d2, d1, d0] : List ByteArray).take 1) from hO)
        have HB' : Hid (Below w2.heap.size w2 w4) := Lib.hid ((Below.alloc HBr1.out HBr1.out.size _).trans (hG.below (by have := HBr1.out.size; simp; omega) (own_base HO1.out)))
        clear hO hG
        go_wp2
        exact ⟨⟨1, by decide, rfl, HO', HB'⟩, by simp [intOf]⟩
      · go_wp2_with fail
        refine (H6.out _ HTr.out).mono ?_
        rintro e w' ⟨rfl, hb⟩
        have HO1 := Lib.hid (HO.out.later hb)
        have HBr1 := Lib.hid (HBr.out.trans (hb.mono HBr.out.size))
        clear hb HO HBr HTr
        go_wp2_with (at_builtin; refine wpList_app strE rfl (.tmp 37) (.tmp 40) rfl rfl (World.ownsRow.alloc HO1.out _) rfl (src_one_new _ _ _) ?c1 ?c2 ?c3 ?c4 ?_)
        case c1 => first | rfl | (intro u hu; simp at hu; subst hu; rfl)
        case c2 => unfold maxLen; simp
        case c3 => simp
        case c4 => have := HBr1.out.size; simp; omega
        intro v' w4 hO hG
        have HO' := Lib.hid (show OwnS w4 w2.heap.size v' (([d7, d6, d5, d4, d3, d2, d1, d0] : List ByteArray).take 2) from hO)
        have HB' : Hid (Below w2.heap.size w2 w4) := Lib.hid ((Below.alloc HBr1.out HBr1.out.size _).trans (hG.below (by have := HBr1.out.size; simp; omega) (own_base HO1.out)))
        clear hO hG
        go_wp2
        exact ⟨⟨2, by decide, rfl, HO', HB'⟩, by simp [intOf]⟩
      · go_wp2_with fail
        refine (H5.out _ HTr.out).mono ?_
        rintro e w' ⟨rfl, hb⟩
        have HO1 := Lib.hid (HO.out.later hb)
        have HBr1 := Lib.hid (HBr.out.trans (hb.mono HBr.out.size))
        clear hb HO HBr HTr
        go_wp2_with (at_builtin; refine wpList_app strE rfl (.tmp 37) (.tmp 40) rfl rfl (World.ownsRow.alloc HO1.out _) rfl (src_one_new _ _ _) ?c1 ?c2 ?c3 ?c4 ?_)
        case c1 => first | rfl | (intro u hu; simp at hu; subst hu; rfl)
        case c2 => unfold maxLen; simp
        case c3 => simp
        case c4 => have := HBr1.out.size; simp; omega
        intro v' w4 hO hG
        have HO' := Lib.hid (show OwnS w4 w2.heap.size v' (([d7, d6, d5, d4, d3, d2, d1, d0] : List ByteArray).take 3) from hO)
        have HB' : Hid (Below w2.heap.size w2 w4) := Lib.hid ((Below.alloc HBr1.out HBr1.out.size _).trans (hG.below (by have := HBr1.out.size; simp; omega) (own_base HO1.out)))
        clear hO hG
        go_wp2
        exact ⟨⟨3, by decide, rfl, HO', HB'⟩, by simp [intOf]⟩
      · go_wp2_with fail
        refine (H4.out _ HTr.out).mono ?_
        rintro e w' ⟨rfl, hb⟩
        have HO1 := Lib.hid (HO.out.later hb)
        have HBr1 := Lib.hid (HBr.out.trans (hb.mono HBr.out.size))
        clear hb HO HBr HTr
        go_wp2_with (at_builtin; refine wpList_app strE rfl (.tmp 37) (.tmp 40) rfl rfl (World.ownsRow.alloc HO1.out _) rfl (src_one_new _ _ _) ?c1 ?c2 ?c3 ?c4 ?_)
        case c1 => first | rfl | (intro u hu; simp at hu; subst hu; rfl)
        case c2 => unfold maxLen; simp
        case c3 => simp
        case c4 => have := HBr1.out.size; simp; omega
        intro v' w4 hO hG
        have HO' := Lib.hid (show OwnS w4 w2.heap.size v' (([d7, d6, d5, d4, d3, d2, d1, d0] : List ByteArray).take 4) from hO)
        have HB' : Hid (Below w2.heap.size w2 w4) := Lib.hid ((Below.alloc HBr1.out HBr1.out.size _).trans (hG.below (by have := HBr1.out.size; simp; omega) (own_base HO1.out)))
        clear hO hG
        go_wp2
        exact ⟨⟨4, by decide, rfl, HO', HB'⟩, by simp [intOf]⟩
      · go_wp2_with fail
        refine (H3.out _ HTr.out).mono ?_
        rintro e w' ⟨rfl, hb⟩
        have HO1 := Lib.hid (HO.out.later hb)
        have HBr1 := Lib.hid (HBr.out.trans (hb.mono HBr.out.size))
        clear hb HO HBr HTr
        go_wp2_with (at_builtin; refine wpList_app strE rfl (.tmp 37) (.tmp 40) rfl rfl (World.ownsRow.alloc HO1.out _) rfl (src_one_new _ _ _) ?c1 ?c2 ?c3 ?c4 ?_)
        case c1 => first | rfl | (intro u hu; simp at hu; subst hu; rfl)
        case c2 => unfold maxLen; simp
        case c3 => simp
        case c4 => have := HBr1.out.size; simp; omega
        intro v' w4 hO hG
        have HO' := Lib.hid (show OwnS w4 w2.heap.size v' (([d7, d6, d5, d4, d3, d2, d1, d0] : List ByteArray).take 5) from hO)
        have HB' : Hid (Below w2.heap.size w2 w4) := Lib.hid ((Below.alloc HBr1.out HBr1.out.size _).trans (hG.below (by have := HBr1.out.size; simp; omega) (own_base HO1.out)))
        clear hO hG
        go_wp2
        exact ⟨⟨5, by decide, rfl, HO', HB'⟩, by simp [intOf]⟩
      · go_wp2_with fail
        refine (H2.out _ HTr.out).mono ?_
        rintro e w' ⟨rfl, hb⟩
        have HO1 := Lib.hid (HO.out.later hb)
        have HBr1 := Lib.hid (HBr.out.trans (hb.mono HBr.out.size))
        clear hb HO HBr HTr
        go_wp2_with (at_builtin; refine wpList_app strE rfl (.tmp 37) (.tmp 40) rfl rfl (World.ownsRow.alloc HO1.out _) rfl (src_one_new _ _ _) ?c1 ?c2 ?c3 ?c4 ?_)
        case c1 => first | rfl | (intro u hu; simp at hu; subst hu; rfl)
        case c2 => unfold maxLen; simp
        case c3 => simp
        case c4 => have := HBr1.out.size; simp; omega
        intro v' w4 hO hG
        have HO' := Lib.hid (show OwnS w4 w2.heap.size v' (([d7, d6, d5, d4, d3, d2, d1, d0] : List ByteArray).take 6) from hO)
        have HB' : Hid (Below w2.heap.size w2 w4) := Lib.hid ((Below.alloc HBr1.out HBr1.out.size _).trans (hG.below (by have := HBr1.out.size; simp; omega) (own_base HO1.out)))
        clear hO hG
        go_wp2
        exact ⟨⟨6, by decide, rfl, HO', HB'⟩, by simp [intOf]⟩
      · go_wp2_with fail
        refine (H1.out _ HTr.out).mono ?_
        rintro e w' ⟨rfl, hb⟩
        have HO1 := Lib.hid (HO.out.later hb)
        have HBr1 := Lib.hid (HBr.out.trans (hb.mono HBr.out.size))
        clear hb HO HBr HTr
        go_wp2_with (at_builtin; refine wpList_app strE rfl (.tmp 37) (.tmp 40) rfl rfl (World.ownsRow.alloc HO1.out _) rfl (src_one_new _ _ _) ?c1 ?c2 ?c3 ?c4 ?_)
        case c1 => first | rfl | (intro u hu; simp at hu; subst hu; rfl)
        case c2 => unfold maxLen; simp
        case c3 => simp
        case c4 => have := HBr1.out.size; simp; omega
        intro v' w4 hO hG
        have HO' := Lib.hid (show OwnS w4 w2.heap.size v' (([d7, d6, d5, d4, d3, d2, d1, d0] : List ByteArray).take 7) from hO)
        have HB' : Hid (Below w2.heap.size w2 w4) := Lib.hid ((Below.alloc HBr1.out HBr1.out.size _).trans (hG.below (by have := HBr1.out.size; simp; omega) (own_base HO1.out)))
        clear hO hG
        go_wp2
        exact ⟨⟨7, by decide, rfl, HO', HB'⟩, by simp [intOf]⟩
      · go_wp2_with fail
        refine (H0.out _ HTr.out).mono ?_
        rintro e w' ⟨rfl, hb⟩
        have HO1 := Lib.hid (HO.out.later hb)
        have HBr1 := Lib.hid (HBr.out.trans (hb.mono HBr.out.size))
        clear hb HO HBr HTr
        go_wp2_with (at_builtin; refine wpList_app strE rfl (.tmp 37) (.tmp 40) rfl rfl (World.ownsRow.alloc HO1.out _) rfl (src_one_new _ _ _) ?c1 ?c2 ?c3 ?c4 ?_)
        case c1 => first | rfl | (intro u hu; simp at hu; subst hu; rfl)
        case c2 => unfold maxLen; simp
        case c3 => simp
        case c4 => have := HBr1.out.size; simp; omega
        intro v' w4 hO hG
        have HO' := Lib.hid (show OwnS w4 w2.heap.size v' (([d7, d6, d5, d4, d3, d2, d1, d0] : List ByteArray).take 8) from hO)
        have HB' : Hid (Below w2.heap.size w2 w4) := Lib.hid ((Below.alloc HBr1.out HBr1.out.size _).trans (hG.below (by have := HBr1.out.size; simp; omega) (own_base HO1.out)))
        clear hO hG
        go_wp2
        exact ⟨⟨8, by decide, rfl, HO', HB'⟩, by simp [intOf]⟩
    · obtain rfl : k = 8 := by omega
      obtain ⟨g, c, hv, _, hg, hc, hcm, hcell⟩ := HO.out.one (by simp)
      have hv' : u6 = .slice (some ⟨g, 0, none⟩) 8 c := hv
      have hc' : 8 ≤ c := hc
      rw [show ([d7, d6, d5, d4, d3, d2, d1, d0] : List ByteArray).take 8 = ([d7, d6, d5, d4, d3, d2, d1, d0] : List ByteArray) from rfl] at hcell
      have hLn : ([d7, d6, d5, d4, d3, d2, d1, d0] : List ByteArray).length = 8 := rfl
      generalize ([d7, d6, d5, d4, d3, d2, d1, d0] : List ByteArray) = L at *
      have HG3 := Lib.hid (HG2.out.below HBr.out HG2.out.lt)
      have q0 := HG3.out.cell 0
      have q1 := HG3.out.cell 1
      have q2 := HG3.out.cell 2
      have q3 := HG3.out.cell 3
      have q4 := HG3.out.cell 4
      have q5 := HG3.out.cell 5
      have q6 := HG3.out.cell 6
      have q7 := HG3.out.cell 7
      simp at q0 q1 q2 q3 q4 q5 q6 q7
      have HCell := Lib.hid hcell
      have HLn := Lib.hid hLn
      clear hv hc hcell hLn HO
      subst hv'
      go_wp2_with fail
      refine (HZs.out _).mono ?_
      rintro e w5 ⟨rfl, hb⟩
      have hg5 : g < w5.heap.size := Nat.lt_of_lt_of_le hg hb.size
      have HCell5 : Hid (∀ (j : Nat) x, L[j]? = some x → w5.cell? ⟨g, j, none⟩ = some (.string x)) := Lib.hid fun j x hx => Later.cell_of (HCell.out j x hx) ⟨w5, hb⟩
      have HB5 := Lib.hid (HB2.out.trans ((HBr.out.trans (hb.mono HBr.out.size)).mono HB2.out.size))
      clear hb HBr HCell HG3 q0 q1 q2 q3 q4 q5 q6 q7 HZs
      by_cases hM : M < 2
      · have hR := HR.out
        rw [if_pos hM] at hR
        have HJ := Lib.hid (joinAt_any g 0 c L 58 w5 HLs.out hg5 (by rw [HLn.out]; exact hc') (fun j x hx => by rw [Nat.zero_add]; exact HCell5.out j x hx))
        rw [HLn.out, ← hR] at HJ
        have hM2 : (M : Int) < 2 := by omega
        clear hR HR
        go_wp2_with fail
        refine HJ.out.mono ?_
        rintro e w' ⟨rfl, hb⟩
        go_wp2_with fail
        go_ret
        exact ⟨rfl, HB5.out.trans (hb.mono HB5.out.size)⟩
      · have hR := HR.out
        rw [if_neg hM] at hR
        have hM2 : ¬ (M : Int) < 2 := by omega
        have HJ1 := Lib.hid fun wx (hb : Below w5.heap.size w5 wx) => joinAt_any g 0 c (L.take F) 58 wx (HLs.out.take F) (Nat.lt_of_lt_of_le hg5 hb.size) (by simp; omega) (fun j x hx => by
          rw [Nat.zero_add]
          rw [List.getElem?_take] at hx
          split at hx
          · exact Later.cell_of (HCell5.out j x hx) ⟨wx, hb⟩
          · cases hx)
        have HJ2 := Lib.hid fun wx (hb : Below w5.heap.size w5 wx) => joinAt_any g (if c = F + M then 0 else F + M) (c - (F + M)) (L.drop (F + M)) 58 wx (HLs.out.drop (F + M)) (Nat.lt_of_lt_of_le hg5 hb.size) (by rw [List.length_drop, HLn.out]; omega) (fun j x hx => by
          rw [List.getElem?_drop] at hx
          have hlt : F + M + j < L.length := (List.getElem?_eq_some_iff.1 hx).1
          rw [HLn.out] at hlt
          rw [if_neg (by omega)]
          exact Later.cell_of (HCell5.out _ x hx) ⟨wx, hb⟩)
        rw [show (L.take F).length = F by rw [List.length_take, HLn.out]; omega] at HJ1
        rw [show (L.drop (F + M)).length = 8 - (F + M) by rw [List.length_drop, HLn.out]] at HJ2
        have z1 := joinS_size (HLs.out.take F) 58
        have z2 := joinS_size (HLs.out.drop (F + M)) 58
        unfold gapS at hR
        generalize joinS (L.take F) ⟨#[58]⟩ = J1 at *
        generalize joinS (L.drop (F + M)) ⟨#[58]⟩ = J2 at *
        subst hR
        clear HR
        have hA1 := add_str J1 ⟨#[58, 58]⟩ (by omega) (by decide)
        have hA2 := add_str (J1 ++ ⟨#[58, 58]⟩) J2 (by rw [ByteArray.size_append]; have : (⟨#[58, 58]⟩ : ByteArray).size = 2 := rfl; omega) (by omega)
        have hJ1 := fun m : Later w5 => Calls.later m (HJ1.out m.1 m.2)
        have hJ2 := fun m : Later w5 => Calls.later m (HJ2.out m.1 m.2)
        have f1 : (0 : Int) ≤ (F : Int) := by omega
        have f2 : (F : Int) ≤ (c : Int) := by omega
        have f3 : (F : Int) + (M : Int) = ((F + M : Nat) : Int) := by omega
        have f4 : F + M ≤ 8 := hbd
        obtain ⟨D, hD⟩ : ∃ D, F + M = D := ⟨_, rfl⟩
        rw [hD] at hJ2 f3 f4
        have hs2 := fun W => slice_from g c D W f4 hc'
        obtain ⟨O, hO⟩ : ∃ O, (if c = D then 0 else D) = O := ⟨_, rfl⟩
        rw [hO] at hJ2 hs2
        clear hO hD
        have f5 : (0 : Int) ≤ (D : Int) := by omega
        have f6 : (D : Int) ≤ 8 := by omega
        go_upto_region 19 with fail
        refine wp_region_later (by kernel_rfl) (by kernel_rfl) ?_
        iterate 3 (go_big_quiet_step (fail))
        go_big_quiet_step ((go_at_call 51; exact hJ1 _))
        repeat (go_big_quiet_step (fail))
        go_big_quiet_step ((go_at_call 51; exact hJ2 _))
        repeat (go_big_quiet_step (fail))
        refine wpQuiet_nil ?_
        rintro w6 ⟨n6, hn6⟩
        have hb6 : Below w5.heap.size w5 w6 := by rw [hn6]; exact n6.2
        clear hn6 n6
        have HB6 := Lib.hid (HB5.out.trans (hb6.mono HB5.out.size))
        clear hb6
        go_wp2_with fail
        go_ret
        exact ⟨rfl, HB6.out⟩
end Go.Proofs.YtcpafmndjcejjaaGreatDoor
