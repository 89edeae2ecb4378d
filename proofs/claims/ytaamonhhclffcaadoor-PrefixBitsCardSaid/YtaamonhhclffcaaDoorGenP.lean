/-
  Generators of prefixes: RightPrefix, Prefix.
-/
import Derived.Test.YtaamonhhclffcaaDoorPF2
namespace Go.Proofs.YtaamonhhclffcaaDoor
open Go.RowKit Go
set_option linter.unusedVariables false

def U64N (x : Nat) : Prop := x < 18446744073709551616
theorem mHi_lt {six : Bool} {hi n : Nat} (h : U64N hi) : U64N (mHi six hi n) := Nat.lt_of_le_of_lt (Nat.sub_le _ _) h
theorem mLo_lt {six : Bool} {lo n : Nat} (h : U64N lo) : U64N (mLo six lo n) := Nat.lt_of_le_of_lt (Nat.sub_le _ _) h
theorem nat_of_U64 {x : Int} (h : U64 x) : ∃ n : Nat, x = (n : Int) ∧ U64N n := by
  obtain ⟨n, rfl⟩ := Int.eq_ofNat_of_zero_le h.1
  have h1 := h.2
  exact ⟨n, rfl, by unfold U64N; omega⟩
theorem Gen.below0 {b m : Nat} {u v w : World} (h : Gen b u v m) (k : Below v.heap.size v w) (hb : b < v.heap.size) : Gen b u w m := h.below k h.g.size hb
/-- what a generator of prefixes gives -/
def PfxGen (b : Nat) (w : World) (m : Nat) (e : Ending) (w' : World) : Prop :=
  ∃ (six : Bool) (hi lo : Nat) (bits : Int), e = .returned (vP six hi lo bits) ∧ U64N hi ∧ U64N lo ∧ (-1099511627777 ≤ bits ∧ bits ≤ 1099511627777) ∧ Gen b w w' m
set_option maxRecDepth 100000 in
set_option maxHeartbeats 600000 in
theorem rightPrefix_gen (b m : Nat) (w : World) (h : Strm w b m) (hm : m + 10 < 1099511627776) :
    Calls Tryd.prog 37 #[.pointer (some ⟨b, 0, none⟩)] w (PfxGen b w (m + 5)) := by
  have hblt := h.lt
  have HG0 : Hid (Gen b w (w.alloc (.cells #[.bool false, .int .u64 0, .int .u64 0, .int .i64 0] 31 (0, 0))) m) := Lib.hid ((Gen.start h).alloc _)
  have HR0 : Hid (Blk (w.alloc (.cells #[.bool false, .int .u64 0, .int .u64 0, .int .i64 0] 31 (0, 0))) w.heap.size 31 #[.bool false, .int .u64 0, .int .u64 0, .int .i64 0]) := Lib.hid (Blk.new w _ _)
  clear h
  go_enter Tryd.func37, Tryd.ntmps37
  go_wp2_with fail
  refine (mAddr_gen b m _ HG0.out.s (by omega)).mono ?_
  rintro e w1 ⟨six, hi0, lo0, rfl, ⟨hu1, hu2, -⟩, hg⟩
  obtain ⟨hi, rfl, h1⟩ := nat_of_U64 hu1
  obtain ⟨lo, rfl, h2⟩ := nat_of_U64 hu2
  have HU := Lib.hid (And.intro h1 h2)
  have HG1 := Lib.hid ((HG0.out.trans hg).alloc (.cells #[.bool six, .int .u64 (hi : Int), .int .u64 (lo : Int)] 29 (0, 0)))
  have HR1 := Lib.hid ((HR0.out.keep hg.g (by omega)).alloc (.cells #[.bool six, .int .u64 (hi : Int), .int .u64 (lo : Int)] 29 (0, 0)))
  have HA1 : Hid (Blk (w1.alloc (.cells #[.bool six, .int .u64 (hi : Int), .int .u64 (lo : Int)] 29 (0, 0))) w1.heap.size 29 #[.bool six, .int .u64 (hi : Int), .int .u64 (lo : Int)]) := Lib.hid (Blk.new w1 _ _)
  have hw1 : w.heap.size < w1.heap.size := HR0.out.keep hg.g (by omega) |> Blk.lt
  clear hu1 hu2 h1 h2 hg HG0 HR0
  unfold vAddr
  go_upto_region 2 with fail
  generalize w1.alloc (.cells #[.bool six, .int .u64 (hi : Int), .int .u64 (lo : Int)] 29 (0, 0)) = w2 at *
  generalize w1.heap.size = F at *
  have key : ∀ (n : Nat) (wx : World), n ≤ 128 → Calls Tryd.prog 25 #[.agg #[.bool six, .int .u64 (hi : Int), .int .u64 (lo : Int)], .int .i64 (n : Int)] wx (Ret (vP six (mHi six hi n) (mLo six lo n) (n : Int)) wx) := fun n wx hn => maskOf_any six hi lo n wx HU.out.1 HU.out.2 hn
  have HK := Lib.hid key
  clear key
  go_wp2_with fail
  refine (pick_new b (m + 3) _ _ _ _ [0, 8, 24, 27, 28, 29, 30, 31, 32] _ HG1.out.s rfl (by omega) rfl (by decide) rfl).mono ?_
  rintro e w3 ⟨x, rfl, hx, hg⟩
  have hxb : 0 ≤ x ∧ x ≤ 128 := by simp at hx; omega
  obtain ⟨n, rfl⟩ := Int.eq_ofNat_of_zero_le hxb.1
  have hn : n ≤ 128 := by omega
  have HG3 := Lib.hid (HG1.out.trans hg)
  have HR3 := Lib.hid (HR1.out.keep hg.g (by omega))
  have HA3 := Lib.hid (HA1.out.keep hg.g (by omega))
  clear hx hxb hg HG1 HR1 HA1
  have a0 := HA3.out.cell 0
  have a1 := HA3.out.cell 1
  have a2 := HA3.out.cell 2
  simp at a0 a1 a2
  cases six
  · go_wp2_with fail
    refine (HK.out n _ hn).mono ?_
    rintro e w5 ⟨rfl, hb⟩
    have HG5 := Lib.hid (HG3.out.below0 hb HG3.out.s.lt)
    have HR5 := Lib.hid (HR3.out.below hb HR3.out.lt)
    have h1 : U64N (mHi false hi n) := mHi_lt HU.out.1
    have h2 : U64N (mLo false lo n) := mLo_lt HU.out.2
    generalize mHi false hi n = mh at *
    generalize mLo false lo n = ml at *
    have HU2 := Lib.hid (And.intro h1 h2)
    clear h1 h2 hb a0 a1 a2 HG3 HR3 HA3
    have r0 := HR5.out.cell 0
    have r1 := HR5.out.cell 1
    have r2 := HR5.out.cell 2
    have r3 := HR5.out.cell 3
    have rf := HR5.out.free
    simp at r0 r1 r2 r3
    unfold vP
    go_wp2_with fail
    refine bodyPost_ret (v := .agg #[.bool false, .int .u64 (mh : Int), .int .u64 (ml : Int), .int .i64 (n : Int)]) (by simp [results, Tryd.results37, go_sem, r0, r1, r2, r3]) rfl ⟨false, mh, ml, n, rfl, HU2.out.1, HU2.out.2, by omega, ?_⟩
    repeat refine Gen.setCell ?_ _ _ (Nat.le_refl _) hblt
    exact HG5.out.mono (by omega)
  · go_wp2_with fail
    refine (pick_new b (m + 3 + 1) _ _ _ _ [0, 8, 32, 48, 63, 64, 65, 96, 127, 128] _ HG3.out.s rfl (by omega) rfl (by decide) rfl).mono ?_
    rintro e w4 ⟨x, rfl, hx, hg⟩
    have hxb : 0 ≤ x ∧ x ≤ 128 := by simp at hx; omega
    obtain ⟨n2, rfl⟩ := Int.eq_ofNat_of_zero_le hxb.1
    have hn2 : n2 ≤ 128 := by omega
    have HG4 := Lib.hid (HG3.out.trans hg)
    have HR4 := Lib.hid (HR3.out.keep hg.g (by omega))
    have HA4 := Lib.hid (HA3.out.keep hg.g (by omega))
    clear hx hxb hg HG3 HR3 HA3 a0 a1 a2
    have a0 := HA4.out.cell 0
    have a1 := HA4.out.cell 1
    have a2 := HA4.out.cell 2
    simp at a0 a1 a2
    go_wp2_with fail
    refine (HK.out n2 _ hn2).mono ?_
    rintro e w5 ⟨rfl, hb⟩
    have HG5 := Lib.hid (HG4.out.below0 hb HG4.out.s.lt)
    have HR5 := Lib.hid (HR4.out.below hb HR4.out.lt)
    have h1 : U64N (mHi true hi n2) := mHi_lt HU.out.1
    have h2 : U64N (mLo true lo n2) := mLo_lt HU.out.2
    generalize mHi true hi n2 = mh at *
    generalize mLo true lo n2 = ml at *
    have HU2 := Lib.hid (And.intro h1 h2)
    clear h1 h2 hb a0 a1 a2 HG4 HR4 HA4
    have r0 := HR5.out.cell 0
    have r1 := HR5.out.cell 1
    have r2 := HR5.out.cell 2
    have r3 := HR5.out.cell 3
    have rf := HR5.out.free
    simp at r0 r1 r2 r3
    unfold vP
    go_wp2_with fail
    refine bodyPost_ret (v := .agg #[.bool true, .int .u64 (mh : Int), .int .u64 (ml : Int), .int .i64 (n2 : Int)]) (by simp [results, Tryd.results37, go_sem, r0, r1, r2, r3]) rfl ⟨true, mh, ml, n2, rfl, HU2.out.1, HU2.out.2, by omega, ?_⟩
    repeat refine Gen.setCell ?_ _ _ (Nat.le_refl _) hblt
    exact HG5.out.mono (by omega)
set_option maxRecDepth 100000 in
set_option maxHeartbeats 600000 in
theorem prefix_gen (b m : Nat) (w : World) (h : Strm w b m) (hm : m + 20 < 1099511627776) :
    Calls Tryd.prog 7 #[.pointer (some ⟨b, 0, none⟩)] w (PfxGen b w (m + 14)) := by
  have hblt := h.lt
  have HG0 : Hid (Gen b w (w.alloc (.cells #[.bool false, .int .u64 0, .int .u64 0, .int .i64 0] 31 (0, 0))) m) := Lib.hid ((Gen.start h).alloc _)
  have HR0 : Hid (Blk (w.alloc (.cells #[.bool false, .int .u64 0, .int .u64 0, .int .i64 0] 31 (0, 0))) w.heap.size 31 #[.bool false, .int .u64 0, .int .u64 0, .int .i64 0]) := Lib.hid (Blk.new w _ _)
  clear h
  go_enter Tryd.func7, Tryd.ntmps7
  go_wp2_with fail
  refine (rightPrefix_gen b m _ HG0.out.s (by omega)).mono ?_
  rintro e w1 ⟨six, hi, lo, bits, rfl, h1, h2, h3, hg⟩
  have HU := Lib.hid (And.intro h1 (And.intro h2 h3))
  have HG1 := Lib.hid ((HG0.out.trans hg).alloc (.cells #[.bool six, .int .u64 (hi : Int), .int .u64 (lo : Int), .int .i64 bits] 31 (0, 0)))
  have HR1 := Lib.hid ((HR0.out.keep hg.g (by omega)).alloc (.cells #[.bool six, .int .u64 (hi : Int), .int .u64 (lo : Int), .int .i64 bits] 31 (0, 0)))
  have HA1 : Hid (Blk (w1.alloc (.cells #[.bool six, .int .u64 (hi : Int), .int .u64 (lo : Int), .int .i64 bits] 31 (0, 0))) w1.heap.size 31 #[.bool six, .int .u64 (hi : Int), .int .u64 (lo : Int), .int .i64 bits]) := Lib.hid (Blk.new w1 _ _)
  have hw1 : w.heap.size < w1.heap.size := HR0.out.keep hg.g (by omega) |> Blk.lt
  clear h1 h2 h3 hg HG0 HR0
  unfold vP
  go_wp2_with fail
  generalize w1.alloc (.cells #[.bool six, .int .u64 (hi : Int), .int .u64 (lo : Int), .int .i64 bits] 31 (0, 0)) = w2 at *
  generalize w1.heap.size = F at *
  refine (flip_gen b (m + 5) _ _ HG1.out.s (by omega) (by omega)).mono ?_
  rintro e w3 ⟨kk, rfl, hg⟩
  have HG3 := Lib.hid (HG1.out.trans hg)
  have HR3 := Lib.hid (HR1.out.keep hg.g (by omega))
  have HA3 := Lib.hid (HA1.out.keep hg.g (by omega))
  clear hg HG1 HR1 HA1
  have a0 := HA3.out.cell 0
  have a1 := HA3.out.cell 1
  have a2 := HA3.out.cell 2
  have a3 := HA3.out.cell 3
  simp at a0 a1 a2 a3
  cases kk
  · have r0 := HR3.out.cell 0
    have r1 := HR3.out.cell 1
    have r2 := HR3.out.cell 2
    have r3 := HR3.out.cell 3
    have rf := HR3.out.free
    simp at r0 r1 r2 r3
    go_wp2_with fail
    refine bodyPost_ret (v := .agg #[.bool six, .int .u64 (hi : Int), .int .u64 (lo : Int), .int .i64 bits]) (by simp [results, Tryd.results7, go_sem, r0, r1, r2, r3]) rfl ⟨six, hi, lo, bits, rfl, HU.out.1, HU.out.2.1, HU.out.2.2, ?_⟩
    repeat refine Gen.setCell ?_ _ _ (Nat.le_refl _) hblt
    exact HG3.out.mono (by omega)
  · go_wp2_with fail
    refine (raw_gen b (m + 6) _ HG3.out.s (by omega)).mono ?_
    rintro e w4 ⟨six2, hi0, lo0, rfl, ⟨hu1, hu2⟩, hg⟩
    obtain ⟨hi2, rfl, h1⟩ := nat_of_U64 hu1
    obtain ⟨lo2, rfl, h2⟩ := nat_of_U64 hu2
    have HU2 := Lib.hid (And.intro h1 h2)
    have HG4 := Lib.hid (HG3.out.trans hg)
    have HR4 := Lib.hid (HR3.out.keep hg.g (by omega))
    have HA4 := Lib.hid (HA3.out.keep hg.g (by omega))
    clear hg hu1 hu2 h1 h2 HG3 HR3 HA3 a0 a1 a2 a3
    unfold vAddr
    go_wp2_with fail
    refine (odd_gen b (m + 6 + 6) _ _ _ HG4.out.s (by omega) (by omega) (by omega)).mono ?_
    rintro e w5 ⟨x, rfl, hx, hg⟩
    have HG5 := Lib.hid (HG4.out.trans hg)
    have HR5 := Lib.hid (HR4.out.keep hg.g (by omega))
    have HA5 := Lib.hid (HA4.out.keep hg.g (by omega))
    have HX := Lib.hid hx
    have hF := HA5.out.lt
    clear hg hx HG4 HR4 HA4
    have a0 := HA5.out.cell 0
    have a1 := HA5.out.cell 1
    have a2 := HA5.out.cell 2
    have a3 := HA5.out.cell 3
    have af := HA5.out.free
    have r0 := HR5.out.cell 0
    have r1 := HR5.out.cell 1
    have r2 := HR5.out.cell 2
    have r3 := HR5.out.cell 3
    have rf := HR5.out.free
    simp at a0 a1 a2 a3 r0 r1 r2 r3
    have hne : w.heap.size ≠ F := by omega
    go_wp2_with fail
    refine bodyPost_ret (v := .agg #[.bool six2, .int .u64 (hi2 : Int), .int .u64 (lo2 : Int), .int .i64 x]) (by simp [results, Tryd.results7, go_sem, r0, r1, r2, r3]) rfl ⟨six2, hi2, lo2, x, rfl, HU2.out.1, HU2.out.2, HX.out, ?_⟩
    repeat refine Gen.setCell ?_ _ _ (by simp only; omega) (by simp only; omega)
    exact HG5.out.mono (by omega)
end Go.Proofs.YtaamonhhclffcaaDoor
