/-
  Prefixes of sites: Via, ViaOf, Site, SiteOf.
-/
import Derived.Test.YtaamonhhclffcaaDoorGenP
import Derived.StillTailTactics
namespace Go.Proofs.YtaamonhhclffcaaDoor
open Go.RowKit Go
set_option linter.unusedVariables false

theorem pFault_zero {six : Bool} {hi lo : Nat} {bits : Int} (h : pFault six hi lo bits = 0) : aFault six hi lo = 0 ∧ 0 ≤ bits ∧ bits ≤ (lenN six : Nat) := by
  unfold pFault at h
  by_cases h1 : aFault six (hi : Int) (lo : Int) ≠ 0
  · rw [if_pos h1] at h; cases h
  · rw [if_neg h1] at h
    by_cases h2 : outB bits 0 (lenN six : Nat) = true
    · rw [if_pos h2] at h; cases h
    · unfold outB at h2
      simp at h2
      exact ⟨by simpa using h1, by omega, by omega⟩
theorem aFault_four {hi lo : Nat} (h : aFault false hi lo = 0) : hi = 0 ∧ lo < 4294967296 := by
  unfold aFault at h
  split at h
  · cases h
  · rename_i hn
    simp at hn
    omega
theorem or_via (n lo : Nat) (hn : n ≤ 65535) (hl : lo < 4294967296) : bits .or .u64 ((n * 4294967296 : Nat) : Int) (lo : Int) = ((n * 4294967296 + lo : Nat) : Int) := by
  have key : (BitVec.ofNat 64 (n * 4294967296) ||| BitVec.ofNat 64 lo).toNat = n * 4294967296 + lo := by
    rw [BitVec.toNat_or, BitVec.toNat_ofNat, BitVec.toNat_ofNat, Nat.mod_eq_of_lt (by omega), Nat.mod_eq_of_lt (by omega), Nat.mul_comm n, show 4294967296 = 2 ^ 32 from rfl, ← Nat.two_pow_add_eq_or_of_lt hl]
  have o1 : BitVec.ofInt 64 ((n * 4294967296 : Nat) : Int) = BitVec.ofNat 64 (n * 4294967296) := BitVec.ofInt_natCast ..
  have o2 : BitVec.ofInt 64 (lo : Int) = BitVec.ofNat 64 lo := BitVec.ofInt_natCast ..
  show IntKind.u64.wrap ((BitVec.ofInt 64 ((n * 4294967296 : Nat) : Int) ||| BitVec.ofInt 64 (lo : Int)).toNat : Nat) = _
  rw [o1, o2, key, IntKind.wrap_u64]
  omega
def viaF (site : Int) (six : Bool) (hi lo : Nat) (bits : Int) : Int := if outB site 0 65535 = true then 1 else if pFault six hi lo bits ≠ 0 then pFault six hi lo bits else if six = true then 10 else 0
def viaR (site : Int) (six : Bool) (hi lo : Nat) (bits : Int) : Value := if viaF site six hi lo bits = 0 then .agg #[.bool true, .int .u64 18230690457315508224, .int .u64 (site * 4294967296 + (lo : Int)), .int .i64 (bits + 96)] else .agg #[.bool false, .int .u64 0, .int .u64 0, .int .i64 0]
set_option maxRecDepth 100000 in
set_option maxHeartbeats 1000000 in
theorem via_any (site : Int) (six : Bool) (hi lo : Nat) (bits : Int) (w : World) (h1 : U64N hi) (h2 : U64N lo) :
    Calls Tryd.prog 8 #[.int .i64 site, vP six hi lo bits] w (Ret (.tuple #[viaR site six hi lo bits, .int .i64 (viaF site six hi lo bits)]) w) := by
  have HO := Lib.hid (fun wx => outside_any site 0 65535 wx)
  have HC := Lib.hid (fun wx => checkPrefix_any six hi lo bits wx h1 h2)
  unfold vP
  have HP0 : Blk ((w.alloc (.cells #[.bool six, .int .u64 (hi : Int), .int .u64 (lo : Int), .int .i64 bits] 31 (0, 0))).alloc (.cells #[.bool false, .int .u64 0, .int .u64 0, .int .i64 0] 31 (0, 0))) w.heap.size 31 #[.bool six, .int .u64 (hi : Int), .int .u64 (lo : Int), .int .i64 bits] := (Blk.new w _ _).alloc _
  have HR0 : Blk ((w.alloc (.cells #[.bool six, .int .u64 (hi : Int), .int .u64 (lo : Int), .int .i64 bits] 31 (0, 0))).alloc (.cells #[.bool false, .int .u64 0, .int .u64 0, .int .i64 0] 31 (0, 0))) (w.heap.size + 1) 31 #[.bool false, .int .u64 0, .int .u64 0, .int .i64 0] := by
    have := Blk.new (w.alloc (.cells #[.bool six, .int .u64 (hi : Int), .int .u64 (lo : Int), .int .i64 bits] 31 (0, 0))) 31 #[.bool false, .int .u64 0, .int .u64 0, .int .i64 0]
    rw [World.size_alloc] at this
    exact this
  have HB0 : Hid (Below w.heap.size w ((w.alloc (.cells #[.bool six, .int .u64 (hi : Int), .int .u64 (lo : Int), .int .i64 bits] 31 (0, 0))).alloc (.cells #[.bool false, .int .u64 0, .int .u64 0, .int .i64 0] 31 (0, 0)))) := Lib.hid (below_alloc (below_alloc (Below.refl _ _) _) _)
  have HP := Lib.hid HP0
  have HR := Lib.hid HR0
  clear HP0 HR0
  obtain ⟨pf, hpf⟩ : ∃ z, pFault six hi lo bits = z := ⟨_, rfl⟩
  have Hpf := Lib.hid hpf
  have HF : Hid (viaF site six hi lo bits = if outB site 0 65535 = true then 1 else if pf ≠ 0 then pf else if six = true then 10 else 0) := Lib.hid (by unfold viaF; rw [hpf])
  have HV : Hid (viaR site six hi lo bits = if viaF site six hi lo bits = 0 then .agg #[.bool true, .int .u64 18230690457315508224, .int .u64 (site * 4294967296 + (lo : Int)), .int .i64 (bits + 96)] else .agg #[.bool false, .int .u64 0, .int .u64 0, .int .i64 0]) := Lib.hid rfl
  rw [hpf] at HC
  clear hpf
  generalize viaR site six hi lo bits = R at *
  generalize viaF site six hi lo bits = F at *
  obtain ⟨ob, hob⟩ : ∃ z, outB site 0 65535 = z := ⟨_, rfl⟩
  rw [hob] at HO HF
  have Hob := Lib.hid hob
  clear hob
  have HU := Lib.hid (And.intro h1 h2)
  clear h1 h2
  go_enter Tryd.func8, Tryd.ntmps8
  go_upto_region 1 with fail
  generalize (w.alloc (.cells #[.bool six, .int .u64 (hi : Int), .int .u64 (lo : Int), .int .i64 bits] 31 (0, 0))).alloc (.cells #[.bool false, .int .u64 0, .int .u64 0, .int .i64 0] 31 (0, 0)) = w1 at *
  go_wp2_with fail
  refine (HO.out _).mono ?_
  rintro e w' ⟨rfl, rfl⟩
  have a0 := HP.out.cell 0
  have a1 := HP.out.cell 1
  have a2 := HP.out.cell 2
  have a3 := HP.out.cell 3
  simp at a0 a1 a2 a3
  cases ob
  · go_wp2_with fail
    refine (HC.out _).mono ?_
    rintro e w2 ⟨rfl, hb⟩
    have HP2 := Lib.hid (HP.out.below hb HP.out.lt)
    have HR2 := Lib.hid (HR.out.below hb HR.out.lt)
    have HB2 := Lib.hid (HB0.out.trans (hb.mono HB0.out.size))
    clear a0 a1 a2 a3 hb HP HR HB0 HO HC
    have a0 := HP2.out.cell 0
    have a1 := HP2.out.cell 1
    have a2 := HP2.out.cell 2
    have a3 := HP2.out.cell 3
    have r0 := HR2.out.cell 0
    have r1 := HR2.out.cell 1
    have r2 := HR2.out.cell 2
    have r3 := HR2.out.cell 3
    have rf := HR2.out.free
    simp at a0 a1 a2 a3 r0 r1 r2 r3
    by_cases hz : pf = 0
    · subst hz
      obtain ⟨hA, hb0, hb1⟩ := pFault_zero Hpf.out
      cases six
      · obtain ⟨rfl, hlo⟩ := aFault_four hA
        have hs : 0 ≤ site ∧ site ≤ 65535 := by have := Hob.out; unfold outB at this; simp at this; omega
        obtain ⟨n, rfl⟩ := Int.eq_ofNat_of_zero_le hs.1
        have hn : n ≤ 65535 := by omega
        have hF : F = 0 := by rw [HF.out]; simp
        have hV := HV.out
        rw [if_pos hF] at hV
        subst hF hV
        have HX : Hid (Go.bits .or .u64 ((n : Int) * 4294967296) (lo : Int) = (n : Int) * 4294967296 + (lo : Int)) := Lib.hid (by
          have := or_via n lo hn hlo
          rw [show ((n * 4294967296 : Nat) : Int) = (n : Int) * 4294967296 by omega, show ((n * 4294967296 + lo : Nat) : Int) = (n : Int) * 4294967296 + (lo : Int) by omega] at this
          exact this)
        clear HV HF
        have e1 : IntKind.u64.wrap (n : Int) = (n : Int) := by rw [IntKind.wrap_u64]; omega
        have hb2 : bits ≤ 32 := hb1
        clear hA hb1
        go_wp2_with fail
        rw [HX.out]
        refine bodyPost_ret (v := .tuple #[.agg #[.bool true, .int .u64 18230690457315508224, .int .u64 ((n : Int) * 4294967296 + (lo : Int)), .int .i64 (bits + 96)], .int .i64 0]) (by simp [results, Tryd.results8, go_sem, r0, r1, r2, r3]) rfl ⟨rfl, ?_⟩
        repeat refine Below.setCell ?_ (by first | (simp; omega) | simp) _
        exact HB2.out
      · have hF : F = 10 := by rw [HF.out]; simp
        have hV := HV.out
        rw [if_neg (by omega)] at hV
        subst hF hV
        go_wp2_with fail
        refine bodyPost_ret (v := .tuple #[.agg #[.bool false, .int .u64 0, .int .u64 0, .int .i64 0], .int .i64 10]) (by simp [results, Tryd.results8, go_sem, r0, r1, r2, r3]) rfl ⟨rfl, ?_⟩
        repeat refine Below.setCell ?_ (by first | (simp; omega) | simp) _
        exact HB2.out
    · have hF : F = pf := by rw [HF.out, if_neg (by decide), if_pos hz]
      have hV := HV.out
      rw [if_neg (by omega)] at hV
      subst hF hV
      have hz2 : (F != 0) = true := by simpa using hz
      go_wp2_with fail
      refine bodyPost_ret (v := .tuple #[.agg #[.bool false, .int .u64 0, .int .u64 0, .int .i64 0], .int .i64 F]) (by simp [results, Tryd.results8, go_sem, r0, r1, r2, r3]) rfl ⟨rfl, ?_⟩
      repeat refine Below.setCell ?_ (by first | (simp; omega) | simp) _
      exact HB2.out
  · have hF : F = 1 := by rw [HF.out]; simp
    have hV := HV.out
    rw [if_neg (by omega)] at hV
    subst hF hV
    have r0 := HR.out.cell 0
    have r1 := HR.out.cell 1
    have r2 := HR.out.cell 2
    have r3 := HR.out.cell 3
    have rf := HR.out.free
    simp at r0 r1 r2 r3
    go_wp2_with fail
    refine bodyPost_ret (v := .tuple #[.agg #[.bool false, .int .u64 0, .int .u64 0, .int .i64 0], .int .i64 1]) (by simp [results, Tryd.results8, go_sem, r0, r1, r2, r3]) rfl ⟨rfl, ?_⟩
    repeat refine Below.setCell ?_ (by first | (simp; omega) | simp) _
    exact HB0.out
set_option maxRecDepth 100000 in
set_option maxHeartbeats 1000000 in
theorem viaOf_any (n lo : Nat) (bits : Int) (w : World) (hn : n ≤ 65535) (hlo : lo < 4294967296) (hb : 0 ≤ bits ∧ bits ≤ 32) :
    Calls Tryd.prog 12 #[.int .i64 (n : Int), vP false 0 lo bits] w (Ret (.agg #[.bool true, .int .u64 18230690457315508224, .int .u64 ((n : Int) * 4294967296 + (lo : Int)), .int .i64 (bits + 96)]) w) := by
  rw [Int.add_comm bits 96]
  unfold vP
  have HP0 : Blk ((w.alloc (.cells #[.bool false, .int .u64 ((0 : Nat) : Int), .int .u64 (lo : Int), .int .i64 bits] 31 (0, 0))).alloc (.cells #[.bool false, .int .u64 0, .int .u64 0, .int .i64 0] 31 (0, 0))) w.heap.size 31 #[.bool false, .int .u64 ((0 : Nat) : Int), .int .u64 (lo : Int), .int .i64 bits] := (Blk.new w _ _).alloc _
  have HR0 : Blk ((w.alloc (.cells #[.bool false, .int .u64 ((0 : Nat) : Int), .int .u64 (lo : Int), .int .i64 bits] 31 (0, 0))).alloc (.cells #[.bool false, .int .u64 0, .int .u64 0, .int .i64 0] 31 (0, 0))) (w.heap.size + 1) 31 #[.bool false, .int .u64 0, .int .u64 0, .int .i64 0] := by
    have := Blk.new (w.alloc (.cells #[.bool false, .int .u64 ((0 : Nat) : Int), .int .u64 (lo : Int), .int .i64 bits] 31 (0, 0))) 31 #[.bool false, .int .u64 0, .int .u64 0, .int .i64 0]
    rw [World.size_alloc] at this
    exact this
  have HB0 : Hid (Below w.heap.size w ((w.alloc (.cells #[.bool false, .int .u64 ((0 : Nat) : Int), .int .u64 (lo : Int), .int .i64 bits] 31 (0, 0))).alloc (.cells #[.bool false, .int .u64 0, .int .u64 0, .int .i64 0] 31 (0, 0)))) := Lib.hid (below_alloc (below_alloc (Below.refl _ _) _) _)
  have HP := Lib.hid HP0
  have HR := Lib.hid HR0
  clear HP0 HR0
  have e1 : IntKind.u64.wrap (n : Int) = (n : Int) := by rw [IntKind.wrap_u64]; omega
  obtain ⟨hb0, hb2⟩ := hb
  go_enter Tryd.func12, Tryd.ntmps12
  go_upto_region 1 with fail
  generalize (w.alloc (.cells #[.bool false, .int .u64 ((0 : Nat) : Int), .int .u64 (lo : Int), .int .i64 bits] 31 (0, 0))).alloc (.cells #[.bool false, .int .u64 0, .int .u64 0, .int .i64 0] 31 (0, 0)) = w1 at *
  have a2 := HP.out.cell 2
  have a3 := HP.out.cell 3
  have r0 := HR.out.cell 0
  have r1 := HR.out.cell 1
  have r2 := HR.out.cell 2
  have r3 := HR.out.cell 3
  have rf := HR.out.free
  simp at a2 a3 r0 r1 r2 r3
  go_wp2_with fail
  refine bodyPost_ret (v := .agg #[.bool true, .int .u64 18230690457315508224, .int .u64 ((n : Int) * 4294967296 + (lo : Int)), .int .i64 (96 + bits)]) (by simp [results, Tryd.results12, go_sem, r0, r1, r2, r3]) rfl ⟨rfl, ?_⟩
  repeat refine Below.setCell ?_ (by first | (simp; omega) | simp) _
  exact HB0.out
def siteB (six : Bool) (hi lo : Nat) (bits : Int) : Bool := six && decide (hi = 18230690457315508224) && decide (96 ≤ bits) && decide (lo < 281474976710656)
def siteN (six : Bool) (hi lo : Nat) (bits : Int) : Int := if siteB six hi lo bits = true then (lo : Int) / 4294967296 else 0
def siteP (six : Bool) (hi lo : Nat) (bits : Int) : Array Value := if siteB six hi lo bits = true then #[.bool false, .int .u64 0, .int .u64 ((lo : Int) % 4294967296), .int .i64 (bits - 96)] else #[.bool false, .int .u64 0, .int .u64 0, .int .i64 0]
theorem siteB_no {six : Bool} {hi lo : Nat} {bits : Int} (h : six = false ∨ hi ≠ 18230690457315508224 ∨ bits < 96 ∨ 281474976710656 ≤ lo) : siteB six hi lo bits = false := by
  unfold siteB
  cases six
  · rfl
  · rw [Bool.eq_false_iff]
    intro hh
    simp at hh
    rcases h with h | h | h | h
    · cases h
    · exact h hh.1.1
    · omega
    · omega
theorem siteB_yes {hi lo : Nat} {bits : Int} (h1 : hi = 18230690457315508224) (h2 : 96 ≤ bits) (h3 : lo < 281474976710656) : siteB true hi lo bits = true := by
  unfold siteB
  simp [h1, h2, h3]
set_option maxRecDepth 100000 in
set_option maxHeartbeats 2000000 in
theorem siteOf_any (six : Bool) (hi lo : Nat) (bits : Int) (w : World) (h1 : U64N hi) (h2 : U64N lo) (hb : 0 ≤ bits ∧ bits ≤ 128) :
    Calls Tryd.prog 15 #[vP six hi lo bits] w (Ret (.tuple #[.int .i64 (siteN six hi lo bits), .agg (siteP six hi lo bits), .bool (siteB six hi lo bits)]) w) := by
  unfold vP
  have HP0 : Blk ((w.alloc (.cells #[.bool six, .int .u64 (hi : Int), .int .u64 (lo : Int), .int .i64 bits] 31 (0, 0))).alloc (.cells #[.bool false, .int .u64 0, .int .u64 0, .int .i64 0] 31 (0, 0))) w.heap.size 31 #[.bool six, .int .u64 (hi : Int), .int .u64 (lo : Int), .int .i64 bits] := (Blk.new w _ _).alloc _
  have HR0 : Blk ((w.alloc (.cells #[.bool six, .int .u64 (hi : Int), .int .u64 (lo : Int), .int .i64 bits] 31 (0, 0))).alloc (.cells #[.bool false, .int .u64 0, .int .u64 0, .int .i64 0] 31 (0, 0))) (w.heap.size + 1) 31 #[.bool false, .int .u64 0, .int .u64 0, .int .i64 0] := by
    have := Blk.new (w.alloc (.cells #[.bool six, .int .u64 (hi : Int), .int .u64 (lo : Int), .int .i64 bits] 31 (0, 0))) 31 #[.bool false, .int .u64 0, .int .u64 0, .int .i64 0]
    rw [World.size_alloc] at this
    exact this
  have HB0 : Hid (Below w.heap.size w ((w.alloc (.cells #[.bool six, .int .u64 (hi : Int), .int .u64 (lo : Int), .int .i64 bits] 31 (0, 0))).alloc (.cells #[.bool false, .int .u64 0, .int .u64 0, .int .i64 0] 31 (0, 0)))) := Lib.hid (below_alloc (below_alloc (Below.refl _ _) _) _)
  have HP := Lib.hid HP0
  have HR := Lib.hid HR0
  clear HP0 HR0
  unfold siteN siteP
  have HN := Lib.hid (@siteB_no six hi lo bits)
  have HY := Lib.hid (fun h : six = true => show hi = 18230690457315508224 → 96 ≤ bits → lo < 281474976710656 → siteB six hi lo bits = true by subst h; exact siteB_yes)
  generalize siteB six hi lo bits = sb at *
  obtain ⟨hb0, hb2⟩ := hb
  unfold U64N at h1 h2
  go_enter Tryd.func15, Tryd.ntmps15
  go_upto_region 1 with fail
  generalize (w.alloc (.cells #[.bool six, .int .u64 (hi : Int), .int .u64 (lo : Int), .int .i64 bits] 31 (0, 0))).alloc (.cells #[.bool false, .int .u64 0, .int .u64 0, .int .i64 0] 31 (0, 0)) = w1 at *
  have a0 := HP.out.cell 0
  have a1 := HP.out.cell 1
  have a2 := HP.out.cell 2
  have a3 := HP.out.cell 3
  have r0 := HR.out.cell 0
  have r1 := HR.out.cell 1
  have r2 := HR.out.cell 2
  have r3 := HR.out.cell 3
  have rf := HR.out.free
  simp at a0 a1 a2 a3 r0 r1 r2 r3
  by_cases hy : six = true ∧ hi = 18230690457315508224 ∧ 96 ≤ bits ∧ lo < 281474976710656
  · obtain ⟨rfl, rfl, hy2, hy3⟩ := hy
    have hsb := HY.out rfl rfl hy2 hy3
    subst hsb
    rw [if_pos rfl, if_pos rfl]
    clear HN HY
    have a1' : w1.cell? ⟨w.heap.size, 1, none⟩ = some (.int .u64 18230690457315508224) := a1
    have e1 : (lo : Int) / 281474976710656 = 0 := by omega
    have e2 : IntKind.i64.wrap ((lo : Int) / 4294967296) = (lo : Int) / 4294967296 := by rw [IntKind.wrap_i64]; omega
    have e3 : ¬ bits < 96 := by omega
    clear a1 HP
    go_upto_region 3 with fail
    clear e1 e3
    have q2 : World.cell? { heap := w1.heap, tape := w1.tape, drawn := w1.drawn + 1, os := w1.os, output := w1.output } ⟨w.heap.size, 2, none⟩ = some (.int .u64 (lo : Int)) := a2
    have q3 : World.cell? { heap := w1.heap, tape := w1.tape, drawn := w1.drawn + 1, os := w1.os, output := w1.output } ⟨w.heap.size, 3, none⟩ = some (.int .i64 bits) := a3
    go_still_tail 15, (by kernel_rfl)
    change wpList _ _ _ _ _ w1.drew
    have HB5 : Hid (Below w.heap.size w w1.drew) := Lib.hid (below_drew HB0.out)
    have HR5 : Hid (Blk w1.drew (w.heap.size + 1) 31 #[.bool false, .int .u64 0, .int .u64 0, .int .i64 0]) := Lib.hid (HR.out.drewN 1)
    clear q2 q3 a0 a1' a2 a3 r0 r1 r2 r3 rf HR HB0
    generalize w1.drew = w5 at *
    have r0 := HR5.out.cell 0
    have r1 := HR5.out.cell 1
    have r2 := HR5.out.cell 2
    have r3 := HR5.out.cell 3
    have rf := HR5.out.free
    simp at r0 r1 r2 r3
    go_wp2
    refine bodyPost_ret (v := .tuple #[.int .i64 ((lo : Int) / 4294967296), .agg #[.bool false, .int .u64 0, .int .u64 ((lo : Int) % 4294967296), .int .i64 (bits - 96)], .bool true]) (by simp [results, Tryd.results15, go_sem, r0, r1, r2, r3]) rfl ⟨rfl, ?_⟩
    repeat refine Below.setCell ?_ (by first | (simp; omega) | simp) _
    exact HB5.out
  · have hsb : sb = false := HN.out (by
      cases six
      · exact .inl rfl
      · rcases Nat.lt_or_ge lo 281474976710656 with h | h
        · by_cases h2 : hi = 18230690457315508224
          · exact .inr (.inr (.inl (by
              rcases Int.lt_or_le bits 96 with h3 | h3
              · exact h3
              · exact absurd ⟨rfl, h2, h3, h⟩ hy)))
          · exact .inr (.inl h2)
        · exact .inr (.inr (.inr h)))
    subst hsb
    rw [if_neg (by decide), if_neg (by decide)]
    clear HN HY
    have hcase : six = false ∨ (six = true ∧ ((hi : Int) == 18230690457315508224) = false) ∨ (six = true ∧ hi = 18230690457315508224 ∧ bits < 96) ∨ (six = true ∧ hi = 18230690457315508224 ∧ ¬ bits < 96 ∧ 281474976710656 ≤ lo) := by
      cases six
      · exact .inl rfl
      · refine .inr ?_
        by_cases h2 : hi = 18230690457315508224
        · refine .inr ?_
          rcases Int.lt_or_le bits 96 with h3 | h3
          · exact .inl ⟨rfl, h2, h3⟩
          · refine .inr ⟨rfl, h2, by omega, ?_⟩
            rcases Nat.lt_or_ge lo 281474976710656 with h | h
            · exact absurd ⟨rfl, h2, h3, h⟩ hy
            · exact h
        · refine .inl ⟨rfl, ?_⟩
          rw [beq_eq_false_iff_ne]
          omega
    clear hy
    rcases hcase with rfl | ⟨rfl, hq⟩ | ⟨rfl, rfl, hq⟩ | ⟨rfl, rfl, hq, hl⟩
    · clear HP
      go_wp2_with fail
      refine bodyPost_ret (v := .tuple #[.int .i64 0, .agg #[.bool false, .int .u64 0, .int .u64 0, .int .i64 0], .bool false]) (by simp [results, Tryd.results15, go_sem, r0, r1, r2, r3]) rfl ⟨rfl, ?_⟩
      repeat refine Below.setCell ?_ (by first | (simp; omega) | simp) _
      exact HB0.out
    · have hq2 : ((hi : Int) != 18230690457315508224) = true := by rw [bne, hq]; rfl
      clear HP
      go_wp2_with fail
      refine bodyPost_ret (v := .tuple #[.int .i64 0, .agg #[.bool false, .int .u64 0, .int .u64 0, .int .i64 0], .bool false]) (by simp [results, Tryd.results15, go_sem, r0, r1, r2, r3]) rfl ⟨rfl, ?_⟩
      repeat refine Below.setCell ?_ (by first | (simp; omega) | simp) _
      exact HB0.out
    · have a1' : w1.cell? ⟨w.heap.size, 1, none⟩ = some (.int .u64 18230690457315508224) := a1
      clear a1 HP
      go_wp2_with fail
      refine bodyPost_ret (v := .tuple #[.int .i64 0, .agg #[.bool false, .int .u64 0, .int .u64 0, .int .i64 0], .bool false]) (by simp [results, Tryd.results15, go_sem, r0, r1, r2, r3]) rfl ⟨rfl, ?_⟩
      repeat refine Below.setCell ?_ (by first | (simp; omega) | simp) _
      exact HB0.out
    · have a1' : w1.cell? ⟨w.heap.size, 1, none⟩ = some (.int .u64 18230690457315508224) := a1
      have e1 : (0 : Int) < (lo : Int) / 281474976710656 := by omega
      clear a1 HP
      go_wp2_with fail
      refine bodyPost_ret (v := .tuple #[.int .i64 0, .agg #[.bool false, .int .u64 0, .int .u64 0, .int .i64 0], .bool false]) (by simp [results, Tryd.results15, go_sem, r0, r1, r2, r3]) rfl ⟨rfl, ?_⟩
      repeat refine Below.setCell ?_ (by first | (simp; omega) | simp) _
      exact HB0.out
end Go.Proofs.YtaamonhhclffcaaDoor
