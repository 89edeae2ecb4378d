/-
  The program's Site.
-/
import Derived.Test.YtaamonhhclffcaaDoorSite
namespace Go.Proofs.YtaamonhhclffcaaDoor
open Go.RowKit Go
set_option linter.unusedVariables false

def siteR (six : Bool) (hi lo : Nat) (bits : Int) : Value :=
  if pFault six hi lo bits = 0 then .tuple #[.int .i64 (siteN six hi lo bits), .agg (siteP six hi lo bits), .int .i64 (if siteB six hi lo bits = true then 0 else 8)] else .tuple #[.int .i64 0, .agg #[.bool false, .int .u64 0, .int .u64 0, .int .i64 0], .int .i64 (pFault six hi lo bits)]
theorem u64_and32 (x : Nat) (hx : x < 18446744073709551616) : Go.bits .and .u64 (x : Int) 4294967295 = (x : Int) % 4294967296 := by
  have h127 : (BitVec.ofInt 64 4294967295).toNat = 2 ^ 32 - 1 := by decide
  have key : (BitVec.ofInt 64 (x : Int) &&& BitVec.ofInt 64 4294967295).toNat = x % 4294967296 := by
    rw [BitVec.toNat_and, BitVec.toNat_ofInt, h127, Nat.and_two_pow_sub_one_eq_mod]
    omega
  show IntKind.u64.wrap ((BitVec.ofInt 64 (x : Int) &&& BitVec.ofInt 64 4294967295).toNat : Nat) = _
  rw [key, IntKind.wrap_u64]
  omega
set_option maxRecDepth 100000 in
set_option maxHeartbeats 2000000 in
theorem site_any (six : Bool) (hi lo : Nat) (bits : Int) (w : World) (h1 : U64N hi) (h2 : U64N lo) :
    Calls Tryd.prog 14 #[vP six hi lo bits] w (Ret (siteR six hi lo bits) w) := by
  have HC := Lib.hid (fun wx => checkPrefix_any six hi lo bits wx h1 h2)
  obtain ⟨R, hR⟩ : ∃ R, siteR six hi lo bits = R := ⟨_, rfl⟩
  have HV : Hid (R = siteR six hi lo bits) := Lib.hid hR.symm
  rw [hR]
  clear hR
  unfold siteR siteN siteP at HV
  obtain ⟨pf, hpf⟩ : ∃ z, pFault six hi lo bits = z := ⟨_, rfl⟩
  rw [hpf] at HC HV
  have Hpf := Lib.hid hpf
  clear hpf
  unfold vP
  have HP0 : Blk ((w.alloc (.cells #[.bool six, .int .u64 (hi : Int), .int .u64 (lo : Int), .int .i64 bits] 31 (0, 0))).alloc (.cells #[.bool false, .int .u64 0, .int .u64 0, .int .i64 0] 31 (0, 0))) w.heap.size 31 #[.bool six, .int .u64 (hi : Int), .int .u64 (lo : Int), .int .i64 bits] := (Blk.new w _ _).alloc _
  have HR0 : Blk ((w.alloc (.cells #[.bool six, .int .u64 (hi : Int), .int .u64 (lo : Int), .int .i64 bits] 31 (0, 0))).alloc (.cells #[.bool false, .int .u64 0, .int .u64 0, .int .i64 0] 31 (0, 0))) (w.heap.size + 1) 31 #[.bool false, .int .u64 0, .int .u64 0, .int .i64 0] := by
    have := Blk.new (w.alloc (.cells #[.bool six, .int .u64 (hi : Int), .int .u64 (lo : Int), .int .i64 bits] 31 (0, 0))) 31 #[.bool false, .int .u64 0, .int .u64 0, .int .i64 0]
    rw [World.size_alloc] at this
    exact this
  have HB0 : Hid (Below w.heap.size w ((w.alloc (.cells #[.bool six, .int .u64 (hi : Int), .int .u64 (lo : Int), .int .i64 bits] 31 (0, 0))).alloc (.cells #[.bool false, .int .u64 0, .int .u64 0, .int .i64 0] 31 (0, 0)))) := Lib.hid (below_alloc (below_alloc (Below.refl _ _) _) _)
  have HP := Lib.hid HP0
  have HR := Lib.hid HR0
  clear HP0 HR0
  have HN := Lib.hid (@siteB_no six hi lo bits)
  have HY := Lib.hid (fun h : six = true => show hi = 18230690457315508224 → 96 ≤ bits → lo < 281474976710656 → siteB six hi lo bits = true by subst h; exact siteB_yes)
  generalize siteB six hi lo bits = sb at *
  unfold U64N at h1 h2
  go_enter Tryd.func14, Tryd.ntmps14
  go_upto_region 1 with fail
  generalize (w.alloc (.cells #[.bool six, .int .u64 (hi : Int), .int .u64 (lo : Int), .int .i64 bits] 31 (0, 0))).alloc (.cells #[.bool false, .int .u64 0, .int .u64 0, .int .i64 0] 31 (0, 0)) = w1 at *
  have a0 := HP.out.cell 0
  have a1 := HP.out.cell 1
  have a2 := HP.out.cell 2
  have a3 := HP.out.cell 3
  have r0 := HR.out.cell 0
  have r1 := HR.out.cell 1
  have r2 := HR.out.cell 2
  have r3 := HR.out.cell 3
  have rf := HR.out.free
  simp at a0 a1 a2 a3 r0 r1 r2 r3
  go_wp2_with fail
  refine (HC.out _).mono ?_
  rintro e w2 ⟨rfl, hb⟩
  have HP2 := Lib.hid (HP.out.below hb HP.out.lt)
  have HR2 := Lib.hid (HR.out.below hb HR.out.lt)
  have HB2 := Lib.hid (HB0.out.trans (hb.mono HB0.out.size))
  clear a0 a1 a2 a3 r0 r1 r2 r3 rf hb HP HR HB0 HC
  have a0 := HP2.out.cell 0
  have a1 := HP2.out.cell 1
  have a2 := HP2.out.cell 2
  have a3 := HP2.out.cell 3
  have r0 := HR2.out.cell 0
  have r1 := HR2.out.cell 1
  have r2 := HR2.out.cell 2
  have r3 := HR2.out.cell 3
  have rf := HR2.out.free
  simp at a0 a1 a2 a3 r0 r1 r2 r3
  by_cases hz : pf = 0
  rotate_left
  · have hz2 : (pf != 0) = true := by simpa using hz
    have hV := HV.out
    rw [if_neg hz] at hV
    subst hV
    clear HN HY HP2 HV
    go_wp2_with fail
    refine bodyPost_ret (v := .tuple #[.int .i64 0, .agg #[.bool false, .int .u64 0, .int .u64 0, .int .i64 0], .int .i64 pf]) (by simp [results, Tryd.results14, go_sem, r0, r1, r2, r3]) rfl ⟨rfl, ?_⟩
    repeat refine Below.setCell ?_ (by first | (simp; omega) | simp) _
    exact HB2.out
  subst hz
  obtain ⟨-, hb0, hb2⟩ := pFault_zero Hpf.out
  have hln := lenN_le six
  have hb3 : bits ≤ 128 := by omega
  clear hb2
  by_cases hy : six = true ∧ hi = 18230690457315508224 ∧ 96 ≤ bits ∧ lo < 281474976710656
  · obtain ⟨rfl, rfl, hy2, hy3⟩ := hy
    have hsb := HY.out rfl rfl hy2 hy3
    subst hsb
    have hV := HV.out
    rw [if_pos rfl, if_pos rfl, if_pos rfl, if_pos rfl] at hV
    subst hV
    clear HN HY hln HV
    have a1' : w2.cell? ⟨w.heap.size, 1, none⟩ = some (.int .u64 18230690457315508224) := a1
    have e1 : ¬ (lo : Int) / 4294967296 > 65535 := by omega
    have e4 : Hid (Go.bits .and .u64 (lo : Int) 4294967295 = (lo : Int) % 4294967296) := Lib.hid (u64_and32 lo h2)
    have e2 : IntKind.i64.wrap ((lo : Int) / 4294967296) = (lo : Int) / 4294967296 := by rw [IntKind.wrap_i64]; omega
    have e3 : ¬ bits < 96 := by omega
    clear a1 HP2
    go_upto_region 7 with fail
    clear e1 e3
    have q2 : World.cell? { heap := w2.heap, tape := w2.tape, drawn := w2.drawn + 1, os := w2.os, output := w2.output } ⟨w.heap.size, 2, none⟩ = some (.int .u64 (lo : Int)) := a2
    have q3 : World.cell? { heap := w2.heap, tape := w2.tape, drawn := w2.drawn + 1, os := w2.os, output := w2.output } ⟨w.heap.size, 3, none⟩ = some (.int .i64 bits) := a3
    go_still_tail 12, (by kernel_rfl)
    rw [e4.out]
    change wpList _ _ _ _ _ w2.drew
    have HB5 : Hid (Below w.heap.size w w2.drew) := Lib.hid (below_drew HB2.out)
    have HR5 : Hid (Blk w2.drew (w.heap.size + 1) 31 #[.bool false, .int .u64 0, .int .u64 0, .int .i64 0]) := Lib.hid (HR2.out.drewN 1)
    clear q2 q3 a0 a1' a2 a3 r0 r1 r2 r3 rf HR2 HB2
    generalize w2.drew = w5 at *
    have r0 := HR5.out.cell 0
    have r1 := HR5.out.cell 1
    have r2 := HR5.out.cell 2
    have r3 := HR5.out.cell 3
    have rf := HR5.out.free
    simp at r0 r1 r2 r3
    go_wp2
    refine bodyPost_ret (v := .tuple #[.int .i64 ((lo : Int) / 4294967296), .agg #[.bool false, .int .u64 0, .int .u64 ((lo : Int) % 4294967296), .int .i64 (bits - 96)], .int .i64 0]) (by simp [results, Tryd.results14, go_sem, r0, r1, r2, r3]) rfl ⟨rfl, ?_⟩
    repeat refine Below.setCell ?_ (by first | (simp; omega) | simp) _
    exact HB5.out
  · have hsb : sb = false := HN.out (by
      cases six
      · exact .inl rfl
      · rcases Nat.lt_or_ge lo 281474976710656 with h | h
        · by_cases h2 : hi = 18230690457315508224
          · exact .inr (.inr (.inl (by
              rcases Int.lt_or_le bits 96 with h3 | h3
              · exact h3
              · exact absurd ⟨rfl, h2, h3, h⟩ hy)))
          · exact .inr (.inl h2)
        · exact .inr (.inr (.inr h)))
    subst hsb
    have hV := HV.out
    rw [if_pos rfl, if_neg (by decide), if_neg (by decide), if_neg (by decide)] at hV
    subst hV
    clear HN HY hln HV
    have hcase : six = false ∨ (six = true ∧ ((hi : Int) == 18230690457315508224) = false) ∨ (six = true ∧ hi = 18230690457315508224 ∧ bits < 96) ∨ (six = true ∧ hi = 18230690457315508224 ∧ ¬ bits < 96 ∧ 281474976710656 ≤ lo) := by
      cases six
      · exact .inl rfl
      · refine .inr ?_
        by_cases h2 : hi = 18230690457315508224
        · refine .inr ?_
          rcases Int.lt_or_le bits 96 with h3 | h3
          · exact .inl ⟨rfl, h2, h3⟩
          · refine .inr ⟨rfl, h2, by omega, ?_⟩
            rcases Nat.lt_or_ge lo 281474976710656 with h | h
            · exact absurd ⟨rfl, h2, h3, h⟩ hy
            · exact h
        · refine .inl ⟨rfl, ?_⟩
          rw [beq_eq_false_iff_ne]
          omega
    clear hy
    rcases hcase with rfl | ⟨rfl, hq⟩ | ⟨rfl, rfl, hq⟩ | ⟨rfl, rfl, hq, hl⟩
    · clear HP2
      go_wp2_with fail
      refine bodyPost_ret (v := .tuple #[.int .i64 0, .agg #[.bool false, .int .u64 0, .int .u64 0, .int .i64 0], .int .i64 8]) (by simp [results, Tryd.results14, go_sem, r0, r1, r2, r3]) rfl ⟨rfl, ?_⟩
      repeat refine Below.setCell ?_ (by first | (simp; omega) | simp) _
      exact HB2.out
    · have hq2 : ((hi : Int) != 18230690457315508224) = true := by rw [bne, hq]; rfl
      clear HP2
      go_wp2_with fail
      refine bodyPost_ret (v := .tuple #[.int .i64 0, .agg #[.bool false, .int .u64 0, .int .u64 0, .int .i64 0], .int .i64 8]) (by simp [results, Tryd.results14, go_sem, r0, r1, r2, r3]) rfl ⟨rfl, ?_⟩
      repeat refine Below.setCell ?_ (by first | (simp; omega) | simp) _
      exact HB2.out
    · have a1' : w2.cell? ⟨w.heap.size, 1, none⟩ = some (.int .u64 18230690457315508224) := a1
      clear a1 HP2
      go_wp2_with fail
      refine bodyPost_ret (v := .tuple #[.int .i64 0, .agg #[.bool false, .int .u64 0, .int .u64 0, .int .i64 0], .int .i64 8]) (by simp [results, Tryd.results14, go_sem, r0, r1, r2, r3]) rfl ⟨rfl, ?_⟩
      repeat refine Below.setCell ?_ (by first | (simp; omega) | simp) _
      exact HB2.out
    · have a1' : w2.cell? ⟨w.heap.size, 1, none⟩ = some (.int .u64 18230690457315508224) := a1
      have e1 : (lo : Int) / 4294967296 > 65535 := by omega
      clear a1 HP2
      go_wp2_with fail
      refine bodyPost_ret (v := .tuple #[.int .i64 0, .agg #[.bool false, .int .u64 0, .int .u64 0, .int .i64 0], .int .i64 8]) (by simp [results, Tryd.results14, go_sem, r0, r1, r2, r3]) rfl ⟨rfl, ?_⟩
      repeat refine Below.setCell ?_ (by first | (simp; omega) | simp) _
      exact HB2.out
end Go.Proofs.YtaamonhhclffcaaDoor
