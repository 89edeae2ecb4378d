/-
  slices.Grow of nil and slices.Concat of two slices of reports.
  The fault of a list of reports: the reference.
  slices.Equal of two rows of the same reports.
  Slices of ints: an own row, Clone, Min, Max, the numbers' faults.
  The contract of slices.Sort at []int over this program, as the kit's lay-plain.mjs prints it. Condition: the slice is not nil, its cells are known, fewer than 2^62 of them.
  Sorting an own row of ints, in the words of an own row.
  Twice the median, four times the spread: the program and the reference.
  Four times the spread: the program and the reference give the same number.
-/
import Derived.Test.YtaeieigdibanlaaGreatDoorRM6
import Derived.Lib.AppendZeros
import Derived.Test.YtaeieigdibanlaaGreatDoorRM10
import Derived.Test.YtaeieigdibanlaaGreatDoorRM8
import Derived.Deep.Light
import Derived.Test.YtaeieigdibanlaaGreatDoorRM5
import Derived.Test.YtaeieigdibanlaaGreatDoorRM1
import Derived.Lib.LazyBuf
import Derived.Shelf.Sort.Plain
import Derived.Test.YtaeieigdibanlaaGreatDoorProg
set_option linter.unusedVariables false
namespace Go.Proofs.YtaeieigdibanlaaGreatDoor
open Go.RowKit Go
set_option linter.unusedVariables false

theorem zeroCells_sizeR (cs : Array Value) (n : Nat) : (Builtin.zeroCells cs n).size = n * cs.size := by
  first | simp [Builtin.zeroCells] | simp [Builtin.zeroCells]
theorem ownK_zeroR {α : Type} (E : Lay α) (w : World) (B : Nat) (hB : B ≤ w.heap.size) (cs : Array Value) (m : Nat) (hcs : cs.size = m * E.K) (hm : m ≤ maxLen) : OwnK E (w.alloc (.cells cs E.ty (0, 0))) B (.slice (some ⟨w.heap.size, 0, none⟩) 0 m) [] :=
  ⟨by simp [Lay.all], .inr ⟨w.heap.size, m, cs, rfl, hB, heap_alloc_new w _, Nat.zero_le _, hm, hcs, by simp [Lay.all]⟩⟩
set_option maxRecDepth 100000 in
set_option maxHeartbeats 1000000 in
theorem growRb_any (n : Nat) (w : World) (hn : n ≤ 1000000) : Calls Tryz.prog 100 #[.slice none 0 0, .int .i64 (n : Int)] w fun e w' => ∃ v, e = .returned v ∧ OwnK layRb w' w.heap.size v [] ∧ Below w.heap.size w w' := by
  by_cases h0 : n = 0
  · subst h0
    go_enter Tryz.func100, Tryz.ntmps100
    go_wp2
    go_ret
    exact ⟨_, rfl, OwnK.nil _ _ _, Below.refl _ _⟩
  · obtain ⟨i, hi0, hi1, hi2, hi3⟩ := info_parts (show (Tryz.prog.info? 37).map (fun i => (i.zero, i.size, i.bytes)) = some (some (.agg #[.string ⟨#[]⟩, .int .i64 0, .bool false, .int .i64 0, .bool false, .int .u64 0, .int .u64 0, .bool false, .int .u64 0, .int .u64 0, .int .i64 0, .int .i64 0, .int .i64 0, .int .i64 0]), 14, 120) by kernel_rfl)
    have hrun := fun ty => Lib.run_append_nil_zeros (P := Tryz.prog) w 26 3 ty 37 i (.agg #[.string ⟨#[]⟩, .int .i64 0, .bool false, .int .i64 0, .bool false, .int .u64 0, .int .u64 0, .bool false, .int .u64 0, .int .u64 0, .int .i64 0, .int .i64 0, .int .i64 0, .int .i64 0]) .i64 .i64 Tryz.underlying26 Tryz.underlying3 hi0 hi1 n (by omega) (by rw [hi2]; decide) (by omega) (by rw [hi3]; omega)
    go_enter Tryz.func100, Tryz.ntmps100
    go_wp2_with (at_builtin; refine Lib.wpList_append_run _ rfl _ _ _ _ rfl _ _ rfl rfl _ _ (hrun _) ?_)
    have hge := grownCap_ge w n 0 37
    have hle := grownCap_le_maxLen w n 0 37 (by unfold maxLen; omega)
    generalize grownCap w n 0 37 = m at *
    go_ret
    exact ⟨_, rfl, ownK_zeroR layRb w.drew w.heap.size (Nat.le_refl _) _ m (by rw [Array.size_append, zeroCells_sizeR, zeroCells_sizeR]; show n * 14 + (m - n) * 14 = m * 14; omega) hle, below_alloc (below_drew (Below.refl _ _)) _⟩
def tkR (n1 n2 : Nat) : Nat → Nat
  | 0 => 0
  | 1 => n1
  | _ => n1 + n2
def tLR (L1 L2 : List RB) : Nat → List RB
  | 0 => []
  | 1 => L1
  | _ => L1 ++ L2
set_option maxRecDepth 100000 in
set_option maxHeartbeats 2000000 in
theorem concatRb_any (g c : Nat) (ad1 ad2 : Option Addr) (n1 c1 n2 c2 : Nat) (L1 L2 : List RB) (w : World) (hg : w.heap[g]? = some (.cells #[.slice ad1 n1 c1, .slice ad2 n2 c2] 26 (0, 0))) (h1 : RdK layRb w ad1 L1) (h2 : RdK layRb w ad2 L2) (hn1 : L1.length = n1) (hn2 : L2.length = n2) (hs1 : n1 ≤ 100000) (hs2 : n2 ≤ 100000) :
    Calls Tryz.prog 55 #[.slice (some ⟨g, 0, none⟩) 2 c] w fun e w' => ∃ v, e = .returned v ∧ OwnK layRb w' w.heap.size v (L1 ++ L2) ∧ Below w.heap.size w w' := by
  have HG : Hid (Blk w g 26 #[.slice ad1 n1 c1, .slice ad2 n2 c2]) := Lib.hid hg
  have H1 := Lib.hid h1
  have H2 := Lib.hid h2
  have Hn1 := Lib.hid hn1
  have Hn2 := Lib.hid hn2
  have hglt := HG.out.lt
  clear hg h1 h2 hn1 hn2
  have g0 := HG.out.cell 0
  have g1 := HG.out.cell 1
  simp at g0 g1
  go_enter Tryz.func55, Tryz.ntmps55
  go_wp2
  go_loop [3, 11] (fun t i => ∃ k : Nat, k ≤ 2 ∧ i = .int .i64 (k : Int) ∧ t = .int .i64 ((tkR n1 n2 k : Nat) : Int)) (fun _ i => 2 - (intOf i).toNat)
  case atStart => exact ⟨0, Nat.zero_le _, rfl, rfl⟩
  case round =>
    obtain ⟨k, hk, rfl, rfl⟩ := hrel
    have hk3 : k = 0 ∨ k = 1 ∨ k = 2 := by omega
    rcases hk3 with rfl | rfl | rfl
    · simp only [tkR, Int.cast_ofNat_Int] at *
      go_wp2
      exact ⟨⟨1, by omega, rfl, by show _ = Value.int .i64 (n1 : Int); first | rfl | simp⟩, by simp [intOf]⟩
    · simp only [tkR, Int.cast_ofNat_Int] at *
      go_wp2
      exact ⟨⟨2, by omega, rfl, by show _ = Value.int .i64 ((n1 + n2 : Nat) : Int); first | rfl | (congr 1)⟩, by simp [intOf]⟩
    · simp only [tkR] at *
      obtain ⟨tt, htt⟩ : ∃ tt, n1 + n2 = tt := ⟨_, rfl⟩
      rw [htt]
      have htb : tt ≤ 200000 := by omega
      go_wp2_with fail
      refine (growRb_any tt w (by omega)).mono ?_
      rintro e w1 ⟨v1, rfl, hO, hb⟩
      have HO := Lib.hid hO
      have HB := Lib.hid hb
      clear hO hb
      go_wp2
      go_loopw [6, 27] (fun s i wr => ∃ k' : Nat, k' ≤ 2 ∧ i = .int .i64 (k' : Int) ∧ Hid (OwnK layRb wr w.heap.size s (tLR L1 L2 k')) ∧ Hid (Below w.heap.size w wr)) (fun _ i _ => 2 - (intOf i).toNat)
      case atStart => exact ⟨0, Nat.zero_le _, rfl, HO, HB⟩
      case round =>
        clear HO HB
        obtain ⟨k', hk', rfl, HO, HB⟩ := hrel
        have hwlt : g < wr.heap.size := Nat.lt_of_lt_of_le hglt HB.out.size
        have HG2 := HG.out.below HB.out hglt
        have e0 := HG2.cell 0
        have e1 := HG2.cell 1
        simp at e0 e1
        have hk3 : k' = 0 ∨ k' = 1 ∨ k' = 2 := by omega
        clear HG2
        rcases hk3 with rfl | rfl | rfl
        · have hsr := (H1.out.below HB.out).src
          rw [Hn1.out] at hsr
          have HS : Hid (Src wr ad1 n1 14 (layRb.all L1)) := Lib.hid hsr
          have HOr : Hid (wr.ownsRow w.heap.size 37 14 u6 0 []) := Lib.hid HO.out
          have HSo := Lib.hid (layRb.all_one L1)
          clear hsr HO
          go_wp2_with (at_builtin; refine wpList_app rbE rfl (.tmp 31) (.tmp 32) rfl rfl HOr.out rfl HS.out HSo.out ?h1 ?h2 ?h3 ?_)
          case h1 => unfold maxLen; omega
          case h2 => omega
          case h3 => exact HB.out.size
          intro v' w' hO' hG
          have HO' : Hid (OwnK layRb w' w.heap.size v' L1) := Lib.hid (by
            show w'.ownsRow _ _ _ _ L1.length (layRb.all L1)
            rw [Hn1.out]
            exact hO')
          have HB' := Lib.hid (HB.out.trans (hG.below HB.out.size (own_base HOr.out)))
          clear hO' hG HB HS HOr HSo
          go_wp2
          exact ⟨⟨1, by omega, rfl, HO', HB'⟩, by simp [intOf]⟩
        · have hsr := (H2.out.below HB.out).src
          rw [Hn2.out] at hsr
          have HS : Hid (Src wr ad2 n2 14 (layRb.all L2)) := Lib.hid hsr
          have HOr : Hid (wr.ownsRow w.heap.size 37 14 u6 n1 (layRb.all L1)) := Lib.hid (by
            have this : wr.ownsRow w.heap.size 37 14 u6 L1.length (layRb.all L1) := HO.out
            rw [Hn1.out] at this
            exact this)
          have HSo := Lib.hid (layRb.all_one L2)
          clear hsr HO
          go_wp2_with (at_builtin; refine wpList_app rbE rfl (.tmp 31) (.tmp 32) rfl rfl HOr.out rfl HS.out HSo.out ?h1b ?h2b ?h3b ?_)
          case h1b => unfold maxLen; omega
          case h2b => omega
          case h3b => exact HB.out.size
          intro v' w' hO' hG
          have HO' : Hid (OwnK layRb w' w.heap.size v' (L1 ++ L2)) := Lib.hid (OwnK.app (by rw [Hn1.out, Hn2.out, htt]; exact hO'))
          have HB' := Lib.hid (HB.out.trans (hG.below HB.out.size (own_base HOr.out)))
          clear hO' hG HB HS HOr HSo
          go_wp2
          exact ⟨⟨2, by omega, rfl, HO', HB'⟩, by simp [intOf]⟩
        · go_wp2
          go_ret
          exact ⟨_, rfl, HO.out, HB.out⟩
end Go.Proofs.YtaeieigdibanlaaGreatDoor

namespace Go.Proofs.YtaeieigdibanlaaGreatDoor
open Go.RowKit Go
set_option linter.unusedVariables false

set_option maxRecDepth 100000 in
set_option maxHeartbeats 4000000 in
theorem reportsFault_any (ad : Option Addr) (n c : Nat) (L : List RB) (w : World) (h : RdK layRb w ad L) (hn : L.length = n) (hs : n ≤ 1000000) :
    Calls Tryz.prog 12 #[.slice ad n c] w (Ret (.int .i64 (repF L)) w) := by
  by_cases hbig : 3000 < n
  · have e : repF L = 2 := by unfold repF; rw [hn, if_pos hbig]
    rw [e]
    have b : (3000 : Int) < (n : Int) := by omega
    clear e h hn
    go_enter Tryz.func12, Tryz.ntmps12
    go_wp2_with fail
    go_ret
    exact ⟨rfl, Below.refl _ _⟩
  · have hb0 : ¬ (3000 : Int) < (n : Int) := by omega
    rw [repF_scan (by rw [hn]; exact hbig)]
    obtain ⟨R, hR⟩ : ∃ R, scanRF (prevR L 0) (L.drop 0) = R := ⟨_, rfl⟩
    have HR0 := Lib.hid hR
    rw [hR]
    have H0 := Lib.hid h
    have Hn := Lib.hid hn
    clear hR h hn
    go_enter Tryz.func12, Tryz.ntmps12
    go_wp2_with fail
    go_loopw [11] (fun i wr => ∃ k : Nat, k ≤ n ∧ i = .int .i64 (k : Int) ∧ Hid (scanRF (prevR L k) (L.drop k) = R) ∧ Hid (Below w.heap.size w wr)) (fun i _ => n - (intOf i).toNat)
    case atStart => exact ⟨0, Nat.zero_le _, rfl, HR0, Lib.hid (Below.refl _ _)⟩
    case round =>
      clear HR0
      obtain ⟨k, hk, rfl, HS, HB⟩ := hrel
      by_cases hlt : k < n
      · obtain ⟨x, hx⟩ : ∃ x, L[k]? = some x := ⟨_, List.getElem?_eq_getElem (by rw [Hn.out]; exact hlt)⟩
        obtain ⟨g, o, had, hg, hc⟩ := (H0.out.below HB.out) k x hx
        have HRx : Hid (wr.rangeAt g (o + k * 14) (layRb.enc x)) := Lib.hid fun j v hv => by
          have := hc j v hv
          rwa [← Nat.add_assoc] at this
        have HRp : Hid (∀ wx, Below wr.heap.size wr wx → ∀ (m : Nat) (y : RB), k = m + 1 → L[m]? = some y → wx.rangeAt g (o + m * 14) ((layRb.enc y).toArray).toList) := Lib.hid fun wx hb m y hm hy => by
          obtain ⟨g', o', had', hg', hc'⟩ := ((H0.out.below HB.out).below hb) m y hy
          rw [had] at had'
          injection had' with had'
          injection had' with q1 q2 q3
          subst q1 q2
          intro j v hv
          have := hc' j v hv
          rwa [← Nat.add_assoc] at this
        have HSt := HS.out
        rw [scanRF_step hx, afterRF_eq] at HSt
        have HKy := Lib.hid fun wx => qKey_any x.1.node.data.toList wx (by have := x.2.2.2.2; rw [← strL_size, strL_of]; omega)
        rw [strL_of] at HKy
        have HHr := Lib.hid fun wx => in_any x.1.hour 0 96023 wx
        rw [inB_out] at HHr
        have HFl := Lib.hid fun wx => qFlowFault_any x.1.f wx x.2.1
        have HPk := Lib.hid fun wx => in_any x.1.pk 1 1000000000000 wx
        rw [inB_out] at HPk
        have HSz := Lib.hid fun wx => in_any x.1.sz 0 1000000000000 wx
        rw [inB_out] at HSz
        have HCm := Lib.hid fun y wx => reportOrder_any y x wx
        have HX1 : Hid ((layRb.enc x).toArray.size = 14) := Lib.hid (by rw [List.size_toArray, layRb.len]; rfl)
        have HX2 : Hid ((layRb.enc x).toArray.all (·.oneCell') = true) := Lib.hid (all_oneCell_toArray (layRb.one x))
        have hcells : ∀ w2 b, Blk w2 b 37 (layRb.enc x).toArray → w2.cell? ⟨b, 0, none⟩ = some (.string x.1.node) ∧ w2.cell? ⟨b, 1, none⟩ = some (.int .i64 x.1.hour) ∧ w2.cell? ⟨b, 12, none⟩ = some (.int .i64 x.1.pk) ∧ w2.cell? ⟨b, 13, none⟩ = some (.int .i64 x.1.sz) ∧ w2.rangeAt b 3 x.1.f.cells.toList := fun w2 b hb => ⟨hb.cell 0, hb.cell 1, hb.cell 12, hb.cell 13, rbFlow (x := x.1) hb⟩
        have S9 : Hid (x.1.f.cells.toList.length = 9) := Lib.hid rfl
        have HX := Lib.hid hcells
        have Hpx := Lib.hid (prevR_succ hx)
        have HP0 : Hid (∀ m, k = m + 1 → prevR L k = L[m]?) := Lib.hid fun m hm => by subst hm; unfold prevR; rw [if_neg (by omega)]; rfl
        have HPz : Hid (k = 0 → prevR L k = none) := Lib.hid fun hm => by subst hm; rfl
        have HSn : Hid (scanRF (prevR L (k + 1)) (L.drop (k + 1)) = R → True) := Lib.hid fun _ => trivial
        obtain ⟨XC, hXC⟩ : ∃ X, (layRb.enc x).toArray = X := ⟨_, rfl⟩
        have hXL : layRb.enc x = XC.toList := by rw [← hXC]
        rw [hXL] at HRx
        rw [hXC] at HX1 HX2 HX
        simp only [hXC] at HCm
        generalize keyB x.1.node.data.toList = K1 at *
        generalize outB x.1.hour 0 96023 = O1 at *
        generalize flowFault x.1.f = FF at *
        generalize outB x.1.pk 1 1000000000000 = O2 at *
        generalize outB x.1.sz 0 1000000000000 = O3 at *
        generalize x.1.f.cells = FC at *
        generalize x.1.node = ND at *
        generalize x.1.hour = HR at *
        generalize x.1.pk = PK at *
        generalize x.1.sz = SZ at *
        have HST := Lib.hid HSt
        have Hx := Lib.hid hx
        clear HSt hXC hXL hcells hc hx
        subst had
        have HP : Hid (Blk (wr.alloc (.cells XC 37 (0, 0))) wr.heap.size 37 XC) := Lib.hid (Blk.new wr _ _)
        have hbr : Below wr.heap.size wr (wr.alloc (.cells XC 37 (0, 0))) := below_alloc (Below.refl _ _) _
        have HBr := Lib.hid hbr
        clear hbr
        go_upto_region 6 with (first | (refine wpList_loadn rfl 37 _ rfl g (o + k * 14) rfl _ _ HRx.out under_rb rfl 14 size_rb (by simpa using HX1.out) ?_; go_simp) | (refine wpList_var3R XC 37 Tryz.zeroValue37 rfl rfl rfl _ rfl rfl _ _ rfl _ rfl _ rfl ?_ ?_ 14 size_rb HX1.out ?_ HX2.out ?_; all_goals (try rfl); try go_simp))
        generalize wr.alloc (.cells XC 37 (0, 0)) = w2 at *
        generalize wr.heap.size = bx at HP ⊢
        obtain ⟨a0, a1, a12, a13, -⟩ := HX.out _ _ HP.out
        go_wp2_with fail
        refine (HKy.out _).mono ?_
        rintro e w3 ⟨rfl, hb3⟩
        have HP3 := Lib.hid (HP.out.below hb3 HP.out.lt)
        have HB3 : Hid (Below wr.heap.size wr w3) := Lib.hid (HBr.out.trans (hb3.mono HBr.out.size))
        clear hb3 HBr HP HKy a0 a1 a12 a13
        obtain ⟨a0, a1, a12, a13, hfr⟩ := HX.out _ _ HP3.out
        have HFr := Lib.hid hfr
        clear hfr
        cases K1
        · have hR : R = 5 := HST.out.symm
          subst hR
          clear HST
          go_wp2_with fail
          go_ret
          exact ⟨rfl, HB.out.trans (HB3.out.mono HB.out.size)⟩
        · go_wp2_with fail
          refine (HHr.out _).mono ?_
          rintro e w4 ⟨rfl, rfl⟩
          clear HHr
          cases O1
          · go_wp2_with (refine wpList_loadn rfl 35 _ rfl bx 3 rfl FC.toList _ HFr.out under_flow rfl 9 size_flow S9.out ?_; go_simp)
            refine (HFl.out _).mono ?_
            rintro e w5 ⟨rfl, hb5⟩
            have HP5 := Lib.hid (HP3.out.below hb5 HP3.out.lt)
            have HB5 : Hid (Below wr.heap.size wr w5) := Lib.hid (HB3.out.trans (hb5.mono HB3.out.size))
            clear hb5 HB3 HP3 HFl HFr a0 a1 a12 a13
            obtain ⟨-, -, a12, a13, -⟩ := HX.out _ _ HP5.out
            by_cases hFF : FF = 0
            · subst hFF
              go_wp2_with fail
              refine (HPk.out _).mono ?_
              rintro e w6 ⟨rfl, rfl⟩
              cases O2
              · go_wp2_with fail
                refine (HSz.out _).mono ?_
                rintro e w6 ⟨rfl, rfl⟩
                cases O3
                · have hST : (if ordF (prevR L k) x ≠ 0 then ordF (prevR L k) x else scanRF (prevR L (k + 1)) (L.drop (k + 1))) = R := by
                    have := HST.out
                    simpa using this
                  have HST2 := Lib.hid hST
                  clear hST HST HPk HSz a12 a13
                  rcases Nat.eq_zero_or_pos k with h0 | h0
                  · subst h0
                    have hN : scanRF (prevR L (0 + 1)) (L.drop (0 + 1)) = R := by
                      have := HST2.out
                      rw [HPz.out rfl] at this
                      exact this
                    have HN := Lib.hid hN
                    clear hN HST2 HPz HP0 HRp HCm
                    go_upto_region 15 with fail
                    refine wp_region_later (by kernel_rfl) (by kernel_rfl) ?_
                    repeat (go_big_quiet_step (fail))
                    refine wpQuiet_nil ?_
                    rintro w7 ⟨m7, hm7⟩
                    have hb : Below w5.heap.size w5 w7 := by rw [hm7]; exact m7.2
                    have HB7 : Hid (Below w.heap.size w w7) := Lib.hid (HB.out.trans ((HB5.out.trans (hb.mono HB5.out.size)).mono HB.out.size))
                    clear hm7 m7 hb
                    go_wp2_with fail
                    exact ⟨⟨1, by omega, rfl, HN, HB7⟩, by simp [intOf]; omega⟩
                  · obtain ⟨m, rfl⟩ : ∃ m, k = m + 1 := ⟨k - 1, by omega⟩
                    obtain ⟨y, hy⟩ : ∃ y, L[m]? = some y := ⟨_, List.getElem?_eq_getElem (by rw [Hn.out]; omega)⟩
                    have hp0 : prevR L (m + 1) = some y := (HP0.out m rfl).trans hy
                    have HYr : Hid (∀ wx, (∃ q : Later w5, wx = q.1) → wx.rangeAt g (o + m * 14) ((layRb.enc y).toArray).toList) := Lib.hid fun wx ⟨q, hq⟩ => by
                      subst hq
                      exact HRp.out _ (HB5.out.trans (q.2.mono HB5.out.size)) m y rfl hy
                    have HXr : Hid (∀ wx, (∃ q : Later w5, wx = q.1) → wx.rangeAt bx 0 XC.toList) := Lib.hid fun wx ⟨q, hq⟩ => by
                      subst hq
                      exact (HP5.out.below q.2 HP5.out.lt).range
                    have Ys : ((layRb.enc y).toArray).size = 14 := by rw [List.size_toArray, layRb.len]; rfl
                    have hst := HST2.out
                    rw [hp0] at hst
                    have hst2 : (if (if 0 ≤ cR y x then (7 : Int) else 0) ≠ 0 then (if 0 ≤ cR y x then (7 : Int) else 0) else scanRF (prevR L (m + 1 + 1)) (L.drop (m + 1 + 1))) = R := hst
                    have hQ := fun q : Later w5 => Calls.later q ((HCm.out y q.1).mono fun _ _ => RetD.ret)
                    generalize cR y x = C at *
                    obtain ⟨YC, hYC⟩ : ∃ X, (layRb.enc y).toArray = X := ⟨_, rfl⟩
                    rw [hYC] at HYr Ys hQ
                    have HS1 : Hid (0 ≤ C → R = 7) := Lib.hid fun h => by rw [if_pos h] at hst2; exact hst2.symm
                    have HS2 : Hid (¬ 0 ≤ C → scanRF (prevR L (m + 1 + 1)) (L.drop (m + 1 + 1)) = R) := Lib.hid fun h => by rw [if_neg h] at hst2; exact hst2
                    have Xs := HX1.out
                    clear hst hst2 HST2 hYC hp0 hy HRp HCm HP0 HPz
                    have e1 : (((m + 1 : Nat) : Int) - 1) = (m : Int) := by omega
                    have e2 : IntKind.i64.wrap (m : Int) = (m : Int) := by rw [IntKind.wrap_i64]; omega
                    have e3 : wrap64 (((m + 1 : Nat) : Int) - 1) = (m : Int) := by unfold wrap64; omega
                    have b1 : (0 : Int) ≤ (m : Int) := by omega
                    have b2 : (m : Int) < (n : Int) := by omega
                    have b3 : (0 : Int) < ((m + 1 : Nat) : Int) := by omega
                    go_upto_region 15 with fail
                    refine wp_region_later (by kernel_rfl) (by kernel_rfl) ?_
                    repeat (first | (refine wpQuiet_loadn rfl 37 _ rfl _ rfl g (o + m * 14) rfl YC HYr.out _ under_rb rfl 14 size_rb Ys ?_; go_simp) | (refine wpQuiet_loadn rfl 37 _ rfl _ rfl bx 0 rfl XC HXr.out _ under_rb rfl 14 size_rb Xs ?_; go_simp) | go_big_quiet_step ((go_at_call 42; exact hQ _)))
                    refine wpQuiet_nil ?_
                    rintro ⟨w7, hb⟩
                    dsimp only
                    have HB7 : Hid (Below w.heap.size w w7) := Lib.hid (HB.out.trans ((HB5.out.trans (hb.mono HB5.out.size)).mono HB.out.size))
                    clear hb hQ HYr HXr
                    by_cases hC : 0 ≤ C
                    · have hR := HS1.out hC
                      subst hR
                      clear HS1 HS2
                      go_wp2_with fail
                      go_ret
                      exact ⟨rfl, HB7.out⟩
                    · have HN := Lib.hid (HS2.out (by omega))
                      have hC2 : (0 ≤ C) = False := eq_false hC
                      clear HS1 HS2
                      go_wp2_with fail
                      exact ⟨⟨m + 1 + 1, by omega, by go_num, HN, HB7⟩, by simp [intOf]; omega⟩
                · have hR : R = 1 := by
                    have := HST.out
                    simpa using this.symm
                  subst hR
                  clear HST
                  go_wp2_with fail
                  go_ret
                  exact ⟨rfl, HB.out.trans (HB5.out.mono HB.out.size)⟩
              · have hR : R = 1 := by
                  have := HST.out
                  simpa using this.symm
                subst hR
                clear HST
                go_wp2_with fail
                go_ret
                exact ⟨rfl, HB.out.trans (HB5.out.mono HB.out.size)⟩
            · have hR : R = FF := by
                have := HST.out
                simpa [hFF] using this.symm
              subst hR
              have hne : (R != 0) = true := by simpa using hFF
              clear HST
              go_wp2_with fail
              go_ret
              exact ⟨rfl, HB.out.trans (HB5.out.mono HB.out.size)⟩
          · have hR : R = 1 := by
              have := HST.out
              simpa using this.symm
            subst hR
            clear HST
            go_wp2_with fail
            go_ret
            exact ⟨rfl, HB.out.trans (HB3.out.mono HB.out.size)⟩
      · obtain rfl : k = n := by omega
        have hS := HS.out
        rw [List.drop_of_length_le (by rw [Hn.out]; exact Nat.le_refl _)] at hS
        have hR : R = 0 := hS.symm
        subst hR
        clear hS
        go_wp2_with fail
        go_ret
        exact ⟨rfl, HB.out⟩
end Go.Proofs.YtaeieigdibanlaaGreatDoor

namespace Go.Proofs.YtaeieigdibanlaaGreatDoor
open Go.RowKit Go
set_option linter.unusedVariables false

/-- what the region of Equal has yielded -/
def eqRbR (s1 s2 : Value) (i : Nat) (g1 g2 o1 o2 : Nat) (x : RB) : Nat → Value → World → Prop
  | 0, v, _ => v = s1
  | 1, v, _ => v = .int .i64 (i : Int)
  | 2, v, _ => v = .pointer (some ⟨g1, o1 + i * 14, none⟩)
  | 3, v, _ => v = .agg (layRb.enc x).toArray
  | 4, v, _ => v = s2
  | 5, v, _ => v = .int .i64 (i : Int)
  | 6, v, _ => v = .pointer (some ⟨g2, o2 + i * 14, none⟩)
  | _, v, _ => v = .agg (layRb.enc x).toArray
theorem eqRbR_keep {s1 s2 : Value} {i g1 g2 o1 o2 : Nat} {x : RB} (p : Nat) (v : Value) (u w : World) (h : eqRbR s1 s2 i g1 g2 o1 o2 x p v u) (hb : Below u.heap.size u w) : eqRbR s1 s2 i g1 g2 o1 o2 x p v w := by
  rcases p with _ | _ | _ | _ | _ | _ | _ | p
  all_goals exact h
theorem neq_selfR (v : RB) (w : World) : (binOp .neq 37 (.agg (layRb.enc v).toArray) (.agg (layRb.enc v).toArray)).run Tryz.prog w = .ok (.bool false) w := by
  rw [neq_rb, show eqRB v v = true from eqB_self v.1]
  rfl
set_option maxRecDepth 100000 in
set_option maxHeartbeats 4000000 in
theorem equalRb_any (a1 a2 : Option Addr) (n c1 c2 : Nat) (L : List RB) (w : World) (h1 : RdK layRb w a1 L) (h2 : RdK layRb w a2 L) (hn : L.length = n) (hs : n ≤ 1000000) :
    Calls Tryz.prog 16 #[.slice a1 n c1, .slice a2 n c2] w (Ret (.bool true) w) := by
  have H1 := Lib.hid h1
  have H2 := Lib.hid h2
  have Hn := Lib.hid hn
  clear h1 h2 hn
  go_enter Tryz.func16, Tryz.ntmps16
  go_wp2_with fail
  go_loopw [5, 13] (fun s5 i wr => ∃ k : Nat, k ≤ n ∧ i = .int .i64 (k : Int) ∧ Hid (Below w.heap.size w wr)) (fun _ i _ => n - (intOf i).toNat)
  case atStart => exact ⟨0, Nat.zero_le _, rfl, Lib.hid (Below.refl _ _)⟩
  case round =>
    obtain ⟨k, hk, rfl, HB⟩ := hrel
    by_cases hlt : k < n
    · have hS : k < L.length := by rw [Hn.out]; exact hlt
      obtain ⟨x, hx⟩ : ∃ x, L[k]? = some x := ⟨_, List.getElem?_eq_getElem hS⟩
      obtain ⟨g1, o1, had1, hg1, hc1⟩ := (H1.out.below HB.out) k x hx
      obtain ⟨g2, o2, had2, hg2, hc2⟩ := (H2.out.below HB.out) k x hx
      have HR1 : Hid (∀ wx, Below wr.heap.size wr wx → wx.rangeAt g1 (o1 + k * 14) (layRb.enc x)) := Lib.hid fun wx hb => range_below (fun j v hv => by
        have := hc1 j v hv
        rwa [← Nat.add_assoc] at this) hb hg1
      have HR2 : Hid (∀ wx, Below wr.heap.size wr wx → wx.rangeAt g2 (o2 + k * 14) (layRb.enc x)) := Lib.hid fun wx hb => range_below (fun j v hv => by
        have := hc2 j v hv
        rwa [← Nat.add_assoc] at this) hb hg2
      subst had1 had2
      clear hx hS hg1 hg2 hc1 hc2
      go_upto_region 6 with fail
      refine wp_region_inv 8 0 (eqRbR (.slice (some ⟨g1, o1, none⟩) n c1) (.slice (some ⟨g2, o2, none⟩) n c2) k g1 g2 o1 o2 x) (fun _ wx => Below wr.heap.size wr wx) (fun u v => Below u.heap.size u v) (fun _ => 0)
        (by kernel_rfl) (by kernel_rfl) (by decide) eqRbR_keep (below_drew (Below.refl _ _)) ?hX
      case' hX => (apply Exists.intro; refine ⟨fun T => ?hA, ?hob, ?hend⟩)
      case hA =>
        simp only [setAll, List.take_succ_cons, List.take_zero, Act.put, List.setIfInBounds_toArray, List.set_cons_succ, List.set_cons_zero, Nat.reduceAdd]
        exact rfl
      case hob =>
        go_light
        refine ⟨?_, ?_, ?_, ?_, ?_, ?_, ?_, ?_, trivial⟩
        all_goals (intro T wx n0 hC hn hp; dsimp only at hn ⊢)
        · unfold Op1
          go_simp
          exact ⟨rfl, Below.refl _ _⟩
        · unfold Op1
          go_simp
          exact ⟨rfl, Below.refl _ _⟩
        · obtain ⟨q0, q1, -⟩ := hp
          have q0 : T 0 = .slice (some ⟨g1, o1, none⟩) n c1 := q0
          have q1 : T 1 = .int .i64 (k : Int) := q1
          unfold Op1
          go_simp
          exact ⟨rfl, Below.refl _ _⟩
        · obtain ⟨q0, -⟩ := hp
          have q0 : T 2 = .pointer (some ⟨g1, o1 + k * 14, none⟩) := q0
          exact Op1.loadn 37 (.tmp 18) rfl g1 (o1 + k * 14) q0 (layRb.enc x) _ (HR1.out wx hC) under_rb rfl 14 size_rb (layRb.len x) ⟨rfl, hC, Below.refl _ _⟩
        · unfold Op1
          go_simp
          exact ⟨rfl, Below.refl _ _⟩
        · unfold Op1
          go_simp
          exact ⟨rfl, Below.refl _ _⟩
        · obtain ⟨q0, q1, -⟩ := hp
          have q0 : T 4 = .slice (some ⟨g2, o2, none⟩) n c2 := q0
          have q1 : T 5 = .int .i64 (k : Int) := q1
          unfold Op1
          go_simp
          exact ⟨rfl, Below.refl _ _⟩
        · obtain ⟨q0, -⟩ := hp
          have q0 : T 6 = .pointer (some ⟨g2, o2 + k * 14, none⟩) := q0
          exact Op1.loadn 37 (.tmp 22) rfl g2 (o2 + k * 14) q0 (layRb.enc x) _ (HR2.out wx hC) under_rb rfl 14 size_rb (layRb.len x) ⟨rfl, hC, Below.refl _ _⟩
      case hend =>
        intro T w4 ⟨n0, hn0, hb⟩ hR
        have hT3 : T 3 = .agg (layRb.enc x).toArray := hR 3 (by omega)
        have hT7 : T 7 = .agg (layRb.enc x).toArray := hR 7 (by omega)
        have gx := fun a b wz => eqGuard_rb .neq a b x x wz (.inr rfl)
        have nx := fun wz => neq_selfR x wz
        have HB4 := Lib.hid (HB.out.trans (hb.mono HB.out.size))
        clear hR hb HR1 HR2 HB
        generalize (layRb.enc x).toArray = X at *
        go_wp2_with fail
        exact ⟨⟨k + 1, by omega, by go_num, HB4⟩, by simp [intOf]; omega⟩
    · obtain rfl : k = n := by omega
      go_wp2_with fail
      go_ret
      exact ⟨rfl, HB.out⟩
end Go.Proofs.YtaeieigdibanlaaGreatDoor

namespace Go.Proofs.YtaeieigdibanlaaGreatDoor
open Go.RowKit Go
set_option linter.unusedVariables false

def encIs (zs : List Int) : List Value := zs.map (Value.int .i64)
theorem encIs_one (zs : List Int) : ∀ u ∈ encIs zs, u.oneCell' = true := by
  intro u hu
  obtain ⟨c, _, rfl⟩ := List.mem_map.1 hu
  rfl
def OwnI (w : World) (base : Nat) (v : Value) (zs : List Int) : Prop := w.ownsRow base 3 1 v zs.length (encIs zs)
theorem intE : EI Tryz.prog 22 3 1 8 := EI.mk' (z := .int .i64 0) Tryz.underlying22 (by kernel_rfl) rfl (by decide)
theorem OwnI.nil (w : World) (base : Nat) : OwnI w base (.slice none 0 0) [] := World.ownsRow_nil w base _ 1
theorem OwnI.weak {w : World} {base base' : Nat} {v : Value} {zs : List Int} (h : OwnI w base v zs) (hb : base' ≤ base) : OwnI w base' v zs := own_weak h hb
theorem OwnI.later {w w' : World} {base : Nat} {v : Value} {zs : List Int} (h : OwnI w base v zs) (hb : Below w.heap.size w w') : OwnI w' base v zs := own_later h hb

/-- an int row with one cell at least -/
theorem OwnI.slice {w : World} {base : Nat} {v : Value} {zs : List Int} (h : OwnI w base v zs) (hn : 1 ≤ zs.length) :
    ∃ g c cur, v = .slice (some ⟨g, 0, none⟩) zs.length c ∧ base ≤ g ∧ w.heap[g]? = some (.cells cur 3 (0, 0)) ∧ RdInts w g 0 zs.length zs ∧ zs.length ≤ c ∧ c ≤ maxLen := by
  rcases h.2 with ⟨_, h0⟩ | ⟨g, cap, cur, rfl, hb, hg, hc, hm, hs, ht⟩
  · omega
  · refine ⟨g, cap, cur, rfl, hb, hg, ⟨rfl, lt_of_block hg, fun i hi => ?_⟩, hc, hm⟩
    rw [Nat.zero_add, cell_of_row w g i _ _ _ hg]
    have h1 : (cur.toList.take (zs.length * 1))[i]? = (encIs zs)[i]? := by rw [ht]
    rw [List.getElem?_take, if_pos (by omega)] at h1
    rw [← Array.getElem?_toList, h1]
    simp [encIs, List.getD, hi]

theorem own_empty (w : World) (t : TypeId) (size : Nat) : (w.alloc (.cells #[] t (0, 0))).ownsRow w.heap.size t size (.slice (some ⟨w.heap.size, 0, none⟩) 0 0) 0 [] :=
  ⟨by simp, .inr ⟨w.heap.size, 0, #[], rfl, Nat.le_refl _, heap_alloc_new w _, Nat.le_refl _, by unfold maxLen; omega, by simp, by simp⟩⟩

theorem RdInts.src {w : World} {g o n : Nat} {zs : List Int} (h : RdInts w g o n zs) : Src w (some ⟨g, o, none⟩) n 1 (encIs zs) := by
  obtain ⟨hl, hg, hc⟩ := h
  refine ⟨by simp [encIs, hl], fun j u hu => ?_⟩
  have hj : j < zs.length := by
    rcases Nat.lt_or_ge j zs.length with h | h
    · exact h
    · rw [List.getElem?_eq_none (by simpa [encIs] using h)] at hu; cases hu
  refine ⟨_, rfl, hg, ?_⟩
  have hadd : (⟨g, o, none⟩ : Addr).add j = ⟨g, o + j, none⟩ := by unfold Addr.add; split <;> simp_all
  rw [hadd, hc j (by omega)]
  simp [encIs, hj] at hu
  rw [← hu]
  simp [List.getD, hj]
theorem RdInts.later {w w' : World} {g o n : Nat} {zs : List Int} (h : RdInts w g o n zs) (hb : Below w.heap.size w w') : RdInts w' g o n zs :=
  ⟨h.1, Nat.lt_of_lt_of_le h.2.1 hb.size, fun i hi => (World.cell?_of_block (w := w) (hb.block g h.2.1)).trans (h.2.2 i hi)⟩
theorem RdInts.alloc {w : World} {g o n : Nat} {zs : List Int} (h : RdInts w g o n zs) (ob : Obj) : RdInts (w.alloc ob) g o n zs := h.later (below_alloc (Below.refl _ _) _)

theorem getD_mem {zs : List Int} {i : Nat} (h : i < zs.length) : zs.getD i 0 ∈ zs := by simp [List.getD, List.getElem?_eq_getElem h]

theorem run_eql_slice_nil_ints (w : World) (a : Option Addr) (l c : Nat) : (binOp .eql 22 (.slice a l c) (.slice none 0 0)).run Tryz.prog w = .ok (.bool a.isNone) w :=
  Lib.run_eql_slice_nil (h := Tryz.underlying22) ..
set_option maxRecDepth 100000 in
set_option maxHeartbeats 1000000 in
theorem clone_ints (g o n c : Nat) (zs : List Int) (w : World) (h : RdInts w g o n zs) (hn : n ≤ 1000000) :
    Calls Tryz.prog 143 #[.slice (some ⟨g, o, none⟩) n c] w fun e w' => ∃ v, e = .returned v ∧ OwnI w' w.heap.size v zs ∧ Below w.heap.size w w' := by
  have en := fun w => run_eql_slice_nil_ints w (some ⟨g, o, none⟩) n c
  simp only [Option.isNone_some] at en
  go_enter Tryz.func143, Tryz.ntmps143
  go_wp2_with (at_builtin; refine wpList_app intE rfl (.tmp 5) (.tmp 6) rfl rfl (own_empty w _ _) rfl (h.alloc _).src (encIs_one zs) ?c2 ?c3 ?c4 ?_)
  case c2 => unfold maxLen; omega
  case c3 => omega
  case c4 => simp
  intro v' w' hO hG
  rw [← h.1] at hO
  have HO := Lib.hid hO
  have HG := Lib.hid hG
  clear hO hG
  go_wp2
  go_ret
  exact ⟨_, rfl, HO.out, HG.out.below (u := .slice (some ⟨w.heap.size, 0, none⟩) 0 0) (by simp) (by intro k hk; simp [Value.ownBlock] at hk; omega) |> (below_alloc (Below.refl _ _) _).trans⟩

end Go.Proofs.YtaeieigdibanlaaGreatDoor

namespace Go.Proofs
open Go.Shelf
def Tryz.lays189_ren : Go.Shelf.Ren := ⟨fun | 189 => 144 | 125 => 178 | 257 => 177 | 128 => 206 | 129 => 182 | 294 => 197 | 295 => 198 | 296 => 199 | 297 => 200 | 298 => 201 | 299 => 202 | 216 => 203 | 300 => 204 | 301 => 205 | 328 => 232 | 329 => 233 | 330 => 234 | 331 => 235 | 332 => 236 | 215 => 138 | 343 => 249 | n => n, fun | 28 => 22 | 3 => 3 | 46 => 168 | 0 => 0 | 51 => 209 | 53 => 31 | 4 => 4 | 183 => 220 | 182 => 219 | 131 => 144 | 5 => 5 | 9 => 9 | 218 => 244 | 222 => 248 | 228 => 260 | 229 => 189 | n => n, fun | n => n⟩
theorem Tryz.lays189 : Go.Proofs.Lays.n189 Tryz.prog Tryz.lays189_ren := {
  mixed := by kernel_rfl
  f125 := Tryz.func178.trans (congrArg some (by kernel_rfl))
  f128 := Tryz.func206.trans (congrArg some (by kernel_rfl))
  f129 := Tryz.func182.trans (congrArg some (by kernel_rfl))
  f189 := Tryz.func144.trans (congrArg some (by kernel_rfl))
  f215 := Tryz.func138.trans (congrArg some (by kernel_rfl))
  f216 := Tryz.func203.trans (congrArg some (by kernel_rfl))
  f257 := Tryz.func177.trans (congrArg some (by kernel_rfl))
  f294 := Tryz.func197.trans (congrArg some (by kernel_rfl))
  f295 := Tryz.func198.trans (congrArg some (by kernel_rfl))
  f296 := Tryz.func199.trans (congrArg some (by kernel_rfl))
  f297 := Tryz.func200.trans (congrArg some (by kernel_rfl))
  f298 := Tryz.func201.trans (congrArg some (by kernel_rfl))
  f299 := Tryz.func202.trans (congrArg some (by kernel_rfl))
  f300 := Tryz.func204.trans (congrArg some (by kernel_rfl))
  f301 := Tryz.func205.trans (congrArg some (by kernel_rfl))
  f328 := Tryz.func232.trans (congrArg some (by kernel_rfl))
  f329 := Tryz.func233.trans (congrArg some (by kernel_rfl))
  f330 := Tryz.func234.trans (congrArg some (by kernel_rfl))
  f331 := Tryz.func235.trans (congrArg some (by kernel_rfl))
  f332 := Tryz.func236.trans (congrArg some (by kernel_rfl))
  f343 := Tryz.func249.trans (congrArg some (by kernel_rfl))
  t0 := Tryz.underlying0
  a0 := Tryz.isAgg0
  z0 := Tryz.sizeOf0
  v0 := Tryz.zeroValue0
  t3 := Tryz.underlying3
  a3 := Tryz.isAgg3
  z3 := Tryz.sizeOf3
  v3 := Tryz.zeroValue3
  t4 := Tryz.underlying4
  a4 := Tryz.isAgg4
  z4 := Tryz.sizeOf4
  v4 := Tryz.zeroValue4
  t5 := Tryz.underlying5
  a5 := Tryz.isAgg5
  z5 := Tryz.sizeOf5
  v5 := Tryz.zeroValue5
  t9 := Tryz.underlying9
  a9 := Tryz.isAgg9
  z9 := Tryz.sizeOf9
  v9 := Tryz.zeroValue9
  t28 := Tryz.underlying22
  a28 := Tryz.isAgg22
  z28 := Tryz.sizeOf22
  v28 := Tryz.zeroValue22
  t46 := Tryz.underlying168
  a46 := Tryz.isAgg168
  z46 := Tryz.sizeOf168
  v46 := Tryz.zeroValue168
  t51 := Tryz.underlying209
  a51 := Tryz.isAgg209
  z51 := Tryz.sizeOf209
  v51 := Tryz.zeroValue209
  t53 := Tryz.underlying31
  a53 := Tryz.isAgg31
  z53 := Tryz.sizeOf31
  v53 := Tryz.zeroValue31
  t131 := Tryz.underlying144
  a131 := Tryz.isAgg144
  z131 := Tryz.sizeOf144
  v131 := Tryz.zeroValue144
  t182 := Tryz.underlying219
  a182 := Tryz.isAgg219
  z182 := Tryz.sizeOf219
  v182 := Tryz.zeroValue219
  t183 := Tryz.underlying220
  a183 := Tryz.isAgg220
  z183 := Tryz.sizeOf220
  v183 := Tryz.zeroValue220
  t218 := Tryz.underlying244
  a218 := Tryz.isAgg244
  z218 := Tryz.sizeOf244
  v218 := Tryz.zeroValue244
  t222 := Tryz.underlying248
  a222 := Tryz.isAgg248
  z222 := Tryz.sizeOf248
  v222 := Tryz.zeroValue248
  t228 := Tryz.underlying260
  a228 := Tryz.isAgg260
  z228 := Tryz.sizeOf260
  v228 := Tryz.zeroValue260
  t229 := Tryz.underlying189
  a229 := Tryz.isAgg189
  z229 := Tryz.sizeOf189
  v229 := Tryz.zeroValue189 }
open Go.Sort Go.RowKit in
theorem Tryz.slices_Sort_int (blk off cap : Nat) (zs : List Int) (w : World) (hH : Holds (Value.int .i64) w blk off zs.toArray) (hblk : blk < w.heap.size) (hsz : zs.length < 4611686018427387904) :
    Calls Tryz.prog 144 #[.slice (some ⟨blk, off, none⟩) zs.length cap] w fun e w' =>
      e = .returned (.tuple #[]) ∧ ∃ n os, w' = grow (putRow (Value.int .i64) (Sort.ahead w n) blk off (zs.mergeSort fun x y => decide (x ≤ y)).toArray) os := Any.slices_Sort_int Tryz.lays189 blk off cap zs w hH hblk hsz
end Go.Proofs

namespace Go.Proofs.YtaeieigdibanlaaGreatDoor
open Go.RowKit Go Go.Sort
set_option linter.unusedVariables false

def sortI (zs : List Int) : List Int := zs.mergeSort fun x y => decide (x ≤ y)
theorem sortI_len (zs : List Int) : (sortI zs).length = zs.length := List.length_mergeSort _
theorem sortI_mem {zs : List Int} {z : Int} : z ∈ sortI zs ↔ z ∈ zs := List.mem_mergeSort

theorem putCells_take (enc : Int → Value) (ys : List Int) (cur : Array Value) (h : ys.length ≤ cur.size) :
    (putCells enc 0 ys.toArray cur).size = cur.size ∧ (putCells enc 0 ys.toArray cur).toList.take ys.length = ys.map enc := by
  refine ⟨by simp [putCells], List.ext_getElem? fun i => ?_⟩
  rcases Nat.lt_or_ge i ys.length with hi | hi
  · rw [List.getElem?_take, if_pos hi, Array.getElem?_toList]
    simp only [putCells, Array.getElem?_mapIdx]
    rw [Array.getElem?_eq_getElem (by omega)]
    simp [hi]
  · rw [List.getElem?_eq_none (by simp; omega), List.getElem?_eq_none (by simpa using hi)]

theorem sort_ints (B g n c : Nat) (zs : List Int) (w : World) (h : OwnI w B (.slice (some ⟨g, 0, none⟩) n c) zs) (hn : zs.length = n) (hn1 : 1 ≤ n ∧ n ≤ 1000000) (hB : B ≤ w.heap.size) :
    Calls Tryz.prog 144 #[.slice (some ⟨g, 0, none⟩) n c] w fun e w' => e = .returned (.tuple #[]) ∧ OwnI w' B (.slice (some ⟨g, 0, none⟩) n c) (sortI zs) ∧ Below B w w' := by
  subst hn
  obtain ⟨g', c', cur, hv, hb, hg, hR, hc, hm⟩ := h.slice hn1.1
  obtain ⟨rfl, rfl⟩ : g' = g ∧ c' = c := by simp at hv; exact ⟨hv.1.symm, hv.2.symm⟩
  have hsz : cur.size = c' * 1 := by
    rcases h.2 with ⟨hv, _⟩ | ⟨g2, c2, cur2, hv2, _, hg2, _, _, hs2, _⟩
    · cases hv
    · simp at hv2
      obtain ⟨rfl, rfl⟩ := hv2
      rw [hg] at hg2
      simp at hg2
      rw [hg2]; exact hs2
  have hH : Holds (Value.int .i64) w g' 0 zs.toArray := by
    intro j hj
    have hj' : j < zs.length := by simpa using hj
    refine ⟨?_, ?_⟩
    · rw [hR.2.2 j hj']
      simp [List.getD, hj']
    · exact frozen_of_row w g' (0 + j) cur _ hg
  refine (Tryz.slices_Sort_int g' 0 c' zs w hH (lt_of_block hg) (by omega)).mono ?_
  rintro e w' ⟨rfl, n, os, rfl⟩
  have hys : (sortI zs).length = zs.length := sortI_len zs
  show _ ∧ OwnI (grow (putRow (Value.int .i64) (Sort.ahead w n) g' 0 (sortI zs).toArray) os) B _ (sortI zs) ∧ Below B w (grow (putRow (Value.int .i64) (Sort.ahead w n) g' 0 (sortI zs).toArray) os)
  generalize sortI zs = ys at hys ⊢
  have hlt : g' < w.heap.size := lt_of_block hg
  have hheap : ∀ i, i < w.heap.size → (grow (putRow (Value.int .i64) (Sort.ahead w n) g' 0 ys.toArray) os).heap[i]? = if g' = i then some (.cells (putCells (Value.int .i64) 0 ys.toArray cur) 3 (0, 0)) else w.heap[i]? := by
    intro i hi
    simp only [grow, putRow, mapBlock, Sort.ahead]
    rw [Array.getElem?_append_left (by simpa using hi), Array.getElem?_modify]
    by_cases e : g' = i
    · subst e
      rw [if_pos rfl, if_pos rfl, hg]
      rfl
    · rw [if_neg e, if_neg e]
  obtain ⟨p1, p2⟩ := putCells_take (Value.int .i64) ys cur (by omega)
  refine ⟨rfl, ⟨by simp [encIs], .inr ⟨g', c', _, by rw [hys], hb, by rw [hheap g' hlt, if_pos rfl], by omega, hm, by omega, by rw [Nat.mul_one]; exact p2⟩⟩, ?_⟩
  refine ⟨rfl, rfl, rfl, by simp [grow, putRow, mapBlock, Sort.ahead], fun i hi => ?_⟩
  rw [hheap i (by omega), if_neg (by omega)]
end Go.Proofs.YtaeieigdibanlaaGreatDoor

namespace Go.Proofs.YtaeieigdibanlaaGreatDoor
open Go.RowKit Go
set_option linter.unusedVariables false

/-- the numbers are of a size that nothing wraps -/
def Sized (zs : List Int) : Prop := ∀ z ∈ zs, -1099511627776000 ≤ z ∧ z ≤ 1099511627776000
def mid (zs : List Int) : Int := (sortI zs).getD ((zs.length - 1) / 2) 0 + (sortI zs).getD (zs.length / 2) 0

theorem mid_bd {zs : List Int} {a b : Int} (h : ∀ z ∈ zs, a ≤ z ∧ z ≤ b) (hn : 1 ≤ zs.length) : 2 * a ≤ mid zs ∧ mid zs ≤ 2 * b := by
  unfold mid
  have h1 := h _ (sortI_mem.1 (getD_mem (zs := sortI zs) (i := (zs.length - 1) / 2) (by rw [sortI_len]; omega)))
  have h2 := h _ (sortI_mem.1 (getD_mem (zs := sortI zs) (i := zs.length / 2) (by rw [sortI_len]; omega)))
  omega
theorem Sized.sort {zs : List Int} (h : Sized zs) : Sized (sortI zs) := fun z hz => h z (sortI_mem.1 hz)
theorem Sized.at {zs : List Int} (h : Sized zs) (i : Nat) : -1099511627776000 ≤ zs.getD i 0 ∧ zs.getD i 0 ≤ 1099511627776000 := by
  rcases Nat.lt_or_ge i zs.length with hi | hi
  · exact h _ (getD_mem hi)
  · rw [List.getD_eq_getElem?_getD, List.getElem?_eq_none hi]; simp

set_option maxRecDepth 100000 in
set_option maxHeartbeats 1000000 in
theorem middle_any (g o n c : Nat) (zs : List Int) (w : World) (h : RdInts w g o n zs) (hn : 1 ≤ n ∧ n ≤ 1000000) (hs : Sized zs) :
    Calls Tryz.prog 103 #[.slice (some ⟨g, o, none⟩) n c] w (Ret (.int .i64 (mid zs)) w) := by
  have hl := h.1
  have HS := Lib.hid hs.sort
  have H := Lib.hid h
  obtain ⟨M, hM⟩ : ∃ M, M = mid zs := ⟨_, rfl⟩
  rw [← hM]
  unfold mid at hM
  rw [hl] at hM
  have HM := Lib.hid hM
  clear h hs hM
  go_enter Tryz.func103, Tryz.ntmps103
  go_wp2_with fail
  refine (clone_ints g o n c zs w H.out hn.2).mono ?_
  rintro e w1 ⟨v, rfl, hO, hB⟩
  obtain ⟨g1, c1, cur, rfl, hb1, _, _, hc1, hm1⟩ := hO.slice (by omega)
  rw [hl] at hO hc1 ⊢
  have HB1 := Lib.hid hB
  have HO1 := Lib.hid hO
  clear hB hO
  go_wp2_with fail
  refine (sort_ints w.heap.size g1 n c1 zs w1 HO1.out hl hn HB1.out.size).mono ?_
  rintro e w2 ⟨rfl, hO, hB⟩
  have HB2 := Lib.hid (HB1.out.trans hB)
  have hys : (sortI zs).length = n := (sortI_len zs).trans hl
  generalize sortI zs = ys at *
  obtain ⟨g2, c2, cur2, hv, _, hg2, hR, _, _⟩ := hO.slice (by omega)
  obtain ⟨rfl, rfl⟩ : g1 = g2 ∧ c1 = c2 := by simp at hv; exact ⟨hv.1, hv.2.2⟩
  obtain ⟨_, hgl, hc⟩ := hR
  have e1 := hc ((n - 1) / 2) (by omega)
  have e2 := hc (n / 2) (by omega)
  have b1 := HS.out.at ((n - 1) / 2)
  have b2 := HS.out.at (n / 2)
  rw [Nat.zero_add] at e1 e2
  generalize ys.getD ((n - 1) / 2) 0 = y1 at *
  generalize ys.getD (n / 2) 0 = y2 at *
  have HH := Lib.hid (And.intro hg2 hv)
  clear hc hg2 hv hO hB HO1 hys hl HS
  have t1 : ((n : Int) - 1).tdiv 2 = (((n - 1) / 2 : Nat) : Int) := by rw [Int.tdiv_eq_ediv_of_nonneg (by omega)]; omega
  have t2 : (n : Int).tdiv 2 = ((n / 2 : Nat) : Int) := by rw [Int.tdiv_eq_ediv_of_nonneg (by omega)]; omega
  have k1 : (n - 1) / 2 < n := by omega
  have k2 : n / 2 < n := by omega
  have k3 : 1 ≤ n := hn.1
  generalize (n - 1) / 2 = i1 at *
  generalize n / 2 = i2 at *
  go_wp2_with fail
  go_quiet (fail)
  go_wp2
  go_ret
  exact ⟨ret_int HM.out.symm, below_drewN HB2.out _⟩

end Go.Proofs.YtaeieigdibanlaaGreatDoor

namespace Go.Proofs.YtaeieigdibanlaaGreatDoor
open Go.RowKit Go
set_option linter.unusedVariables false

def Small (zs : List Int) : Prop := ∀ z ∈ zs, 0 ≤ z ∧ z ≤ 2000000000000
theorem Small.sized {zs : List Int} (h : Small zs) : Sized zs := fun z hz => by have := h z hz; omega
theorem mid_I62 {zs : List Int} (h : Small zs) (hn : 1 ≤ zs.length) : 0 ≤ mid zs ∧ mid zs ≤ 4000000000000 := by have := mid_bd h hn; omega
end Go.Proofs.YtaeieigdibanlaaGreatDoor
