/-
  The longest row of zeros, plain: what the reference's search finds is what the program's loop keeps.
  The closure of AddrText; slices.IndexFunc, ContainsFunc at a piece of a row of strings.
  An address of eight groups as text: AddrText of the reference.
  addr.Text of the program, AddrText of the reference at any right address: one text.
  Parse and AddrParse = parseF. Condition: at most a million bytes.
  slices.Grow of nil and slices.Concat of two slices of entries.
  Lookup of the program.
-/
import Derived.Test.YteccghdegckjhaaGreatDoorTD31
import Derived.Test.YteccghdegckjhaaGreatDoorTD4
import Derived.Test.YteccghdegckjhaaGreatDoorTD30
import Derived.Test.YteccghdegckjhaaGreatDoorTD12
import Derived.Lib.AppendZeros
import Derived.Test.YteccghdegckjhaaGreatDoorTD22
set_option linter.unusedVariables false
namespace Go.Proofs.YteccghdegckjhaaGreatDoor
open Go
set_option linter.unusedVariables false

def hit (z : Nat → Bool) (i n : Nat) : Bool := (List.range n).all fun j => z (i + j)
end Go.Proofs.YteccghdegckjhaaGreatDoor

namespace Go.Proofs.YteccghdegckjhaaGreatDoor
open Go.RowKit Go
set_option linter.unusedVariables false
end Go.Proofs.YteccghdegckjhaaGreatDoor

namespace Go.Proofs.YteccghdegckjhaaGreatDoor
open Go.RowKit Go
set_option linter.unusedVariables false
end Go.Proofs.YteccghdegckjhaaGreatDoor

namespace Go.Proofs.YteccghdegckjhaaGreatDoor
open Go.RowKit Go
set_option linter.unusedVariables false

/-- the text of an address -/
def txtA (six : Bool) (hi lo : Nat) : ByteArray := if six = true then sixT (dg hi lo) else joinS (fourL lo) ⟨#[46]⟩
end Go.Proofs.YteccghdegckjhaaGreatDoor

namespace Go.Proofs.YteccghdegckjhaaGreatDoor
open Go.RowKit Go Go.Sort
set_option linter.unusedVariables false
def parseF (s : List UInt8) : Option (Bool × Nat × Nat) := match looseF s with
  | some (x, h, l) => if txtA x h l = strL s then some (x, h, l) else none
  | none => none
end Go.Proofs.YteccghdegckjhaaGreatDoor

namespace Go.Proofs.YteccghdegckjhaaGreatDoor
open Go.RowKit Go
set_option linter.unusedVariables false

theorem zeroCells_sizeE (cs : Array Value) (n : Nat) : (Builtin.zeroCells cs n).size = n * cs.size := by
  first | simp [Builtin.zeroCells] | simp [Builtin.zeroCells]
theorem ownK_zeroE {α : Type} (E : Lay α) (w : World) (B : Nat) (hB : B ≤ w.heap.size) (cs : Array Value) (m : Nat) (hcs : cs.size = m * E.K) (hm : m ≤ maxLen) : OwnK E (w.alloc (.cells cs E.ty (0, 0))) B (.slice (some ⟨w.heap.size, 0, none⟩) 0 m) [] :=
  ⟨by simp [Lay.all], .inr ⟨w.heap.size, m, cs, rfl, hB, heap_alloc_new w _, Nat.zero_le _, hm, hcs, by simp [Lay.all]⟩⟩
set_option maxRecDepth 100000 in
set_option maxHeartbeats 1000000 in
theorem growEn_any (n : Nat) (w : World) (hn : n ≤ 1000000) : Calls Tryz.prog 106 #[.slice none 0 0, .int .i64 (n : Int)] w fun e w' => ∃ v, e = .returned v ∧ OwnK layEn w' w.heap.size v [] ∧ Below w.heap.size w w' := by
  by_cases h0 : n = 0
  · subst h0
    go_enter Tryz.func106, Tryz.ntmps106
    go_wp2
    go_ret
    exact ⟨_, rfl, OwnK.nil _ _ _, Below.refl _ _⟩
  · obtain ⟨i, hi0, hi1, hi2, hi3⟩ := info_parts (show (Tryz.prog.info? 48).map (fun i => (i.zero, i.size, i.bytes)) = some (some (.agg #[.bool false, .int .u64 0, .int .u64 0, .int .i64 0, .string ⟨#[]⟩]), 5, 48) by kernel_rfl)
    have hrun := fun ty => Lib.run_append_nil_zeros (P := Tryz.prog) w 42 3 ty 48 i (.agg #[.bool false, .int .u64 0, .int .u64 0, .int .i64 0, .string ⟨#[]⟩]) .i64 .i64 Tryz.underlying42 Tryz.underlying3 hi0 hi1 n (by omega) (by rw [hi2]; decide) (by omega) (by rw [hi3]; omega)
    go_enter Tryz.func106, Tryz.ntmps106
    go_wp2_with (at_builtin; refine Lib.wpList_append_run _ rfl _ _ _ _ rfl _ _ rfl rfl _ _ (hrun _) ?_)
    have hge := grownCap_ge w n 0 48
    have hle := grownCap_le_maxLen w n 0 48 (by unfold maxLen; omega)
    generalize grownCap w n 0 48 = m at *
    go_ret
    exact ⟨_, rfl, ownK_zeroE layEn w.drew w.heap.size (Nat.le_refl _) _ m (by rw [Array.size_append, zeroCells_sizeE, zeroCells_sizeE]; show n * 5 + (m - n) * 5 = m * 5; omega) hle, below_alloc (below_drew (Below.refl _ _)) _⟩
def tkE (n1 n2 : Nat) : Nat → Nat
  | 0 => 0
  | 1 => n1
  | _ => n1 + n2
def tLE (L1 L2 : List En) : Nat → List En
  | 0 => []
  | 1 => L1
  | _ => L1 ++ L2
set_option maxRecDepth 100000 in
set_option maxHeartbeats 2000000 in
theorem concatEn_any (g c : Nat) (ad1 ad2 : Option Addr) (n1 c1 n2 c2 : Nat) (L1 L2 : List En) (w : World) (hg : w.heap[g]? = some (.cells #[.slice ad1 n1 c1, .slice ad2 n2 c2] 42 (0, 0))) (h1 : RdK layEn w ad1 L1) (h2 : RdK layEn w ad2 L2) (hn1 : L1.length = n1) (hn2 : L2.length = n2) (hs1 : n1 ≤ 100000) (hs2 : n2 ≤ 100000) :
    Calls Tryz.prog 66 #[.slice (some ⟨g, 0, none⟩) 2 c] w fun e w' => ∃ v, e = .returned v ∧ OwnK layEn w' w.heap.size v (L1 ++ L2) ∧ Below w.heap.size w w' := by
  have HG : Hid (Blk w g 42 #[.slice ad1 n1 c1, .slice ad2 n2 c2]) := Lib.hid hg
  have H1 := Lib.hid h1
  have H2 := Lib.hid h2
  have Hn1 := Lib.hid hn1
  have Hn2 := Lib.hid hn2
  have hglt := HG.out.lt
  clear hg h1 h2 hn1 hn2
  have g0 := HG.out.cell 0
  have g1 := HG.out.cell 1
  simp at g0 g1
  go_enter Tryz.func66, Tryz.ntmps66
  go_wp2
  go_loop [3, 11] (fun t i => ∃ k : Nat, k ≤ 2 ∧ i = .int .i64 (k : Int) ∧ t = .int .i64 ((tkE n1 n2 k : Nat) : Int)) (fun _ i => 2 - (intOf i).toNat)
  case atStart => exact ⟨0, Nat.zero_le _, rfl, rfl⟩
  case round =>
    obtain ⟨k, hk, rfl, rfl⟩ := hrel
    have hk3 : k = 0 ∨ k = 1 ∨ k = 2 := by omega
    rcases hk3 with rfl | rfl | rfl
    · simp only [tkE, Int.cast_ofNat_Int] at *
      go_wp2
      exact ⟨⟨1, by omega, rfl, by show _ = Value.int .i64 (n1 : Int); first | rfl | simp⟩, by simp [intOf]⟩
    · simp only [tkE, Int.cast_ofNat_Int] at *
      go_wp2
      exact ⟨⟨2, by omega, rfl, by show _ = Value.int .i64 ((n1 + n2 : Nat) : Int); first | rfl | (congr 1)⟩, by simp [intOf]⟩
    · simp only [tkE] at *
      obtain ⟨tt, htt⟩ : ∃ tt, n1 + n2 = tt := ⟨_, rfl⟩
      rw [htt]
      have htb : tt ≤ 200000 := by omega
      go_wp2_with fail
      refine (growEn_any tt w (by omega)).mono ?_
      rintro e w1 ⟨v1, rfl, hO, hb⟩
      have HO := Lib.hid hO
      have HB := Lib.hid hb
      clear hO hb
      go_wp2
      go_loopw [6, 27] (fun s i wr => ∃ k' : Nat, k' ≤ 2 ∧ i = .int .i64 (k' : Int) ∧ Hid (OwnK layEn wr w.heap.size s (tLE L1 L2 k')) ∧ Hid (Below w.heap.size w wr)) (fun _ i _ => 2 - (intOf i).toNat)
      case atStart => exact ⟨0, Nat.zero_le _, rfl, HO, HB⟩
      case round =>
        clear HO HB
        obtain ⟨k', hk', rfl, HO, HB⟩ := hrel
        have hwlt : g < wr.heap.size := Nat.lt_of_lt_of_le hglt HB.out.size
        have HG2 := HG.out.below HB.out hglt
        have e0 := HG2.cell 0
        have e1 := HG2.cell 1
        simp at e0 e1
        have hk3 : k' = 0 ∨ k' = 1 ∨ k' = 2 := by omega
        clear HG2
        rcases hk3 with rfl | rfl | rfl
        · have hsr := (H1.out.below HB.out).src
          rw [Hn1.out] at hsr
          have HS : Hid (Src wr ad1 n1 5 (layEn.all L1)) := Lib.hid hsr
          have HOr : Hid (wr.ownsRow w.heap.size 48 5 u6 0 []) := Lib.hid HO.out
          have HSo := Lib.hid (layEn.all_one L1)
          clear hsr HO
          go_wp2_with (at_builtin; refine wpList_app enE rfl (.tmp 31) (.tmp 32) rfl rfl HOr.out rfl HS.out HSo.out ?h1 ?h2 ?h3 ?_)
          case h1 => unfold maxLen; omega
          case h2 => omega
          case h3 => exact HB.out.size
          intro v' w' hO' hG
          have HO' : Hid (OwnK layEn w' w.heap.size v' L1) := Lib.hid (by
            show w'.ownsRow _ _ _ _ L1.length (layEn.all L1)
            rw [Hn1.out]
            exact hO')
          have HB' := Lib.hid (HB.out.trans (hG.below HB.out.size (own_base HOr.out)))
          clear hO' hG HB HS HOr HSo
          go_wp2
          exact ⟨⟨1, by omega, rfl, HO', HB'⟩, by simp [intOf]⟩
        · have hsr := (H2.out.below HB.out).src
          rw [Hn2.out] at hsr
          have HS : Hid (Src wr ad2 n2 5 (layEn.all L2)) := Lib.hid hsr
          have HOr : Hid (wr.ownsRow w.heap.size 48 5 u6 n1 (layEn.all L1)) := Lib.hid (by
            have this : wr.ownsRow w.heap.size 48 5 u6 L1.length (layEn.all L1) := HO.out
            rw [Hn1.out] at this
            exact this)
          have HSo := Lib.hid (layEn.all_one L2)
          clear hsr HO
          go_wp2_with (at_builtin; refine wpList_app enE rfl (.tmp 31) (.tmp 32) rfl rfl HOr.out rfl HS.out HSo.out ?h1b ?h2b ?h3b ?_)
          case h1b => unfold maxLen; omega
          case h2b => omega
          case h3b => exact HB.out.size
          intro v' w' hO' hG
          have HO' : Hid (OwnK layEn w' w.heap.size v' (L1 ++ L2)) := Lib.hid (OwnK.app (by rw [Hn1.out, Hn2.out, htt]; exact hO'))
          have HB' := Lib.hid (HB.out.trans (hG.below HB.out.size (own_base HOr.out)))
          clear hO' hG HB HS HOr HSo
          go_wp2
          exact ⟨⟨2, by omega, rfl, HO', HB'⟩, by simp [intOf]⟩
        · go_wp2
          go_ret
          exact ⟨_, rfl, HO.out, HB.out⟩
end Go.Proofs.YteccghdegckjhaaGreatDoor

namespace Go.Proofs.YteccghdegckjhaaGreatDoor
open Go.RowKit Go
set_option linter.unusedVariables false

def twoA (T : List En) (six : Bool) (hi lo : Nat) : Int := if tabF T ≠ 0 then tabF T else aFault six (hi : Int) (lo : Int)
def alV (F : Int) (k : List UInt8) : Value := if F = 0 then .tuple #[.string (strL k), .bool (decide (k ≠ [])), .int .i64 0] else .tuple #[.string ⟨#[]⟩, .bool false, .int .i64 F]
set_option maxRecDepth 100000 in
set_option maxHeartbeats 4000000 in
theorem aLookup_any (ad : Option Addr) (n c : Nat) (T : List En) (six : Bool) (hi lo : Nat) (w : World) (h : RdK layEn w ad T) (hn : T.length = n) (hs : n ≤ 100000) (hu : UE T) (h1 : U64N hi) (h2 : U64N lo) :
    Calls Tryz.prog 19 #[.slice ad n c, .agg #[.bool six, .int .u64 (hi : Int), .int .u64 (lo : Int)]] w (Ret (alV (twoA T six hi lo) (lkP T (numA six hi lo))) w) := by
  have H0 := Lib.hid h
  have HC := Lib.hid fun wx (hr : RdK layEn wx ad T) => checkTable_any ad n c T wx hr hn hs hu
  have HA := Lib.hid fun wx => checkAddr_any six hi lo wx ⟨by unfold U64N at h1; omega, by unfold U64N at h1; omega⟩ ⟨by unfold U64N at h2; omega, by unfold U64N at h2; omega⟩
  have HL : Hid (tabF T = 0 → aFault six (hi : Int) (lo : Int) = 0 → ∀ wx, RdK layEn wx ad T → Calls Tryz.prog 52 #[.slice ad n c, .agg #[.bool six, .int .u64 (hi : Int), .int .u64 (lo : Int)]] wx (Ret (.string (strL (lkP T (numA six hi lo)))) wx)) := Lib.hid fun e1 e2 wx hr => by
    have ha := aFault_ok e2 h1 h2
    have := alookup_any ad n c T (numA six hi lo) wx hr hn hs (tabF_ok e1 hu).1 (aN_num ha).1
    rwa [aN_eq ha] at this
  have H20 : Hid (tabF T ≠ 0 → twoA T six hi lo = tabF T) := Lib.hid fun h => if_pos h
  have H21 : Hid (tabF T = 0 → twoA T six hi lo = aFault six (hi : Int) (lo : Int)) := Lib.hid fun h => if_neg (by simp [h])
  have HV0 : Hid (∀ F k, F ≠ 0 → alV F k = .tuple #[.string ⟨#[]⟩, .bool false, .int .i64 F]) := Lib.hid fun F k h => if_neg h
  have HV1 : Hid (∀ k, alV 0 k = .tuple #[.string (strL k), .bool (decide (k ≠ [])), .int .i64 0]) := Lib.hid fun k => if_pos rfl
  clear h hn hu h1 h2
  generalize lkP T (numA six hi lo) = LK at *
  generalize tabF T = FT at *
  generalize twoA T six hi lo = F2 at *
  generalize aFault six (hi : Int) (lo : Int) = FA at *
  have HX : Hid (Blk (w.alloc (.cells #[.bool six, .int .u64 (hi : Int), .int .u64 (lo : Int)] 28 (0, 0))) w.heap.size 28 #[.bool six, .int .u64 (hi : Int), .int .u64 (lo : Int)]) := Lib.hid (Blk.new w _ _)
  have HB : Hid (Below w.heap.size w (w.alloc (.cells #[.bool six, .int .u64 (hi : Int), .int .u64 (lo : Int)] 28 (0, 0)))) := Lib.hid (below_alloc (Below.refl _ _) _)
  go_enter Tryz.func19, Tryz.ntmps19
  go_upto_region 1 with fail
  generalize w.alloc (.cells #[.bool six, .int .u64 (hi : Int), .int .u64 (lo : Int)] 28 (0, 0)) = w1 at *
  obtain ⟨bx, hbx⟩ : ∃ q, w.heap.size = q := ⟨_, rfl⟩
  have Hbx := Lib.hid hbx
  rw [hbx] at HX HB ⊢
  clear hbx
  have HRd : Hid (∀ wx, Below bx w wx → RdK layEn wx ad T) := Lib.hid fun wx hb => H0.out.below (by rw [Hbx.out]; exact hb)
  clear H0
  have HCx := Lib.hid (HC.out w1 (HRd.out _ HB.out))
  go_wp2_with fail
  refine HCx.out.mono ?_
  rintro e w2 ⟨rfl, hb⟩
  have HX2 := Lib.hid (HX.out.below hb HX.out.lt)
  have HB2 := Lib.hid (HB.out.trans (hb.mono (Nat.le_of_lt HX.out.lt)))
  clear hb HX HB HC HCx
  by_cases hF : FT = 0
  · have hF2 : F2 = FA := H21.out hF
    subst hF
    have x0 := HX2.out.cell 0
    have x1 := HX2.out.cell 1
    have x2 := HX2.out.cell 2
    simp at x0 x1 x2
    go_wp2_with fail
    refine (HA.out _).mono ?_
    rintro e w3 ⟨rfl, oo, hoo⟩
    have hb : Below w2.heap.size w2 w3 := by rw [hoo]; exact below_alloc (Below.refl _ _) _
    clear hoo
    have HX3 := Lib.hid (HX2.out.below hb HX2.out.lt)
    have HB3 := Lib.hid (HB2.out.trans (hb.mono (Nat.le_of_lt HX2.out.lt)))
    clear hb HX2 HB2 HA x0 x1 x2
    by_cases hA : FA = 0
    · have HLx := Lib.hid (HL.out trivial hA w3 (HRd.out _ HB3.out))
      subst hA
      subst hF2
      have HVx := Lib.hid (HV1.out LK)
      have hcmp : ((strL LK).toList == ([] : List UInt8)) = decide (LK = []) := by
        have h1 : (strL LK).toList = LK := by rw [ByteArray.toList_eq]; rfl
        rw [h1]
        by_cases e : LK = []
        · rw [decide_eq_true e, e]; rfl
        · rw [decide_eq_false e]; exact beq_eq_false_iff_ne.2 e
      have hnil : (⟨#[]⟩ : ByteArray).toList = [] := by rw [ByteArray.toList_eq]
      obtain ⟨D, hD⟩ : ∃ D, decide (LK = []) = D := ⟨_, rfl⟩
      have hD2 : decide (LK ≠ []) = !D := by rw [← hD, decide_not]
      rw [hD2] at HVx
      rw [hD] at hcmp
      clear HV0 HV1 H20 H21 HL hD hD2
      generalize strL LK = S at *
      have x0 := HX3.out.cell 0
      have x1 := HX3.out.cell 1
      have x2 := HX3.out.cell 2
      simp at x0 x1 x2
      go_wp2_with fail
      refine HLx.out.mono ?_
      rintro e w4 ⟨rfl, hb⟩
      have HB4 := Lib.hid (HB3.out.trans (hb.mono (Nat.le_of_lt HX3.out.lt)))
      clear hb
      cases D
      · have hcmp2 : (S.toList != ([] : List UInt8)) = true := by rw [bne, hcmp]; rfl
        have hcmp3 : ¬ S.toList = [] := by simpa using hcmp
        go_wp2_with fail
        refine bodyPost_ret (v := .tuple #[.string S, .bool true, .int .i64 0]) (by simp [results, Tryz.results19, go_sem, *]) rfl ⟨by rw [HVx.out]; rfl, by rw [Hbx.out]; exact HB4.out⟩
      · have hcmp2 : (S.toList != ([] : List UInt8)) = false := by rw [bne, hcmp]; rfl
        have hcmp3 : S.toList = [] := by simpa using hcmp
        go_wp2_with fail
        refine bodyPost_ret (v := .tuple #[.string S, .bool false, .int .i64 0]) (by simp [results, Tryz.results19, go_sem, *]) rfl ⟨by rw [HVx.out]; rfl, by rw [Hbx.out]; exact HB4.out⟩
    · have HVx := Lib.hid (HV0.out F2 LK (by rw [hF2]; exact hA))
      rw [hF2] at HVx
      have hb1 : (FA != 0) = true := by simpa using hA
      clear HV0 HV1 H20 H21 HL
      go_wp2_with fail
      refine bodyPost_ret (v := .tuple #[.string ⟨#[]⟩, .bool false, .int .i64 FA]) (by simp [results, Tryz.results19, go_sem, *]) rfl ⟨by rw [hF2, HVx.out], by rw [Hbx.out]; exact HB3.out⟩
  · have hF2 : F2 = FT := H20.out hF
    have HVx := Lib.hid (HV0.out FT LK hF)
    have hb1 : (FT != 0) = true := by simpa using hF
    clear HV0 HV1 H20 H21 HL
    go_wp2_with fail
    refine bodyPost_ret (v := .tuple #[.string ⟨#[]⟩, .bool false, .int .i64 FT]) (by simp [results, Tryz.results19, go_sem, *]) rfl ⟨by rw [hF2, HVx.out], by rw [Hbx.out]; exact HB2.out⟩
end Go.Proofs.YteccghdegckjhaaGreatDoor
