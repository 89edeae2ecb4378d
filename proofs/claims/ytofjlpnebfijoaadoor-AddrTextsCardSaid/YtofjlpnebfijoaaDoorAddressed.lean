/-
  The mark of the address laws: addressed is true. And the small functions errs, when.
-/
import Derived.Test.YtofjlpnebfijoaaDoorPF2
import Derived.Test.YtofjlpnebfijoaaDoorOwn
import Derived.Test.YtofjlpnebfijoaaDoorShelf
namespace Go.Proofs.YtofjlpnebfijoaaDoor
open Go.RowKit Go
set_option linter.unusedVariables false

theorem iFmtU_small (i : Nat) (h : i < 100) (w : World) : Calls Tryd.prog 40 #[.int .u64 (i : Int), .int .i64 10] w fun e w' => e = .returned (.string ⟨(Lib.decDigits i).toArray⟩) ∧ w' = w := by
  have hc := Tryd.internal_strconv_small i h w
  generalize Lib.decDigits i = s at *
  have hi : (i : Int) < 100 := by omega
  have e1 : IntKind.i64.wrap (i : Int) = (i : Int) := by rw [IntKind.wrap_i64]; omega
  have Hc := Lib.hid hc
  clear hc
  go_enter Tryd.func40, Tryd.ntmps40
  go_wp2_with fail
  refine Hc.out.mono ?_
  rintro e w' ⟨rfl, rfl⟩
  go_wp2_with fail
  go_ret
  exact ⟨rfl, rfl⟩
theorem fmtU_small (i : Nat) (h : i < 100) (w : World) : Calls Tryd.prog 28 #[.int .u64 (i : Int), .int .i64 10] w fun e w' => e = .returned (.string ⟨(Lib.decDigits i).toArray⟩) ∧ w' = w := by
  have hc := iFmtU_small i h w
  generalize Lib.decDigits i = s at *
  have Hc := Lib.hid hc
  clear hc
  go_enter Tryd.func28, Tryd.ntmps28
  go_wp2_with fail
  refine Hc.out.mono ?_
  rintro e w' ⟨rfl, rfl⟩
  go_wp2_with fail
  go_ret
  exact ⟨rfl, rfl⟩
/-- an own row of strings -/
def encSs (L : List ByteArray) : List Value := L.map Value.string
def OwnS (w : World) (base : Nat) (v : Value) (L : List ByteArray) : Prop := w.ownsRow base 9 1 v L.length (encSs L)
theorem strE : EI Tryd.prog 46 9 1 16 := EI.mk' (z := .string ⟨#[]⟩) Tryd.underlying46 (by kernel_rfl) rfl (by decide)
theorem OwnS.nil (w : World) (base : Nat) : OwnS w base (.slice none 0 0) [] := World.ownsRow_nil w base _ 1
theorem OwnS.later {w w' : World} {base : Nat} {v : Value} {L : List ByteArray} (h : OwnS w base v L) (hb : Below w.heap.size w w') : OwnS w' base v L := own_later h hb
theorem OwnS.snoc {w : World} {B : Nat} {v : Value} {L : List ByteArray} {s : ByteArray} (h : w.ownsRow B 9 1 v (L.length + 1) (encSs L ++ [.string s])) : OwnS w B v (L ++ [s]) := by
  show w.ownsRow _ _ _ _ _ _
  rw [List.length_append, encSs, List.map_append]
  exact h
theorem OwnS.one {w : World} {B : Nat} {v : Value} {L : List ByteArray} (h : OwnS w B v L) (hl : 1 ≤ L.length) :
    ∃ g c, v = .slice (some ⟨g, 0, none⟩) L.length c ∧ B ≤ g ∧ g < w.heap.size ∧ L.length ≤ c ∧ c ≤ maxLen ∧ ∀ (j : Nat) x, L[j]? = some x → w.cell? ⟨g, j, none⟩ = some (.string x) := by
  rcases h.2 with ⟨rfl, h0⟩ | ⟨g, cap, cur, rfl, hb, hg, hc, hm, hs, ht⟩
  · omega
  · refine ⟨g, cap, rfl, hb, lt_of_block hg, hc, hm, fun j x hx => ?_⟩
    have hj : j < L.length := by
      rcases Nat.lt_or_ge j L.length with h | h
      · exact h
      · rw [List.getElem?_eq_none h] at hx; cases hx
    rw [cell_of_row w g _ _ _ _ hg]
    have h2 : (encSs L)[j]? = some (.string x) := by simp [encSs, hx]
    rw [← ht, List.getElem?_take, if_pos (by omega), Array.getElem?_toList] at h2
    exact h2
set_option maxRecDepth 100000 in
set_option maxHeartbeats 1000000 in
theorem textOf_one (w : World) : Calls Tryd.prog 16 #[.agg #[.bool false, .int .u64 0, .int .u64 1]] w (Ret (.string ⟨#[48, 46, 48, 46, 48, 46, 49]⟩) w) := by
  have h0 := fun w => fmtU_small 0 (by decide) w
  have h1 := fun w => fmtU_small 1 (by decide) w
  rw [show Lib.decDigits 0 = [48] by rw [Lib.decDigits]; rfl] at h0
  rw [show Lib.decDigits 1 = [49] by rw [Lib.decDigits]; rfl] at h1
  have H0 := Lib.hid h0
  have H1 := Lib.hid h1
  clear h0 h1
  have b0 : Go.bits .and .u64 0 255 = 0 := by decide
  have b1 : Go.bits .and .u64 1 255 = 1 := by decide
  have HP : Hid (Blk (w.alloc (.cells #[.bool false, .int .u64 0, .int .u64 1] 28 (0, 0))) w.heap.size 28 #[.bool false, .int .u64 0, .int .u64 1]) := Lib.hid (Blk.new w _ _)
  have HB : Hid (Below w.heap.size w (w.alloc (.cells #[.bool false, .int .u64 0, .int .u64 1] 28 (0, 0)))) := Lib.hid (below_alloc (Below.refl _ _) _)
  go_enter Tryd.func16, Tryd.ntmps16
  go_upto_region 1 with fail
  generalize w.alloc (.cells #[.bool false, .int .u64 0, .int .u64 1] 28 (0, 0)) = w0 at *
  have p0 := HP.out.cell 0
  simp at p0
  go_wp2
  go_loopw [3, 4, 14] (fun v iv i wr => ∃ k : Nat, k ≤ 4 ∧ i = .int .i64 k ∧ Hid (OwnS wr w0.heap.size v (([⟨#[48]⟩, ⟨#[48]⟩, ⟨#[48]⟩, ⟨#[49]⟩] : List ByteArray).take k)) ∧ Hid (Below w0.heap.size w0 wr)) (fun _ _ i _ => 4 - (intOf i).toNat)
  case atStart => exact ⟨0, Nat.zero_le _, rfl, Lib.hid (OwnS.nil _ _), Lib.hid (Below.refl _ _)⟩
  case round =>
    clear p0
    obtain ⟨k, hk, rfl, HO, HBr⟩ := hrel
    have p2 := (HP.out.below HBr.out HP.out.lt).cell 2
    simp at p2
    by_cases hlt : k < 4
    · have hk4 : k = 0 ∨ k = 1 ∨ k = 2 ∨ k = 3 := by omega
      rcases hk4 with rfl | rfl | rfl | rfl
      all_goals
        go_wp2_with fail
        first
          | (refine (H0.out _).mono ?_)
          | (refine (H1.out _).mono ?_)
        rintro e w' ⟨rfl, rfl⟩
        go_wp2_with (at_builtin; refine wpList_app strE rfl (.tmp 17) (.tmp 26) rfl rfl (World.ownsRow.alloc HO.out _) rfl (src_one_new _ _ _) ?c1 ?c2 ?c3 ?c4 ?_)
        case c1 => first | rfl | (intro u hu; simp at hu; subst hu; rfl)
        case c2 => unfold maxLen; simp
        case c3 => simp
        case c4 => have := HBr.out.size; simp; omega
        intro v' w2 hO hG
        have HO' := Lib.hid (OwnS.snoc hO)
        have HB' : Hid (Below w0.heap.size w0 w2) := Lib.hid ((Below.alloc HBr.out HBr.out.size _).trans (hG.below (by have := HBr.out.size; simp; omega) (own_base HO.out)))
        clear hO hG p2
        go_wp2
        exact ⟨⟨_, by decide, rfl, HO', HB'⟩, by simp [intOf]⟩
    · obtain rfl : k = 4 := by omega
      obtain ⟨g, c, hv, _, hg, hc, _, hcell⟩ := HO.out.one (by decide)
      rw [show (([⟨#[48]⟩, ⟨#[48]⟩, ⟨#[48]⟩, ⟨#[49]⟩] : List ByteArray).take 4) = [⟨#[48]⟩, ⟨#[48]⟩, ⟨#[48]⟩, ⟨#[49]⟩] from rfl] at hcell
      have hv' : u3 = .slice (some ⟨g, 0, none⟩) 4 c := hv
      have hc' : 4 ≤ c := hc
      clear hv hc
      subst hv'
      have hJ := Tryd.strings_Join g 0 c [⟨#[48]⟩, ⟨#[48]⟩, ⟨#[48]⟩, ⟨#[49]⟩] ⟨#[46]⟩ wr (fun j x hx => by rw [Nat.zero_add]; exact hcell j x hx) hg (by decide) hc' (by decide)
      rw [show (⟨(Lib.join (([⟨#[48]⟩, ⟨#[48]⟩, ⟨#[48]⟩, ⟨#[49]⟩] : List ByteArray).map (·.data.toList)) (⟨#[46]⟩ : ByteArray).data.toList).toArray⟩ : ByteArray) = ⟨#[48, 46, 48, 46, 48, 46, 49]⟩ by decide] at hJ
      have HJ := Lib.hid hJ
      clear hJ hcell p2
      go_wp2_with fail
      refine HJ.out.mono ?_
      rintro e w' ⟨rfl, hb⟩
      go_wp2_with fail
      go_ret
      exact ⟨rfl, HB.out.trans ((HBr.out.trans (hb.mono HBr.out.size)).mono HB.out.size)⟩
set_option maxRecDepth 100000 in
theorem addressed_any (w : World) : Calls Tryd.prog 13 #[] w (Ret (.bool true) w) := by
  have hT : ∀ w, Calls Tryd.prog 7 #[.agg #[.bool false, .int .u64 0, .int .u64 1]] w (Ret (.tuple #[.string ⟨#[48, 46, 48, 46, 48, 46, 49]⟩, .int .i64 0]) w) := fun w => by
    have HC := Lib.hid fun wx => checkAddr_any false 0 1 wx ⟨by decide, by decide⟩ ⟨by decide, by decide⟩
    have HT := Lib.hid fun wx => textOf_one wx
    have HP : Hid (Blk (w.alloc (.cells #[.bool false, .int .u64 0, .int .u64 1] 28 (0, 0))) w.heap.size 28 #[.bool false, .int .u64 0, .int .u64 1]) := Lib.hid (Blk.new w _ _)
    have HB : Hid (Below w.heap.size w (w.alloc (.cells #[.bool false, .int .u64 0, .int .u64 1] 28 (0, 0)))) := Lib.hid (below_alloc (Below.refl _ _) _)
    go_enter Tryd.func7, Tryd.ntmps7
    go_upto_region 1 with fail
    generalize w.alloc (.cells #[.bool false, .int .u64 0, .int .u64 1] 28 (0, 0)) = w0 at *
    have p0 := HP.out.cell 0
    have p1 := HP.out.cell 1
    have p2 := HP.out.cell 2
    simp at p0 p1 p2
    go_wp2_with fail
    refine (HC.out _).mono ?_
    rintro e w' ⟨rfl, o, rfl⟩
    have q0 := (HP.out.alloc o).cell 0
    have q1 := (HP.out.alloc o).cell 1
    have q2 := (HP.out.alloc o).cell 2
    simp at q0 q1 q2
    have ha : aFault false 0 1 = 0 := by decide
    go_wp2_with fail
    refine (HT.out _).mono ?_
    rintro e w2 ⟨rfl, hb⟩
    go_wp2_with fail
    go_ret2
    exact ⟨rfl, (below_alloc HB.out o).trans (hb.mono (by have := HB.out.size; simp; omega))⟩
  have HT := Lib.hid hT
  clear hT
  go_enter Tryd.func13, Tryd.ntmps13
  go_wp2_with fail
  refine (HT.out _).mono ?_
  rintro e w2 ⟨rfl, hb⟩
  go_wp2
  go_ret
  exact ⟨rfl, hb⟩
end Go.Proofs.YtofjlpnebfijoaaDoor
