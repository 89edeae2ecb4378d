/-
  slices.Grow of nil and slices.Concat of slices of bytes.
-/
import Derived.Test.YtaamonhhclffcaaByteSet
import Derived.Lib.AppendZeros
namespace Go.Proofs.Ytaamonhhclffcaa
open Go.RowKit Go
set_option linter.unusedVariables false

theorem own_zero (w : World) (B : Nat) (hB : B ≤ w.heap.size) (cs : Array Value) (m : Nat) (hcs : cs.size = m) (hm : m ≤ maxLen) : OwnB (w.alloc (.cells cs 5 (0, 0))) B (.slice (some ⟨w.heap.size, 0, none⟩) 0 m) [] :=
  ⟨by simp [encBs], .inr ⟨w.heap.size, m, cs, rfl, hB, heap_alloc_new w _, Nat.zero_le _, hm, by omega, by simp [encBs]⟩⟩
theorem flat_take (Ls : List (List UInt8)) (k : Nat) (hk : k < Ls.length) : (Ls.take (k + 1)).flatten = (Ls.take k).flatten ++ Ls.getD k [] := by
  rw [List.take_succ_eq_append_getElem hk, List.flatten_append]
  simp [List.getD, hk]
theorem flat_le (Ls : List (List UInt8)) (k : Nat) : (Ls.take k).flatten.length ≤ Ls.flatten.length := by
  have h : Ls.flatten = (Ls.take k).flatten ++ (Ls.drop k).flatten := by rw [← List.flatten_append, List.take_append_drop]
  rw [h]
  simp
theorem cat_elem {w : World} {g : Nat} {vs : List Value} {Ls : List (List UInt8)} (hg : w.heap[g]? = some (.cells vs.toArray 43 (0, 0))) (hR : RbL w.heap.size w vs Ls) (k : Nat) (hk : k < Ls.length) :
    ∃ ad c, w.cell? ⟨g, k, none⟩ = some (.slice ad (Ls.getD k []).length c) ∧ Rb w.heap.size w (.slice ad (Ls.getD k []).length c) (Ls.getD k []) := by
  have hlen := hR.len
  have h1 : vs[k]? = some vs[k] := List.getElem?_eq_getElem (by omega)
  have h2 : Ls[k]? = some (Ls.getD k []) := by simp [List.getD, hk]
  have hr := hR.get k _ _ h1 h2
  obtain ⟨ad, c, e, hr'⟩ := id hr
  refine ⟨ad, c, ?_, ?_⟩
  · rw [cell_of_row w g k _ _ _ hg]
    simp only [List.getElem?_toArray]
    rw [h1, e]
  · rw [← e]; exact hr

theorem rb_src {B : Nat} {w : World} {ad : Option Addr} {n c : Nat} {L : List UInt8} (h : Rb B w (.slice ad n c) L) : Src w ad L.length 1 (encBs L) := by
  obtain ⟨ad', c', e, h1, h2, -⟩ := h
  injection e with e1 e2 e3
  subst e1
  exact h2
set_option maxRecDepth 100000 in
set_option maxHeartbeats 1000000 in
theorem grow_any (n : Nat) (w : World) (hn : n ≤ 1000000) : Calls Try.prog 99 #[.slice none 0 0, .int .i64 (n : Int)] w fun e w' => ∃ v, e = .returned v ∧ OwnB w' w.heap.size v [] ∧ Below w.heap.size w w' := by
  by_cases h0 : n = 0
  · subst h0
    go_enter Try.func99, Try.ntmps99
    go_wp2
    go_ret
    exact ⟨_, rfl, OwnB.nil _ _, Below.refl _ _⟩
  · obtain ⟨i, hi0, hi1, hi2, hi3⟩ := info_parts (show (Try.prog.info? 5).map (fun i => (i.zero, i.size, i.bytes)) = some (some (.int .u8 0), 1, 1) by kernel_rfl)
    have hrun := fun ty => Lib.run_append_nil_zeros (P := Try.prog) w 43 3 ty 5 i (.int .u8 0) .i64 .i64 Try.underlying43 Try.underlying3 hi0 hi1 n (by omega) (by omega) (by omega) (by rw [hi3]; omega)
    have hcap := Lib.hid (show True from trivial)
    go_enter Try.func99, Try.ntmps99
    go_wp2_with (at_builtin; refine Lib.wpList_append_run _ rfl _ _ _ _ rfl _ _ rfl rfl _ _ (hrun _) ?_)
    have hge := grownCap_ge w n 0 5
    have hle := grownCap_le_maxLen w n 0 5 (by unfold maxLen; omega)
    generalize grownCap w n 0 5 = m at *
    go_ret
    exact ⟨_, rfl, own_zero w.drew w.heap.size (Nat.le_refl _) _ m (by simp [size_zeroCells]; omega) hle, below_alloc (below_drew (Below.refl _ _)) _⟩

set_option maxRecDepth 100000 in
set_option maxHeartbeats 1000000 in
theorem concat_any (g : Nat) (vs : List Value) (Ls : List (List UInt8)) (w : World) (hg : w.heap[g]? = some (.cells vs.toArray 43 (0, 0))) (hR : RbL w.heap.size w vs Ls) (hl : Ls.flatten.length ≤ 100000) (hn : Ls.length ≤ 100) :
    Calls Try.prog 66 #[.slice (some ⟨g, 0, none⟩) Ls.length Ls.length] w fun e w' => ∃ v, e = .returned v ∧ OwnB w' w.heap.size v Ls.flatten ∧ Below w.heap.size w w' := by
  have hglt := lt_of_block hg
  have HE := Lib.hid (fun k => cat_elem hg hR k)
  have HL := Lib.hid hl
  clear hg hR hl
  generalize hnn : Ls.length = n at *
  have Hn := Lib.hid hnn
  clear hnn
  go_enter Try.func66, Try.ntmps66
  go_wp2
  go_loop [3, 11] (fun t i => ∃ k : Nat, k ≤ n ∧ i = .int .i64 k ∧ t = .int .i64 ((Ls.take k).flatten.length : Nat)) (fun _ i => n - (intOf i).toNat)
  case atStart => exact ⟨0, Nat.zero_le _, rfl, rfl⟩
  case round =>
    obtain ⟨k, hk, rfl, rfl⟩ := hrel
    by_cases hlt : k < n
    · obtain ⟨ad, c, hc, hr⟩ := HE.out k hlt
      have hf1 := flat_take Ls k (by rw [Hn.out]; exact hlt)
      have hle1 := flat_le Ls (k + 1)
      have hle0 := flat_le Ls k
      have hL := HL.out
      rw [hf1, List.length_append] at hle1
      have HF := Lib.hid (congrArg List.length hf1)
      clear hr hf1
      generalize (Ls.getD k []) = E at *
      generalize hm : E.length = m at *
      generalize hs : (Ls.take k).flatten.length = sl at *
      generalize Ls.flatten.length = tot at *
      rw [List.length_append, hm, hs] at HF
      clear hm hs
      go_wp2
      refine ⟨⟨k + 1, by omega, by go_num, ?_⟩, by simp [intOf]; omega⟩
      rw [HF.out]
      go_num
    · obtain rfl : k = n := by omega
      have hall : Ls.take k = Ls := List.take_of_length_le (by rw [Hn.out]; exact Nat.le_refl _)
      rw [hall]
      have hL := HL.out
      generalize hs : Ls.flatten.length = tot at *
      have HT := Lib.hid hs
      clear hs hall
      go_wp2_with fail
      refine (grow_any tot w (by omega)).mono ?_
      rintro e w1 ⟨v1, rfl, hO, hb⟩
      have HO := Lib.hid hO
      have HB := Lib.hid hb
      clear hO hb
      go_wp2
      go_loopw [6, 27] (fun s i wr => ∃ k' : Nat, k' ≤ k ∧ i = .int .i64 k' ∧ Hid (OwnB wr w.heap.size s (Ls.take k').flatten) ∧ Hid (Below w.heap.size w wr)) (fun _ i _ => k - (intOf i).toNat)
      case atStart => exact ⟨0, Nat.zero_le _, rfl, HO, HB⟩
      case round =>
        clear HO HB
        obtain ⟨k', hk', rfl, HO, HB⟩ := hrel
        by_cases hlt2 : k' < k
        · obtain ⟨ad, c, hc, hr⟩ := HE.out k' hlt2
          have hc' : wr.cell? ⟨g, k', none⟩ = some (.slice ad (Ls.getD k' []).length c) := (HB.out.cell (p := ⟨g, k', none⟩) hglt).trans hc
          have HR := Lib.hid (hr.below HB.out)
          have hf1 := flat_take Ls k' (by rw [Hn.out]; exact hlt2)
          have hle1 := flat_le Ls (k' + 1)
          have hL' := HL.out
          rw [hf1, List.length_append, HT.out] at hle1
          have HF := Lib.hid hf1
          clear hc hr hf1
          obtain ⟨E, hE⟩ : ∃ E, E = Ls.getD k' [] := ⟨_, rfl⟩
          rw [← hE] at hc' HR hle1 HF
          clear hE
          obtain ⟨A, hA⟩ : ∃ A, A = (Ls.take k').flatten := ⟨_, rfl⟩
          rw [← hA] at HO hle1 HF
          clear hA
          have hwlt : g < wr.heap.size := Nat.lt_of_lt_of_le hglt HB.out.size
          generalize hEl : E.length = el at *
          go_wp2_with (at_builtin; refine wpList_app byteE rfl (.tmp 31) (.tmp 32) rfl rfl HO.out rfl (by rw [← hEl]; exact (rb_src HR.out)) (encBs_one E) ?h1 ?h2 ?h3 ?_)
          case h1 => unfold maxLen; omega
          case h2 => omega
          case h3 => exact HB.out.size
          intro v' w' hO' hG
          have HO' : Hid (OwnB w' w.heap.size v' (A ++ E)) := by
            show w'.ownsRow _ _ _ _ _ _
            rw [List.length_append, hEl, encBs, List.map_append]
            exact hO'
          have HB' := Lib.hid (HB.out.trans (hG.below HB.out.size (own_base HO.out)))
          clear hO' hG HO HB HR hc' hEl
          go_wp2
          refine ⟨⟨k' + 1, by omega, by go_num, by rw [HF.out]; exact HO', HB'⟩, by simp [intOf]; omega⟩
        · obtain rfl : k' = k := by omega
          go_wp2
          go_ret
          exact ⟨_, rfl, by have := HO.out; rwa [List.take_of_length_le (by rw [Hn.out]; exact Nat.le_refl _)] at this, HB.out⟩

end Go.Proofs.Ytaamonhhclffcaa
