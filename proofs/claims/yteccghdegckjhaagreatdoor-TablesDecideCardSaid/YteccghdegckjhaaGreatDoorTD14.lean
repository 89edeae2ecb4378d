/-
  The generator's sort of entries (at most twenty).
-/
import Derived.Test.YteccghdegckjhaaGreatDoorTD13
import Derived.Test.YteccghdegckjhaaGreatDoorTD7
set_option linter.unusedVariables false
namespace Go.Proofs.YteccghdegckjhaaGreatDoor
open Go.RowKit Go Go.Sort
set_option linter.unusedVariables false

theorem size_insInnerE {α : Type} [Inhabited α] (lt : α → α → Bool) (a : Nat) : ∀ (j : Nat) (d : Array α), (Go.Sort.insInner lt a j d).size = d.size
  | 0, d => rfl
  | j + 1, d => by
    unfold Go.Sort.insInner
    split
    · rw [size_insInnerE lt a j, Go.Sort.size_swp]
    · rfl
theorem size_insOuterE {α : Type} [Inhabited α] (lt : α → α → Bool) (a b : Nat) : ∀ (n i : Nat) (d : Array α), b - i = n → (Go.Sort.insOuter lt a b i d).size = d.size
  | 0, i, d, h => by rw [Go.Sort.insOuter, if_neg (by omega)]
  | n + 1, i, d, h => by rw [Go.Sort.insOuter, if_pos (by omega), size_insOuterE lt a b n (i + 1) _ (by omega), size_insInnerE]
theorem size_insE {α : Type} [Inhabited α] (lt : α → α → Bool) (d : Array α) (a b : Nat) : (Go.Sort.insertionSort lt d a b).size = d.size := size_insOuterE lt a b _ _ d rfl
theorem insE_none {α : Type} [Inhabited α] (lt : α → α → Bool) (d : Array α) (a : Nat) : Go.Sort.insertionSort lt d a a = d := by
  unfold Go.Sort.insertionSort
  rw [Go.Sort.insOuter, if_neg (by omega)]
/-- the sorted row -/
def stabE (L : List EB) : List EB := (Go.Sort.insertionSort (Go.Proofs.ltOf cE) L.toArray 0 L.length).toList
theorem stabE_len (L : List EB) : (stabE L).length = L.length := by
  unfold stabE
  rw [Array.length_toList, size_insE]
  rfl
section
variable {α : Type} [Inhabited α] {E : Lay α}
theorem cmpLaysE {P : Program} {g blk off size : Nat} {w : World} {cf : α → α → Int} (h : ∀ x y W, Calls P g #[.agg (E.enc x).toArray, .agg (E.enc y).toArray] W (RetD (.int .i64 (cf x y)) W)) : Go.Proofs.CmpLays P g #[] E.enc E.K cf blk off size w :=
  fun m os dk _ x y => by
    rw [Array.append_empty]
    exact (h x y _).mono fun _ _ ⟨he, hb⟩ => ⟨he, hb.grow⟩
/-- the world that a sort leaves -/
theorem OwnK.sortWorldE {w w' : World} {B g n c : Nat} {M : List α} (h : OwnK E w B (.slice (some ⟨g, 0, none⟩) n c) M) {d' : Array α} {q : Nat} {os : Array Obj}
    (hds' : d'.size = M.length) (hw : w' = sortWorldK E.enc E.K w g 0 q d' os) :
    OwnK E w' B (.slice (some ⟨g, 0, none⟩) n c) d'.toList ∧ w.grownBy w' (some g) := by
  subst hw
  obtain ⟨hn, hb, hc, hm, cur, hg, hs, ht⟩ := h.block
  have hlt := lt_of_block hg
  have hF' := flat_all E d'
  have hfs' : (flatK E.enc E.K d').size = M.length * E.K := by rw [size_flatK, hds']
  show OwnK E (grow (putRow id (Sort.ahead w q) g 0 (flatK E.enc E.K d')) os) B _ _ ∧ w.grownBy (grow (putRow id (Sort.ahead w q) g 0 (flatK E.enc E.K d')) os) (some g)
  generalize flatK E.enc E.K d' = F at hF' hfs' ⊢
  have hlen : d'.toList.length = M.length := by simp [hds']
  generalize d'.toList = L at hF' hlen ⊢
  have hheap : ∀ i, i < w.heap.size → (grow (putRow id (Sort.ahead w q) g 0 F) os).heap[i]? = if g = i then some (.cells (putCells id 0 F cur) E.ty (0, 0)) else w.heap[i]? := by
    intro i hi
    simp only [grow, putRow, mapBlock, Sort.ahead]
    rw [Array.getElem?_append_left (by simpa using hi), Array.getElem?_modify]
    by_cases e : g = i
    · subst e
      rw [if_pos rfl, if_pos rfl, hg]
      rfl
    · rw [if_neg e, if_neg e]
  have hFc : F.size ≤ cur.size := by
    rw [hfs', hs]
    exact Nat.mul_le_mul_right _ (by omega)
  obtain ⟨p1, p2⟩ := putK_take F cur hFc
  refine ⟨⟨by rw [E.all_len], .inr ⟨g, c, _, by rw [hlen, hn], hb, by rw [hheap g hlt, if_pos rfl], by omega, hm, by omega, by rw [hlen, ← hfs', p2]; exact hF'⟩⟩, ?_⟩
  refine ⟨rfl, rfl, rfl, by simp [grow, putRow, mapBlock, Sort.ahead], fun i hi hne => ?_⟩
  rw [hheap i hi, if_neg (fun e => hne (by rw [e]))]
end
/-- the insertion sort of a part of a short row -/
theorem insEB_any (gc : Nat) (eg : ∀ args w, (callFunc gc args).run Tryz.prog w = .ok (.enter gc args) w)
    (hc : ∀ x y W, Calls Tryz.prog gc #[.agg (layEB.enc x).toArray, .agg (layEB.enc y).toArray] W (RetD (.int .i64 (cE x y)) W)) (B n c a b : Nat) (ad : Option Addr) (M : List EB) (w : World) (h : OwnK layEB w B (.slice ad n c) M) (hs : n ≤ 20) (hn : 0 < n) (hab : a ≤ b) (hb : b ≤ n) :
    Calls Tryz.prog 171 #[.slice ad n c, .int .i64 (a : Int), .int .i64 (b : Int), .func (.func gc) #[] #[]] w fun e w' => e = .returned (.tuple #[]) ∧ OwnK layEB w' B (.slice ad n c) (Go.Sort.insertionSort (Go.Proofs.ltOf cE) M.toArray a b).toList ∧ Grew w w' (.slice ad n c) (.slice ad n c) := by
  have hl : M.length = n := by
    obtain ⟨_, _, hv, _⟩ := h.form
    injection hv with _ e _
    exact e.symm
  obtain ⟨g, c', hv2, -⟩ := h.one (by omega)
  injection hv2 with hv2 q1 q2
  subst hv2
  clear q1 q2
  obtain ⟨hH, hlt⟩ := h.holds
  have hp := Tryz.slices_ins_En layEB.enc layEB.len layEB.one cE gc #[] g 0 c a b M.toArray w eg (cmpLaysE hc) hH hlt hab (by show b ≤ M.length; omega) (by show M.length < _; omega)
  have hsz : M.toArray.size = n := hl
  rw [hsz] at hp
  refine hp.mono ?_
  rintro e w' ⟨rfl, q, os, hw⟩
  obtain ⟨k1, k2⟩ := h.sortWorldE (d' := Go.Sort.insertionSort (Go.Proofs.ltOf cE) M.toArray a b) (by rw [size_insE]; rfl) hw
  exact ⟨rfl, k1, ⟨k2, .inl rfl⟩⟩
set_option maxRecDepth 100000 in
set_option maxHeartbeats 4000000 in
theorem sortStableEB_any (gc : Nat) (eg : ∀ args w, (callFunc gc args).run Tryz.prog w = .ok (.enter gc args) w)
    (hc : ∀ x y W, Calls Tryz.prog gc #[.agg (layEB.enc x).toArray, .agg (layEB.enc y).toArray] W (RetD (.int .i64 (cE x y)) W)) (B n c : Nat) (ad : Option Addr) (M : List EB) (w : World) (h : OwnK layEB w B (.slice ad n c) M) (hs : n ≤ 20) :
    Calls Tryz.prog 90 #[.slice ad n c, .func (.func gc) #[] #[]] w fun e w' => e = .returned (.tuple #[]) ∧ OwnK layEB w' B (.slice ad n c) (stabE M) ∧ Grew w w' (.slice ad n c) (.slice ad n c) := by
  have hl : M.length = n := by
    obtain ⟨_, _, hv, _⟩ := h.form
    injection hv with _ e _
    exact e.symm
  have hst : Calls Tryz.prog 129 #[.slice ad n c, .int .i64 (n : Int), .func (.func gc) #[] #[]] w fun e w' => e = .returned (.tuple #[]) ∧ OwnK layEB w' B (.slice ad n c) (stabE M) ∧ Grew w w' (.slice ad n c) (.slice ad n c) := by
    have b2 : ¬ (20 : Int) < (n : Int) := by omega
    have HO := Lib.hid h
    rcases Nat.eq_zero_or_pos n with h0 | h0
    · subst h0
      have hM : M = [] := List.eq_nil_of_length_eq_zero hl
      subst hM
      have HI := Lib.hid (Tryz.slices_ins_En_none ad c (.func (.func gc) #[] #[]) w)
      have e0 : stabE [] = [] := List.eq_nil_of_length_eq_zero (by rw [stabE_len]; rfl)
      rw [e0]
      clear eg hc h hl e0
      go_enter Tryz.func129, Tryz.ntmps129
      go_wp2_with fail
      refine wp_loop_rounds 1 ?_
      rw [rounds_succ]
      go_wp2_with fail
      refine HI.out.mono ?_
      rintro e w2 ⟨rfl, rfl⟩
      go_wp2_with fail
      refine wp_loop_rounds 1 ?_
      rw [rounds_succ]
      go_wp2_with fail
      go_end0
      exact ⟨rfl, HO.out, Grew.refl _ _⟩
    · by_cases h20 : n = 20
      · subst h20
        have HI := Lib.hid (insEB_any gc eg hc B 20 c 0 20 ad M w h hs h0 (by omega) (by omega))
        have HJ := Lib.hid fun wx hx => insEB_any gc eg hc B 20 c 20 20 ad (stabE M) wx hx hs h0 (by omega) (by omega)
        have HS : Hid ((Go.Sort.insertionSort (Go.Proofs.ltOf cE) M.toArray 0 20).toList = stabE M) := Lib.hid (by unfold stabE; rw [hl])
        have HT : Hid ((Go.Sort.insertionSort (Go.Proofs.ltOf cE) (stabE M).toArray 20 20).toList = stabE M) := Lib.hid (by rw [insE_none])
        rw [HS.out] at HI
        simp only [HT.out] at HJ
        clear eg hc h hl HS HT
        generalize stabE M = SM at *
        go_enter Tryz.func129, Tryz.ntmps129
        go_wp2_with fail
        refine wp_loop_rounds 2 ?_
        rw [rounds_succ]
        go_wp2_with fail
        refine HI.out.mono ?_
        rintro e w2 ⟨rfl, h1, h2⟩
        have H1 := Lib.hid h1
        have H2 := Lib.hid h2
        clear h1 h2
        go_wp2_with fail
        rw [rounds_succ]
        go_wp2_with fail
        refine (HJ.out _ H1.out).mono ?_
        rintro e w3 ⟨rfl, h1, h2⟩
        have H3 := Lib.hid h1
        have H4 := Lib.hid (H2.out.trans h2)
        clear h1 h2
        go_wp2_with fail
        refine wp_loop_rounds 1 ?_
        rw [rounds_succ]
        go_wp2_with fail
        go_end0
        exact ⟨rfl, H3.out, H4.out⟩
      · have b1 : ¬ (20 : Int) ≤ (n : Int) := by omega
        have HI := Lib.hid (insEB_any gc eg hc B n c 0 n ad M w h hs h0 (by omega) (by omega))
        have HS : Hid ((Go.Sort.insertionSort (Go.Proofs.ltOf cE) M.toArray 0 n).toList = stabE M) := Lib.hid (by unfold stabE; rw [hl])
        rw [HS.out] at HI
        clear eg hc h hl HS
        generalize stabE M = SM at *
        go_enter Tryz.func129, Tryz.ntmps129
        go_wp2_with fail
        refine wp_loop_rounds 1 ?_
        rw [rounds_succ]
        go_wp2_with fail
        refine HI.out.mono ?_
        rintro e w2 ⟨rfl, h1, h2⟩
        have H1 := Lib.hid h1
        have H2 := Lib.hid h2
        clear h1 h2
        go_wp2_with fail
        refine wp_loop_rounds 1 ?_
        rw [rounds_succ]
        go_wp2_with fail
        go_end0
        exact ⟨rfl, H1.out, H2.out⟩
  have HS := Lib.hid hst
  clear hst eg hc h hl
  go_enter Tryz.func90, Tryz.ntmps90
  go_wp2_with fail
  refine HS.out.mono ?_
  rintro e w2 ⟨rfl, h1, h2⟩
  have H1 := Lib.hid h1
  have H2 := Lib.hid h2
  clear h1 h2
  go_wp2_with fail
  go_end0
  exact ⟨rfl, H1.out, H2.out⟩
end Go.Proofs.YteccghdegckjhaaGreatDoor
