/-
  Four times the spread: the program and the reference give the same number.
-/
import Derived.Test.YtaamonhhclffcaaMiddle
namespace Go.Proofs.Ytaamonhhclffcaa
open Go.RowKit Go
set_option linter.unusedVariables false

def Small (zs : List Int) : Prop := ∀ z ∈ zs, 0 ≤ z ∧ z ≤ 2000000000000
theorem Small.sized {zs : List Int} (h : Small zs) : Sized zs := fun z hz => by have := h z hz; omega
def dev (m z : Int) : Int := max (2 * z - m) (m - 2 * z)
def devs (zs : List Int) : List Int := zs.map (dev (mid zs))
theorem dev_bd {zs : List Int} (h : Small zs) (hn : 1 ≤ zs.length) : ∀ z ∈ devs zs, 0 ≤ z ∧ z ≤ 4000000000000 := by
  intro z hz
  obtain ⟨x, hx, rfl⟩ := List.mem_map.1 hz
  have h1 := h x hx
  have h2 := mid_bd h hn
  unfold dev
  omega
theorem Small.devs {zs : List Int} (h : Small zs) (hn : 1 ≤ zs.length) : Sized (devs zs) := fun z hz => by have := dev_bd h hn z hz; omega
theorem mid_I62 {zs : List Int} (h : Small zs) (hn : 1 ≤ zs.length) : 0 ≤ mid zs ∧ mid zs ≤ 4000000000000 := by have := mid_bd h hn; omega
theorem spr_I62 {zs : List Int} (h : Small zs) (hn : 1 ≤ zs.length) : 0 ≤ mid (devs zs) ∧ mid (devs zs) ≤ 8000000000000 := by
  have := mid_bd (dev_bd h hn) (by simpa [Go.Proofs.Ytaamonhhclffcaa.devs] using hn)
  omega

set_option maxRecDepth 100000 in
set_option maxHeartbeats 1000000 in
theorem spread_any (g o n c : Nat) (zs : List Int) (w : World) (h : RdInts w g o n zs) (hn : 1 ≤ n ∧ n ≤ 1000000) (hs : Small zs) :
    Calls Try.prog 85 #[.slice (some ⟨g, o, none⟩) n c] w (Ret (.int .i64 (mid (devs zs))) w) := by
  have hl := h.1
  have hmb := mid_I62 hs (by omega)
  have HS := Lib.hid hs
  have H := Lib.hid h
  have HD := Lib.hid (Small.devs hs (by omega))
  obtain ⟨M, hM⟩ : ∃ M, M = mid (devs zs) := ⟨_, rfl⟩
  rw [← hM]
  have HM := Lib.hid hM
  obtain ⟨D, hD⟩ : ∃ D, D = devs zs := ⟨_, rfl⟩
  rw [← hD] at HM HD
  unfold devs at hD
  have HDl : Hid (D.length = n) := Lib.hid (by rw [hD]; simpa using hl)
  clear h hs hM
  go_enter Try.func85, Try.ntmps85
  go_wp2_with fail
  refine (middle_any g o n c zs w H.out hn HS.out.sized).mono ?_
  rintro e w1 ⟨rfl, hB⟩
  have HB1 := Lib.hid hB
  generalize mid zs = m at *
  have HDD := Lib.hid hD
  have Hl := Lib.hid hl
  obtain ⟨hn1, hn2⟩ := hn
  clear hB hD hl
  go_wp2
  go_loopw [4, 11] (fun s i wr => ∃ (k : Nat), k ≤ n ∧ i = .int .i64 k ∧ Hid (OwnI wr w.heap.size s ((zs.take k).map (dev m))) ∧ Hid (Below w.heap.size w wr)) (fun _ i _ => n - (intOf i).toNat)
  case atStart => exact ⟨0, Nat.zero_le _, rfl, Lib.hid (OwnI.nil _ _), HB1⟩
  case round =>
    obtain ⟨k, hk, rfl, HO, HB⟩ := hrel
    by_cases hlt : k < n
    · have ck : wr.cell? ⟨g, o + k, none⟩ = some (.int .i64 (zs.getD k 0)) := (World.cell?_of_block (w := w) (HB.out.block g H.out.2.1)).trans (H.out.2.2 k hlt)
      have hb := HS.out _ (getD_mem (zs := zs) (i := k) (by rw [Hl.out]; exact hlt))
      have hst : zs.take (k + 1) = zs.take k ++ [zs.getD k 0] := by
        rw [List.take_succ_eq_append_getElem (by rw [Hl.out]; exact hlt)]
        simp [List.getD, List.getElem?_eq_getElem (show k < zs.length by rw [Hl.out]; exact hlt)]
      have hlen : ((zs.take k).map (dev m)).length = k := by simp; have := Hl.out; omega
      have hst' : (zs.take (k + 1)).map (dev m) = (zs.take k).map (dev m) ++ [dev m (zs.getD k 0)] := by rw [hst, List.map_append]; rfl
      generalize (zs.take k).map (dev m) = L at *
      generalize zs.getD k 0 = z at *
      have Hst := Lib.hid hst'
      have Hlen := Lib.hid hlen
      clear hlen hst hst'
      go_wp2_with (at_builtin; refine wpList_app intE rfl (.tmp 15) (.tmp 25) rfl rfl (World.ownsRow.alloc HO.out _) rfl (src_one_new _ _ _) ?c1 ?c2 ?c3 ?c4 ?_)
      case c1 => intro u hu; simp at hu; subst hu; rfl
      case c2 => have := Hlen.out; unfold maxLen; omega
      case c3 => have := Hlen.out; omega
      case c4 => have := HB.out.size; simp; omega
      intro v' w' hO hG
      have HO' : Hid (OwnI w' w.heap.size v' (L ++ [dev m z])) := by
        show w'.ownsRow _ _ _ _ _ _
        rw [List.length_append, encIs, List.map_append]
        exact hO
      have HB' := Lib.hid (HB.out.trans (hG.allocFirst.below HB.out.size (own_base HO.out)))
      clear hO hG
      go_wp2
      refine ⟨⟨k + 1, by omega, by go_num, ?_, HB'⟩, by simp [intOf]; omega⟩
      rw [Hst.out]
      exact HO'
    · obtain rfl : k = n := by omega
      have e1 : (zs.take k).map (dev m) = D := by rw [List.take_of_length_le (by rw [Hl.out]; exact Nat.le_refl _), HDD.out]
      rw [e1] at HO
      have hdl := HDl.out
      obtain ⟨g1, c1, cur, rfl, hb1, _, hR, hc1, hm1⟩ := HO.out.slice (by omega)
      rw [hdl] at hR ⊢
      have HR := Lib.hid hR
      clear hR e1 hdl
      go_wp2_with fail
      refine (middle_any g1 0 k c1 D _ HR.out ⟨hn1, hn2⟩ HD.out).mono ?_
      rintro e w2 ⟨rfl, hB⟩
      have HB2 := Lib.hid (HB.out.trans (hB.mono HB.out.size))
      rw [← HM.out]
      clear hB
      go_wp2
      go_ret
      exact ⟨rfl, HB2.out⟩
set_option maxRecDepth 100000 in
set_option maxHeartbeats 1000000 in
theorem fourfold_any (g o n c : Nat) (zs : List Int) (w : World) (h : RdInts w g o n zs) (hn : 1 ≤ n ∧ n ≤ 1000000) (hs : Small zs) :
    Calls Try.prog 88 #[.slice (some ⟨g, o, none⟩) n c] w (Ret (.int .i64 (mid (devs zs))) w) := by
  have hl := h.1
  have hmb := mid_I62 hs (by omega)
  have HS := Lib.hid hs
  have H := Lib.hid h
  have HD := Lib.hid (Small.devs hs (by omega))
  obtain ⟨M, hM⟩ : ∃ M, M = mid (devs zs) := ⟨_, rfl⟩
  rw [← hM]
  have HM := Lib.hid hM
  obtain ⟨D, hD⟩ : ∃ D, D = devs zs := ⟨_, rfl⟩
  rw [← hD] at HM HD
  unfold devs at hD
  have HDl : Hid (D.length = n) := Lib.hid (by rw [hD]; simpa using hl)
  clear h hs hM
  go_enter Try.func88, Try.ntmps88
  go_wp2_with fail
  refine (twice_any g o n c zs w H.out hn HS.out.sized).mono ?_
  rintro e w1 ⟨rfl, hB⟩
  have HB1 := Lib.hid hB
  generalize mid zs = m at *
  have HDD := Lib.hid hD
  have Hl := Lib.hid hl
  obtain ⟨hn1, hn2⟩ := hn
  clear hB hD hl
  go_wp2
  go_loopw [4, 11] (fun s i wr => ∃ (k : Nat), k ≤ n ∧ i = .int .i64 k ∧ Hid (OwnI wr w.heap.size s ((zs.take k).map (dev m))) ∧ Hid (Below w.heap.size w wr)) (fun _ i _ => n - (intOf i).toNat)
  case atStart => exact ⟨0, Nat.zero_le _, rfl, Lib.hid (OwnI.nil _ _), HB1⟩
  case round =>
    obtain ⟨k, hk, rfl, HO, HB⟩ := hrel
    by_cases hlt : k < n
    · have ck : wr.cell? ⟨g, o + k, none⟩ = some (.int .i64 (zs.getD k 0)) := (World.cell?_of_block (w := w) (HB.out.block g H.out.2.1)).trans (H.out.2.2 k hlt)
      have hb := HS.out _ (getD_mem (zs := zs) (i := k) (by rw [Hl.out]; exact hlt))
      have hst : zs.take (k + 1) = zs.take k ++ [zs.getD k 0] := by
        rw [List.take_succ_eq_append_getElem (by rw [Hl.out]; exact hlt)]
        simp [List.getD, List.getElem?_eq_getElem (show k < zs.length by rw [Hl.out]; exact hlt)]
      have hlen : ((zs.take k).map (dev m)).length = k := by simp; have := Hl.out; omega
      have hst' : (zs.take (k + 1)).map (dev m) = (zs.take k).map (dev m) ++ [dev m (zs.getD k 0)] := by rw [hst, List.map_append]; rfl
      generalize (zs.take k).map (dev m) = L at *
      generalize zs.getD k 0 = z at *
      have Hst := Lib.hid hst'
      have Hlen := Lib.hid hlen
      clear hlen hst hst'
      go_wp2_with (at_builtin; refine wpList_app intE rfl (.tmp 15) (.tmp 25) rfl rfl (World.ownsRow.alloc HO.out _) rfl (src_one_new _ _ _) ?c1 ?c2 ?c3 ?c4 ?_)
      case c1 => intro u hu; simp at hu; subst hu; rfl
      case c2 => have := Hlen.out; unfold maxLen; omega
      case c3 => have := Hlen.out; omega
      case c4 => have := HB.out.size; simp; omega
      intro v' w' hO hG
      have HO' : Hid (OwnI w' w.heap.size v' (L ++ [dev m z])) := by
        show w'.ownsRow _ _ _ _ _ _
        rw [List.length_append, encIs, List.map_append]
        exact hO
      have HB' := Lib.hid (HB.out.trans (hG.allocFirst.below HB.out.size (own_base HO.out)))
      clear hO hG
      go_wp2
      refine ⟨⟨k + 1, by omega, by go_num, ?_, HB'⟩, by simp [intOf]; omega⟩
      rw [Hst.out]
      exact HO'
    · obtain rfl : k = n := by omega
      have e1 : (zs.take k).map (dev m) = D := by rw [List.take_of_length_le (by rw [Hl.out]; exact Nat.le_refl _), HDD.out]
      rw [e1] at HO
      have hdl := HDl.out
      obtain ⟨g1, c1, cur, rfl, hb1, _, hR, hc1, hm1⟩ := HO.out.slice (by omega)
      rw [hdl] at hR ⊢
      have HR := Lib.hid hR
      clear hR e1 hdl
      go_wp2_with fail
      refine (twice_any g1 0 k c1 D _ HR.out ⟨hn1, hn2⟩ HD.out).mono ?_
      rintro e w2 ⟨rfl, hB⟩
      have HB2 := Lib.hid (HB.out.trans (hB.mono HB.out.size))
      rw [← HM.out]
      clear hB
      go_wp2
      go_ret
      exact ⟨rfl, HB2.out⟩
end Go.Proofs.Ytaamonhhclffcaa
