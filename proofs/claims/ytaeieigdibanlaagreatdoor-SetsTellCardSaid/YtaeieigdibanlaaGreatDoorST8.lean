/-
  Spans.Prefixes: the greedy blocks of ranges.
-/
import Derived.Test.YtaeieigdibanlaaGreatDoorST7
import Derived.Deep.CutBlock
set_option linter.unusedVariables false
namespace Go.Proofs.YtaeieigdibanlaaGreatDoor
open Go.RowKit Go
set_option linter.unusedVariables false

def pfOf (c : Nat × Nat) : Pf := (sixN c.1, hiN c.1, loN c.1, (c.2 : Int))
/-- the prefixes of ranges -/
def pfs (S : List Sp) : List Pf := (allB S).map pfOf
def vlen : Value → Nat
  | .slice _ n _ => n
  | _ => 0
theorem OwnK.vlen {α : Type} {E : Lay α} {w : World} {B : Nat} {v : Value} {L : List α} (h : OwnK E w B v L) : vlen v = L.length := by
  obtain ⟨ad, c, rfl, _⟩ := h.form
  rfl
theorem own_far {w : World} {base : Nat} {e : TypeId} {size : Nat} {v : Value} {n : Nat} {xs : List Value} {b : Nat} {t : TypeId} {cs : Array Value} (h : w.ownsRow base e size v n xs) (hb : Blk w b t cs) (hne : e ≠ t) (i : Nat) (u : Value) : (w.setCell ⟨b, i, none⟩ u).ownsRow base e size v n xs := by
  rcases h with ⟨hl, hv | ⟨g, c, cur, rfl, hbase, hg, hc, hm, hs, ht⟩⟩
  · exact ⟨hl, .inl hv⟩
  · refine ⟨hl, .inr ⟨g, c, cur, rfl, hbase, ?_, hc, hm, hs, ht⟩⟩
    rw [Below.heap_setCell w ⟨b, i, none⟩ u g (by
      rintro rfl
      unfold Blk at hb
      rw [hg] at hb
      injection hb with hb
      injection hb with _ hb
      exact hne hb)]
    exact hg
theorem OwnK.far {α : Type} {E : Lay α} {w : World} {B : Nat} {v : Value} {L : List α} {b : Nat} {t : TypeId} {cs : Array Value} (h : OwnK E w B v L) (hb : Blk w b t cs) (hne : E.ty ≠ t) (i : Nat) (u : Value) : OwnK E (w.setCell ⟨b, i, none⟩ u) B v L := own_far h hb hne i u
theorem Blk.grew {w w' : World} {b : Nat} {t : TypeId} {cs : Array Value} {base : Nat} {e : TypeId} {size : Nat} {v v' : Value} {n : Nat} {xs : List Value} (hb : Blk w b t cs) (h : w.ownsRow base e size v n xs) (hne : e ≠ t) (hG : Grew w w' v v') : Blk w' b t cs := by
  refine (hG.g.block b hb.lt ?_).trans hb
  rcases h with ⟨hl, ⟨rfl, _⟩ | ⟨g, c, cur, rfl, hbase, hg, hc, hm, hs, ht⟩⟩
  · simp [Value.ownBlock]
  · intro he
    have : b = g := by simpa [Value.ownBlock] using he
    subst this
    unfold Blk at hb
    rw [hg] at hb
    injection hb with hb
    injection hb with _ hb
    exact hne hb
theorem allB_take {S : List Sp} {k : Nat} {p : Sp} (hp : S[k]? = some p) : allB (S.take (k + 1)) = allB (S.take k) ++ blks (LN p.1) p.1 p.2 := by
  have hlt := (List.getElem?_eq_some_iff.1 hp).1
  have e : S[k] = p := by rw [List.getElem?_eq_getElem hlt] at hp; injection hp
  unfold allB
  rw [List.take_succ_eq_append_getElem hlt, List.flatMap_append, e]
  simp
/-- what is still to come, at x -/
def remB (left : Bool) (L x y : Nat) : List (Nat × Nat) := if left = true then blks L x y else []
theorem remB_stop {left : Bool} {L x y : Nat} (h : left = true → y < x) : remB left L x y = [] := by
  unfold remB
  cases left
  · rfl
  · rw [if_pos rfl]; exact blks_stop (h rfl)
theorem remB_step {p : Sp} (h : VR p) {x : Nat} (h1 : p.1 ≤ x) (h2 : x ≤ p.2) (F N : Nat) (hN : N = gB (LN p.1) x p.2) (hF : F = fil x (LN x - N)) :
    VN F ∧ N ≤ LN x ∧ remB true (LN p.1) x p.2 = (x, N) :: remB (!decide (F = topN F)) (LN p.1) (if F = topN F then F else F + 1) p.2 ∧ VN (if F = topN F then F else F + 1) ∧ p.1 ≤ (if F = topN F then F else F + 1) := by
  obtain ⟨hv, hl, hsx⟩ := blk_vn h h1 h2
  have hg := gB_ok (L := LN p.1) h2
  rw [← hN] at hg
  have hle : N ≤ LN x := by rw [hl]; exact hg.le
  have hFv : VN F := by rw [hF]; exact VN_fil hv hle
  have hFx : F = x + (2 ^ (LN p.1 - N) - 1) := by rw [hF, hl]; exact hg.fil
  have hp := two_pos (LN p.1 - N)
  have hst : remB true (LN p.1) x p.2 = (x, N) :: blks (LN p.1) (F + 1) p.2 := by
    show (if true = true then _ else _) = _
    rw [if_pos rfl, blks_step h2, ← hN, show x + 2 ^ (LN p.1 - N) = F + 1 by omega]
  refine ⟨hFv, hle, ?_, ?_, ?_⟩
  · rw [hst]
    by_cases ht : F = topN F
    · rw [if_pos ht, decide_eq_true ht]
      have hy : p.2 ≤ F := by
        have h6 : sixN p.2 = sixN F := by
          rw [← h.s, ← hsx, hF]
          exact (fil_six hv hle).symm
        have := le_top h.b
        rw [six_of_le h.b hFv h6, ← ht] at this
        exact this
      rw [blks_stop (by omega)]
      rfl
    · rw [if_neg ht, decide_eq_false ht]
      rfl
  · by_cases ht : F = topN F
    · rw [if_pos ht]; exact hFv
    · rw [if_neg ht]; exact (next_num hFv ht).1
  · by_cases ht : F = topN F
    · rw [if_pos ht]; omega
    · rw [if_neg ht]; omega
theorem gN_hit {L x y n : Nat} (h : clr x (L - n) = x ∧ fil x (L - n) ≤ y) : gN L x y (n + 1) = gN L x y n := by
  rw [gN, if_pos h]
theorem gN_miss {L x y n : Nat} (h : ¬ (clr x (L - n) = x ∧ fil x (L - n) ≤ y)) : gN L x y (n + 1) = n + 1 := by
  rw [gN, if_neg h]
set_option maxRecDepth 100000 in
set_option maxHeartbeats 4000000 in
theorem prefixes_any (ad : Option Addr) (n c : Nat) (S : List Sp) (w : World) (h : RdK layRg w ad S) (hn : S.length = n) (hs : n ≤ 100000) (hv : ∀ p ∈ S, VR p) :
    Calls Tryz.prog 116 #[.slice ad n c] w fun e w' => ∃ v, e = .returned v ∧ OwnK layPf w' w.heap.size v (pfs S) ∧ Below w.heap.size w w' := by
  have Hv := Lib.hid hv
  have H0 := Lib.hid h
  have Hn := Lib.hid hn
  have HT := Lib.hid (allB_crude hv)
  rw [hn] at HT
  clear h hn hv
  go_enter Tryz.func116, Tryz.ntmps116
  go_wp2_with fail
  go_loopw [3, 5, 6, 7, 8, 11] (fun out s5 s6 s7 s8 i wr => ∃ k : Nat, k ≤ n ∧ i = .int .i64 (k : Int) ∧ Hid (OwnK layPf wr w.heap.size out (pfs (S.take k))) ∧ Hid (Below w.heap.size w wr)) (fun _ _ _ _ _ i _ => n - (intOf i).toNat)
  case atStart => exact ⟨0, Nat.zero_le _, rfl, Lib.hid (OwnK.nil _ _ _), Lib.hid (Below.refl _ _)⟩
  case round =>
    obtain ⟨k, hk, rfl, HO, HB⟩ := hrel
    by_cases hlt : k < n
    · have hS : k < S.length := by rw [Hn.out]; exact hlt
      obtain ⟨p, hp⟩ : ∃ p, S[k]? = some p := ⟨_, List.getElem?_eq_getElem hS⟩
      obtain ⟨a1, a2, a3, a4, a5, a6, hpc, hp1, hp2, h1s, h2s⟩ := rg_cells p
      obtain ⟨g, o, had, hg, c0, c1, c2, c3, c4, c5⟩ := (H0.out.below HB.out).rg hp hpc
      subst had
      have HVp := Lib.hid (Hv.out p (List.mem_of_getElem? hp))
      have HA1 : Hid (allB (S.take (k + 1)) = allB (S.take k) ++ blks (LN p.1) p.1 p.2) := Lib.hid (allB_take hp)
      have HP1 := Lib.hid hp1
      have HP2 := Lib.hid hp2
      have HLn : Hid ((allB (S.take k)).length ≤ 257 * 100000) := Lib.hid (by
        have := allB_crude (S := S.take k) fun q hq => Hv.out q (List.mem_of_mem_take hq)
        have h2 : (S.take k).length ≤ k := List.length_take_le _ _
        omega)
      have HLb : Hid ((blks (LN p.1) p.1 p.2).length ≤ 257) := Lib.hid (blks_len HVp.out)
      clear hp hS hpc hp1 hp2 h1s h2s
      have HBr1 : Hid (Blk ((wr.alloc (.cells #[.bool a1, .int .u64 (a2 : Int), .int .u64 (a3 : Int), .bool a4, .int .u64 (a5 : Int), .int .u64 (a6 : Int)] 143 (0, 0))).alloc (.cells #[.bool a1, .int .u64 (a2 : Int), .int .u64 (a3 : Int)] 33 (0, 0))) wr.heap.size 143 #[.bool a1, .int .u64 (a2 : Int), .int .u64 (a3 : Int), .bool a4, .int .u64 (a5 : Int), .int .u64 (a6 : Int)]) := Lib.hid ((Blk.new wr _ _).alloc _)
      have HBa1 : Hid (Blk ((wr.alloc (.cells #[.bool a1, .int .u64 (a2 : Int), .int .u64 (a3 : Int), .bool a4, .int .u64 (a5 : Int), .int .u64 (a6 : Int)] 143 (0, 0))).alloc (.cells #[.bool a1, .int .u64 (a2 : Int), .int .u64 (a3 : Int)] 33 (0, 0))) (wr.heap.size + 1) 33 #[.bool a1, .int .u64 (a2 : Int), .int .u64 (a3 : Int)]) := Lib.hid (by
        have this := Blk.new (wr.alloc (.cells #[.bool a1, .int .u64 (a2 : Int), .int .u64 (a3 : Int), .bool a4, .int .u64 (a5 : Int), .int .u64 (a6 : Int)] 143 (0, 0))) 33 #[.bool a1, .int .u64 (a2 : Int), .int .u64 (a3 : Int)]
        rw [World.size_alloc] at this
        exact this)
      have HB1 : Hid (Below w.heap.size w ((wr.alloc (.cells #[.bool a1, .int .u64 (a2 : Int), .int .u64 (a3 : Int), .bool a4, .int .u64 (a5 : Int), .int .u64 (a6 : Int)] 143 (0, 0))).alloc (.cells #[.bool a1, .int .u64 (a2 : Int), .int .u64 (a3 : Int)] 33 (0, 0)))) := Lib.hid (Below.alloc (Below.alloc HB.out HB.out.size _) (by have := HB.out.size; simp; omega) _)
      have HO1 : Hid (OwnK layPf ((wr.alloc (.cells #[.bool a1, .int .u64 (a2 : Int), .int .u64 (a3 : Int), .bool a4, .int .u64 (a5 : Int), .int .u64 (a6 : Int)] 143 (0, 0))).alloc (.cells #[.bool a1, .int .u64 (a2 : Int), .int .u64 (a3 : Int)] 33 (0, 0))) w.heap.size u3 ((allB (S.take k) ++ []).map pfOf)) := Lib.hid (by rw [List.append_nil]; exact (HO.out.alloc _).alloc _)
      have hba : w.heap.size ≤ wr.heap.size := HB.out.size
      go_upto_block 2 with fail
      generalize ((wr.alloc (.cells #[.bool a1, .int .u64 (a2 : Int), .int .u64 (a3 : Int), .bool a4, .int .u64 (a5 : Int), .int .u64 (a6 : Int)] 143 (0, 0))).alloc (.cells #[.bool a1, .int .u64 (a2 : Int), .int .u64 (a3 : Int)] 33 (0, 0))) = w3 at *
      generalize wr.heap.size = br at *
      clear HB HO c0 c1 c2 c3 c4 c5 hg
      go_wp2_with fail
      go_loopw [3, 7, 8] (fun out lf nn wx => ∃ (x : Nat) (left : Bool) (D : List (Nat × Nat)), lf = .bool left ∧ Hid (VN x) ∧ Hid (p.1 ≤ x) ∧ Hid (OwnK layPf wx w.heap.size out ((allB (S.take k) ++ D).map pfOf)) ∧ Hid (D ++ remB left (LN p.1) x p.2 = blks (LN p.1) p.1 p.2) ∧ Hid (Blk wx br 143 #[.bool a1, .int .u64 (a2 : Int), .int .u64 (a3 : Int), .bool a4, .int .u64 (a5 : Int), .int .u64 (a6 : Int)]) ∧ Hid (Blk wx (br + 1) 33 (aN x)) ∧ Hid (Below w.heap.size w wx)) (fun out _ _ _ => (allB (S.take k)).length + 257 - vlen out)
      case atStart => exact ⟨p.1, true, [], rfl, Lib.hid HVp.out.a, Lib.hid (Nat.le_refl _), HO1, Lib.hid rfl, HBr1, Lib.hid (by rw [HP1.out]; exact HBa1.out), HB1⟩
      case round =>
        clear HO1 HBr1 HBa1 HB1
        obtain ⟨x, left, D, rfl, HVx, Hx1, HO, HD, HBr, HBa, HB⟩ := hrel
        have HC := Lib.hid fun wx => spanCompareN wx HVx.out HVp.out.b
        have HCl := Lib.hid (cN_le x p.2)
        have HLe := Lib.hid fun wx => lengthN x wx
        have HE : Hid (aN x = #[.bool (sixN x), .int .u64 ((hiN x : Nat) : Int), .int .u64 ((loN x : Nat) : Int)]) := Lib.hid rfl
        generalize sixN x = x1 at *
        generalize hiN x = x2 at *
        generalize loN x = x3 at *
        rw [HE.out] at HC HLe HBa
        rw [HP2.out] at HC
        have hFin : ∀ out wx, OwnK layPf wx w.heap.size out ((allB (S.take k) ++ D).map pfOf) → remB left (LN p.1) x p.2 = [] → OwnK layPf wx w.heap.size out (pfs (S.take (k + 1))) := fun out wx h1 h2 => by
          have e := HD.out
          rw [h2, List.append_nil] at e
          unfold pfs
          rw [HA1.out, ← e]
          exact h1
        have HFin := Lib.hid hFin
        clear hFin
        have p0 := HBa.out.cell 0
        have p1 := HBa.out.cell 1
        have p2 := HBa.out.cell 2
        simp at p0 p1 p2
        have r3 := HBr.out.cell 3
        have r4 := HBr.out.cell 4
        have r5 := HBr.out.cell 5
        simp at r3 r4 r5
        cases left
        · have HO2 := Lib.hid (HFin.out _ _ HO.out rfl)
          clear HFin HC HCl HLe HE
          go_wp2_with fail
          exact ⟨⟨k + 1, by omega, by go_num, HO2, HB⟩, by simp [intOf]; omega⟩
        · generalize cN x p.2 = C at *
          go_wp2_with fail
          refine (HC.out _).mono ?_
          rintro e w4 ⟨rfl, hb⟩
          have HBr4 := Lib.hid (HBr.out.below hb.b HBr.out.lt)
          have HBa4 := Lib.hid (HBa.out.below hb.b HBa.out.lt)
          have HO4 := Lib.hid (HO.out.later hb.b)
          have HB4 := Lib.hid (HB.out.trans (hb.b.mono HB.out.size))
          clear hb HC HBr HBa HO HB p0 p1 p2 r3 r4 r5
          by_cases hle : x ≤ p.2
          · have hC0 : C ≤ 0 := HCl.out.2 hle
            have HLen := Lib.hid (blk_vn HVp.out Hx1.out hle).2.1
            have HM := Lib.hid fun m wx (hm : m ≤ LN x) => maskedN (n := m) wx HVx.out hm
            have HF := Lib.hid fun m wx (hm : m ≤ LN x) => filledN (n := m) wx HVx.out hm
            have HEq := Lib.hid fun m (hm : m ≤ LN x) wx => aN_eql (VN_clr HVx.out hm) HVx.out wx
            have HCF := Lib.hid fun m wx (hm : m ≤ LN x) => spanCompareN wx (VN_fil HVx.out hm) HVp.out.b
            rw [HE.out] at HM HF HEq
            rw [HP2.out] at HCF
            have q0 := HBa4.out.cell 0
            have q1 := HBa4.out.cell 1
            have q2 := HBa4.out.cell 2
            simp at q0 q1 q2
            go_upto_region 7 with fail
            go_wp2_with fail
            refine (HLe.out _).mono ?_
            rintro e w5 ⟨rfl, hb⟩
            have HBr5 := Lib.hid (HBr4.out.below hb HBr4.out.lt)
            have HBa5 := Lib.hid (HBa4.out.below hb HBa4.out.lt)
            have HO5 := Lib.hid (HO4.out.later hb)
            have HB5 := Lib.hid (HB4.out.trans (hb.mono HB4.out.size))
            clear hb HBr4 HBa4 HO4 HB4 q0 q1 q2 HLe
            go_upto_block 4 with fail
            go_cut [8] (fun nn wx => nn = .int .i64 ((gB (LN x) x p.2 : Nat) : Int) ∧ Below w5.heap.size w5 wx)
            case first =>
              as_aux_lemma =>
                clear HFin HO5 HB5 HD HLb HLn HT
                go_wp2_with fail
                go_loopw [8] (fun nn wx => ∃ m : Nat, m ≤ LN x ∧ nn = .int .i64 (m : Int) ∧ Hid (gN (LN x) x p.2 m = gB (LN x) x p.2) ∧ Hid (Below w5.heap.size w5 wx)) (fun nn _ => (intOf nn).toNat)
                case atStart => exact ⟨LN x, Nat.le_refl _, rfl, Lib.hid rfl, Lib.hid (Below.refl _ _)⟩
                case round =>
                  obtain ⟨m, hm, rfl, HG, HBx⟩ := hrel
                  have HBr6 := Lib.hid (HBr5.out.below HBx.out HBr5.out.lt)
                  have HBa6 := Lib.hid (HBa5.out.below HBx.out HBa5.out.lt)
                  have q0 := HBa6.out.cell 0
                  have q1 := HBa6.out.cell 1
                  have q2 := HBa6.out.cell 2
                  simp at q0 q1 q2
                  have r3 := HBr6.out.cell 3
                  have r4 := HBr6.out.cell 4
                  have r5 := HBr6.out.cell 5
                  simp at r3 r4 r5
                  have l0 := Later.cell_of q0
                  have l1 := Later.cell_of q1
                  have l2 := Later.cell_of q2
                  have l3 := Later.cell_of r3
                  have l4 := Later.cell_of r4
                  have l5 := Later.cell_of r5
                  by_cases hm0 : m = 0
                  · subst hm0
                    have HG2 : Hid (0 = gB (LN x) x p.2) := Lib.hid HG.out
                    have z0 : ((0 : Nat) : Int) = 0 := rfl
                    rw [z0]
                    go_wp2_with fail
                    refine wp_region_later (by kernel_rfl) (by kernel_rfl) ?_
                    repeat (go_big_quiet_step (fail))
                    refine wpQuiet_nil ?_
                    rintro w6 ⟨n6, hn6⟩
                    have hb : Below wr.heap.size wr w6 := by rw [hn6]; exact n6.2
                    clear hn6 n6
                    have HBy := Lib.hid (HBx.out.trans (hb.mono HBx.out.size))
                    clear hb
                    go_wp2_with fail
                    go_meet
                    case rel => exact ⟨by rw [← HG2.out]; rfl, HBy.out⟩
                  · obtain ⟨j, hj⟩ : ∃ j, m = j + 1 := ⟨m - 1, by omega⟩
                    have hjL : j ≤ LN x := by omega
                    have e1 : (m : Int) - 1 = (j : Int) := by omega
                    have g1 : decide (0 < m) = true := decide_eq_true (by omega)
                    have g2 : (m : Int) ≤ 128 := by
                      have : LN x ≤ 128 := by rw [LN_six]; exact lenN_le _
                      omega
                    have HGm : Hid (gN (LN x) x p.2 (j + 1) = gB (LN x) x p.2) := Lib.hid (by rw [← hj]; exact HG.out)
                    have HJm := Lib.hid hj
                    have hM := fun X : Later wr => Calls.later X (HM.out j X.1 hjL)
                    have hEq := HEq.out j hjL
                    have hF := fun X : Later wr => Calls.later X (HF.out j X.1 hjL)
                    have hCF := fun X : Later wr => Calls.later X ((HCF.out j X.1 hjL).mono fun _ _ h => h.ret)
                    have HCl2 := Lib.hid (cN_le (fil x (LN x - j)) p.2)
                    clear hj HG hm0 hm
                    by_cases hc1 : clr x (LN x - j) = x
                    · have Hc1 := Lib.hid hc1
                      rw [decide_eq_true hc1] at hEq
                      clear hc1
                      generalize aN (clr x (LN x - j)) = CV at *
                      by_cases hc2 : fil x (LN x - j) ≤ p.2
                      · have hC2 : cN (fil x (LN x - j)) p.2 ≤ 0 := HCl2.out.2 hc2
                        have HG2 : Hid (gN (LN x) x p.2 j = gB (LN x) x p.2) := Lib.hid (by rw [← HGm.out, gN_hit ⟨Hc1.out, hc2⟩])
                        clear hc2 HCl2 HGm Hc1
                        generalize cN (fil x (LN x - j)) p.2 = C2 at *
                        generalize aN (fil x (LN x - j)) = FW at *
                        go_wp2_with fail
                        refine wp_region_later (by kernel_rfl) (by kernel_rfl) ?_
                        repeat (go_big_quiet_step (first | (go_at_call 104; exact hM _) | (go_at_call 126; exact hF _) | (go_at_call 121; exact hCF _)))
                        refine wpQuiet_nil ?_
                        rintro w6 ⟨n6, hn6⟩
                        have hb : Below wr.heap.size wr w6 := by rw [hn6]; exact n6.2
                        clear hn6 n6
                        have HBy := Lib.hid (HBx.out.trans (hb.mono HBx.out.size))
                        clear hb
                        clear hM hEq hF hCF l0 l1 l2 l3 l4 l5 q0 q1 q2 r3 r4 r5
                        go_wp2_with fail
                        exact ⟨⟨j, hjL, rfl, HG2, HBy⟩, by simp [intOf]; omega⟩
                      · have hC2 : ¬ cN (fil x (LN x - j)) p.2 ≤ 0 := fun h => hc2 (HCl2.out.1 h)
                        have HG2 : Hid (m = gB (LN x) x p.2) := Lib.hid (by rw [← HGm.out, gN_miss (fun h => hc2 h.2), HJm.out])
                        clear hc2 HCl2 HGm Hc1
                        generalize cN (fil x (LN x - j)) p.2 = C2 at *
                        generalize aN (fil x (LN x - j)) = FW at *
                        go_wp2_with fail
                        refine wp_region_later (by kernel_rfl) (by kernel_rfl) ?_
                        repeat (go_big_quiet_step (first | (go_at_call 104; exact hM _) | (go_at_call 126; exact hF _) | (go_at_call 121; exact hCF _)))
                        refine wpQuiet_nil ?_
                        rintro w6 ⟨n6, hn6⟩
                        have hb : Below wr.heap.size wr w6 := by rw [hn6]; exact n6.2
                        clear hn6 n6
                        have HBy := Lib.hid (HBx.out.trans (hb.mono HBx.out.size))
                        clear hb
                        clear hM hEq hF hCF l0 l1 l2 l3 l4 l5 q0 q1 q2 r3 r4 r5
                        go_wp2_with fail
                        go_meet
                        case rel => exact ⟨by rw [← HG2.out], HBy.out⟩
                    · have HG2 : Hid (m = gB (LN x) x p.2) := Lib.hid (by rw [← HGm.out, gN_miss (fun h => hc1 h.1), HJm.out])
                      rw [decide_eq_false hc1] at hEq
                      clear hc1 HGm HCl2
                      generalize aN (clr x (LN x - j)) = CV at *
                      go_wp2_with fail
                      refine wp_region_later (by kernel_rfl) (by kernel_rfl) ?_
                      repeat (go_big_quiet_step (first | (go_at_call 104; exact hM _) | (go_at_call 126; exact hF _) | (go_at_call 121; exact hCF _)))
                      refine wpQuiet_nil ?_
                      rintro w6 ⟨n6, hn6⟩
                      have hb : Below wr.heap.size wr w6 := by rw [hn6]; exact n6.2
                      clear hn6 n6
                      have HBy := Lib.hid (HBx.out.trans (hb.mono HBx.out.size))
                      clear hb
                      clear hM hEq hF hCF l0 l1 l2 l3 l4 l5 q0 q1 q2 r3 r4 r5
                      go_wp2_with fail
                      go_meet
                      case rel => exact ⟨by rw [← HG2.out], HBy.out⟩
            case rest =>
              as_aux_lemma =>
                obtain ⟨rfl, hb⟩ := hcut
                have HBr6 := Lib.hid (HBr5.out.below hb HBr5.out.lt)
                have HBa6 := Lib.hid (HBa5.out.below hb HBa5.out.lt)
                have HO6 := Lib.hid (HO5.out.later hb)
                have HB6 := Lib.hid (HB5.out.trans (hb.mono HB5.out.size))
                clear hb HBr5 HBa5 HO5 HB5 HM HEq HCF HFin HCl hC0
                obtain ⟨N, hN⟩ : ∃ N, gB (LN x) x p.2 = N := ⟨_, rfl⟩
                have hst := remB_step HVp.out Hx1.out hle (fil x (LN x - N)) N (by rw [← hN, HLen.out]) rfl
                rw [hN]
                clear hN
                obtain ⟨hFv, hNl, hRm, hV', hx'⟩ := hst
                have HFi := Lib.hid fun wx => HF.out N wx hNl
                have HNx := Lib.hid fun wx => nextN wx hFv
                obtain ⟨x', hxe⟩ : ∃ x', (if fil x (LN x - N) = topN (fil x (LN x - N)) then fil x (LN x - N) else fil x (LN x - N) + 1) = x' := ⟨_, rfl⟩
                rw [hxe] at HNx hRm hV' hx'
                obtain ⟨left', hle'⟩ : ∃ left', (!decide (fil x (LN x - N) = topN (fil x (LN x - N)))) = left' := ⟨_, rfl⟩
                rw [hle'] at HNx hRm
                have HRm := Lib.hid hRm
                have HV' := Lib.hid hV'
                have Hx' := Lib.hid hx'
                have HE' : Hid (aN x' = #[.bool (sixN x'), .int .u64 ((hiN x' : Nat) : Int), .int .u64 ((loN x' : Nat) : Int)]) := Lib.hid rfl
                generalize aN (fil x (LN x - N)) = FA at *
                have hNb : N ≤ 128 := Nat.le_trans hNl (by rw [LN_six]; exact lenN_le _)
                clear hFv hNl hRm hV' hx' hxe hle' HF hle
                generalize sixN x' = v1 at *
                generalize hiN x' = v2 at *
                generalize loN x' = v3 at *
                rw [HE'.out] at HNx
                have HDl : Hid (D.length + 1 ≤ 257) := Lib.hid (by
                  have e := congrArg List.length HD.out
                  rw [HRm.out, List.length_append, List.length_cons] at e
                  have := HLb.out
                  omega)
                obtain ⟨LL, hLL⟩ : ∃ LL, (allB (S.take k) ++ D).map pfOf = LL := ⟨_, rfl⟩
                have hLn : LL.length = (allB (S.take k)).length + D.length := by rw [← hLL, List.length_map, List.length_append]
                rw [hLL] at HO6
                have HLL := Lib.hid hLL
                have HLn2 := Lib.hid hLn
                have HOl := Lib.hid HO6.out.vlen
                clear hLL hLn
                have q0 := HBa6.out.cell 0
                have q1 := HBa6.out.cell 1
                have q2 := HBa6.out.cell 2
                simp at q0 q1 q2
                go_wp2_with (at_builtin; refine wpList_app pfE rfl (.tmp 49) (.tmp 53) rfl rfl (World.ownsRow.alloc HO6.out _) rfl (src_new layPf _ (pfOf (x, N)) _ _ ?c0) ?c1 ?c2 ?c3 ?c4 ?_)
                case c0 =>
                  show _ = ((aN x).toList ++ [Value.int .i64 (N : Int)]).toArray
                  rw [HE.out]
                  rfl
                case c1 => exact layPf.one _
                case c2 => unfold maxLen; have := HLn.out; have := HDl.out; rw [HLn2.out]; omega
                case c3 => have := HLn.out; have := HDl.out; rw [HLn2.out]; omega
                case c4 => have := HB6.out.size; simp; omega
                intro v' w7 hO hG
                have HO7 : Hid (OwnK layPf w7 w.heap.size v' ((allB (S.take k) ++ (D ++ [(x, N)])).map pfOf)) := Lib.hid (by
                  have := OwnK.snoc hO
                  rw [show (allB (S.take k) ++ (D ++ [(x, N)])).map pfOf = (allB (S.take k) ++ D).map pfOf ++ [pfOf (x, N)] by simp, HLL.out]
                  exact this)
                have HBr7 := Lib.hid ((HBr6.out.alloc (.cells #[.bool x1, .int .u64 (x2 : Int), .int .u64 (x3 : Int), .int .i64 (N : Int)] 90 (0, 0))).grew (World.ownsRow.alloc HO6.out _) (by decide) hG)
                have HBa7 := Lib.hid ((HBa6.out.alloc (.cells #[.bool x1, .int .u64 (x2 : Int), .int .u64 (x3 : Int), .int .i64 (N : Int)] 90 (0, 0))).grew (World.ownsRow.alloc HO6.out _) (by decide) hG)
                have HB7 : Hid (Below w.heap.size w w7) := Lib.hid ((Below.alloc HB6.out HB6.out.size _).trans (hG.below (by have := HB6.out.size; simp; omega) (own_base HO6.out)))
                clear hO hG HO6 HBr6 HBa6 HB6 q0 q1 q2
                have q0 := HBa7.out.cell 0
                have q1 := HBa7.out.cell 1
                have q2 := HBa7.out.cell 2
                simp at q0 q1 q2
                go_wp2_with fail
                refine (HFi.out _).mono ?_
                rintro e w8 ⟨rfl, hb⟩
                have HBr8 := Lib.hid (HBr7.out.below hb HBr7.out.lt)
                have HBa8 := Lib.hid (HBa7.out.below hb HBa7.out.lt)
                have HO8 := Lib.hid (HO7.out.later hb)
                have HB8 := Lib.hid (HB7.out.trans (hb.mono HB7.out.size))
                clear hb HO7 HBr7 HBa7 HB7 q0 q1 q2 HFi
                go_wp2_with fail
                refine (HNx.out _).mono ?_
                rintro e w9 ⟨rfl, hb⟩
                have HBr9 := Lib.hid (HBr8.out.below hb HBr8.out.lt)
                have HBa9 := Lib.hid (HBa8.out.below hb HBa8.out.lt)
                have HO9 := Lib.hid (HO8.out.later hb)
                have HB9 := Lib.hid (HB8.out.trans (hb.mono HB8.out.size))
                clear hb HO8 HBr8 HBa8 HB8 HNx
                have q0 := HBa9.out.cell 0
                have q1 := HBa9.out.cell 1
                have q2 := HBa9.out.cell 2
                simp at q0 q1 q2
                have qf := HBa9.out.free
                have HS := Lib.hid (And.intro (((HBr9.out.far (show br ≠ br + 1 by omega) 0 (.bool v1)).far (show br ≠ br + 1 by omega) 1 (.int .u64 (v2 : Int))).far (show br ≠ br + 1 by omega) 2 (.int .u64 (v3 : Int))) (And.intro (((HBa9.out.set 0 (.bool v1)).set 1 (.int .u64 (v2 : Int))).set 2 (.int .u64 (v3 : Int))) (And.intro (((HO9.out.far HBa9.out (by decide) 0 (.bool v1)).far (HBa9.out.set 0 (.bool v1)) (by decide) 1 (.int .u64 (v2 : Int))).far ((HBa9.out.set 0 (.bool v1)).set 1 (.int .u64 (v2 : Int))) (by decide) 2 (.int .u64 (v3 : Int))) (((HB9.out.setCell (p := ⟨br + 1, 0, none⟩) (by simp only; omega) (.bool v1)).setCell (p := ⟨br + 1, 1, none⟩) (by simp only; omega) (.int .u64 (v2 : Int))).setCell (p := ⟨br + 1, 2, none⟩) (by simp only; omega) (.int .u64 (v3 : Int))))))
                have HD' : Hid ((D ++ [(x, N)]) ++ remB left' (LN p.1) x' p.2 = blks (LN p.1) p.1 p.2) := Lib.hid (by
                  rw [List.append_assoc, ← HD.out, HRm.out]
                  rfl)
                have HVl := Lib.hid HO9.out.vlen
                clear HBr9 HBa9 HO9 HB9 HD HRm
                go_wp2_with fail
                refine ⟨⟨x', left', D ++ [(x, N)], rfl, HV', Hx', Lib.hid HS.out.2.2.1, HD', Lib.hid HS.out.1, Lib.hid (by rw [HE'.out]; exact HS.out.2.1), Lib.hid HS.out.2.2.2⟩, ?_⟩
                have m1 := HVl.out
                rw [List.length_map, List.length_append, List.length_append, List.length_singleton] at m1
                have m2 := HOl.out
                rw [HLn2.out] at m2
                have m3 := HDl.out
                simp
                omega
          · have hC0 : ¬ C ≤ 0 := fun h => hle (HCl.out.1 h)
            have HO5 := Lib.hid (HFin.out _ _ HO4.out (remB_stop fun _ => by omega))
            clear HFin HCl HLe HE
            go_wp2_with fail
            exact ⟨⟨k + 1, by omega, by go_num, HO5, HB4⟩, by simp [intOf]; omega⟩
    · obtain rfl : k = n := by omega
      have hT : S.take k = S := List.take_of_length_le (by rw [Hn.out]; exact Nat.le_refl _)
      have HO2 : Hid (OwnK layPf wr w.heap.size u3 (pfs S)) := Lib.hid (by have := HO.out; rw [hT] at this; exact this)
      clear hT HO
      go_wp2_with fail
      go_ret
      exact ⟨_, rfl, HO2.out, HB.out⟩
end Go.Proofs.YtaeieigdibanlaaGreatDoor
