/-
  The reference's spansOf: the spans of prefixes, joined.
  The reference's LeastOf and SpanOf.
  The reference's SetFault.
  Sets as spans of numbers: the spans of their prefixes, gaps, what two have in common, and how many prefixes these need.
  Plain law: bytes of lines; what a reader of sets answers.
  The tables of numerals, out of what a row lists: the listed tables lie as the program's text lays them.
  The variables that functions of strings and numbers read, out of what a row lists and of the world's shape.
-/
import Derived.Test.YtcpafmndjcejjaaGreatDoorSE37
import Derived.Test.YtcpafmndjcejjaaGreatDoorSE10
import Derived.Test.YtcpafmndjcejjaaGreatDoorSE41
import Derived.Test.YtcpafmndjcejjaaGreatDoorSE4
import Derived.Test.YtcpafmndjcejjaaGreatDoorSE17
import Derived.Stop.LaidErr
set_option linter.unusedVariables false
namespace Go.Proofs.YtcpafmndjcejjaaGreatDoor
open Go.RowKit Go
set_option linter.unusedVariables false

/-- what the region of 'append(all, span{of(..), lastOf(..)})' has yielded -/
def spQ (bx : Nat) (out : Value) (pa P1 pf P2 : Array Value) : Nat → Value → World → Prop
  | 0, v, _ => v = out
  | 1, v, _ => v = .pointer (some ⟨bx, 0, none⟩)
  | 2, v, _ => v = .agg pa
  | 3, v, _ => v = .agg P1
  | 4, v, _ => v = .agg pf
  | 5, v, _ => v = .agg P2
  | 6, v, _ => v = .agg (P1 ++ P2)
  | _, v, w => ∃ B, v = .slice (some ⟨B, 0, none⟩) 1 1 ∧ Blk w B 138 (P1 ++ P2)
theorem spQ_keep {bx : Nat} {out : Value} {pa P1 pf P2 : Array Value} (p : Nat) (v : Value) (u w : World) (h : spQ bx out pa P1 pf P2 p v u) (hb : Below u.heap.size u w) : spQ bx out pa P1 pf P2 p v w := by
  rcases p with _ | _ | _ | _ | _ | _ | _ | p
  all_goals first | exact h | (obtain ⟨B, h1, h2⟩ := h; exact ⟨B, h1, h2.below hb h2.lt⟩)
set_option maxRecDepth 100000 in
set_option maxHeartbeats 2000000 in
theorem spansOf_any (ad : Option Addr) (n c : Nat) (L : List Pf) (w : World) (h : RdK layPf w ad L) (hn : L.length = n) (hs : n ≤ 100000) (hv : ∀ p ∈ L, OkPf p) :
    Calls Tryz.prog 84 #[.slice ad n c] w fun e w' => ∃ v, e = .returned v ∧ OwnK layQs w' w.heap.size v (jn (L.map spP)) ∧ Below w.heap.size w w' := by
  have Hv := Lib.hid hv
  have H0 := Lib.hid h
  have Hn := Lib.hid hn
  clear h hn hv
  go_enter Tryz.func84, Tryz.ntmps84
  go_wp2_with fail
  go_loopw [3, 5, 8] (fun out bx i wr => ∃ k : Nat, k ≤ n ∧ i = .int .i64 (k : Int) ∧ Hid (OwnK layQs wr w.heap.size out ((L.take k).map spP)) ∧ Hid (Below w.heap.size w wr)) (fun _ _ i _ => n - (intOf i).toNat)
  case atStart => exact ⟨0, Nat.zero_le _, rfl, Lib.hid (OwnK.nil _ _ _), Lib.hid (Below.refl _ _)⟩
  case round =>
    obtain ⟨k, hk, rfl, HO, HB⟩ := hrel
    by_cases hlt : k < n
    · have hS : k < L.length := by rw [Hn.out]; exact hlt
      obtain ⟨p, hp⟩ : ∃ p, L[k]? = some p := ⟨_, List.getElem?_eq_getElem hS⟩
      have hok := Hv.out p (List.mem_of_getElem? hp)
      obtain ⟨a1, a2, a3, a4, hpc, hpn, hpa⟩ := pf_cells hok
      obtain ⟨g, o, had, hg, c0, c1, c2, c3⟩ := (H0.out.below HB.out).pf hp hpc
      subst had
      have HT1 : Hid ((L.take (k + 1)).map spP = (L.take k).map spP ++ [spP p]) := Lib.hid (by
        have : L[k] = p := by rw [List.getElem?_eq_getElem hS] at hp; injection hp
        rw [List.take_succ_eq_append_getElem hS, List.map_append, this]; rfl)
      have HL := Lib.hid fun wx => lastOfN (n := p.2.2.2.toNat) wx hok.num.1 hok.bits
      rw [hpn] at HL
      have HF := Lib.hid fun wx => ofN wx hok.num.1
      rw [hpa] at HF
      have HE : Hid (layQs.enc (spP p) = (wN (nuP p) ++ wN (fil (nuP p) (LN (nuP p) - p.2.2.2.toNat))).toList) := Lib.hid rfl
      have HBd := Lib.hid fun wx => build_qs (nuP p) (fil (nuP p) (LN (nuP p) - p.2.2.2.toNat)) wx
      have HRw := Lib.hid fun wx => row_qs (nuP p) (fil (nuP p) (LN (nuP p) - p.2.2.2.toNat)) wx
      generalize spP p = sp at *
      have hlen : ((L.take k).map spP).length = k := by rw [List.length_map, List.length_take]; omega
      have HLn := Lib.hid hlen
      generalize wN (nuP p) = P1 at *
      generalize wN (fil (nuP p) (LN (nuP p) - p.2.2.2.toNat)) = P2 at *
      clear hp hS hok hpc hpn hpa hlen
      have HB1 : Hid (Below w.heap.size w (wr.alloc (.cells #[.bool a1, .int .u64 (a2 : Int), .int .u64 (a3 : Int), .int .i64 (a4 : Int)] 45 (0, 0)))) := Lib.hid (Below.alloc HB.out HB.out.size _)
      have HP1 : Hid (Blk (wr.alloc (.cells #[.bool a1, .int .u64 (a2 : Int), .int .u64 (a3 : Int), .int .i64 (a4 : Int)] 45 (0, 0))) wr.heap.size 45 #[.bool a1, .int .u64 (a2 : Int), .int .u64 (a3 : Int), .int .i64 (a4 : Int)]) := Lib.hid (Blk.new wr _ _)
      have HO1 : Hid (OwnK layQs (wr.alloc (.cells #[.bool a1, .int .u64 (a2 : Int), .int .u64 (a3 : Int), .int .i64 (a4 : Int)] 45 (0, 0))) w.heap.size u3 ((L.take k).map spP)) := Lib.hid (HO.out.alloc _)
      go_upto_region 5 with fail
      generalize wr.alloc (.cells #[.bool a1, .int .u64 (a2 : Int), .int .u64 (a3 : Int), .int .i64 (a4 : Int)] 45 (0, 0)) = w3 at *
      generalize wr.heap.size = bx at *
      clear HB HO c0 c1 c2 c3 hg
      have d0 := HP1.out.cell 0
      have d1 := HP1.out.cell 1
      have d2 := HP1.out.cell 2
      have d3 := HP1.out.cell 3
      simp at d0 d1 d2 d3
      have l0 := Later.cell_of d0
      have l1 := Later.cell_of d1
      have l2 := Later.cell_of d2
      have l3 := Later.cell_of d3
      have HO6 := HO1
      generalize hLL : (L.take k).map spP = LL at *
      clear hLL
      refine wp_region_inv 8 0 (spQ bx u3 #[.bool a1, .int .u64 (a2 : Int), .int .u64 (a3 : Int)] P1 #[.bool a1, .int .u64 (a2 : Int), .int .u64 (a3 : Int), .int .i64 (a4 : Int)] P2) (fun _ w' => Below w3.heap.size w3 w') (fun u v => Below u.heap.size u v) (fun _ => 0)
        (by kernel_rfl) (by kernel_rfl) (by decide) spQ_keep (below_drew (Below.refl _ _)) ?hX
      case' hX => (apply Exists.intro; refine ⟨fun T => ?hA, ?hob, ?hend⟩)
      case hA =>
        simp only [setAll, List.take_succ_cons, List.take_zero, Act.put, List.setIfInBounds_toArray, List.set_cons_succ, List.set_cons_zero, Nat.reduceAdd]
        exact rfl
      case hob =>
        clear HO1 HB1 HP1 HO6 d0 d1 d2 d3 HT1 HE HLn
        go_light
        refine ⟨?_, ?_, ?_, ?_, ?_, ?_, ?_, ?_, trivial⟩
        all_goals (intro T wx n0 hC hn hp; dsimp only at hn ⊢; unfold Op1)
        · go_simp
          exact ⟨rfl, Below.refl _ _⟩
        · go_simp
          exact ⟨rfl, Below.refl _ _⟩
        · obtain ⟨h0, -⟩ := hp
          have h0 : T 1 = .pointer (some ⟨bx, 0, none⟩) := h0
          have e0 := l0 ⟨wx, hC⟩
          have e1 := l1 ⟨wx, hC⟩
          have e2 := l2 ⟨wx, hC⟩
          simp only at e0 e1 e2
          go_simp
          exact ⟨rfl, Below.refl _ _⟩
        · obtain ⟨h0, -⟩ := hp
          have h0 : T 2 = .agg #[.bool a1, .int .u64 (a2 : Int), .int .u64 (a3 : Int)] := h0
          go_simp
          refine (HF.out wx).mono ?_
          rintro e w5 ⟨rfl, hb⟩
          exact ⟨_, rfl, rfl, hC.trans (hb.mono hC.size), hb⟩
        · have e0 := l0 ⟨wx, hC⟩
          have e1 := l1 ⟨wx, hC⟩
          have e2 := l2 ⟨wx, hC⟩
          have e3 := l3 ⟨wx, hC⟩
          simp only at e0 e1 e2 e3
          go_simp
          exact ⟨rfl, Below.refl _ _⟩
        · obtain ⟨h0, -⟩ := hp
          have h0 : T 4 = .agg #[.bool a1, .int .u64 (a2 : Int), .int .u64 (a3 : Int), .int .i64 (a4 : Int)] := h0
          go_simp
          refine (HL.out wx).mono ?_
          rintro e w5 ⟨rfl, hb⟩
          exact ⟨_, rfl, rfl, hC.trans (hb.mono hC.size), hb⟩
        · obtain ⟨h0, h1, -⟩ := hp
          have h0 : T 3 = .agg P1 := h0
          have h1 : T 5 = .agg P2 := h1
          rw [exec_build _ _ rfl #[(0, .agg P1), (1, .agg P2)] (by rw [← h0, ← h1]; simp [Act.eval]) (HBd.out wx)]
          exact ⟨rfl, hC, Below.refl _ _⟩
        · obtain ⟨h0, -⟩ := hp
          have h0 : T 6 = .agg (P1 ++ P2) := h0
          rw [exec_row _ _ _ rfl #[(0, .agg (P1 ++ P2))] (by rw [← h0]; simp [Act.eval]) (HRw.out wx)]
          exact ⟨⟨wx.heap.size, rfl, Blk.new wx _ _⟩, below_alloc hC _, below_alloc (Below.refl _ _) _⟩
      case hend =>
        intro T w4 ⟨n0, hn0, hb⟩ hR
        have hT0 : T 0 = u3 := hR 0 (by omega)
        obtain ⟨B, hT6, hBl⟩ := hR 7 (by omega)
        have HO4 := Lib.hid (HO1.out.later hb)
        have HB4 := Lib.hid (HB1.out.trans (hb.mono HB1.out.size))
        have HBl := Lib.hid hBl
        clear hR hb hBl HO1 HB1 HP1 HO6 d0 d1 d2 d3 l0 l1 l2 l3
        simp only [List.drop_succ_cons, List.drop_zero]
        refine wpList_app (c := 1) qsE rfl (.tmp 12) (.tmp 19) rfl ?hs HO4.out ?hx (src_blk layQs sp HBl.out ?c0) ?c1 ?c2 ?c3 ?c4 ?_
        case hs => exact hT0
        case hx => exact hT6
        case c0 => exact (by rw [HE.out])
        case c1 => exact layQs.one sp
        case c2 => unfold maxLen; rw [HLn.out]; omega
        case c3 => rw [HLn.out]; omega
        case c4 => exact HB4.out.size
        intro v' w' hO hG
        have HO' : Hid (OwnK layQs w' w.heap.size v' ((L.take (k + 1)).map spP)) := Lib.hid (by rw [HT1.out]; exact OwnK.snoc hO)
        have HB' : Hid (Below w.heap.size w w') := Lib.hid (HB4.out.trans (hG.below HB4.out.size (own_base HO4.out)))
        clear hO hG
        go_wp2
        exact ⟨⟨k + 1, by omega, by go_num, HO', HB'⟩, by simp [intOf]; omega⟩
    · obtain rfl : k = n := by omega
      have hT : L.take k = L := List.take_of_length_le (by rw [Hn.out]; exact Nat.le_refl _)
      have HO2 : Hid (OwnK layQs wr w.heap.size u3 (L.map spP)) := Lib.hid (by have := HO.out; rw [hT] at this; exact this)
      obtain ⟨ad2, c2, hv2, _, _, _⟩ := HO2.out.form
      rw [List.length_map, Hn.out] at hv2
      subst hv2
      have HJ := Lib.hid (qjoined_any ad2 k c2 (L.map spP) wr HO2.out.rd (by rw [List.length_map, Hn.out]) (by omega) (fun p hp => by
        obtain ⟨q, hq, rfl⟩ := List.mem_map.1 hp
        exact (Hv.out q hq).vr))
      clear hT HO HO2
      go_wp2_with fail
      refine HJ.out.mono ?_
      rintro e w2 ⟨v, rfl, hO, hb⟩
      go_wp2_with fail
      go_ret
      exact ⟨_, rfl, hO.weak HB.out.size, HB.out.trans (hb.mono HB.out.size)⟩
end Go.Proofs.YtcpafmndjcejjaaGreatDoor

namespace Go.Proofs.YtcpafmndjcejjaaGreatDoor
open Go.RowKit Go
set_option linter.unusedVariables false

set_option maxRecDepth 100000 in
set_option maxHeartbeats 1000000 in
theorem leastOf_any (ad : Option Addr) (n c : Nat) (L : List Pf) (w : World) (h : RdK layPf w ad L) (hn : L.length = n) (hs : n ≤ 100000) (hv : ∀ p ∈ L, OkPf p) :
    Calls Tryz.prog 41 #[.slice ad n c] w fun e w' => ∃ v, e = .returned v ∧ OwnK layPf w' w.heap.size v (lst L) ∧ Below w.heap.size w w' := by
  have HS := Lib.hid (spansOf_any ad n c L w h hn hs hv)
  have HJv := Lib.hid (sps_vr hv)
  have HJl := Lib.hid (jn_len (L.map spP))
  have Hlst : Hid (pfs (jn (L.map spP)) = lst L) := Lib.hid rfl
  have Hn := Lib.hid hn
  clear h hn hv
  generalize jn (L.map spP) = J at *
  go_enter Tryz.func41, Tryz.ntmps41
  go_wp2_with fail
  refine HS.out.mono ?_
  rintro e w3 ⟨v, rfl, hO, hB⟩
  obtain ⟨ad3, c3, rfl, _⟩ := hO.form
  have HT := Lib.hid (qprefixes_any ad3 J.length c3 J w3 hO.rd rfl (by have := HJl.out; rw [List.length_map, Hn.out] at this; omega) HJv.out)
  rw [Hlst.out] at HT
  have HB3 := Lib.hid hB
  clear hO hB HS HJl HJv Hlst
  generalize J.length = jl at *
  go_wp2_with fail
  refine HT.out.mono ?_
  rintro e w4 ⟨v, rfl, hO, hB⟩
  have HO4 := Lib.hid (hO.weak HB3.out.size)
  have HB4 := Lib.hid (HB3.out.trans (hB.mono HB3.out.size))
  clear hO hB
  go_wp2_with fail
  go_ret
  exact ⟨_, rfl, HO4.out, HB4.out⟩
theorem RdK.blk {α : Type} (E : Lay α) {w : World} {B : Nat} {t : TypeId} {cs : Array Value} {x : α} (hb : Blk w B t cs) (h : cs = (E.enc x).toArray) : RdK E w (some ⟨B, 0, none⟩) [x] := by
  subst h
  intro i y hy
  cases i with
  | zero =>
    simp at hy
    subst hy
    refine ⟨B, 0, rfl, hb.lt, fun j v hv => ?_⟩
    rw [show 0 + (0 * E.K + j) = j by omega, hb.cell j]
    simpa using hv
  | succ i => simp at hy
end Go.Proofs.YtcpafmndjcejjaaGreatDoor

namespace Go.Proofs.YtcpafmndjcejjaaGreatDoor
open Go.RowKit Go
set_option linter.unusedVariables false

set_option maxRecDepth 100000 in
set_option maxHeartbeats 4000000 in
theorem setFault_any (ad : Option Addr) (n c : Nat) (L : List Pf) (w : World) (h : RdK layPf w ad L) (hn : L.length = n) (hs : n ≤ 100000) (hu : U4 L) :
    Calls Tryz.prog 13 #[.slice ad n c] w (Ret (.int .i64 (setF L)) w) := by
  by_cases hb : 1000 < n
  · have e : setF L = 2 := by unfold setF; rw [hn, if_pos hb]
    rw [e]
    have hb2 : (n : Int) > 1000 := by omega
    clear h hu hn e
    go_enter Tryz.func13, Tryz.ntmps13
    go_wp2_with fail
    go_ret
    exact ⟨rfl, Below.refl _ _⟩
  · have hb2 : ¬ (n : Int) > 1000 := by omega
    have H0 := Lib.hid h
    have Hn := Lib.hid hn
    have Hu := Lib.hid hu
    have HF : Hid (∀ k, k < n → (∀ j, j < k → fAt L j = 0) → fAt L k ≠ 0 → setF L = fAt L k) := Lib.hid fun k hk h1 h2 => by
      have e := firstN_hit (fAt L) n k hk h1 h2
      unfold setF scanF
      rw [hn, if_neg hb, if_pos (by rw [e]; exact h2), e]
    have HZ : Hid ((∀ j, j < n → fAt L j = 0) → (∀ p ∈ L, OkPf p) ∧ (lst L = L → setF L = 0) ∧ (lst L ≠ L → setF L = 16)) := Lib.hid fun h1 => by
      have e := firstN_none (fAt L) n h1
      refine ⟨fun p hp => ?_, fun h2 => ?_, fun h2 => ?_⟩
      · obtain ⟨i, hi, rfl⟩ := List.getElem_of_mem hp
        have := fAt_zero (h1 i (by omega))
        simp only [List.getD, List.getElem?_eq_getElem hi, Option.getD_some] at this
        obtain ⟨u1, u2⟩ := hu _ (List.getElem_mem hi)
        exact okPf_of this u1 u2
      · unfold setF scanF
        rw [hn, if_neg hb, e, if_neg (by decide), if_pos h2]
      · unfold setF scanF
        rw [hn, if_neg hb, e, if_neg (by decide), if_neg h2]
    obtain ⟨af, haf⟩ : ∃ z, setF L = z := ⟨_, rfl⟩
    rw [haf] at HF HZ ⊢
    clear haf h hn hu hb
    go_enter Tryz.func13, Tryz.ntmps13
    go_wp2_with fail
    go_loopw [3, 4, 5, 11] (fun iv bx ev i wr => ∃ (k : Nat), k ≤ n ∧ i = .int .i64 k ∧ Hid (∀ j, j < k → fAt L j = 0) ∧ Hid (Below w.heap.size w wr)) (fun _ _ _ i _ => n - (intOf i).toNat)
    case atStart => exact ⟨0, Nat.zero_le _, rfl, Lib.hid fun j hj => absurd hj (Nat.not_lt_zero _), Lib.hid (Below.refl _ _)⟩
    case round =>
      obtain ⟨k, hk, rfl, HX, HB⟩ := hrel
      by_cases hlt : k < n
      · have hS : k < L.length := by rw [Hn.out]; exact hlt
        obtain ⟨p, hp⟩ : ∃ p, L[k]? = some p := ⟨_, List.getElem?_eq_getElem hS⟩
        have hpd : L.getD k zPf = p := by simp [List.getD, hp]
        have HU := Lib.hid (Hu.out p (List.mem_of_getElem? hp))
        obtain ⟨g, o, had, hg, c0, c1, c2, c3⟩ := (H0.out.below HB.out).pf hp rfl
        subst had
        have HP := Lib.hid fun wx => prefixFault_any p.1 p.2.1 p.2.2.1 p.2.2.2 wx HU.out.1 HU.out.2
        have HFk := Lib.hid (HF.out k hlt HX.out)
        have HXk : Hid (fAt L k = 0 → ∀ j, j < k + 1 → fAt L j = 0) := Lib.hid fun e j hj => by
          rcases Nat.lt_or_ge j k with h1 | h1
          · exact HX.out j h1
          · obtain rfl : j = k := by omega
            exact e
        have HA : Hid (fAt L k = if pfF p ≠ 0 then pfF p else if 0 < k ∧ nuP p ≤ nuP (L.getD (k - 1) zPf) then 7 else 0) := Lib.hid (by unfold fAt; rw [hpd])
        have HNu : Hid (nuP p = numA p.1 p.2.1 p.2.2.1) := Lib.hid rfl
        unfold pfF at HA
        unfold vP at HP
        clear hp hS hpd hg HX
        generalize hFe : pFault p.1 p.2.1 p.2.2.1 p.2.2.2 = F at *
        clear hFe
        generalize p.1 = a1 at *
        generalize p.2.1 = a2 at *
        generalize p.2.2.1 = a3 at *
        generalize p.2.2.2 = a4 at *
        have HB1 : Hid (Below w.heap.size w (wr.alloc (.cells #[.bool a1, .int .u64 (a2 : Int), .int .u64 (a3 : Int), .int .i64 a4] 45 (0, 0)))) := Lib.hid (Below.alloc HB.out HB.out.size _)
        have HP1 : Hid (Blk (wr.alloc (.cells #[.bool a1, .int .u64 (a2 : Int), .int .u64 (a3 : Int), .int .i64 a4] 45 (0, 0))) wr.heap.size 45 #[.bool a1, .int .u64 (a2 : Int), .int .u64 (a3 : Int), .int .i64 a4]) := Lib.hid (Blk.new wr _ _)
        go_upto_region 6 with fail
        generalize wr.alloc (.cells #[.bool a1, .int .u64 (a2 : Int), .int .u64 (a3 : Int), .int .i64 a4] 45 (0, 0)) = w3 at *
        generalize wr.heap.size = bx at *
        clear HB c0 c1 c2 c3
        have d0 := HP1.out.cell 0
        have d1 := HP1.out.cell 1
        have d2 := HP1.out.cell 2
        have d3 := HP1.out.cell 3
        simp at d0 d1 d2 d3
        go_wp2_with fail
        refine (HP.out _).mono ?_
        rintro e w4 ⟨rfl, hb⟩
        have HB4 := Lib.hid (HB1.out.trans (hb.mono HB1.out.size))
        have HP4 := Lib.hid (HP1.out.below hb HP1.out.lt)
        clear hb HB1 HP1 HP d0 d1 d2 d3
        by_cases hF0 : F = 0
        · rcases Nat.eq_zero_or_pos k with hk0 | hk0
          · have HX2 := Lib.hid (HXk.out (by rw [HA.out, if_neg (by simp [hF0]), if_neg (by omega)]))
            subst hF0 hk0
            have z0 : ((0 : Nat) : Int) = 0 := rfl
            simp only [z0]
            clear HFk HXk HA HNu HU
            go_wp2_with fail
            refine wp_region_later (by kernel_rfl) (by kernel_rfl) ?_
            repeat (go_big_quiet_step (fail))
            refine wpQuiet_nil ?_
            rintro w5 ⟨n5, hn5⟩
            have hb : Below w4.heap.size w4 w5 := by rw [hn5]; exact n5.2
            clear hn5 n5
            have HB5 := Lib.hid (HB4.out.trans (hb.mono HB4.out.size))
            clear hb
            go_wp2_with fail
            exact ⟨⟨1, by omega, by first | rfl | go_num, HX2, HB5⟩, by simp [intOf]; omega⟩
          · obtain ⟨j, hj⟩ : ∃ j, k = j + 1 := ⟨k - 1, by omega⟩
            have hjS : j < L.length := by rw [Hn.out]; omega
            obtain ⟨q, hq⟩ : ∃ q, L[j]? = some q := ⟨_, List.getElem?_eq_getElem hjS⟩
            have hqd : L.getD (k - 1) zPf = q := by rw [hj]; simp [List.getD, hq]
            obtain ⟨hu3, hu4⟩ := Hu.out q (List.mem_of_getElem? hq)
            obtain ⟨g', o', had, hg', b0, b1, b2, b3⟩ := (H0.out.below HB4.out).pf hq rfl
            injection had with had
            injection had with had1 had2
            subst had1 had2
            have HO := Lib.hid fun wx => order_any q.1 q.2.1 q.2.2.1 a1 a2 a3 wx hu3 hu4 HU.out.1 HU.out.2
            have HA2 : Hid (fAt L k = if nuP p ≤ nuP q then 7 else 0) := Lib.hid (by
              rw [HA.out, if_neg (by simp [hF0]), hqd]
              by_cases h1 : nuP p ≤ nuP q
              · rw [if_pos h1, if_pos ⟨hk0, h1⟩]
              · rw [if_neg h1, if_neg (fun h => h1 h.2)])
            have HCg := Lib.hid (cN_ge_iff (nuP q) (nuP p))
            have HNq : Hid (nuP q = numA q.1 q.2.1 q.2.2.1) := Lib.hid rfl
            rw [← HNq.out, ← HNu.out] at HO
            clear hq hqd hjS hu3 hu4 HA HNu HNq hg'
            generalize nuP q = nq at *
            generalize nuP p = np at *
            generalize q.1 = e1 at *
            generalize q.2.1 = e2 at *
            generalize q.2.2.1 = e3 at *
            generalize q.2.2.2 = e4 at *
            have i1 : (k : Int) - 1 = (j : Int) := by omega
            have i2 : decide (0 < k) = true := decide_eq_true hk0
            have i3 : (j : Int) < (n : Int) := by omega
            have i4 : (0 : Int) ≤ (j : Int) := by omega
            have i5 : (k : Int) ≤ 1000 := by omega
            have Hj := Lib.hid hj
            clear hj hk0
            have d0 := HP4.out.cell 0
            have d1 := HP4.out.cell 1
            have d2 := HP4.out.cell 2
            have d3 := HP4.out.cell 3
            simp at d0 d1 d2 d3
            have l0 := Later.cell_of d0
            have l1 := Later.cell_of d1
            have l2 := Later.cell_of d2
            have k0 := Later.cell_of b0
            have k1 := Later.cell_of b1
            have k2 := Later.cell_of b2
            have hO := fun x : Later w4 => Calls.later x (HO.out x.1)
            subst hF0
            generalize cN nq np = C at *
            go_upto_region 9 with fail
            refine wp_region_later (by kernel_rfl) (by kernel_rfl) ?_
            repeat (go_big_quiet_step ((go_at_call 40; exact hO _)))
            refine wpQuiet_nil ?_
            rintro w5 ⟨n5, hn5⟩
            have hb : Below w4.heap.size w4 w5 := by rw [hn5]; exact n5.2
            clear hn5 n5 hO HO l0 l1 l2 k0 k1 k2 d0 d1 d2 d3 b0 b1 b2 b3
            have HB5 := Lib.hid (HB4.out.trans (hb.mono HB4.out.size))
            clear hb HP4 HB4
            by_cases hnn : np ≤ nq
            · have hC0 : C ≥ 0 := HCg.out.2 hnn
              have HE := Lib.hid (HFk.out (by rw [HA2.out, if_pos hnn]; decide))
              have HE2 : Hid (af = 7) := Lib.hid (by rw [HE.out, HA2.out, if_pos hnn])
              clear HFk HXk HA2 HE HU
              go_wp2_with fail
              go_ret
              exact ⟨by rw [HE2.out]; rfl, HB5.out⟩
            · have hC0 : ¬ C ≥ 0 := fun h => hnn (HCg.out.1 h)
              have HX2 := Lib.hid (HXk.out (by rw [HA2.out, if_neg hnn]))
              clear HFk HXk HA2 HU
              go_wp2_with fail
              exact ⟨⟨k + 1, by omega, by go_num, HX2, HB5⟩, by simp [intOf]; omega⟩
        · have hF2 : (F != 0) = true := by simpa using hF0
          have hFA : fAt L k = F := by rw [HA.out, if_pos hF0]
          have HE : Hid (af = F) := Lib.hid (by rw [HFk.out (by rw [hFA]; exact hF0), hFA])
          clear HFk HXk hF0 HA hFA HU
          go_wp2_with fail
          go_ret
          exact ⟨by rw [HE.out]; rfl, HB4.out⟩
      · obtain rfl : k = n := by omega
        obtain ⟨hok, hz0, hz1⟩ := HZ.out HX.out
        have HR := Lib.hid (H0.out.below HB.out)
        have HZ0 := Lib.hid hz0
        have HZ1 := Lib.hid hz1
        have HS := Lib.hid (leastOf_any ad k c L wr HR.out Hn.out hs hok)
        have HLl := Lib.hid (lst_len hok)
        clear hok hz0 hz1 HZ HF HX Hu
        go_wp2_with fail
        refine HS.out.mono ?_
        rintro e w4 ⟨v, rfl, hO, hB⟩
        obtain ⟨ad4, c4, rfl, _⟩ := hO.form
        have HQ := Lib.hid (equal_pf ad4 ad c4 c (lst L) L w4 hO.rd (HR.out.below hB) (by have := HLl.out; rw [Hn.out] at this; omega))
        rw [Hn.out] at HQ
        have HB4 := Lib.hid (HB.out.trans (hB.mono HB.out.size))
        clear hO hB HB HR HS HLl
        generalize (lst L).length = ll at *
        go_wp2_with fail
        refine HQ.out.mono ?_
        rintro e w5 ⟨rfl, q5, rfl⟩
        have HB5 := Lib.hid (below_drewN HB4.out q5)
        by_cases hq : lst L = L
        · have HE := Lib.hid (HZ0.out hq)
          rw [decide_eq_true hq]
          clear hq HQ HZ0 HZ1
          go_wp2_with fail
          go_ret
          exact ⟨by rw [HE.out]; rfl, HB5.out⟩
        · have HE := Lib.hid (HZ1.out hq)
          rw [decide_eq_false hq]
          clear hq HQ HZ0 HZ1
          go_wp2_with fail
          go_ret
          exact ⟨by rw [HE.out]; rfl, HB5.out⟩
end Go.Proofs.YtcpafmndjcejjaaGreatDoor

namespace Go.Proofs.YtcpafmndjcejjaaGreatDoor
open Go.RowKit Go
set_option linter.unusedVariables false

theorem ok_block {x n : Nat} (hv : VN x) (hn : n ≤ LN x) (hd : 2 ^ (LN x - n) ∣ x) : OkPf (pfOf (x, n)) ∧ nuP (pfOf (x, n)) = x ∧ spP (pfOf (x, n)) = (x, x + (2 ^ (LN x - n) - 1)) := by
  have ha := ok_aN hv
  have hln : n ≤ lenN (sixN x) := by rw [← LN_six]; exact hn
  have hc : clr x (LN x - n) = x := clr_dvd.2 hd
  have hm := mask_num (n := n) ha
  rw [num_aN hv, ← LN_six, hc] at hm
  have h1 := aN_num (mask_aok ha hln)
  rw [hm] at h1
  have hnu : nuP (pfOf (x, n)) = x := num_aN hv
  have hP : POK (sixN x) (hiN x) (loN x) n := ⟨ha, hln, h1.2.2.1.symm, h1.2.2.2.symm⟩
  refine ⟨⟨rfl, hP⟩, hnu, ?_⟩
  unfold spP
  rw [hnu]
  show (x, fil x (LN x - n)) = _
  rw [fil_of hd]
theorem mem_allB {S : List Sp} (hv : ∀ p ∈ S, VR p) {c : Nat × Nat} (hc : c ∈ allB S) : VN c.1 ∧ c.2 ≤ LN c.1 ∧ 2 ^ (LN c.1 - c.2) ∣ c.1 ∧ ∃ p ∈ S, LN c.1 = LN p.1 ∧ p.1 ≤ c.1 ∧ c.1 + (2 ^ (LN c.1 - c.2) - 1) ≤ p.2 := by
  obtain ⟨p, hp, hc⟩ := List.mem_flatMap.1 hc
  obtain ⟨h1, h2, h3⟩ := (blks_ok (LN p.1) p.1 p.2).each c hc
  obtain ⟨v, l, s⟩ := blk_vn (hv p hp) h1 h2
  refine ⟨v, ?_, ?_, p, hp, l, h1, ?_⟩
  · rw [l]; exact h3.le
  · rw [l]; exact h3.dvd
  · rw [l]; exact h3.fits
theorem okPf_pfs {S : List Sp} (hv : ∀ p ∈ S, VR p) : ∀ q ∈ pfs S, OkPf q := fun q hq => by
  obtain ⟨c, hc, rfl⟩ := List.mem_map.1 hq
  obtain ⟨a, b, d, _⟩ := mem_allB hv hc
  exact (ok_block a b d).1
/-- the spans of prefixes -/
def spn (L : List Pf) : List Sp := jn (L.map spP)
theorem spn_vr {L : List Pf} (hv : ∀ p ∈ L, OkPf p) : ∀ p ∈ spn L, VR p := sps_vr hv
theorem ok_append {A B : List Pf} (hA : ∀ p ∈ A, OkPf p) (hB : ∀ p ∈ B, OkPf p) : ∀ p ∈ A ++ B, OkPf p := fun p hp => (List.mem_append.1 hp).elim (hA p) (hB p)
/-- the spans between those of a list, from a number to the last one -/
def gapsF (top : Nat) : List Sp → Nat → List Sp
  | [], x => if x ≤ top then [(x, top)] else []
  | r :: S, x => (if x < r.1 then [(x, r.1 - 1)] else []) ++ gapsF top S (r.2 + 1)
def fam (six : Bool) (S : List Sp) : List Sp := S.filter fun p => sixN p.1 == six
def loF (six : Bool) : Nat := if six = true then 2 ^ 128 else 0
def topF (six : Bool) : Nat := if six = true then 2 ^ 129 - 1 else 2 ^ 32 - 1
def gapsOf (six : Bool) (S : List Sp) : List Sp := gapsF (topF six) (fam six S) (loF six)
/-- the spans between those of a list, of all addresses -/
def gaps (S : List Sp) : List Sp := gapsOf false S ++ gapsOf true S
/-- what two lists of spans have in common -/
def both : List Sp → List Sp → List Sp
  | [], _ => []
  | _ :: _, [] => []
  | p :: A, q :: B => (if max p.1 q.1 ≤ min p.2 q.2 then [(max p.1 q.1, min p.2 q.2)] else []) ++ if p.2 < q.2 then both A (q :: B) else both (p :: A) B
termination_by A B => A.length + B.length
theorem ok_lst {a : List Pf} (ha : ∀ p ∈ a, OkPf p) : ∀ p ∈ lst a, OkPf p := okPf_pfs (spn_vr ha)
end Go.Proofs.YtcpafmndjcejjaaGreatDoor

namespace Go.Proofs.YtcpafmndjcejjaaGreatDoor
open Go.RowKit Go Go.Sort
set_option linter.unusedVariables false

/-- the bytes of lines, each with its end -/
def sumL (A : List (List UInt8)) : Nat := (A.map fun l => l.length + 1).sum
theorem sumL_cons (l : List UInt8) (A : List (List UInt8)) : sumL (l :: A) = l.length + 1 + sumL A := by
  unfold sumL
  rw [List.map_cons, List.sum_cons]
theorem spl_sum (c : UInt8) : ∀ s, sumL (spl c s) = s.length + 1
  | [] => rfl
  | x :: l => by
    have ih := spl_sum c l
    simp only [spl]
    by_cases h : x = c
    · rw [if_pos h, sumL_cons, ih]; simp; omega
    · rw [if_neg h]
      cases e : spl c l with
      | nil => exact absurd e (spl_ne c l)
      | cons p ps =>
        rw [e, sumL_cons] at ih
        simp only
        rw [sumL_cons, List.length_cons, List.length_cons]
        omega
theorem sumL_drop {A : List (List UInt8)} {k : Nat} {x : List UInt8} (h : A[k]? = some x) : sumL (A.drop k) = x.length + 1 + sumL (A.drop (k + 1)) := by
  obtain ⟨hk, rfl⟩ := List.getElem?_eq_some_iff.1 h
  rw [List.drop_eq_getElem_cons hk, sumL_cons]
theorem pP_nil : pP [] = none := by
  cases h : pP [] with
  | none => rfl
  | some p =>
    exfalso
    unfold pP parsePF at h
    have e : (Lib.cut [] [47]).1 = ([] : List UInt8) := rfl
    rw [e] at h
    have e2 : parseF [] = none := rfl
    rw [e2] at h
    cases h
theorem pP_pos {x : List UInt8} {p : Pf} (h : pP x = some p) : 1 ≤ x.length := by
  cases x with
  | nil => rw [pP_nil] at h; cases h
  | cons a l => simp
/-- what a reader of sets answers -/
def rsV : Sum Nat (List Pf) → List Pf × Int × Int
  | .inl i => ([], (i : Int), 9)
  | .inr L => if setF L = 0 then (L, 0, 0) else ([], 0, setF L)
def rsR (s : List UInt8) : List Pf × Int × Int := if 200000 < s.length then ([], 0, 2) else rsV (rdS 0 (spl 10 s) [])
theorem rdS_step {A : List (List UInt8)} {k m : Nat} {x : List UInt8} {acc : List Pf} (hm : A.length = m + 1) (hk : k < m) (hx : A[k]? = some x) :
    rdS k (A.drop k) acc = match pP x with
      | some p => rdS (k + 1) (A.drop (k + 1)) (acc ++ [p])
      | none => .inl k := by
  obtain ⟨hl, rfl⟩ := List.getElem?_eq_some_iff.1 hx
  have hne : A.drop (k + 1) ≠ [] := fun e => by
    have := congrArg List.length e
    rw [List.length_drop] at this
    simp at this; omega
  rw [List.drop_eq_getElem_cons hl]
  cases hp : pP A[k] with
  | none => exact rdS_bad hne hp
  | some p => exact rdS_good hne hp
theorem rdS_end {A : List (List UInt8)} {m : Nat} {l : List UInt8} {acc : List Pf} (hm : A.length = m + 1) (hx : A[m]? = some l) :
    rdS m (A.drop m) acc = if l = [] then .inr acc else .inl m := by
  obtain ⟨hl, rfl⟩ := List.getElem?_eq_some_iff.1 hx
  have hd : A.drop (m + 1) = [] := List.drop_eq_nil_of_le (by omega)
  rw [List.drop_eq_getElem_cons hl, hd]
  by_cases h : A[m] = []
  · rw [if_pos h, h]; exact rdS_last _ _
  · rw [if_neg h]; exact rdS_open h
end Go.Proofs.YtcpafmndjcejjaaGreatDoor

namespace Go.Proofs.YtcpafmndjcejjaaGreatDoor
open Go.RowKit Go
set_option linter.unusedVariables false

/-- the numbers of a listed table -/
def numsOf : DataW Unit → List Int
  | .agg l => l.map fun | .lit (.int _ z) => z | _ => 0
  | _ => []
theorem tabs_of {w : World} {L : List (String × DataW Unit)} {d64 : DataW Unit} (h : laidMetH Tryz.prog L w)
    (e1 : L.filter (fun x => x.1 == "internal/strconv.uint64pow10") = [("internal/strconv.uint64pow10", Lib.tabData .u64 Lib.pow10Tab)])
    (e2 : L.filter (fun x => x.1 == "math/bits.deBruijn64tab") = [("math/bits.deBruijn64tab", d64)])
    (e3 : d64 = Lib.tabData .u8 (numsOf d64)) (e4 : (numsOf d64).length = 64) (e5 : (numsOf d64).getD 15 0 = 4) : Tabs w := by
  refine ⟨?_, ?_⟩
  · have h1 := h.filter (fun x => x.1 == "internal/strconv.uint64pow10")
    rw [e1] at h1
    replace h1 : laidMet Tryz.prog [("internal/strconv.uint64pow10", Lib.tabData .u64 Lib.pow10Tab)] w := (laidMetH_iff.1 h1).1
    exact Lib.tabIs_of_head (g := 1) (t := 171) (e := 27) (n := 20) (by kernel_rfl) (by kernel_rfl) (by kernel_rfl) (by kernel_rfl) (by kernel_rfl) (by kernel_rfl) h1
  · have h2 := h.filter (fun x => x.1 == "math/bits.deBruijn64tab")
    rw [e2, e3] at h2
    replace h2 : laidMet Tryz.prog [("math/bits.deBruijn64tab", Lib.tabData .u8 (numsOf d64))] w := (laidMetH_iff.1 h2).1
    have := Lib.TabIs.cell (Lib.tabIs_of_head (g := 7) (t := 208) (e := 5) (n := 64) (by kernel_rfl) (by kernel_rfl) (by kernel_rfl) (by kernel_rfl) (by kernel_rfl) (by kernel_rfl) h2) (g := 7) (by kernel_rfl) 15 (by rw [e4]; decide)
    rw [e5] at this
    exact this
end Go.Proofs.YtcpafmndjcejjaaGreatDoor

namespace Go.Proofs.YtcpafmndjcejjaaGreatDoor
open Go.RowKit Go Go.Sort
set_option linter.unusedVariables false

theorem maxLen_of {w : World} (h : w.ShapedOpen Tryz.prog) : ∃ m, w.cell? ⟨0, 0, none⟩ = some (.int .i64 m) := (Tryz.laysM144).s1_3 w h
theorem row_err (u : TypeId) (h : Tryz.prog.typeName? 3 u = some "*errors.errorString") : u = 192 :=
  typeName_ptr_named (nm := "errors.errorString") (by rw [show "*" ++ "errors.errorString" = "*errors.errorString" by decide]; kernel_rfl) (by kernel_rfl) (by decide) u (by rw [show "*" ++ "errors.errorString" = "*errors.errorString" by decide]; exact h)
theorem es_of {w : World} {L : List (String × DataW Unit)} {t : List UInt8} (h : laidMetH Tryz.prog L w)
    (e : L.filter (fun x => x.1 == "strconv.ErrSyntax") = [("strconv.ErrSyntax", .iface "*errors.errorString" (.ptr (.agg [.lit (.string t)])))]) :
    ∃ ev, w.cell? ⟨2, 0, none⟩ = some ev ∧ (ev = .nilIface ∨ ∃ te pe, ev = .iface te pe) := by
  have h1 := h.filter (fun x => x.1 == "strconv.ErrSyntax")
  rw [e] at h1
  replace h1 : laidMet Tryz.prog [("strconv.ErrSyntax", .iface "*errors.errorString" (.ptr (.agg [.lit (.string t)])))] w := (laidMetH_iff.1 h1).1
  obtain ⟨a0, s0, hv0, -, -, -⟩ := laid_sentinel h1 (g := 2) (by kernel_rfl) (by kernel_rfl) Tryz.underlying69 row_err Tryz.underlying192 Tryz.underlying194 rfl rfl Tryz.underlying9 (by kernel_rfl) (by kernel_rfl)
  exact ⟨_, by have h0 := World.var?_cell (g := 2) (by kernel_rfl) hv0 0; simpa using h0, Or.inr ⟨_, _, rfl⟩⟩
theorem er_of {w : World} {L : List (String × DataW Unit)} {t : List UInt8} (h : laidMetH Tryz.prog L w)
    (e : L.filter (fun x => x.1 == "strconv.ErrRange") = [("strconv.ErrRange", .iface "*errors.errorString" (.ptr (.agg [.lit (.string t)])))]) :
    ∃ ev, w.cell? ⟨3, 0, none⟩ = some ev ∧ (ev = .nilIface ∨ ∃ te pe, ev = .iface te pe) := by
  have h1 := h.filter (fun x => x.1 == "strconv.ErrRange")
  rw [e] at h1
  replace h1 : laidMet Tryz.prog [("strconv.ErrRange", .iface "*errors.errorString" (.ptr (.agg [.lit (.string t)])))] w := (laidMetH_iff.1 h1).1
  obtain ⟨a0, s0, hv0, -, -, -⟩ := laid_sentinel h1 (g := 3) (by kernel_rfl) (by kernel_rfl) Tryz.underlying69 row_err Tryz.underlying192 Tryz.underlying194 rfl rfl Tryz.underlying9 (by kernel_rfl) (by kernel_rfl)
  exact ⟨_, by have h0 := World.var?_cell (g := 3) (by kernel_rfl) hv0 0; simpa using h0, Or.inr ⟨_, _, rfl⟩⟩
end Go.Proofs.YtcpafmndjcejjaaGreatDoor
