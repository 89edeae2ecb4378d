/-
  A span of two wide numbers, built; a row of one such span.
  The reference's spansOf: the spans of prefixes, joined.
-/
import Derived.Test.YtjkicehhfapohaaGreatDoorSJ10
set_option linter.unusedVariables false
namespace Go.Proofs.YtjkicehhfapohaaGreatDoor
open Go.RowKit Go
set_option linter.unusedVariables false

/-- a row of one element, run -/
theorem run_build1 {P : Program} (w : World) (t e : TypeId) (X : Array Value) (m : Nat) (hu : P.underlying t = some (.slice e)) (hi : (P.info? e).map (fun i => (i.size, i.zero.map (fun z => z.cells.size))) = some (m, some m)) (hX : X.size = m) (hpos : 0 < m) (hsmall : m ≤ 2 ^ 24) :
    (Instr.buildSlice t 1 #[(0, .agg X)]).run P w = .ok (.slice (some ⟨w.heap.size, 0, none⟩) 1 1) (w.alloc (.cells X e (0, 0))) := by
  cases hie : P.info? e with
  | none => rw [hie] at hi; cases hi
  | some ie =>
    rw [hie] at hi
    simp only [Option.map_some, Option.some.injEq, Prod.mk.injEq] at hi
    obtain ⟨h1, h2⟩ := hi
    cases hz : ie.zero with
    | none => rw [hz] at h2; cases h2
    | some z =>
      rw [hz] at h2
      simp only [Option.map_some, Option.some.injEq] at h2
      have hf := Go.Great.fill_whole (s := m) hpos [Value.agg X] ((Array.range (1 * m)).map (z.cells[· % z.cells.size]!)) (fun v hv => by rw [List.mem_singleton] at hv; subst hv; exact hX) (by simp)
      have e2 : (([Value.agg X] : List Value).flatMap fun v => v.cells.toList).toArray = X := by simp [Value.cells]
      rw [e2] at hf
      refine run_buildSlice w t e 1 #[(0, .agg X)] X ie z hu hie hz (by rw [h1]; omega) (by rw [h1]; omega) ?_
      rw [h1]
      simpa using hf
theorem row_qs (x y : Nat) (w : World) : (Instr.buildSlice 79 1 #[(0, .agg (wN x ++ wN y))]).run Tryz.prog w = .ok (.slice (some ⟨w.heap.size, 0, none⟩) 1 1) (w.alloc (.cells (wN x ++ wN y) 82 (0, 0))) :=
  run_build1 w _ _ _ 18 Tryz.underlying79 zero_qs (by rw [Array.size_append]; rfl) (by decide) (by decide)
theorem built_qs (f g : Nat → Nat) : Tryz.prog.built 82 [(0, .agg (wd f)), (1, .agg (wd g))] = some (wd f ++ wd g) := by
  kernel_rfl
theorem build_qs (x y : Nat) (w : World) : (Instr.build 82 #[(0, .agg (wN x)), (1, .agg (wN y))]).run Tryz.prog w = .ok (.agg (wN x ++ wN y)) w :=
  run_build w _ _ _ (built_qs _ _)
theorem exec_build {P : Program} {ρ : Operand → Value} {o : Oper} {w w' : World} {v : Value} (t : TypeId) (parts : Array (Nat × Operand)) (ho : o.op = .build t parts) (q : Array (Nat × Value)) (hq : (parts.map fun (i, x) => (i, ρ x)) = q) (hr : (Instr.build t q).run P w = .ok v w') : (execOp ρ o).run P w = .ok (.value v) w' := by
  subst hq
  unfold execOp
  simp only [ho, Sem.run_bind, hr, Result.andThen_ok, Sem.run_pure]
theorem exec_row {P : Program} {ρ : Operand → Value} {o : Oper} {w w' : World} {v : Value} (t : TypeId) (n : Nat) (parts : Array (Nat × Operand)) (ho : o.op = .buildSlice t n parts) (q : Array (Nat × Value)) (hq : (parts.map fun (i, x) => (i, ρ x)) = q) (hr : (Instr.buildSlice t n q).run P w = .ok v w') : (execOp ρ o).run P w = .ok (.value v) w' := by
  subst hq
  unfold execOp
  simp only [ho, Sem.run_bind, hr, Result.andThen_ok, Sem.run_pure]
end Go.Proofs.YtjkicehhfapohaaGreatDoor

namespace Go.Proofs.YtjkicehhfapohaaGreatDoor
open Go.RowKit Go
set_option linter.unusedVariables false

/-- what the region of 'append(all, span{of(..), lastOf(..)})' has yielded -/
def spQ (bx : Nat) (out : Value) (pa P1 pf P2 : Array Value) : Nat → Value → World → Prop
  | 0, v, _ => v = out
  | 1, v, _ => v = .pointer (some ⟨bx, 0, none⟩)
  | 2, v, _ => v = .agg pa
  | 3, v, _ => v = .agg P1
  | 4, v, _ => v = .agg pf
  | 5, v, _ => v = .agg P2
  | 6, v, _ => v = .agg (P1 ++ P2)
  | _, v, w => ∃ B, v = .slice (some ⟨B, 0, none⟩) 1 1 ∧ Blk w B 82 (P1 ++ P2)
theorem spQ_keep {bx : Nat} {out : Value} {pa P1 pf P2 : Array Value} (p : Nat) (v : Value) (u w : World) (h : spQ bx out pa P1 pf P2 p v u) (hb : Below u.heap.size u w) : spQ bx out pa P1 pf P2 p v w := by
  rcases p with _ | _ | _ | _ | _ | _ | _ | p
  all_goals first | exact h | (obtain ⟨B, h1, h2⟩ := h; exact ⟨B, h1, h2.below hb h2.lt⟩)
set_option maxRecDepth 100000 in
set_option maxHeartbeats 2000000 in
theorem spansOf_any (ad : Option Addr) (n c : Nat) (L : List Pf) (w : World) (h : RdK layPf w ad L) (hn : L.length = n) (hs : n ≤ 100000) (hv : ∀ p ∈ L, OkPf p) :
    Calls Tryz.prog 53 #[.slice ad n c] w fun e w' => ∃ v, e = .returned v ∧ OwnK layQs w' w.heap.size v (jn (L.map spP)) ∧ Below w.heap.size w w' := by
  have Hv := Lib.hid hv
  have H0 := Lib.hid h
  have Hn := Lib.hid hn
  clear h hn hv
  go_enter Tryz.func53, Tryz.ntmps53
  go_wp2_with fail
  go_loopw [3, 5, 8] (fun out bx i wr => ∃ k : Nat, k ≤ n ∧ i = .int .i64 (k : Int) ∧ Hid (OwnK layQs wr w.heap.size out ((L.take k).map spP)) ∧ Hid (Below w.heap.size w wr)) (fun _ _ i _ => n - (intOf i).toNat)
  case atStart => exact ⟨0, Nat.zero_le _, rfl, Lib.hid (OwnK.nil _ _ _), Lib.hid (Below.refl _ _)⟩
  case round =>
    obtain ⟨k, hk, rfl, HO, HB⟩ := hrel
    by_cases hlt : k < n
    · have hS : k < L.length := by rw [Hn.out]; exact hlt
      obtain ⟨p, hp⟩ : ∃ p, L[k]? = some p := ⟨_, List.getElem?_eq_getElem hS⟩
      have hok := Hv.out p (List.mem_of_getElem? hp)
      obtain ⟨a1, a2, a3, a4, hpc, hpn, hpa⟩ := pf_cells hok
      obtain ⟨g, o, had, hg, c0, c1, c2, c3⟩ := (H0.out.below HB.out).pf hp hpc
      subst had
      have HT1 : Hid ((L.take (k + 1)).map spP = (L.take k).map spP ++ [spP p]) := Lib.hid (by
        have : L[k] = p := by rw [List.getElem?_eq_getElem hS] at hp; injection hp
        rw [List.take_succ_eq_append_getElem hS, List.map_append, this]; rfl)
      have HL := Lib.hid fun wx => lastOfN (n := p.2.2.2.toNat) wx hok.num.1 hok.bits
      rw [hpn] at HL
      have HF := Lib.hid fun wx => ofN wx hok.num.1
      rw [hpa] at HF
      have HE : Hid (layQs.enc (spP p) = (wN (nuP p) ++ wN (fil (nuP p) (LN (nuP p) - p.2.2.2.toNat))).toList) := Lib.hid rfl
      have HBd := Lib.hid fun wx => build_qs (nuP p) (fil (nuP p) (LN (nuP p) - p.2.2.2.toNat)) wx
      have HRw := Lib.hid fun wx => row_qs (nuP p) (fil (nuP p) (LN (nuP p) - p.2.2.2.toNat)) wx
      generalize spP p = sp at *
      have hlen : ((L.take k).map spP).length = k := by rw [List.length_map, List.length_take]; omega
      have HLn := Lib.hid hlen
      generalize wN (nuP p) = P1 at *
      generalize wN (fil (nuP p) (LN (nuP p) - p.2.2.2.toNat)) = P2 at *
      clear hp hS hok hpc hpn hpa hlen
      have HB1 : Hid (Below w.heap.size w (wr.alloc (.cells #[.bool a1, .int .u64 (a2 : Int), .int .u64 (a3 : Int), .int .i64 (a4 : Int)] 39 (0, 0)))) := Lib.hid (Below.alloc HB.out HB.out.size _)
      have HP1 : Hid (Blk (wr.alloc (.cells #[.bool a1, .int .u64 (a2 : Int), .int .u64 (a3 : Int), .int .i64 (a4 : Int)] 39 (0, 0))) wr.heap.size 39 #[.bool a1, .int .u64 (a2 : Int), .int .u64 (a3 : Int), .int .i64 (a4 : Int)]) := Lib.hid (Blk.new wr _ _)
      have HO1 : Hid (OwnK layQs (wr.alloc (.cells #[.bool a1, .int .u64 (a2 : Int), .int .u64 (a3 : Int), .int .i64 (a4 : Int)] 39 (0, 0))) w.heap.size u3 ((L.take k).map spP)) := Lib.hid (HO.out.alloc _)
      go_upto_region 5 with fail
      generalize wr.alloc (.cells #[.bool a1, .int .u64 (a2 : Int), .int .u64 (a3 : Int), .int .i64 (a4 : Int)] 39 (0, 0)) = w3 at *
      generalize wr.heap.size = bx at *
      clear HB HO c0 c1 c2 c3 hg
      have d0 := HP1.out.cell 0
      have d1 := HP1.out.cell 1
      have d2 := HP1.out.cell 2
      have d3 := HP1.out.cell 3
      simp at d0 d1 d2 d3
      have l0 := Later.cell_of d0
      have l1 := Later.cell_of d1
      have l2 := Later.cell_of d2
      have l3 := Later.cell_of d3
      have HO6 := HO1
      generalize hLL : (L.take k).map spP = LL at *
      clear hLL
      refine wp_region_inv 8 0 (spQ bx u3 #[.bool a1, .int .u64 (a2 : Int), .int .u64 (a3 : Int)] P1 #[.bool a1, .int .u64 (a2 : Int), .int .u64 (a3 : Int), .int .i64 (a4 : Int)] P2) (fun _ w' => Below w3.heap.size w3 w') (fun u v => Below u.heap.size u v) (fun _ => 0)
        (by kernel_rfl) (by kernel_rfl) (by decide) spQ_keep (below_drew (Below.refl _ _)) ?hX
      case' hX => (apply Exists.intro; refine ⟨fun T => ?hA, ?hob, ?hend⟩)
      case hA =>
        simp only [setAll, List.take_succ_cons, List.take_zero, Act.put, List.setIfInBounds_toArray, List.set_cons_succ, List.set_cons_zero, Nat.reduceAdd]
        exact rfl
      case hob =>
        clear HO1 HB1 HP1 HO6 d0 d1 d2 d3 HT1 HE HLn
        go_light
        refine ⟨?_, ?_, ?_, ?_, ?_, ?_, ?_, ?_, trivial⟩
        all_goals (intro T wx n0 hC hn hp; dsimp only at hn ⊢; unfold Op1)
        · go_simp
          exact ⟨rfl, Below.refl _ _⟩
        · go_simp
          exact ⟨rfl, Below.refl _ _⟩
        · obtain ⟨h0, -⟩ := hp
          have h0 : T 1 = .pointer (some ⟨bx, 0, none⟩) := h0
          have e0 := l0 ⟨wx, hC⟩
          have e1 := l1 ⟨wx, hC⟩
          have e2 := l2 ⟨wx, hC⟩
          simp only at e0 e1 e2
          go_simp
          exact ⟨rfl, Below.refl _ _⟩
        · obtain ⟨h0, -⟩ := hp
          have h0 : T 2 = .agg #[.bool a1, .int .u64 (a2 : Int), .int .u64 (a3 : Int)] := h0
          go_simp
          refine (HF.out wx).mono ?_
          rintro e w5 ⟨rfl, hb⟩
          exact ⟨_, rfl, rfl, hC.trans (hb.mono hC.size), hb⟩
        · have e0 := l0 ⟨wx, hC⟩
          have e1 := l1 ⟨wx, hC⟩
          have e2 := l2 ⟨wx, hC⟩
          have e3 := l3 ⟨wx, hC⟩
          simp only at e0 e1 e2 e3
          go_simp
          exact ⟨rfl, Below.refl _ _⟩
        · obtain ⟨h0, -⟩ := hp
          have h0 : T 4 = .agg #[.bool a1, .int .u64 (a2 : Int), .int .u64 (a3 : Int), .int .i64 (a4 : Int)] := h0
          go_simp
          refine (HL.out wx).mono ?_
          rintro e w5 ⟨rfl, hb⟩
          exact ⟨_, rfl, rfl, hC.trans (hb.mono hC.size), hb⟩
        · obtain ⟨h0, h1, -⟩ := hp
          have h0 : T 3 = .agg P1 := h0
          have h1 : T 5 = .agg P2 := h1
          rw [exec_build _ _ rfl #[(0, .agg P1), (1, .agg P2)] (by rw [← h0, ← h1]; simp [Act.eval]) (HBd.out wx)]
          exact ⟨rfl, hC, Below.refl _ _⟩
        · obtain ⟨h0, -⟩ := hp
          have h0 : T 6 = .agg (P1 ++ P2) := h0
          rw [exec_row _ _ _ rfl #[(0, .agg (P1 ++ P2))] (by rw [← h0]; simp [Act.eval]) (HRw.out wx)]
          exact ⟨⟨wx.heap.size, rfl, Blk.new wx _ _⟩, below_alloc hC _, below_alloc (Below.refl _ _) _⟩
      case hend =>
        intro T w4 ⟨n0, hn0, hb⟩ hR
        have hT0 : T 0 = u3 := hR 0 (by omega)
        obtain ⟨B, hT6, hBl⟩ := hR 7 (by omega)
        have HO4 := Lib.hid (HO1.out.later hb)
        have HB4 := Lib.hid (HB1.out.trans (hb.mono HB1.out.size))
        have HBl := Lib.hid hBl
        clear hR hb hBl HO1 HB1 HP1 HO6 d0 d1 d2 d3 l0 l1 l2 l3
        simp only [List.drop_succ_cons, List.drop_zero]
        refine wpList_app (c := 1) qsE rfl (.tmp 12) (.tmp 19) rfl ?hs HO4.out ?hx (src_blk layQs sp HBl.out ?c0) ?c1 ?c2 ?c3 ?c4 ?_
        case hs => exact hT0
        case hx => exact hT6
        case c0 => exact (by rw [HE.out])
        case c1 => exact layQs.one sp
        case c2 => unfold maxLen; rw [HLn.out]; omega
        case c3 => rw [HLn.out]; omega
        case c4 => exact HB4.out.size
        intro v' w' hO hG
        have HO' : Hid (OwnK layQs w' w.heap.size v' ((L.take (k + 1)).map spP)) := Lib.hid (by rw [HT1.out]; exact OwnK.snoc hO)
        have HB' : Hid (Below w.heap.size w w') := Lib.hid (HB4.out.trans (hG.below HB4.out.size (own_base HO4.out)))
        clear hO hG
        go_wp2
        exact ⟨⟨k + 1, by omega, by go_num, HO', HB'⟩, by simp [intOf]; omega⟩
    · obtain rfl : k = n := by omega
      have hT : L.take k = L := List.take_of_length_le (by rw [Hn.out]; exact Nat.le_refl _)
      have HO2 : Hid (OwnK layQs wr w.heap.size u3 (L.map spP)) := Lib.hid (by have := HO.out; rw [hT] at this; exact this)
      obtain ⟨ad2, c2, hv2, _, _, _⟩ := HO2.out.form
      rw [List.length_map, Hn.out] at hv2
      subst hv2
      have HJ := Lib.hid (qjoined_any ad2 k c2 (L.map spP) wr HO2.out.rd (by rw [List.length_map, Hn.out]) (by omega) (fun p hp => by
        obtain ⟨q, hq, rfl⟩ := List.mem_map.1 hp
        exact (Hv.out q hq).vr))
      clear hT HO HO2
      go_wp2_with fail
      refine HJ.out.mono ?_
      rintro e w2 ⟨v, rfl, hO, hb⟩
      go_wp2_with fail
      go_ret
      exact ⟨_, rfl, hO.weak HB.out.size, HB.out.trans (hb.mono HB.out.size)⟩
end Go.Proofs.YtjkicehhfapohaaGreatDoor
