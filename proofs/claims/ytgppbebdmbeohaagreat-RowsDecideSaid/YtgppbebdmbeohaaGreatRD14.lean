/-
  A span of two wide numbers, built; a row of one such span.
  The reference's spansOf: the spans of prefixes, joined.
  rowsOf: rows made ready for questions.
-/
import Derived.Test.YtgppbebdmbeohaaGreatRD13
import Derived.Test.YtgppbebdmbeohaaGreatRD11
import Derived.Test.YtgppbebdmbeohaaGreatRD7
import Derived.WalkSpells
set_option linter.unusedVariables false
namespace Go.Proofs.YtgppbebdmbeohaaGreat
open Go.RowKit Go
set_option linter.unusedVariables false

/-- a row of one element, run -/
theorem run_build1 {P : Program} (w : World) (t e : TypeId) (X : Array Value) (m : Nat) (hu : P.underlying t = some (.slice e)) (hi : (P.info? e).map (fun i => (i.size, i.zero.map (fun z => z.cells.size))) = some (m, some m)) (hX : X.size = m) (hpos : 0 < m) (hsmall : m ≤ 2 ^ 24) :
    (Instr.buildSlice t 1 #[(0, .agg X)]).run P w = .ok (.slice (some ⟨w.heap.size, 0, none⟩) 1 1) (w.alloc (.cells X e (0, 0))) := by
  cases hie : P.info? e with
  | none => rw [hie] at hi; cases hi
  | some ie =>
    rw [hie] at hi
    simp only [Option.map_some, Option.some.injEq, Prod.mk.injEq] at hi
    obtain ⟨h1, h2⟩ := hi
    cases hz : ie.zero with
    | none => rw [hz] at h2; cases h2
    | some z =>
      rw [hz] at h2
      simp only [Option.map_some, Option.some.injEq] at h2
      have hf := Go.Great.fill_whole (s := m) hpos [Value.agg X] ((Array.range (1 * m)).map (z.cells[· % z.cells.size]!)) (fun v hv => by rw [List.mem_singleton] at hv; subst hv; exact hX) (by simp)
      have e2 : (([Value.agg X] : List Value).flatMap fun v => v.cells.toList).toArray = X := by simp [Value.cells]
      rw [e2] at hf
      refine run_buildSlice w t e 1 #[(0, .agg X)] X ie z hu hie hz (by rw [h1]; omega) (by rw [h1]; omega) ?_
      rw [h1]
      simpa using hf
theorem row_qs (x y : Nat) (w : World) : (Instr.buildSlice 157 1 #[(0, .agg (wN x ++ wN y))]).run Tryz.prog w = .ok (.slice (some ⟨w.heap.size, 0, none⟩) 1 1) (w.alloc (.cells (wN x ++ wN y) 178 (0, 0))) :=
  run_build1 w _ _ _ 18 Tryz.underlying157 zero_qs (by rw [Array.size_append]; rfl) (by decide) (by decide)
theorem built_qs (f g : Nat → Nat) : Tryz.prog.built 178 [(0, .agg (wd f)), (1, .agg (wd g))] = some (wd f ++ wd g) := by
  kernel_rfl
theorem build_qs (x y : Nat) (w : World) : (Instr.build 178 #[(0, .agg (wN x)), (1, .agg (wN y))]).run Tryz.prog w = .ok (.agg (wN x ++ wN y)) w :=
  run_build w _ _ _ (built_qs _ _)
theorem exec_build {P : Program} {ρ : Operand → Value} {o : Oper} {w w' : World} {v : Value} (t : TypeId) (parts : Array (Nat × Operand)) (ho : o.op = .build t parts) (q : Array (Nat × Value)) (hq : (parts.map fun (i, x) => (i, ρ x)) = q) (hr : (Instr.build t q).run P w = .ok v w') : (execOp ρ o).run P w = .ok (.value v) w' := by
  subst hq
  unfold execOp
  simp only [ho, Sem.run_bind, hr, Result.andThen_ok, Sem.run_pure]
theorem exec_row {P : Program} {ρ : Operand → Value} {o : Oper} {w w' : World} {v : Value} (t : TypeId) (n : Nat) (parts : Array (Nat × Operand)) (ho : o.op = .buildSlice t n parts) (q : Array (Nat × Value)) (hq : (parts.map fun (i, x) => (i, ρ x)) = q) (hr : (Instr.buildSlice t n q).run P w = .ok v w') : (execOp ρ o).run P w = .ok (.value v) w' := by
  subst hq
  unfold execOp
  simp only [ho, Sem.run_bind, hr, Result.andThen_ok, Sem.run_pure]
end Go.Proofs.YtgppbebdmbeohaaGreat

namespace Go.Proofs.YtgppbebdmbeohaaGreat
open Go.RowKit Go
set_option linter.unusedVariables false

/-- what the region of 'append(all, span{of(..), lastOf(..)})' has yielded -/
def spQ (bx : Nat) (out : Value) (pa P1 pf P2 : Array Value) : Nat → Value → World → Prop
  | 0, v, _ => v = out
  | 1, v, _ => v = .pointer (some ⟨bx, 0, none⟩)
  | 2, v, _ => v = .agg pa
  | 3, v, _ => v = .agg P1
  | 4, v, _ => v = .agg pf
  | 5, v, _ => v = .agg P2
  | 6, v, _ => v = .agg (P1 ++ P2)
  | _, v, w => ∃ B, v = .slice (some ⟨B, 0, none⟩) 1 1 ∧ Blk w B 178 (P1 ++ P2)
theorem spQ_keep {bx : Nat} {out : Value} {pa P1 pf P2 : Array Value} (p : Nat) (v : Value) (u w : World) (h : spQ bx out pa P1 pf P2 p v u) (hb : Below u.heap.size u w) : spQ bx out pa P1 pf P2 p v w := by
  rcases p with _ | _ | _ | _ | _ | _ | _ | p
  all_goals first | exact h | (obtain ⟨B, h1, h2⟩ := h; exact ⟨B, h1, h2.below hb h2.lt⟩)
set_option maxRecDepth 100000 in
set_option maxHeartbeats 2000000 in
theorem spansOf_any (ad : Option Addr) (n c : Nat) (L : List Pf) (w : World) (h : RdK layPf w ad L) (hn : L.length = n) (hs : n ≤ 100000) (hv : ∀ p ∈ L, OkPf p) :
    Calls Tryz.prog 128 #[.slice ad n c] w fun e w' => ∃ v, e = .returned v ∧ OwnK layQs w' w.heap.size v (jn (L.map spP)) ∧ Below w.heap.size w w' := by
  have Hv := Lib.hid hv
  have H0 := Lib.hid h
  have Hn := Lib.hid hn
  clear h hn hv
  go_enter Tryz.func128, Tryz.ntmps128
  go_wp2_with fail
  go_loopw [3, 5, 8] (fun out bx i wr => ∃ k : Nat, k ≤ n ∧ i = .int .i64 (k : Int) ∧ Hid (OwnK layQs wr w.heap.size out ((L.take k).map spP)) ∧ Hid (Below w.heap.size w wr)) (fun _ _ i _ => n - (intOf i).toNat)
  case atStart => exact ⟨0, Nat.zero_le _, rfl, Lib.hid (OwnK.nil _ _ _), Lib.hid (Below.refl _ _)⟩
  case round =>
    obtain ⟨k, hk, rfl, HO, HB⟩ := hrel
    by_cases hlt : k < n
    · have hS : k < L.length := by rw [Hn.out]; exact hlt
      obtain ⟨p, hp⟩ : ∃ p, L[k]? = some p := ⟨_, List.getElem?_eq_getElem hS⟩
      have hok := Hv.out p (List.mem_of_getElem? hp)
      obtain ⟨a1, a2, a3, a4, hpc, hpn, hpa⟩ := pf_cells hok
      obtain ⟨g, o, had, hg, c0, c1, c2, c3⟩ := (H0.out.below HB.out).pf hp hpc
      subst had
      have HT1 : Hid ((L.take (k + 1)).map spP = (L.take k).map spP ++ [spP p]) := Lib.hid (by
        have : L[k] = p := by rw [List.getElem?_eq_getElem hS] at hp; injection hp
        rw [List.take_succ_eq_append_getElem hS, List.map_append, this]; rfl)
      have HL := Lib.hid fun wx => lastOfN (n := p.2.2.2.toNat) wx hok.num.1 hok.bits
      rw [hpn] at HL
      have HF := Lib.hid fun wx => ofN wx hok.num.1
      rw [hpa] at HF
      have HE : Hid (layQs.enc (spP p) = (wN (nuP p) ++ wN (fil (nuP p) (LN (nuP p) - p.2.2.2.toNat))).toList) := Lib.hid rfl
      have HBd := Lib.hid fun wx => build_qs (nuP p) (fil (nuP p) (LN (nuP p) - p.2.2.2.toNat)) wx
      have HRw := Lib.hid fun wx => row_qs (nuP p) (fil (nuP p) (LN (nuP p) - p.2.2.2.toNat)) wx
      generalize spP p = sp at *
      have hlen : ((L.take k).map spP).length = k := by rw [List.length_map, List.length_take]; omega
      have HLn := Lib.hid hlen
      generalize wN (nuP p) = P1 at *
      generalize wN (fil (nuP p) (LN (nuP p) - p.2.2.2.toNat)) = P2 at *
      clear hp hS hok hpc hpn hpa hlen
      have HB1 : Hid (Below w.heap.size w (wr.alloc (.cells #[.bool a1, .int .u64 (a2 : Int), .int .u64 (a3 : Int), .int .i64 (a4 : Int)] 114 (0, 0)))) := Lib.hid (Below.alloc HB.out HB.out.size _)
      have HP1 : Hid (Blk (wr.alloc (.cells #[.bool a1, .int .u64 (a2 : Int), .int .u64 (a3 : Int), .int .i64 (a4 : Int)] 114 (0, 0))) wr.heap.size 114 #[.bool a1, .int .u64 (a2 : Int), .int .u64 (a3 : Int), .int .i64 (a4 : Int)]) := Lib.hid (Blk.new wr _ _)
      have HO1 : Hid (OwnK layQs (wr.alloc (.cells #[.bool a1, .int .u64 (a2 : Int), .int .u64 (a3 : Int), .int .i64 (a4 : Int)] 114 (0, 0))) w.heap.size u3 ((L.take k).map spP)) := Lib.hid (HO.out.alloc _)
      go_upto_region 5 with fail
      generalize wr.alloc (.cells #[.bool a1, .int .u64 (a2 : Int), .int .u64 (a3 : Int), .int .i64 (a4 : Int)] 114 (0, 0)) = w3 at *
      generalize wr.heap.size = bx at *
      clear HB HO c0 c1 c2 c3 hg
      have d0 := HP1.out.cell 0
      have d1 := HP1.out.cell 1
      have d2 := HP1.out.cell 2
      have d3 := HP1.out.cell 3
      simp at d0 d1 d2 d3
      have l0 := Later.cell_of d0
      have l1 := Later.cell_of d1
      have l2 := Later.cell_of d2
      have l3 := Later.cell_of d3
      have HO6 := HO1
      generalize hLL : (L.take k).map spP = LL at *
      clear hLL
      refine wp_region_inv 8 0 (spQ bx u3 #[.bool a1, .int .u64 (a2 : Int), .int .u64 (a3 : Int)] P1 #[.bool a1, .int .u64 (a2 : Int), .int .u64 (a3 : Int), .int .i64 (a4 : Int)] P2) (fun _ w' => Below w3.heap.size w3 w') (fun u v => Below u.heap.size u v) (fun _ => 0)
        (by kernel_rfl) (by kernel_rfl) (by decide) spQ_keep (below_drew (Below.refl _ _)) ?hX
      case' hX => (apply Exists.intro; refine ⟨fun T => ?hA, ?hob, ?hend⟩)
      case hA =>
        simp only [setAll, List.take_succ_cons, List.take_zero, Act.put, List.setIfInBounds_toArray, List.set_cons_succ, List.set_cons_zero, Nat.reduceAdd]
        exact rfl
      case hob =>
        clear HO1 HB1 HP1 HO6 d0 d1 d2 d3 HT1 HE HLn
        go_light
        refine ⟨?_, ?_, ?_, ?_, ?_, ?_, ?_, ?_, trivial⟩
        all_goals (intro T wx n0 hC hn hp; dsimp only at hn ⊢; unfold Op1)
        · go_simp
          exact ⟨rfl, Below.refl _ _⟩
        · go_simp
          exact ⟨rfl, Below.refl _ _⟩
        · obtain ⟨h0, -⟩ := hp
          have h0 : T 1 = .pointer (some ⟨bx, 0, none⟩) := h0
          have e0 := l0 ⟨wx, hC⟩
          have e1 := l1 ⟨wx, hC⟩
          have e2 := l2 ⟨wx, hC⟩
          simp only at e0 e1 e2
          go_simp
          exact ⟨rfl, Below.refl _ _⟩
        · obtain ⟨h0, -⟩ := hp
          have h0 : T 2 = .agg #[.bool a1, .int .u64 (a2 : Int), .int .u64 (a3 : Int)] := h0
          go_simp
          refine (HF.out wx).mono ?_
          rintro e w5 ⟨rfl, hb⟩
          exact ⟨_, rfl, rfl, hC.trans (hb.mono hC.size), hb⟩
        · have e0 := l0 ⟨wx, hC⟩
          have e1 := l1 ⟨wx, hC⟩
          have e2 := l2 ⟨wx, hC⟩
          have e3 := l3 ⟨wx, hC⟩
          simp only at e0 e1 e2 e3
          go_simp
          exact ⟨rfl, Below.refl _ _⟩
        · obtain ⟨h0, -⟩ := hp
          have h0 : T 4 = .agg #[.bool a1, .int .u64 (a2 : Int), .int .u64 (a3 : Int), .int .i64 (a4 : Int)] := h0
          go_simp
          refine (HL.out wx).mono ?_
          rintro e w5 ⟨rfl, hb⟩
          exact ⟨_, rfl, rfl, hC.trans (hb.mono hC.size), hb⟩
        · obtain ⟨h0, h1, -⟩ := hp
          have h0 : T 3 = .agg P1 := h0
          have h1 : T 5 = .agg P2 := h1
          rw [exec_build _ _ rfl #[(0, .agg P1), (1, .agg P2)] (by rw [← h0, ← h1]; simp [Act.eval]) (HBd.out wx)]
          exact ⟨rfl, hC, Below.refl _ _⟩
        · obtain ⟨h0, -⟩ := hp
          have h0 : T 6 = .agg (P1 ++ P2) := h0
          rw [exec_row _ _ _ rfl #[(0, .agg (P1 ++ P2))] (by rw [← h0]; simp [Act.eval]) (HRw.out wx)]
          exact ⟨⟨wx.heap.size, rfl, Blk.new wx _ _⟩, below_alloc hC _, below_alloc (Below.refl _ _) _⟩
      case hend =>
        intro T w4 ⟨n0, hn0, hb⟩ hR
        have hT0 : T 0 = u3 := hR 0 (by omega)
        obtain ⟨B, hT6, hBl⟩ := hR 7 (by omega)
        have HO4 := Lib.hid (HO1.out.later hb)
        have HB4 := Lib.hid (HB1.out.trans (hb.mono HB1.out.size))
        have HBl := Lib.hid hBl
        clear hR hb hBl HO1 HB1 HP1 HO6 d0 d1 d2 d3 l0 l1 l2 l3
        simp only [List.drop_succ_cons, List.drop_zero]
        refine wpList_app (c := 1) qsE rfl (.tmp 12) (.tmp 19) rfl ?hs HO4.out ?hx (src_blk layQs sp HBl.out ?c0) ?c1 ?c2 ?c3 ?c4 ?_
        case hs => exact hT0
        case hx => exact hT6
        case c0 => exact (by rw [HE.out])
        case c1 => exact layQs.one sp
        case c2 => unfold maxLen; rw [HLn.out]; omega
        case c3 => rw [HLn.out]; omega
        case c4 => exact HB4.out.size
        intro v' w' hO hG
        have HO' : Hid (OwnK layQs w' w.heap.size v' ((L.take (k + 1)).map spP)) := Lib.hid (by rw [HT1.out]; exact OwnK.snoc hO)
        have HB' : Hid (Below w.heap.size w w') := Lib.hid (HB4.out.trans (hG.below HB4.out.size (own_base HO4.out)))
        clear hO hG
        go_wp2
        exact ⟨⟨k + 1, by omega, by go_num, HO', HB'⟩, by simp [intOf]; omega⟩
    · obtain rfl : k = n := by omega
      have hT : L.take k = L := List.take_of_length_le (by rw [Hn.out]; exact Nat.le_refl _)
      have HO2 : Hid (OwnK layQs wr w.heap.size u3 (L.map spP)) := Lib.hid (by have := HO.out; rw [hT] at this; exact this)
      obtain ⟨ad2, c2, hv2, _, _, _⟩ := HO2.out.form
      rw [List.length_map, Hn.out] at hv2
      subst hv2
      have HJ := Lib.hid (qjoined_any ad2 k c2 (L.map spP) wr HO2.out.rd (by rw [List.length_map, Hn.out]) (by omega) (fun p hp => by
        obtain ⟨q, hq, rfl⟩ := List.mem_map.1 hp
        exact (Hv.out q hq).vr))
      clear hT HO HO2
      go_wp2_with fail
      refine HJ.out.mono ?_
      rintro e w2 ⟨v, rfl, hO, hb⟩
      go_wp2_with fail
      go_ret
      exact ⟨_, rfl, hO.weak HB.out.size, HB.out.trans (hb.mono HB.out.size)⟩
end Go.Proofs.YtgppbebdmbeohaaGreat

namespace Go.Proofs.YtgppbebdmbeohaaGreat
open Go.RowKit Go
set_option linter.unusedVariables false

theorem poE : EI Tryz.prog 73 78 2 16 := EI.mk' (z := .agg #[.int .i64 0, .int .i64 0]) Tryz.underlying73 (by kernel_rfl) rfl (by decide)
theorem nil_po (w : World) (a : Option Addr) (l c : Nat) : (binOp .eql 73 (.slice a l c) (.slice none 0 0)).run Tryz.prog w = .ok (.bool a.isNone) w :=
  Lib.run_eql_slice_nil (h := Tryz.underlying73) ..
set_option maxRecDepth 100000 in
set_option maxHeartbeats 1000000 in
theorem clone_po (ad : Option Addr) (n c : Nat) (L : List (Int × Int)) (w : World) (h : RdK layPo w ad L) (hn : L.length = n) (hs : n ≤ 1000000) :
    Calls Tryz.prog 100 #[.slice ad n c] w fun e w' => ∃ v, e = .returned v ∧ OwnK layPo w' w.heap.size v L ∧ Below w.heap.size w w' := by
  cases ad with
  | none =>
    have en := fun w => nil_po w none n c
    simp only [Option.isNone_none] at en
    have hL : Hid (L = []) := Lib.hid h.none_
    clear h hn hs
    go_enter Tryz.func100, Tryz.ntmps100
    go_wp2
    go_ret
    exact ⟨_, rfl, by rw [hL.out]; exact OwnK.nil _ _ _, Below.refl _ _⟩
  | some a =>
    have en := fun w => nil_po w (some a) n c
    simp only [Option.isNone_some] at en
    subst hn
    have HS := Lib.hid h.src
    have hB : Hid (Below w.heap.size w (w.alloc (.cells #[] layPo.ty (0, 0)))) := Lib.hid (below_alloc (Below.refl _ _) _)
    clear h
    go_enter Tryz.func100, Tryz.ntmps100
    go_wp2_with (at_builtin; refine wpList_app poE rfl (.tmp 5) (.tmp 6) rfl rfl (ownK_empty layPo w) rfl (src_later HS.out hB.out) (layPo.all_one L) ?c2 ?c3 ?c4 ?_)
    case c2 => unfold maxLen; simp only [List.length_nil]; omega
    case c3 => simp only [List.length_nil]; omega
    case c4 => simp
    intro v' w' hO hG
    have HO : Hid (OwnK layPo w' w.heap.size v' L) := Lib.hid hO
    have HG := Lib.hid hG
    clear hO hG
    go_wp2
    go_ret
    exact ⟨_, rfl, HO.out, HG.out.below (u := .slice (some ⟨w.heap.size, 0, none⟩) 0 0) (by simp) (by intro k hk; simp [Value.ownBlock] at hk; omega) |> (below_alloc (Below.refl _ _) _).trans⟩

/-- what the region of rowsOf has yielded -/
def rwR (bx : Nat) (out : Value) (r : FR) (s1 s2 s3 : Value) : Nat → Value → World → Prop
  | 0, v, _ => v = out
  | 1, v, _ => v = .pointer (some ⟨bx, 0, none⟩)
  | 2, v, _ => v = .int .i64 r.p
  | 3, v, _ => v = .pointer (some ⟨bx, 1, none⟩)
  | 4, v, _ => v = s1
  | 5, v, w => ∃ ad c, v = .slice ad (spn r.src).length c ∧ RdT layRg w ad (spn r.src)
  | 6, v, _ => v = .pointer (some ⟨bx, 2, none⟩)
  | 7, v, _ => v = s2
  | 8, v, w => ∃ ad c, v = .slice ad (spn r.dst).length c ∧ RdT layRg w ad (spn r.dst)
  | 9, v, _ => v = .pointer (some ⟨bx, 3, none⟩)
  | 10, v, _ => v = s3
  | 11, v, w => ∃ ad c, v = .slice ad r.po.length c ∧ RdT layPo w ad r.po
  | 12, v, w => ∃ x, v = .agg (layFw.enc x).toArray ∧ FwcT w r x
  | _, v, w => ∃ B x, v = .slice (some ⟨B, 0, none⟩) 1 1 ∧ Blk w B 130 (layFw.enc x).toArray ∧ FwcT w r x
theorem rwR_keep {bx : Nat} {out : Value} {r : FR} {s1 s2 s3 : Value} (p : Nat) (v : Value) (u w : World) (h : rwR bx out r s1 s2 s3 p v u) (hb : Below u.heap.size u w) : rwR bx out r s1 s2 s3 p v w := by
  rcases p with _ | _ | _ | _ | _ | _ | _ | _ | _ | _ | _ | _ | _ | p
  all_goals first
    | exact h
    | (obtain ⟨ad, c, h1, h2⟩ := h; exact ⟨ad, c, h1, h2.below hb⟩)
    | (obtain ⟨x, h1, h2⟩ := h; exact ⟨x, h1, h2.keep (S := []) (KeepT.of_below hb) (by simp) (by simp)⟩)
    | (obtain ⟨B, x, h1, h2, h3⟩ := h; exact ⟨B, x, h1, h2.below hb h2.lt, h3.keep (S := []) (KeepT.of_below hb) (by simp) (by simp)⟩)
set_option maxRecDepth 100000 in
set_option maxHeartbeats 4000000 in
theorem rowsOf_any (ad : Option Addr) (n c : Nat) (L : List FR) (w : World) (h : FlsAt w ad L) (hn : L.length = n) (hs : n ≤ 1000) (hv : ∀ r ∈ L, r.Ok) (hl : ∀ r ∈ L, r.src.length ≤ 1000 ∧ r.dst.length ≤ 1000 ∧ r.po.length ≤ 1000) :
    Calls Tryz.prog 48 #[.slice ad n c] w fun e w' => ∃ v, e = .returned v ∧ FwO w' w.heap.size v L ∧ Below w.heap.size w w' := by
  have Hv := Lib.hid hv
  have Hl := Lib.hid hl
  have H0 := Lib.hid h
  have Hn := Lib.hid hn
  clear h hn hv hl
  go_enter Tryz.func48, Tryz.ntmps48
  go_wp2_with fail
  go_loopw [3, 5, 8] (fun out bx i wr => ∃ k : Nat, k ≤ n ∧ i = .int .i64 (k : Int) ∧ Hid (FwO wr w.heap.size out (L.take k)) ∧ Hid (Below w.heap.size w wr)) (fun _ _ i _ => n - (intOf i).toNat)
  case atStart => exact ⟨0, Nat.zero_le _, rfl, Lib.hid (FwO.nil _ _), Lib.hid (Below.refl _ _)⟩
  case round =>
    obtain ⟨k, hk, rfl, HO, HB⟩ := hrel
    by_cases hlt : k < n
    · have hS : k < L.length := by rw [Hn.out]; exact hlt
      obtain ⟨r, hr⟩ : ∃ r, L[k]? = some r := ⟨_, List.getElem?_eq_getElem hS⟩
      have hok := Hv.out r (List.mem_of_getElem? hr)
      have hll := Hl.out r (List.mem_of_getElem? hr)
      obtain ⟨g, o, s1, s2, s3, n1, n2, n3, c1, c2, c3, had, hg, k0, k1, k2, k3, hA, m1, m2, m3⟩ := H0.out k r hr
      subst had
      replace k0 := (HB.out.cell (p := ⟨g, o + k * 4, none⟩) hg).trans k0
      replace k1 := (HB.out.cell (p := ⟨g, o + k * 4 + 1, none⟩) hg).trans k1
      replace k2 := (HB.out.cell (p := ⟨g, o + k * 4 + 2, none⟩) hg).trans k2
      replace k3 := (HB.out.cell (p := ⟨g, o + k * 4 + 3, none⟩) hg).trans k3
      have HT1 : Hid (L.take (k + 1) = L.take k ++ [r]) := Lib.hid (by
        have : L[k] = r := by rw [List.getElem?_eq_getElem hS] at hr; injection hr
        rw [List.take_succ_eq_append_getElem hS, this])
      have HlT : Hid ((L.take k).length = k) := Lib.hid (by rw [List.length_take]; omega)
      have HS1 := Lib.hid fun wx (hb : Below w.heap.size w wx) => spanOf_any s1 n1 c1 r.src wx (hA.r1.below hb) hA.l1 (by have := hll.1; rw [hA.l1] at this; omega) hok.v1
      have HS2 := Lib.hid fun wx (hb : Below w.heap.size w wx) => spanOf_any s2 n2 c2 r.dst wx (hA.r2.below hb) hA.l2 (by have := hll.2.1; rw [hA.l2] at this; omega) hok.v2
      have HS3 := Lib.hid fun wx (hb : Below w.heap.size w wx) => clone_po s3 n3 c3 r.po wx (hA.r3.below hb) hA.l3 m3
      have e1 : jn (r.src.map spP) = spn r.src := rfl
      have e2 : jn (r.dst.map spP) = spn r.dst := rfl
      rw [e1] at HS1
      rw [e2] at HS2
      have Hb1 : Hid ((spn r.src).length ≤ 100000) := Lib.hid (by have := spn_len r.src; have := hll.1; omega)
      have Hb2 : Hid ((spn r.dst).length ≤ 100000) := Lib.hid (by have := spn_len r.dst; have := hll.2.1; omega)
      have Hb3 : Hid (r.po.length ≤ 100000) := Lib.hid (by have := hll.2.2; omega)
      obtain ⟨rp, hrp⟩ : ∃ rp, r.p = rp := ⟨_, rfl⟩
      have Hrp := Lib.hid hrp
      rw [hrp] at k0
      clear hr hS hA m1 m2 m3 hg hok hll e1 e2 hrp
      have HB1 : Hid (Below w.heap.size w (wr.alloc (.cells #[.int .i64 rp, .slice s1 n1 c1, .slice s2 n2 c2, .slice s3 n3 c3] 75 (0, 0)))) := Lib.hid (Below.alloc HB.out HB.out.size _)
      have HP1 : Hid (Blk (wr.alloc (.cells #[.int .i64 rp, .slice s1 n1 c1, .slice s2 n2 c2, .slice s3 n3 c3] 75 (0, 0))) wr.heap.size 75 #[.int .i64 rp, .slice s1 n1 c1, .slice s2 n2 c2, .slice s3 n3 c3]) := Lib.hid (Blk.new wr _ _)
      have HO1 : Hid (FwO (wr.alloc (.cells #[.int .i64 rp, .slice s1 n1 c1, .slice s2 n2 c2, .slice s3 n3 c3] 75 (0, 0))) w.heap.size u3 (L.take k)) := Lib.hid (HO.out.later (below_alloc (Below.refl _ _) _))
      go_upto_region 5 with fail
      generalize wr.alloc (.cells #[.int .i64 rp, .slice s1 n1 c1, .slice s2 n2 c2, .slice s3 n3 c3] 75 (0, 0)) = w3 at *
      generalize wr.heap.size = bx at *
      clear HB HO k0 k1 k2 k3
      have d0 := HP1.out.cell 0
      have d1 := HP1.out.cell 1
      have d2 := HP1.out.cell 2
      have d3 := HP1.out.cell 3
      simp at d0 d1 d2 d3
      have l0 := Later.cell_of d0
      have l1 := Later.cell_of d1
      have l2 := Later.cell_of d2
      have l3 := Later.cell_of d3
      refine wp_region_inv 14 0 (rwR bx u3 r (.slice s1 n1 c1) (.slice s2 n2 c2) (.slice s3 n3 c3)) (fun _ wx => Below w3.heap.size w3 wx) (fun u v => Below u.heap.size u v) (fun _ => 0)
        (by kernel_rfl) (by kernel_rfl) (by decide) rwR_keep (below_drew (Below.refl _ _)) ?hX
      case' hX => (apply Exists.intro; refine ⟨fun T => ?hA, ?hob, ?hend⟩)
      case hA =>
        simp only [setAll, List.take_succ_cons, List.take_zero, Act.put, List.setIfInBounds_toArray, List.set_cons_succ, List.set_cons_zero, Nat.reduceAdd]
        exact rfl
      case hob =>
        clear HO1 HP1 d0 d1 d2 d3 HT1
        go_light
        refine ⟨?_, ?_, ?_, ?_, ?_, ?_, ?_, ?_, ?_, ?_, ?_, ?_, ?_, ?_, trivial⟩
        all_goals (intro T wx n0 hC hn hp; dsimp only at hn ⊢; unfold Op1)
        · go_simp
          exact ⟨rfl, Below.refl _ _⟩
        · go_simp
          exact ⟨rfl, Below.refl _ _⟩
        · obtain ⟨h0, -⟩ := hp
          have h0 : T 1 = .pointer (some ⟨bx, 0, none⟩) := h0
          have e0 := l0 ⟨wx, hC⟩
          simp only at e0
          go_simp
          exact ⟨by show _ = _; rw [Hrp.out], Below.refl _ _⟩
        · go_simp
          exact ⟨rfl, Below.refl _ _⟩
        · obtain ⟨h0, -⟩ := hp
          have h0 : T 3 = .pointer (some ⟨bx, 1, none⟩) := h0
          have e0 := l1 ⟨wx, hC⟩
          simp only at e0
          go_simp
          exact ⟨rfl, Below.refl _ _⟩
        · obtain ⟨h0, -⟩ := hp
          have h0 : T 4 = .slice s1 n1 c1 := h0
          go_simp
          refine (HS1.out wx (HB1.out.trans (hC.mono HB1.out.size))).mono ?_
          rintro e w5 ⟨v, rfl, hO, hb⟩
          obtain ⟨a5, c5, rfl, _⟩ := hO.form
          exact ⟨_, rfl, ⟨_, _, rfl, hO.rdT⟩, hC.trans (hb.mono hC.size), hb⟩
        · go_simp
          exact ⟨rfl, Below.refl _ _⟩
        · obtain ⟨h0, -⟩ := hp
          have h0 : T 6 = .pointer (some ⟨bx, 2, none⟩) := h0
          have e0 := l2 ⟨wx, hC⟩
          simp only at e0
          go_simp
          exact ⟨rfl, Below.refl _ _⟩
        · obtain ⟨h0, -⟩ := hp
          have h0 : T 7 = .slice s2 n2 c2 := h0
          go_simp
          refine (HS2.out wx (HB1.out.trans (hC.mono HB1.out.size))).mono ?_
          rintro e w5 ⟨v, rfl, hO, hb⟩
          obtain ⟨a5, c5, rfl, _⟩ := hO.form
          exact ⟨_, rfl, ⟨_, _, rfl, hO.rdT⟩, hC.trans (hb.mono hC.size), hb⟩
        · go_simp
          exact ⟨rfl, Below.refl _ _⟩
        · obtain ⟨h0, -⟩ := hp
          have h0 : T 9 = .pointer (some ⟨bx, 3, none⟩) := h0
          have e0 := l3 ⟨wx, hC⟩
          simp only at e0
          go_simp
          exact ⟨rfl, Below.refl _ _⟩
        · obtain ⟨h0, -⟩ := hp
          have h0 : T 10 = .slice s3 n3 c3 := h0
          go_simp
          refine (HS3.out wx (HB1.out.trans (hC.mono HB1.out.size))).mono ?_
          rintro e w5 ⟨v, rfl, hO, hb⟩
          obtain ⟨a5, c5, rfl, _⟩ := hO.form
          exact ⟨_, rfl, ⟨_, _, rfl, hO.rdT⟩, hC.trans (hb.mono hC.size), hb⟩
        · obtain ⟨h0, h1, h2, h3, -⟩ := hp
          have h0 : T 2 = .int .i64 r.p := h0
          obtain ⟨a1, x1, h1, q1⟩ : ∃ ad c, T 5 = .slice ad (spn r.src).length c ∧ RdT layRg wx ad (spn r.src) := h1
          obtain ⟨a2, x2, h2, q2⟩ : ∃ ad c, T 8 = .slice ad (spn r.dst).length c ∧ RdT layRg wx ad (spn r.dst) := h2
          obtain ⟨a3, x3, h3, q3⟩ : ∃ ad c, T 11 = .slice ad r.po.length c ∧ RdT layPo wx ad r.po := h3
          have HF : Hid (FwcT wx r (r.p, (a1, (spn r.src).length, x1), (a2, (spn r.dst).length, x2), (a3, r.po.length, x3))) := Lib.hid ⟨rfl, q1, q2, q3, rfl, rfl, rfl, Hb1.out, Hb2.out, Hb3.out⟩
          clear q1 q2 q3
          go_simp
          exact ⟨⟨_, rfl, HF.out⟩, Below.refl _ _⟩
        · obtain ⟨h0, -⟩ := hp
          obtain ⟨x, h0, q⟩ : ∃ x, T 12 = .agg (layFw.enc x).toArray ∧ FwcT wx r x := h0
          have hx : (layFw.enc x).toArray = #[.int .i64 x.1, .slice x.2.1.1 x.2.1.2.1 x.2.1.2.2, .slice x.2.2.1.1 x.2.2.1.2.1 x.2.2.1.2.2, .slice x.2.2.2.1 x.2.2.2.2.1 x.2.2.2.2.2] := rfl
          rw [hx] at h0
          have HF := Lib.hid q
          clear q
          go_simp
          refine ⟨⟨wx.heap.size, x, rfl, Blk.new wx _ _, ?_⟩, below_alloc hC _, below_alloc (Below.refl _ _) _⟩
          exact HF.out.keep (S := []) (KeepT.of_below (below_alloc (Below.refl _ _) _)) (by simp) (by simp)
      case hend =>
        intro T w4 ⟨n0, hn0, hb⟩ hR
        have hT0 : T 0 = u3 := hR 0 (by omega)
        obtain ⟨B, x, hT6, hBl, hF⟩ := hR 13 (by omega)
        have HO4 := Lib.hid (HO1.out.later hb)
        have HB4 := Lib.hid (HB1.out.trans (hb.mono HB1.out.size))
        have HBl := Lib.hid hBl
        have HF := Lib.hid hF
        clear hR hb hBl hF HO1 HB1 HP1 d0 d1 d2 d3 l0 l1 l2 l3
        obtain ⟨C, hO, hCl, hCr⟩ := HO4.out
        have HCl := Lib.hid hCl
        have HCr := Lib.hid hCr
        have HCO := Lib.hid hO
        clear hO hCl hCr HO4
        simp only [List.drop_succ_cons, List.drop_zero]
        refine wpList_app (c := 1) fwE rfl (.tmp 12) (.tmp 25) rfl ?hs HCO.out ?hx (src_blk layFw x HBl.out rfl) ?c1 ?c2 ?c3 ?c4 ?_
        case hs => exact hT0
        case hx => exact hT6
        case c1 => exact layFw.one x
        case c2 => unfold maxLen; rw [HCl.out, HlT.out]; omega
        case c3 => rw [HCl.out, HlT.out]; omega
        case c4 => exact HB4.out.size
        intro v' w' hO hG
        have HO' : Hid (FwO w' w.heap.size v' (L.take (k + 1))) := Lib.hid (by rw [HT1.out]; exact FwO.snoc HCO.out HCl.out HCr.out HF.out hG (OwnK.snoc hO))
        have HB' : Hid (Below w.heap.size w w') := Lib.hid (HB4.out.trans (hG.below HB4.out.size (own_base HCO.out)))
        clear hO hG HF HBl HCO HCl HCr
        go_wp2
        exact ⟨⟨k + 1, by omega, by go_num, HO', HB'⟩, by simp [intOf]; omega⟩
    · obtain rfl : k = n := by omega
      have HO2 : Hid (FwO wr w.heap.size u3 L) := Lib.hid (by have := HO.out; rwa [List.take_of_length_le (by have := Hn.out; omega)] at this)
      go_wp2_with fail
      go_ret
      exact ⟨_, rfl, HO2.out, HB.out⟩
end Go.Proofs.YtgppbebdmbeohaaGreat
