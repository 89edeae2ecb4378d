/-
  A span of two wide numbers, built; a row of one such span.
  The reference's spansOf: the spans of prefixes, joined.
  The mark of the address laws: addressed is true. And the small functions errs, when.
-/
import Derived.Test.YtaeieigdibanlaaGreatDoorST10
import Derived.Test.YtaeieigdibanlaaGreatDoorST3
import Derived.Test.YtaeieigdibanlaaGreatDoorST5
set_option linter.unusedVariables false
namespace Go.Proofs.YtaeieigdibanlaaGreatDoor
open Go.RowKit Go
set_option linter.unusedVariables false

/-- a row of one element, run -/
theorem run_build1 {P : Program} (w : World) (t e : TypeId) (X : Array Value) (m : Nat) (hu : P.underlying t = some (.slice e)) (hi : (P.info? e).map (fun i => (i.size, i.zero.map (fun z => z.cells.size))) = some (m, some m)) (hX : X.size = m) (hpos : 0 < m) (hsmall : m ≤ 2 ^ 24) :
    (Instr.buildSlice t 1 #[(0, .agg X)]).run P w = .ok (.slice (some ⟨w.heap.size, 0, none⟩) 1 1) (w.alloc (.cells X e (0, 0))) := by
  cases hie : P.info? e with
  | none => rw [hie] at hi; cases hi
  | some ie =>
    rw [hie] at hi
    simp only [Option.map_some, Option.some.injEq, Prod.mk.injEq] at hi
    obtain ⟨h1, h2⟩ := hi
    cases hz : ie.zero with
    | none => rw [hz] at h2; cases h2
    | some z =>
      rw [hz] at h2
      simp only [Option.map_some, Option.some.injEq] at h2
      have hf := Go.Great.fill_whole (s := m) hpos [Value.agg X] ((Array.range (1 * m)).map (z.cells[· % z.cells.size]!)) (fun v hv => by rw [List.mem_singleton] at hv; subst hv; exact hX) (by simp)
      have e2 : (([Value.agg X] : List Value).flatMap fun v => v.cells.toList).toArray = X := by simp [Value.cells]
      rw [e2] at hf
      refine run_buildSlice w t e 1 #[(0, .agg X)] X ie z hu hie hz (by rw [h1]; omega) (by rw [h1]; omega) ?_
      rw [h1]
      simpa using hf
theorem row_qs (x y : Nat) (w : World) : (Instr.buildSlice 98 1 #[(0, .agg (wN x ++ wN y))]).run Tryz.prog w = .ok (.slice (some ⟨w.heap.size, 0, none⟩) 1 1) (w.alloc (.cells (wN x ++ wN y) 138 (0, 0))) :=
  run_build1 w _ _ _ 18 Tryz.underlying98 zero_qs (by rw [Array.size_append]; rfl) (by decide) (by decide)
theorem built_qs (f g : Nat → Nat) : Tryz.prog.built 138 [(0, .agg (wd f)), (1, .agg (wd g))] = some (wd f ++ wd g) := by
  kernel_rfl
theorem build_qs (x y : Nat) (w : World) : (Instr.build 138 #[(0, .agg (wN x)), (1, .agg (wN y))]).run Tryz.prog w = .ok (.agg (wN x ++ wN y)) w :=
  run_build w _ _ _ (built_qs _ _)
theorem exec_build {P : Program} {ρ : Operand → Value} {o : Oper} {w w' : World} {v : Value} (t : TypeId) (parts : Array (Nat × Operand)) (ho : o.op = .build t parts) (q : Array (Nat × Value)) (hq : (parts.map fun (i, x) => (i, ρ x)) = q) (hr : (Instr.build t q).run P w = .ok v w') : (execOp ρ o).run P w = .ok (.value v) w' := by
  subst hq
  unfold execOp
  simp only [ho, Sem.run_bind, hr, Result.andThen_ok, Sem.run_pure]
theorem exec_row {P : Program} {ρ : Operand → Value} {o : Oper} {w w' : World} {v : Value} (t : TypeId) (n : Nat) (parts : Array (Nat × Operand)) (ho : o.op = .buildSlice t n parts) (q : Array (Nat × Value)) (hq : (parts.map fun (i, x) => (i, ρ x)) = q) (hr : (Instr.buildSlice t n q).run P w = .ok v w') : (execOp ρ o).run P w = .ok (.value v) w' := by
  subst hq
  unfold execOp
  simp only [ho, Sem.run_bind, hr, Result.andThen_ok, Sem.run_pure]
end Go.Proofs.YtaeieigdibanlaaGreatDoor

namespace Go.Proofs.YtaeieigdibanlaaGreatDoor
open Go.RowKit Go
set_option linter.unusedVariables false

/-- what the region of 'append(all, span{of(..), lastOf(..)})' has yielded -/
def spQ (bx : Nat) (out : Value) (pa P1 pf P2 : Array Value) : Nat → Value → World → Prop
  | 0, v, _ => v = out
  | 1, v, _ => v = .pointer (some ⟨bx, 0, none⟩)
  | 2, v, _ => v = .agg pa
  | 3, v, _ => v = .agg P1
  | 4, v, _ => v = .agg pf
  | 5, v, _ => v = .agg P2
  | 6, v, _ => v = .agg (P1 ++ P2)
  | _, v, w => ∃ B, v = .slice (some ⟨B, 0, none⟩) 1 1 ∧ Blk w B 138 (P1 ++ P2)
theorem spQ_keep {bx : Nat} {out : Value} {pa P1 pf P2 : Array Value} (p : Nat) (v : Value) (u w : World) (h : spQ bx out pa P1 pf P2 p v u) (hb : Below u.heap.size u w) : spQ bx out pa P1 pf P2 p v w := by
  rcases p with _ | _ | _ | _ | _ | _ | _ | p
  all_goals first | exact h | (obtain ⟨B, h1, h2⟩ := h; exact ⟨B, h1, h2.below hb h2.lt⟩)
set_option maxRecDepth 100000 in
set_option maxHeartbeats 2000000 in
theorem spansOf_any (ad : Option Addr) (n c : Nat) (L : List Pf) (w : World) (h : RdK layPf w ad L) (hn : L.length = n) (hs : n ≤ 100000) (hv : ∀ p ∈ L, OkPf p) :
    Calls Tryz.prog 71 #[.slice ad n c] w fun e w' => ∃ v, e = .returned v ∧ OwnK layQs w' w.heap.size v (jn (L.map spP)) ∧ Below w.heap.size w w' := by
  have Hv := Lib.hid hv
  have H0 := Lib.hid h
  have Hn := Lib.hid hn
  clear h hn hv
  go_enter Tryz.func71, Tryz.ntmps71
  go_wp2_with fail
  go_loopw [3, 5, 8] (fun out bx i wr => ∃ k : Nat, k ≤ n ∧ i = .int .i64 (k : Int) ∧ Hid (OwnK layQs wr w.heap.size out ((L.take k).map spP)) ∧ Hid (Below w.heap.size w wr)) (fun _ _ i _ => n - (intOf i).toNat)
  case atStart => exact ⟨0, Nat.zero_le _, rfl, Lib.hid (OwnK.nil _ _ _), Lib.hid (Below.refl _ _)⟩
  case round =>
    obtain ⟨k, hk, rfl, HO, HB⟩ := hrel
    by_cases hlt : k < n
    · have hS : k < L.length := by rw [Hn.out]; exact hlt
      obtain ⟨p, hp⟩ : ∃ p, L[k]? = some p := ⟨_, List.getElem?_eq_getElem hS⟩
      have hok := Hv.out p (List.mem_of_getElem? hp)
      obtain ⟨a1, a2, a3, a4, hpc, hpn, hpa⟩ := pf_cells hok
      obtain ⟨g, o, had, hg, c0, c1, c2, c3⟩ := (H0.out.below HB.out).pf hp hpc
      subst had
      have HT1 : Hid ((L.take (k + 1)).map spP = (L.take k).map spP ++ [spP p]) := Lib.hid (by
        have : L[k] = p := by rw [List.getElem?_eq_getElem hS] at hp; injection hp
        rw [List.take_succ_eq_append_getElem hS, List.map_append, this]; rfl)
      have HL := Lib.hid fun wx => lastOfN (n := p.2.2.2.toNat) wx hok.num.1 hok.bits
      rw [hpn] at HL
      have HF := Lib.hid fun wx => ofN wx hok.num.1
      rw [hpa] at HF
      have HE : Hid (layQs.enc (spP p) = (wN (nuP p) ++ wN (fil (nuP p) (LN (nuP p) - p.2.2.2.toNat))).toList) := Lib.hid rfl
      have HBd := Lib.hid fun wx => build_qs (nuP p) (fil (nuP p) (LN (nuP p) - p.2.2.2.toNat)) wx
      have HRw := Lib.hid fun wx => row_qs (nuP p) (fil (nuP p) (LN (nuP p) - p.2.2.2.toNat)) wx
      generalize spP p = sp at *
      have hlen : ((L.take k).map spP).length = k := by rw [List.length_map, List.length_take]; omega
      have HLn := Lib.hid hlen
      generalize wN (nuP p) = P1 at *
      generalize wN (fil (nuP p) (LN (nuP p) - p.2.2.2.toNat)) = P2 at *
      clear hp hS hok hpc hpn hpa hlen
      have HB1 : Hid (Below w.heap.size w (wr.alloc (.cells #[.bool a1, .int .u64 (a2 : Int), .int .u64 (a3 : Int), .int .i64 (a4 : Int)] 90 (0, 0)))) := Lib.hid (Below.alloc HB.out HB.out.size _)
      have HP1 : Hid (Blk (wr.alloc (.cells #[.bool a1, .int .u64 (a2 : Int), .int .u64 (a3 : Int), .int .i64 (a4 : Int)] 90 (0, 0))) wr.heap.size 90 #[.bool a1, .int .u64 (a2 : Int), .int .u64 (a3 : Int), .int .i64 (a4 : Int)]) := Lib.hid (Blk.new wr _ _)
      have HO1 : Hid (OwnK layQs (wr.alloc (.cells #[.bool a1, .int .u64 (a2 : Int), .int .u64 (a3 : Int), .int .i64 (a4 : Int)] 90 (0, 0))) w.heap.size u3 ((L.take k).map spP)) := Lib.hid (HO.out.alloc _)
      go_upto_region 5 with fail
      generalize wr.alloc (.cells #[.bool a1, .int .u64 (a2 : Int), .int .u64 (a3 : Int), .int .i64 (a4 : Int)] 90 (0, 0)) = w3 at *
      generalize wr.heap.size = bx at *
      clear HB HO c0 c1 c2 c3 hg
      have d0 := HP1.out.cell 0
      have d1 := HP1.out.cell 1
      have d2 := HP1.out.cell 2
      have d3 := HP1.out.cell 3
      simp at d0 d1 d2 d3
      have l0 := Later.cell_of d0
      have l1 := Later.cell_of d1
      have l2 := Later.cell_of d2
      have l3 := Later.cell_of d3
      have HO6 := HO1
      generalize hLL : (L.take k).map spP = LL at *
      clear hLL
      refine wp_region_inv 8 0 (spQ bx u3 #[.bool a1, .int .u64 (a2 : Int), .int .u64 (a3 : Int)] P1 #[.bool a1, .int .u64 (a2 : Int), .int .u64 (a3 : Int), .int .i64 (a4 : Int)] P2) (fun _ w' => Below w3.heap.size w3 w') (fun u v => Below u.heap.size u v) (fun _ => 0)
        (by kernel_rfl) (by kernel_rfl) (by decide) spQ_keep (below_drew (Below.refl _ _)) ?hX
      case' hX => (apply Exists.intro; refine ⟨fun T => ?hA, ?hob, ?hend⟩)
      case hA =>
        simp only [setAll, List.take_succ_cons, List.take_zero, Act.put, List.setIfInBounds_toArray, List.set_cons_succ, List.set_cons_zero, Nat.reduceAdd]
        exact rfl
      case hob =>
        clear HO1 HB1 HP1 HO6 d0 d1 d2 d3 HT1 HE HLn
        go_light
        refine ⟨?_, ?_, ?_, ?_, ?_, ?_, ?_, ?_, trivial⟩
        all_goals (intro T wx n0 hC hn hp; dsimp only at hn ⊢; unfold Op1)
        · go_simp
          exact ⟨rfl, Below.refl _ _⟩
        · go_simp
          exact ⟨rfl, Below.refl _ _⟩
        · obtain ⟨h0, -⟩ := hp
          have h0 : T 1 = .pointer (some ⟨bx, 0, none⟩) := h0
          have e0 := l0 ⟨wx, hC⟩
          have e1 := l1 ⟨wx, hC⟩
          have e2 := l2 ⟨wx, hC⟩
          simp only at e0 e1 e2
          go_simp
          exact ⟨rfl, Below.refl _ _⟩
        · obtain ⟨h0, -⟩ := hp
          have h0 : T 2 = .agg #[.bool a1, .int .u64 (a2 : Int), .int .u64 (a3 : Int)] := h0
          go_simp
          refine (HF.out wx).mono ?_
          rintro e w5 ⟨rfl, hb⟩
          exact ⟨_, rfl, rfl, hC.trans (hb.mono hC.size), hb⟩
        · have e0 := l0 ⟨wx, hC⟩
          have e1 := l1 ⟨wx, hC⟩
          have e2 := l2 ⟨wx, hC⟩
          have e3 := l3 ⟨wx, hC⟩
          simp only at e0 e1 e2 e3
          go_simp
          exact ⟨rfl, Below.refl _ _⟩
        · obtain ⟨h0, -⟩ := hp
          have h0 : T 4 = .agg #[.bool a1, .int .u64 (a2 : Int), .int .u64 (a3 : Int), .int .i64 (a4 : Int)] := h0
          go_simp
          refine (HL.out wx).mono ?_
          rintro e w5 ⟨rfl, hb⟩
          exact ⟨_, rfl, rfl, hC.trans (hb.mono hC.size), hb⟩
        · obtain ⟨h0, h1, -⟩ := hp
          have h0 : T 3 = .agg P1 := h0
          have h1 : T 5 = .agg P2 := h1
          rw [exec_build _ _ rfl #[(0, .agg P1), (1, .agg P2)] (by rw [← h0, ← h1]; simp [Act.eval]) (HBd.out wx)]
          exact ⟨rfl, hC, Below.refl _ _⟩
        · obtain ⟨h0, -⟩ := hp
          have h0 : T 6 = .agg (P1 ++ P2) := h0
          rw [exec_row _ _ _ rfl #[(0, .agg (P1 ++ P2))] (by rw [← h0]; simp [Act.eval]) (HRw.out wx)]
          exact ⟨⟨wx.heap.size, rfl, Blk.new wx _ _⟩, below_alloc hC _, below_alloc (Below.refl _ _) _⟩
      case hend =>
        intro T w4 ⟨n0, hn0, hb⟩ hR
        have hT0 : T 0 = u3 := hR 0 (by omega)
        obtain ⟨B, hT6, hBl⟩ := hR 7 (by omega)
        have HO4 := Lib.hid (HO1.out.later hb)
        have HB4 := Lib.hid (HB1.out.trans (hb.mono HB1.out.size))
        have HBl := Lib.hid hBl
        clear hR hb hBl HO1 HB1 HP1 HO6 d0 d1 d2 d3 l0 l1 l2 l3
        simp only [List.drop_succ_cons, List.drop_zero]
        refine wpList_app (c := 1) qsE rfl (.tmp 12) (.tmp 19) rfl ?hs HO4.out ?hx (src_blk layQs sp HBl.out ?c0) ?c1 ?c2 ?c3 ?c4 ?_
        case hs => exact hT0
        case hx => exact hT6
        case c0 => exact (by rw [HE.out])
        case c1 => exact layQs.one sp
        case c2 => unfold maxLen; rw [HLn.out]; omega
        case c3 => rw [HLn.out]; omega
        case c4 => exact HB4.out.size
        intro v' w' hO hG
        have HO' : Hid (OwnK layQs w' w.heap.size v' ((L.take (k + 1)).map spP)) := Lib.hid (by rw [HT1.out]; exact OwnK.snoc hO)
        have HB' : Hid (Below w.heap.size w w') := Lib.hid (HB4.out.trans (hG.below HB4.out.size (own_base HO4.out)))
        clear hO hG
        go_wp2
        exact ⟨⟨k + 1, by omega, by go_num, HO', HB'⟩, by simp [intOf]; omega⟩
    · obtain rfl : k = n := by omega
      have hT : L.take k = L := List.take_of_length_le (by rw [Hn.out]; exact Nat.le_refl _)
      have HO2 : Hid (OwnK layQs wr w.heap.size u3 (L.map spP)) := Lib.hid (by have := HO.out; rw [hT] at this; exact this)
      obtain ⟨ad2, c2, hv2, _, _, _⟩ := HO2.out.form
      rw [List.length_map, Hn.out] at hv2
      subst hv2
      have HJ := Lib.hid (qjoined_any ad2 k c2 (L.map spP) wr HO2.out.rd (by rw [List.length_map, Hn.out]) (by omega) (fun p hp => by
        obtain ⟨q, hq, rfl⟩ := List.mem_map.1 hp
        exact (Hv.out q hq).vr))
      clear hT HO HO2
      go_wp2_with fail
      refine HJ.out.mono ?_
      rintro e w2 ⟨v, rfl, hO, hb⟩
      go_wp2_with fail
      go_ret
      exact ⟨_, rfl, hO.weak HB.out.size, HB.out.trans (hb.mono HB.out.size)⟩
end Go.Proofs.YtaeieigdibanlaaGreatDoor

namespace Go.Proofs.YtaeieigdibanlaaGreatDoor
open Go.RowKit Go
set_option linter.unusedVariables false

theorem iFmtU_small (i : Nat) (h : i < 100) (w : World) : Calls Tryz.prog 157 #[.int .u64 (i : Int), .int .i64 10] w fun e w' => e = .returned (.string ⟨(Lib.decDigits i).toArray⟩) ∧ w' = w := by
  have hc := Tryz.internal_strconv_small i h w
  generalize Lib.decDigits i = s at *
  have hi : (i : Int) < 100 := by omega
  have e1 : IntKind.i64.wrap (i : Int) = (i : Int) := by rw [IntKind.wrap_i64]; omega
  have Hc := Lib.hid hc
  clear hc
  go_enter Tryz.func157, Tryz.ntmps157
  go_wp2_with fail
  refine Hc.out.mono ?_
  rintro e w' ⟨rfl, rfl⟩
  go_wp2_with fail
  go_ret
  exact ⟨rfl, rfl⟩
theorem fmtU_small (i : Nat) (h : i < 100) (w : World) : Calls Tryz.prog 129 #[.int .u64 (i : Int), .int .i64 10] w fun e w' => e = .returned (.string ⟨(Lib.decDigits i).toArray⟩) ∧ w' = w := by
  have hc := iFmtU_small i h w
  generalize Lib.decDigits i = s at *
  have Hc := Lib.hid hc
  clear hc
  go_enter Tryz.func129, Tryz.ntmps129
  go_wp2_with fail
  refine Hc.out.mono ?_
  rintro e w' ⟨rfl, rfl⟩
  go_wp2_with fail
  go_ret
  exact ⟨rfl, rfl⟩
/-- an own row of strings -/
def encSs (L : List ByteArray) : List Value := L.map Value.string
def OwnS (w : World) (base : Nat) (v : Value) (L : List ByteArray) : Prop := w.ownsRow base 9 1 v L.length (encSs L)
theorem strE : EI Tryz.prog 71 9 1 16 := EI.mk' (z := .string ⟨#[]⟩) Tryz.underlying71 (by kernel_rfl) rfl (by decide)
theorem OwnS.nil (w : World) (base : Nat) : OwnS w base (.slice none 0 0) [] := World.ownsRow_nil w base _ 1
theorem OwnS.later {w w' : World} {base : Nat} {v : Value} {L : List ByteArray} (h : OwnS w base v L) (hb : Below w.heap.size w w') : OwnS w' base v L := own_later h hb
theorem OwnS.snoc {w : World} {B : Nat} {v : Value} {L : List ByteArray} {s : ByteArray} (h : w.ownsRow B 9 1 v (L.length + 1) (encSs L ++ [.string s])) : OwnS w B v (L ++ [s]) := by
  show w.ownsRow _ _ _ _ _ _
  rw [List.length_append, encSs, List.map_append]
  exact h
theorem OwnS.one {w : World} {B : Nat} {v : Value} {L : List ByteArray} (h : OwnS w B v L) (hl : 1 ≤ L.length) :
    ∃ g c, v = .slice (some ⟨g, 0, none⟩) L.length c ∧ B ≤ g ∧ g < w.heap.size ∧ L.length ≤ c ∧ c ≤ maxLen ∧ ∀ (j : Nat) x, L[j]? = some x → w.cell? ⟨g, j, none⟩ = some (.string x) := by
  rcases h.2 with ⟨rfl, h0⟩ | ⟨g, cap, cur, rfl, hb, hg, hc, hm, hs, ht⟩
  · omega
  · refine ⟨g, cap, rfl, hb, lt_of_block hg, hc, hm, fun j x hx => ?_⟩
    have hj : j < L.length := by
      rcases Nat.lt_or_ge j L.length with h | h
      · exact h
      · rw [List.getElem?_eq_none h] at hx; cases hx
    rw [cell_of_row w g _ _ _ _ hg]
    have h2 : (encSs L)[j]? = some (.string x) := by simp [encSs, hx]
    rw [← ht, List.getElem?_take, if_pos (by omega), Array.getElem?_toList] at h2
    exact h2
set_option maxRecDepth 100000 in
set_option maxHeartbeats 1000000 in
theorem textOf_one (w : World) : Calls Tryz.prog 132 #[.agg #[.bool false, .int .u64 0, .int .u64 1]] w (Ret (.string ⟨#[48, 46, 48, 46, 48, 46, 49]⟩) w) := by
  have h0 := fun w => fmtU_small 0 (by decide) w
  have h1 := fun w => fmtU_small 1 (by decide) w
  rw [show Lib.decDigits 0 = [48] by rw [Lib.decDigits]; rfl] at h0
  rw [show Lib.decDigits 1 = [49] by rw [Lib.decDigits]; rfl] at h1
  have H0 := Lib.hid h0
  have H1 := Lib.hid h1
  clear h0 h1
  have b0 : Go.bits .and .u64 0 255 = 0 := by decide
  have b1 : Go.bits .and .u64 1 255 = 1 := by decide
  have HP : Hid (Blk (w.alloc (.cells #[.bool false, .int .u64 0, .int .u64 1] 33 (0, 0))) w.heap.size 33 #[.bool false, .int .u64 0, .int .u64 1]) := Lib.hid (Blk.new w _ _)
  have HB : Hid (Below w.heap.size w (w.alloc (.cells #[.bool false, .int .u64 0, .int .u64 1] 33 (0, 0)))) := Lib.hid (below_alloc (Below.refl _ _) _)
  go_enter Tryz.func132, Tryz.ntmps132
  go_upto_region 1 with fail
  generalize w.alloc (.cells #[.bool false, .int .u64 0, .int .u64 1] 33 (0, 0)) = w0 at *
  have p0 := HP.out.cell 0
  simp at p0
  go_wp2
  go_loopw [3, 4, 14] (fun v iv i wr => ∃ k : Nat, k ≤ 4 ∧ i = .int .i64 k ∧ Hid (OwnS wr w0.heap.size v (([⟨#[48]⟩, ⟨#[48]⟩, ⟨#[48]⟩, ⟨#[49]⟩] : List ByteArray).take k)) ∧ Hid (Below w0.heap.size w0 wr)) (fun _ _ i _ => 4 - (intOf i).toNat)
  case atStart => exact ⟨0, Nat.zero_le _, rfl, Lib.hid (OwnS.nil _ _), Lib.hid (Below.refl _ _)⟩
  case round =>
    clear p0
    obtain ⟨k, hk, rfl, HO, HBr⟩ := hrel
    have p2 := (HP.out.below HBr.out HP.out.lt).cell 2
    simp at p2
    by_cases hlt : k < 4
    · have hk4 : k = 0 ∨ k = 1 ∨ k = 2 ∨ k = 3 := by omega
      rcases hk4 with rfl | rfl | rfl | rfl
      all_goals
        go_wp2_with fail
        first
          | (refine (H0.out _).mono ?_)
          | (refine (H1.out _).mono ?_)
        rintro e w' ⟨rfl, rfl⟩
        go_wp2_with (at_builtin; refine wpList_app strE rfl (.tmp 17) (.tmp 26) rfl rfl (World.ownsRow.alloc HO.out _) rfl (src_one_new _ _ _) ?c1 ?c2 ?c3 ?c4 ?_)
        case c1 => first | rfl | (intro u hu; simp at hu; subst hu; rfl)
        case c2 => unfold maxLen; simp
        case c3 => simp
        case c4 => have := HBr.out.size; simp; omega
        intro v' w2 hO hG
        have HO' := Lib.hid (OwnS.snoc hO)
        have HB' : Hid (Below w0.heap.size w0 w2) := Lib.hid ((Below.alloc HBr.out HBr.out.size _).trans (hG.below (by have := HBr.out.size; simp; omega) (own_base HO.out)))
        clear hO hG p2
        go_wp2
        exact ⟨⟨_, by decide, rfl, HO', HB'⟩, by simp [intOf]⟩
    · obtain rfl : k = 4 := by omega
      obtain ⟨g, c, hv, _, hg, hc, _, hcell⟩ := HO.out.one (by decide)
      rw [show (([⟨#[48]⟩, ⟨#[48]⟩, ⟨#[48]⟩, ⟨#[49]⟩] : List ByteArray).take 4) = [⟨#[48]⟩, ⟨#[48]⟩, ⟨#[48]⟩, ⟨#[49]⟩] from rfl] at hcell
      have hv' : u3 = .slice (some ⟨g, 0, none⟩) 4 c := hv
      have hc' : 4 ≤ c := hc
      clear hv hc
      subst hv'
      have hJ := Tryz.strings_Join g 0 c [⟨#[48]⟩, ⟨#[48]⟩, ⟨#[48]⟩, ⟨#[49]⟩] ⟨#[46]⟩ wr (fun j x hx => by rw [Nat.zero_add]; exact hcell j x hx) hg (by decide) hc' (by decide)
      rw [show (⟨(Lib.join (([⟨#[48]⟩, ⟨#[48]⟩, ⟨#[48]⟩, ⟨#[49]⟩] : List ByteArray).map (·.data.toList)) (⟨#[46]⟩ : ByteArray).data.toList).toArray⟩ : ByteArray) = ⟨#[48, 46, 48, 46, 48, 46, 49]⟩ by decide] at hJ
      have HJ := Lib.hid hJ
      clear hJ hcell p2
      go_wp2_with fail
      refine HJ.out.mono ?_
      rintro e w' ⟨rfl, hb⟩
      go_wp2_with fail
      go_ret
      exact ⟨rfl, HB.out.trans ((HBr.out.trans (hb.mono HBr.out.size)).mono HB.out.size)⟩
set_option maxRecDepth 100000 in
theorem addressed_any (w : World) : Calls Tryz.prog 38 #[] w (Ret (.bool true) w) := by
  have hT : ∀ w, Calls Tryz.prog 88 #[.agg #[.bool false, .int .u64 0, .int .u64 1]] w (Ret (.tuple #[.string ⟨#[48, 46, 48, 46, 48, 46, 49]⟩, .int .i64 0]) w) := fun w => by
    have HC := Lib.hid fun wx => checkAddr_any false 0 1 wx ⟨by decide, by decide⟩ ⟨by decide, by decide⟩
    have HT := Lib.hid fun wx => textOf_one wx
    have HP : Hid (Blk (w.alloc (.cells #[.bool false, .int .u64 0, .int .u64 1] 33 (0, 0))) w.heap.size 33 #[.bool false, .int .u64 0, .int .u64 1]) := Lib.hid (Blk.new w _ _)
    have HB : Hid (Below w.heap.size w (w.alloc (.cells #[.bool false, .int .u64 0, .int .u64 1] 33 (0, 0)))) := Lib.hid (below_alloc (Below.refl _ _) _)
    go_enter Tryz.func88, Tryz.ntmps88
    go_upto_region 1 with fail
    generalize w.alloc (.cells #[.bool false, .int .u64 0, .int .u64 1] 33 (0, 0)) = w0 at *
    have p0 := HP.out.cell 0
    have p1 := HP.out.cell 1
    have p2 := HP.out.cell 2
    simp at p0 p1 p2
    go_wp2_with fail
    refine (HC.out _).mono ?_
    rintro e w' ⟨rfl, o, rfl⟩
    have q0 := (HP.out.alloc o).cell 0
    have q1 := (HP.out.alloc o).cell 1
    have q2 := (HP.out.alloc o).cell 2
    simp at q0 q1 q2
    have ha : aFault false 0 1 = 0 := by decide
    go_wp2_with fail
    refine (HT.out _).mono ?_
    rintro e w2 ⟨rfl, hb⟩
    go_wp2_with fail
    go_ret2
    exact ⟨rfl, (below_alloc HB.out o).trans (hb.mono (by have := HB.out.size; simp; omega))⟩
  have HT := Lib.hid hT
  clear hT
  go_enter Tryz.func38, Tryz.ntmps38
  go_wp2_with fail
  refine (HT.out _).mono ?_
  rintro e w2 ⟨rfl, hb⟩
  go_wp2
  go_ret
  exact ⟨rfl, hb⟩
def firstE : List Int → Int
  | [] => 0
  | x :: l => if x ≠ 0 then x else firstE l
theorem firstE_hit : ∀ {l : List Int} {k : Nat}, k < l.length → (∀ j, j < k → l.getD j 0 = 0) → l.getD k 0 ≠ 0 → firstE l = l.getD k 0
  | [], k, h, _, _ => absurd h (Nat.not_lt_zero _)
  | x :: l, 0, h, _, h2 => by simp at h2 ⊢; simp [firstE, h2]
  | x :: l, k + 1, h, h1, h2 => by
    have h0 : x = 0 := h1 0 (by omega)
    rw [firstE, if_neg (by simp [h0])]
    have := firstE_hit (l := l) (k := k) (by simpa using h) (fun j hj => by have := h1 (j + 1) (by omega); simpa using this) (by simpa using h2)
    rw [this]; simp
theorem firstE_none : ∀ {l : List Int}, (∀ j, j < l.length → l.getD j 0 = 0) → firstE l = 0
  | [], _ => rfl
  | x :: l, h => by
    have h0 : x = 0 := h 0 (by simp)
    rw [firstE, if_neg (by simp [h0])]
    exact firstE_none fun j hj => by have := h (j + 1) (by simpa using hj); simpa using this
set_option maxHeartbeats 1000000 in
theorem errs_any (g n c : Nat) (zs : List Int) (w : World) (hz : RdInts w g 0 n zs) (hn : n ≤ 1000) :
    Calls Tryz.prog 14 #[.slice (some ⟨g, 0, none⟩) n c] w fun e w' => e = .returned (.int .i64 (firstE zs)) ∧ w' = w := by
  obtain ⟨hl, hg, hc⟩ := hz
  have Hc := Lib.hid hc
  have Hl := Lib.hid hl
  clear hc hl
  go_enter Tryz.func14, Tryz.ntmps14
  go_wp2
  go_loop [4, 7] (fun e i => ∃ k : Nat, k ≤ n ∧ i = .int .i64 k ∧ Hid (∀ j, j < k → zs.getD j 0 = 0)) (fun _ i => n - (intOf i).toNat)
  case atStart => exact ⟨0, Nat.zero_le _, rfl, Lib.hid fun j hj => absurd hj (Nat.not_lt_zero _)⟩
  case round =>
    obtain ⟨k, hk, rfl, HX⟩ := hrel
    by_cases hlt : k < n
    · have hcell := Hc.out k hlt
      rw [Nat.zero_add] at hcell
      by_cases h0 : zs.getD k 0 = 0
      · rw [h0] at hcell
        have H0 := Lib.hid h0
        clear h0
        go_wp2
        refine ⟨⟨k + 1, by omega, by go_num, Lib.hid fun j hj => ?_⟩, by simp [intOf]; omega⟩
        rcases Nat.lt_or_ge j k with h | h
        · exact HX.out j h
        · obtain rfl : j = k := by omega
          exact H0.out
      · have H0 : Hid (firstE zs = zs.getD k 0) := Lib.hid (firstE_hit (by rw [Hl.out]; exact hlt) HX.out h0)
        generalize zs.getD k 0 = z at *
        have h1 : (z != 0) = true := by simpa using h0
        go_wp2
        go_ret
        exact ⟨by rw [H0.out]; rfl, rfl⟩
    · obtain rfl : k = n := by omega
      have H0 : Hid (firstE zs = 0) := Lib.hid (firstE_none fun j hj => HX.out j (by rw [← Hl.out]; exact hj))
      go_wp2
      go_ret
      exact ⟨by rw [H0.out]; rfl, rfl⟩
end Go.Proofs.YtaeieigdibanlaaGreatDoor
