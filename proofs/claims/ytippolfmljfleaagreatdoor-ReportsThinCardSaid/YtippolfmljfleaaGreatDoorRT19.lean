/-
  The reference's HideOf = hidP. Condition: at most twenty reports, bits of right numbers.
-/
import Derived.Test.YtippolfmljfleaaGreatDoorRT18
set_option linter.unusedVariables false
namespace Go.Proofs.YtippolfmljfleaaGreatDoor
open Go.RowKit Go
set_option linter.unusedVariables false

/-- what the drawn region of HideOf has yielded -/
def hqR (bx : Nat) (F A1 A2 R1 R2 : Value) : Nat → Value → Nat → World → Prop
  | 0, v, _, _ => v = F
  | 1, v, _, _ => v = .pointer (some ⟨bx, 3, none⟩)
  | 2, v, _, _ => v = .pointer (some ⟨bx, 4, none⟩)
  | 3, v, _, _ => v = A1
  | 4, v, _, _ => v = R1
  | 5, v, _, _ => v = F
  | 6, v, _, _ => v = .pointer (some ⟨bx, 3, none⟩)
  | 7, v, _, _ => v = .pointer (some ⟨bx, 7, none⟩)
  | 8, v, _, _ => v = A2
  | 9, v, _, _ => v = R2
  | 10, v, _, _ => v = .pointer (some ⟨bx, 3, none⟩)
  | 11, v, _, _ => v = .pointer (some ⟨bx, 4, none⟩)
  | 12, _, n, _ => n = 1
  | 13, v, _, _ => v = .pointer (some ⟨bx, 3, none⟩)
  | 14, v, _, _ => v = .pointer (some ⟨bx, 7, none⟩)
  | _, _, _, _ => True
/-- the world in its phases: as it was; the first store is done -/
def hqC (w3 : World) (Q : World → Prop) (n : Nat) (w : World) : Prop := (n = 0 → Below w3.heap.size w3 w) ∧ (n ≠ 0 → Q w)
def hqS (n : Nat) (_ : World) (n' : Nat) (_ : World) : Prop := n ≤ n' ∧ n' ≤ 1
theorem hqR_keep {bx : Nat} {F A1 A2 R1 R2 : Value} (p : Nat) (v : Value) (n : Nat) (u : World) (m : Nat) (w : World) (h : hqR bx F A1 A2 R1 R2 p v n u) (hb : hqS n u m w) : hqR bx F A1 A2 R1 R2 p v m w := by
  rcases p with _ | _ | _ | _ | _ | _ | _ | _ | _ | _ | _ | _ | _ | _ | _ | p
  all_goals first
    | exact h
    | (have h : n = 1 := h
       have h1 := hb.1
       have h2 := hb.2
       show m = 1
       omega)
theorem hide_cells (b4 b6 : Nat) (x : RB) : ((((((layRb.enc x).toArray.setIfInBounds 4 (.bool x.1.f.s1)).setIfInBounds 5 (.int .u64 (hHi x.1.f.s1 x.1.f.h1 b4 b6 : Int))).setIfInBounds 6 (.int .u64 (hLo x.1.f.s1 x.1.f.l1 b4 b6 : Int))).setIfInBounds 7 (.bool x.1.f.s2)).setIfInBounds 8 (.int .u64 (hHi x.1.f.s2 x.1.f.h2 b4 b6 : Int))).setIfInBounds 9 (.int .u64 (hLo x.1.f.s2 x.1.f.l2 b4 b6 : Int)) = (layRb.enc (hideR b4 b6 x)).toArray := rfl
theorem map_take {L : List RB} {k : Nat} {x : RB} (f : RB → RB) (h : L[k]? = some x) : (L.take (k + 1)).map f = (L.take k).map f ++ [f x] := by
  obtain ⟨hk, rfl⟩ := List.getElem?_eq_some_iff.1 h
  rw [List.take_succ_eq_append_getElem hk, List.map_append]
  rfl
set_option maxRecDepth 100000 in
set_option maxHeartbeats 8000000 in
theorem hideOf_any (ad : Option Addr) (n c : Nat) (L : List RB) (b4 b6 : Int) (w : World) (h : RdK layRb w ad L) (hn : L.length = n) (hs : n ≤ 20) (h4 : 0 ≤ b4 ∧ b4 ≤ 32) (h6 : 0 ≤ b6 ∧ b6 ≤ 128) :
    Calls Tryz.prog 18 #[.slice ad n c, .int .i64 b4, .int .i64 b6] w fun e w' => ∃ v, e = .returned v ∧ OwnK layRb w' w.heap.size v (hidP b4 b6 L) ∧ Below w.heap.size w w' := by
  have HR0 := Lib.hid ((h.below (below_alloc (Below.refl _ _) (.cells #[.int .i64 b4] 3 (0, 0)))).below (below_alloc (Below.refl _ _) (.cells #[.int .i64 b6] 3 (0, 0))))
  have Hn := Lib.hid hn
  have Hb4 := Lib.hid h4
  have Hb6 := Lib.hid h6
  have H4 : Hid (Blk ((w.alloc (.cells #[.int .i64 b4] 3 (0, 0))).alloc (.cells #[.int .i64 b6] 3 (0, 0))) w.heap.size 3 #[.int .i64 b4]) := Lib.hid ((Blk.new w _ _).alloc _)
  have H6 : Hid (Blk ((w.alloc (.cells #[.int .i64 b4] 3 (0, 0))).alloc (.cells #[.int .i64 b6] 3 (0, 0))) (w.heap.size + 1) 3 #[.int .i64 b6]) := Lib.hid (by
    have this := Blk.new (w.alloc (.cells #[.int .i64 b4] 3 (0, 0))) 3 #[.int .i64 b6]
    rw [World.size_alloc] at this
    exact this)
  have HB0 : Hid (Below w.heap.size w ((w.alloc (.cells #[.int .i64 b4] 3 (0, 0))).alloc (.cells #[.int .i64 b6] 3 (0, 0)))) := Lib.hid (below_alloc (below_alloc (Below.refl _ _) _) _)
  have eg : ∀ args w, (callFunc 50 args).run Tryz.prog w = .ok (.enter 50 args) w := Go.Proofs.enters_of Tryz.func50 (by kernel_rfl) rfl
  have Heg := Lib.hid eg
  clear h hn h4 h6 eg
  go_enter Tryz.func18, Tryz.ntmps18
  go_upto_region 2 with fail
  generalize (w.alloc (.cells #[.int .i64 b4] 3 (0, 0))).alloc (.cells #[.int .i64 b6] 3 (0, 0)) = w1 at *
  obtain ⟨p4, hp4⟩ : ∃ q, w.heap.size = q := ⟨_, rfl⟩
  have Hp4 := Lib.hid hp4
  rw [hp4] at H4 H6 HB0 ⊢
  clear hp4
  have HC := Lib.hid fun (s : Bool) (h l : Int) wx (hu : U64 h) (lu : U64 l) (hb : Below w1.heap.size w1 wx) => hideOf1_any s h l b4 b6 (p4 + 1) p4 wx hu lu Hb4.out Hb6.out (H6.out.below hb H6.out.lt) (H4.out.below hb H4.out.lt)
  go_wp2_with fail
  go_loopw [8, 14] (fun out i wr => ∃ k : Nat, k ≤ n ∧ i = .int .i64 (k : Int) ∧ Hid (OwnK layRb wr w1.heap.size out ((L.take k).map (hideR b4.toNat b6.toNat))) ∧ Hid (Below w1.heap.size w1 wr)) (fun _ i _ => n - (intOf i).toNat)
  case atStart => exact ⟨0, Nat.zero_le _, rfl, Lib.hid (OwnK.nil _ _ _), Lib.hid (Below.refl _ _)⟩
  case round =>
    obtain ⟨k, hk, rfl, HO, HB⟩ := hrel
    by_cases hlt : k < n
    · obtain ⟨x, hx⟩ : ∃ x, L[k]? = some x := ⟨_, List.getElem?_eq_getElem (by rw [Hn.out]; exact hlt)⟩
      have HMp := Lib.hid (map_take (hideR b4.toNat b6.toNat) hx)
      have hml : ((L.take k).map (hideR b4.toNat b6.toNat)).length = k := by
        have := Hn.out
        rw [List.length_map, List.length_take]; omega
      obtain ⟨g, o, had, hg, hc⟩ := (HR0.out.below HB.out) k x hx
      have HRx : Hid (wr.rangeAt g (o + k * 14) (layRb.enc x)) := Lib.hid fun j v hv => by
        have := hc j v hv
        rwa [← Nat.add_assoc] at this
      have HX1 : Hid ((layRb.enc x).toArray.size = 14) := Lib.hid (by rw [List.size_toArray, layRb.len]; rfl)
      have HX2 : Hid ((layRb.enc x).toArray.all (·.oneCell') = true) := Lib.hid (all_oneCell_toArray (layRb.one x))
      have HHc := Lib.hid (hide_cells b4.toNat b6.toNat x)
      have HC1 := Lib.hid fun wx hb => HC.out x.1.f.s1 x.1.f.h1 x.1.f.l1 wx x.2.1.2.1 x.2.1.2.2.1 hb
      have HC2 := Lib.hid fun wx hb => HC.out x.1.f.s2 x.1.f.h2 x.1.f.l2 wx x.2.1.2.2.2.1 x.2.1.2.2.2.2.1 hb
      obtain ⟨y, hy⟩ : ∃ q, hideR b4.toNat b6.toNat x = q := ⟨_, rfl⟩
      rw [hy] at HMp HHc
      clear hy
      generalize (hHi x.1.f.s1 x.1.f.h1 b4.toNat b6.toNat : Int) = Y1 at *
      generalize (hLo x.1.f.s1 x.1.f.l1 b4.toNat b6.toNat : Int) = Y2 at *
      generalize (hHi x.1.f.s2 x.1.f.h2 b4.toNat b6.toNat : Int) = Y3 at *
      generalize (hLo x.1.f.s2 x.1.f.l2 b4.toNat b6.toNat : Int) = Y4 at *
      obtain ⟨A, hA⟩ : ∃ q, (L.take k).map (hideR b4.toNat b6.toNat) = q := ⟨_, rfl⟩
      rw [hA] at HO HMp hml
      clear hA
      obtain ⟨ao, co, hvo, -⟩ := HO.out.form
      subst hvo
      have Hml := Lib.hid hml
      rw [hml] at HO ⊢
      clear hml hc hx
      obtain ⟨XC, hXC⟩ : ∃ X, (layRb.enc x).toArray = X := ⟨_, rfl⟩
      have hXL : layRb.enc x = XC.toList := by rw [← hXC]
      have HXC := Lib.hid hXC
      rw [hXL] at HRx
      rw [hXC] at HX1 HX2 HHc
      clear hXC hXL
      subst had
      have HP : Hid (Blk (wr.alloc (.cells XC 45 (0, 0))) wr.heap.size 45 XC) := Lib.hid (Blk.new wr _ _)
      have HO3 := Lib.hid (HO.out.alloc (.cells XC 45 (0, 0)))
      have HB3 : Hid (Below w1.heap.size w1 (wr.alloc (.cells XC 45 (0, 0)))) := Lib.hid (Below.alloc HB.out HB.out.size _)
      have hlo : ∀ q, (Value.slice ao k co).ownBlock = some q → q ≠ wr.heap.size := fun q hq => Nat.ne_of_lt (own_lt HO.out q hq)
      have HLo := Lib.hid hlo
      have hwx := HB.out.size
      clear HO HB hlo
      go_upto_region 6 with (first | (refine wpList_loadn rfl 45 _ rfl g (o + k * 14) rfl _ _ HRx.out under_rb rfl 14 size_rb (by simpa using HX1.out) ?_; go_simp) | (refine wpList_var XC 45 Tryz.zeroValue45 rfl rfl rfl _ _ rfl _ rfl ?_ ?_ 14 size_rb HX1.out ?_ HX2.out ?_; all_goals (try rfl); try go_simp))
      generalize wr.alloc (.cells XC 45 (0, 0)) = w3 at *
      generalize wr.heap.size = bx at *
      clear HRx hg HX2
      have HV4 : Hid (XC[4]? = some (.bool x.1.f.s1) ∧ XC[5]? = some (.int .u64 x.1.f.h1) ∧ XC[6]? = some (.int .u64 x.1.f.l1) ∧ XC[7]? = some (.bool x.1.f.s2) ∧ XC[8]? = some (.int .u64 x.1.f.h2) ∧ XC[9]? = some (.int .u64 x.1.f.l2)) := Lib.hid (by
        rw [← HXC.out]
        exact ⟨rfl, rfl, rfl, rfl, rfl, rfl⟩)
      have HQw : Hid (∀ wx, Below w3.heap.size w3 wx → OwnK layRb ((((wx.setCell ⟨bx, 4, none⟩ (.bool x.1.f.s1)).setCell ⟨bx, 5, none⟩ (.int .u64 Y1))).setCell ⟨bx, 6, none⟩ (.int .u64 Y2)) w1.heap.size (.slice ao k co) A ∧ Blk ((((wx.setCell ⟨bx, 4, none⟩ (.bool x.1.f.s1)).setCell ⟨bx, 5, none⟩ (.int .u64 Y1))).setCell ⟨bx, 6, none⟩ (.int .u64 Y2)) bx 45 (((XC.setIfInBounds 4 (.bool x.1.f.s1)).setIfInBounds 5 (.int .u64 Y1)).setIfInBounds 6 (.int .u64 Y2)) ∧ Below w1.heap.size w1 ((((wx.setCell ⟨bx, 4, none⟩ (.bool x.1.f.s1)).setCell ⟨bx, 5, none⟩ (.int .u64 Y1))).setCell ⟨bx, 6, none⟩ (.int .u64 Y2))) := Lib.hid fun wx hb => by
        have hg : wx.grownBy ((((wx.setCell ⟨bx, 4, none⟩ (.bool x.1.f.s1)).setCell ⟨bx, 5, none⟩ (.int .u64 Y1))).setCell ⟨bx, 6, none⟩ (.int .u64 Y2)) (some bx) := grown_setCells bx [.bool x.1.f.s1, .int .u64 Y1, .int .u64 Y2] 4 wx
        have hB := HB3.out.trans (hb.mono HB3.out.size)
        refine ⟨World.ownsRow.kept (HO3.out.later hb) hg ?_, Blk.set (Blk.set (Blk.set (HP.out.below hb HP.out.lt) 4 _) 5 _) 6 _, hB.grown hg hB.size (fun q hq => by injection hq with hq; omega)⟩
        cases e : (Value.slice ao k co).ownBlock with
        | none => exact .inl rfl
        | some q => exact .inr fun e2 => HLo.out q e (by injection e2)
      have HCw1 := Lib.hid fun wx (hb : Below w3.heap.size w3 wx) => HC1.out wx (HB3.out.trans (hb.mono HB3.out.size))
      have HCw2 := Lib.hid fun wx (hb : Below w3.heap.size w3 wx) => HC2.out wx (HB3.out.trans (hb.mono HB3.out.size))
      obtain ⟨s1, hs1⟩ : ∃ q, x.1.f.s1 = q := ⟨_, rfl⟩
      obtain ⟨s2, hs2⟩ : ∃ q, x.1.f.s2 = q := ⟨_, rfl⟩
      obtain ⟨h1, hh1⟩ : ∃ q, x.1.f.h1 = q := ⟨_, rfl⟩
      obtain ⟨h2, hh2⟩ : ∃ q, x.1.f.h2 = q := ⟨_, rfl⟩
      obtain ⟨l1, hl1⟩ : ∃ q, x.1.f.l1 = q := ⟨_, rfl⟩
      obtain ⟨l2, hl2⟩ : ∃ q, x.1.f.l2 = q := ⟨_, rfl⟩
      rw [hs1, hs2, hh1, hh2, hl1, hl2] at HV4
      rw [hs1] at HQw HHc
      rw [hs2] at HHc
      rw [hs1, hh1, hl1] at HCw1
      rw [hs2, hh2, hl2] at HCw2
      clear hs1 hs2 hh1 hh2 hl1 hl2 HC1 HC2 HC HXC
      obtain ⟨QW, hQW⟩ : ∃ Q : World → Prop, (fun w => OwnK layRb w w1.heap.size (.slice ao k co) A ∧ Blk w bx 45 (((XC.setIfInBounds 4 (.bool s1)).setIfInBounds 5 (.int .u64 Y1)).setIfInBounds 6 (.int .u64 Y2)) ∧ Below w1.heap.size w1 w) = Q := ⟨_, rfl⟩
      have HQW := Lib.hid hQW
      refine Lm.wp_region_lim 15 1 (hqR bx (.func (.func 50) #[] #[.pointer (some ⟨p4 + 1, 0, none⟩), .pointer (some ⟨p4, 0, none⟩)]) (.agg #[.bool s1, .int .u64 h1, .int .u64 l1]) (.agg #[.bool s2, .int .u64 h2, .int .u64 l2]) (.agg #[.bool s1, .int .u64 Y1, .int .u64 Y2]) (.agg #[.bool s2, .int .u64 Y3, .int .u64 Y4])) (hqC w3 QW) hqS (fun i => if i = 12 then 1 else 0) (fun i => if i ≤ 12 then 0 else 1)
        (by kernel_rfl) (by kernel_rfl) (by decide) (by kernel_rfl) hqR_keep ⟨fun _ => below_drew (Below.refl _ _), fun h => absurd rfl h⟩ ?hX
      case' hX => (apply Exists.intro; refine ⟨fun T => ?hA, ?hob, ?hend⟩)
      case hA =>
        simp only [setAll, List.take_succ_cons, List.take_zero, Act.put, List.setIfInBounds_toArray, List.set_cons_succ, List.set_cons_zero, Nat.reduceAdd]
        exact rfl
      case hob =>
        go_light
        refine ⟨?_, ?_, ?_, ?_, ?_, ?_, ?_, ?_, ?_, ?_, ?_, ?_, ?_, ?_, ?_, trivial⟩
        all_goals (intro TT wx n0 hC hn hp; dsimp only at hn ⊢; unfold Op1)
        · have hn1 : n0 ≤ 1 := by simp at hn; omega
          go_simp
          first | exact ⟨rfl, hC, Nat.le_refl _, by omega⟩ | exact ⟨rfl, Nat.le_refl _, by omega⟩ | exact ⟨Nat.le_refl _, by omega⟩
        · have hn1 : n0 ≤ 1 := by simp at hn; omega
          go_simp
          first | exact ⟨rfl, hC, Nat.le_refl _, by omega⟩ | exact ⟨rfl, Nat.le_refl _, by omega⟩ | exact ⟨Nat.le_refl _, by omega⟩
        · obtain ⟨h0, -⟩ := hp
          have h0 : TT 1 = .pointer (some ⟨bx, 3, none⟩) := h0
          have hn1 : n0 ≤ 1 := by simp at hn; omega
          go_simp
          first | exact ⟨rfl, hC, Nat.le_refl _, by omega⟩ | exact ⟨rfl, Nat.le_refl _, by omega⟩ | exact ⟨Nat.le_refl _, by omega⟩
        · obtain ⟨h0, -⟩ := hp
          have h0 : TT 2 = .pointer (some ⟨bx, 4, none⟩) := h0
          have hn0 : n0 = 0 := by simpa using hn
          subst hn0
          have hn1 : 0 ≤ 1 := by omega
          have hP := HP.out.below (hC.1 rfl) HP.out.lt
          obtain ⟨v4, v5, v6, v7, v8, v9⟩ := HV4.out
          have c4 : wx.cell? ⟨bx, 4, none⟩ = some (.bool s1) := by rw [hP.cell 4]; exact v4
          have c5 : wx.cell? ⟨bx, 5, none⟩ = some (.int .u64 h1) := by rw [hP.cell 5]; exact v5
          have c6 : wx.cell? ⟨bx, 6, none⟩ = some (.int .u64 l1) := by rw [hP.cell 6]; exact v6
          clear v4 v5 v6 v7 v8 v9 hP
          go_simp
          first | exact ⟨rfl, hC, Nat.le_refl _, by omega⟩ | exact ⟨rfl, Nat.le_refl _, by omega⟩ | exact ⟨Nat.le_refl _, by omega⟩
        · obtain ⟨h0, h1', -⟩ := hp
          have h0 : TT 0 = .func (.func 50) #[] #[.pointer (some ⟨p4 + 1, 0, none⟩), .pointer (some ⟨p4, 0, none⟩)] := h0
          have h1' : TT 3 = .agg #[.bool s1, .int .u64 h1, .int .u64 l1] := h1'
          have hn0 : n0 = 0 := by simpa using hn
          subst hn0
          have hb := hC.1 rfl
          have eg := Heg.out
          go_simp
          refine (HCw1.out wx hb).mono ?_
          rintro e w5 ⟨rfl, hb5⟩
          exact ⟨_, rfl, rfl, ⟨fun _ => hb.trans (hb5.mono hb.size), fun h => absurd rfl h⟩, Nat.le_refl _, by omega⟩
        · have hn1 : n0 ≤ 1 := by simp at hn; omega
          go_simp
          first | exact ⟨rfl, hC, Nat.le_refl _, by omega⟩ | exact ⟨rfl, Nat.le_refl _, by omega⟩ | exact ⟨Nat.le_refl _, by omega⟩
        · have hn1 : n0 ≤ 1 := by simp at hn; omega
          go_simp
          first | exact ⟨rfl, hC, Nat.le_refl _, by omega⟩ | exact ⟨rfl, Nat.le_refl _, by omega⟩ | exact ⟨Nat.le_refl _, by omega⟩
        · obtain ⟨h0, -⟩ := hp
          have h0 : TT 6 = .pointer (some ⟨bx, 3, none⟩) := h0
          have hn1 : n0 ≤ 1 := by simp at hn; omega
          go_simp
          first | exact ⟨rfl, hC, Nat.le_refl _, by omega⟩ | exact ⟨rfl, Nat.le_refl _, by omega⟩ | exact ⟨Nat.le_refl _, by omega⟩
        · obtain ⟨h0, -⟩ := hp
          have h0 : TT 7 = .pointer (some ⟨bx, 7, none⟩) := h0
          have hn0 : n0 = 0 := by simpa using hn
          subst hn0
          have hn1 : 0 ≤ 1 := by omega
          have hP := HP.out.below (hC.1 rfl) HP.out.lt
          obtain ⟨v4, v5, v6, v7, v8, v9⟩ := HV4.out
          have c7 : wx.cell? ⟨bx, 7, none⟩ = some (.bool s2) := by rw [hP.cell 7]; exact v7
          have c8 : wx.cell? ⟨bx, 8, none⟩ = some (.int .u64 h2) := by rw [hP.cell 8]; exact v8
          have c9 : wx.cell? ⟨bx, 9, none⟩ = some (.int .u64 l2) := by rw [hP.cell 9]; exact v9
          clear v4 v5 v6 v7 v8 v9 hP
          go_simp
          first | exact ⟨rfl, hC, Nat.le_refl _, by omega⟩ | exact ⟨rfl, Nat.le_refl _, by omega⟩ | exact ⟨Nat.le_refl _, by omega⟩
        · obtain ⟨h0, h1', -⟩ := hp
          have h0 : TT 5 = .func (.func 50) #[] #[.pointer (some ⟨p4 + 1, 0, none⟩), .pointer (some ⟨p4, 0, none⟩)] := h0
          have h1' : TT 8 = .agg #[.bool s2, .int .u64 h2, .int .u64 l2] := h1'
          have hn0 : n0 = 0 := by simpa using hn
          subst hn0
          have hb := hC.1 rfl
          have eg := Heg.out
          go_simp
          refine (HCw2.out wx hb).mono ?_
          rintro e w5 ⟨rfl, hb5⟩
          exact ⟨_, rfl, rfl, ⟨fun _ => hb.trans (hb5.mono hb.size), fun h => absurd rfl h⟩, Nat.le_refl _, by omega⟩
        · have hn1 : n0 ≤ 1 := by simp at hn; omega
          go_simp
          first | exact ⟨rfl, hC, Nat.le_refl _, by omega⟩ | exact ⟨rfl, Nat.le_refl _, by omega⟩ | exact ⟨Nat.le_refl _, by omega⟩
        · obtain ⟨h0, -⟩ := hp
          have h0 : TT 10 = .pointer (some ⟨bx, 3, none⟩) := h0
          have hn1 : n0 ≤ 1 := by simp at hn; omega
          go_simp
          first | exact ⟨rfl, hC, Nat.le_refl _, by omega⟩ | exact ⟨rfl, Nat.le_refl _, by omega⟩ | exact ⟨Nat.le_refl _, by omega⟩
        · obtain ⟨h0, h1', -⟩ := hp
          have h0 : TT 11 = .pointer (some ⟨bx, 4, none⟩) := h0
          have h1' : TT 4 = .agg #[.bool s1, .int .u64 Y1, .int .u64 Y2] := h1'
          have hn0 : n0 = 0 := by simpa using hn
          subst hn0
          have hb := hC.1 rfl
          have hP := HP.out.below hb HP.out.lt
          have hfr := hP.free
          obtain ⟨v4, v5, v6, v7, v8, v9⟩ := HV4.out
          have c4 : wx.cell? ⟨bx, 4, none⟩ = some (.bool s1) := by rw [hP.cell 4]; exact v4
          have c5 : wx.cell? ⟨bx, 5, none⟩ = some (.int .u64 h1) := by rw [hP.cell 5]; exact v5
          have c6 : wx.cell? ⟨bx, 6, none⟩ = some (.int .u64 l1) := by rw [hP.cell 6]; exact v6
          clear v4 v5 v6 v7 v8 v9 hP
          have hq := HQw.out wx hb
          have hQ : QW ((((wx.setCell ⟨bx, 4, none⟩ (.bool s1)).setCell ⟨bx, 5, none⟩ (.int .u64 Y1))).setCell ⟨bx, 6, none⟩ (.int .u64 Y2)) := by rw [← HQW.out]; exact hq
          clear hq
          have HQ := Lib.hid hQ
          clear hQ
          go_simp
          exact ⟨rfl, ⟨fun h => absurd h (by decide), fun _ => HQ.out⟩, by omega, by omega⟩
        · have hn1 : n0 ≤ 1 := by simp at hn; omega
          go_simp
          first | exact ⟨rfl, hC, Nat.le_refl _, by omega⟩ | exact ⟨rfl, Nat.le_refl _, by omega⟩ | exact ⟨Nat.le_refl _, by omega⟩
        · obtain ⟨h0, -⟩ := hp
          have h0 : TT 13 = .pointer (some ⟨bx, 3, none⟩) := h0
          have hn1 : n0 ≤ 1 := by simp at hn; omega
          go_simp
          first | exact ⟨rfl, hC, Nat.le_refl _, by omega⟩ | exact ⟨rfl, Nat.le_refl _, by omega⟩ | exact ⟨Nat.le_refl _, by omega⟩
      case hend =>
        intro TT w2 ⟨n0, hn0, hC, hR⟩
        have e12 : n0 = 1 := hR 12 (by omega)
        have e14 : TT 14 = .pointer (some ⟨bx, 7, none⟩) := hR 14 (by omega)
        have e9 : TT 9 = .agg #[.bool s2, .int .u64 Y3, .int .u64 Y4] := hR 9 (by omega)
        subst e12
        have hq := hC.2 (by decide)
        rw [← HQW.out] at hq
        obtain ⟨hOw, hPw, hBw⟩ := hq
        have HO2 := Lib.hid hOw
        have HP2 := Lib.hid hPw
        have HB2 := Lib.hid hBw
        have hfr := hPw.free
        obtain ⟨v4, v5, v6, v7, v8, v9⟩ := HV4.out
        have c7 : w2.cell? ⟨bx, 7, none⟩ = some (.bool s2) := by rw [hPw.cell 7]; simpa using v7
        have c8 : w2.cell? ⟨bx, 8, none⟩ = some (.int .u64 h2) := by rw [hPw.cell 8]; simpa using v8
        have c9 : w2.cell? ⟨bx, 9, none⟩ = some (.int .u64 l2) := by rw [hPw.cell 9]; simpa using v9
        clear v4 v5 v6 v7 v8 v9 hOw hPw hBw hC hR HQW hQW HQw HCw1 HCw2 HP HO3 HB3 Heg
        have HP4 : Hid (Blk (((w2.setCell ⟨bx, 7, none⟩ (.bool s2)).setCell ⟨bx, 8, none⟩ (.int .u64 Y3)).setCell ⟨bx, 9, none⟩ (.int .u64 Y4)) bx 45 (layRb.enc y).toArray) := Lib.hid (by rw [← HHc.out]; exact Blk.set (Blk.set (Blk.set HP2.out 7 _) 8 _) 9 _)
        have hg : w2.grownBy (((w2.setCell ⟨bx, 7, none⟩ (.bool s2)).setCell ⟨bx, 8, none⟩ (.int .u64 Y3)).setCell ⟨bx, 9, none⟩ (.int .u64 Y4)) (some bx) := grown_setCells bx [.bool s2, .int .u64 Y3, .int .u64 Y4] 7 w2
        have HO4 : Hid (OwnK layRb (((w2.setCell ⟨bx, 7, none⟩ (.bool s2)).setCell ⟨bx, 8, none⟩ (.int .u64 Y3)).setCell ⟨bx, 9, none⟩ (.int .u64 Y4)) w1.heap.size (.slice ao k co) A) := Lib.hid (World.ownsRow.kept HO2.out hg (by
          cases e : (Value.slice ao k co).ownBlock with
          | none => exact .inl rfl
          | some q => exact .inr fun e2 => HLo.out q e (by injection e2)))
        have HB4 : Hid (Below w1.heap.size w1 (((w2.setCell ⟨bx, 7, none⟩ (.bool s2)).setCell ⟨bx, 8, none⟩ (.int .u64 Y3)).setCell ⟨bx, 9, none⟩ (.int .u64 Y4))) := Lib.hid (HB2.out.grown hg HB2.out.size (fun q hq => by injection hq with hq; omega))
        clear hg HO2 HB2 HP2
        simp only [List.drop_succ_cons, List.drop_zero]
        go_upto_region 7 with fail
        clear c7 c8 c9 hfr
        generalize ((w2.setCell ⟨bx, 7, none⟩ (.bool s2)).setCell ⟨bx, 8, none⟩ (.int .u64 Y3)).setCell ⟨bx, 9, none⟩ (.int .u64 Y4) = w4 at *
        obtain ⟨XO, hXO⟩ : ∃ X, (layRb.enc y).toArray = X := ⟨_, rfl⟩
        have HXO := Lib.hid hXO
        rw [hXO] at HP4
        have hO1 : XO.size = 14 := by rw [← hXO, List.size_toArray, layRb.len]; rfl
        have Ol : XO.toList.length = 14 := by simpa using hO1
        clear hXO HHc
        have HOr : Hid (w4.ownsRow w1.heap.size 45 14 (.slice ao k co) k (layRb.all A)) := Lib.hid (by
          have this : w4.ownsRow w1.heap.size 45 14 (.slice ao k co) A.length (layRb.all A) := HO4.out
          rw [Hml.out] at this
          exact this)
        go_wp2_with (first | (refine wpList_loadn rfl 45 _ rfl bx 0 rfl XO.toList _ HP4.out.range under_rb rfl 14 size_rb Ol ?_; go_simp) | (refine wpList_build1 rfl 26 45 _ rfl XO rfl 14 Tryz.underlying26 zero_rb hO1 (by decide) (by decide) ?_; go_simp) | (at_builtin; refine wpList_app rbE rfl (.tmp 32) (.tmp 34) rfl rfl (World.ownsRow.alloc HOr.out _) rfl (src_new layRb _ y _ _ ?c0a) ?c1a ?c2a ?c3a ?c4a ?_))
        case c0a => exact HXO.out.symm
        case c1a => exact layRb.one y
        case c2a => unfold maxLen; omega
        case c3a => omega
        case c4a => have := HB4.out.size; simp; omega
        intro v5 w5 hO5 hG5
        have hbz : w1.heap.size ≤ (w4.alloc (.cells XO 45 (0, 0))).heap.size := by have := HB4.out.size; simp; omega
        have HE1 : Hid (OwnK layRb w5 w1.heap.size v5 ((L.take (k + 1)).map (hideR b4.toNat b6.toNat))) := Lib.hid (by
          rw [HMp.out]
          exact OwnK.snoc (by rw [Hml.out]; exact hO5))
        have HE2 : Hid (Below w1.heap.size w1 w5) := Lib.hid ((Below.alloc HB4.out HB4.out.size _).trans (hG5.below hbz (own_base HOr.out)))
        clear hO5 hG5 hbz HOr
        go_wp2_with fail
        exact ⟨⟨k + 1, by omega, by go_num, HE1, HE2⟩, by simp [intOf]; omega⟩
    · obtain rfl : k = n := by omega
      have hT : (L.take k).map (hideR b4.toNat b6.toNat) = L.map (hideR b4.toNat b6.toNat) := by rw [List.take_of_length_le (by rw [Hn.out]; exact Nat.le_refl _)]
      rw [hT] at HO
      obtain ⟨ao, co, hvo, -⟩ := HO.out.form
      subst hvo
      have hlm : (L.map (hideR b4.toNat b6.toNat)).length = k := by rw [List.length_map]; exact Hn.out
      rw [hlm] at HO ⊢
      have HTg := Lib.hid (qtogether_any w1.heap.size ao k co (L.map (hideR b4.toNat b6.toNat)) wr HO.out HB.out.size hlm hs)
      clear hT hlm
      go_wp2_with fail
      refine HTg.out.mono ?_
      rintro e w5 ⟨v5, rfl, hO, hb, -⟩
      have h1 := HB0.out.size
      have h2 := HB.out.size
      rw [Hp4.out] at h1
      have HE1 := Lib.hid (hO.weak (Nat.le_trans h1 h2))
      have HE2 : Hid (Below p4 w w5) := Lib.hid (HB0.out.trans ((HB.out.trans hb).mono h1))
      clear hO hb HTg
      go_wp2_with fail
      go_ret
      exact ⟨v5, rfl, by rw [Hp4.out]; exact HE1.out, by rw [Hp4.out]; exact HE2.out⟩
end Go.Proofs.YtippolfmljfleaaGreatDoor
