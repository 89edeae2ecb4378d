/-
  The program's Loose = looseF. Condition: at most a million bytes.
-/
import Derived.Test.YtcpafmndjcejjaaGreatDoorAR25
import Derived.Test.YtcpafmndjcejjaaGreatDoorAR28
import Derived.Test.YtcpafmndjcejjaaGreatDoorAR26
import Derived.OwnWalk
set_option linter.unusedVariables false
namespace Go.Proofs.YtcpafmndjcejjaaGreatDoor
open Go.RowKit Go Go.Sort
set_option linter.unusedVariables false

/-- what a reader of an address returns -/
def lsV : Option (Bool × Nat × Nat) → Value
  | some (s, h, l) => .tuple #[.agg #[.bool s, .int .u64 (h : Int), .int .u64 (l : Int)], .int .i64 0]
  | none => .tuple #[.agg #[.bool false, .int .u64 0, .int .u64 0], .int .i64 9]
theorem cut_nogap {s sep : List UInt8} (h : (Lib.cut s sep).2.2 = false) : (Lib.cut s sep).2.1 = [] := by
  unfold Lib.cut at h ⊢
  split
  · rename_i h0
    rw [if_pos h0] at h
    cases h
  · rfl
theorem cut_le (s sep : List UInt8) : (Lib.cut s sep).1.length ≤ s.length ∧ (Lib.cut s sep).2.1.length ≤ s.length := by
  unfold Lib.cut
  split
  · exact ⟨by simp; omega, by simp⟩
  · exact ⟨Nat.le_refl _, by simp⟩
def encU (L : List Nat) : List Value := L.map fun (n : Nat) => .int .u64 (n : Int)
theorem layU_all (L : List Nat) : layU.all L = encU L := by
  induction L with
  | nil => rfl
  | cons x l ih =>
    show [.int .u64 (x : Int)] ++ layU.all l = _
    rw [ih]; rfl
theorem encU_one (L : List Nat) : ∀ v ∈ encU L, v.oneCell' = true := fun v hv => by
  obtain ⟨x, _, rfl⟩ := List.mem_map.1 hv
  rfl
/-- an own row of uint64 as the source of a copy -/
theorem OwnK.srcU {w : World} {B m c : Nat} {ad : Option Addr} {L : List Nat} (h : OwnK layU w B (.slice ad m c) L) : m = L.length ∧ (0 < L.length → ∃ a, ad = some a ∧ ∀ (j : Nat) v, (encU L)[j]? = some v → w.cell? (a.add j) = some v) := by
  obtain ⟨ad2, c2, hv, hs, -⟩ := h.form
  injection hv with e1 e2 e3
  subst e1
  refine ⟨e2, fun hl => ?_⟩
  rw [layU_all] at hs
  obtain ⟨x, hx⟩ : ∃ x, (encU L)[0]? = some x := ⟨_, List.getElem?_eq_getElem (by simpa [encU] using hl)⟩
  obtain ⟨a, rfl, -, -⟩ := hs.2 0 x hx
  refine ⟨a, rfl, fun j v hj => ?_⟩
  obtain ⟨a2, e, -, hc⟩ := hs.2 j v hj
  injection e with e
  subst e
  exact hc
/-- what the drawn region of Loose has yielded -/
def llR (g8 ob k : Nat) (WH WL GQ : Nat → Nat) : Nat → Value → Nat → World → Prop
  | 0, v, _, _ => v = .pointer (some ⟨ob, 1, none⟩)
  | 1, v, _, _ => v = .int .u64 (WH k : Int)
  | 2, v, _, _ => v = .int .u64 ((WH k : Int) * 65536)
  | 3, v, _, _ => v = .int .i64 (k : Int)
  | 4, v, _, _ => v = .pointer (some ⟨g8, k, none⟩)
  | 5, v, _, _ => v = .int .u64 (GQ k : Int)
  | 6, v, _, _ => v = .int .u64 (WH (k + 1) : Int)
  | 7, v, _, _ => v = .pointer (some ⟨ob, 2, none⟩)
  | 8, v, _, _ => v = .int .u64 (WL k : Int)
  | 9, v, _, _ => v = .int .u64 ((WL k : Int) * 65536)
  | 10, v, _, _ => v = .int .i64 (k : Int)
  | 11, v, _, _ => v = .int .i64 (4 + (k : Int))
  | 12, v, _, _ => v = .pointer (some ⟨g8, 4 + k, none⟩)
  | 13, v, _, _ => v = .int .u64 (GQ (4 + k) : Int)
  | 14, v, _, _ => v = .int .u64 (WL (k + 1) : Int)
  | 15, v, _, _ => v = .pointer (some ⟨ob, 1, none⟩)
  | 16, _, n, _ => n = 1
  | 17, v, _, _ => v = .pointer (some ⟨ob, 2, none⟩)
  | _, _, _, _ => True
theorem llR_keep {g8 ob k : Nat} {WH WL GQ : Nat → Nat} (p : Nat) (v : Value) (n : Nat) (u : World) (m : Nat) (w : World) (h : llR g8 ob k WH WL GQ p v n u) (hb : hqS n u m w) : llR g8 ob k WH WL GQ p v m w := by
  rcases p with _ | _ | _ | _ | _ | _ | _ | _ | _ | _ | _ | _ | _ | _ | _ | _ | _ | _ | p
  all_goals first
    | exact h
    | (have h : n = 1 := h
       have h1 := hb.1
       have h2 := hb.2
       show m = 1
       omega)
def llC (w : World) (ob g8 bx k : Nat) (WH WL : Nat → Nat) (GA : Array Value) (n : Nat) (v : World) : Prop :=
  Blk v ob 29 #[.bool true, .int .u64 (WH (k + n) : Int), .int .u64 (WL k : Int)] ∧ Blk v g8 60 GA ∧ Blk v bx 29 #[.bool false, .int .u64 0, .int .u64 0] ∧ Below bx w v
theorem Blk.drew {w : World} {B : Nat} {t : TypeId} {cs : Array Value} (h : Blk w B t cs) : Blk w.drew B t cs := h
theorem RowKit.Below.drewR {B : Nat} {u v : World} (h : Below B u v) : Below B u v.drew := ⟨h.os, h.tape, h.output, h.size, h.block⟩
set_option maxRecDepth 100000 in
set_option maxHeartbeats 4000000 in
theorem loose_any (s : List UInt8) (w : World) (hv : Vr w) (hs : s.length ≤ 1000000) :
    Calls Tryz.prog 7 #[.string (strL s)] w (Ret (lsV (looseF s)) w) := by
  have HP : Hid (Blk (w.alloc (.cells #[.bool false, .int .u64 0, .int .u64 0] 29 (0, 0))) w.heap.size 29 #[.bool false, .int .u64 0, .int .u64 0]) := Lib.hid (Blk.new w _ _)
  have HB : Hid (Below w.heap.size w (w.alloc (.cells #[.bool false, .int .u64 0, .int .u64 0] 29 (0, 0)))) := Lib.hid (below_alloc (Below.refl _ _) _)
  have HV := Lib.hid (hv.below (below_alloc (Below.refl _ _) (.cells #[.bool false, .int .u64 0, .int .u64 0] 29 (0, 0))))
  have HCo := Lib.hid fun wx => contains_any s 58 wx
  have HF := Lib.hid fun wx (hv : Vr wx) => aFour_any s wx hv hs
  have HCu := Lib.hid fun wx (hv : Vr wx) => cut_any s [58, 58] wx hv hs
  have HLo : Hid (looseF s = if s.contains 58 = true then sixF s else (fourF s).map fun n => (false, 0, n)) := Lib.hid rfl
  have HSi : Hid (sixF s = mkA (cutC s).2.2 (grpF (cutC s).1 (!(cutC s).2.2)) (grpF (cutC s).2.1 true)) := Lib.hid rfl
  have HGa := Lib.hid fun wx (hv : Vr wx) (l : Bool) => aGroups_any (cutC s).1 l wx hv (Nat.le_trans (cut_le s [58, 58]).1 hs)
  have HGb := Lib.hid fun wx (hv : Vr wx) => aGroups_any (cutC s).2.1 true wx hv (Nat.le_trans (cut_le s [58, 58]).2 hs)
  have HAl : Hid (∀ l G, grpF (cutC s).1 l = some G → ∀ g ∈ G, g < 65536) := Lib.hid fun l G h => grpF_lt (Nat.le_trans (cut_le s [58, 58]).1 hs) h
  have HBl : Hid (∀ G, grpF (cutC s).2.1 true = some G → ∀ g ∈ G, g < 65536) := Lib.hid fun G h => grpF_lt (Nat.le_trans (cut_le s [58, 58]).2 hs) h
  have HLa : Hid (∀ l G, grpF (cutC s).1 l = some G → G.length ≤ 1000002) := Lib.hid fun l G h => Nat.le_trans (grpF_len h) (by have := (cut_le s [58, 58]).1; show (Lib.cut s [58, 58]).1.length + 2 ≤ _; omega)
  have HLb : Hid (∀ G, grpF (cutC s).2.1 true = some G → G.length ≤ 1000002) := Lib.hid fun G h => Nat.le_trans (grpF_len h) (by have := (cut_le s [58, 58]).2; show (Lib.cut s [58, 58]).2.1.length + 2 ≤ _; omega)
  have HNg : Hid ((cutC s).2.2 = false → grpF (cutC s).2.1 true = some []) := Lib.hid fun h => by
    have : (cutC s).2.1 = [] := cut_nogap h
    rw [this]; rfl
  have e58 : strL [58, 58] = ⟨#[58, 58]⟩ := rfl
  rw [e58] at HCu
  obtain ⟨RR, hRR⟩ : ∃ q, looseF s = q := ⟨_, rfl⟩
  rw [hRR] at HLo ⊢
  generalize sixF s = SF at *
  generalize s.contains 58 = C at *
  generalize fourF s = FX at *
  have hcc : Lib.cut s [58, 58] = cutC s := rfl
  rw [hcc] at HCu
  generalize (cutC s).1 = lft at *
  generalize (cutC s).2.1 = rgt at *
  generalize (cutC s).2.2 = gap at *
  generalize strL s = SS at *
  clear hv e58 hRR hcc
  go_enter Tryz.func7, Tryz.ntmps7
  go_upto_region 1 with fail
  generalize w.alloc (.cells #[.bool false, .int .u64 0, .int .u64 0] 29 (0, 0)) = w1 at *
  obtain ⟨bx, hbx⟩ : ∃ q, w.heap.size = q := ⟨_, rfl⟩
  have Hbx := Lib.hid hbx
  rw [hbx] at HP HB ⊢
  clear hbx
  have HRet : Hid (∀ wx (sx : Bool) (h l : Int), Blk wx bx 29 #[.bool false, .int .u64 0, .int .u64 0] → Below bx w wx → Below bx w (((wx.setCell ⟨bx, 0, none⟩ (.bool sx)).setCell ⟨bx, 1, none⟩ (.int .u64 h)).setCell ⟨bx, 2, none⟩ (.int .u64 l))) := Lib.hid fun wx sx h l hp hb => hb.grown (grown_setCells bx [.bool sx, .int .u64 h, .int .u64 l] 0 wx) (Nat.le_of_lt hp.lt) (fun k hk => by injection hk with hk; omega)
  go_wp2_with fail
  refine (HCo.out _).mono ?_
  rintro e w2 ⟨rfl, hb⟩
  have HP2 := Lib.hid (HP.out.below hb HP.out.lt)
  have HB2 := Lib.hid (HB.out.trans (hb.mono (Nat.le_of_lt HP.out.lt)))
  have HV2 := Lib.hid (HV.out.below hb)
  clear hb HP HB HV HCo
  cases C
  · have hL := HLo.out
    rw [if_neg (by decide)] at hL
    have HL := Lib.hid hL
    have HFx := Lib.hid (HF.out _ HV2.out)
    clear hL HLo HSi HGa HGb HAl HBl HNg HCu HF
    go_wp2_with fail
    refine HFx.out.mono ?_
    rintro e w3 ⟨rfl, hb⟩
    have HP3 := Lib.hid (HP2.out.below hb HP2.out.lt)
    have HB3 := Lib.hid (HB2.out.trans (hb.mono (Nat.le_of_lt HP2.out.lt)))
    clear hb HP2 HB2 HV2 HFx
    have q0 := HP3.out.cell 0
    have q1 := HP3.out.cell 1
    have q2 := HP3.out.cell 2
    have qf := HP3.out.free
    simp at q0 q1 q2
    have c3 := fun (a : Bool) (b c : Int) => (HP3.out.set3 (x' := .bool a) (y' := .int .u64 b) (z' := .int .u64 c))
    cases FX with
    | none =>
      have hL := HL.out
      subst hL
      have HBf := Lib.hid (HRet.out w3 false 0 0 HP3.out HB3.out)
      have d0 := (c3 false 0 0).cell 0
      have d1 := (c3 false 0 0).cell 1
      have d2 := (c3 false 0 0).cell 2
      simp at d0 d1 d2
      clear c3
      go_wp2_with fail
      refine bodyPost_ret (v := .tuple #[.agg #[.bool false, .int .u64 0, .int .u64 0], .int .i64 9]) (by simp [results, Tryz.results7, go_sem, *]) rfl ⟨rfl, by rw [Hbx.out]; exact HBf.out⟩
    | some n =>
      have hL := HL.out
      subst hL
      have HBf := Lib.hid (HRet.out w3 false 0 n HP3.out HB3.out)
      have d0 := (c3 false 0 n).cell 0
      have d1 := (c3 false 0 n).cell 1
      have d2 := (c3 false 0 n).cell 2
      simp at d0 d1 d2
      clear c3
      go_wp2_with fail
      refine bodyPost_ret (v := .tuple #[.agg #[.bool false, .int .u64 0, .int .u64 (n : Int)], .int .i64 0]) (by simp [results, Tryz.results7, go_sem, *]) rfl ⟨rfl, by rw [Hbx.out]; exact HBf.out⟩
  · have hL := HLo.out
    rw [if_pos rfl] at hL
    have HL := Lib.hid (hL.trans HSi.out)
    have HCx := Lib.hid (HCu.out _ HV2.out)
    clear hL HLo HSi HCu HF
    go_wp2_with fail
    refine HCx.out.mono ?_
    rintro e w3 ⟨rfl, hb⟩
    have HP3 := Lib.hid (HP2.out.below hb HP2.out.lt)
    have HB3 := Lib.hid (HB2.out.trans (hb.mono (Nat.le_of_lt HP2.out.lt)))
    have HV3 := Lib.hid (HV2.out.below hb)
    clear hb HP2 HB2 HV2 HCx
    have HGx := Lib.hid (HGa.out _ HV3.out (!gap))
    have HAl2 := Lib.hid (HAl.out (!gap))
    have HLa2 := Lib.hid (HLa.out (!gap))
    clear HGa HAl HLa
    generalize grpF lft (!gap) = A at *
    generalize grpF rgt true = B at *
    generalize strL lft = SL at *
    generalize strL rgt = SR at *
    go_wp2_with fail
    refine HGx.out.mono ?_
    rintro e w4 ⟨aa, la, ca, rfl, hO, hb⟩
    have hbb : bx ≤ w3.heap.size := Nat.le_of_lt HP3.out.lt
    have HO4 := Lib.hid hO
    have HP4 := Lib.hid (HP3.out.below hb HP3.out.lt)
    have HB4 := Lib.hid (HB3.out.trans (hb.mono hbb))
    have HV4 := Lib.hid (HV3.out.below hb)
    have HGy := Lib.hid (HGb.out _ HV4.out)
    have Hs34 := Lib.hid hb.size
    clear hb hO HP3 HB3 HV3 HGx HGb
    go_wp2_with fail
    refine HGy.out.mono ?_
    rintro e w5 ⟨ab, lb, cb, rfl, hO, hb⟩
    have hbb4 : bx ≤ w4.heap.size := Nat.le_of_lt HP4.out.lt
    have HA5 : Hid (∀ G, A = some G → OwnK layU w5 w3.heap.size (.slice aa la ca) G) := Lib.hid fun G h => (HO4.out G h).later hb
    have HB5r : Hid (∀ G, B = some G → OwnK layU w5 w4.heap.size (.slice ab lb cb) G) := Lib.hid hO
    have HP5 := Lib.hid (HP4.out.below hb HP4.out.lt)
    have HB5 := Lib.hid (HB4.out.trans (hb.mono hbb4))
    have Hs45 := Lib.hid hb.size
    clear hb hO HO4 HP4 HB4 HV4 HGy
    cases A with
    | none =>
      have hL := HL.out
      have hLn : RR = none := hL
      subst hLn
      clear HL HA5 HB5r HAl2 HBl HNg
      have q0 := HP5.out.cell 0
      have q1 := HP5.out.cell 1
      have q2 := HP5.out.cell 2
      have qf := HP5.out.free
      simp at q0 q1 q2
      have c3 := (HP5.out.set3 (x' := .bool false) (y' := .int .u64 0) (z' := .int .u64 0))
      have HBf := Lib.hid (HRet.out w5 false 0 0 HP5.out HB5.out)
      have d0 := c3.cell 0
      have d1 := c3.cell 1
      have d2 := c3.cell 2
      simp at d0 d1 d2
      clear c3
      go_wp2_with fail
      refine bodyPost_ret (v := .tuple #[.agg #[.bool false, .int .u64 0, .int .u64 0], .int .i64 9]) (by simp [results, Tryz.results7, go_sem, *]) rfl ⟨rfl, by rw [Hbx.out]; exact HBf.out⟩
    | some a =>
      cases B with
      | none =>
        have hL := HL.out
        have hLn : RR = none := hL
        subst hLn
        clear HL HA5 HB5r HAl2 HBl HNg
        have q0 := HP5.out.cell 0
        have q1 := HP5.out.cell 1
        have q2 := HP5.out.cell 2
        have qf := HP5.out.free
        simp at q0 q1 q2
        have c3 := (HP5.out.set3 (x' := .bool false) (y' := .int .u64 0) (z' := .int .u64 0))
        have HBf := Lib.hid (HRet.out w5 false 0 0 HP5.out HB5.out)
        have d0 := c3.cell 0
        have d1 := c3.cell 1
        have d2 := c3.cell 2
        simp at d0 d1 d2
        clear c3
        go_wp2_with fail
        refine bodyPost_ret (v := .tuple #[.agg #[.bool false, .int .u64 0, .int .u64 0], .int .i64 9]) (by simp [results, Tryz.results7, go_sem, *]) rfl ⟨rfl, by rw [Hbx.out]; exact HBf.out⟩
      | some b =>
        have hL : RR = if ((gap && decide (7 < a.length + b.length)) || (!gap && !decide (a.length = 8))) = true then none else some (true, wdg (gq a b) 4, wdg (fun i => gq a b (4 + i)) 4) := HL.out
        have HAr := Lib.hid (HA5.out a rfl)
        have HBr := Lib.hid (HB5r.out b rfl)
        have hA0 := HAr.out.srcU
        have hB0 := HBr.out.srcU
        obtain ⟨rfl, hA0⟩ := hA0
        obtain ⟨rfl, hB0⟩ := hB0
        have HA0 := Lib.hid hA0
        have HB0 := Lib.hid hB0
        have hgl := gq_lt (HAl2.out a rfl) (HBl.out b rfl)
        have HGl := Lib.hid hgl
        have hng : gap = false → b.length = 0 := fun h => by have := HNg.out h; injection this with this; rw [this]; rfl
        have HNb := Lib.hid hng
        have hlen1 : a.length ≤ 1000002 := HLa2.out a rfl
        have hlen2 : b.length ≤ 1000002 := HLb.out b rfl
        clear HL HA5 HB5r HAl2 HBl HNg hA0 hB0 hgl hng HLa2 HLb
        by_cases hbad : ((gap && decide (7 < a.length + b.length)) || (!gap && !decide (a.length = 8))) = true
        · rw [if_pos hbad] at hL
          subst hL
          have hcase : (gap = true ∧ 7 < a.length + b.length) ∨ (gap = false ∧ ¬ a.length = 8) := by
            cases gap
            · right; simp at hbad; exact ⟨rfl, hbad⟩
            · left; simp at hbad; exact ⟨rfl, hbad⟩
          clear hbad HAr HBr HA0 HB0 HGl HNb
          rcases hcase with ⟨rfl, hx⟩ | ⟨rfl, hx⟩
          · have hx' : (7 : Int) < (a.length : Int) + (b.length : Int) := by omega
            have q0 := HP5.out.cell 0
            have q1 := HP5.out.cell 1
            have q2 := HP5.out.cell 2
            have qf := HP5.out.free
            simp at q0 q1 q2
            have c3 := (HP5.out.set3 (x' := .bool false) (y' := .int .u64 0) (z' := .int .u64 0))
            have HBf := Lib.hid (HRet.out w5 false 0 0 HP5.out HB5.out)
            have d0 := c3.cell 0
            have d1 := c3.cell 1
            have d2 := c3.cell 2
            simp at d0 d1 d2
            clear c3
            go_wp2_with fail
            refine bodyPost_ret (v := .tuple #[.agg #[.bool false, .int .u64 0, .int .u64 0], .int .i64 9]) (by simp [results, Tryz.results7, go_sem, *]) rfl ⟨rfl, by rw [Hbx.out]; exact HBf.out⟩
          · have hx' : ¬ (a.length : Int) = 8 := by omega
            have hxb : ((a.length : Int) == 8) = false := beq_eq_false_iff_ne.2 hx'
            have q0 := HP5.out.cell 0
            have q1 := HP5.out.cell 1
            have q2 := HP5.out.cell 2
            have qf := HP5.out.free
            simp at q0 q1 q2
            have c3 := (HP5.out.set3 (x' := .bool false) (y' := .int .u64 0) (z' := .int .u64 0))
            have HBf := Lib.hid (HRet.out w5 false 0 0 HP5.out HB5.out)
            have d0 := c3.cell 0
            have d1 := c3.cell 1
            have d2 := c3.cell 2
            simp at d0 d1 d2
            clear c3
            go_wp2_with fail
            refine bodyPost_ret (v := .tuple #[.agg #[.bool false, .int .u64 0, .int .u64 0], .int .i64 9]) (by simp [results, Tryz.results7, go_sem, *]) rfl ⟨rfl, by rw [Hbx.out]; exact HBf.out⟩
        · rw [if_neg hbad] at hL
          subst hL
          have hsum : a.length + b.length ≤ 8 := by
            cases gap
            · have := HNb.out rfl
              simp at hbad
              omega
            · simp at hbad
              omega
          have hga : gap = true ∨ a.length = 8 := by
            cases gap
            · right; simp at hbad; exact hbad
            · exact .inl rfl
          have hgs : gap = true → a.length + b.length ≤ 7 := fun h => by
            subst h; simp at hbad; omega
          have hcond1 : gap = true → ¬ (7 : Int) < (a.length : Int) + (b.length : Int) := fun h => by have := hgs h; omega
          have hcond2 : gap = false → (a.length : Int) = 8 := fun h => by
            rcases hga with h2 | h2
            · rw [h] at h2; cases h2
            · omega
          clear hbad HA0 HB0 HNb
          go_upto_region 9 with fail
          go_cut [72] (fun v wx => v = .bool false ∧ OwnK layU wx w3.heap.size (.slice aa a.length ca) a ∧ OwnK layU wx w4.heap.size (.slice ab b.length cb) b ∧ Blk wx bx 29 #[.bool false, .int .u64 0, .int .u64 0] ∧ Below bx w wx)
          case first =>
            cases gap
            · have hc2 := hcond2 rfl
              have hc3 : ((a.length : Int) == 8) = true := beq_iff_eq.2 hc2
              clear hcond1 hcond2 hga hgs
              go_wp2_with fail
              go_meet
              case rel => exact ⟨by first | rfl | simp [hc3], HAr.out, HBr.out, HP5.out, HB5.out⟩
            · have hc1 := hcond1 rfl
              clear hcond1 hcond2 hga hgs
              go_wp2_with fail
              go_meet
              case rel => exact ⟨by first | rfl | (simp; exact hc1) | simp_all, HAr.out, HBr.out, HP5.out, HB5.out⟩
          case rest =>
            obtain ⟨rfl, hA, hB, hP, hb⟩ := hcut
            have hbx5 : bx < wc.heap.size := hP.lt
            have HG8 : Hid (∀ i, i < 8 → (gs8 a b)[i]? = some (gq a b i)) := Lib.hid fun i hi => gs8_get (a := a) (b := b) hsum hi
            have HQ : Hid (Blk (wc.alloc (.cells #[.int .u64 0, .int .u64 0, .int .u64 0, .int .u64 0, .int .u64 0, .int .u64 0, .int .u64 0, .int .u64 0] 60 (0, 0))) wc.heap.size 60 (encU (List.replicate 8 0)).toArray) := Lib.hid (Blk.new wc _ _)
            have HAs := Lib.hid (hA.alloc (.cells #[.int .u64 0, .int .u64 0, .int .u64 0, .int .u64 0, .int .u64 0, .int .u64 0, .int .u64 0, .int .u64 0] 60 (0, 0)))
            have HBs := Lib.hid (hB.alloc (.cells #[.int .u64 0, .int .u64 0, .int .u64 0, .int .u64 0, .int .u64 0, .int .u64 0, .int .u64 0, .int .u64 0] 60 (0, 0)))
            have HP6 := Lib.hid (hP.alloc (.cells #[.int .u64 0, .int .u64 0, .int .u64 0, .int .u64 0, .int .u64 0, .int .u64 0, .int .u64 0, .int .u64 0] 60 (0, 0)))
            have HB6 := Lib.hid (hb.alloc (Nat.le_of_lt hbx5) (.cells #[.int .u64 0, .int .u64 0, .int .u64 0, .int .u64 0, .int .u64 0, .int .u64 0, .int .u64 0, .int .u64 0] 60 (0, 0)))
            have hal : ∀ k, (Value.slice aa a.length ca).ownBlock = some k → k < wc.heap.size := own_lt hA
            have hbl : ∀ k, (Value.slice ab b.length cb).ownBlock = some k → k < wc.heap.size := own_lt hB
            have HAl := Lib.hid hal
            have HBl := Lib.hid hbl
            clear hal hbl hA hB hP hb HAr HBr HP5 HB5 Hs34 Hs45 hcond1 hcond2 hga hgs
            go_upto_region 12 with fail
            generalize wc.alloc (.cells #[.int .u64 0, .int .u64 0, .int .u64 0, .int .u64 0, .int .u64 0, .int .u64 0, .int .u64 0, .int .u64 0] 60 (0, 0)) = w6 at *
            generalize wc.heap.size = g8 at *
            have hAs := HAs.out.srcU
            have hcsA : (encU a).length = a.length := by simp [encU]
            have hcsB : (encU b).length = b.length := by simp [encU]
            have HcsA := Lib.hid hcsA
            have HcsB := Lib.hid hcsB
            obtain ⟨CA, hCA⟩ : ∃ q, encU a = q := ⟨_, rfl⟩
            obtain ⟨CB, hCB⟩ : ∃ q, encU b = q := ⟨_, rfl⟩
            have HCA := Lib.hid hCA
            have HCB := Lib.hid hCB
            have HSA : Hid (0 < CA.length → ∃ ad, aa = some ad ∧ ∀ (j : Nat) v, CA[j]? = some v → w6.cell? (ad.add j) = some v) := Lib.hid fun h => by
              rw [← hCA] at h ⊢
              exact hAs.2 (by rw [← hcsA]; exact h)
            have hone : ∀ v ∈ CA, v.oneCell' = true := by rw [← hCA]; exact encU_one a
            have honeB : ∀ v ∈ CB, v.oneCell' = true := by rw [← hCB]; exact encU_one b
            have Hone := Lib.hid hone
            have HoneB := Lib.hid honeB
            obtain ⟨C0, hC0⟩ : ∃ q, encU (List.replicate 8 0) = q := ⟨_, rfl⟩
            have hC0l : C0.length = 8 := by rw [← hC0]; rfl
            have HC0 := Lib.hid hC0
            have HC0l := Lib.hid hC0l
            rw [hC0] at HQ
            rw [hCA] at HcsA
            rw [hCB] at HcsB
            clear hAs hcsA hcsB hCA hCB hone honeB hC0 hC0l
            go_upto_region 13 with (refine wpList_copy_splice rfl (.tmp 74) (.tmp 75) 57 57 rfl 27 Tryz.underlying57 (by kernel_rfl) _ _ _ _ _ _ rfl rfl g8 0 C0 60 HQ.out CA ?ka ?kb ?kc Hone.out g8 w6 (Below.refl _ _) (Nat.le_refl _) ?_)
            case ka => rw [HcsA.out]; exact (Nat.min_eq_left (by omega)).symm
            case kb => intro h; first | exact ⟨rfl, HSA.out h⟩ | exact HSA.out h
            case kc => rw [HcsA.out, HC0l.out]; omega
            intro w7 hw7 hb7
            have hg8 : bx ≤ g8 := Nat.le_of_lt hbx5
            have HBs7 : Hid (OwnK layU w7 w4.heap.size (.slice ab b.length cb) b) := Lib.hid (own_below HBs.out hb7 HBl.out)
            have hBs := HBs7.out.srcU
            have HSB : Hid (0 < CB.length → ∃ ad, ab = some ad ∧ ∀ (j : Nat) v, CB[j]? = some v → w7.cell? (ad.add j) = some v) := Lib.hid fun h => by
              rw [← HCB.out] at h ⊢
              exact hBs.2 (by simpa [encU] using h)
            have HGS : Hid (encU (gs8 a b) = splice (splice C0 0 CA) (8 - b.length) CB) := Lib.hid (by
              rw [← HC0.out, ← HCA.out, ← HCB.out]
              unfold encU gs8
              rw [splice_map, splice_map])
            have hl1 : (splice C0 0 CA).length = 8 := by rw [length_splice _ _ _ (by rw [HcsA.out, HC0l.out]; omega), HC0l.out]
            have Hl1 := Lib.hid hl1
            obtain ⟨C1, hC1⟩ : ∃ q, splice C0 0 CA = q := ⟨_, rfl⟩
            rw [hC1] at hw7 HGS Hl1
            have Hw7 := hw7
            have Hb7 := Lib.hid hb7
            clear hC1 hl1 hBs hw7 hb7 HSA Hone HCA HC0 HC0l HcsA HAs HBs HQ HBs7 HAl HBl HCB
            go_upto_region 13 with fail
            go_cut [11] (fun _ wx => Hid (wx.heap[g8]? = some (.cells (encU (gs8 a b)).toArray 60 (0, 0))) ∧ Below g8 w6 wx)
            case first =>
              have hb8 : b.length = 0 ∨ b.length = 1 ∨ b.length = 2 ∨ b.length = 3 ∨ b.length = 4 ∨ b.length = 5 ∨ b.length = 6 ∨ b.length = 7 ∨ b.length = 8 := by omega
              clear hlen1 hlen2 hsum
              rcases hb8 with hl | hl | hl | hl | hl | hl | hl | hl | hl
              all_goals
                rw [hl] at HcsB HGS ⊢
                go_wp2_with (refine wpList_copy_splice rfl (.tmp 80) (.tmp 81) 57 57 rfl 27 Tryz.underlying57 (by kernel_rfl) _ _ _ _ _ _ rfl rfl g8 (8 - b.length) C1 60 Hw7.out CB ?ka ?kb ?kc HoneB.out g8 w6 Hb7.out (Nat.le_refl _) ?_)
                case ka => rw [HcsB.out]; rfl
                case kb => intro h; rw [hl]; first | exact ⟨rfl, HSB.out h⟩ | exact HSB.out h | (rw [HcsB.out] at h; omega)
                case kc => rw [HcsB.out, Hl1.out, hl]; first | done | omega
                intro w8 hw8 hb8
                have HE8 : Hid (w8.heap[g8]? = some (.cells (encU (gs8 a b)).toArray 60 (0, 0))) := Lib.hid (by rw [HGS.out]; first | exact hw8.out | (have := hw8.out; rw [hl] at this; exact this))
                go_wp2_with fail
                go_meet
                case rel => exact ⟨HE8, hb8⟩
            case rest =>
              obtain ⟨hw8, hb8⟩ := hcut
              have HQ8 : Hid (Blk wc g8 60 (encU (gs8 a b)).toArray) := Lib.hid hw8.out
              have HP8 := Lib.hid (HP6.out.below hb8 hbx5)
              have HB8 := Lib.hid (HB6.out.trans (hb8.mono hg8))
              have hgw : g8 < wc.heap.size := HQ8.out.lt
              clear hw8 hb8 HP6 HB6 HSB HGS Hw7 Hb7 HcsB HoneB Hl1
              have HGg : Hid (∀ wx, Blk wx g8 60 (encU (gs8 a b)).toArray → ∀ i, i < 8 → wx.cell? ⟨g8, i, none⟩ = some (.int .u64 (gq a b i : Int))) := Lib.hid fun wx h i hi => by
                have := h.cell i
                rw [this, List.getElem?_toArray]
                unfold encU
                rw [List.getElem?_map, HG8.out i hi]
                rfl
              generalize (encU (gs8 a b)).toArray = GA at *
              have HO8 : Hid (Blk (wc.alloc (.cells #[.bool true, .int .u64 0, .int .u64 0] 29 (0, 0))) wc.heap.size 29 #[.bool true, .int .u64 ((wdg (gq a b) 0 : Nat) : Int), .int .u64 ((wdg (fun i => gq a b (4 + i)) 0 : Nat) : Int)]) := Lib.hid (Blk.new wc _ _)
              have HQ9 := Lib.hid (HQ8.out.alloc (.cells #[.bool true, .int .u64 0, .int .u64 0] 29 (0, 0)))
              have HP9 := Lib.hid (HP8.out.alloc (.cells #[.bool true, .int .u64 0, .int .u64 0] 29 (0, 0)))
              have hbc : bx < wc.heap.size := HP8.out.lt
              have HB9 := Lib.hid (HB8.out.alloc (Nat.le_of_lt hbc) (.cells #[.bool true, .int .u64 0, .int .u64 0] 29 (0, 0)))
              clear HQ8 HP8 HB8 HG8
              go_upto_region 15 with fail
              generalize wc.alloc (.cells #[.bool true, .int .u64 0, .int .u64 0] 29 (0, 0)) = w9 at *
              generalize wc.heap.size = ob at *
              have HW1 : Hid (∀ k, k < 4 → bits .or .u64 ((wdg (gq a b) k : Int) * 65536) (gq a b k : Int) = ((wdg (gq a b) (k + 1) : Nat) : Int)) := Lib.hid fun k hk => wdg_or HGl.out hk
              have HW2 : Hid (∀ k, k < 4 → bits .or .u64 ((wdg (fun i => gq a b (4 + i)) k : Int) * 65536) (gq a b (4 + k) : Int) = ((wdg (fun i => gq a b (4 + i)) (k + 1) : Nat) : Int)) := Lib.hid fun k hk => wdg_or (g := fun i => gq a b (4 + i)) (fun i => HGl.out (4 + i)) hk
              have HWl : Hid (∀ k, k < 4 → wdg (gq a b) k < 281474976710656 ∧ wdg (fun i => gq a b (4 + i)) k < 281474976710656) := Lib.hid fun k hk => by
                have h3 : 65536 ^ k ≤ 65536 ^ 3 := Nat.pow_le_pow_right (by decide) (by omega)
                exact ⟨Nat.lt_of_lt_of_le (wdg_lt HGl.out k) (Nat.le_trans h3 (by decide)), Nat.lt_of_lt_of_le (wdg_lt (g := fun i => gq a b (4 + i)) (fun i => HGl.out (4 + i)) k) (Nat.le_trans h3 (by decide))⟩
              obtain ⟨WH, hWH⟩ : ∃ q, wdg (gq a b) = q := ⟨_, rfl⟩
              obtain ⟨WL, hWL⟩ : ∃ q, wdg (fun i => gq a b (4 + i)) = q := ⟨_, rfl⟩
              obtain ⟨GQ, hGQ⟩ : ∃ q, gq a b = q := ⟨_, rfl⟩
              have HWe : Hid (lsV (some (true, wdg (gq a b) 4, wdg (fun i => gq a b (4 + i)) 4)) = .tuple #[.agg #[.bool true, .int .u64 (WH 4 : Int), .int .u64 (WL 4 : Int)], .int .i64 0]) := Lib.hid (by rw [← hWH, ← hWL]; rfl)
              rw [hWH] at HO8 HW1 HWl
              rw [hWL] at HO8 HW2 HWl
              rw [hGQ] at HW1 HW2 HGg
              clear hWH hWL hGQ
              go_wp2_with fail
              go_loopw [84] (fun i wr => ∃ k : Nat, k ≤ 4 ∧ i = .int .i64 (k : Int) ∧ Hid (Blk wr ob 29 #[.bool true, .int .u64 (WH k : Int), .int .u64 (WL k : Int)]) ∧ Hid (Blk wr g8 60 GA) ∧ Hid (Blk wr bx 29 #[.bool false, .int .u64 0, .int .u64 0]) ∧ Hid (Below bx w wr)) (fun i _ => 4 - (intOf i).toNat)
              case atStart => exact ⟨0, by omega, rfl, HO8, HQ9, HP9, HB9⟩
              case round =>
                clear HO8 HQ9 HP9 HB9
                obtain ⟨k, hk, rfl, HO, HQ, HP, HB⟩ := hrel
                by_cases hlt : k < 4
                · have hgo : g8 ≠ ob := by have := HQ.out.lt; omega
                  have hbo : bx ≠ ob := by omega
                  go_upto_region 18 with fail
                  refine Lm.wp_region_lim 18 1 (llR g8 ob k WH WL GQ) (llC w ob g8 bx k WH WL GA) hqS (fun i => if i = 16 then 1 else 0) (fun i => if i = 0 ∨ i = 1 ∨ i = 2 ∨ i = 3 ∨ i = 4 ∨ i = 5 ∨ i = 6 ∨ i = 15 ∨ i = 16 then 0 else 1)
                    (by kernel_rfl) (by kernel_rfl) (by decide) (by kernel_rfl) llR_keep ⟨HO.out.drew, HQ.out.drew, HP.out.drew, RowKit.Below.drewR HB.out⟩ ?hX
                  case' hX => (apply Exists.intro; refine ⟨fun T => ?hA, ?hob, ?hend⟩)
                  case hA =>
                    simp only [setAll, List.take_succ_cons, List.take_zero, Act.put, List.setIfInBounds_toArray, List.set_cons_succ, List.set_cons_zero, Nat.reduceAdd]
                    exact rfl
                  case hob =>
                    go_light
                    refine ⟨?_, ?_, ?_, ?_, ?_, ?_, ?_, ?_, ?_, ?_, ?_, ?_, ?_, ?_, ?_, ?_, ?_, ?_, trivial⟩
                    all_goals (intro TT wx n0 hC hn hp; dsimp only at hn ⊢; unfold Op1)
                    · have hn1 : n0 ≤ 1 := by simp at hn; omega
                      go_simp
                      first | exact ⟨rfl, hC, Nat.le_refl _, by omega⟩ | exact ⟨rfl, Nat.le_refl _, by omega⟩ | exact ⟨hC, Nat.le_refl _, by omega⟩ | exact ⟨Nat.le_refl _, by omega⟩
                    · obtain ⟨g0, -⟩ := hp
                      have g0 : TT 0 = .pointer (some ⟨ob, 1, none⟩) := g0
                      have hn0 : n0 = 0 := by simpa using hn
                      subst hn0
                      have hn1 : 0 ≤ 1 := by omega
                      have c1 := hC.1.cell 1
                      simp at c1
                      go_simp
                      first | exact ⟨rfl, hC, Nat.le_refl _, by omega⟩ | exact ⟨rfl, Nat.le_refl _, by omega⟩ | exact ⟨hC, Nat.le_refl _, by omega⟩ | exact ⟨Nat.le_refl _, by omega⟩
                    · obtain ⟨g0, -⟩ := hp
                      have g0 : TT 1 = .int .u64 (WH k : Int) := g0
                      have hn1 : n0 ≤ 1 := by simp at hn; omega
                      have hw := (HWl.out k hlt).1
                      have hwr : IntKind.u64.wrap ((WH k : Int) * 65536) = (WH k : Int) * 65536 := by rw [IntKind.wrap_u64]; omega
                      go_simp
                      first | exact ⟨rfl, hC, Nat.le_refl _, by omega⟩ | exact ⟨rfl, Nat.le_refl _, by omega⟩ | exact ⟨hC, Nat.le_refl _, by omega⟩ | exact ⟨Nat.le_refl _, by omega⟩
                    · have hn1 : n0 ≤ 1 := by simp at hn; omega
                      go_simp
                      first | exact ⟨rfl, hC, Nat.le_refl _, by omega⟩ | exact ⟨rfl, Nat.le_refl _, by omega⟩ | exact ⟨hC, Nat.le_refl _, by omega⟩ | exact ⟨Nat.le_refl _, by omega⟩
                    · obtain ⟨g0, -⟩ := hp
                      have g0 : TT 3 = .int .i64 (k : Int) := g0
                      have hn1 : n0 ≤ 1 := by simp at hn; omega
                      have hk8 : (k : Int) < 8 := by omega
                      go_simp
                      first | exact ⟨rfl, hC, Nat.le_refl _, by omega⟩ | exact ⟨rfl, Nat.le_refl _, by omega⟩ | exact ⟨hC, Nat.le_refl _, by omega⟩ | exact ⟨Nat.le_refl _, by omega⟩
                    · obtain ⟨g0, -⟩ := hp
                      have g0 : TT 4 = .pointer (some ⟨g8, k, none⟩) := g0
                      have hn1 : n0 ≤ 1 := by simp at hn; omega
                      have cg := HGg.out wx hC.2.1 k (by omega)
                      go_simp
                      first | exact ⟨rfl, hC, Nat.le_refl _, by omega⟩ | exact ⟨rfl, Nat.le_refl _, by omega⟩ | exact ⟨hC, Nat.le_refl _, by omega⟩ | exact ⟨Nat.le_refl _, by omega⟩
                    · obtain ⟨g0, g1, -⟩ := hp
                      have g0 : TT 2 = .int .u64 ((WH k : Int) * 65536) := g0
                      have g1 : TT 5 = .int .u64 (GQ k : Int) := g1
                      have hn1 : n0 ≤ 1 := by simp at hn; omega
                      have hw := HW1.out k hlt
                      go_simp
                      first | exact ⟨rfl, hC, Nat.le_refl _, by omega⟩ | exact ⟨rfl, Nat.le_refl _, by omega⟩ | exact ⟨hC, Nat.le_refl _, by omega⟩ | exact ⟨Nat.le_refl _, by omega⟩
                    · have hn1 : n0 ≤ 1 := by simp at hn; omega
                      go_simp
                      first | exact ⟨rfl, hC, Nat.le_refl _, by omega⟩ | exact ⟨rfl, Nat.le_refl _, by omega⟩ | exact ⟨hC, Nat.le_refl _, by omega⟩ | exact ⟨Nat.le_refl _, by omega⟩
                    · obtain ⟨g0, -⟩ := hp
                      have g0 : TT 7 = .pointer (some ⟨ob, 2, none⟩) := g0
                      have hn1 : n0 ≤ 1 := by simp at hn; omega
                      have c2 := hC.1.cell 2
                      simp at c2
                      go_simp
                      first | exact ⟨rfl, hC, Nat.le_refl _, by omega⟩ | exact ⟨rfl, Nat.le_refl _, by omega⟩ | exact ⟨hC, Nat.le_refl _, by omega⟩ | exact ⟨Nat.le_refl _, by omega⟩
                    · obtain ⟨g0, -⟩ := hp
                      have g0 : TT 8 = .int .u64 (WL k : Int) := g0
                      have hn1 : n0 ≤ 1 := by simp at hn; omega
                      have hw := (HWl.out k hlt).2
                      have hwr : IntKind.u64.wrap ((WL k : Int) * 65536) = (WL k : Int) * 65536 := by rw [IntKind.wrap_u64]; omega
                      go_simp
                      first | exact ⟨rfl, hC, Nat.le_refl _, by omega⟩ | exact ⟨rfl, Nat.le_refl _, by omega⟩ | exact ⟨hC, Nat.le_refl _, by omega⟩ | exact ⟨Nat.le_refl _, by omega⟩
                    · have hn1 : n0 ≤ 1 := by simp at hn; omega
                      go_simp
                      first | exact ⟨rfl, hC, Nat.le_refl _, by omega⟩ | exact ⟨rfl, Nat.le_refl _, by omega⟩ | exact ⟨hC, Nat.le_refl _, by omega⟩ | exact ⟨Nat.le_refl _, by omega⟩
                    · obtain ⟨g0, -⟩ := hp
                      have g0 : TT 10 = .int .i64 (k : Int) := g0
                      have hn1 : n0 ≤ 1 := by simp at hn; omega
                      have hwr : IntKind.i64.wrap (4 + (k : Int)) = 4 + (k : Int) := by rw [IntKind.wrap_i64]; omega
                      go_simp
                      first | exact ⟨rfl, hC, Nat.le_refl _, by omega⟩ | exact ⟨rfl, Nat.le_refl _, by omega⟩ | exact ⟨hC, Nat.le_refl _, by omega⟩ | exact ⟨Nat.le_refl _, by omega⟩
                    · obtain ⟨g0, -⟩ := hp
                      have g0 : TT 11 = .int .i64 (4 + (k : Int)) := g0
                      have hn1 : n0 ≤ 1 := by simp at hn; omega
                      have h8 : (0 : Int) ≤ 4 + (k : Int) := by omega
                      have h9 : 4 + (k : Int) < 8 := by omega
                      have ht : (4 + (k : Int)).toNat = 4 + k := by omega
                      go_simp
                      first | exact ⟨rfl, hC, Nat.le_refl _, by omega⟩ | exact ⟨rfl, Nat.le_refl _, by omega⟩ | exact ⟨hC, Nat.le_refl _, by omega⟩ | exact ⟨Nat.le_refl _, by omega⟩
                    · obtain ⟨g0, -⟩ := hp
                      have g0 : TT 12 = .pointer (some ⟨g8, 4 + k, none⟩) := g0
                      have hn1 : n0 ≤ 1 := by simp at hn; omega
                      have cg := HGg.out wx hC.2.1 (4 + k) (by omega)
                      go_simp
                      first | exact ⟨rfl, hC, Nat.le_refl _, by omega⟩ | exact ⟨rfl, Nat.le_refl _, by omega⟩ | exact ⟨hC, Nat.le_refl _, by omega⟩ | exact ⟨Nat.le_refl _, by omega⟩
                    · obtain ⟨g0, g1, -⟩ := hp
                      have g0 : TT 9 = .int .u64 ((WL k : Int) * 65536) := g0
                      have g1 : TT 13 = .int .u64 (GQ (4 + k) : Int) := g1
                      have hn1 : n0 ≤ 1 := by simp at hn; omega
                      have hw := HW2.out k hlt
                      go_simp
                      first | exact ⟨rfl, hC, Nat.le_refl _, by omega⟩ | exact ⟨rfl, Nat.le_refl _, by omega⟩ | exact ⟨hC, Nat.le_refl _, by omega⟩ | exact ⟨Nat.le_refl _, by omega⟩
                    · have hn1 : n0 ≤ 1 := by simp at hn; omega
                      go_simp
                      first | exact ⟨rfl, hC, Nat.le_refl _, by omega⟩ | exact ⟨rfl, Nat.le_refl _, by omega⟩ | exact ⟨hC, Nat.le_refl _, by omega⟩ | exact ⟨Nat.le_refl _, by omega⟩
                    · obtain ⟨g0, g1, -⟩ := hp
                      have g0 : TT 15 = .pointer (some ⟨ob, 1, none⟩) := g0
                      have g1 : TT 6 = .int .u64 (WH (k + 1) : Int) := g1
                      have hn0 : n0 = 0 := by simpa using hn
                      subst hn0
                      have c1 := hC.1.cell 1
                      have cf := hC.1.free
                      simp at c1
                      have HN := Lib.hid (hC.1.set 1 (.int .u64 (WH (k + 1) : Int)))
                      have HN2 := Lib.hid (Blk.far hC.2.1 hgo 1 (.int .u64 (WH (k + 1) : Int)))
                      have HN3 := Lib.hid (Blk.far hC.2.2.1 hbo 1 (.int .u64 (WH (k + 1) : Int)))
                      have HN4 := Lib.hid (hC.2.2.2.grown (grown_setCells ob [.int .u64 (WH (k + 1) : Int)] 1 wx) (Nat.le_of_lt hC.2.2.1.lt) (fun q hq => by injection hq with hq; omega))
                      go_simp
                      exact ⟨rfl, ⟨HN.out, HN2.out, HN3.out, HN4.out⟩, by omega, by omega⟩
                    · have hn1 : n0 ≤ 1 := by simp at hn; omega
                      go_simp
                      first | exact ⟨rfl, hC, Nat.le_refl _, by omega⟩ | exact ⟨rfl, Nat.le_refl _, by omega⟩ | exact ⟨hC, Nat.le_refl _, by omega⟩ | exact ⟨Nat.le_refl _, by omega⟩
                  case hend =>
                    intro TT w2 ⟨n0, hn0, hC, hR⟩
                    have e16 : n0 = 1 := hR 16 (by omega)
                    have e17 : TT 17 = .pointer (some ⟨ob, 2, none⟩) := hR 17 (by omega)
                    have e14 : TT 14 = .int .u64 (WL (k + 1) : Int) := hR 14 (by omega)
                    subst e16
                    obtain ⟨hO, hQ, hP, hb⟩ := hC
                    have c2 := hO.cell 2
                    have cf := hO.free
                    simp at c2
                    have HN := Lib.hid (hO.set 2 (.int .u64 (WL (k + 1) : Int)))
                    have HN2 := Lib.hid (Blk.far hQ hgo 2 (.int .u64 (WL (k + 1) : Int)))
                    have HN3 := Lib.hid (Blk.far hP hbo 2 (.int .u64 (WL (k + 1) : Int)))
                    have HN4 := Lib.hid (hb.grown (grown_setCells ob [.int .u64 (WL (k + 1) : Int)] 2 w2) (Nat.le_of_lt hP.lt) (fun q hq => by injection hq with hq; omega))
                    clear hO hQ hP hb hR HO HQ HP HB
                    simp only [List.drop_succ_cons, List.drop_zero]
                    go_wp2_with fail
                    exact ⟨⟨k + 1, by omega, by go_num, HN, HN2, HN3, HN4⟩, by simp [intOf]; omega⟩
                · obtain rfl : k = 4 := by omega
                  have q0 := HP.out.cell 0
                  have q1 := HP.out.cell 1
                  have q2 := HP.out.cell 2
                  have qf := HP.out.free
                  simp at q0 q1 q2
                  have o0 := HO.out.cell 0
                  have o1 := HO.out.cell 1
                  have o2 := HO.out.cell 2
                  simp at o0 o1 o2
                  have c3 := (HP.out.set3 (x' := .bool true) (y' := .int .u64 (WH 4 : Int)) (z' := .int .u64 (WL 4 : Int)))
                  have HBf := Lib.hid (HRet.out wr true (WH 4 : Int) (WL 4 : Int) HP.out HB.out)
                  have d0 := c3.cell 0
                  have d1 := c3.cell 1
                  have d2 := c3.cell 2
                  simp at d0 d1 d2
                  clear c3
                  go_wp2_with fail
                  refine bodyPost_ret (v := .tuple #[.agg #[.bool true, .int .u64 (WH 4 : Int), .int .u64 (WL 4 : Int)], .int .i64 0]) (by simp [results, Tryz.results7, go_sem, *]) rfl ⟨by rw [HWe.out], by rw [Hbx.out]; exact HBf.out⟩
end Go.Proofs.YtcpafmndjcejjaaGreatDoor
