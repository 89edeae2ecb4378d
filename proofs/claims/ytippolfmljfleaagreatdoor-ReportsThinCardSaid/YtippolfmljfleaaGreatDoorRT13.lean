/-
  Reports put together, and old ones thinned, in plain words: the program's way and the reference's give one list.
  Functions of package slices at a row of structs.
  Two rows that a call owns, in blocks apart.
-/
import Derived.Test.YtippolfmljfleaaGreatDoorRT12
import Derived.Test.YtippolfmljfleaaGreatDoorRT9
import Derived.Test.YtippolfmljfleaaGreatDoorRT6
import Derived.Test.YtippolfmljfleaaGreatDoorRT8
import Derived.WalkSpells
import Derived.Test.YtippolfmljfleaaGreatDoorRT5
set_option linter.unusedVariables false
namespace Go.Proofs.YtippolfmljfleaaGreatDoor
open Go.RowKit Go Go.Sort
set_option linter.unusedVariables false

/-- a sum that stays within bounds -/
def capB (x y : Int) : Int := min (wrap64 (x + y)) 1000000000000
def sumR (x r : RB) : RB := ⟨{ x.1 with pk := capB x.1.pk r.1.pk, sz := capB x.1.sz r.1.sz }, x.2⟩
def togS (out : List RB) (r : RB) : List RB := match out.getLast? with
  | some x => if cR x r = 0 then out.dropLast ++ [sumR x r] else out ++ [r]
  | none => [r]
def togL (L : List RB) : List RB := (stabR L).foldl togS []
/-! ### the order turned round -/
theorem compareInt_anti (a b : Int) : Lib.compareInt b a = -Lib.compareInt a b := by
  unfold Lib.compareInt
  rcases Int.lt_trichotomy a b with h | h | h
  · rw [if_neg (by omega), if_pos (by omega), if_pos h]; rfl
  · subst h; rw [if_neg (Int.lt_irrefl a), if_neg (Int.lt_irrefl a)]; rfl
  · rw [if_pos h, if_neg (by omega), if_pos (by omega)]
theorem cN_anti (a b : Nat) : cN b a = -cN a b := by
  unfold cN
  rcases Nat.lt_trichotomy a b with h | h | h
  · rw [if_neg (by omega), if_pos h, if_pos h]; rfl
  · subst h; rw [if_neg (Nat.lt_irrefl a), if_neg (Nat.lt_irrefl a)]; rfl
  · rw [if_pos h, if_neg (by omega), if_pos h]
theorem cBo_anti (a b : Bool) : cBo b a = -cBo a b := by cases a <;> cases b <;> rfl
theorem cBy_anti : ∀ (a b : List UInt8), Lib.compareBytes b a = -Lib.compareBytes a b
  | [], [] => rfl
  | [], _ :: _ => rfl
  | _ :: _, [] => rfl
  | a :: xs, b :: ys => by
    unfold Lib.compareBytes
    by_cases h : a < b
    · rw [if_neg (UInt8.lt_asymm h), if_pos h, if_pos h]; rfl
    · by_cases h2 : b < a
      · rw [if_pos h2, if_neg h, if_pos h2]
      · rw [if_neg h2, if_neg h, if_neg h, if_neg h2]
        exact cBy_anti xs ys
theorem orI_anti (a b : Int) : orI (-a) (-b) = -orI a b := by
  unfold orI
  by_cases h : a = 0
  · rw [if_pos h, if_pos (by omega)]
  · rw [if_neg h, if_neg (by omega)]
theorem cR_anti (x y : RB) : cR y x = -cR x y := by
  unfold cR cF cA cS
  rw [compareInt_anti x.1.hour y.1.hour, cBy_anti x.1.node.data.toList y.1.node.data.toList, cBo_anti x.1.out y.1.out, compareInt_anti x.1.f.p y.1.f.p, compareInt_anti x.1.f.fp y.1.f.fp, compareInt_anti x.1.f.tp y.1.f.tp,
    cN_anti (numA x.1.f.s1 _ _) (numA y.1.f.s1 _ _), cN_anti (numA x.1.f.s2 _ _) (numA y.1.f.s2 _ _)]
  rw [orI_anti, orI_anti, orI_anti, orI_anti, orI_anti, orI_anti, orI_anti]
theorem cR_hour {x y : RB} (h : x.1.hour < y.1.hour) : cR x y = -1 := by
  unfold cR
  have : Lib.compareInt x.1.hour y.1.hour = -1 := by unfold Lib.compareInt; rw [if_pos h]
  rw [this]; rfl
theorem hour_cR {x y : RB} (h : cR x y < 0) : x.1.hour ≤ y.1.hour := by
  rcases (show y.1.hour < x.1.hour ∨ x.1.hour ≤ y.1.hour by omega) with h1 | h1
  · have := cR_hour h1
    rw [cR_anti x y] at this
    omega
  · exact h1
/-! ### a list that is new to the sums -/
theorem togS_new {out : List RB} {r : RB} (h : ∀ x, out.getLast? = some x → cR x r ≠ 0) : togS out r = out ++ [r] := by
  unfold togS
  cases e : out.getLast? with
  | none =>
    have : out = [] := by simpa using e
    subst this; rfl
  | some x => simp only; rw [if_neg (h x e)]
theorem fold_new : ∀ (B out : List RB), (∀ x, out.getLast? = some x → ∀ y, B[0]? = some y → cR x y ≠ 0) → (∀ (k : Nat) (x y : RB), B[k]? = some x → B[k + 1]? = some y → cR x y ≠ 0) → B.foldl togS out = out ++ B
  | [], out, _, _ => by simp
  | b :: B, out, h1, h2 => by
    rw [List.foldl_cons, togS_new fun x hx => h1 x hx b rfl, fold_new B (out ++ [b]) (fun x hx y hy => by
      have : b = x := by simpa using hx
      subst this
      exact h2 0 b y rfl (by simpa using hy)) fun k x y hx hy => h2 (k + 1) x y (by simpa using hx) (by simpa using hy)]
    simp
theorem togS_hour {P : Int → Prop} {out : List RB} {r : RB} (h : ∀ x ∈ out, P x.1.hour) (hr : P r.1.hour) : ∀ x ∈ togS out r, P x.1.hour := by
  unfold togS
  cases e : out.getLast? with
  | none => intro x hx; have : x = r := by simpa using hx
            rw [this]; exact hr
  | some z =>
    have hz : z ∈ out := List.mem_of_getLast? e
    simp only
    split
    · intro x hx
      rcases List.mem_append.1 hx with h1 | h1
      · exact h x (List.dropLast_subset out h1)
      · have : x = sumR z r := by simpa using h1
        rw [this]; exact h z hz
    · intro x hx
      rcases List.mem_append.1 hx with h1 | h1
      · exact h x h1
      · have : x = r := by simpa using h1
        rw [this]; exact hr
theorem fold_hour {P : Int → Prop} : ∀ (B out : List RB), (∀ x ∈ out, P x.1.hour) → (∀ x ∈ B, P x.1.hour) → ∀ x ∈ B.foldl togS out, P x.1.hour
  | [], out, h, _ => h
  | b :: B, out, h, hB => by
    rw [List.foldl_cons]
    exact fold_hour B _ (togS_hour h (hB b (by simp))) fun x hx => hB x (by simp [hx])
theorem stabR_mem {A : List RB} {x : RB} (h : x ∈ stabR A) : x ∈ A := by
  unfold stabR Go.Sort.insertionSort at h
  have hall := insOuter_allP (fun x => x ∈ A) (Go.Proofs.ltOf cR) 0 A.length _ (0 + 1) A.toArray rfl (Nat.le_refl _) (fun k hk => by
    rw [getB_of hk]
    exact List.getElem_mem _)
  obtain ⟨k, hk, rfl⟩ := List.getElem_of_mem h
  have hk' : k < (insOuter (Go.Proofs.ltOf cR) 0 A.length (0 + 1) A.toArray).size := by simpa using hk
  have := hall k hk'
  rw [getB_of hk'] at this
  simpa using this
/-- what stands right behind, in order, is only laid behind -/
theorem togL_app {A B : List RB} (hB : ∀ (k : Nat) (x y : RB), B[k]? = some x → B[k + 1]? = some y → cR x y < 0) (hA : ∀ x ∈ A, ∀ y ∈ B, x.1.hour < y.1.hour) : togL (A ++ B) = togL A ++ B := by
  have hs : stabR (A ++ B) = stabR A ++ B := ins_app (Go.Proofs.ltOf cR) A B (fun k x y hx hy => by
    have h1 := hB k x y hx hy
    have h2 := cR_anti x y
    unfold Go.Proofs.ltOf
    exact decide_eq_false (by omega)) (fun x hx y hy => by
    have h1 := cR_hour (hA x hx y hy)
    have h2 := cR_anti x y
    unfold Go.Proofs.ltOf
    exact decide_eq_false (by omega))
  unfold togL
  rw [hs, List.foldl_append]
  refine fold_new B _ (fun x hx y hy => ?_) fun k x y hx hy => ?_
  · have hm : x ∈ (stabR A).foldl togS [] := List.mem_of_getLast? hx
    have hy' : y ∈ B := List.mem_of_getElem? hy
    have := fold_hour (P := fun t => t < y.1.hour) (stabR A) [] (by simp) (fun z hz => hA z (stabR_mem hz) y hy') x hm
    rw [cR_hour this]; decide
  · have := hB k x y hx hy
    omega
/-! ### thinned -/
theorem thin_bd {h : Int} (h1 : -1099511627777 ≤ h) (h2 : h ≤ 1099511627777) : -1099511627777 ≤ h - h.tmod 24 ∧ h - h.tmod 24 ≤ 1099511627777 := by
  rcases (show 0 ≤ h ∨ ∃ a : Int, 0 ≤ a ∧ h = -a from (by
    rcases (show 0 ≤ h ∨ h < 0 by omega) with h0 | h0
    · exact .inl h0
    · exact .inr ⟨-h, by omega, by omega⟩)) with h0 | ⟨a, h0, rfl⟩
  · rw [Int.tmod_eq_emod_of_nonneg h0]; omega
  · rw [Int.neg_tmod, Int.tmod_eq_emod_of_nonneg h0]; omega
/-- an old report by its day, without ports -/
def oldR (x : RB) : RB := ⟨{ x.1 with hour := x.1.hour - x.1.hour.tmod 24, f := { x.1.f with fp := 0, tp := 0 } }, ⟨x.2.1.1, x.2.1.2.1, x.2.1.2.2.1, x.2.1.2.2.2.1, x.2.1.2.2.2.2.1, by show I41 0; unfold I41; omega, by show I41 0; unfold I41; omega⟩, (thin_bd x.2.2.1 x.2.2.2.1).1, (thin_bd x.2.2.1 x.2.2.2.1).2, x.2.2.2.2⟩
def isOld (d : Int) (x : RB) : Bool := decide (x.1.hour < 24 * d)
def thinR (d : Int) (x : RB) : RB := if isOld d x = true then oldR x else x
/-- the program's way -/
def thinP (d : Int) (L : List RB) : List RB := togL (L.map (thinR d))
/-- the reference's way -/
def thinQ (d : Int) (L : List RB) : List RB := togL ((L.filter (isOld d)).map oldR) ++ L.filter fun x => !isOld d x
/-- reports in order -/
def ordR (L : List RB) : Prop := ∀ (k : Nat) (x y : RB), L[k]? = some x → L[k + 1]? = some y → cR x y < 0
theorem scan_ord : ∀ {L : List RB} {p : Option RB}, scanRF p L = 0 → ordR L ∧ ∀ q, p = some q → ∀ y, L[0]? = some y → cR q y < 0
  | [], p, _ => ⟨fun k x y h => by simp at h, fun q _ y h => by simp at h⟩
  | r :: l, p, h => by
    unfold scanRF at h
    by_cases ha : afterRF p r = 0
    · rw [if_neg (by simp [ha])] at h
      obtain ⟨h1, h2⟩ := scan_ord h
      refine ⟨fun k x y hx hy => ?_, fun q hq y hy => ?_⟩
      · cases k with
        | zero =>
          have : r = x := by simpa using hx
          subst this
          exact h2 r rfl y (by simpa using hy)
        | succ k => exact h1 k x y (by simpa using hx) (by simpa using hy)
      · subst hq
        have : r = y := by simpa using hy
        subst this
        unfold afterRF at ha
        by_cases hr : rowRF r.1 = 0
        · rw [if_neg (by simp [hr])] at ha
          replace ha : (if 0 ≤ cR q r then (7 : Int) else 0) = 0 := ha
          by_cases hc : 0 ≤ cR q r
          · rw [if_pos hc] at ha; cases ha
          · omega
        · rw [if_pos hr] at ha; exact absurd ha hr
    · rw [if_pos ha] at h; exact absurd h ha
theorem repF_ord {L : List RB} (h : repF L = 0) : ordR L := by
  unfold repF at h
  by_cases hl : 3000 < L.length
  · rw [if_pos hl] at h; cases h
  · rw [if_neg hl] at h
    exact (scan_ord h).1
theorem scan_hour : ∀ {L : List RB} {p : Option RB}, scanRF p L = 0 → ∀ x ∈ L, 0 ≤ x.1.hour ∧ x.1.hour ≤ 96023
  | [], _, _, x, hx => by simp at hx
  | r :: l, p, h, x, hx => by
    unfold scanRF at h
    by_cases ha : afterRF p r = 0
    · rw [if_neg (by simp [ha])] at h
      rcases List.mem_cons.1 hx with rfl | hx
      · unfold afterRF at ha
        by_cases hr : rowRF x.1 = 0
        · unfold rowRF at hr
          by_cases k1 : keyB x.1.node.data.toList = false
          · rw [if_pos k1] at hr; cases hr
          · rw [if_neg k1] at hr
            by_cases k2 : outB x.1.hour 0 96023 = true
            · rw [if_pos k2] at hr; cases hr
            · unfold outB at k2
              simp at k2
              omega
        · rw [if_pos hr] at ha; exact absurd ha hr
      · exact scan_hour h x hx
    · rw [if_pos ha] at h; exact absurd h ha
theorem repF_hour {L : List RB} (h : repF L = 0) : ∀ x ∈ L, 0 ≤ x.1.hour ∧ x.1.hour ≤ 96023 := by
  unfold repF at h
  by_cases hl : 3000 < L.length
  · rw [if_pos hl] at h; cases h
  · rw [if_neg hl] at h
    exact scan_hour h
theorem ordR_tail {x : RB} {L : List RB} (h : ordR (x :: L)) : ordR L := fun k a b ha hb => h (k + 1) a b (by simpa using ha) (by simpa using hb)
theorem ordR_le : ∀ {L : List RB} {x : RB}, ordR (x :: L) → ∀ y ∈ L, x.1.hour ≤ y.1.hour
  | [], _, _, y, hy => by simp at hy
  | z :: L, x, h, y, hy => by
    have h1 := hour_cR (h 0 x z rfl rfl)
    rcases List.mem_cons.1 hy with rfl | hy
    · exact h1
    · exact Int.le_trans h1 (ordR_le (ordR_tail h) y hy)
/-- the old ones stand ahead -/
theorem ordR_split (d : Int) : ∀ {L : List RB}, ordR L → L.map (thinR d) = (L.filter (isOld d)).map oldR ++ (L.filter fun x => !isOld d x) ∧ ordR (L.filter fun x => !isOld d x)
  | [], _ => ⟨rfl, fun k a b ha => by simp at ha⟩
  | x :: L, h => by
    obtain ⟨h1, h2⟩ := ordR_split d (ordR_tail h)
    by_cases ho : isOld d x = true
    · have e1 : (x :: L).filter (isOld d) = x :: L.filter (isOld d) := List.filter_cons_of_pos ho
      have e2 : ((x :: L).filter fun x => !isOld d x) = L.filter fun x => !isOld d x := List.filter_cons_of_neg (by simp [ho])
      rw [e1, e2]
      refine ⟨?_, h2⟩
      rw [List.map_cons, List.map_cons, h1, show thinR d x = oldR x from if_pos ho]
      rfl
    · have hall : ∀ y ∈ L, isOld d y = false := fun y hy => by
        have hle := ordR_le h y hy
        unfold isOld at ho ⊢
        simp at ho ⊢
        omega
      have e1 : L.filter (isOld d) = [] := List.filter_eq_nil_iff.2 fun y hy => by simp [hall y hy]
      have e2 : (L.filter fun x => !isOld d x) = L := List.filter_eq_self.2 fun y hy => by simp [hall y hy]
      have e3 : (x :: L).filter (isOld d) = [] := by rw [List.filter_cons_of_neg ho, e1]
      have e4 : ((x :: L).filter fun x => !isOld d x) = x :: L := by rw [List.filter_cons_of_pos (by simpa using ho), e2]
      rw [e3, e4]
      refine ⟨?_, h⟩
      rw [List.map_cons, show thinR d x = x from if_neg ho]
      rw [h1, e1, e2]
      rfl
theorem thin_same {L : List RB} {d : Int} (h : repF L = 0) (hd : 0 ≤ d) : thinP d L = thinQ d L := by
  obtain ⟨h1, h2⟩ := ordR_split d (repF_ord h)
  have hh := repF_hour h
  unfold thinP thinQ
  rw [h1]
  refine togL_app h2 fun x hx y hy => ?_
  obtain ⟨z, hz, rfl⟩ := List.mem_map.1 hx
  obtain ⟨hzL, hzo⟩ := List.mem_filter.1 hz
  obtain ⟨hyL, hyo⟩ := List.mem_filter.1 hy
  have hz0 := (hh z hzL).1
  unfold isOld at hzo hyo
  simp at hzo hyo
  show z.1.hour - z.1.hour.tmod 24 < y.1.hour
  rw [Int.tmod_eq_emod_of_nonneg hz0]
  omega
end Go.Proofs.YtippolfmljfleaaGreatDoor

namespace Go.Proofs.YtippolfmljfleaaGreatDoor
open Go.RowKit Go
set_option linter.unusedVariables false

theorem nilRb (w : World) (a : Option Addr) (l c : Nat) : (binOp .eql 26 (.slice a l c) (.slice none 0 0)).run Tryz.prog w = .ok (.bool a.isNone) w :=
  Lib.run_eql_slice_nil (h := Tryz.underlying26) ..
set_option maxRecDepth 100000 in
set_option maxHeartbeats 1000000 in
theorem cloneRb_any (ad : Option Addr) (n c : Nat) (L : List RB) (w : World) (h : RdK layRb w ad L) (hn : L.length = n) (hs : n ≤ 1000000) :
    Calls Tryz.prog 43 #[.slice ad n c] w fun e w' => ∃ v, e = .returned v ∧ OwnK layRb w' w.heap.size v L ∧ Below w.heap.size w w' := by
  cases ad with
  | none =>
    have en := fun w => nilRb w none n c
    simp only [Option.isNone_none] at en
    have hL : Hid (L = []) := Lib.hid h.none_
    clear h hn hs
    go_enter Tryz.func43, Tryz.ntmps43
    go_wp2
    go_ret
    exact ⟨_, rfl, by rw [hL.out]; exact OwnK.nil _ _ _, Below.refl _ _⟩
  | some a =>
    have en := fun w => nilRb w (some a) n c
    simp only [Option.isNone_some] at en
    subst hn
    have HS := Lib.hid h.src
    have hB : Hid (Below w.heap.size w (w.alloc (.cells #[] layRb.ty (0, 0)))) := Lib.hid (below_alloc (Below.refl _ _) _)
    clear h
    go_enter Tryz.func43, Tryz.ntmps43
    go_wp2_with (at_builtin; refine wpList_app rbE rfl (.tmp 5) (.tmp 6) rfl rfl (ownK_empty layRb w) rfl (src_later HS.out hB.out) (layRb.all_one L) ?c2 ?c3 ?c4 ?_)
    case c2 => unfold maxLen; simp only [List.length_nil]; omega
    case c3 => simp only [List.length_nil]; omega
    case c4 => simp
    intro v' w' hO hG
    have HO : Hid (OwnK layRb w' w.heap.size v' L) := Lib.hid hO
    have HG := Lib.hid hG
    clear hO hG
    go_wp2
    go_ret
    exact ⟨_, rfl, HO.out, HG.out.below (u := .slice (some ⟨w.heap.size, 0, none⟩) 0 0) (by simp) (by intro k hk; simp [Value.ownBlock] at hk; omega) |> (below_alloc (Below.refl _ _) _).trans⟩
end Go.Proofs.YtippolfmljfleaaGreatDoor

namespace Go.Proofs.YtippolfmljfleaaGreatDoor
open Go.RowKit Go
set_option linter.unusedVariables false

/-- two values whose own blocks are not one -/
def Apart (u v : Value) : Prop := ∀ k, u.ownBlock = some k → v.ownBlock ≠ some k
theorem Apart.symm {u v : Value} (h : Apart u v) : Apart v u := fun k hk e => h k e hk
theorem Apart.or {u v : Value} (h : Apart u v) : v.ownBlock = none ∨ v.ownBlock ≠ u.ownBlock := by
  cases e : v.ownBlock with
  | none => exact .inl rfl
  | some k => exact .inr fun e2 => h k e2.symm e
theorem Apart.none_left (v : Value) : Apart (.slice none 0 0) v := fun k hk => by cases hk
section
variable {α : Type} {E : Lay α}
/-- a row stays where another one, apart from it, is written -/
theorem OwnK.apart {w w' : World} {B : Nat} {u v v' : Value} {L : List α} (h : OwnK E w B u L) (hA : Apart u v) (hG : Grew w w' v v') : OwnK E w' B u L := own_grew h hG hA.symm.or
theorem Apart.grew {w w' : World} {B : Nat} {u v v' : Value} {L : List α} (h : OwnK E w B u L) (hA : Apart u v) (hG : Grew w w' v v') : Apart u v' := fun k hk e => by
  rcases hG.o with e2 | ⟨j, e2, hj⟩
  · rw [e2] at e; exact hA k hk e
  · rw [e2] at e
    injection e with e
    have := own_lt h k hk
    omega
/-- two rows that a call owns, apart -/
structure Two (E : Lay α) (w : World) (B : Nat) (u v : Value) (L M : List α) : Prop where
  l : OwnK E w B u L
  r : OwnK E w B v M
  a : Apart u v
theorem Two.nil (E : Lay α) (w : World) (B : Nat) : Two E w B (.slice none 0 0) (.slice none 0 0) [] [] := ⟨OwnK.nil _ _ _, OwnK.nil _ _ _, Apart.none_left _⟩
theorem Two.later {w w' : World} {B : Nat} {u v : Value} {L M : List α} (h : Two E w B u v L M) (hb : Below w.heap.size w w') : Two E w' B u v L M := ⟨h.l.later hb, h.r.later hb, h.a⟩
theorem Two.alloc {w : World} {B : Nat} {u v : Value} {L M : List α} (h : Two E w B u v L M) (o : Obj) : Two E (w.alloc o) B u v L M := ⟨h.l.alloc o, h.r.alloc o, h.a⟩
theorem Two.left {w w' : World} {B : Nat} {u v u' : Value} {L M L' : List α} (h : Two E w B u v L M) (hO : OwnK E w' B u' L') (hG : Grew w w' u u') : Two E w' B u' v L' M :=
  ⟨hO, h.r.apart h.a.symm hG, (Apart.grew h.r h.a.symm hG).symm⟩
theorem Two.right {w w' : World} {B : Nat} {u v v' : Value} {L M M' : List α} (h : Two E w B u v L M) (hO : OwnK E w' B v' M') (hG : Grew w w' v v') : Two E w' B u v' L M' :=
  ⟨h.l.apart h.a hG, hO, Apart.grew h.l h.a hG⟩
theorem Two.farRow {w : World} {B : Nat} {u v : Value} {L M : List α} (h : Two E w B u v L M) {b : Nat} (hu : ∀ k, u.ownBlock = some k → k ≠ b) (hv : ∀ k, v.ownBlock = some k → k ≠ b) {w' : World} (hG : w.grownBy w' (some b)) : Two E w' B u v L M :=
  ⟨World.ownsRow.kept h.l hG (by
    cases e : u.ownBlock with
    | none => exact .inl rfl
    | some k => exact .inr fun e2 => hu k e (by injection e2)), World.ownsRow.kept h.r hG (by
    cases e : v.ownBlock with
    | none => exact .inl rfl
    | some k => exact .inr fun e2 => hv k e (by injection e2)), h.a⟩
end
end Go.Proofs.YtippolfmljfleaaGreatDoor
