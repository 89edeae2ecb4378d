/-
  slices.Equal of two rows of the same entries.
-/
import Derived.Test.YteccghdegckjhaaGreatDoorTD12
import Derived.Test.YteccghdegckjhaaGreatDoorTD3
import Derived.Test.YteccghdegckjhaaGreatDoorTD13
import Derived.Test.YteccghdegckjhaaGreatDoorTD9
import Derived.Deep.Light
set_option linter.unusedVariables false
namespace Go.Proofs.YteccghdegckjhaaGreatDoor
open Go.RowKit Go
set_option linter.unusedVariables false

/-- what the region of Equal has yielded -/
def eqEnR (s1 s2 : Value) (i : Nat) (g1 g2 o1 o2 : Nat) (x : En) : Nat → Value → World → Prop
  | 0, v, _ => v = s1
  | 1, v, _ => v = .int .i64 (i : Int)
  | 2, v, _ => v = .pointer (some ⟨g1, o1 + i * 5, none⟩)
  | 3, v, _ => v = .agg (layEn.enc x).toArray
  | 4, v, _ => v = s2
  | 5, v, _ => v = .int .i64 (i : Int)
  | 6, v, _ => v = .pointer (some ⟨g2, o2 + i * 5, none⟩)
  | _, v, _ => v = .agg (layEn.enc x).toArray
theorem eqEnR_keep {s1 s2 : Value} {i g1 g2 o1 o2 : Nat} {x : En} (p : Nat) (v : Value) (u w : World) (h : eqEnR s1 s2 i g1 g2 o1 o2 x p v u) (hb : Below u.heap.size u w) : eqEnR s1 s2 i g1 g2 o1 o2 x p v w := by
  rcases p with _ | _ | _ | _ | _ | _ | _ | p
  all_goals exact h
theorem equalIn_pfS (d : Nat) (s : Bool) (h l b : Int) (w : World) : (Op.equalIn (d + 3) 30 (.agg #[.bool s, .int .u64 h, .int .u64 l, .int .i64 b]) (.agg #[.bool s, .int .u64 h, .int .u64 l, .int .i64 b])).run Tryz.prog w = .ok true w := by
  have hA := addrEq s s h h l l d
  have u3 := Tryz.underlying3
  have a3 := Tryz.isAgg3
  have z3 := Tryz.sizeOf3
  have a29 := Tryz.isAgg28
  have z29 := Tryz.sizeOf28
  have hS : Tryz.prog.underlying 30 = some (.struct (Tryz.prog.fieldsOf 30)) := by kernel_rfl
  have hp : Tryz.prog.stoodInHeld 30 = false := by kernel_rfl
  rw [run_equalIn_agg w (d + 2) 30 _ _ hS hp]
  simp only [Program.fieldsOf, Tryz.underlying30]
  go_simp
theorem equalIn_enS (d : Nat) (s : Bool) (h l b : Int) (k : ByteArray) (w : World) : (Op.equalIn (d + 4) 48 (.agg #[.bool s, .int .u64 h, .int .u64 l, .int .i64 b, .string k]) (.agg #[.bool s, .int .u64 h, .int .u64 l, .int .i64 b, .string k])).run Tryz.prog w = .ok true w := by
  have hP := fun w => equalIn_pfS d s h l b w
  have u9 := Tryz.underlying9
  have a9 := Tryz.isAgg9
  have z9 := Tryz.sizeOf9
  have aP := Tryz.isAgg30
  have zP := Tryz.sizeOf30
  have hS2 : Tryz.prog.underlying 48 = some (.struct (Tryz.prog.fieldsOf 48)) := by kernel_rfl
  have hp2 : Tryz.prog.stoodInHeld 48 = false := by kernel_rfl
  rw [run_equalIn_agg w (d + 3) 48 _ _ hS2 hp2]
  simp only [Program.fieldsOf, Tryz.underlying48]
  go_simp
theorem neq_selfE (v : En) (w : World) : (binOp .neq 48 (.agg (layEn.enc v).toArray) (.agg (layEn.enc v).toArray)).run Tryz.prog w = .ok (.bool false) w := by
  have h := equalIn_enS 9996 v.1.1 ((v.1.2.1 : Nat) : Int) ((v.1.2.2.1 : Nat) : Int) v.1.2.2.2 (strL v.2) w
  show (binOp .neq 48 (.agg #[.bool v.1.1, .int .u64 ((v.1.2.1 : Nat) : Int), .int .u64 ((v.1.2.2.1 : Nat) : Int), .int .i64 v.1.2.2.2, .string (strL v.2)]) (.agg #[.bool v.1.1, .int .u64 ((v.1.2.1 : Nat) : Int), .int .u64 ((v.1.2.2.1 : Nat) : Int), .int .i64 v.1.2.2.2, .string (strL v.2)])).run Tryz.prog w = _
  rw [run_neq_struct, h]; rfl
theorem guard_en (op : BinOp) (x y : Operand) (f g : En) (w : World) (h : op = .eql ∨ op = .neq) : (eqGuard op 48 x y (.agg (layEn.enc f).toArray) (.agg (layEn.enc g).toArray)).run Tryz.prog w = .ok () w := by
  rcases h with rfl | rfl
  · exact run_eqGuard_agg w _ _ _ _ _ _ (by kernel_rfl)
  · exact run_eqGuard_agg w _ _ _ _ _ _ (by kernel_rfl)
set_option maxRecDepth 100000 in
set_option maxHeartbeats 4000000 in
theorem equalEn_any (a1 a2 : Option Addr) (n c1 c2 : Nat) (L : List En) (w : World) (h1 : RdK layEn w a1 L) (h2 : RdK layEn w a2 L) (hn : L.length = n) (hs : n ≤ 1000000) :
    Calls Tryz.prog 29 #[.slice a1 n c1, .slice a2 n c2] w (Ret (.bool true) w) := by
  have H1 := Lib.hid h1
  have H2 := Lib.hid h2
  have Hn := Lib.hid hn
  clear h1 h2 hn
  go_enter Tryz.func29, Tryz.ntmps29
  go_wp2_with fail
  go_loopw [5, 13] (fun s5 i wr => ∃ k : Nat, k ≤ n ∧ i = .int .i64 (k : Int) ∧ Hid (Below w.heap.size w wr)) (fun _ i _ => n - (intOf i).toNat)
  case atStart => exact ⟨0, Nat.zero_le _, rfl, Lib.hid (Below.refl _ _)⟩
  case round =>
    obtain ⟨k, hk, rfl, HB⟩ := hrel
    by_cases hlt : k < n
    · have hS : k < L.length := by rw [Hn.out]; exact hlt
      obtain ⟨x, hx⟩ : ∃ x, L[k]? = some x := ⟨_, List.getElem?_eq_getElem hS⟩
      obtain ⟨g1, o1, had1, hg1, hc1⟩ := (H1.out.below HB.out) k x hx
      obtain ⟨g2, o2, had2, hg2, hc2⟩ := (H2.out.below HB.out) k x hx
      have HR1 : Hid (∀ wx, Below wr.heap.size wr wx → wx.rangeAt g1 (o1 + k * 5) (layEn.enc x)) := Lib.hid fun wx hb => range_below (fun j v hv => by
        have := hc1 j v hv
        rwa [← Nat.add_assoc] at this) hb hg1
      have HR2 : Hid (∀ wx, Below wr.heap.size wr wx → wx.rangeAt g2 (o2 + k * 5) (layEn.enc x)) := Lib.hid fun wx hb => range_below (fun j v hv => by
        have := hc2 j v hv
        rwa [← Nat.add_assoc] at this) hb hg2
      subst had1 had2
      clear hx hS hg1 hg2 hc1 hc2
      go_upto_region 6 with fail
      refine wp_region_inv 8 0 (eqEnR (.slice (some ⟨g1, o1, none⟩) n c1) (.slice (some ⟨g2, o2, none⟩) n c2) k g1 g2 o1 o2 x) (fun _ wx => Below wr.heap.size wr wx) (fun u v => Below u.heap.size u v) (fun _ => 0)
        (by kernel_rfl) (by kernel_rfl) (by decide) eqEnR_keep (below_drew (Below.refl _ _)) ?hX
      case' hX => (apply Exists.intro; refine ⟨fun T => ?hA, ?hob, ?hend⟩)
      case hA =>
        simp only [setAll, List.take_succ_cons, List.take_zero, Act.put, List.setIfInBounds_toArray, List.set_cons_succ, List.set_cons_zero, Nat.reduceAdd]
        exact rfl
      case hob =>
        go_light
        refine ⟨?_, ?_, ?_, ?_, ?_, ?_, ?_, ?_, trivial⟩
        all_goals (intro T wx n0 hC hn hp; dsimp only at hn ⊢)
        · unfold Op1
          go_simp
          exact ⟨rfl, Below.refl _ _⟩
        · unfold Op1
          go_simp
          exact ⟨rfl, Below.refl _ _⟩
        · obtain ⟨q0, q1, -⟩ := hp
          have q0 : T 0 = .slice (some ⟨g1, o1, none⟩) n c1 := q0
          have q1 : T 1 = .int .i64 (k : Int) := q1
          unfold Op1
          go_simp
          exact ⟨rfl, Below.refl _ _⟩
        · obtain ⟨q0, -⟩ := hp
          have q0 : T 2 = .pointer (some ⟨g1, o1 + k * 5, none⟩) := q0
          exact Op1.loadn 48 (.tmp 18) rfl g1 (o1 + k * 5) q0 (layEn.enc x) _ (HR1.out wx hC) under_en rfl 5 size_en (layEn.len x) ⟨rfl, hC, Below.refl _ _⟩
        · unfold Op1
          go_simp
          exact ⟨rfl, Below.refl _ _⟩
        · unfold Op1
          go_simp
          exact ⟨rfl, Below.refl _ _⟩
        · obtain ⟨q0, q1, -⟩ := hp
          have q0 : T 4 = .slice (some ⟨g2, o2, none⟩) n c2 := q0
          have q1 : T 5 = .int .i64 (k : Int) := q1
          unfold Op1
          go_simp
          exact ⟨rfl, Below.refl _ _⟩
        · obtain ⟨q0, -⟩ := hp
          have q0 : T 6 = .pointer (some ⟨g2, o2 + k * 5, none⟩) := q0
          exact Op1.loadn 48 (.tmp 22) rfl g2 (o2 + k * 5) q0 (layEn.enc x) _ (HR2.out wx hC) under_en rfl 5 size_en (layEn.len x) ⟨rfl, hC, Below.refl _ _⟩
      case hend =>
        intro T w4 ⟨n0, hn0, hb⟩ hR
        have hT3 : T 3 = .agg (layEn.enc x).toArray := hR 3 (by omega)
        have hT7 : T 7 = .agg (layEn.enc x).toArray := hR 7 (by omega)
        have gx := fun a b wz => guard_en .neq a b x x wz (.inr rfl)
        have nx := fun wz => neq_selfE x wz
        have HB4 := Lib.hid (HB.out.trans (hb.mono HB.out.size))
        clear hR hb HR1 HR2 HB
        generalize (layEn.enc x).toArray = X at *
        go_wp2_with fail
        exact ⟨⟨k + 1, by omega, by go_num, HB4⟩, by simp [intOf]; omega⟩
    · obtain rfl : k = n := by omega
      go_wp2_with fail
      go_ret
      exact ⟨rfl, HB.out⟩
end Go.Proofs.YteccghdegckjhaaGreatDoor
