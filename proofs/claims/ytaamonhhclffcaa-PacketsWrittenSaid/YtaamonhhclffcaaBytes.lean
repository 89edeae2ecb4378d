/-
  Bytes: put and big (a number in some bytes), Equal of two slices of bytes.
-/
import Derived.Test.YtaamonhhclffcaaOwn
import Derived.Test.YtaamonhhclffcaaSum
namespace Go.Proofs.Ytaamonhhclffcaa
open Go.RowKit Go
set_option linter.unusedVariables false

def encB (c : UInt8) : Value := .int .u8 (c.toNat : Int)
def encBs (bs : List UInt8) : List Value := bs.map encB
theorem encBs_len (bs : List UInt8) : (encBs bs).length = bs.length := by simp [encBs]
theorem encBs_one (bs : List UInt8) : ∀ u ∈ encBs bs, u.oneCell' = true := by
  intro u hu
  obtain ⟨c, _, rfl⟩ := List.mem_map.1 hu
  rfl
def OwnB (w : World) (base : Nat) (v : Value) (bs : List UInt8) : Prop := w.ownsRow base 5 1 v bs.length (encBs bs)
theorem byteE : EI Try.prog 43 5 1 1 := EI.mk' (z := .int .u8 0) Try.underlying43 (by kernel_rfl) rfl (by decide)
theorem OwnB.nil (w : World) (base : Nat) : OwnB w base (.slice none 0 0) [] := World.ownsRow_nil w base _ 1

def be (n : Nat) : Nat → List UInt8
  | 0 => []
  | k + 1 => UInt8.ofNat (n / 256 ^ k) :: be n k
theorem be_len (n : Nat) : ∀ k, (be n k).length = k
  | 0 => rfl
  | k + 1 => by simp [be, be_len n k]

theorem be_byte (x r : Nat) : Value.int .u8 ((x : Int) / 2 ^ (8 * r) % 256) = encB (UInt8.ofNat (x / 256 ^ r)) := by
  unfold encB
  rw [UInt8.toNat_ofNat', show (256 : Nat) ^ r = 2 ^ (8 * r) by rw [Nat.pow_mul]]
  refine congrArg (Value.int .u8) ?_
  rw [Int.natCast_emod, Int.natCast_ediv, Int.natCast_pow]
  rfl
theorem be_acc {bs acc : List UInt8} {x r m : Nat} (h : acc ++ be x r = bs ++ be x m) : acc.length + r = bs.length + m := by
  have := congrArg List.length h
  simpa [be_len] using this

set_option maxRecDepth 100000 in
set_option maxHeartbeats 1000000 in
theorem put_any (v : Value) (bs : List UInt8) (base : Nat) (x : Nat) (m : Nat) (w : World) (hown : OwnB w base v bs) (hb : base ≤ w.heap.size) (hx : x < 18446744073709551616) (hm : m ≤ 8) (hl : bs.length ≤ 1000000) :
    Calls Try.prog 94 #[v, .int .u64 x, .int .i64 m] w fun e w' => ∃ v', e = .returned v' ∧ OwnB w' base v' (bs ++ be x m) ∧ Grew w w' v v' := by
  go_enter Try.func94, Try.ntmps94
  go_wp2
  go_loopw [0, 7] (fun s i wr => ∃ (r : Nat) (acc : List UInt8), r ≤ m ∧ i = .int .i64 ((r : Int) - 1) ∧ acc ++ be x r = bs ++ be x m ∧ OwnB wr base s acc ∧ Grew w wr v s) (fun _ i _ => (intOf i + 1).toNat)
  case atStart => exact ⟨m, bs, Nat.le_refl _, rfl, rfl, hown, Grew.refl w v⟩
  case round =>
    obtain ⟨r, acc, hr, rfl, hacc, hO, hG⟩ := hrel
    have Hacc := Lib.hid hacc
    have HO := Lib.hid hO
    have HG := Lib.hid hG
    clear hacc hO hG
    cases r with
    | zero =>
      go_wp2
      go_ret
      exact ⟨_, rfl, by have := Hacc.out; simp only [be, List.append_nil] at this; rw [← this]; exact HO.out, HG.out⟩
    | succ r =>
      have e1 : ((r + 1 : Nat) : Int) - 1 = (r : Int) := by omega
      rw [e1]
      go_wp2_with (at_builtin; refine wpList_app byteE rfl (.tmp 14) (.tmp 20) rfl rfl (World.ownsRow.alloc HO.out _) rfl (src_one_new _ _ _) ?c1 ?c2 ?c3 ?c4 ?_)
      case c1 => intro u hu; simp at hu; subst hu; rfl
      case c2 => have := be_acc Hacc.out; simp only [maxLen]; omega
      case c3 => have := be_acc Hacc.out; omega
      case c4 => have := HG.out.g.size; simp; omega
      rw [be_byte]
      intro v' w' hO hG
      have HO' : Hid (OwnB w' base v' (acc ++ [UInt8.ofNat (x / 256 ^ r)])) := by
        show w'.ownsRow _ _ _ _ _ _
        rw [List.length_append, encBs, List.map_append]
        exact hO
      have HG' := Lib.hid (HG.out.trans hG.allocFirst)
      clear hO hG
      go_wp2
      refine ⟨⟨r, acc ++ [UInt8.ofNat (x / 256 ^ r)], by omega, by simp, ?_, HO'.out, HG'.out⟩, by simp [intOf]⟩
      have := Hacc.out
      simp only [be] at this
      rw [List.append_assoc]
      exact this

set_option maxRecDepth 100000 in
set_option maxHeartbeats 1000000 in
theorem big_any (x : Nat) (m : Nat) (w : World) (hx : x < 18446744073709551616) (hm : m ≤ 8) :
    Calls Try.prog 68 #[.int .u64 x, .int .i64 m] w fun e w' => ∃ v', e = .returned v' ∧ OwnB w' w.heap.size v' (be x m) ∧ Below w.heap.size w w' := by
  go_enter Try.func68, Try.ntmps68
  go_wp2
  go_loopw [5, 6] (fun s i wr => ∃ (r : Nat) (acc : List UInt8), r ≤ m ∧ i = .int .i64 ((r : Int) - 1) ∧ acc ++ be x r = [] ++ be x m ∧ OwnB wr w.heap.size s acc ∧ Below w.heap.size w wr) (fun _ i _ => (intOf i + 1).toNat)
  case atStart => exact ⟨m, [], Nat.le_refl _, rfl, rfl, OwnB.nil _ _, Below.refl _ _⟩
  case round =>
    obtain ⟨r, acc, hr, rfl, hacc, hO, hG⟩ := hrel
    have Hacc := Lib.hid hacc
    have HO := Lib.hid hO
    have HG := Lib.hid hG
    clear hacc hO hG
    cases r with
    | zero =>
      go_wp2
      go_ret
      exact ⟨_, rfl, by have := Hacc.out; simp only [be, List.append_nil, List.nil_append] at this; rw [← this]; exact HO.out, HG.out⟩
    | succ r =>
      have e1 : ((r + 1 : Nat) : Int) - 1 = (r : Int) := by omega
      rw [e1]
      go_wp2_with (at_builtin; refine wpList_app byteE rfl (.tmp 13) (.tmp 19) rfl rfl (World.ownsRow.alloc HO.out _) rfl (src_one_new _ _ _) ?c1 ?c2 ?c3 ?c4 ?_)
      case c1 => intro u hu; simp at hu; subst hu; rfl
      case c2 => have := be_acc Hacc.out; simp only [maxLen, List.length_nil] at *; omega
      case c3 => have := be_acc Hacc.out; simp only [List.length_nil] at this; omega
      case c4 => have := HG.out.size; simp; omega
      rw [be_byte]
      intro v' w' hO hG
      have HO' : Hid (OwnB w' w.heap.size v' (acc ++ [UInt8.ofNat (x / 256 ^ r)])) := by
        show w'.ownsRow _ _ _ _ _ _
        rw [List.length_append, encBs, List.map_append]
        exact hO
      have HG' := Lib.hid (HG.out.trans (hG.allocFirst.below HG.out.size (own_base HO.out)))
      clear hO hG
      go_wp2
      refine ⟨⟨r, acc ++ [UInt8.ofNat (x / 256 ^ r)], by omega, by simp, ?_, HO'.out, HG'.out⟩, by simp [intOf]⟩
      have := Hacc.out
      simp only [be] at this
      rw [List.append_assoc]
      exact this

/-- a slice of bytes that can be read -/
theorem OwnB.src {w : World} {base : Nat} {v : Value} {bs : List UInt8} (h : OwnB w base v bs) : ∃ ad c, v = .slice ad bs.length c ∧ Src w ad bs.length 1 (encBs bs) ∧ bs.length ≤ c ∧ c ≤ maxLen := own_form h
theorem rdB_of_src {w : World} {ad : Option Addr} {bs : List UInt8} (h : Src w ad bs.length 1 (encBs bs)) (hl : bs.length ≤ 140737488351232) : RdB w ad bs := by
  refine ⟨hl, fun i hi => ?_⟩
  have hg : (encBs bs)[i]? = some (encB bs[i]) := by simp [encBs, hi]
  obtain ⟨a, e, hlt, hc⟩ := h.2 i _ hg
  obtain ⟨g, o, s⟩ := a
  have h0 : (encBs bs)[0]? = some (encB (bs[0]'(by omega))) := by simp [encBs, List.getElem?_eq_getElem (show 0 < bs.length by omega)]
  obtain ⟨a', e', _, hc0⟩ := h.2 0 _ h0
  have ea : a' = ⟨g, o, s⟩ := by rw [e] at e'; injection e' with e'; exact e'.symm
  subst ea
  have hs : s = none := by
    cases s with
    | none => rfl
    | some y =>
      exfalso
      unfold World.cell? Addr.add at hc0
      simp at hc0
      split at hc0 <;> simp at hc0
  subst hs
  have hadd : (⟨g, o, none⟩ : Addr).add i = ⟨g, o + i, none⟩ := by unfold Addr.add; split <;> simp_all
  rw [hadd] at hc
  exact ⟨g, o, e, hlt, by rw [hc]; simp [encB, List.getD, hi]⟩

set_option maxRecDepth 100000 in
set_option maxHeartbeats 1000000 in
theorem equalB_any (a1 a2 : Option Addr) (c1 c2 : Nat) (xs ys : List UInt8) (w : World) (h1 : RdB w a1 xs) (h2 : RdB w a2 ys) :
    Calls Try.prog 23 #[.slice a1 xs.length c1, .slice a2 ys.length c2] w fun e w' => e = .returned (.bool (decide (xs = ys))) ∧ ∃ n, w' = w.drewN n := by
  have hs1 := h1.small
  generalize hn : xs.length = n
  rw [hn] at hs1
  by_cases hl : xs.length = ys.length
  · rw [← hl, hn]
    have Hn := Lib.hid hn
    have Hl := Lib.hid hl
    clear hn hl
    go_enter Try.func23, Try.ntmps23
    go_wp2
    go_loopw [13] (fun i wr => ∃ (k q : Nat), k ≤ n ∧ i = .int .i64 k ∧ xs.take k = ys.take k ∧ wr = w.drewN q) (fun i _ => n - (intOf i).toNat)
    case atStart => exact ⟨0, 0, Nat.zero_le _, rfl, rfl, rfl⟩
    case round =>
      obtain ⟨k, q, hk, rfl, heq, rfl⟩ := hrel
      have Heq := Lib.hid heq
      clear heq
      by_cases hlt : k < n
      · obtain ⟨g1, o1, e1, hg1, hc1⟩ := h1.cell k (by rw [Hn.out]; exact hlt)
        obtain ⟨g2, o2, e2, hg2, hc2⟩ := h2.cell k (by rw [← Hl.out, Hn.out]; exact hlt)
        have hx : xs.take (k + 1) = xs.take k ++ [xs.getD k 0] := by
          rw [List.take_succ_eq_append_getElem (by rw [Hn.out]; exact hlt)]
          simp [List.getD, List.getElem?_eq_getElem (show k < xs.length by rw [Hn.out]; exact hlt)]
        have hy : ys.take (k + 1) = ys.take k ++ [ys.getD k 0] := by
          rw [List.take_succ_eq_append_getElem (by rw [← Hl.out, Hn.out]; exact hlt)]
          simp [List.getD, List.getElem?_eq_getElem (show k < ys.length by rw [← Hl.out, Hn.out]; exact hlt)]
        have hne : xs = ys → xs.getD k 0 = ys.getD k 0 := by rintro rfl; rfl
        have Hx := Lib.hid hx
        have Hy := Lib.hid hy
        have Hne := Lib.hid hne
        clear hx hy hne
        subst e1 e2
        generalize xs.getD k 0 = x at *
        generalize ys.getD k 0 = y at *
        go_wp2_with fail
        go_quiet (fail)
        go_wp2_with fail
        · go_ret
          refine ⟨?_, q + nq, by rw [World.drewN_drewN]⟩
          have hxy : xs ≠ ys := fun e => by
            have := Hne.out e
            subst this
            simp_all
          simp [hxy]
        · refine ⟨⟨k + 1, _, by omega, by go_num, ?_, rfl⟩, by simp [intOf]; omega⟩
          have hxy : x = y := by
            have h3 : (x.toNat : Int) = y.toNat := by simp_all
            exact UInt8.toNat_inj.1 (by omega)
          rw [Hx.out, Hy.out, Heq.out, hxy]
      · obtain rfl : k = n := by omega
        have hxy : xs = ys := by
          have := Heq.out
          rwa [List.take_of_length_le (by rw [Hn.out]; exact Nat.le_refl _), List.take_of_length_le (by rw [← Hl.out, Hn.out]; exact Nat.le_refl _)] at this
        have Hxy := Lib.hid hxy
        clear hxy
        go_wp2
        go_ret
        exact ⟨by simp [Hxy.out], _, rfl⟩
  · have hxy : xs ≠ ys := fun e => hl (by rw [e])
    have Hxy := Lib.hid hxy
    have hnb : ((n : Int) != (ys.length : Int)) = true := by rw [bne_iff_ne]; omega
    have hnb2 : n ≠ ys.length := by omega
    clear hxy hn hl
    go_enter Try.func23, Try.ntmps23
    go_wp2
    go_ret
    exact ⟨by simp [Hxy.out], 0, rfl⟩
end Go.Proofs.Ytaamonhhclffcaa
