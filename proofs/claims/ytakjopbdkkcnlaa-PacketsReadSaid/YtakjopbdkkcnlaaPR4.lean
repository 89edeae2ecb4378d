/-
  copy of two bytes into an own row.
  Slices of ints: an own row, Clone, Min, Max, the numbers' faults.
  Bytes are read: parts of a row, the number that a few bytes hold; a row of bytes is copied.
  What the reading of a packet's bytes gives, in plain words; a packet that was read is written as the same bytes just if its sum is right.
  A walk that reads a row of bytes and fills a packet field by field: the state (RS), what is known of a value (Vd), one operation each.
  The generator Bytes: a row of bytes is copied and changed at some places.
  A region that draws its order, by an invariant with a phase: as the text of regions, but what is known of a value and the step may depend on the count of what has run.
  The generator RightPacket.
-/
import Derived.Test.YtakjopbdkkcnlaaPR3
import Derived.Laws.CopyOwn
import Derived.Test.YtakjopbdkkcnlaaPR1
import Derived.Lib.LazyBuf
import Derived.Deep.CutBlock
set_option linter.unusedVariables false
namespace Go.Proofs.Ytakjopbdkkcnlaa
open Go.RowKit Go
set_option linter.unusedVariables false

theorem wpList_copy2 {w : World} {ops : Array Oper} {rest : List Oper} {o : Oper} {a : Act} {Q : Exit → Act → World → Prop} (hgd : o.guard = none) (d s : Operand)
  (ho : o.op = .call { callee := .builtin .copy, args := #[d, s], argTypes := #[43, 43] }) {B B' g c i k m dc : Nat} {sv : Value} {L : List UInt8} (hO : OwnB w B (.slice (some ⟨g, 0, none⟩) L.length c) L) (hd : a.eval d = .slice (some ⟨g, i, none⟩) m dc) (hm : 2 ≤ m) (hk : k ≤ 65535)
  (hs : a.eval s = sv) (hR : Rb B' w sv (be k 2)) (hi : i + 2 ≤ L.length)
  (h : ∀ w', OwnB w' B (.slice (some ⟨g, 0, none⟩) L.length c) (setSum L i k) → Below B w w' → (∀ j, j ≠ g → w'.heap[j]? = w.heap[j]?) → w'.heap.size = w.heap.size → wpList Try.prog ops Q rest (a.put o.dst (goInt 2)) w') : wpList Try.prog ops Q (o :: rest) a w := by
 obtain ⟨ad, sc, rfl, -, hsrc, -⟩ := hR
 have hlen : (encBs (be k 2)).length = 2 := by simp [encBs, be_len]
 obtain ⟨ad', rfl⟩ : ∃ ad', ad = some ad' := by
  obtain ⟨x, hx⟩ : ∃ x, (encBs (be k 2))[0]? = some x := ⟨_, List.getElem?_eq_getElem (by omega)⟩
  obtain ⟨a', e, _⟩ := hsrc.2 0 x hx
  exact ⟨a', e⟩
 rcases hO.2 with ⟨hv, _⟩ | ⟨g2, c2, cur, hv, hb, hg, hc, hmx, hsz, ht⟩
 ·cases hv
 ·simp at hv
  obtain ⟨rfl, rfl⟩ := hv
  have hcl : L.length ≤ cur.size := by omega
  refine wpList_copy_own hgd d s _ _ ho 5 Try.underlying43 (by kernel_rfl) g i m dc ad' _ sc hd hs cur 5 hg (encBs (be k 2)) (by rw [hlen, be_len]; exact (Nat.min_eq_left hm).symm) ?_ (by rw [hlen]; omega) (encBs_one _) ?_
  ·intro j v hj
   obtain ⟨a', e, _, hcc⟩ := hsrc.2 j v hj
   injection e with e
   subst e
   exact hcc
  ·rw [hlen]
   refine h _ ?_ ?_ (fun j hj => setRow_other w g j _ hj) (setRow_size _ _ _)
   ·refine ⟨by simp [encBs], .inr ⟨g, c, _, by rw [setSum_len], hb, setRow_heap w g _ _ _ _ hg, by rw [setSum_len]; exact hc, hmx, ?_, ?_⟩⟩
    ·simp [hlen]; omega
    ·rw [setSum_len, Nat.mul_one, ← setSum_splice L i k hi hk]
     have htc : cur.toList.take L.length = encBs L := by simpa using ht
     have h1 : cur.toList.take i = (encBs L).take i := by rw [← htc, List.take_take, Nat.min_eq_left (by omega)]
     have h2 : (cur.toList.drop (i + 2)).take (L.length - (i + 2)) = (encBs L).drop (i + 2) := by rw [← htc, List.drop_take]
     simp only [List.take_append, h1]
     have e1 : ((encBs L).take i).length = i := by simp [encBs]; omega
     have e0 : ((encBs L).take i).take L.length = (encBs L).take i := List.take_of_length_le (by rw [e1]; omega)
     rw [e0, e1, hlen]
     have e2 : (encBs (be k 2)).take (L.length - i) = encBs (be k 2) := List.take_of_length_le (by rw [hlen]; omega)
     rw [e2, show L.length - i - 2 = L.length - (i + 2) by omega, h2]
     simp [encBs]
   ·exact (Below.refl B w).trans ⟨rfl, rfl, rfl, by rw [setRow_size]; exact Nat.le_refl _, fun j hj => setRow_other w g j _ (by omega)⟩
theorem OwnB.later {w w' : World} {B B' : Nat} {v : Value} {L : List UInt8} (h : OwnB w B v L) (hb : Below B' w w') (hB : w.heap.size ≤ B') : OwnB w' B v L := own_below h hb fun k hk => Nat.lt_of_lt_of_le (own_lt h k hk) hB
end Go.Proofs.Ytakjopbdkkcnlaa

namespace Go.Proofs.Ytakjopbdkkcnlaa
open Go.RowKit Go
set_option linter.unusedVariables false

def encIs (zs : List Int) : List Value := zs.map (Value.int .i64)
theorem encIs_len (zs : List Int) : (encIs zs).length = zs.length := by simp [encIs]
theorem encIs_one (zs : List Int) : ∀ u ∈ encIs zs, u.oneCell' = true := by
 intro u hu
 obtain ⟨c, _, rfl⟩ := List.mem_map.1 hu
 rfl
def OwnI (w : World) (base : Nat) (v : Value) (zs : List Int) : Prop := w.ownsRow base 3 1 v zs.length (encIs zs)
theorem intE : EI Try.prog 22 3 1 8 := EI.mk' (z := .int .i64 0) Try.underlying22 (by kernel_rfl) rfl (by decide)
theorem OwnI.nil (w : World) (base : Nat) : OwnI w base (.slice none 0 0) [] := World.ownsRow_nil w base _ 1
theorem OwnI.weak {w : World} {base base' : Nat} {v : Value} {zs : List Int} (h : OwnI w base v zs) (hb : base' ≤ base) : OwnI w base' v zs := own_weak h hb
theorem OwnI.later {w w' : World} {base : Nat} {v : Value} {zs : List Int} (h : OwnI w base v zs) (hb : Below w.heap.size w w') : OwnI w' base v zs := own_later h hb

/-- an int row with one cell at least -/
theorem OwnI.slice {w : World} {base : Nat} {v : Value} {zs : List Int} (h : OwnI w base v zs) (hn : 1 ≤ zs.length) :
  ∃ g c cur, v = .slice (some ⟨g, 0, none⟩) zs.length c ∧ base ≤ g ∧ w.heap[g]? = some (.cells cur 3 (0, 0)) ∧ RdInts w g 0 zs.length zs ∧ zs.length ≤ c ∧ c ≤ maxLen := by
 rcases h.2 with ⟨_, h0⟩ | ⟨g, cap, cur, rfl, hb, hg, hc, hm, hs, ht⟩
 ·omega
 ·refine ⟨g, cap, cur, rfl, hb, hg, ⟨rfl, lt_of_block hg, fun i hi => ?_⟩, hc, hm⟩
  rw [Nat.zero_add, cell_of_row w g i _ _ _ hg]
  have h1 : (cur.toList.take (zs.length * 1))[i]? = (encIs zs)[i]? := by rw [ht]
  rw [List.getElem?_take, if_pos (by omega)] at h1
  rw [← Array.getElem?_toList, h1]
  simp [encIs, List.getD, hi]

theorem own_empty (w : World) (t : TypeId) (size : Nat) : (w.alloc (.cells #[] t (0, 0))).ownsRow w.heap.size t size (.slice (some ⟨w.heap.size, 0, none⟩) 0 0) 0 [] :=
 ⟨by simp, .inr ⟨w.heap.size, 0, #[], rfl, Nat.le_refl _, heap_alloc_new w _, Nat.le_refl _, by unfold maxLen; omega, by simp, by simp⟩⟩

theorem RdInts.src {w : World} {g o n : Nat} {zs : List Int} (h : RdInts w g o n zs) : Src w (some ⟨g, o, none⟩) n 1 (encIs zs) := by
 obtain ⟨hl, hg, hc⟩ := h
 refine ⟨by simp [encIs, hl], fun j u hu => ?_⟩
 have hj : j < zs.length := by
  rcases Nat.lt_or_ge j zs.length with h | h
  ·exact h
  ·rw [List.getElem?_eq_none (by simpa [encIs] using h)] at hu; cases hu
 refine ⟨_, rfl, hg, ?_⟩
 have hadd : (⟨g, o, none⟩ : Addr).add j = ⟨g, o + j, none⟩ := by unfold Addr.add; split <;> simp_all
 rw [hadd, hc j (by omega)]
 simp [encIs, hj] at hu
 rw [← hu]
 simp [List.getD, hj]
theorem RdInts.later {w w' : World} {g o n : Nat} {zs : List Int} (h : RdInts w g o n zs) (hb : Below w.heap.size w w') : RdInts w' g o n zs :=
 ⟨h.1, Nat.lt_of_lt_of_le h.2.1 hb.size, fun i hi => (World.cell?_of_block (w := w) (hb.block g h.2.1)).trans (h.2.2 i hi)⟩
theorem RdInts.alloc {w : World} {g o n : Nat} {zs : List Int} (h : RdInts w g o n zs) (ob : Obj) : RdInts (w.alloc ob) g o n zs := h.later (below_alloc (Below.refl _ _) _)

theorem getD_mem {zs : List Int} {i : Nat} (h : i < zs.length) : zs.getD i 0 ∈ zs := by simp [List.getD, List.getElem?_eq_getElem h]

theorem run_eql_slice_nil_ints (w : World) (a : Option Addr) (l c : Nat) : (binOp .eql 22 (.slice a l c) (.slice none 0 0)).run Try.prog w = .ok (.bool a.isNone) w :=
 Lib.run_eql_slice_nil (h := Try.underlying22) ..
set_option maxRecDepth 100000 in
set_option maxHeartbeats 1000000 in
theorem clone_ints (g o n c : Nat) (zs : List Int) (w : World) (h : RdInts w g o n zs) (hn : n ≤ 1000000) :
  Calls Try.prog 112 #[.slice (some ⟨g, o, none⟩) n c] w fun e w' => ∃ v, e = .returned v ∧ OwnI w' w.heap.size v zs ∧ Below w.heap.size w w' := by
 have en := fun w => run_eql_slice_nil_ints w (some ⟨g, o, none⟩) n c
 simp only [Option.isNone_some] at en
 go_enter Try.func112, Try.ntmps112
 go_wp2_with (at_builtin; refine wpList_app intE rfl (.tmp 5) (.tmp 6) rfl rfl (own_empty w _ _) rfl (h.alloc _).src (encIs_one zs) ?c2 ?c3 ?c4 ?_)
 case c2 => unfold maxLen; omega
 case c3 => omega
 case c4 => simp
 intro v' w' hO hG
 rw [← h.1] at hO
 have HO := Lib.hid hO
 have HG := Lib.hid hG
 clear hO hG
 go_wp2
 go_ret
 exact ⟨_, rfl, HO.out, HG.out.below (u := .slice (some ⟨w.heap.size, 0, none⟩) 0 0) (by simp) (by intro k hk; simp [Value.ownBlock] at hk; omega) |> (below_alloc (Below.refl _ _) _).trans⟩

set_option maxRecDepth 100000 in
set_option maxHeartbeats 1000000 in
theorem min_ints (g o n c : Nat) (zs : List Int) (w : World) (h : RdInts w g o n zs) (hn : 1 ≤ n ∧ n ≤ 1000000) :
  Calls Try.prog 56 #[.slice (some ⟨g, o, none⟩) n c] w fun e w' => ∃ k, e = .returned (.int .i64 k) ∧ k ∈ zs ∧ (∀ z ∈ zs, k ≤ z) ∧ w' = w := by
 obtain ⟨hl, hg, hc⟩ := h
 have Hc := Lib.hid hc
 have Hl := Lib.hid hl
 have c0 := hc 0 (by omega)
 rw [Nat.add_zero] at c0
 have hn0 : ¬ ((n : Int) < 1) := by omega
 obtain ⟨hn1, hn2⟩ := hn
 clear hc hl
 go_enter Try.func56, Try.ntmps56
 go_wp2
 go_loopw [3, 4] (fun m i wr => ∃ (k : Nat) (x : Int), 1 ≤ k ∧ k ≤ n ∧ i = .int .i64 k ∧ m = .int .i64 x ∧ Hid (x ∈ zs ∧ ∀ j, j < k → x ≤ zs.getD j 0) ∧ wr = w) (fun _ i _ => n - (intOf i).toNat)
 case atStart => exact ⟨1, _, Nat.le_refl _, hn1, rfl, rfl, Lib.hid ⟨getD_mem (by have := Hl.out; omega), fun j hj => by rw [Nat.lt_one_iff.1 hj]; exact Int.le_refl _⟩, rfl⟩
 case round =>
  obtain ⟨k, x, hk1, hk, rfl, rfl, HX, rfl⟩ := hrel
  by_cases hlt : k < n
  ·have ck := Hc.out k hlt
   have hmem := Lib.hid (getD_mem (zs := zs) (i := k) (by have := Hl.out; omega))
   obtain ⟨y, hy⟩ : ∃ y, y = zs.getD k 0 := ⟨_, rfl⟩
   rw [← hy] at ck hmem
   have Hy := Lib.hid hy
   clear hy
   go_wp2
   refine ⟨⟨k + 1, min x y, by omega, by omega, by go_num, ?_, Lib.hid ⟨?_, fun j hj => ?_⟩, by first | rfl | trivial⟩, by simp [intOf]; omega⟩
   ·first | rfl | exact congrArg _ (by omega)
   ·rcases Int.le_total x y with h | h
    ·rw [Int.min_eq_left h]; exact HX.out.1
    ·rw [Int.min_eq_right h]; exact hmem.out
   ·rcases Nat.lt_or_ge j k with h | h
    ·have := HX.out.2 j h; omega
    ·obtain rfl : j = k := by omega
     rw [← Hy.out]; omega
  ·obtain rfl : k = n := by omega
   go_wp2
   go_ret
   refine ⟨x, rfl, HX.out.1, fun z hz => ?_, rfl⟩
   obtain ⟨j, hj, rfl⟩ := List.getElem_of_mem hz
   have := HX.out.2 j (by have := Hl.out; omega)
   simpa [List.getD, List.getElem?_eq_getElem hj] using this
set_option maxRecDepth 100000 in
set_option maxHeartbeats 1000000 in
theorem max_ints (g o n c : Nat) (zs : List Int) (w : World) (h : RdInts w g o n zs) (hn : 1 ≤ n ∧ n ≤ 1000000) :
  Calls Try.prog 57 #[.slice (some ⟨g, o, none⟩) n c] w fun e w' => ∃ k, e = .returned (.int .i64 k) ∧ k ∈ zs ∧ (∀ z ∈ zs, z ≤ k) ∧ w' = w := by
 obtain ⟨hl, hg, hc⟩ := h
 have Hc := Lib.hid hc
 have Hl := Lib.hid hl
 have c0 := hc 0 (by omega)
 rw [Nat.add_zero] at c0
 have hn0 : ¬ ((n : Int) < 1) := by omega
 obtain ⟨hn1, hn2⟩ := hn
 clear hc hl
 go_enter Try.func57, Try.ntmps57
 go_wp2
 go_loopw [3, 4] (fun m i wr => ∃ (k : Nat) (x : Int), 1 ≤ k ∧ k ≤ n ∧ i = .int .i64 k ∧ m = .int .i64 x ∧ Hid (x ∈ zs ∧ ∀ j, j < k → zs.getD j 0 ≤ x) ∧ wr = w) (fun _ i _ => n - (intOf i).toNat)
 case atStart => exact ⟨1, _, Nat.le_refl _, hn1, rfl, rfl, Lib.hid ⟨getD_mem (by have := Hl.out; omega), fun j hj => by rw [Nat.lt_one_iff.1 hj]; exact Int.le_refl _⟩, rfl⟩
 case round =>
  obtain ⟨k, x, hk1, hk, rfl, rfl, HX, rfl⟩ := hrel
  by_cases hlt : k < n
  ·have ck := Hc.out k hlt
   have hmem := Lib.hid (getD_mem (zs := zs) (i := k) (by have := Hl.out; omega))
   obtain ⟨y, hy⟩ : ∃ y, y = zs.getD k 0 := ⟨_, rfl⟩
   rw [← hy] at ck hmem
   have Hy := Lib.hid hy
   clear hy
   go_wp2
   refine ⟨⟨k + 1, max x y, by omega, by omega, by go_num, ?_, Lib.hid ⟨?_, fun j hj => ?_⟩, by first | rfl | trivial⟩, by simp [intOf]; omega⟩
   ·first | rfl | exact congrArg _ (by omega)
   ·rcases Int.le_total x y with h | h
    ·rw [Int.max_eq_right h]; exact hmem.out
    ·rw [Int.max_eq_left h]; exact HX.out.1
   ·rcases Nat.lt_or_ge j k with h | h
    ·have := HX.out.2 j h; omega
    ·obtain rfl : j = k := by omega
     rw [← Hy.out]; omega
  ·obtain rfl : k = n := by omega
   go_wp2
   go_ret
   refine ⟨x, rfl, HX.out.1, fun z hz => ?_, rfl⟩
   obtain ⟨j, hj, rfl⟩ := List.getElem_of_mem hz
   have := HX.out.2 j (by have := Hl.out; omega)
   simpa [List.getD, List.getElem?_eq_getElem hj] using this
end Go.Proofs.Ytakjopbdkkcnlaa

namespace Go.Proofs.Ytakjopbdkkcnlaa
open Go.RowKit Go
set_option linter.unusedVariables false

def sb (L : List UInt8) (i m : Nat) : List UInt8 := (L.drop i).take m
theorem sb_len (L : List UInt8) (i m : Nat) (h : i + m ≤ L.length) : (sb L i m).length = m := by simp [sb]; omega
theorem sb_get (L : List UInt8) (i m j : Nat) (h : j < m) : (sb L i m).getD j 0 = L.getD (i + j) 0 := by
 simp [sb, List.getD, h]
theorem sb_all (L : List UInt8) (i : Nat) : sb L i (L.length - i) = L.drop i := List.take_of_length_le (by simp)
def num (L : List UInt8) : Nat := L.foldl (fun n c => n * 256 + c.toNat) 0
theorem num_fold : ∀ (L : List UInt8) (a : Nat), L.foldl (fun n c => n * 256 + c.toNat) a < (a + 1) * 256 ^ L.length
 | [], a => by simp
 | c :: L, a => by
  have h1 := num_fold L (a * 256 + c.toNat)
  have hc := c.toNat_lt
  simp only [List.foldl_cons, List.length_cons]
  have h2 : (a * 256 + c.toNat + 1) * 256 ^ L.length ≤ (a + 1) * 256 * 256 ^ L.length := Nat.mul_le_mul_right _ (by omega)
  rw [Nat.pow_succ, Nat.mul_comm (256 ^ L.length) 256, ← Nat.mul_assoc]
  omega
theorem num_lt (L : List UInt8) : num L < 256 ^ L.length := by have := num_fold L 0; simpa [num] using this
theorem num_take (L : List UInt8) (k : Nat) (hk : k < L.length) : num (L.take (k + 1)) = num (L.take k) * 256 + (L.getD k 0).toNat := by
 rw [List.take_succ_eq_append_getElem hk, num, List.foldl_append]
 simp [num, List.getD, List.getElem?_eq_getElem hk]
theorem num_le8 (L : List UInt8) (k : Nat) (hk : k ≤ 7) : num (L.take k) < 72057594037927936 := by
 have h1 := num_lt (L.take k)
 have h2 : (L.take k).length ≤ 7 := Nat.le_trans (List.length_take_le _ _) hk
 have h3 : 256 ^ (L.take k).length ≤ 256 ^ 7 := Nat.pow_le_pow_right (by decide) h2
 have h4 : (256 : Nat) ^ 7 = 72057594037927936 := by decide
 omega
theorem or8 (x c : Nat) (hx : x < 72057594037927936) (hc : c < 256) : bits .or .u64 ((x * 256 : Nat) : Int) (c : Int) = ((x * 256 + c : Nat) : Int) := by
 have h1 : (BitVec.ofInt 64 ((x * 256 : Nat) : Int)) = BitVec.ofNat 64 (x * 256) := BitVec.ofInt_natCast ..
 have h2 : (BitVec.ofInt 64 (c : Int)) = BitVec.ofNat 64 c := BitVec.ofInt_natCast ..
 have key : (BitVec.ofNat 64 (x * 256) ||| BitVec.ofNat 64 c).toNat = x * 256 + c := by
  have e : x * 256 + c = 2 ^ 8 * x ||| c := by rw [← Nat.two_pow_add_eq_or_of_lt (by omega)]; omega
  rw [BitVec.toNat_or, BitVec.toNat_ofNat, BitVec.toNat_ofNat, Nat.mod_eq_of_lt (by omega), Nat.mod_eq_of_lt (by omega), e, Nat.mul_comm x 256]
 show IntKind.u64.wrap ((BitVec.ofInt 64 ((x * 256 : Nat) : Int) ||| BitVec.ofInt 64 (c : Int)).toNat : Nat) = _
 rw [h1, h2, key, IntKind.wrap_u64]
 omega

/-- what slicing gives -/
def subV (ad : Option Addr) (c l h : Nat) : Value := .slice (if c = l then ad else ad.map (·.add l)) (h - l) (c - l)
theorem src_of_rdB {w : World} {ad : Option Addr} {bs : List UInt8} (h : RdB w ad bs) : Src w ad bs.length 1 (encBs bs) := by
 refine ⟨by simp [encBs], fun j u hu => ?_⟩
 have hj : j < bs.length := by
  rcases Nat.lt_or_ge j bs.length with h2 | h2
  ·exact h2
  ·rw [List.getElem?_eq_none (by rw [encBs_len]; exact h2)] at hu; cases hu
 obtain ⟨g, o, e, hg, hc⟩ := h.cell j hj
 refine ⟨_, e, hg, ?_⟩
 have hadd : (⟨g, o, none⟩ : Addr).add j = ⟨g, o + j, none⟩ := by unfold Addr.add; split <;> simp_all
 rw [hadd, hc]
 simp only [encBs, List.getElem?_map, List.getElem?_eq_getElem hj, Option.map_some, Option.some.injEq] at hu
 rw [← hu]
 simp [encB, List.getD, List.getElem?_eq_getElem hj]
theorem Rb.sub {B : Nat} {w : World} {ad : Option Addr} {n c : Nat} {L : List UInt8} (h : Rb B w (.slice ad n c) L) (l m : Nat) (hl : l + m ≤ L.length) : Rb B w (subV ad c l (l + m)) (sb L l m) := by
 obtain ⟨ad', c', e, h1, h2, h3, h4, h5⟩ := h
 injection e with e1 e2 e3
 subst e1 e2 e3
 have hlen := sb_len L l m hl
 have hrd : RdB w (if c = l then ad else ad.map (·.add l)) (sb L l m) := by
  refine ⟨by rw [hlen]; have := h1.small; omega, fun i hi => ?_⟩
  rw [hlen] at hi
  obtain ⟨g, o, e, hg, hc⟩ := h1.cell (l + i) (by omega)
  subst e
  have hadd : (⟨g, o, none⟩ : Addr).add l = ⟨g, o + l, none⟩ := by unfold Addr.add; split <;> simp_all
  rw [if_neg (by omega)]
  refine ⟨g, o + l, by simp [hadd], hg, ?_⟩
  rw [sb_get L l m i hi, Nat.add_assoc]
  exact hc
 have hs := src_of_rdB hrd
 refine ⟨(if c = l then ad else ad.map (·.add l)), c - l, ?_, hrd, hs, ?_, by omega, ?_⟩
 ·unfold subV
  rw [hlen, Nat.add_sub_cancel_left]
 ·rw [hlen]; omega
 ·intro a ha
  split at ha
  ·exact h5 a ha
  ·cases had : ad with
   | none => rw [had] at ha; cases ha
   | some a0 =>
    rw [had] at ha
    injection ha with ha
    subst ha
    have h6 := h5 a0 had
    have h7 : (a0.add l).block = a0.block := by unfold Addr.add; split <;> rfl
    rw [h7]; exact h6
theorem Rb.form {B : Nat} {w : World} {v : Value} {L : List UInt8} (h : Rb B w v L) (hl : 0 < L.length) : ∃ g o c, v = .slice (some ⟨g, o, none⟩) L.length c ∧ L.length ≤ c ∧ c ≤ maxLen ∧ g < B := by
 obtain ⟨ad, c, rfl, h1, h2, h3, h4, h5⟩ := h
 obtain ⟨g, o, e, hg, hc⟩ := h1.cell 0 hl
 subst e
 exact ⟨g, o, c, rfl, h3, h4, h5 _ rfl⟩
theorem Rb.get {B : Nat} {w : World} {g o n c : Nat} {L : List UInt8} (h : Rb B w (.slice (some ⟨g, o, none⟩) n c) L) (i : Nat) (hi : i < L.length) : w.cell? ⟨g, o + i, none⟩ = some (encB (L.getD i 0)) := by
 obtain ⟨ad, c', e, h1, -⟩ := h
 injection e with e1 e2 e3
 subst e1
 obtain ⟨g2, o2, e, hg, hc⟩ := h1.cell i hi
 injection e with e
 injection e with e4 e5 _
 subst e4 e5
 exact hc
theorem Rb.len {B : Nat} {w : World} {ad : Option Addr} {n c : Nat} {L : List UInt8} (h : Rb B w (.slice ad n c) L) : n = L.length ∧ L.length ≤ c ∧ c ≤ maxLen := by
 obtain ⟨ad', c', e, h1, h2, h3, h4, h5⟩ := h
 injection e with e1 e2 e3
 subst e2 e3
 exact ⟨rfl, h3, h4⟩

set_option maxRecDepth 100000 in
set_option maxHeartbeats 1000000 in
theorem take_rb {B : Nat} {w : World} {v : Value} {L : List UInt8} (hR : Rb B w v L) (hl : L.length ≤ 8) : Calls Try.prog 74 #[v] w fun e w' => e = .returned (.int .u64 ((num L : Nat) : Int)) ∧ w = w' := by
 obtain ⟨ad, c, rfl, h, -⟩ := hR
 generalize hn : L.length = n at *
 have Hn := Lib.hid hn
 clear hn
 go_enter Try.func74, Try.ntmps74
 go_wp2
 go_loop [3, 8] (fun t i => ∃ k : Nat, k ≤ n ∧ i = .int .i64 k ∧ t = .int .u64 ((num (L.take k) : Nat) : Int)) (fun _ i => n - (intOf i).toNat)
 case atStart => exact ⟨0, Nat.zero_le _, rfl, by simp [num]⟩
 case round =>
  obtain ⟨k, hk, rfl, rfl⟩ := hrel
  by_cases hlt : k < n
  ·obtain ⟨g, o, had, hg, hc⟩ := h.cell k (by rw [Hn.out]; exact hlt)
   have hsm := num_take L k (by rw [Hn.out]; exact hlt)
   have hb := num_le8 L k (by omega)
   have hcb := (L.getD k 0).toNat_lt
   generalize (L.getD k 0).toNat = x at hc hsm hcb
   generalize num (L.take k) = s at hsm hb ⊢
   have Hs := Lib.hid hsm
   have Ho := Lib.hid (or8 s x hb hcb)
   clear hsm
   subst had
   go_wp2
   refine ⟨⟨k + 1, by omega, by go_num, ?_⟩, by simp [intOf]; omega⟩
   rw [Hs.out]
   refine congrArg (Value.int .u64) ?_
   rw [← Ho.out, show ((s * 256 : Nat) : Int) = (s : Int) * 256 by omega]
  ·obtain rfl : k = n := by omega
   have he : L.take k = L := List.take_of_length_le (by rw [Hn.out]; exact Nat.le_refl _)
   rw [he]
   have Hx := Lib.hid he
   clear he
   go_wp2
   go_ret
   exact ⟨rfl, rfl⟩
set_option maxRecDepth 100000 in
set_option maxHeartbeats 1000000 in
theorem number_rb {B : Nat} {w : World} {v : Value} {L : List UInt8} (hR : Rb B w v L) (hl : L.length ≤ 8) : Calls Try.prog 78 #[v] w fun e w' => e = .returned (.int .u64 ((num L : Nat) : Int)) ∧ w = w' := by
 obtain ⟨ad, c, rfl, h, -⟩ := hR
 generalize hn : L.length = n at *
 have Hn := Lib.hid hn
 clear hn
 go_enter Try.func78, Try.ntmps78
 go_wp2
 go_loop [3, 8] (fun t i => ∃ k : Nat, k ≤ n ∧ i = .int .i64 k ∧ t = .int .u64 ((num (L.take k) : Nat) : Int)) (fun _ i => n - (intOf i).toNat)
 case atStart => exact ⟨0, Nat.zero_le _, rfl, by simp [num]⟩
 case round =>
  obtain ⟨k, hk, rfl, rfl⟩ := hrel
  by_cases hlt : k < n
  ·obtain ⟨g, o, had, hg, hc⟩ := h.cell k (by rw [Hn.out]; exact hlt)
   have hsm := num_take L k (by rw [Hn.out]; exact hlt)
   have hb := num_le8 L k (by omega)
   have hcb := (L.getD k 0).toNat_lt
   generalize (L.getD k 0).toNat = x at hc hsm hcb
   generalize num (L.take k) = s at hsm hb ⊢
   have Hs := Lib.hid hsm
   clear hsm
   subst had
   go_wp2
   refine ⟨⟨k + 1, by omega, by go_num, ?_⟩, by simp [intOf]; omega⟩
   rw [Hs.out]
   refine congrArg (Value.int .u64) ?_
   omega
  ·obtain rfl : k = n := by omega
   have he : L.take k = L := List.take_of_length_le (by rw [Hn.out]; exact Nat.le_refl _)
   rw [he]
   have Hx := Lib.hid he
   clear he
   go_wp2
   go_ret
   exact ⟨rfl, rfl⟩
set_option maxRecDepth 100000 in
theorem nz_any (z : UInt8) (w : World) : Calls Try.prog 115 #[.int .u8 (z.toNat : Int)] w fun e w' => e = .returned (.bool (z != 0)) ∧ w' = w := by
 have hz : ((z.toNat : Int) != 0) = (z != 0) := by
  by_cases h : z = 0
  ·subst h; rfl
  ·have : z.toNat ≠ 0 := fun e => h (UInt8.toNat_inj.1 e)
   have e1 : (z != 0) = true := by simpa using h
   have e2 : ((z.toNat : Int) != 0) = true := by rw [bne_iff_ne]; omega
   rw [e1, e2]
 have Hz := Lib.hid hz
 clear hz
 go_enter Try.func115, Try.ntmps115
 go_wp2
 go_ret
 exact ⟨by rw [← Hz.out]; rfl, rfl⟩
set_option maxRecDepth 100000 in
set_option maxHeartbeats 1000000 in
theorem indexNz {B : Nat} {w : World} {v : Value} {L : List UInt8} (hR : Rb B w v L) (hl : L.length ≤ 1000) :
  Calls Try.prog 120 #[v, .func (.func 115) #[] #[]] w fun e w' => ∃ k : Int, e = .returned (.int .i64 k) ∧ decide (0 ≤ k) = L.any (· != 0) ∧ w' = w := by
 obtain ⟨ad, c, rfl, h, -⟩ := hR
 generalize hn : L.length = n at *
 have Hn := Lib.hid hn
 clear hn
 go_enter Try.func120, Try.ntmps120
 go_wp2
 go_loopw [8] (fun i wr => ∃ (k : Nat), k ≤ n ∧ i = .int .i64 k ∧ Hid (∀ j, j < k → (L.getD j 0 != 0) = false) ∧ wr = w) (fun i _ => n - (intOf i).toNat)
 case atStart => exact ⟨0, Nat.zero_le _, rfl, Lib.hid fun j hj => absurd hj (Nat.not_lt_zero _), rfl⟩
 case round =>
  obtain ⟨k, hk, rfl, HX, rfl⟩ := hrel
  by_cases hlt : k < n
  ·obtain ⟨g, o, had, hg, ck⟩ := h.cell k (by rw [Hn.out]; exact hlt)
   subst had
   have hmem : L.getD k 0 ∈ L := by
    have hkl : k < L.length := by rw [Hn.out]; exact hlt
    simp [List.getD, List.getElem?_eq_getElem hkl]
   have Hmem := Lib.hid hmem
   clear hmem
   obtain ⟨z, hz⟩ : ∃ z, z = L.getD k 0 := ⟨_, rfl⟩
   rw [← hz] at ck Hmem
   have Hz := Lib.hid hz
   clear hz
   cases hb : (z != 0) with
   | true =>
    have Hb := Lib.hid hb
    clear hb
    go_wp2_with fail
    refine (nz_any _ _).mono ?_
    rintro e w' ⟨rfl, rfl⟩
    rw [Hb.out]
    go_wp2_with fail
    go_ret
    refine ⟨k, rfl, ?_, rfl⟩
    rw [List.any_eq_true.2 ⟨z, Hmem.out, Hb.out⟩]
    simp
   | false =>
    have Hb := Lib.hid hb
    clear hb
    go_wp2_with fail
    refine (nz_any _ _).mono ?_
    rintro e w' ⟨rfl, rfl⟩
    rw [Hb.out]
    go_wp2_with fail
    refine ⟨⟨k + 1, by omega, by go_num, Lib.hid fun j hj => ?_, by first | rfl | trivial⟩, by simp [intOf]; omega⟩
    rcases Nat.lt_or_ge j k with h | h
    ·exact HX.out j h
    ·obtain rfl : j = k := by omega
     rw [← Hz.out]; exact Hb.out
  ·obtain rfl : k = n := by omega
   go_wp2
   go_ret
   refine ⟨-1, rfl, ?_, rfl⟩
   have : L.any (· != 0) = false := by
    rw [List.any_eq_false]
    intro x hx
    obtain ⟨j, hj, rfl⟩ := List.getElem_of_mem hx
    have h1 := HX.out j (by have := Hn.out; omega)
    simp [List.getD, List.getElem?_eq_getElem hj] at h1
    simpa using h1
   rw [this]
   rfl
set_option maxRecDepth 100000 in
set_option maxHeartbeats 1000000 in
theorem containsNz {B : Nat} {w : World} {v : Value} {L : List UInt8} (hR : Rb B w v L) (hl : L.length ≤ 1000) :
  Calls Try.prog 114 #[v, .func (.func 115) #[] #[]] w fun e w' => e = .returned (.bool (L.any (· != 0))) ∧ w' = w := by
 have Hi := Lib.hid (indexNz hR hl)
 generalize L.any (· != 0) = b at *
 clear hR
 go_enter Try.func114, Try.ntmps114
 go_wp2_with fail
 refine Hi.out.mono ?_
 rintro e w' ⟨k, rfl, hk, rfl⟩
 subst hk
 go_wp2
 go_ret
 exact ⟨rfl, rfl⟩
set_option maxRecDepth 100000 in
set_option maxHeartbeats 1000000 in
theorem zeros_rb {B : Nat} {w : World} {v : Value} {L : List UInt8} (hR : Rb B w v L) (hl : L.length ≤ 1000) :
  Calls Try.prog 100 #[v] w fun e w' => e = .returned (.bool (!L.any (· != 0))) ∧ w = w' := by
 have Hi := Lib.hid (containsNz hR hl)
 generalize L.any (· != 0) = b at *
 clear hR
 go_enter Try.func100, Try.ntmps100
 go_wp2_with fail
 refine Hi.out.mono ?_
 rintro e w' ⟨rfl, rfl⟩
 go_wp2
 go_ret
 exact ⟨rfl, rfl⟩
theorem run_eql_slice_nil_bytes (w : World) (a : Option Addr) (l c : Nat) : (binOp .eql 43 (.slice a l c) (.slice none 0 0)).run Try.prog w = .ok (.bool a.isNone) w :=
 Lib.run_eql_slice_nil (h := Try.underlying43) ..
set_option maxRecDepth 100000 in
set_option maxHeartbeats 1000000 in
theorem cloneB_rb {B : Nat} {w : World} {a : Addr} {n c : Nat} {L : List UInt8} (hR : Rb B w (.slice (some a) n c) L) (hl : L.length ≤ 1000000) :
  Calls Try.prog 79 #[.slice (some a) n c] w fun e w' => ∃ v, e = .returned v ∧ OwnB w' w.heap.size v L ∧ Below w.heap.size w w' := by
 obtain ⟨ad, c', e, -, h, -⟩ := hR
 injection e with e1 e2 e3
 subst e1 e2 e3
 have en := fun w => run_eql_slice_nil_bytes w (some a) L.length c
 simp only [Option.isNone_some] at en
 have h2 : Hid (Src (w.alloc (.cells #[] 5 (0, 0))) (some a) L.length 1 (encBs L)) := Lib.hid (src_later h (below_alloc (Below.refl _ _) _))
 clear h
 generalize hn : L.length = n at *
 have Hn := Lib.hid hn
 clear hn
 go_enter Try.func79, Try.ntmps79
 go_wp2_with (at_builtin; refine wpList_app byteE rfl (.tmp 5) (.tmp 6) rfl rfl (own_empty w _ _) rfl h2.out (encBs_one L) ?c2 ?c3 ?c4 ?_)
 case c2 => unfold maxLen; omega
 case c3 => omega
 case c4 => simp
 intro v' w' hO hG
 have HO : Hid (OwnB w' w.heap.size v' L) := by
  have := Hn.out
  refine Lib.hid ?_
  show w'.ownsRow _ _ _ _ _ _
  rw [this]
  simpa using hO
 have HG := Lib.hid hG
 clear hO hG
 go_wp2
 go_ret
 exact ⟨_, rfl, HO.out, HG.out.below (u := .slice (some ⟨w.heap.size, 0, none⟩) 0 0) (by simp) (by intro k hk; simp [Value.ownBlock] at hk; omega) |> (below_alloc (Below.refl _ _) _).trans⟩
end Go.Proofs.Ytakjopbdkkcnlaa

namespace Go.Proofs.Ytakjopbdkkcnlaa
open Go.RowKit Go
set_option linter.unusedVariables false

theorem sb_add (L : List UInt8) (i a b : Nat) : sb L i (a + b) = sb L i a ++ sb L (i + a) b := by unfold sb; rw [List.take_add, List.drop_drop]
theorem sb_cut (L : List UInt8) (i a b j m : Nat) (hj : j = i + a) (hm : m = a + b) : sb L i m = sb L i a ++ sb L j b := by subst hj hm; exact sb_add L i a b
theorem sb_one (L : List UInt8) (i : Nat) (h : i < L.length) : sb L i 1 = [L.getD i 0] := by
 have h2 : L.drop i = L[i] :: L.drop (i + 1) := (List.drop_eq_getElem_cons h)
 unfold sb
 rw [h2, List.take_succ_cons, List.take_zero, List.getD_eq_getElem?_getD, List.getElem?_eq_getElem h, Option.getD_some]
theorem num_sb (L : List UInt8) (i m : Nat) : num (sb L i m) < 256 ^ m :=
 Nat.lt_of_lt_of_le (num_lt _) (Nat.pow_le_pow_right (by decide) (List.length_take_le _ _))
theorem num_acc : ∀ (S : List UInt8) (a : Nat), S.foldl (fun n c => n * 256 + c.toNat) a = a * 256 ^ S.length + num S
 | [], a => by simp [num]
 | c :: S, a => by
  simp only [List.foldl_cons, List.length_cons, num]
  rw [num_acc S (a * 256 + c.toNat), num_acc S (0 * 256 + c.toNat), Nat.pow_succ, Nat.add_mul, Nat.add_mul, Nat.mul_assoc, Nat.mul_comm 256]
  omega
theorem num_cons (c : UInt8) (S : List UInt8) : num (c :: S) = c.toNat * 256 ^ S.length + num S := by
 rw [num, List.foldl_cons, num_acc]; simp
theorem u8_mod (z y : Nat) : UInt8.ofNat (z * 256 + y) = UInt8.ofNat y := by
 apply UInt8.toNat_inj.1
 simp only [UInt8.toNat_ofNat']
 omega
theorem be_mod : ∀ (k m a r : Nat), k ≤ m → be (a * 256 ^ m + r) k = be r k
 | 0, m, a, r, h => rfl
 | k + 1, m, a, r, h => by
  have h1 : 256 ^ m = 256 ^ k * (256 ^ (m - k - 1) * 256) := by
   rw [← Nat.pow_succ, ← Nat.pow_add]; congr 1; omega
  have h2 : (a * 256 ^ m + r) / 256 ^ k = (a * 256 ^ (m - k - 1)) * 256 + r / 256 ^ k := by
   rw [h1, show a * (256 ^ k * (256 ^ (m - k - 1) * 256)) + r = 256 ^ k * ((a * 256 ^ (m - k - 1)) * 256) + r by
    rw [Nat.mul_left_comm a, Nat.mul_assoc a], Nat.mul_add_div (Nat.pow_pos (by decide))]
  show UInt8.ofNat _ :: be _ k = UInt8.ofNat _ :: be _ k
  rw [h2, u8_mod, be_mod k m a r (by omega)]
theorem be_num : ∀ (S : List UInt8), be (num S) S.length = S
 | [] => rfl
 | c :: S => by
  have h := num_lt S
  show UInt8.ofNat _ :: be _ S.length = c :: S
  rw [num_cons, be_mod _ _ _ _ (Nat.le_refl _), be_num S, Nat.mul_comm c.toNat, Nat.mul_add_div (Nat.pow_pos (by decide)), Nat.div_eq_of_lt h, Nat.add_zero, UInt8.ofNat_toNat]
theorem be_sb (L : List UInt8) (i m : Nat) (h : i + m ≤ L.length) : be (num (sb L i m)) m = sb L i m := by
 have h1 := be_num (sb L i m)
 rwa [sb_len L i m h] at h1
theorem num_be2 (n : Nat) (h : n ≤ 65535) : num (be n 2) = n := by
 have e : be n 2 = [b8 (n / 256), b8 n] := by simp [be, b8]
 rw [e]
 simp [num, b8, UInt8.toNat_ofNat']
 omega
theorem b8_to (c : UInt8) : b8 c.toNat = c := UInt8.ofNat_toNat

def fl (c : UInt8) (m : Int) : Bool := bits .and .u8 (c.toNat : Int) m != 0
theorem fl_pos (c : UInt8) (m : Int) : decide (0 < bits .and .u8 (c.toNat : Int) m) = fl c m := by
 have h : 0 ≤ bits .and .u8 (c.toNat : Int) m := by
  show 0 ≤ IntKind.u8.wrap _
  rw [IntKind.wrap_u8]; omega
 unfold fl
 generalize bits .and .u8 (c.toNat : Int) m = z at *
 rcases Int.lt_or_eq_of_le h with h1 | h1
 ·rw [decide_eq_true h1, bne_iff_ne.2 (by omega)]
 ·subst h1; rfl
def NP.zero : NP := ⟨false, 0, 0, false, 0, 0, 0, 0, 0, 0, false, false, false, false, 0, 0, false, 0⟩
/-- the head of bytes with short addresses, with long ones -/
def x4 (L : List UInt8) : NP := ⟨false, 0, num (sb L 12 4), false, 0, num (sb L 16 4), (L.getD 8 0).toNat, (L.getD 9 0).toNat, 0, 0, false, false, false, false, 0, 0, false, 0⟩
def p6 (c : Nat) : Nat := if c = 58 then 1 else if c = 1 then 0 else c
def x6 (L : List UInt8) : NP := ⟨true, num (sb L 8 8), num (sb L 16 8), true, num (sb L 24 8), num (sb L 32 8), (L.getD 7 0).toNat, p6 (L.getD 6 0).toNat, 0, 0, false, false, false, false, 0, 0, false, 0⟩
def sum4 (L : List UInt8) : Prop := sumN (setSum (L.take 20) 10 0) = num (sb L 10 2)
def form4 (L : List UInt8) : Prop := num (sb L 2 2) = L.length ∧ L.getD 1 0 = 0 ∧ L.getD 4 0 = 0 ∧ L.getD 5 0 = 0 ∧ L.getD 6 0 = 0 ∧ L.getD 7 0 = 0
def form6 (L : List UInt8) : Prop := 40 ≤ L.length ∧ num (sb L 4 2) = L.length - 40 ∧ L.getD 1 0 = 0 ∧ L.getD 2 0 = 0 ∧ L.getD 3 0 = 0
instance (L : List UInt8) : Decidable (sum4 L) := inferInstanceAs (Decidable (_ = _))
instance (L : List UInt8) : Decidable (form4 L) := inferInstanceAs (Decidable (_ ∧ _))
instance (L : List UInt8) : Decidable (form6 L) := inferInstanceAs (Decidable (_ ∧ _))
def known (p : Nat) : Prop := p = 1 ∨ p = 6 ∨ p = 17
instance (p : Nat) : Decidable (known p) := inferInstanceAs (Decidable (_ ∨ _))
/-- the fields of a part behind a head -/
def prtX (x : NP) (D : List UInt8) : NP :=
 if x.proto = 6 then { x with fp := num (sb D 0 2), tp := num (sb D 2 2), seq := num (sb D 4 4), ack := num (sb D 8 4), fin := fl (D.getD 13 0) 1, syn := fl (D.getD 13 0) 2, rst := fl (D.getD 13 0) 4, has := fl (D.getD 13 0) 16 }
 else if x.proto = 17 then { x with fp := num (sb D 0 2), tp := num (sb D 2 2) }
 else { x with reply := D.getD 0 0 == 0 || D.getD 0 0 == 129, id := num (sb D 4 2), seq := num (sb D 6 2) }
def prtOk (x : NP) (D : List UInt8) : Prop :=
 leastN x.proto ≤ D.length ∧ ¬ (x.proto = 6 ∧ (prtX x D).ack ≠ 0 ∧ (prtX x D).has = false) ∧ partB (prtX x D) (D.drop (leastN x.proto)) = setSum D (sumAtN x.proto) 0
instance (x : NP) (D : List UInt8) : Decidable (prtOk x D) := inferInstanceAs (Decidable (_ ∧ _))
theorem prtX_proto (x : NP) (D : List UInt8) : (prtX x D).proto = x.proto := by unfold prtX; (repeat' split) <;> rfl
theorem prtX_head (x : NP) (D : List UInt8) : (prtX x D).s1 = x.s1 ∧ (prtX x D).h1 = x.h1 ∧ (prtX x D).l1 = x.l1 ∧ (prtX x D).s2 = x.s2 ∧ (prtX x D).h2 = x.h2 ∧ (prtX x D).l2 = x.l2 ∧ (prtX x D).hops = x.hops := by
 unfold prtX; (repeat' split) <;> exact ⟨rfl, rfl, rfl, rfl, rfl, rfl, rfl⟩
/-- the errors: 0 none, and the numbers of Form, Sum, Kind -/
def headE (L : List UInt8) (eF eS eK : Nat) : Nat :=
 if L.length < 20 then eF
 else if L.getD 0 0 = 69 then (if ¬ sum4 L then eS else if ¬ form4 L then eF else if known (x4 L).proto then 0 else eK)
 else if L.getD 0 0 = 96 then (if ¬ form6 L then eF else if known (x6 L).proto then 0 else eK)
 else eK
def headX (L : List UInt8) : NP := if L.getD 0 0 = 69 then x4 L else x6 L
def headAt (L : List UInt8) : Nat := if L.getD 0 0 = 69 then 20 else 40
def rdBody (L : List UInt8) : List UInt8 := L.drop (headAt L)
def rdX (L : List UInt8) : NP := prtX (headX L) (rdBody L)
def rdPay (L : List UInt8) : List UInt8 := (rdBody L).drop (leastN (headX L).proto)
def sumOk (L : List UInt8) : Prop := num (sb (rdBody L) (sumAtN (headX L).proto) 2) = partSumN (rdX L) (partB (rdX L) (rdPay L))
instance (L : List UInt8) : Decidable (sumOk L) := inferInstanceAs (Decidable (_ = _))
def rdE (L : List UInt8) (eF eS eK : Nat) : Nat :=
 if headE L eF eS eK ≠ 0 then headE L eF eS eK
 else if ¬ prtOk (headX L) (rdBody L) then eF
 else if ¬ sumOk L then eS
 else 0

theorem x4_fit (L : List UInt8) (h : known (x4 L).proto) : (x4 L).fit := by
 have h1 := num_sb L 12 4
 have h2 := num_sb L 16 4
 have h3 := (L.getD 8 0).toNat_lt
 refine ⟨?_, ?_, ?_, ?_, ?_, h, ?_, ?_, ?_, ?_, ?_, rfl⟩ <;> simp only [x4] <;> omega
theorem x6_fit (L : List UInt8) (h : known (x6 L).proto) : (x6 L).fit := by
 have h1 := num_sb L 8 8
 have h2 := num_sb L 16 8
 have h4 := num_sb L 24 8
 have h5 := num_sb L 32 8
 have h3 := (L.getD 7 0).toNat_lt
 refine ⟨?_, ?_, ?_, ?_, ?_, h, ?_, ?_, ?_, ?_, ?_, rfl⟩ <;> simp only [x6] <;> omega
theorem prtX_fit {x : NP} (hx : x.fit) (D : List UInt8) : (prtX x D).fit := by
 have h1 := num_sb D 0 2
 have h2 := num_sb D 2 2
 have h3 := num_sb D 4 4
 have h4 := num_sb D 8 4
 have h5 := num_sb D 4 2
 have h6 := num_sb D 6 2
 unfold prtX
 (repeat' split) <;> exact ⟨hx.h1, hx.l1, hx.h2, hx.l2, hx.hops, hx.proto, by first | exact hx.fp | (simp only; omega), by first | exact hx.tp | (simp only; omega), by first | exact hx.seq | (simp only; omega), by first | exact hx.ack | (simp only; omega), by first | exact hx.id | (simp only; omega), hx.six⟩

theorem setSum_sb (D : List UInt8) (i n : Nat) (h : i + 2 ≤ D.length) (hn : n ≤ 65535) : setSum D i n = D ↔ num (sb D i 2) = n := by
 rw [← setSum_splice D i n h hn]
 have hD : D = D.take i ++ (sb D i 2 ++ D.drop (i + 2)) := by
  have e1 : D.drop i = sb D i 2 ++ D.drop (i + 2) := by
   have := (List.take_append_drop 2 (D.drop i)).symm
   rwa [List.drop_drop] at this
  rw [← e1, List.take_append_drop]
 constructor
 ·intro e
  have e2 : be n 2 = sb D i 2 := by
   have e3 := e.trans hD
   have e4 := List.append_cancel_left e3
   exact List.append_cancel_right e4
  rw [← e2, num_be2 n hn]
 ·intro e
  rw [← e, be_sb D i 2 h]
  exact hD.symm
theorem setSum_twice (D : List UInt8) (i a b : Nat) : setSum (setSum D i a) i b = setSum D i b := by
 unfold setSum
 rw [List.set_comm _ _ (show i ≠ i + 1 by omega), List.set_set, List.set_comm _ _ (show i + 1 ≠ i by omega), List.set_set]
theorem setSum_20 (L : List UInt8) (n : Nat) (h : 20 ≤ L.length) (hn : n ≤ 65535) : setSum (L.take 20) 10 n = sb L 0 10 ++ (be n 2 ++ sb L 12 8) := by
 rw [← setSum_splice (L.take 20) 10 n (by simp; omega) hn]
 simp [sb, List.take_take, List.drop_take]
theorem again_body (y : NP) (pay D : List UInt8) (hl : leastN y.proto ≤ D.length) (hp : partB y pay = setSum D (sumAtN y.proto) 0) :
  bodyB y pay = D ↔ num (sb D (sumAtN y.proto) 2) = partSumN y (partB y pay) := by
 have hs : sumAtN y.proto + 2 ≤ leastN y.proto := by unfold sumAtN leastN; (repeat' split) <;> omega
 have hle := partSumN_le y (partB y pay)
 rw [bodyB]
 generalize partSumN y (partB y pay) = N at *
 rw [hp, setSum_twice]
 exact setSum_sb D _ N (by omega) hle
theorem body_len (y : NP) (pay D : List UInt8) (hp : partB y pay = setSum D (sumAtN y.proto) 0) : (bodyB y pay).length = D.length := by
 rw [bodyB, setSum_len, hp, setSum_len]
theorem head4 (L : List UInt8) (h20 : 20 ≤ L.length) (h0 : L.getD 0 0 = 69) (hf : form4 L) (y : NP) (h1 : y.s1 = false) (h2 : y.s2 = false) (h3 : y.l1 = num (sb L 12 4)) (h4 : y.l2 = num (sb L 16 4)) (h5 : y.hops = (L.getD 8 0).toNat) (h6 : y.proto = (L.getD 9 0).toNat)
  (n : Nat) (hn : 20 + n = L.length) : headB y n = setSum (L.take 20) 10 0 := by
 obtain ⟨f1, f2, f3, f4, f5, f6⟩ := hf
 rw [setSum_20 L 0 h20 (by omega), sb_cut L 0 1 9 1 10 rfl rfl, sb_cut L 1 1 8 2 9 rfl rfl, sb_cut L 2 2 6 4 8 rfl rfl, sb_cut L 4 1 5 5 6 rfl rfl, sb_cut L 5 1 4 6 5 rfl rfl, sb_cut L 6 1 3 7 4 rfl rfl, sb_cut L 7 1 2 8 3 rfl rfl, sb_cut L 8 1 1 9 2 rfl rfl, sb_cut L 12 4 4 16 8 rfl rfl]
 rw [sb_one L 0 (by omega), sb_one L 1 (by omega), sb_one L 4 (by omega), sb_one L 5 (by omega), sb_one L 6 (by omega), sb_one L 7 (by omega), sb_one L 8 (by omega), sb_one L 9 (by omega), h0, f2, f3, f4, f5, f6]
 unfold headB addrB
 rw [h1, h2, h3, h4, h5, h6, hn, ← f1, be_sb L 2 2 (by omega), be_sb L 12 4 (by omega), be_sb L 16 4 (by omega), b8_to, b8_to]
 simp [be]
theorem again4 (L : List UInt8) (h20 : 20 ≤ L.length) (h0 : L.getD 0 0 = 69) (hs : sum4 L) (hf : form4 L) (y : NP) (h1 : y.s1 = false) (h2 : y.s2 = false) (h3 : y.l1 = num (sb L 12 4)) (h4 : y.l2 = num (sb L 16 4)) (h5 : y.hops = (L.getD 8 0).toNat) (h6 : y.proto = (L.getD 9 0).toNat)
  (pay : List UInt8) (hl : leastN y.proto ≤ (L.drop 20).length) (hp : partB y pay = setSum (L.drop 20) (sumAtN y.proto) 0) :
  pktB y pay = L ↔ num (sb (L.drop 20) (sumAtN y.proto) 2) = partSumN y (partB y pay) := by
 have hb := body_len y pay _ hp
 have hh := head4 L h20 h0 hf y h1 h2 h3 h4 h5 h6 (bodyB y pay).length (by rw [hb, List.length_drop]; omega)
 have e : pktB y pay = L.take 20 ++ bodyB y pay := by
  unfold pktB
  rw [h1, if_neg (by simp), hh, hs, setSum_twice, (setSum_sb (L.take 20) 10 _ (by simp; omega) (by have := num_sb L 10 2; omega)).2 (by simp [sb, List.drop_take, List.take_take])]
 rw [e, ← again_body y pay _ hl hp]
 constructor
 ·intro h
  have h7 := h.trans (List.take_append_drop 20 L).symm
  exact List.append_cancel_left h7
 ·intro h
  rw [h, List.take_append_drop]
theorem again6 (L : List UInt8) (h0 : L.getD 0 0 = 96) (hf : form6 L) (y : NP) (h1 : y.s1 = true) (h2 : y.s2 = true) (h3 : y.h1 = num (sb L 8 8)) (h4 : y.l1 = num (sb L 16 8)) (h5 : y.h2 = num (sb L 24 8)) (h6 : y.l2 = num (sb L 32 8)) (h7 : y.hops = (L.getD 7 0).toNat) (h8 : y.proto = p6 (L.getD 6 0).toNat) (hk : known y.proto)
  (pay : List UInt8) (hl : leastN y.proto ≤ (L.drop 40).length) (hp : partB y pay = setSum (L.drop 40) (sumAtN y.proto) 0) :
  pktB y pay = L ↔ num (sb (L.drop 40) (sumAtN y.proto) 2) = partSumN y (partB y pay) := by
 obtain ⟨f1, f2, f3, f4, f5⟩ := hf
 have hb := body_len y pay _ hp
 have hc : b8 (codeN y) = L.getD 6 0 := by
  have hlt := (L.getD 6 0).toNat_lt
  have hc2 : codeN y = (L.getD 6 0).toNat := by
   unfold codeN
   rw [h1, h8]
   rw [h8] at hk
   unfold known at hk
   unfold p6 at *
   by_cases c1 : (L.getD 6 0).toNat = 58
   ·rw [if_pos c1, if_pos ⟨rfl, rfl⟩]; omega
   ·rw [if_neg c1] at hk ⊢
    by_cases c2 : (L.getD 6 0).toNat = 1
    ·rw [if_pos c2] at hk; omega
    ·rw [if_neg c2] at hk ⊢
     rw [if_neg (by omega)]
  rw [hc2, b8_to]
 have e : pktB y pay = L.take 40 ++ bodyB y pay := by
  unfold pktB
  rw [h1, if_pos rfl, hb, hc, h7, b8_to, List.length_drop, ← f2, be_sb L 4 2 (by omega)]
  unfold addrB
  rw [h2, if_pos rfl, if_pos rfl, h3, h4, h5, h6, be_sb L 8 8 (by omega), be_sb L 16 8 (by omega), be_sb L 24 8 (by omega), be_sb L 32 8 (by omega)]
  have e2 : L.take 40 = sb L 0 40 := by simp [sb]
  rw [e2, sb_cut L 0 1 39 1 40 rfl rfl, sb_cut L 1 1 38 2 39 rfl rfl, sb_cut L 2 1 37 3 38 rfl rfl, sb_cut L 3 1 36 4 37 rfl rfl, sb_cut L 4 2 34 6 36 rfl rfl, sb_cut L 6 1 33 7 34 rfl rfl, sb_cut L 7 1 32 8 33 rfl rfl, sb_cut L 8 8 24 16 32 rfl rfl, sb_cut L 16 8 16 24 24 rfl rfl, sb_cut L 24 8 8 32 16 rfl rfl]
  rw [sb_one L 0 (by omega), sb_one L 1 (by omega), sb_one L 2 (by omega), sb_one L 3 (by omega), sb_one L 6 (by omega), sb_one L 7 (by omega), h0, f3, f4, f5]
  simp
 rw [e, ← again_body y pay _ hl hp]
 constructor
 ·intro h
  have h7 := h.trans (List.take_append_drop 40 L).symm
  exact List.append_cancel_left h7
 ·intro h
  rw [h, List.take_append_drop]
/-- a head that is right: its fields fit, the body is at hand -/
theorem head_ok (L : List UInt8) (eF eS eK : Nat) (h1 : eF ≠ 0) (h2 : eS ≠ 0) (h3 : eK ≠ 0) (h : headE L eF eS eK = 0) :
  (headX L).fit ∧ headAt L ≤ L.length ∧ 20 ≤ L.length ∧ ((L.getD 0 0 = 69 ∧ sum4 L ∧ form4 L) ∨ (L.getD 0 0 = 96 ∧ form6 L)) := by
 unfold headE at h
 unfold headX headAt
 by_cases hl : L.length < 20
 ·rw [if_pos hl] at h; omega
 rw [if_neg hl] at h
 by_cases h69 : L.getD 0 0 = 69
 ·rw [if_pos h69] at h ⊢
  rw [if_pos h69]
  by_cases hs : sum4 L
  ·rw [if_neg (not_not_intro hs)] at h
   by_cases hf : form4 L
   ·rw [if_neg (not_not_intro hf)] at h
    by_cases hk : known (x4 L).proto
    ·exact ⟨x4_fit L hk, by omega, by omega, .inl ⟨h69, hs, hf⟩⟩
    ·rw [if_neg hk] at h; omega
   ·rw [if_pos hf] at h; omega
  ·rw [if_pos hs] at h; omega
 ·rw [if_neg h69] at h ⊢
  rw [if_neg h69]
  by_cases h96 : L.getD 0 0 = 96
  ·rw [if_pos h96] at h
   by_cases hf : form6 L
   ·rw [if_neg (not_not_intro hf)] at h
    by_cases hk : known (x6 L).proto
    ·exact ⟨x6_fit L hk, hf.1, by omega, .inr ⟨h96, hf⟩⟩
    ·rw [if_neg hk] at h; omega
   ·rw [if_pos hf] at h; omega
  ·rw [if_neg h96] at h; omega
theorem again (L : List UInt8) (eF eS eK : Nat) (h1 : eF ≠ 0) (h2 : eS ≠ 0) (h3 : eK ≠ 0) (h : headE L eF eS eK = 0) (hp : prtOk (headX L) (rdBody L)) : pktB (rdX L) (rdPay L) = L ↔ sumOk L := by
 obtain ⟨hfit, hat, h20, hor⟩ := head_ok L eF eS eK h1 h2 h3 h
 obtain ⟨p1, -, p3⟩ := hp
 have hpr := prtX_proto (headX L) (rdBody L)
 obtain ⟨q1, q2, q3, q4, q5, q6, q7⟩ := prtX_head (headX L) (rdBody L)
 unfold sumOk
 show pktB (rdX L) (rdPay L) = L ↔ _
 have hk := hfit.proto
 rw [← hpr]
 rw [← hpr] at p1 p3 hk
 rw [show (rdBody L).drop (leastN (prtX (headX L) (rdBody L)).proto) = rdPay L by rw [hpr]; rfl] at p3
 change partB (rdX L) _ = _ at p3
 rcases hor with ⟨c1, c2, c3⟩ | ⟨c1, c2⟩
 ·have eX : headX L = x4 L := by unfold headX; rw [if_pos c1]
  have eB : rdBody L = L.drop 20 := by unfold rdBody headAt; rw [if_pos c1]
  have r1 : (rdX L).s1 = false := by unfold rdX; rw [q1, eX]; rfl
  have r2 : (rdX L).s2 = false := by unfold rdX; rw [q4, eX]; rfl
  have r3 : (rdX L).l1 = num (sb L 12 4) := by unfold rdX; rw [q3, eX]; rfl
  have r4 : (rdX L).l2 = num (sb L 16 4) := by unfold rdX; rw [q6, eX]; rfl
  have r5 : (rdX L).hops = (L.getD 8 0).toNat := by unfold rdX; rw [q7, eX]; rfl
  have r6 : (rdX L).proto = (L.getD 9 0).toNat := by unfold rdX; rw [hpr, eX]; rfl
  change leastN (rdX L).proto ≤ _ at p1
  change partB (rdX L) _ = setSum _ (sumAtN (rdX L).proto) 0 at p3
  show _ ↔ num (sb (rdBody L) (sumAtN (rdX L).proto) 2) = _
  rw [eB] at p1 p3 ⊢
  exact again4 L h20 c1 c2 c3 (rdX L) r1 r2 r3 r4 r5 r6 (rdPay L) p1 p3
 ·have eX : headX L = x6 L := by unfold headX; rw [if_neg (by rw [c1]; decide)]
  have eB : rdBody L = L.drop 40 := by unfold rdBody headAt; rw [if_neg (by rw [c1]; decide)]
  have r1 : (rdX L).s1 = true := by unfold rdX; rw [q1, eX]; rfl
  have r2 : (rdX L).s2 = true := by unfold rdX; rw [q4, eX]; rfl
  have r3 : (rdX L).h1 = num (sb L 8 8) := by unfold rdX; rw [q2, eX]; rfl
  have r4 : (rdX L).l1 = num (sb L 16 8) := by unfold rdX; rw [q3, eX]; rfl
  have r5 : (rdX L).h2 = num (sb L 24 8) := by unfold rdX; rw [q5, eX]; rfl
  have r6 : (rdX L).l2 = num (sb L 32 8) := by unfold rdX; rw [q6, eX]; rfl
  have r7 : (rdX L).hops = (L.getD 7 0).toNat := by unfold rdX; rw [q7, eX]; rfl
  have r8 : (rdX L).proto = p6 (L.getD 6 0).toNat := by unfold rdX; rw [hpr, eX]; rfl
  change leastN (rdX L).proto ≤ _ at p1
  change partB (rdX L) _ = setSum _ (sumAtN (rdX L).proto) 0 at p3
  show _ ↔ num (sb (rdBody L) (sumAtN (rdX L).proto) 2) = _
  rw [eB] at p1 p3 ⊢
  exact again6 L c1 c2 (rdX L) r1 r2 r3 r4 r5 r6 r7 r8 hk (rdPay L) p1 p3
end Go.Proofs.Ytakjopbdkkcnlaa

namespace Go.Proofs.Ytakjopbdkkcnlaa
open Go.RowKit Go
set_option linter.unusedVariables false

theorem OwnB.zero2 {w : World} {B g c : Nat} {L : List UInt8} (h : OwnB w B (.slice (some ⟨g, 0, none⟩) L.length c) L) (i : Nat) (hi : i + 1 < L.length) :
  OwnB ((w.setCell ⟨g, i, none⟩ (.int .u8 0)).setCell ⟨g, i + 1, none⟩ (.int .u8 0)) B (.slice (some ⟨g, 0, none⟩) L.length c) (setSum L i 0) := by
 have h1 := h.set i (by omega) (b8 0)
 have hl : L.length = (L.set i (b8 0)).length := by simp
 rw [hl] at h1 ⊢
 exact h1.set (i + 1) (by rw [← hl]; exact hi) (b8 0)
/-- a packet's cells, all zero -/
abbrev ZC : Array Value := #[.bool false, .int .u64 0, .int .u64 0, .bool false, .int .u64 0, .int .u64 0, .int .i64 0, .int .i64 0, .int .i64 0, .int .i64 0, .bool false, .bool false, .bool false, .bool false, .int .i64 0, .int .i64 0, .bool false, .int .i64 0, .slice none 0 0]
/-- a byte of a row -/
def ub (L : List UInt8) (i : Nat) : UInt8 := L.getD i 0
/-- w0: the world at the start; P: the packet's block, x what it holds; b: a row of bytes L below block B -/
structure RS (w0 : World) (P B : Nat) (b : Value) (L : List UInt8) (x : PV) (w : World) : Prop where
 g : w0.grownBy w (some P)
 p : PBlk w P x
 rb : Rb B w b L
 bp : B ≤ P
 bs : B ≤ w0.heap.size
theorem grown_below {u w w' : World} {r : Option Nat} (h : u.grownBy w r) (hb : Below w.heap.size w w') : u.grownBy w' r :=
 ⟨hb.os.trans h.os, hb.tape.trans h.tape, hb.output.trans h.output, Nat.le_trans h.size hb.size, fun i hi hne => (hb.block i (Nat.lt_of_lt_of_le hi h.size)).trans (h.block i hi hne)⟩
theorem RS.later {w0 : World} {P B : Nat} {b : Value} {L : List UInt8} {x : PV} {w w' : World} (h : RS w0 P B b L x w) (hb : Below w.heap.size w w') : RS w0 P B b L x w' :=
 ⟨grown_below h.g hb, Blk.below h.p hb (Blk.lt h.p), h.rb.below (hb.mono (Nat.le_trans h.bs h.g.size)), h.bp, h.bs⟩
theorem RS.drew {w0 : World} {P B : Nat} {b : Value} {L : List UInt8} {x : PV} {w : World} (h : RS w0 P B b L x w) : RS w0 P B b L x w.drew := h.later (below_drew (Below.refl _ _))
theorem grown_set {u w : World} {P : Nat} (h : u.grownBy w (some P)) (i : Nat) (v : Value) : u.grownBy (w.setCell ⟨P, i, none⟩ v) (some P) :=
 ⟨h.os, h.tape, h.output, by have := h.size; simpa using this, fun j hj hne => (heap_setCell_other w ⟨P, i, none⟩ j v (fun e => hne (by simp at e; rw [e]))).trans (h.block j hj hne)⟩
theorem RS.set {w0 : World} {P B i : Nat} {b v : Value} {L : List UInt8} {x x' : PV} {w : World} (h : RS w0 P B b L x w) (hp : PBlk (w.setCell ⟨P, i, none⟩ v) P x') : RS w0 P B b L x' (w.setCell ⟨P, i, none⟩ v) :=
 ⟨grown_set h.g i v, hp, h.rb.below (w := w) ⟨rfl, rfl, rfl, by simp, fun j hj => heap_setCell_other w ⟨P, i, none⟩ j v (by have := h.bp; simp only; omega)⟩, h.bp, h.bs⟩
theorem RS.other {w0 : World} {P B : Nat} {b : Value} {L : List UInt8} {x : PV} {w : World} (h : RS w0 P B b L x w) (g2 i : Nat) (v : Value) (hne : P ≠ g2) (hg : w0.heap.size ≤ g2) : RS w0 P B b L x (w.setCell ⟨g2, i, none⟩ v) :=
 ⟨⟨h.g.os, h.g.tape, h.g.output, by have := h.g.size; simpa using this, fun j hj hn => (heap_setCell_other w ⟨g2, i, none⟩ j v (by simp only; omega)).trans (h.g.block j hj hn)⟩, Blk.far h.p hne i v,
  h.rb.below (w := w) ⟨rfl, rfl, rfl, by simp, fun j hj => heap_setCell_other w ⟨g2, i, none⟩ j v (by have := h.bs; simp only; omega)⟩, h.bp, h.bs⟩
/-- blocks of bytes stay, the phase grows -/
def SS (n : Nat) (w : World) (n' : Nat) (w' : World) : Prop := n ≤ n' ∧ ∀ (g : Nat) (cs : Array Value), w.heap[g]? = some (Obj.cells cs 5 (0, 0)) → w'.heap[g]? = some (Obj.cells cs 5 (0, 0))
theorem sR {n : Nat} {w : World} : SS n w n w := ⟨Nat.le_refl _, fun _ _ h => h⟩
theorem SS.later {n : Nat} {w w' : World} (h : Below w.heap.size w w') : SS n w n w' := ⟨Nat.le_refl _, fun g _ hg => (h.block g (lt_of_block hg)).trans hg⟩
theorem SS.trans {n n' n'' : Nat} {w w' w'' : World} (h : SS n w n' w') (k : SS n' w' n'' w'') : SS n w n'' w'' := ⟨Nat.le_trans h.1 k.1, fun g cs hg => k.2 g cs (h.2 g cs hg)⟩
theorem SS.set {w : World} {P : Nat} {x : PV} (hp : PBlk w P x) (i : Nat) (v : Value) (n n' : Nat) (hn : n ≤ n') : SS n w n' (w.setCell ⟨P, i, none⟩ v) := by
 refine ⟨hn, fun g cs hg => (heap_setCell_other w ⟨P, i, none⟩ g v ?_).trans hg⟩
 intro e
 simp only at e
 subst e
 have h2 : w.heap[g]? = some (Obj.cells _ 45 (0, 0)) := hp
 rw [hg] at h2
 injection h2 with h2
 injection h2 with _ h3 _
 revert h3
 decide
theorem OwnB.ss {u w : World} {n0 n : Nat} {B : Nat} {v : Value} {L : List UInt8} (h : OwnB u B v L) (hs : SS n0 u n w) : OwnB w B v L := by
 refine ⟨h.1, ?_⟩
 rcases h.2 with h2 | ⟨g, cap, cur, rfl, hb, hg, r⟩
 ·exact .inl h2
 ·exact .inr ⟨g, cap, cur, rfl, hb, hs.2 g cur hg, r⟩
inductive Vd where
 | val (v : Value)
 | arr (L : List UInt8)
 | own (B : Nat) (L : List UInt8)
 | st (k : Nat)
 | any
def Vd.R : Vd → Value → Nat → World → Prop
 | .val x, v, _, _ => v = x
 | .arr L, v, _, w => ∃ g, v = .slice (some ⟨g, 0, none⟩) L.length L.length ∧ w.heap[g]? = some (.cells (encBs L).toArray 5 (0, 0))
 | .own B L, v, _, w => w.ownsRow B 5 1 v L.length (encBs L)
 | .st k, _, n, _ => k ≤ n
 | .any, _, _, _ => True
theorem Vd.keep (d : Vd) {v : Value} {n n' : Nat} {w w' : World} (h : d.R v n w) (hs : SS n w n' w') : d.R v n' w' := by
 cases d with
 | val x => exact h
 | any => trivial
 | st k => exact Nat.le_trans h hs.1
 | own B L => exact OwnB.ss h hs
 | arr L =>
  obtain ⟨g, e, hg⟩ := h
  exact ⟨g, e, hs.2 g _ hg⟩
theorem u8size (w : World) : (sizeOf (Try.prog.elem 43)).run Try.prog w = .ok 1 w := by kernel_rfl
theorem subV_of (ad : Option Addr) (c l h : Nat) : sliced ad l h c 1 = subV ad c l h := by unfold sliced subV; rw [Nat.mul_one]
set_option maxRecDepth 100000 in
theorem Op1.slice_lh {o : Oper} {ρ : Operand → Value} {w : World} {post : Value → World → Prop} (x lo hi : Operand) (ho : o.op = .slice 43 x (some lo) (some hi) none) {ad : Option Addr} {n c l h : Nat}
  (hx : ρ x = .slice ad n c) (hl : ρ lo = .int .i64 (l : Int)) (hh : ρ hi = .int .i64 (h : Int)) (h1 : l ≤ h) (h2 : h ≤ c) (hp : post (subV ad c l h) w) : Op1 Try.prog o ρ w post := by
 unfold Op1 execOp
 simp only [ho, Option.map_some, Option.map_none, hx, hl, hh, Sem.run_bind, Sem.run_pure, run_sliceAt_slice (P := Try.prog) (w := w) 43 (.slice ad n c) _ _ _ Try.underlying43, run_slice_lh (P := Try.prog) w 43 ad n c Try.underlying43 .i64 .i64 (l : Int) (h : Int) (by omega) (by omega) (by omega), u8size, Result.andThen_ok, Int.toNat_natCast, subV_of]
 exact hp
set_option maxRecDepth 100000 in
theorem Op1.slice_h {o : Oper} {ρ : Operand → Value} {w : World} {post : Value → World → Prop} (x hi : Operand) (ho : o.op = .slice 43 x none (some hi) none) {ad : Option Addr} {n c h : Nat}
  (hx : ρ x = .slice ad n c) (hh : ρ hi = .int .i64 (h : Int)) (h2 : h ≤ c) (hp : post (subV ad c 0 h) w) : Op1 Try.prog o ρ w post := by
 unfold Op1 execOp
 simp only [ho, Option.map_some, Option.map_none, hx, hh, Sem.run_bind, Sem.run_pure, run_sliceAt_slice (P := Try.prog) (w := w) 43 (.slice ad n c) _ _ _ Try.underlying43, run_slice_h (P := Try.prog) w 43 ad n c Try.underlying43 .i64 (h : Int) (by omega) (by omega), u8size, Result.andThen_ok, Int.toNat_natCast, subV_of]
 exact hp
set_option maxRecDepth 100000 in
theorem Op1.slice_l {o : Oper} {ρ : Operand → Value} {w : World} {post : Value → World → Prop} (x lo : Operand) (ho : o.op = .slice 43 x (some lo) none none) {ad : Option Addr} {n c l : Nat}
  (hx : ρ x = .slice ad n c) (hl : ρ lo = .int .i64 (l : Int)) (h1 : l ≤ n) (hp : post (subV ad c l n) w) : Op1 Try.prog o ρ w post := by
 unfold Op1 execOp
 simp only [ho, Option.map_some, Option.map_none, hx, hl, Sem.run_bind, Sem.run_pure, run_sliceAt_slice (P := Try.prog) (w := w) 43 (.slice ad n c) _ _ _ Try.underlying43, run_slice_l (P := Try.prog) w 43 ad n c Try.underlying43 .i64 (l : Int) (by omega) (by omega), u8size, Result.andThen_ok, Int.toNat_natCast, subV_of]
 exact hp
theorem sb_sb (L : List UInt8) (i m j k : Nat) (h : j + k ≤ m) : sb (sb L i m) j k = sb L (i + j) k := by
 simp only [sb, List.drop_take, List.take_take, List.drop_drop]
 rw [Nat.min_eq_left (by omega)]
theorem sb_whole (L : List UInt8) : sb L 0 L.length = L := by simp [sb]
/-- a call that leaves a known value and the very world -/
theorem val_same {w0 : World} {P B : Nat} {b : Value} {L : List UInt8} {x : PV} {n : Nat} {w : World} {v : Value} {f : FuncId} {args : Array Value} (hC : RS w0 P B b L x w) (h : Calls Try.prog f args w fun e w' => e = .returned v ∧ w = w') :
  Calls Try.prog f args w fun e w' => ∃ v', e = .returned v' ∧ Vd.R (.val v) v' n w' ∧ RS w0 P B b L x w' ∧ SS n w n w' := by
 refine h.mono ?_
 rintro e w' ⟨rfl, rfl⟩
 exact ⟨v, rfl, rfl, hC, sR⟩
theorem val_ret {w0 : World} {P B : Nat} {b : Value} {L : List UInt8} {x : PV} {n : Nat} {w : World} {v : Value} {f : FuncId} {args : Array Value} (hC : RS w0 P B b L x w) (h : Calls Try.prog f args w (Ret v w)) :
  Calls Try.prog f args w fun e w' => ∃ v', e = .returned v' ∧ Vd.R (.val v) v' n w' ∧ RS w0 P B b L x w' ∧ SS n w n w' := by
 refine h.mono ?_
 rintro e w' ⟨rfl, hb⟩
 exact ⟨v, rfl, rfl, hC.later hb, SS.later hb⟩
theorem arr_val {w0 : World} {P B : Nat} {b : Value} {L : List UInt8} {x : PV} {n : Nat} {w : World} (M : List UInt8) (hC : RS w0 P B b L x w) (cs : Array Value) (hcs : cs = (encBs M).toArray) (m : Nat) (hm : m = M.length) :
  Vd.R (.arr M) (.slice (some ⟨w.heap.size, 0, none⟩) m m) n (w.alloc (.cells cs 5 (0, 0))) ∧ RS w0 P B b L x (w.alloc (.cells cs 5 (0, 0))) ∧ SS n w n (w.alloc (.cells cs 5 (0, 0))) := by
 subst hcs hm
 have hb : Below w.heap.size w (w.alloc (.cells (encBs M).toArray 5 (0, 0))) := below_alloc (Below.refl _ _) _
 exact ⟨⟨_, rfl, heap_alloc_new w _⟩, hC.later hb, SS.later hb⟩

set_option maxRecDepth 100000 in
theorem Op1.indexB {o : Oper} {ρ : Operand → Value} {w : World} {post : Value → World → Prop} (x i : Operand) (ho : o.op = .indexAddr 43 x i) {g ob n c k : Nat}
  (hx : ρ x = .slice (some ⟨g, ob, none⟩) n c) (hi : ρ i = .int .i64 (k : Int)) (hk : k < n) (hp : post (.pointer (some ⟨g, ob + k, none⟩)) w) : Op1 Try.prog o ρ w post := by
 have hadd : (⟨g, ob, none⟩ : Addr).add k = ⟨g, ob + k, none⟩ := by unfold Addr.add; split <;> simp_all
 unfold Op1 execOp
 simp only [ho, hx, hi, Sem.run_bind, Sem.run_pure, run_indexAt_slice (P := Try.prog) w 43 ⟨g, ob, none⟩ n c .i64 (k : Int) Try.underlying43]
 rw [if_pos (by omega), u8size]
 simp only [Result.andThen_ok, Int.toNat_natCast, Nat.mul_one, hadd]
 exact hp
theorem val_same0 {w0 u : World} {P B : Nat} {b : Value} {L : List UInt8} {x : PV} {n : Nat} {w : World} {v : Value} {f : FuncId} {args : Array Value} (hC : RS w0 P B b L x w ∧ Below u.heap.size u w) (h : Calls Try.prog f args w fun e w' => e = .returned v ∧ w = w') :
  Calls Try.prog f args w fun e w' => ∃ v', e = .returned v' ∧ Vd.R (.val v) v' n w' ∧ (RS w0 P B b L x w' ∧ Below u.heap.size u w') ∧ SS n w n w' := by
 refine h.mono ?_
 rintro e w' ⟨rfl, rfl⟩
 exact ⟨v, rfl, rfl, hC, sR⟩
theorem val_ret0 {w0 u : World} {P B : Nat} {b : Value} {L : List UInt8} {x : PV} {n : Nat} {w : World} {v : Value} {f : FuncId} {args : Array Value} (hC : RS w0 P B b L x w ∧ Below u.heap.size u w) (h : Calls Try.prog f args w (Ret v w)) :
  Calls Try.prog f args w fun e w' => ∃ v', e = .returned v' ∧ Vd.R (.val v) v' n w' ∧ (RS w0 P B b L x w' ∧ Below u.heap.size u w') ∧ SS n w n w' := by
 refine h.mono ?_
 rintro e w' ⟨rfl, hb⟩
 exact ⟨v, rfl, rfl, ⟨hC.1.later hb, hC.2.trans (hb.mono hC.2.size)⟩, SS.later hb⟩
theorem arr_val0 {w0 u : World} {P B : Nat} {b : Value} {L : List UInt8} {x : PV} {n : Nat} {w : World} (M : List UInt8) (hC : RS w0 P B b L x w ∧ Below u.heap.size u w) (cs : Array Value) (hcs : cs = (encBs M).toArray) (m : Nat) (hm : m = M.length) :
  Vd.R (.arr M) (.slice (some ⟨w.heap.size, 0, none⟩) m m) n (w.alloc (.cells cs 5 (0, 0))) ∧ (RS w0 P B b L x (w.alloc (.cells cs 5 (0, 0))) ∧ Below u.heap.size u (w.alloc (.cells cs 5 (0, 0)))) ∧ SS n w n (w.alloc (.cells cs 5 (0, 0))) := by
 have h := arr_val (n := n) M hC.1 cs hcs m hm
 exact ⟨h.1, ⟨h.2.1, below_alloc hC.2 _⟩, h.2.2⟩
theorem val_same1 {w0 u : World} {P B : Nat} {b : Value} {L : List UInt8} {x : PV} {n : Nat} {w : World} {v : Value} {f : FuncId} {args : Array Value} (hC : RS w0 P B b L x w ∧ SS 0 u n w) (h : Calls Try.prog f args w fun e w' => e = .returned v ∧ w = w') :
  Calls Try.prog f args w fun e w' => ∃ v', e = .returned v' ∧ Vd.R (.val v) v' n w' ∧ (RS w0 P B b L x w' ∧ SS 0 u n w') ∧ SS n w n w' := by
 refine h.mono ?_
 rintro e w' ⟨rfl, rfl⟩
 exact ⟨v, rfl, rfl, hC, sR⟩
theorem val_ret1 {w0 u : World} {P B : Nat} {b : Value} {L : List UInt8} {x : PV} {n : Nat} {w : World} {v : Value} {f : FuncId} {args : Array Value} (hC : RS w0 P B b L x w ∧ SS 0 u n w) (h : Calls Try.prog f args w (Ret v w)) :
  Calls Try.prog f args w fun e w' => ∃ v', e = .returned v' ∧ Vd.R (.val v) v' n w' ∧ (RS w0 P B b L x w' ∧ SS 0 u n w') ∧ SS n w n w' := by
 refine h.mono ?_
 rintro e w' ⟨rfl, hb⟩
 exact ⟨v, rfl, rfl, ⟨hC.1.later hb, hC.2.trans (SS.later hb)⟩, SS.later hb⟩
theorem SS.drew {w : World} : SS 0 w 0 w.drew := SS.later (below_drew (Below.refl _ _))
/-- a flag of a byte -/
def flz (L : List UInt8) (i : Nat) (m : Int) : Bool := fl (ub L i) m
/-- a call that leaves a fresh own row -/
theorem val_own0 {w0 u : World} {P B : Nat} {b : Value} {L M : List UInt8} {x : PV} {n : Nat} {w : World} {f : FuncId} {args : Array Value} (hC : RS w0 P B b L x w ∧ Below u.heap.size u w) (h : Calls Try.prog f args w fun e w' => ∃ v, e = .returned v ∧ OwnB w' w.heap.size v M ∧ Below w.heap.size w w') :
  Calls Try.prog f args w fun e w' => ∃ v', e = .returned v' ∧ Vd.R (.own u.heap.size M) v' n w' ∧ (RS w0 P B b L x w' ∧ Below u.heap.size u w') ∧ SS n w n w' := by
 refine h.mono ?_
 rintro e w' ⟨v, rfl, hO, hb⟩
 exact ⟨v, rfl, own_weak hO hC.2.size, ⟨hC.1.later hb, hC.2.trans (hb.mono hC.2.size)⟩, SS.later hb⟩
theorem zeros_is {B : Nat} {w : World} {v : Value} {L : List UInt8} {bv : Bool} (hR : Rb B w v L) (hl : L.length ≤ 1000) (he : (!L.any (· != 0)) = bv) :
  Calls Try.prog 100 #[v] w fun e w' => e = .returned (.bool bv) ∧ w = w' := by
 subst he; exact zeros_rb hR hl
set_option maxRecDepth 100000 in
set_option maxHeartbeats 1000000 in
theorem takeAddr4 {B : Nat} {w : World} {v : Value} {L : List UInt8} (hR : Rb B w v L) (hB : B ≤ w.heap.size) (hl : L.length = 4) : Calls Try.prog 101 #[v] w (Ret (.agg #[.bool false, .int .u64 0, .int .u64 ((num L : Nat) : Int)]) w) := by
 have HR := Lib.hid hR
 have HF : ∃ g o c, v = .slice (some ⟨g, o, none⟩) 4 c ∧ 4 ≤ c := by
  obtain ⟨g, o, c, e, h1, -⟩ := hR.form (by omega)
  rw [hl] at e h1
  exact ⟨g, o, c, e, h1⟩
 obtain ⟨g, o, c, rfl, hc⟩ := HF
 clear hR
 have Hl := Lib.hid hl
 clear hl
 go_enter Try.func101, Try.ntmps101
 go_wp2_with fail
 refine (take_rb (HR.out.below (below_alloc (Below.refl _ _) _ |>.mono hB)) (by rw [Hl.out]; omega)).mono ?_
 rintro e w' ⟨rfl, rfl⟩
 go_wp2_with fail
 exact bodyPost_ret (v := .agg #[.bool false, .int .u64 0, .int .u64 ((num L : Nat) : Int)]) (by simp [results, Try.results101, go_sem]) rfl ⟨rfl, by repeat (first | (refine below_set ?_ (by simp) _ _) | exact below_alloc (Below.refl _ _) _)⟩
set_option maxRecDepth 100000 in
set_option maxHeartbeats 1000000 in
theorem takeAddr16 {B : Nat} {w : World} {v : Value} {L : List UInt8} (hR : Rb B w v L) (hB0 : B ≤ w.heap.size) (hl : L.length = 16) : Calls Try.prog 101 #[v] w (Ret (.agg #[.bool true, .int .u64 ((num (sb L 0 8) : Nat) : Int), .int .u64 ((num (sb L 8 8) : Nat) : Int)]) w) := by
 have HF : ∃ g o c, v = .slice (some ⟨g, o, none⟩) 16 c ∧ 16 ≤ c := by
  obtain ⟨g, o, c, e, h1, -⟩ := hR.form (by omega)
  rw [hl] at e h1
  exact ⟨g, o, c, e, h1⟩
 obtain ⟨g, o, c, rfl, hc⟩ := HF
 have ha := hR.sub 0 8 (by omega)
 have hb := hR.sub 8 8 (by omega)
 have Ha := Lib.hid ha
 have Hb := Lib.hid hb
 have Hla := Lib.hid (sb_len L 0 8 (by omega))
 have Hlb := Lib.hid (sb_len L 8 8 (by omega))
 clear hR ha hb hl
 generalize sb L 0 8 = La at *
 generalize sb L 8 8 = Lb at *
 go_enter Try.func101, Try.ntmps101
 go_upto_region 3 with fail
 have HB1 : Hid (Below w.heap.size w (w.alloc (.cells #[.bool false, .int .u64 0, .int .u64 0] 28 (0, 0)))) := Lib.hid (below_alloc (Below.refl _ _) _)
 have HP1 : Hid (Blk (w.alloc (.cells #[.bool false, .int .u64 0, .int .u64 0] 28 (0, 0))) w.heap.size 28 #[.bool false, .int .u64 0, .int .u64 0]) := Lib.hid (Blk.new w _ _)
 have HA1 := Lib.hid (Ha.out.below (HB1.out.mono hB0))
 have HB2 := Lib.hid (Hb.out.below (HB1.out.mono hB0))
 generalize w.alloc (.cells #[.bool false, .int .u64 0, .int .u64 0] 28 (0, 0)) = w1 at *
 have hlt1 : w.heap.size < w1.heap.size := Blk.lt HP1.out
 have hB : RC.fine (⟨w1.heap.size, w1, .slice none 0 0, false, w.heap.size⟩ : RC) := ⟨Nat.le_refl _, hlt1, by simp [Value.ownBlock]⟩
 refine Lm.wp_region_lim 5 0 (fun p vv nn ww => (List.getD ((.val (.slice (some ⟨g, o, none⟩) 16 c)) :: (.val (subV (some ⟨g, o, none⟩) c 0 8)) :: (.val (.int .u64 ((num La : Nat) : Int))) :: (.val (.slice (some ⟨g, o, none⟩) 16 c)) :: (.val (subV (some ⟨g, o, none⟩) c 8 16)) :: [] : List Ds) p .any).R (⟨w1.heap.size, w1, .slice none 0 0, false, w.heap.size⟩ : RC) vv nn ww) (RC.C (⟨w1.heap.size, w1, .slice none 0 0, false, w.heap.size⟩ : RC)) (RC.S (⟨w1.heap.size, w1, .slice none 0 0, false, w.heap.size⟩ : RC)) (fun _ => 0) (fun _ => 0)
  (by kernel_rfl) (by kernel_rfl) (by decide) (by kernel_rfl) (fun p vv nn ww n' w' h hs => ds_keep hB _ rfl p vv nn ww n' w' h hs) RC.start ?hX1
 case' hX1 => (apply Exists.intro; refine ⟨fun T => ?hA1, ?hob1, ?hend1⟩)
 case hA1 =>
  simp only [setAll, List.take_succ_cons, List.take_zero, Act.put, List.setIfInBounds_toArray, List.set_cons_succ, List.set_cons_zero, Nat.reduceAdd]
  exact rfl
 case hob1 =>
  refine ⟨?_, ?_, ?_, ?_, ?_, trivial⟩
  ·intro T wx n hC hn hp
   refine Op1.g fun _ Z => ?_; go_simp; exact Z _ _ ⟨rfl, hC, rR⟩
  ·intro T wx n hC hn hp
   obtain ⟨e0, -⟩ := hp
   have d0 : T 0 = .slice (some ⟨g, o, none⟩) 16 c := e0
   exact Op1.slice_h (h := 8) (.tmp 9) (.const (.int .i64 8)) rfl d0 rfl (by omega) ⟨rfl, hC, rR⟩
  ·intro T wx n hC hn hp
   obtain ⟨(d0 : T 1 = subV (some ⟨g, o, none⟩) c 0 8), -⟩ := hp
   refine Op1.g fun _ Z => ?_; go_simp; exact calls_post (same_ob (c := (⟨w1.heap.size, w1, .slice none 0 0, false, w.heap.size⟩ : RC)) hC (take_rb (HA1.out.below (hC.1.mono (Nat.le_trans hB0 HB1.out.size))) (by rw [Hla.out]; omega))) Z
  ·intro T wx n hC hn hp
   refine Op1.g fun _ Z => ?_; go_simp; exact Z _ _ ⟨rfl, hC, rR⟩
  ·intro T wx n hC hn hp
   obtain ⟨e0, -⟩ := hp
   have d0 : T 3 = .slice (some ⟨g, o, none⟩) 16 c := e0
   exact Op1.slice_l (l := 8) (.tmp 12) (.const (.int .i64 8)) rfl d0 rfl (by omega) ⟨rfl, hC, rR⟩
 case hend1 =>
  intro T wx ⟨n, hn, hC, hR⟩
  have r0 : T 4 = subV (some ⟨g, o, none⟩) c 8 16 := hR 4 (by omega)
  have r1 : T 2 = .int .u64 ((num La : Nat) : Int) := hR 2 (by omega)
  rw [r0, r1]
  have HB3 := Lib.hid (HB1.out.trans (hC.1.mono (Nat.le_of_lt hlt1)))
  have HP3 := Lib.hid (Blk.below HP1.out hC.1 hlt1)
  have HB4 := Lib.hid (HB2.out.below (hC.1.mono (Nat.le_trans hB0 HB1.out.size)))
  clear r0 r1 hR hC
  have a0 := HP3.out.cell 0
  have a1 := HP3.out.cell 1
  have a2 := HP3.out.cell 2
  have f0 := Blk.free HP3.out
  simp at a0 a1 a2
  simp only [List.drop_succ_cons, List.drop_zero]
  go_wp2_with fail
  refine (take_rb HB4.out (by rw [Hlb.out]; omega)).mono ?_
  rintro e w' ⟨rfl, rfl⟩
  go_wp2_with fail
  exact bodyPost_ret (v := .agg #[.bool true, .int .u64 ((num La : Nat) : Int), .int .u64 ((num Lb : Nat) : Int)]) (by simp [results, Try.results101, go_sem, a0, a1, a2]) rfl ⟨rfl, by repeat (first | (refine below_set ?_ (by simp) _ _) | exact HB3.out)⟩
theorem takeAddr16s {B : Nat} {w : World} {ad : Option Addr} {n c : Nat} {L : List UInt8} (hR : Rb B w (.slice ad n c) L) (hB0 : B ≤ w.heap.size) (l l2 : Nat) (h2 : l2 = l + 8) (hl : l + 16 ≤ L.length) :
  Calls Try.prog 101 #[subV ad c l (l + 16)] w (Ret (.agg #[.bool true, .int .u64 ((num (sb L l 8) : Nat) : Int), .int .u64 ((num (sb L l2 8) : Nat) : Int)]) w) := by
 subst h2
 have h := takeAddr16 (hR.sub l 16 hl) hB0 (sb_len L l 16 hl)
 rw [sb_sb L l 16 0 8 (by omega), sb_sb L l 16 8 8 (by omega)] at h
 exact h
theorem takeAddr4s {B : Nat} {w : World} {ad : Option Addr} {n c : Nat} {L : List UInt8} (hR : Rb B w (.slice ad n c) L) (hB0 : B ≤ w.heap.size) (l : Nat) (hl : l + 4 ≤ L.length) :
  Calls Try.prog 101 #[subV ad c l (l + 4)] w (Ret (.agg #[.bool false, .int .u64 0, .int .u64 ((num (sb L l 4) : Nat) : Int)]) w) := takeAddr4 (hR.sub l 4 hl) hB0 (sb_len L l 4 hl)
end Go.Proofs.Ytakjopbdkkcnlaa

namespace Go.Proofs.Ytakjopbdkkcnlaa
open Go.RowKit Go
set_option linter.unusedVariables false

theorem OwnB.cut {w : World} {B g c : Nat} {L : List UInt8} (h : OwnB w B (.slice (some ⟨g, 0, none⟩) L.length c) L) (i : Nat) (hi : i ≤ L.length) : OwnB w B (.slice (some ⟨g, 0, none⟩) i c) (L.take i) := by
 rcases h.2 with ⟨hv, _⟩ | ⟨g2, c2, cur, hv, hb, hg, hc, hm, hs, ht⟩
 ·cases hv
 ·simp at hv
  obtain ⟨rfl, rfl⟩ := hv
  have hl : (L.take i).length = i := by simp; omega
  refine ⟨by simp [encBs], .inr ⟨g, c, cur, by rw [hl], hb, hg, by rw [hl]; omega, hm, hs, ?_⟩⟩
  have h1 := congrArg (List.take i) ht
  rw [List.take_take, Nat.min_eq_left (by omega)] at h1
  rw [hl, Nat.mul_one, h1]
  simp [encBs]
theorem OwnB.dropSrc {w : World} {B g c : Nat} {L : List UInt8} (h : OwnB w B (.slice (some ⟨g, 0, none⟩) L.length c) L) (i : Nat) : Src w (some ⟨g, i, none⟩) (L.length - i) 1 (encBs (L.drop i)) := by
 obtain ⟨ad, c2, e, hs, -⟩ := own_form h
 simp at e
 obtain ⟨rfl, rfl⟩ := e
 refine ⟨by simp [encBs], fun j u hu => ⟨_, rfl, ?_, ?_⟩⟩
 ·obtain ⟨a, e, hlt, _⟩ := hs.2 (i + j) u (by simpa [encBs, List.getElem?_drop] using hu)
  injection e with e
  subst e
  exact hlt
 ·obtain ⟨a, e, _, hc⟩ := hs.2 (i + j) u (by simpa [encBs, List.getElem?_drop] using hu)
  injection e with e
  subst e
  have h1 : (⟨g, 0, none⟩ : Addr).add (i + j) = ⟨g, i + j, none⟩ := by unfold Addr.add; split <;> simp_all
  have h2 : (⟨g, i, none⟩ : Addr).add j = ⟨g, i + j, none⟩ := by unfold Addr.add; split <;> simp_all
  rw [h2, ← h1]
  exact hc
theorem Gen.grew {b m : Nat} {w0 w w' : World} {v v' : Value} {L : List UInt8} (h : Gen b w0 w m) (hO : OwnB w w0.heap.size v L) (hG : Grew w w' v v') (hb : b < w0.heap.size) : Gen b w0 w' m := by
 have hne : ∀ i, i < w0.heap.size → w'.heap[i]? = w.heap[i]? := fun i hi => hG.g.block i (Nat.lt_of_lt_of_le hi h.g.size) (by
  intro e
  have := own_base hO i e.symm
  omega)
 exact ⟨⟨hG.g.os.trans h.g.os, hG.g.tape.trans h.g.tape, hG.g.output.trans h.g.output, Nat.le_trans h.g.size hG.g.size, fun i hi hn => (hne i hi).trans (h.g.block i hi hn)⟩, h.s.keep fun i hi => hne i (by omega)⟩
theorem Gen.below_own {b m : Nat} {w0 w w' : World} (h : Gen b w0 w m) (hb : Below w0.heap.size w w') (hlt : b < w0.heap.size) : Gen b w0 w' m := h.below hb (Nat.le_refl _) hlt

theorem OwnB.subSrc {w : World} {B g c nn : Nat} {L : List UInt8} (h : OwnB w B (.slice (some ⟨g, 0, none⟩) nn c) L) (hn : L.length = nn) (l : Nat) (hl : l ≤ nn) :
  ∃ ad', subV (some ⟨g, 0, none⟩) c l nn = .slice ad' (nn - l) (c - l) ∧ Src w ad' (nn - l) 1 (encBs (L.drop l)) := by
 subst hn
 obtain ⟨ad, c', e, hs, h1, h2⟩ := h.src
 injection e with _ _ e3
 subst e3
 unfold subV
 by_cases hc : c = l
 ·refine ⟨some ⟨g, 0, none⟩, by rw [if_pos hc], ?_⟩
  have h0 : L.length - l = 0 := by omega
  rw [h0, List.drop_eq_nil_of_le (by omega)]
  exact ⟨rfl, fun j u hu => by cases hu⟩
 ·refine ⟨some ⟨g, l, none⟩, by rw [if_neg hc]; simp [Addr.add]; intro h; omega, ?_⟩
  exact h.dropSrc l
theorem OwnB.drew {w : World} {B : Nat} {v : Value} {L : List UInt8} (h : OwnB w B v L) : OwnB w.drew B v L := own_later h (below_drew (Below.refl _ _))
def rr8 (g c nn i b : Nat) (L' : List UInt8) (p : Nat) (v : Value) : Prop :=
 match p with
 | 0 => v = .slice (some ⟨g, 0, none⟩) nn c
 | 1 => v = .int .i64 ((i : Nat) : Int)
 | 2 => v = .pointer (some ⟨g, i, none⟩)
 | 3 => v = .int .u8 (((ub L' i).toNat : Nat) : Int)
 | 4 => v = .pointer (some ⟨b, 0, none⟩)
 | 5 => ∃ x : Int, v = .int .i64 x ∧ 0 ≤ x ∧ x < 8
 | 6 => ∃ y : Int, v = .int .u8 y
 | 7 => ∃ y : UInt8, v = encB y
 | _ => True
theorem xor_u8 (a c : Int) : ∃ y : UInt8, Value.int .u8 (bits .xor .u8 a c) = encB y := ⟨_, u8_nat _⟩
set_option maxRecDepth 100000 in
set_option maxHeartbeats 4000000 in
theorem bytes_gen (b m : Nat) (w : World) (h : Strm w b m) (hm : m + 100 < 1099511627776) (v : Value) (L : List UInt8) (hR : Rb w.heap.size w v L) (hl : L.length ≤ 2000) :
  Calls Try.prog 69 #[.pointer (some ⟨b, 0, none⟩), v] w fun e w' => ∃ v' L', e = .returned v' ∧ OwnB w' w.heap.size v' L' ∧ L'.length ≤ L.length + 3 ∧ Gen b w w' (m + 11) := by
 have hblt := h.lt
 obtain ⟨ad, c, rfl, r1, r2, r3, r4, r5⟩ := hR
 have HS := Lib.hid r2
 have Hs := Lib.hid h
 clear r1 r2 r5 h
 generalize hn : L.length = n at *
 have Hn := Lib.hid hn
 clear hn
 have HN : Hid (OwnB w w.heap.size (.slice none 0 0) []) := Lib.hid (OwnB.nil _ _)
 go_enter Try.func69, Try.ntmps69
 go_wp2_with (at_builtin; refine wpList_app byteE rfl (.const (.slice none 0 0)) (.tmp 7) rfl rfl HN.out rfl HS.out (encBs_one _) ?c1 ?c2 ?c3 ?_)
 case c1 => unfold maxLen; simp; omega
 case c2 => simp; omega
 case c3 => omega
 intro v0 w0 hO hGr
 have HO0 : Hid (OwnB w0 w.heap.size v0 L) := Lib.hid (by
  show w0.ownsRow _ _ _ _ _ _
  rw [Hn.out]
  simpa [encBs] using hO)
 have HG0 := Lib.hid ((Gen.start Hs.out).grew HN.out hGr hblt)
 clear hO hGr HS Hs HN
 go_wp2_with fail
 refine (range_gen b m _ _ _ HG0.out.s (by omega) (by omega) (by omega)).mono ?_
 rintro e w1 ⟨K0, rfl, ⟨hK0, hK1⟩, hg⟩
 obtain ⟨K, rfl⟩ := Int.eq_ofNat_of_zero_le (show 0 ≤ K0 by omega)
 have hK2 : K ≤ 2 := by omega
 have HG1 := Lib.hid (HG0.out.trans hg)
 have HO1 : Hid (OwnB w1 w.heap.size v0 L) := Lib.hid (HO0.out.gen hg hblt)
 clear hg hK0 hK1 HG0 HO0
 go_wp2
 go_loopw [5, 6, 11] (fun s j i wr => ∃ (k : Nat) (L' : List UInt8), k ≤ K ∧ i = .int .i64 k ∧ Hid (OwnB wr w.heap.size s L') ∧ L'.length ≤ n + k ∧ Hid (Gen b w wr (m + 1 + 3 * k))) (fun _ _ i _ => K - (intOf i).toNat)
 case atStart => exact ⟨0, L, Nat.zero_le _, rfl, HO1, by have := Hn.out; omega, HG1⟩
 case round =>
  obtain ⟨k, L', hk, rfl, HO, hl', HG⟩ := hrel
  by_cases hlt : k < K
  ·by_cases hz : L'.length = 0
   ·obtain ⟨ad2, c2, rfl, -⟩ := own_form HO.out
    have Hz := Lib.hid hz
    rw [hz]
    clear hz hl'
    go_wp2_with fail
    refine (next_gen b (m + 1 + 3 * k) _ _ HG.out.s (by omega) (by omega)).mono ?_
    rintro e w2 ⟨x0, rfl, ⟨hx0, hx1⟩, hg⟩
    obtain ⟨x, rfl⟩ := Int.eq_ofNat_of_zero_le hx0
    have HO2 : Hid (OwnB w2 w.heap.size (.slice ad2 0 c2) L') := Lib.hid (by rw [← Hz.out]; exact HO.out.gen hg hblt)
    have HG2 := Lib.hid (HG.out.trans hg)
    have hx2 : (x : Int) < 256 := by omega
    have hxm : (x : Int) % 256 = x := by omega
    have hsz2 := HG2.out.g.size
    have HSx : Hid (Src (w2.alloc (.cells #[.int .u8 (x : Int)] 5 (0, 0))) (some ⟨w2.heap.size, 0, none⟩) 1 1 (encBs [UInt8.ofNat x])) := Lib.hid (by
     have e : encBs [UInt8.ofNat x] = [.int .u8 (x : Int)] := by
      have := u8_nat x
      rw [IntKind.wrap_u8, hxm] at this
      show [encB (UInt8.ofNat x)] = _
      rw [← this]
     rw [e]
     exact src_one_new w2 _ _)
    clear hg HO HG hx0 hx1
    go_wp2_with (at_builtin; refine wpList_app byteE rfl (.tmp 16) (.tmp 20) rfl rfl (OwnB.alloc HO2.out _) rfl HSx.out (encBs_one _) ?c1 ?c2 ?c3 ?_)
    case c1 => rw [Hz.out]; unfold maxLen; omega
    case c2 => rw [Hz.out]; omega
    case c3 => simp; omega
    intro v' w' hO hGr
    have HO4 : Hid (OwnB w' w.heap.size v' (L' ++ [UInt8.ofNat x])) := Lib.hid (by
     show w'.ownsRow _ _ _ _ _ _
     rw [List.length_append, encBs, List.map_append]
     exact hO)
    have HG4 := Lib.hid ((HG2.out.alloc (.cells #[.int .u8 (x : Int)] 5 (0, 0))).grew (OwnB.alloc HO2.out _) hGr hblt)
    clear hO hGr
    go_wp2_with fail
    go_ret
    exact ⟨_, _, rfl, HO4.out, by rw [List.length_append, Hz.out]; simp, HG4.out.mono (by omega)⟩
   ·obtain ⟨g, c, rfl, hg1, hg2, hc1, hc2⟩ := HO.out.slice1 (by omega)
    have hblg : b < g := by omega
    obtain ⟨nn, hnn⟩ : ∃ nn, L'.length = nn := ⟨_, rfl⟩
    rw [hnn] at hz hl' hc1
    have HLn := Lib.hid hnn
    have HO2 : Hid (OwnB wr w.heap.size (.slice (some ⟨g, 0, none⟩) nn c) L') := Lib.hid (by rw [← hnn]; exact HO.out)
    rw [hnn]
    clear hnn HO
    have hzi : ¬ ((nn : Int) = 0) := by omega
    go_wp2_with fail
    refine (next_gen b (m + 1 + 3 * k) _ _ HG.out.s (by omega) (by omega)).mono ?_
    rintro e w2 ⟨i0, rfl, ⟨hi0, hi1⟩, hgn⟩
    obtain ⟨i, rfl⟩ := Int.eq_ofNat_of_zero_le hi0
    have hin : i < nn := by omega
    have HO2' : Hid (OwnB w2 w.heap.size (.slice (some ⟨g, 0, none⟩) nn c) L') := Lib.hid (HO2.out.gen hgn hblt)
    have HG2 := Lib.hid (HG.out.trans hgn)
    clear hgn HO2 HG hi0 hi1
    go_wp2_with fail
    refine (next_gen b (m + 2 + 3 * k) _ _ (HG2.out.s.mono (by omega)) (by omega) (by omega)).mono ?_
    rintro e w3 ⟨q, rfl, ⟨hq0, hq1⟩, hgn⟩
    have HO3 : Hid (OwnB w3 w.heap.size (.slice (some ⟨g, 0, none⟩) nn c) L') := Lib.hid (HO2'.out.gen hgn hblt)
    have HG3 := Lib.hid (HG2.out.trans hgn)
    clear hgn HO2' HG2
    obtain rfl | rfl | rfl | rfl : q = 0 ∨ q = 1 ∨ q = 2 ∨ q = 3 := by omega
    ·go_upto_region 10 with fail
     refine Lm.wp_region_lim 7 0 (fun p vv nq ww => (List.getD ((.val (.slice (some ⟨g, 0, none⟩) nn c)) :: (.val (.int .i64 ((i : Nat) : Int))) :: (.val (subV (some ⟨g, 0, none⟩) c 0 i)) :: (.val (.slice (some ⟨g, 0, none⟩) nn c)) :: (.val (.int .i64 ((i : Nat) : Int))) :: (.val (.int .i64 (((i + 1) : Nat) : Int))) :: (.val (subV (some ⟨g, 0, none⟩) c (i + 1) nn)) :: [] : List Vd) p .any).R vv nq ww) (fun _ ww => ww = w3.drew) SS (fun _ => 0) (fun _ => 0)
      (by kernel_rfl) (by kernel_rfl) (by decide) (by kernel_rfl) (fun p vv nq ww n' w' h hs => Vd.keep _ h hs) rfl ?hXa
     case' hXa => (apply Exists.intro; refine ⟨fun T => ?hAa, ?hoba, ?henda⟩)
     case hAa =>
      simp only [setAll, List.take_succ_cons, List.take_zero, Act.put, List.setIfInBounds_toArray, List.set_cons_succ, List.set_cons_zero, Nat.reduceAdd]
      exact rfl
     case hoba =>
      refine ⟨?_, ?_, ?_, ?_, ?_, ?_, ?_, trivial⟩
      ·intro T wx nq hC hn hp
       have hC : wx = w3.drew := hC
       subst hC
       refine Op1.g fun _ Z => ?_; go_simp; exact Z _ _ ⟨rfl, rfl, sR⟩
      ·intro T wx nq hC hn hp
       have hC : wx = w3.drew := hC
       subst hC
       refine Op1.g fun _ Z => ?_; go_simp; exact Z _ _ ⟨rfl, rfl, sR⟩
      ·intro T wx nq hC hn hp
       have hC : wx = w3.drew := hC
       subst hC
       obtain ⟨(d0 : T 0 = .slice (some ⟨g, 0, none⟩) nn c), (d1 : T 1 = .int .i64 ((i : Nat) : Int)), -⟩ := hp
       exact Op1.slice_h (h := i) (.tmp 39) (.tmp 40) rfl d0 d1 (by omega) ⟨rfl, rfl, sR⟩
      ·intro T wx nq hC hn hp
       have hC : wx = w3.drew := hC
       subst hC
       refine Op1.g fun _ Z => ?_; go_simp; exact Z _ _ ⟨rfl, rfl, sR⟩
      ·intro T wx nq hC hn hp
       have hC : wx = w3.drew := hC
       subst hC
       refine Op1.g fun _ Z => ?_; go_simp; exact Z _ _ ⟨rfl, rfl, sR⟩
      ·intro T wx nq hC hn hp
       have hC : wx = w3.drew := hC
       subst hC
       obtain ⟨(d4 : T 4 = .int .i64 ((i : Nat) : Int)), -⟩ := hp
       refine Op1.g fun _ Z => ?_; go_simp
       first | exact Z _ _ ⟨rfl, rfl, sR⟩ | (refine Z _ _ ⟨congrArg (Value.int _) ?_, rfl, sR⟩; first | omega | (simp only [IntKind.wrap_i64]; omega))
      ·intro T wx nq hC hn hp
       have hC : wx = w3.drew := hC
       subst hC
       obtain ⟨(d3 : T 3 = .slice (some ⟨g, 0, none⟩) nn c), (d5 : T 5 = .int .i64 (((i + 1) : Nat) : Int)), -⟩ := hp
       exact Op1.slice_l (l := i + 1) (.tmp 42) (.tmp 44) rfl d3 d5 (by omega) ⟨rfl, rfl, sR⟩
     case henda =>
      intro T wx ⟨nq, hn, hC, hR⟩
      subst hC
      have r2 : T 2 = subV (some ⟨g, 0, none⟩) c 0 i := hR 2 (by omega)
      rw [r2]
      clear r2
      have r6 : T 6 = subV (some ⟨g, 0, none⟩) c (i + 1) nn := hR 6 (by omega)
      rw [r6]
      clear r6
      clear hR
      simp only [List.drop_succ_cons, List.drop_zero]
      have HOd := Lib.hid (OwnB.drew HO3.out)
      obtain ⟨ad', es, hsrc⟩ := OwnB.subSrc HOd.out HLn.out (i + 1) (by omega)
      have hcut : OwnB w3.drew w.heap.size (.slice (some ⟨g, 0, none⟩) (i) c) (L'.take (i)) := OwnB.cut (by rw [HLn.out]; exact HOd.out) (i) (by rw [HLn.out]; omega)
      have HCut := Lib.hid hcut
      have HSrc := Lib.hid hsrc
      rw [es, show subV (some ⟨g, 0, none⟩) c 0 (i) = .slice (some ⟨g, 0, none⟩) (i) c by unfold subV; rw [if_neg (by omega)]; simp [Addr.add]]
      have hlt1 : (L'.take (i)).length = i := by rw [List.length_take, HLn.out]; omega
      have HGd := Lib.hid (HG3.out.drew)
      clear hcut hsrc es HOd
      go_wp2_with (at_builtin; refine wpList_app byteE rfl (.tmp 41) (.tmp 45) rfl rfl HCut.out rfl HSrc.out (encBs_one _) ?c1 ?c2 ?c3 ?_)
      case c1 => rw [hlt1]; unfold maxLen; omega
      case c2 => rw [hlt1]; omega
      case c3 => have := HGd.out.g.size; omega
      intro v' w' hO hGr
      have HO4 : Hid (OwnB w' w.heap.size v' (L'.take (i) ++ L'.drop (i + 1))) := Lib.hid (by
       have e : (L'.take (i) ++ L'.drop (i + 1)).length = (L'.take (i)).length + (nn - (i + 1)) := by rw [List.length_append, List.length_drop, HLn.out]
       show w'.ownsRow _ _ _ _ _ _
       rw [e, hlt1, encBs, List.map_append]
       exact hO)
      have HG4 := Lib.hid (HGd.out.grew HCut.out hGr hblt)
      have hl4 : (L'.take (i) ++ L'.drop (i + 1)).length ≤ n + k + 1 := by rw [List.length_append, List.length_drop, hlt1, HLn.out]; omega
      clear hO hGr
      go_wp2_with fail
      refine ⟨⟨k + 1, L'.take (i) ++ L'.drop (i + 1), by omega, by go_num, HO4, by omega, Lib.hid (HG4.out.mono (by omega))⟩, by simp [intOf]; omega⟩
    ·go_upto_region 12 with fail
     refine Lm.wp_region_lim 7 0 (fun p vv nq ww => (List.getD ((.val (.slice (some ⟨g, 0, none⟩) nn c)) :: (.val (.int .i64 ((i : Nat) : Int))) :: (.val (.int .i64 (((i + 1) : Nat) : Int))) :: (.val (subV (some ⟨g, 0, none⟩) c 0 (i + 1))) :: (.val (.slice (some ⟨g, 0, none⟩) nn c)) :: (.val (.int .i64 ((i : Nat) : Int))) :: (.val (subV (some ⟨g, 0, none⟩) c i nn)) :: [] : List Vd) p .any).R vv nq ww) (fun _ ww => ww = w3.drew) SS (fun _ => 0) (fun _ => 0)
      (by kernel_rfl) (by kernel_rfl) (by decide) (by kernel_rfl) (fun p vv nq ww n' w' h hs => Vd.keep _ h hs) rfl ?hXb
     case' hXb => (apply Exists.intro; refine ⟨fun T => ?hAb, ?hobb, ?hendb⟩)
     case hAb =>
      simp only [setAll, List.take_succ_cons, List.take_zero, Act.put, List.setIfInBounds_toArray, List.set_cons_succ, List.set_cons_zero, Nat.reduceAdd]
      exact rfl
     case hobb =>
      refine ⟨?_, ?_, ?_, ?_, ?_, ?_, ?_, trivial⟩
      ·intro T wx nq hC hn hp
       have hC : wx = w3.drew := hC
       subst hC
       refine Op1.g fun _ Z => ?_; go_simp; exact Z _ _ ⟨rfl, rfl, sR⟩
      ·intro T wx nq hC hn hp
       have hC : wx = w3.drew := hC
       subst hC
       refine Op1.g fun _ Z => ?_; go_simp; exact Z _ _ ⟨rfl, rfl, sR⟩
      ·intro T wx nq hC hn hp
       have hC : wx = w3.drew := hC
       subst hC
       obtain ⟨(d1 : T 1 = .int .i64 ((i : Nat) : Int)), -⟩ := hp
       refine Op1.g fun _ Z => ?_; go_simp
       first | exact Z _ _ ⟨rfl, rfl, sR⟩ | (refine Z _ _ ⟨congrArg (Value.int _) ?_, rfl, sR⟩; first | omega | (simp only [IntKind.wrap_i64]; omega))
      ·intro T wx nq hC hn hp
       have hC : wx = w3.drew := hC
       subst hC
       obtain ⟨(d0 : T 0 = .slice (some ⟨g, 0, none⟩) nn c), (d2 : T 2 = .int .i64 (((i + 1) : Nat) : Int)), -⟩ := hp
       exact Op1.slice_h (h := i + 1) (.tmp 49) (.tmp 51) rfl d0 d2 (by omega) ⟨rfl, rfl, sR⟩
      ·intro T wx nq hC hn hp
       have hC : wx = w3.drew := hC
       subst hC
       refine Op1.g fun _ Z => ?_; go_simp; exact Z _ _ ⟨rfl, rfl, sR⟩
      ·intro T wx nq hC hn hp
       have hC : wx = w3.drew := hC
       subst hC
       refine Op1.g fun _ Z => ?_; go_simp; exact Z _ _ ⟨rfl, rfl, sR⟩
      ·intro T wx nq hC hn hp
       have hC : wx = w3.drew := hC
       subst hC
       obtain ⟨(d4 : T 4 = .slice (some ⟨g, 0, none⟩) nn c), (d5 : T 5 = .int .i64 ((i : Nat) : Int)), -⟩ := hp
       exact Op1.slice_l (l := i) (.tmp 53) (.tmp 54) rfl d4 d5 (by omega) ⟨rfl, rfl, sR⟩
     case hendb =>
      intro T wx ⟨nq, hn, hC, hR⟩
      subst hC
      have r3 : T 3 = subV (some ⟨g, 0, none⟩) c 0 (i + 1) := hR 3 (by omega)
      rw [r3]
      clear r3
      have r6 : T 6 = subV (some ⟨g, 0, none⟩) c i nn := hR 6 (by omega)
      rw [r6]
      clear r6
      clear hR
      simp only [List.drop_succ_cons, List.drop_zero]
      have HOd := Lib.hid (OwnB.drew HO3.out)
      obtain ⟨ad', es, hsrc⟩ := OwnB.subSrc HOd.out HLn.out (i) (by omega)
      have hcut : OwnB w3.drew w.heap.size (.slice (some ⟨g, 0, none⟩) (i + 1) c) (L'.take (i + 1)) := OwnB.cut (by rw [HLn.out]; exact HOd.out) (i + 1) (by rw [HLn.out]; omega)
      have HCut := Lib.hid hcut
      have HSrc := Lib.hid hsrc
      rw [es, show subV (some ⟨g, 0, none⟩) c 0 (i + 1) = .slice (some ⟨g, 0, none⟩) (i + 1) c by unfold subV; rw [if_neg (by omega)]; simp [Addr.add]]
      have hlt1 : (L'.take (i + 1)).length = i + 1 := by rw [List.length_take, HLn.out]; omega
      have HGd := Lib.hid (HG3.out.drew)
      clear hcut hsrc es HOd
      go_wp2_with (at_builtin; refine wpList_app byteE rfl (.tmp 52) (.tmp 55) rfl rfl HCut.out rfl HSrc.out (encBs_one _) ?c1 ?c2 ?c3 ?_)
      case c1 => rw [hlt1]; unfold maxLen; omega
      case c2 => rw [hlt1]; omega
      case c3 => have := HGd.out.g.size; omega
      intro v' w' hO hGr
      have HO4 : Hid (OwnB w' w.heap.size v' (L'.take (i + 1) ++ L'.drop (i))) := Lib.hid (by
       have e : (L'.take (i + 1) ++ L'.drop (i)).length = (L'.take (i + 1)).length + (nn - (i)) := by rw [List.length_append, List.length_drop, HLn.out]
       show w'.ownsRow _ _ _ _ _ _
       rw [e, hlt1, encBs, List.map_append]
       exact hO)
      have HG4 := Lib.hid (HGd.out.grew HCut.out hGr hblt)
      have hl4 : (L'.take (i + 1) ++ L'.drop (i)).length ≤ n + k + 1 := by rw [List.length_append, List.length_drop, hlt1, HLn.out]; omega
      clear hO hGr
      go_wp2_with fail
      refine ⟨⟨k + 1, L'.take (i + 1) ++ L'.drop (i), by omega, by go_num, HO4, by omega, Lib.hid (HG4.out.mono (by omega))⟩, by simp [intOf]; omega⟩
    ·have hcut : OwnB w3 w.heap.size (.slice (some ⟨g, 0, none⟩) i c) (L'.take i) := OwnB.cut (by rw [HLn.out]; exact HO3.out) i (by rw [HLn.out]; omega)
     have HCut := Lib.hid hcut
     have hic : (i : Int) ≤ (c : Int) := by omega
     have hc0 : ¬ (c = 0) := by omega
     clear hcut
     go_wp2_with fail
     refine ⟨⟨k + 1, L'.take i, by omega, by go_num, HCut, by rw [List.length_take]; omega, Lib.hid (HG3.out.mono (by omega))⟩, by simp [intOf]; omega⟩
    ·go_upto_region 8 with fail
     refine Lm.wp_region_lim 8 1 (fun p vv nq ww => rr8 g c nn i b L' p vv) (fun nq ww => Gen b w ww (m + 3 + 3 * k + nq) ∧ OwnB ww w.heap.size (.slice (some ⟨g, 0, none⟩) nn c) L') (fun _ _ _ _ => True) (fun q => if q = 5 then 1 else 0) (fun q => if q = 4 ∨ q = 5 then 0 else 1)
      (by kernel_rfl) (by kernel_rfl) (by decide) (by kernel_rfl) (fun p vv nq ww n' w' h hs => h) ⟨(HG3.out.drew).mono (by omega), OwnB.drew HO3.out⟩ ?hX8
     case' hX8 => (apply Exists.intro; refine ⟨fun T => ?hA8, ?hob8, ?hend8⟩)
     case hA8 =>
      simp only [setAll, List.take_succ_cons, List.take_zero, Act.put, List.setIfInBounds_toArray, List.set_cons_succ, List.set_cons_zero, Nat.reduceAdd]
      exact rfl
     case hob8 =>
      refine ⟨?_, ?_, ?_, ?_, ?_, ?_, ?_, ?_, trivial⟩
      ·intro T wx nq hC hn hp
       refine Op1.g fun _ Z => ?_; go_simp; exact Z _ _ ⟨rfl, hC, trivial⟩
      ·intro T wx nq hC hn hp
       refine Op1.g fun _ Z => ?_; go_simp; exact Z _ _ ⟨rfl, hC, trivial⟩
      ·intro T wx nq hC hn hp
       obtain ⟨e0, e1, -⟩ := hp
       have d0 : T 0 = .slice (some ⟨g, 0, none⟩) nn c := e0
       have d1 : T 1 = .int .i64 ((i : Nat) : Int) := e1
       refine Op1.indexB (k := i) (.tmp 28) (.tmp 29) rfl d0 d1 (by omega) ?_
       have hz0 : 0 + i = i := Nat.zero_add i
       rw [hz0]
       exact ⟨rfl, hC, trivial⟩
      ·intro T wx nq hC hn hp
       obtain ⟨e0, -⟩ := hp
       have d2 : T 2 = .pointer (some ⟨g, i, none⟩) := e0
       have cb : wx.cell? ⟨g, i, none⟩ = some (.int .u8 (((ub L' i).toNat : Nat) : Int)) := by
        have h9 := hC.2
        rw [show nn = L'.length from HLn.out.symm] at h9
        exact OwnB.get h9 i (by rw [HLn.out]; exact hin)
       clear e0
       refine Op1.g fun _ Z => ?_; go_simp; exact Z _ _ ⟨rfl, hC, trivial⟩
      ·intro T wx nq hC hn hp
       refine Op1.g fun _ Z => ?_; go_simp; exact Z _ _ ⟨rfl, hC, trivial⟩
      ·intro T wx nq hC hn hp
       obtain ⟨e0, -⟩ := hp
       have d4 : T 4 = .pointer (some ⟨b, 0, none⟩) := e0
       have hn0 : nq ≤ 0 := hn
       obtain rfl : nq = 0 := by omega
       clear e0
       refine Op1.g fun _ Z => ?_; go_simp
       refine (next_gen b (m + 3 + 3 * k + 0) _ _ hC.1.s (by omega) (by omega)).mono ?_
       rintro e w' ⟨x, rfl, ⟨hx0, hx1⟩, hg⟩
       exact ⟨_, rfl, Z _ _ ⟨⟨x, rfl, by omega, by omega⟩, ⟨hC.1.trans hg, hC.2.gen hg hblt⟩, trivial⟩⟩
      ·intro T wx nq hC hn hp
       obtain ⟨e0, -⟩ := hp
       obtain ⟨x, d5, hx0, hx1⟩ : ∃ x : Int, T 5 = .int .i64 x ∧ 0 ≤ x ∧ x < 8 := e0
       obtain rfl | rfl | rfl | rfl | rfl | rfl | rfl | rfl : x = 0 ∨ x = 1 ∨ x = 2 ∨ x = 3 ∨ x = 4 ∨ x = 5 ∨ x = 6 ∨ x = 7 := by omega
       all_goals (refine Op1.g fun _ Z => ?_; go_simp; exact Z _ _ ⟨⟨_, rfl⟩, hC, trivial⟩)
      ·intro T wx nq hC hn hp
       obtain ⟨e0, e1, -⟩ := hp
       have d3 : T 3 = .int .u8 (((ub L' i).toNat : Nat) : Int) := e0
       obtain ⟨y, d6⟩ : ∃ y : Int, T 6 = .int .u8 y := e1
       clear e0
       refine Op1.g fun _ Z => ?_; go_simp; exact Z _ _ ⟨xor_u8 _ _, hC, trivial⟩
     case hend8 =>
      intro T wx ⟨nq, hn, hC, hR⟩
      have r0 : T 0 = .slice (some ⟨g, 0, none⟩) nn c := hR 0 (by omega)
      have r1 : T 1 = .int .i64 ((i : Nat) : Int) := hR 1 (by omega)
      obtain ⟨y, r7⟩ : ∃ y : UInt8, T 7 = encB y := hR 7 (by omega)
      rw [r0, r1, r7]
      have HOx := Lib.hid hC.2
      have HGx := Lib.hid (hC.1.mono (show _ ≤ m + 1 + 3 * (k + 1) by omega))
      clear hR hC r0 r1 r7
      have hf := HOx.out.frozen i
      obtain ⟨y0, hcy⟩ : ∃ y, wx.cell? ⟨g, i, none⟩ = some (encB y) := ⟨_, by
        have h9 := HOx.out
        rw [show nn = L'.length from HLn.out.symm] at h9
        exact OwnB.get h9 i (by rw [HLn.out]; exact hin)⟩
      have HOs : Hid (OwnB (wx.setCell ⟨g, i, none⟩ (encB y)) w.heap.size (.slice (some ⟨g, 0, none⟩) nn c) (L'.set i y)) := Lib.hid (by
        have h9 := HOx.out
        rw [show nn = L'.length from HLn.out.symm] at h9 ⊢
        exact OwnB.set h9 i (by rw [HLn.out]; exact hin) y)
      have HGs := Lib.hid (HGx.out.setCell ⟨g, i, none⟩ (encB y) hg1 hblg)
      simp only [List.drop_succ_cons, List.drop_zero]
      unfold encB at hcy HOs HGs ⊢
      go_wp2_with fail
      refine ⟨⟨k + 1, L'.set i y, by omega, by go_num, HOs, by rw [List.length_set, HLn.out]; omega, HGs⟩, by simp [intOf]; omega⟩
  ·obtain rfl : k = K := by omega
   go_wp2_with fail
   go_ret
   exact ⟨_, _, rfl, HO.out, by have := Hn.out; omega, HG.out.mono (by omega)⟩
end Go.Proofs.Ytakjopbdkkcnlaa

namespace Go.Proofs.Ytakjopbdkkcnlaa.Ph
open Go Go.Proofs.Ytakjopbdkkcnlaa

section
variable {P : Program} {ops : Array Oper} {Q : Exit → Act → World → Prop} {N total : Nat} {a0 : Act}
variable {R : Nat → Value → Nat → World → Prop} {C : Nat → World → Prop} {S : Nat → World → Nat → World → Prop} {cost : Nat → Nat}

/-- What is asked of operation i. -/
def Ob (P : Program) (ops : Array Oper) (a0 : Act) (R : Nat → Value → Nat → World → Prop) (C : Nat → World → Prop) (S : Nat → World → Nat → World → Prop) (cost : Nat → Nat) (total N : Nat) (i : Nat) (o : Oper) : Prop :=
 ∀ (T : Nat → Value) (w : World) (n : Nat), C n w → n + cost i ≤ total → (∀ p, p < ops.size → bef ops i p = true → R p (T p) n w) →
  if Region.wanted o (yielded ops (setAll (ops.toList.take N) 0 T a0).tmps) then
   Op1 P o (setAll (ops.toList.take N) 0 T a0).eval w fun v w' => R i v (n + cost i) w' ∧ C (n + cost i) w' ∧ S n w (n + cost i) w'
  else R i undef (n + cost i) w ∧ C (n + cost i) w ∧ S n w (n + cost i) w

theorem region_any (hB : InvB ops N a0.tmps.size) (hS : ∀ p v n w n' w', R p v n w → S n w n' w' → R p v n' w')
  (htot : sumCost cost (Array.replicate ops.size true) ops.size ≤ total)
  (hob : ∀ (i : Nat) (o : Oper), ops[i]? = some o → i < N → Ob P ops a0 R C S cost total N i o)
  (hend : ∀ T w, (∃ n, n ≤ total ∧ C n w ∧ ∀ p, p < N → R p (T p) n w) → wpList P ops Q (ops.toList.drop N) (setAll (ops.toList.take N) 0 T a0) w) :
  ∀ (fuel : Nat) (listed : Array Bool) (a : Act) (w : World), listed.size = ops.size → fuel + cnt listed ops.size = ops.size →
   (∀ j, j < ops.size → listed.getD j false = true → ∀ p, p < ops.size → bef ops j p = true → listed.getD p false = true) →
   ((∃ T, (∀ j, N ≤ j → listed.getD j false = false) ∧ Fits ops a0 listed T a ∧ C (sumCost cost listed ops.size) w ∧ ∀ j, j < ops.size → listed.getD j false = true → R j (T j) (sumCost cost listed ops.size) w) ∨
    (∃ k, N ≤ k ∧ k ≤ ops.size ∧ (∀ j, j < ops.size → (listed.getD j false = true ↔ j < k)) ∧ wpList P ops Q (ops.toList.drop k) a w)) →
   wpAny P .any ops Q fuel listed a w := by
 -- the whole head is there: the two frames are one
 have whole : ∀ (listed : Array Bool) (T : Nat → Value) (a : Act), (∀ j, N ≤ j → listed.getD j false = false) → (∀ j, j < N → listed.getD j false = true) → Fits ops a0 listed T a → a = setAll (ops.toList.take N) 0 T a0 := by
  intro listed T a ht hh hF
  have h1 : a.defers = (setAll (ops.toList.take N) 0 T a0).defers := by rw [setAll_defers, hF.defers]
  have h2 : a.tmps = (setAll (ops.toList.take N) 0 T a0).tmps := by
   refine Array.ext_getElem? fun t => ?_
   rcases Nat.lt_or_ge t a0.tmps.size with hts | hts
   ·rw [setAll_get T t _ 0 a0 hts]
    cases hw : lastW t (ops.toList.take N) 0 with
    | some j =>
     obtain ⟨_, o', ho', hd⟩ := lastW_some _ _ hw
     simp only [Nat.sub_zero, List.getElem?_take] at ho'
     split at ho'
     ·rename_i hjN
      exact hF.set j o' t (by simpa using ho') (hh j hjN) hd
     ·cases ho'
    | none =>
     refine hF.rest t fun j o' hj hlj hd => ?_
     have hjN : j < N := by
      rcases Nat.lt_or_ge j N with h | h
      ·exact h
      ·rw [ht j h] at hlj; cases hlj
     exact lastW_none _ _ hw j o' (by rw [List.getElem?_take, if_pos hjN]; simpa using hj) hd
   ·rw [Array.getElem?_eq_none (by rw [hF.size]; exact hts), Array.getElem?_eq_none (by rw [setAll_size]; exact hts)]
  cases a; cases hb : setAll (ops.toList.take N) 0 T a0; simp_all
 -- nothing ready: all is listed
 have allListed : ∀ (listed : Array Bool), listed.size = ops.size → Region.ready .any ops listed = [] → ∀ j, j < ops.size → listed.getD j false = true := by
  intro listed hsz hr j
  induction j using Nat.strongRecOn with
  | _ j ih =>
   intro hj
   cases hlj : listed.getD j false with
   | true => rfl
   | false =>
    exfalso
    obtain ⟨o, ho⟩ : ∃ o, ops[j]? = some o := ⟨ops[j], Array.getElem?_eq_getElem hj⟩
    have : j ∈ Region.ready .any ops listed := mem_ready.2 ⟨by simpa [Array.getD, hsz, hj] using hlj, o, ho, fun e he hb => ih e.on (hB.back j o e ho he hb) (by have := hB.back j o e ho he hb; omega)⟩
    rw [hr] at this; cases this
 -- the end
 have fin : ∀ (listed : Array Bool) (a : Act) (w : World), (∀ j, j < ops.size → listed.getD j false = true) →
   ((∃ T, (∀ j, N ≤ j → listed.getD j false = false) ∧ Fits ops a0 listed T a ∧ C (sumCost cost listed ops.size) w ∧ ∀ j, j < ops.size → listed.getD j false = true → R j (T j) (sumCost cost listed ops.size) w) ∨
    (∃ k, N ≤ k ∧ k ≤ ops.size ∧ (∀ j, j < ops.size → (listed.getD j false = true ↔ j < k)) ∧ wpList P ops Q (ops.toList.drop k) a w)) → Q .normal a w := by
  intro listed a w hall h
  rcases h with ⟨T, ht, hF, hC, hR⟩ | ⟨k, hk1, hk2, hk3, hk4⟩
  ·have hN : N = ops.size := by
    rcases Nat.lt_or_ge N ops.size with h | h
    ·have h1 := ht N (Nat.le_refl _)
     rw [hall N h] at h1; cases h1
    ·have := hB.le; omega
   have ha := whole listed T a ht (fun j hj => hall j (by omega)) hF
   have := hend T w ⟨_, Nat.le_trans (sumCost_le _) htot, hC, fun p hp => hR p (by omega) (hall p (by omega))⟩
   rw [← ha, List.drop_eq_nil_of_le (by simp; omega)] at this
   exact this
  ·have : k = ops.size := by
    rcases Nat.lt_or_ge k ops.size with h | h
    ·have := (hk3 k h).1 (hall k h); omega
    ·omega
   rw [List.drop_eq_nil_of_le (by simp; omega)] at hk4
   exact hk4
 intro fuel
 induction fuel with
 | zero =>
  intro listed a w hsz hf hd h
  have hall := cnt_full ops.size (by omega : cnt listed ops.size = ops.size)
  refine ⟨?_, fin listed a w hall h⟩
  refine List.eq_nil_iff_forall_not_mem.2 fun i hi => ?_
  obtain ⟨h1, o, ho, _⟩ := mem_ready.1 hi
  have := hall i (Array.getElem?_eq_some_iff.1 ho).1
  rw [(getD_false h1).2] at this; cases this
 | succ fuel ih =>
  intro listed a w hsz hf hd h
  refine ⟨fun hr => fin listed a w (allListed listed hsz hr) h, fun i hi => ?_⟩
  obtain ⟨h1, o, ho, hafter⟩ := mem_ready.1 hi
  have hilt : i < ops.size := (Array.getElem?_eq_some_iff.1 ho).1
  have hset : ∀ j, (listed.setIfInBounds i true).getD j false = true ↔ (j = i ∨ listed.getD j false = true) := fun j => by
   by_cases hj : i = j
   ·subst hj; simp [Array.getD, hsz, hilt]
   ·rw [getD_set_ne false hj]; simp [Ne.symm hj]
  have hbef : ∀ p, p < ops.size → bef ops i p = true → listed.getD p false = true := fun p hp hb => by
   obtain ⟨e, he, hbi, hor⟩ := hB.clos i p o ho hp hb
   have h2 := hafter e he hbi
   rcases hor with rfl | hor
   ·exact h2
   ·exact hd e.on (by have := hB.back i o e ho he hbi; omega) h2 p hp hor
  have hsz' : (listed.setIfInBounds i true).size = ops.size := by simpa using hsz
  have hf' : fuel + cnt (listed.setIfInBounds i true) ops.size = ops.size := by
   have := sumCost_set (cost := fun _ => 1) h1 ops.size
   simp only [cnt, hilt, if_true] at this hf ⊢
   omega
  have hd' : ∀ j, j < ops.size → (listed.setIfInBounds i true).getD j false = true → ∀ p, p < ops.size → bef ops j p = true → (listed.setIfInBounds i true).getD p false = true := by
   intro j hj hl p hp hb
   rcases (hset j).1 hl with rfl | hl'
   ·exact (hset p).2 (.inr (hbef p hp hb))
   ·exact (hset p).2 (.inr (hd j hj hl' p hp hb))
  rcases h with ⟨T, ht, hF, hC, hR⟩ | ⟨k, hk1, hk2, hk3, hk4⟩
  ·rcases Nat.lt_or_ge i N with hiN | hiN
   ·-- a step of the head
    have hpN : ∀ p, bef ops i p = true → p < ops.size → listed.getD p false = true ∧ p < N := fun p hb hp => by
     have := hbef p hp hb
     refine ⟨this, ?_⟩
     rcases Nat.lt_or_ge p N with h | h
     ·exact h
     ·rw [ht p h] at this; cases this
    have hag := hF.agree hB ht ho hpN
    have hsum := sumCost_set (cost := cost) h1 ops.size
    simp only [hilt, if_true] at hsum
    have hlim : sumCost cost listed ops.size + cost i ≤ total := by rw [← hsum]; exact Nat.le_trans (sumCost_le _) htot
    have hO := hob i o ho hiN T w _ hC hlim fun p hp hb => hR p hp (hbef p hp hb)
    have next : ∀ v w', R i v (sumCost cost listed ops.size + cost i) w' ∧ C (sumCost cost listed ops.size + cost i) w' ∧ S (sumCost cost listed ops.size) w (sumCost cost listed ops.size + cost i) w' → wpAny P .any ops Q fuel (listed.setIfInBounds i true) (a.put o.dst v) w' := fun v w' ⟨q1, q2, q3⟩ =>
     ih _ _ _ hsz' hf' hd' (.inl ⟨fun j => if j = i then v else T j, fun j hj => by
       rw [getD_set_ne false (by omega)]; exact ht j hj, hF.put hB ho h1 v, by rw [hsum]; exact q2, fun j hj hl => by
       by_cases hji : j = i
       ·subst hji; rw [hsum]; simpa using q1
       ·simp only [hji, if_false]
        rw [hsum]; exact hS j _ _ _ _ _ (hR j hj (((hset j).1 hl).resolve_left hji)) q3⟩)
    unfold wpOp
    simp only [ho]
    rw [wanted_of_get (a := a) (b := setAll (ops.toList.take N) 0 T a0) o hag]
    split
    ·rename_i hw
     rw [if_pos hw] at hO
     refine .inl (Op1.wp (post := fun v w' => R i v (sumCost cost listed ops.size + cost i) w' ∧ C (sumCost cost listed ops.size + cost i) w' ∧ S (sumCost cost listed ops.size) w (sumCost cost listed ops.size + cost i) w') ?_ next)
     unfold Op1 at hO ⊢
     rw [execOp_congr o (Region.noSelect_spec hB.sel i o · · ho) (eval_of_get o hag)]
     exact hO
    ·rename_i hw
     rw [if_neg hw] at hO
     exact next undef w hO
   ·-- the tail begins
    have hall : ∀ j, j < i → listed.getD j false = true := fun j hj => hbef j (by omega) (hB.tail i j hiN hilt hj)
    have hiN' : i = N := by
     rcases Nat.lt_or_ge N i with h | h
     ·have h2 := ht N (Nat.le_refl _)
      rw [hall N h] at h2; cases h2
     ·omega
    subst hiN'
    have ha := whole listed T a ht hall hF
    have hw := hend T w ⟨_, Nat.le_trans (sumCost_le _) htot, hC, fun p hp => hR p (by omega) (hall p hp)⟩
    rw [← ha] at hw
    have hdr : ops.toList.drop i = o :: ops.toList.drop (i + 1) := by
     rw [List.drop_eq_getElem_cons (by simpa using hilt)]
     congr 1
     have := (Array.getElem?_eq_some_iff.1 ho).2
     simpa using this
    rw [hdr] at hw
    have hwop : wpOp P ops Q i (wpList P ops Q (ops.toList.drop (i + 1))) a w := by unfold wpOp; simp only [ho]; exact hw
    refine wpOp_mono (fun a' w' h' => ih _ _ _ hsz' hf' hd' (.inr ⟨i + 1, by omega, by omega, fun j hj => ?_, h'⟩)) hwop
    rw [hset j]
    constructor
    ·rintro (rfl | hl)
     ·omega
     ·rcases Nat.lt_or_ge j i with h | h
      ·omega
      ·rw [ht j h] at hl; cases hl
    ·intro hj'
     by_cases hji : j = i
     ·exact .inl hji
     ·exact .inr (hall j (by omega))
  ·-- a step of the tail
   have hik : i = k := by
    have hnl := (getD_false h1).2
    have h2 : ¬ i < k := fun hlt => by rw [(hk3 i hilt).2 hlt] at hnl; cases hnl
    rcases Nat.lt_or_ge k i with h | h
    ·have h3 := hbef k (by omega) (hB.tail i k (by omega) hilt h)
     have := (hk3 k (by omega)).1 h3; omega
    ·omega
   subst hik
   have hdr : ops.toList.drop i = o :: ops.toList.drop (i + 1) := by
    rw [List.drop_eq_getElem_cons (by simpa using hilt)]
    congr 1
    have := (Array.getElem?_eq_some_iff.1 ho).2
    simpa using this
   rw [hdr] at hk4
   have hwop : wpOp P ops Q i (wpList P ops Q (ops.toList.drop (i + 1))) a w := by unfold wpOp; simp only [ho]; exact hk4
   refine wpOp_mono (fun a' w' h' => ih _ _ _ hsz' hf' hd' (.inr ⟨i + 1, by omega, by omega, fun j hj => ?_, h'⟩)) hwop
   rw [hset j, hk3 j hj]
   omega

/-- what the forerunners have left -/
def AfterAll (R : Nat → Value → Nat → World → Prop) (T : Nat → Value) (n : Nat) (w : World) : List Edge → Prop
 | [] => True
 | e :: l => match Region.binds .any e with
  | true => R e.on (T e.on) n w ∧ AfterAll R T n w l
  | false => AfterAll R T n w l

theorem afterAll_of {R : Nat → Value → Nat → World → Prop} {T : Nat → Value} {n : Nat} {w : World} : ∀ (l : List Edge), (∀ e ∈ l, Region.binds .any e = true → R e.on (T e.on) n w) → AfterAll R T n w l
 | [], _ => trivial
 | e :: l, h => by
  have ih := afterAll_of l fun e' he' => h e' (List.mem_cons_of_mem _ he')
  unfold AfterAll
  cases hb : Region.binds .any e with
  | true => exact ⟨h e (List.mem_cons_self ..) hb, ih⟩
  | false => exact ih

/-- what is asked of operation i, put plainly -/
def Ob' (P : Program) (A : (Nat → Value) → Act) (R : Nat → Value → Nat → World → Prop) (C : Nat → World → Prop) (S : Nat → World → Nat → World → Prop) (cost : Nat → Nat) (total : Nat) (i : Nat) (o : Oper) : Prop :=
 ∀ (T : Nat → Value) (w : World) (n : Nat), C n w → n + cost i ≤ total → AfterAll R T n w o.after.toList →
  match o.guard with
  | none => Op1 P o (A T).eval w fun v w' => R i v (n + cost i) w' ∧ C (n + cost i) w' ∧ S n w (n + cost i) w'
  | some (g, want) => (T g = .bool want → Op1 P o (A T).eval w fun v w' => R i v (n + cost i) w' ∧ C (n + cost i) w' ∧ S n w (n + cost i) w') ∧
    (T g ≠ .bool want → R i undef (n + cost i) w ∧ C (n + cost i) w ∧ S n w (n + cost i) w)

/-- what is asked of each operation of the head -/
def ObAll (P : Program) (A : (Nat → Value) → Act) (R : Nat → Value → Nat → World → Prop) (C : Nat → World → Prop) (S : Nat → World → Nat → World → Prop) (cost : Nat → Nat) (total : Nat) : List Oper → Nat → Prop
 | [], _ => True
 | o :: l, k => Ob' P A R C S cost total k o ∧ ObAll P A R C S cost total l (k + 1)

theorem ObAll.get {A : (Nat → Value) → Act} : ∀ (l : List Oper) (k : Nat), ObAll P A R C S cost total l k → ∀ (i : Nat) (o : Oper), l[i]? = some o → Ob' P A R C S cost total (k + i) o
 | [], _, _, i, o, ho => by simp at ho
 | o' :: l, k, h, i, o, ho => by
  cases i with
  | zero => simp at ho; subst ho; exact h.1
  | succ i =>
   have := ObAll.get l (k + 1) h.2 i o (by simpa using ho)
   rwa [show k + (i + 1) = k + 1 + i by omega]

theorem ob_of {A : (Nat → Value) → Act} (hB : InvB ops N a0.tmps.size) (hE : edgeB ops = true) {i : Nat} {o : Oper} (ho : ops[i]? = some o) (hi : i < N) (hA : ∀ T, setAll (ops.toList.take N) 0 T a0 = A T) (h : Ob' P A R C S cost total i o) : Ob P ops a0 R C S cost total N i o := by
 intro T w n hC hn hp
 have hlt := (Array.getElem?_eq_some_iff.1 ho).1
 have hE' := hE
 simp only [edgeB, List.all_eq_true, List.mem_range] at hE'
 have hEi := hE' i hlt
 simp only [ho, Bool.and_eq_true] at hEi
 obtain ⟨he1, he2⟩ := hEi
 rw [Array.all_eq_true_iff_forall_mem] at he1
 have hAft : AfterAll R T n w o.after.toList := afterAll_of _ fun e he hb => by
  have hm : e ∈ o.after := by simpa using he
  have h1 := he1 e hm
  simp only [hb, Bool.not_true, Bool.false_or] at h1
  exact hp e.on (by have := hB.back i o e ho hm hb; omega) h1
 have h0 := h T w n hC hn hAft
 unfold Region.wanted
 cases hg : o.guard with
 | none =>
  simp only [hg] at h0
  rw [hA T]
  exact h0
 | some gw =>
  obtain ⟨g, want⟩ := gw
  simp only [hg] at h0 he2
  obtain ⟨hbg, hgs⟩ := hB.guard i o g want ho hg
  obtain ⟨og, hog⟩ : ∃ og, ops[g]? = some og := ⟨ops[g], Array.getElem?_eq_getElem hgs⟩
  simp only [hog, Option.bind_some] at he2
  obtain ⟨d, hd⟩ := Option.isSome_iff_exists.1 he2
  have hgi : g < i := by
   have : ∀ k, ∀ (i : Nat) (o : Oper), i < k → ops[i]? = some o → ∀ p, p < ops.size → bef ops i p = true → p < i := by
    intro k
    induction k with
    | zero => intro i o hk; omega
    | succ k ih =>
     intro i o hk hio p hps hb
     obtain ⟨e, he, hbi, hor⟩ := hB.clos i p o hio hps hb
     have h5 := hB.back i o e hio he hbi
     rcases hor with rfl | hor
     ·exact h5
     ·obtain ⟨o', ho'⟩ : ∃ o', ops[e.on]? = some o' := ⟨ops[e.on]'(by have := (Array.getElem?_eq_some_iff.1 hio).1; omega), Array.getElem?_eq_getElem _⟩
      have := ih e.on o' (by omega) ho' p hps hor
      omega
   exact this (i + 1) i o (by omega) ho g hgs hbg
  have hts : d < a0.tmps.size := hB.size g og d hog hd
  have hget : (setAll (ops.toList.take N) 0 T a0).tmps[d]? = some (T g) := by
   rw [setAll_get T d _ 0 a0 hts]
   cases hw : lastW d (ops.toList.take N) 0 with
   | some j =>
    obtain ⟨_, o', ho', hd'⟩ := lastW_some _ _ hw
    simp only [Nat.sub_zero, List.getElem?_take] at ho'
    split at ho'
    ·have hj : ops[j]? = some o' := by simpa using ho'
     have := hB.uniq j g o' og d hj hog hd' hd
     simp [this]
    ·cases ho'
   | none =>
    exfalso
    exact lastW_none _ _ hw g og (by rw [List.getElem?_take, if_pos (by omega)]; simpa using hog) hd
  have hy : yielded ops (setAll (ops.toList.take N) 0 T a0).tmps g = match T g with | .bool b => some b | _ => none := by
   unfold yielded
   simp only [hog, Option.bind_some, hd, hget]
   cases T g <;> rfl
  simp only [hy]
  by_cases hT : T g = .bool want
  ·simp only [hT]
   simp only [beq_self_eq_true, if_true]
   rw [hA T]
   exact h0.1 hT
  ·have hf : ((match T g with | .bool b => some b | _ => none) == some want) = false := by
    cases hv : T g <;> simp
    intro e
    exact hT (by rw [hv, e])
   simp only [hf]
   exact h0.2 hT
end

/-- A REGION THAT DRAWS ITS ORDER, BY AN INVARIANT. N: the operations of the head; the others wait for all before them. -/
theorem wp_region_ph {P : Program} {Q : Exit → Act → World → Prop} {id : Nat} {l : List Oper} {a0 : Act} {w : World} (N total : Nat) (R : Nat → Value → Nat → World → Prop) (C : Nat → World → Prop) (S : Nat → World → Nat → World → Prop) (cost : Nat → Nat)
  (hm : P.follows .mixedOrders = true) (hB : (invB l.toArray N a0.tmps.size && edgeB l.toArray) = true) (htot : sumCost cost (Array.replicate l.toArray.size true) l.toArray.size ≤ total)
  (hS : ∀ p v n w n' w', R p v n w → S n w n' w' → R p v n' w') (hC : C 0 w.drew)
  (h : ∃ A : (Nat → Value) → Act, (∀ T, setAll (l.take N) 0 T a0 = A T) ∧ ObAll P A R C S cost total (l.take N) 0 ∧
   ∀ T w', (∃ n, n ≤ total ∧ C n w' ∧ ∀ p, p < N → R p (T p) n w') → wpList P l.toArray Q (l.drop N) (A T) w') :
  (Code.region id l.toArray true).wp P Q a0 w := by
 obtain ⟨A, hA, hob, hend⟩ := h
 simp only [Bool.and_eq_true] at hB
 refine wp_region_any hm ?_
 have key := region_any (P := P) (Q := Q) (ops := l.toArray) (a0 := a0) (R := R) (C := C) (S := S) (cost := cost) (total := total) (invB_spec hB.1) hS htot
  (fun i o ho hi => ob_of (invB_spec hB.1) hB.2 ho hi (fun T => by simpa using hA T) (by
   have := ObAll.get _ _ hob i o (by rw [List.getElem?_take, if_pos hi]; simpa using ho)
   simpa using this))
  (fun T w' hc => by
   have := hend T w' hc
   rw [← hA T] at this
   simpa using this)
  l.toArray.size (Array.replicate l.toArray.size false) a0 w.drew (by simp)
 have h0 : ∀ j, (Array.replicate l.toArray.size false).getD j false = false := fun j => getD_replicate_false _ _
 have hz : ∀ (c : Nat → Nat) k, sumCost c (Array.replicate l.toArray.size false) k = 0 := by
  intro c k
  induction k with
  | zero => rfl
  | succ k ih => simp only [sumCost, ih, h0]; rfl
 have hF : Fits l.toArray a0 (Array.replicate l.toArray.size false) (fun _ => undef) a0 := by
  refine ⟨rfl, rfl, ?_, fun t _ => rfl⟩
  intro j o d _ hl
  rw [h0] at hl
  cases hl
 refine key (by simp only [cnt, hz]; omega) ?_ (.inl ⟨fun _ => undef, fun j _ => h0 j, hF, by rw [hz]; exact hC, ?_⟩)
 ·intro j _ hl
  rw [h0] at hl
  cases hl
 ·intro j _ hl
  rw [h0] at hl
  cases hl
end Go.Proofs.Ytakjopbdkkcnlaa.Ph

namespace Go.Proofs.Ytakjopbdkkcnlaa
open Go.RowKit Go
set_option linter.unusedVariables false

def NumsAt (b n : Nat) (zs : List Int) (v : Value) (w : World) : Prop := ∃ B, v = .slice (some ⟨B, 0, none⟩) n n ∧ B ≠ b ∧ RdInts w B 0 n zs
theorem NumsAt.keep {b n : Nat} {zs : List Int} {v : Value} {w w' : World} (h : NumsAt b n zs v w) (hg : w.grownBy w' (some b)) : NumsAt b n zs v w' := by
 obtain ⟨B, hv, hb, h1, h2, h3⟩ := h
 refine ⟨B, hv, hb, h1, Nat.lt_of_lt_of_le h2 hg.size, fun i hi => ?_⟩
 exact (World.cell?_of_block (w := w) (hg.block B h2 (by simpa using hb))).trans (h3 i hi)
theorem NumsAt.new {b : Nat} (w : World) (t : TypeId) (zs : List Int) (n : Nat) (hn : zs.length = n) (hb : b < w.heap.size) (vs : Array Value) (hv : vs = (zs.map (Value.int .i64)).toArray) : NumsAt b n zs (.slice (some ⟨w.heap.size, 0, none⟩) n n) (w.alloc (.cells vs t (0, 0))) := by
 subst hn
 exact ⟨w.heap.size, rfl, by omega, rdInts_new w t zs vs hv⟩
def IsI (v : Value) : Prop := ∃ k, v = .int .i64 k
theorem pick_at (b m n : Nat) (zs : List Int) (v : Value) (w : World) (h : Strm w b m) (hm : m < 1099511627776) (hv : NumsAt b n zs v w) (hn : 1 ≤ n ∧ n ≤ 1000) :
  Calls Try.prog 18 #[.pointer (some ⟨b, 0, none⟩), v] w fun e w' => ∃ k : Int, e = .returned (.int .i64 k) ∧ k ∈ zs ∧ Gen b w w' (m + 1) := by
 obtain ⟨B, rfl, hb, hr⟩ := hv
 exact pick_gen b m B 0 n n zs w h hm (by omega) hr hb

def isI : Value → Bool
 | .int .i64 _ => true
 | _ => false
theorem isI_all : ∀ (l : List Value), l.all isI = true → ∃ zs : List Int, l = zs.map (Value.int .i64)
 | [], _ => ⟨[], rfl⟩
 | v :: l, h => by
  simp only [List.all_cons, Bool.and_eq_true] at h
  obtain ⟨zs, rfl⟩ := isI_all l h.2
  unfold isI at h
  split at h
  ·exact ⟨_ :: zs, rfl⟩
  ·cases h.1
theorem pick_ints (b m g n : Nat) (t : TypeId) (vs : Array Value) (w : World) (h : Strm w b m) (hg : w.heap.size = g) (hm : m < 1099511627776) (hn : vs.size = n) (hn1 : 1 ≤ n ∧ n ≤ 1000) (hv : vs.toList.all isI = true) :
  Calls Try.prog 18 #[.pointer (some ⟨b, 0, none⟩), .slice (some ⟨g, 0, none⟩) n n] (w.alloc (.cells vs t (0, 0))) fun e w' => ∃ k : Int, e = .returned (.int .i64 k) ∧ Gen b w w' (m + 1) := by
 obtain ⟨zs, hz⟩ := isI_all _ hv
 have hz' : vs = (zs.map (Value.int .i64)).toArray := by rw [← hz]
 exact (pick_new b m g n t vs zs w h hg hm (by rw [← hn, hz']; simp) hn1 hz').mono fun _ _ ⟨k, h1, _, h3⟩ => ⟨k, h1, h3⟩

def pktR (b G : Nat) (f : FV) (p : Nat) (v : Value) (w : World) : Prop :=
 match p with
 | 0 => v = .pointer (some ⟨G, 1, none⟩)
 | 1 => v = .agg #[.bool f.s1, .int .u64 f.h1, .int .u64 f.l1]
 | 2 => v = .pointer (some ⟨G, 4, none⟩)
 | 3 => v = .agg #[.bool f.s2, .int .u64 f.h2, .int .u64 f.l2]
 | 4 => v = .pointer (some ⟨b, 0, none⟩)
 | 5 => NumsAt b 4 [0, 1, 64, 255] v w
 | 6 => IsI v
 | 7 => v = .pointer (some ⟨b, 0, none⟩)
 | 8 => NumsAt b 4 [6, 6, 17, 1] v w
 | 9 => IsI v
 | 11 => ∃ F, v = .pointer (some ⟨F, 0, none⟩) ∧ G < F ∧ F ≠ b ∧ PBlk w F PV.zero
 | 10 => ∃ p q, v = .agg (PV.mk f.s1 f.h1 f.l1 f.s2 f.h2 f.l2 p q 0 0 false false false false 0 0 false 0 (.slice none 0 0)).cells
 | _ => False

theorem u8_wrap (k : Int) : ∃ c : UInt8, Value.int .u8 (IntKind.u8.wrap k) = encB c := by
 refine ⟨UInt8.ofNat (k % 256).toNat, ?_⟩
 unfold encB
 refine congrArg (Value.int .u8) ?_
 rw [UInt8.toNat_ofNat', IntKind.wrap_u8]
 omega
/-- the drawn region that appends a byte to the payload: what is known of each value, n being what has run (100: the append) -/
def payR (b B F : Nat) (L : List UInt8) (v0 : Value) (p : Nat) (v : Value) (n : Nat) (w : World) : Prop :=
 match p with
 | 0 => v = .pointer (some ⟨F, 18, none⟩)
 | 1 => v = v0
 | 2 => v = .pointer (some ⟨b, 0, none⟩)
 | 3 => v = .pointer (some ⟨b, 0, none⟩)
 | 4 => IsI v ∧ 1 ≤ n
 | 5 => 2 ≤ n ∧ ∃ k B, v = .slice (some ⟨B, 0, none⟩) 4 4 ∧ B ≠ b ∧ w.heap[B]? = some (.cells #[.int .i64 0, .int .i64 255, .int .i64 65, .int .i64 k] 3 (0, 0))
 | 6 => IsI v ∧ 3 ≤ n
 | 7 => (∃ c, v = encB c) ∧ 3 ≤ n
 | 8 => 4 ≤ n ∧ (n < 100 → ∃ g c, v = .slice (some ⟨g, 0, none⟩) 1 1 ∧ g ≠ b ∧ w.heap[g]? = some (.cells #[encB c] 5 (0, 0)))
 | 9 => 100 ≤ n ∧ v.oneCell' = true ∧ ∃ c, OwnB w B v (L ++ [c])
 | 10 => v = .pointer (some ⟨F, 18, none⟩)
 | _ => False
def payS (b : Nat) (n : Nat) (u : World) (n' : Nat) (v : World) : Prop := n ≤ n' ∧ (n' < 100 ∨ 100 ≤ n → u.grownBy v (some b)) ∧ ∀ i cs, i ≠ b → u.heap[i]? = some (.cells cs 3 (0, 0)) → v.heap[i]? = some (.cells cs 3 (0, 0))
theorem payS_grown {b n n' : Nat} {u v : World} (h : n ≤ n') (hg : u.grownBy v (some b)) : payS b n u n' v := ⟨h, fun _ => hg, fun i cs hi he => blk_keep hg hi he⟩
theorem payS_refl (b : Nat) (n : Nat) (u : World) : payS b n u n u := payS_grown (Nat.le_refl _) (World.grownBy.refl _ _)
theorem rdInts_at {w : World} {B : Nat} {t : TypeId} {a b c d : Int} (h : w.heap[B]? = some (.cells #[.int .i64 a, .int .i64 b, .int .i64 c, .int .i64 d] t (0, 0))) : RdInts w B 0 4 [a, b, c, d] := by
 refine ⟨rfl, lt_of_block h, fun i hi => ?_⟩
 rw [Nat.zero_add, cell_of_row w B i _ _ _ h]
 have : i = 0 ∨ i = 1 ∨ i = 2 ∨ i = 3 := by omega
 rcases this with rfl | rfl | rfl | rfl <;> rfl
theorem OwnB.notInt {w : World} {B i : Nat} {v : Value} {L : List UInt8} {cs : Array Value} (h : OwnB w B v L) (hi : w.heap[i]? = some (.cells cs 3 (0, 0))) : v.ownBlock ≠ some i := by
 intro hk
 rcases h.2 with ⟨rfl, _⟩ | ⟨g, cap, cur, rfl, hb, hg, r⟩
 ·cases hk
 ·obtain rfl : g = i := by simpa [Value.ownBlock] using hk
  rw [hg] at hi
  injection hi with hi
  injection hi with _ h3 _
  revert h3
  decide
theorem payR_keep {b B F : Nat} {L : List UInt8} {v0 : Value} (hbB : b < B) : ∀ p v n w n' w', payR b B F L v0 p v n w → payS b n w n' w' → payR b B F L v0 p v n' w' := by
 intro p v n w n' w' h ⟨h0, h1, h3⟩
 rcases p with _ | _ | _ | _ | _ | _ | _ | _ | _ | _ | _ | p
 all_goals first | exact h | skip
 ·exact ⟨h.1, by have := h.2; omega⟩
 ·obtain ⟨e0, k, B, e1, e2, e3⟩ := h
  exact ⟨by omega, k, B, e1, e2, h3 _ _ e2 e3⟩
 ·exact ⟨h.1, by have := h.2; omega⟩
 ·exact ⟨h.1, by have := h.2; omega⟩
 ·refine ⟨by have := h.1; omega, fun hn => ?_⟩
  obtain ⟨g, c, e1, e2, e3⟩ := h.2 (by omega)
  exact ⟨g, c, e1, e2, blk_keep (h1 (.inl hn)) e2 e3⟩
 ·obtain ⟨e0, e1, c, e2⟩ := h
  have hg := h1 (.inr e0)
  exact ⟨by omega, e1, c, e2.block fun k hk => hg.block k (own_lt e2 k hk) (by have := own_base e2 k hk; simp; omega)⟩
end Go.Proofs.Ytakjopbdkkcnlaa
