/-
  Two wide numbers compared.
  The reference's PrefixFault and MaskOf.
  Slices that a call owns, and slices that can be read: append, for every element type. Lemmas of this claim's own.
  The mark of the address laws: addressed is true. And the small functions errs, when.
  Decimal and hexadecimal numerals of small numbers: strconv.FormatUint, FormatInt, Itoa over the laid tables.
  Prefixes and addresses compared: equal ones.
  Addresses as numbers: comparing digit by digit; what a prefix holds, whether one lies in another, what two have in common.
  Generators of prefixes: RightPrefix, Prefix.
-/
import Derived.Test.YtcpafmndjcejjaaGreatDoorAR3
import Derived.ChangeKeysEq
import Derived.Laws.StructEq
import Derived.Test.YtcpafmndjcejjaaGreatDoorAR1
import Derived.Maps.AppendAt
import Derived.Lib.Hide
import Derived.Test.YtcpafmndjcejjaaGreatDoorAR5
import Derived.Test.YtcpafmndjcejjaaGreatDoorAR2
import Derived.Lib.AppendIntMem
import Derived.LaidSub
import Derived.MakeChecks
set_option linter.unusedVariables false
namespace Go.Proofs.YtcpafmndjcejjaaGreatDoor
open Go.RowKit Go
set_option linter.unusedVariables false
def wl (six : Bool) (f : Nat → Nat) : List Int := [(f 0 : Nat), (f 1 : Nat), (f 2 : Nat), (f 3 : Nat), (f 4 : Nat), (f 5 : Nat), (f 6 : Nat), (f 7 : Nat), if six = true then 1 else 0]
end Go.Proofs.YtcpafmndjcejjaaGreatDoor

namespace Go.Proofs.YtcpafmndjcejjaaGreatDoor
open Go.RowKit Go
set_option linter.unusedVariables false
end Go.Proofs.YtcpafmndjcejjaaGreatDoor

namespace Go.Proofs.YtcpafmndjcejjaaGreatDoor
open Go.RowKit Go
set_option linter.unusedVariables false

/-- the element type's row in the program's table -/
structure EI (P : Program) (t e : TypeId) (size bytes : Nat) : Prop where
  ht : P.underlying t = some (.slice e)
  hi : ∃ i z, P.info? e = some i ∧ i.zero = some z ∧ i.size = size ∧ i.bytes = bytes ∧ z.cells.size = size
  hsz : 0 < size
theorem EI.mk' {P : Program} {t e : TypeId} {size bytes : Nat} {z : Value} (ht : P.underlying t = some (.slice e)) (h : (P.info? e).map (fun i => (i.zero, i.size, i.bytes)) = some (some z, size, bytes)) (hz : z.cells.size = size) (hsz : 0 < size) : EI P t e size bytes := by
  obtain ⟨i, h0, h1, h2, h3⟩ := info_parts h
  exact ⟨ht, ⟨i, z, h0, h1, h2, h3, hz⟩, hsz⟩

/-- m elements that can be read at ad: the cells are 'news' -/
def Src (w : World) (ad : Option Addr) (m size : Nat) (news : List Value) : Prop :=
  news.length = m * size ∧ ∀ j u, news[j]? = some u → ∃ a, ad = some a ∧ a.block < w.heap.size ∧ w.cell? (a.add j) = some u

/-- from w to w' the row of v alone was written, and it stays or lies anew -/
structure Grew (w w' : World) (v v' : Value) : Prop where
  g : w.grownBy w' v.ownBlock
  o : v'.ownBlock = v.ownBlock ∨ ∃ k, v'.ownBlock = some k ∧ w.heap.size ≤ k
theorem Grew.refl (w : World) (v : Value) : Grew w w v v := ⟨World.grownBy.refl w _, .inl rfl⟩
theorem Grew.trans {a b c : World} {u v x : Value} (h : Grew a b u v) (k : Grew b c v x) : Grew a c u x := by
  refine ⟨⟨k.g.os.trans h.g.os, k.g.tape.trans h.g.tape, k.g.output.trans h.g.output, Nat.le_trans h.g.size k.g.size, fun i hi hne => ?_⟩, ?_⟩
  · refine (k.g.block i (Nat.lt_of_lt_of_le hi h.g.size) ?_).trans (h.g.block i hi hne)
    rcases h.o with e | ⟨j, e, hj⟩
    · rw [e]; exact hne
    · rw [e]; intro e2; injection e2 with e2; omega
  · rcases k.o with e | ⟨j, e, hj⟩
    · rcases h.o with e2 | ⟨j, e2, hj⟩
      · exact .inl (e.trans e2)
      · exact .inr ⟨j, e.trans e2, hj⟩
    · exact .inr ⟨j, e, Nat.le_trans h.g.size hj⟩
theorem Grew.alloc {a b : World} {u v : Value} (h : Grew a b u v) (o : Obj) : Grew a (b.alloc o) u v :=
  ⟨h.g.trans (World.grownBy_alloc _ _ _), h.o⟩
theorem Grew.drewN {a b : World} {u v : Value} (h : Grew a b u v) (n : Nat) : Grew a (b.drewN n) u v := ⟨⟨h.g.os, h.g.tape, h.g.output, h.g.size, h.g.block⟩, h.o⟩
/-- nothing below 'base' was written, if the row lies from there on -/
theorem Grew.below {a b : World} {u v : Value} {B : Nat} (h : Grew a b u v) (hB : B ≤ a.heap.size) (hu : ∀ k, u.ownBlock = some k → B ≤ k) : Below B a b :=
  (Below.refl B a).grown h.g hB hu
theorem own_form {w : World} {base : Nat} {e : TypeId} {size : Nat} {v : Value} {n : Nat} {xs : List Value} (h : w.ownsRow base e size v n xs) : ∃ ad c, v = .slice ad n c ∧ Src w ad n size xs ∧ n ≤ c ∧ c ≤ maxLen := by
  rcases h.2 with ⟨rfl, rfl⟩ | ⟨g, cap, cur, rfl, hb, hg, hn, hc, hs, ht⟩
  · have hx : xs = [] := List.eq_nil_of_length_eq_zero (by simpa using h.1)
    subst hx
    exact ⟨none, 0, rfl, ⟨by simp, fun j u hu => by simp at hu⟩, Nat.le_refl _, by unfold maxLen; omega⟩
  · exact ⟨_, cap, rfl, ⟨h.1, fun j u hu => ⟨_, rfl, lt_of_block hg, h.cells (g := g) rfl j u hu⟩⟩, hn, hc⟩
theorem own_base {w : World} {base : Nat} {e : TypeId} {size : Nat} {v : Value} {n : Nat} {xs : List Value} (h : w.ownsRow base e size v n xs) : ∀ k, v.ownBlock = some k → base ≤ k := fun k hk => (h.lt k hk).1
theorem own_lt {w : World} {base : Nat} {e : TypeId} {size : Nat} {v : Value} {n : Nat} {xs : List Value} (h : w.ownsRow base e size v n xs) : ∀ k, v.ownBlock = some k → k < w.heap.size := fun k hk => (h.lt k hk).2
theorem own_weak {w : World} {base base' : Nat} {e : TypeId} {size : Nat} {v : Value} {n : Nat} {xs : List Value} (h : w.ownsRow base e size v n xs) (hb : base' ≤ base) : w.ownsRow base' e size v n xs := by
  refine ⟨h.1, ?_⟩
  rcases h.2 with h2 | ⟨g, cap, cur, hv, hg, r⟩
  · exact .inl h2
  · exact .inr ⟨g, cap, cur, hv, Nat.le_trans hb hg, r⟩
/-- an owned row stays where another world's step leaves its block -/
theorem own_below {w w' : World} {base B : Nat} {e : TypeId} {size : Nat} {v : Value} {n : Nat} {xs : List Value} (h : w.ownsRow base e size v n xs) (hb : Below B w w') (hB : ∀ k, v.ownBlock = some k → k < B) : w'.ownsRow base e size v n xs := by
  refine ⟨h.1, ?_⟩
  rcases h.2 with h2 | ⟨g, cap, cur, rfl, hg, hh, r⟩
  · exact .inl h2
  · exact .inr ⟨g, cap, cur, rfl, hg, (hb.block g (hB g rfl)).trans hh, r⟩
theorem own_later {w w' : World} {base : Nat} {e : TypeId} {size : Nat} {v : Value} {n : Nat} {xs : List Value} (h : w.ownsRow base e size v n xs) (hb : Below w.heap.size w w') : w'.ownsRow base e size v n xs := own_below h hb fun k hk => own_lt h k hk
theorem own_grew {w w' : World} {base : Nat} {e : TypeId} {size : Nat} {v u u' : Value} {n : Nat} {xs : List Value} (h : w.ownsRow base e size v n xs) (hg : Grew w w' u u') (hne : v.ownBlock = none ∨ v.ownBlock ≠ u.ownBlock) : w'.ownsRow base e size v n xs := h.kept hg.g hne
section
variable {P : Program}
theorem run_append_src {t e : TypeId} {size bytes : Nat} (E : EI P t e size bytes) (w : World) (base : Nat) (ty : TypeId) (v : Value) (n : Nat) (xs : List Value) (hown : w.ownsRow base e size v n xs)
    (ad : Option Addr) (m c : Nat) (news : List Value) (hsrc : Src w ad m size news) (h1 : ∀ u ∈ news, u.oneCell' = true)
    (h63 : n + m ≤ maxLen) (hbytes : (n + m) * bytes ≤ 140737488355328) (hbase : base ≤ w.heap.size) :
    ∃ v' w', (Builtin.append_ #[t, t] ty #[v, .slice ad m c]).run P w = .ok v' w' ∧ w'.ownsRow base e size v' (n + m) (xs ++ news) ∧ Grew w w' v v' := by
  obtain ⟨ht, ⟨i, z, hi, hz, hs, hb, hzs⟩, hsz⟩ := E
  cases ad with
  | some a =>
    have hcells : ∀ j u, news[j]? = some u → w.cell? (a.add j) = some u := fun j u hu => by
      obtain ⟨a', e, _, hc⟩ := hsrc.2 j u hu
      injection e with e; subst e; exact hc
    obtain ⟨v', w', hr, h2, h3, _, h5⟩ := run_append_own_at (P := P) w base t ty e i z size bytes ht hi hz hs hb hzs hsz v n xs hown a m c news hsrc.1 hcells h1 h63 hbytes hbase
    exact ⟨v', w', hr, h2, h3, h5.imp id fun h => ⟨_, h, Nat.le_refl _⟩⟩
  | none =>
    have hn : news = [] := by
      cases news with
      | nil => rfl
      | cons x l => obtain ⟨a, e, _⟩ := hsrc.2 0 x rfl; cases e
    subst hn
    have hm : m = 0 := by
      have h0 : m * size = 0 := by have := hsrc.1; simpa using this.symm
      rcases Nat.mul_eq_zero.1 h0 with h | h <;> omega
    subst hm
    have hr : (Builtin.append_ #[t, t] ty #[v, .slice none 0 c]).run P w = .ok v w := by
      rcases hown.2 with ⟨rfl, rfl⟩ | ⟨g, cap, cur, rfl, _, _, hnc, _⟩
      · simp [Builtin.append_, run_underlying ht, sizeOf, typeInfo, hi, Builtin.lenOf, Builtin.firstCells]
      · simp [Builtin.append_, run_underlying ht, sizeOf, typeInfo, hi, Builtin.lenOf, Builtin.firstCells, hnc, storeCells]
    exact ⟨v, w, hr, by simpa using hown, Grew.refl w v⟩

theorem wpList_app {t e : TypeId} {size bytes : Nat} (E : EI P t e size bytes) {w : World} {ops : Array Oper} {rest : List Oper} {o : Oper} {a : Act} {Q : Exit → Act → World → Prop} (hgd : o.guard = none) (s x : Operand)
    (ho : o.op = .call { callee := .builtin .append, args := #[s, x], argTypes := #[t, t] })
    {base : Nat} {v : Value} {n : Nat} {xs : List Value} (hs : a.eval s = v) (hown : w.ownsRow base e size v n xs)
    {ad : Option Addr} {m c : Nat} {news : List Value} (hx : a.eval x = .slice ad m c) (hsrc : Src w ad m size news) (h1 : ∀ u ∈ news, u.oneCell' = true)
    (h63 : n + m ≤ maxLen) (hbytes : (n + m) * bytes ≤ 140737488355328) (hbase : base ≤ w.heap.size)
    (h : ∀ v' w', w'.ownsRow base e size v' (n + m) (xs ++ news) → Grew w w' v v' → wpList P ops Q rest (a.put o.dst v') w') :
    wpList P ops Q (o :: rest) a w := by
  refine wpList_plain hgd fun K hK => ?_
  obtain ⟨v', w', hr, h2, h3⟩ := run_append_src E w base o.type v n xs hown ad m c news hsrc h1 h63 hbytes hbase
  unfold Oper.wp execOp
  simp only [ho, resolve, invoke, builtin, Sem.run_bind, Sem.run_pure, Result.andThen_ok, List.map_toArray, List.map_cons, List.map_nil, hs, hx, hr]
  exact hK _ _ (h v' w' h2 h3)
end

theorem src_one_new (w : World) (x : Value) (t : TypeId) : Src (w.alloc (.cells #[x] t)) (some ⟨w.heap.size, 0, none⟩) 1 1 [x] :=
  ⟨rfl, fun j u hu => ⟨_, rfl, by simp, cell_one_new w x t j u hu⟩⟩
end Go.Proofs.YtcpafmndjcejjaaGreatDoor

namespace Go.Proofs.YtcpafmndjcejjaaGreatDoor
open Go.RowKit Go
set_option linter.unusedVariables false

theorem iFmtU_small (i : Nat) (h : i < 100) (w : World) : Calls Tryz.prog 90 #[.int .u64 (i : Int), .int .i64 10] w fun e w' => e = .returned (.string ⟨(Lib.decDigits i).toArray⟩) ∧ w' = w := by
  have hc := Tryz.internal_strconv_small i h w
  generalize Lib.decDigits i = s at *
  have hi : (i : Int) < 100 := by omega
  have e1 : IntKind.i64.wrap (i : Int) = (i : Int) := by rw [IntKind.wrap_i64]; omega
  have Hc := Lib.hid hc
  clear hc
  go_enter Tryz.func90, Tryz.ntmps90
  go_wp2_with fail
  refine Hc.out.mono ?_
  rintro e w' ⟨rfl, rfl⟩
  go_wp2_with fail
  go_ret
  exact ⟨rfl, rfl⟩
theorem fmtU_small (i : Nat) (h : i < 100) (w : World) : Calls Tryz.prog 57 #[.int .u64 (i : Int), .int .i64 10] w fun e w' => e = .returned (.string ⟨(Lib.decDigits i).toArray⟩) ∧ w' = w := by
  have hc := iFmtU_small i h w
  generalize Lib.decDigits i = s at *
  have Hc := Lib.hid hc
  clear hc
  go_enter Tryz.func57, Tryz.ntmps57
  go_wp2_with fail
  refine Hc.out.mono ?_
  rintro e w' ⟨rfl, rfl⟩
  go_wp2_with fail
  go_ret
  exact ⟨rfl, rfl⟩
/-- an own row of strings -/
def encSs (L : List ByteArray) : List Value := L.map Value.string
def OwnS (w : World) (base : Nat) (v : Value) (L : List ByteArray) : Prop := w.ownsRow base 9 1 v L.length (encSs L)
theorem strE : EI Tryz.prog 76 9 1 16 := EI.mk' (z := .string ⟨#[]⟩) Tryz.underlying76 (by kernel_rfl) rfl (by decide)
theorem OwnS.nil (w : World) (base : Nat) : OwnS w base (.slice none 0 0) [] := World.ownsRow_nil w base _ 1
theorem OwnS.later {w w' : World} {base : Nat} {v : Value} {L : List ByteArray} (h : OwnS w base v L) (hb : Below w.heap.size w w') : OwnS w' base v L := own_later h hb
theorem OwnS.snoc {w : World} {B : Nat} {v : Value} {L : List ByteArray} {s : ByteArray} (h : w.ownsRow B 9 1 v (L.length + 1) (encSs L ++ [.string s])) : OwnS w B v (L ++ [s]) := by
  show w.ownsRow _ _ _ _ _ _
  rw [List.length_append, encSs, List.map_append]
  exact h
theorem OwnS.one {w : World} {B : Nat} {v : Value} {L : List ByteArray} (h : OwnS w B v L) (hl : 1 ≤ L.length) :
    ∃ g c, v = .slice (some ⟨g, 0, none⟩) L.length c ∧ B ≤ g ∧ g < w.heap.size ∧ L.length ≤ c ∧ c ≤ maxLen ∧ ∀ (j : Nat) x, L[j]? = some x → w.cell? ⟨g, j, none⟩ = some (.string x) := by
  rcases h.2 with ⟨rfl, h0⟩ | ⟨g, cap, cur, rfl, hb, hg, hc, hm, hs, ht⟩
  · omega
  · refine ⟨g, cap, rfl, hb, lt_of_block hg, hc, hm, fun j x hx => ?_⟩
    have hj : j < L.length := by
      rcases Nat.lt_or_ge j L.length with h | h
      · exact h
      · rw [List.getElem?_eq_none h] at hx; cases hx
    rw [cell_of_row w g _ _ _ _ hg]
    have h2 : (encSs L)[j]? = some (.string x) := by simp [encSs, hx]
    rw [← ht, List.getElem?_take, if_pos (by omega), Array.getElem?_toList] at h2
    exact h2
set_option maxRecDepth 100000 in
set_option maxHeartbeats 1000000 in
theorem textOf_one (w : World) : Calls Tryz.prog 25 #[.agg #[.bool false, .int .u64 0, .int .u64 1]] w (Ret (.string ⟨#[48, 46, 48, 46, 48, 46, 49]⟩) w) := by
  have h0 := fun w => fmtU_small 0 (by decide) w
  have h1 := fun w => fmtU_small 1 (by decide) w
  rw [show Lib.decDigits 0 = [48] by rw [Lib.decDigits]; rfl] at h0
  rw [show Lib.decDigits 1 = [49] by rw [Lib.decDigits]; rfl] at h1
  have H0 := Lib.hid h0
  have H1 := Lib.hid h1
  clear h0 h1
  have b0 : Go.bits .and .u64 0 255 = 0 := by decide
  have b1 : Go.bits .and .u64 1 255 = 1 := by decide
  have HP : Hid (Blk (w.alloc (.cells #[.bool false, .int .u64 0, .int .u64 1] 29 (0, 0))) w.heap.size 29 #[.bool false, .int .u64 0, .int .u64 1]) := Lib.hid (Blk.new w _ _)
  have HB : Hid (Below w.heap.size w (w.alloc (.cells #[.bool false, .int .u64 0, .int .u64 1] 29 (0, 0)))) := Lib.hid (below_alloc (Below.refl _ _) _)
  go_enter Tryz.func25, Tryz.ntmps25
  go_upto_region 1 with fail
  generalize w.alloc (.cells #[.bool false, .int .u64 0, .int .u64 1] 29 (0, 0)) = w0 at *
  have p0 := HP.out.cell 0
  simp at p0
  go_wp2
  go_loopw [3, 4, 14] (fun v iv i wr => ∃ k : Nat, k ≤ 4 ∧ i = .int .i64 k ∧ Hid (OwnS wr w0.heap.size v (([⟨#[48]⟩, ⟨#[48]⟩, ⟨#[48]⟩, ⟨#[49]⟩] : List ByteArray).take k)) ∧ Hid (Below w0.heap.size w0 wr)) (fun _ _ i _ => 4 - (intOf i).toNat)
  case atStart => exact ⟨0, Nat.zero_le _, rfl, Lib.hid (OwnS.nil _ _), Lib.hid (Below.refl _ _)⟩
  case round =>
    clear p0
    obtain ⟨k, hk, rfl, HO, HBr⟩ := hrel
    have p2 := (HP.out.below HBr.out HP.out.lt).cell 2
    simp at p2
    by_cases hlt : k < 4
    · have hk4 : k = 0 ∨ k = 1 ∨ k = 2 ∨ k = 3 := by omega
      rcases hk4 with rfl | rfl | rfl | rfl
      all_goals
        go_wp2_with fail
        first
          | (refine (H0.out _).mono ?_)
          | (refine (H1.out _).mono ?_)
        rintro e w' ⟨rfl, rfl⟩
        go_wp2_with (at_builtin; refine wpList_app strE rfl (.tmp 17) (.tmp 26) rfl rfl (World.ownsRow.alloc HO.out _) rfl (src_one_new _ _ _) ?c1 ?c2 ?c3 ?c4 ?_)
        case c1 => first | rfl | (intro u hu; simp at hu; subst hu; rfl)
        case c2 => unfold maxLen; simp
        case c3 => simp
        case c4 => have := HBr.out.size; simp; omega
        intro v' w2 hO hG
        have HO' := Lib.hid (OwnS.snoc hO)
        have HB' : Hid (Below w0.heap.size w0 w2) := Lib.hid ((Below.alloc HBr.out HBr.out.size _).trans (hG.below (by have := HBr.out.size; simp; omega) (own_base HO.out)))
        clear hO hG p2
        go_wp2
        exact ⟨⟨_, by decide, rfl, HO', HB'⟩, by simp [intOf]⟩
    · obtain rfl : k = 4 := by omega
      obtain ⟨g, c, hv, _, hg, hc, _, hcell⟩ := HO.out.one (by decide)
      rw [show (([⟨#[48]⟩, ⟨#[48]⟩, ⟨#[48]⟩, ⟨#[49]⟩] : List ByteArray).take 4) = [⟨#[48]⟩, ⟨#[48]⟩, ⟨#[48]⟩, ⟨#[49]⟩] from rfl] at hcell
      have hv' : u3 = .slice (some ⟨g, 0, none⟩) 4 c := hv
      have hc' : 4 ≤ c := hc
      clear hv hc
      subst hv'
      have hJ := Tryz.strings_Join g 0 c [⟨#[48]⟩, ⟨#[48]⟩, ⟨#[48]⟩, ⟨#[49]⟩] ⟨#[46]⟩ wr (fun j x hx => by rw [Nat.zero_add]; exact hcell j x hx) hg (by decide) hc' (by decide)
      rw [show (⟨(Lib.join (([⟨#[48]⟩, ⟨#[48]⟩, ⟨#[48]⟩, ⟨#[49]⟩] : List ByteArray).map (·.data.toList)) (⟨#[46]⟩ : ByteArray).data.toList).toArray⟩ : ByteArray) = ⟨#[48, 46, 48, 46, 48, 46, 49]⟩ by decide] at hJ
      have HJ := Lib.hid hJ
      clear hJ hcell p2
      go_wp2_with fail
      refine HJ.out.mono ?_
      rintro e w' ⟨rfl, hb⟩
      go_wp2_with fail
      go_ret
      exact ⟨rfl, HB.out.trans ((HBr.out.trans (hb.mono HBr.out.size)).mono HB.out.size)⟩
set_option maxRecDepth 100000 in
theorem addressed_any (w : World) : Calls Tryz.prog 10 #[] w (Ret (.bool true) w) := by
  have hT : ∀ w, Calls Tryz.prog 32 #[.agg #[.bool false, .int .u64 0, .int .u64 1]] w (Ret (.tuple #[.string ⟨#[48, 46, 48, 46, 48, 46, 49]⟩, .int .i64 0]) w) := fun w => by
    have HC := Lib.hid fun wx => checkAddr_any false 0 1 wx ⟨by decide, by decide⟩ ⟨by decide, by decide⟩
    have HT := Lib.hid fun wx => textOf_one wx
    have HP : Hid (Blk (w.alloc (.cells #[.bool false, .int .u64 0, .int .u64 1] 29 (0, 0))) w.heap.size 29 #[.bool false, .int .u64 0, .int .u64 1]) := Lib.hid (Blk.new w _ _)
    have HB : Hid (Below w.heap.size w (w.alloc (.cells #[.bool false, .int .u64 0, .int .u64 1] 29 (0, 0)))) := Lib.hid (below_alloc (Below.refl _ _) _)
    go_enter Tryz.func32, Tryz.ntmps32
    go_upto_region 1 with fail
    generalize w.alloc (.cells #[.bool false, .int .u64 0, .int .u64 1] 29 (0, 0)) = w0 at *
    have p0 := HP.out.cell 0
    have p1 := HP.out.cell 1
    have p2 := HP.out.cell 2
    simp at p0 p1 p2
    go_wp2_with fail
    refine (HC.out _).mono ?_
    rintro e w' ⟨rfl, o, rfl⟩
    have q0 := (HP.out.alloc o).cell 0
    have q1 := (HP.out.alloc o).cell 1
    have q2 := (HP.out.alloc o).cell 2
    simp at q0 q1 q2
    have ha : aFault false 0 1 = 0 := by decide
    go_wp2_with fail
    refine (HT.out _).mono ?_
    rintro e w2 ⟨rfl, hb⟩
    go_wp2_with fail
    go_ret2
    exact ⟨rfl, (below_alloc HB.out o).trans (hb.mono (by have := HB.out.size; simp; omega))⟩
  have HT := Lib.hid hT
  clear hT
  go_enter Tryz.func10, Tryz.ntmps10
  go_wp2_with fail
  refine (HT.out _).mono ?_
  rintro e w2 ⟨rfl, hb⟩
  go_wp2
  go_ret
  exact ⟨rfl, hb⟩
end Go.Proofs.YtcpafmndjcejjaaGreatDoor

namespace Go.Proofs.YtcpafmndjcejjaaGreatDoor
open Go.RowKit Go Go.Sort
set_option linter.unusedVariables false

theorem tab_below {w w' : World} {name : String} {k : IntKind} {zs : List Int} (h : Lib.TabIs Tryz.prog w name k zs) (hb : Below w.heap.size w w') : Lib.TabIs Tryz.prog w' name k zs := by
  unfold Lib.TabIs World.var? at *
  cases hg : Tryz.prog.globalNamed name with
  | none => simp [hg] at h
  | some g =>
    simp only [hg, Option.bind_some] at h ⊢
    have hlt : g < w.heap.size := by
      rcases Nat.lt_or_ge g w.heap.size with h' | h'
      · exact h'
      · rw [Array.getElem?_eq_none h'] at h; simp at h
    rw [hb.block g hlt]
    exact h
theorem below_grow {B : Nat} {u w : World} (h : Below B u w) (hB : B ≤ w.heap.size) (k : Nat) (os : Array Obj) : Below B u (grow (w.drewN k) os) :=
  ⟨h.os, h.tape, h.output, Nat.le_trans h.size (by show w.heap.size ≤ (w.heap ++ os).size; simp), fun i hi => (Lib.heap_grow_old w k os i (Nat.lt_of_lt_of_le hi hB)).trans (h.block i hi)⟩
/-- the two tables that numerals read -/
def Tabs (w : World) : Prop := Lib.TabIs Tryz.prog w "internal/strconv.uint64pow10" .u64 Lib.pow10Tab ∧ T16 w
theorem Tabs.below {w w' : World} (h : Tabs w) (hb : Below w.heap.size w w') : Tabs w' := ⟨tab_below h.1 hb, h.2.below hb⟩
set_option maxRecDepth 100000 in
set_option maxHeartbeats 2000000 in
theorem iFmtU_big (u : Nat) (h1 : 100 ≤ u) (h2 : u < 18446744073709551616) (w : World) (htab : Lib.TabIs Tryz.prog w "internal/strconv.uint64pow10" .u64 Lib.pow10Tab) :
    Calls Tryz.prog 90 #[.int .u64 (u : Int), .int .i64 10] w (Ret (.string ⟨(Lib.decDigits u).toArray⟩) w) := by
  have hu64 : u < 18446744073709551616 := by omega
  have hnd20 : Lib.nDigits u ≤ 20 := by have := Lib.numDigits_eq u (by omega) hu64; split at this <;> omega
  have hal : Tryz.prog.arrayLen 142 = 24 := by kernel_rfl
  have hsl : ∀ W, (Instr.sliceAt 142 (.pointer (some ⟨w.heap.size, 0, none⟩)) none (some (.int .i64 (Lib.nDigits u : Int))) none).run Tryz.prog W = .ok (.slice (some ⟨w.heap.size, 0, none⟩) (Lib.nDigits u) 24) W := fun W => by
    rw [run_sliceAt_array_h W 142 ⟨w.heap.size, 0, none⟩ (by kernel_rfl) .i64 (Lib.nDigits u : Int) (by omega) (by rw [hal]; omega)]
    go_simp
  have hH0 := Lib.holds_zero0 w 142 (Lib.nDigits u) (by omega)
  have hfmt := Tryz.internal_strconv_formatBase10 w.heap.size 0 24 u (Array.replicate (Lib.nDigits u) 0) (w.alloc (.cells Lib.zeros24 142)) hH0 (by rw [Array.size_replicate]; exact Lib.lt_pow_nDigits u) hu64 (by rw [Array.size_replicate]; omega)
  rw [Array.size_replicate] at hfmt
  unfold Lib.zeros24 at hfmt hH0
  have HH0 := Lib.hid hH0
  have Hfmt := Lib.hid hfmt
  have Hnd := Lib.hid (Tryz.internal_strconv_numDigits u (by omega) hu64 (w.alloc (.cells #[.int .u8 0, .int .u8 0, .int .u8 0, .int .u8 0, .int .u8 0, .int .u8 0, .int .u8 0, .int .u8 0, .int .u8 0, .int .u8 0, .int .u8 0, .int .u8 0, .int .u8 0, .int .u8 0, .int .u8 0, .int .u8 0, .int .u8 0, .int .u8 0, .int .u8 0, .int .u8 0, .int .u8 0, .int .u8 0, .int .u8 0, .int .u8 0] 142)) (Lib.tabIs_alloc htab _))
  have hu3 : ¬ (u : Int) < 100 := by omega
  clear hH0 hal hfmt htab
  go_enter Tryz.func90, Tryz.ntmps90
  go_wp2_with fail
  refine Hnd.out.mono ?_
  rintro e w' ⟨rfl, rfl⟩
  clear Hnd
  go_wp2_with fail
  refine Hfmt.out.mono ?_
  rintro e w' ⟨rfl, k, v', dk, rfl, hF⟩
  have hcv : (convert 65 9 (.slice (some ⟨w.heap.size, 0, none⟩) (Lib.nDigits u) 24)).run Tryz.prog ((putRow (fun (b : UInt8) => Value.int .u8 (b.toNat : Int)) (w.alloc (.cells #[.int .u8 0, .int .u8 0, .int .u8 0, .int .u8 0, .int .u8 0, .int .u8 0, .int .u8 0, .int .u8 0, .int .u8 0, .int .u8 0, .int .u8 0, .int .u8 0, .int .u8 0, .int .u8 0, .int .u8 0, .int .u8 0, .int .u8 0, .int .u8 0, .int .u8 0, .int .u8 0, .int .u8 0, .int .u8 0, .int .u8 0, .int .u8 0] 142)) w.heap.size 0 dk).drewN k) = .ok (.string ⟨(Lib.decDigits u).toArray⟩) ((putRow (fun (b : UInt8) => Value.int .u8 (b.toNat : Int)) (w.alloc (.cells #[.int .u8 0, .int .u8 0, .int .u8 0, .int .u8 0, .int .u8 0, .int .u8 0, .int .u8 0, .int .u8 0, .int .u8 0, .int .u8 0, .int .u8 0, .int .u8 0, .int .u8 0, .int .u8 0, .int .u8 0, .int .u8 0, .int .u8 0, .int .u8 0, .int .u8 0, .int .u8 0, .int .u8 0, .int .u8 0, .int .u8 0, .int .u8 0] 142)) w.heap.size 0 dk).drewN k) := by
    have h := run_convert_bytes_back (P := Tryz.prog) ((putRow (fun (b : UInt8) => Value.int .u8 (b.toNat : Int)) (w.alloc (.cells #[.int .u8 0, .int .u8 0, .int .u8 0, .int .u8 0, .int .u8 0, .int .u8 0, .int .u8 0, .int .u8 0, .int .u8 0, .int .u8 0, .int .u8 0, .int .u8 0, .int .u8 0, .int .u8 0, .int .u8 0, .int .u8 0, .int .u8 0, .int .u8 0, .int .u8 0, .int .u8 0, .int .u8 0, .int .u8 0, .int .u8 0, .int .u8 0] 142)) w.heap.size 0 dk).drewN k) 65 9 5 ⟨w.heap.size, 0, none⟩ 24 (Lib.decDigits u) (by kernel_rfl) (by kernel_rfl) (by kernel_rfl) (fun j hj => by
      rw [Lib.row_is_numeral hF j hj, Lib.add_plain, World.cell?_drewN]
      exact cell?_putRow (fun (b : UInt8) => Value.int .u8 (b.toNat : Int)) _ w.heap.size 0 _ dk HH0.out (by rw [hF.size, Array.size_replicate]) j (by rw [hF.size]; rw [Lib.decDigits_length] at hj; exact hj))
    rw [Lib.decDigits_length] at h
    exact h
  obtain ⟨os, eo⟩ := Lib.fin_at w (.cells #[.int .u8 0, .int .u8 0, .int .u8 0, .int .u8 0, .int .u8 0, .int .u8 0, .int .u8 0, .int .u8 0, .int .u8 0, .int .u8 0, .int .u8 0, .int .u8 0, .int .u8 0, .int .u8 0, .int .u8 0, .int .u8 0, .int .u8 0, .int .u8 0, .int .u8 0, .int .u8 0, .int .u8 0, .int .u8 0, .int .u8 0, .int .u8 0] 142) dk k 0
  have HB : Hid (Below w.heap.size w ((putRow (fun (b : UInt8) => Value.int .u8 (b.toNat : Int)) (w.alloc (.cells #[.int .u8 0, .int .u8 0, .int .u8 0, .int .u8 0, .int .u8 0, .int .u8 0, .int .u8 0, .int .u8 0, .int .u8 0, .int .u8 0, .int .u8 0, .int .u8 0, .int .u8 0, .int .u8 0, .int .u8 0, .int .u8 0, .int .u8 0, .int .u8 0, .int .u8 0, .int .u8 0, .int .u8 0, .int .u8 0, .int .u8 0, .int .u8 0] 142)) w.heap.size 0 dk).drewN k)) := Lib.hid (by rw [eo]; exact below_grow (Below.refl _ _) (Nat.le_refl _) _ _)
  clear eo hF HH0 Hfmt
  go_wp2
  go_ret
  exact ⟨rfl, HB.out⟩
theorem fmtU10_any (u : Nat) (h2 : u < 18446744073709551616) (w : World) (htab : Lib.TabIs Tryz.prog w "internal/strconv.uint64pow10" .u64 Lib.pow10Tab) :
    Calls Tryz.prog 57 #[.int .u64 (u : Int), .int .i64 10] w (Ret (.string ⟨(Lib.decDigits u).toArray⟩) w) := by
  rcases Nat.lt_or_ge u 100 with h | h
  · refine (fmtU_small u h w).mono ?_
    rintro e w' ⟨rfl, rfl⟩
    exact ⟨rfl, Below.refl _ _⟩
  · have H := Lib.hid (iFmtU_big u h h2 w htab)
    generalize Lib.decDigits u = s at *
    clear htab
    go_enter Tryz.func57, Tryz.ntmps57
    go_wp2_with fail
    refine H.out.mono ?_
    rintro e w' ⟨rfl, hb⟩
    go_wp2_with fail
    go_ret
    exact ⟨rfl, hb⟩
theorem itoa_any (u : Nat) (h2 : u < 1000) (w : World) (htab : Lib.TabIs Tryz.prog w "internal/strconv.uint64pow10" .u64 Lib.pow10Tab) :
    Calls Tryz.prog 50 #[.int .i64 (u : Int)] w (Ret (.string ⟨(Lib.decDigits u).toArray⟩) w) := by
  refine (Tryz.strconv_Itoa (u : Int) (by omega) (by omega) w htab).mono ?_
  rintro e w' ⟨rfl, k, os, rfl⟩
  exact ⟨by rw [Lib.itoa_nonneg], below_grow (Below.refl _ _) (Nat.le_refl _) _ _⟩
theorem bits_any (u : Nat) (w : World) (hu : u < 65536) (h : T16 w) : Calls Tryz.prog 123 #[.slice none 0 0, .int .u64 (u : Int), .int .i64 16, .bool false, .bool false] w (Ret (.tuple #[.slice none 0 0, .string (hexS u)]) w) := by
  rcases Nat.lt_or_ge u 16 with h1 | h1
  · exact bits1_any u w (by omega) h1 h
  rcases Nat.lt_or_ge u 256 with h2 | h2
  · exact bits2_any u w h1 h2 h
  rcases Nat.lt_or_ge u 4096 with h3 | h3
  · exact bits3_any u w h2 h3 h
  · exact bits4_any u w h3 hu h
theorem iFmtU16_any (u : Nat) (w : World) (hu : u < 65536) (h : T16 w) : Calls Tryz.prog 90 #[.int .u64 (u : Int), .int .i64 16] w (Ret (.string (hexS u)) w) := by
  have H := Lib.hid fun wx (hb : Below w.heap.size w wx) => bits_any u wx hu (h.below hb)
  generalize hexS u = s at *
  clear h
  go_enter Tryz.func90, Tryz.ntmps90
  go_wp2_with fail
  refine (H.out _ (by first | exact Below.refl _ _ | exact below_alloc (Below.refl _ _) _)).mono ?_
  rintro e w' ⟨rfl, hb⟩
  go_wp2_with fail
  go_ret
  exact ⟨rfl, by first | exact hb | exact (below_alloc (Below.refl _ _) _).trans (hb.mono (by simp))⟩
theorem fmtU16_any (u : Nat) (w : World) (hu : u < 65536) (h : T16 w) : Calls Tryz.prog 57 #[.int .u64 (u : Int), .int .i64 16] w (Ret (.string (hexS u)) w) := by
  have H := Lib.hid (iFmtU16_any u w hu h)
  generalize hexS u = s at *
  clear h
  go_enter Tryz.func57, Tryz.ntmps57
  go_wp2_with fail
  refine H.out.mono ?_
  rintro e w' ⟨rfl, hb⟩
  go_wp2_with fail
  go_ret
  exact ⟨rfl, hb⟩
theorem iFmtI16_any (u : Nat) (w : World) (hu : u < 65536) (h : T16 w) : Calls Tryz.prog 88 #[.int .i64 (u : Int), .int .i64 16] w (Ret (.string (hexS u)) w) := by
  have H := Lib.hid fun wx (hb : Below w.heap.size w wx) => bits_any u wx hu (h.below hb)
  generalize hexS u = s at *
  have e1 : IntKind.u64.wrap (u : Int) = (u : Int) := by rw [IntKind.wrap_u64]; omega
  have e2 : ¬ (u : Int) < 0 := by omega
  clear h
  go_enter Tryz.func88, Tryz.ntmps88
  go_wp2_with fail
  refine (H.out _ (by first | exact Below.refl _ _ | exact below_alloc (Below.refl _ _) _)).mono ?_
  rintro e w' ⟨rfl, hb⟩
  go_wp2_with fail
  go_ret
  exact ⟨rfl, by first | exact hb | exact (below_alloc (Below.refl _ _) _).trans (hb.mono (by simp))⟩
theorem fmtI16_any (u : Nat) (w : World) (hu : u < 65536) (h : T16 w) : Calls Tryz.prog 53 #[.int .i64 (u : Int), .int .i64 16] w (Ret (.string (hexS u)) w) := by
  have H := Lib.hid (iFmtI16_any u w hu h)
  generalize hexS u = s at *
  clear h
  go_enter Tryz.func53, Tryz.ntmps53
  go_wp2_with fail
  refine H.out.mono ?_
  rintro e w' ⟨rfl, hb⟩
  go_wp2_with fail
  go_ret
  exact ⟨rfl, hb⟩
end Go.Proofs.YtcpafmndjcejjaaGreatDoor

namespace Go.Proofs.YtcpafmndjcejjaaGreatDoor
open Go.RowKit Go
set_option linter.unusedVariables false
end Go.Proofs.YtcpafmndjcejjaaGreatDoor

namespace Go.Proofs.YtcpafmndjcejjaaGreatDoor
open Go
set_option linter.unusedVariables false
/-- compared -/
def cN (a b : Nat) : Int := if a < b then -1 else if b < a then 1 else 0
def numA (six : Bool) (hi lo : Nat) : Nat := (if six = true then 1 else 0) * 2 ^ 128 + hi * 2 ^ 64 + lo
/-! ### Masks of whole numbers -/
theorem big_low (x y k : Nat) (hk : k ≤ 64) : (x + 2 ^ 64 * y) % 2 ^ k = x % 2 ^ k := by
  have e : 2 ^ 64 = 2 ^ k * 2 ^ (64 - k) := by rw [← Nat.pow_add, show k + (64 - k) = 64 by omega]
  rw [e, Nat.mul_assoc, Nat.add_mul_mod_self_left]
theorem big_high (x y k : Nat) (hx : x < 2 ^ 64) (hk : 64 ≤ k) : (x + 2 ^ 64 * y) % 2 ^ k = x + 2 ^ 64 * (y % 2 ^ (k - 64)) := by
  have e : 2 ^ k = 2 ^ 64 * 2 ^ (k - 64) := by rw [← Nat.pow_add, show 64 + (k - 64) = k by omega]
  rw [e, Nat.mod_mul, Nat.add_mul_mod_self_left, Nat.mod_eq_of_lt hx, Nat.add_mul_div_left _ _ (by decide : 0 < 2 ^ 64), Nat.div_eq_of_lt hx, Nat.zero_add]
theorem clr_big (hi lo k : Nat) (hl : lo < 2 ^ 64) (hk : k ≤ 128) : clr hi (min (k - 64) 64) * 2 ^ 64 + clr lo (min k 64) = clr (hi * 2 ^ 64 + lo) k := by
  unfold clr
  rw [show hi * 2 ^ 64 + lo = lo + 2 ^ 64 * hi by omega]
  rcases Nat.le_total k 64 with h | h
  · rw [big_low lo hi k h, Nat.min_eq_left h, show k - 64 = 0 by omega, Nat.zero_min, Nat.pow_zero, Nat.mod_one]
    have := Nat.mod_le lo (2 ^ k)
    omega
  · rw [big_high lo hi k hl h, Nat.min_eq_right h, Nat.min_eq_left (by omega), Nat.mod_eq_of_lt hl]
    have := Nat.mod_le hi (2 ^ (k - 64))
    omega
/-! ### Prefixes -/
/-- a right address -/
def AOK (six : Bool) (hi lo : Nat) : Prop := hi < 2 ^ 64 ∧ lo < 2 ^ 64 ∧ (six = false → hi = 0 ∧ lo < 2 ^ 32)
/-- a right prefix of n bits -/
def POK (six : Bool) (hi lo n : Nat) : Prop := AOK six hi lo ∧ n ≤ lenN six ∧ mHi six hi n = hi ∧ mLo six lo n = lo
def xA (hi lo : Nat) : Nat := hi * 2 ^ 64 + lo
theorem mask_x (six : Bool) (hi lo n : Nat) (hl : lo < 2 ^ 64) : xA (mHi six hi n) (mLo six lo n) = clr (xA hi lo) (lenN six - n) := by
  rw [mHi_clr, mLo_clr]
  exact clr_big hi lo (lenN six - n) hl (by have := lenN_le six; omega)
theorem numA_x (six : Bool) (hi lo : Nat) : numA six hi lo = (if six = true then 1 else 0) * 2 ^ 128 + xA hi lo := by
  unfold numA xA; omega
theorem AOK.lt {six : Bool} {hi lo : Nat} (h : AOK six hi lo) : xA hi lo < 2 ^ 128 ∧ (six = false → xA hi lo < 2 ^ 32) := by
  obtain ⟨h1, h2, h3⟩ := h
  unfold xA
  refine ⟨by omega, fun e => ?_⟩
  obtain ⟨h4, h5⟩ := h3 e
  omega
theorem POK.x {six : Bool} {hi lo n : Nat} (h : POK six hi lo n) : clr (xA hi lo) (lenN six - n) = xA hi lo := by
  rw [← mask_x six hi lo n h.1.2.1, h.2.2.1, h.2.2.2]
theorem fHi_lt (six : Bool) (hi n : Nat) (h : hi < 2 ^ 64) : fHi six hi n < 2 ^ 64 := by
  rw [fHi_fil, fil_or]
  refine Nat.or_lt_two_pow (Nat.lt_of_le_of_lt (clr_le _ _) h) ?_
  have : 2 ^ min (lenN six - n - 64) 64 ≤ 2 ^ 64 := Nat.pow_le_pow_right (by decide) (Nat.min_le_right _ _)
  have := Nat.one_le_two_pow (n := min (lenN six - n - 64) 64)
  omega
theorem fLo_lt (six : Bool) (lo n : Nat) (h : lo < 2 ^ 64) : fLo six lo n < 2 ^ 64 := by
  rw [fLo_fil, fil_or]
  refine Nat.or_lt_two_pow (Nat.lt_of_le_of_lt (clr_le _ _) h) ?_
  have : 2 ^ min (lenN six - n) 64 ≤ 2 ^ 64 := Nat.pow_le_pow_right (by decide) (Nat.min_le_right _ _)
  have := Nat.one_le_two_pow (n := min (lenN six - n) 64)
  omega
/-- the last address of a right prefix is right -/
theorem POK.last {six : Bool} {hi lo n : Nat} (h : POK six hi lo n) : AOK six (fHi six hi n) (fLo six lo n) := by
  refine ⟨fHi_lt _ _ _ h.1.1, fLo_lt _ _ _ h.1.2.1, fun e => ?_⟩
  subst e
  obtain ⟨h1, h2⟩ := h.1.2.2 rfl
  subst h1
  have hn : n ≤ 32 := h.2.1
  constructor
  · rw [fHi_fil]
    have : min (lenN false - n - 64) 64 = 0 := by show min (32 - n - 64) 64 = 0; omega
    rw [this, fil_zero]
  · rw [fLo_fil, fil_or]
    have hk : min (lenN false - n) 64 ≤ 32 := by show min (32 - n) 64 ≤ 32; omega
    have h3 : 2 ^ min (lenN false - n) 64 ≤ 2 ^ 32 := Nat.pow_le_pow_right (by decide) hk
    have := Nat.one_le_two_pow (n := min (lenN false - n) 64)
    exact Nat.or_lt_two_pow (Nat.lt_of_le_of_lt (clr_le _ _) h2) (by omega)
/-! ### What two prefixes have in common -/
def down (E : Nat → Bool) : Nat → Nat
  | 0 => 0
  | n + 1 => if E (n + 1) = true then n + 1 else down E n
end Go.Proofs.YtcpafmndjcejjaaGreatDoor

namespace Go.Proofs.YtcpafmndjcejjaaGreatDoor
open Go.RowKit Go
set_option linter.unusedVariables false

def U64N (x : Nat) : Prop := x < 18446744073709551616
theorem nat_of_U64 {x : Int} (h : U64 x) : ∃ n : Nat, x = (n : Int) ∧ U64N n := by
  obtain ⟨n, rfl⟩ := Int.eq_ofNat_of_zero_le h.1
  have h1 := h.2
  exact ⟨n, rfl, by unfold U64N; omega⟩
end Go.Proofs.YtcpafmndjcejjaaGreatDoor
