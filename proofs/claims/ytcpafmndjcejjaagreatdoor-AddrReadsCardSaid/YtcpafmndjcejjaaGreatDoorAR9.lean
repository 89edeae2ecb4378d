/-
  The contract of slices.SortFunc at a slice of structs over this program, as the kit's lay-plain.mjs prints it. Condition: the slice has no element, or its cells are known, fewer than 2^62 of them.
  The contract of slices.SortFunc at a slice of structs over this program, as the kit's lay-plain.mjs prints it. Condition: the slice has no element, or its cells are known, fewer than 2^62 of them.
  Rows of prefixes, of ranges, of spans: how they lie; the comparisons of the two sorts; the sorts; the copies.
  The copies and the sorts of rows of ranges (program) and of spans (reference).
  span.touches: whether a range that does not begin earlier has addresses in common with another one, or lies next to it.
  Several cells of one element of an own row set, one after the other.
  span.joined: ranges in order, put together where they touch.
  span.Of: the ranges of prefixes, in any order.
-/
import Derived.Shelf.SlSortCmp.NoneTotal
import Derived.Test.YtcpafmndjcejjaaGreatDoorProg
import Derived.Test.YtcpafmndjcejjaaGreatDoorAR8
import Derived.Test.YtcpafmndjcejjaaGreatDoorAR5
import Derived.WalkSpells
import Derived.Deep.Cut
import Derived.Deep.Light
set_option linter.unusedVariables false
namespace Go.Proofs
open Go.Shelf
def Tryz.pdqRg_ren : Go.Shelf.Ren := ⟨fun | 14 => 170 | 20 => 177 | 21 => 178 | 22 => 179 | 23 => 180 | 24 => 181 | 25 => 182 | 26 => 183 | 27 => 184 | 46 => 194 | 47 => 195 | 48 => 196 | 49 => 197 | 50 => 198 | 15 => 171 | 57 => 202 | 28 => 185 | 29 => 155 | n => n, fun | 24 => 131 | 22 => 106 | 3 => 3 | 25 => 164 | 4 => 4 | 0 => 0 | 46 => 197 | 45 => 196 | 50 => 81 | 66 => 209 | 39 => 61 | 55 => 27 | 70 => 213 | 76 => 217 | 77 => 96 | 53 => 172 | 5 => 5 | 9 => 9 | n => n, fun | n => n⟩
theorem Tryz.pdqRg : Go.Proofs.SlLaysF0.n14 Tryz.prog Tryz.pdqRg_ren := {
  mixed := by kernel_rfl
  f14 := ⟨Tryz.f170.name, by decide, Tryz.func170.trans (congrArg some (by kernel_rfl))⟩
  f15 := Tryz.func171.trans (congrArg some (by kernel_rfl))
  f20 := ⟨Tryz.f177.name, by decide, Tryz.func177.trans (congrArg some (by kernel_rfl))⟩
  f21 := ⟨Tryz.f178.name, by decide, Tryz.func178.trans (congrArg some (by kernel_rfl))⟩
  f22 := ⟨Tryz.f179.name, by decide, Tryz.func179.trans (congrArg some (by kernel_rfl))⟩
  f23 := ⟨Tryz.f180.name, by decide, Tryz.func180.trans (congrArg some (by kernel_rfl))⟩
  f24 := ⟨Tryz.f181.name, by decide, Tryz.func181.trans (congrArg some (by kernel_rfl))⟩
  f25 := ⟨Tryz.f182.name, by decide, Tryz.func182.trans (congrArg some (by kernel_rfl))⟩
  f26 := ⟨Tryz.f183.name, by decide, Tryz.func183.trans (congrArg some (by kernel_rfl))⟩
  f27 := ⟨Tryz.f184.name, by decide, Tryz.func184.trans (congrArg some (by kernel_rfl))⟩
  f28 := Tryz.func185.trans (congrArg some (by kernel_rfl))
  f29 := Tryz.func155.trans (congrArg some (by kernel_rfl))
  f46 := ⟨Tryz.f194.name, by decide, Tryz.func194.trans (congrArg some (by kernel_rfl))⟩
  f47 := Tryz.func195.trans (congrArg some (by kernel_rfl))
  f48 := Tryz.func196.trans (congrArg some (by kernel_rfl))
  f49 := ⟨Tryz.f197.name, by decide, Tryz.func197.trans (congrArg some (by kernel_rfl))⟩
  f50 := ⟨Tryz.f198.name, by decide, Tryz.func198.trans (congrArg some (by kernel_rfl))⟩
  f57 := ⟨Tryz.f202.name, by decide, Tryz.func202.trans (congrArg some (by kernel_rfl))⟩
  t0 := Tryz.underlying0
  a0 := Tryz.isAgg0
  z0 := Tryz.sizeOf0
  v0 := Tryz.zeroValue0
  t3 := Tryz.underlying3
  a3 := Tryz.isAgg3
  z3 := Tryz.sizeOf3
  v3 := Tryz.zeroValue3
  t4 := Tryz.underlying4
  a4 := Tryz.isAgg4
  z4 := Tryz.sizeOf4
  v4 := Tryz.zeroValue4
  t5 := Tryz.underlying5
  a5 := Tryz.isAgg5
  z5 := Tryz.sizeOf5
  v5 := Tryz.zeroValue5
  t9 := Tryz.underlying9
  a9 := Tryz.isAgg9
  z9 := Tryz.sizeOf9
  v9 := Tryz.zeroValue9
  t22 := Tryz.underlying106
  a22 := Tryz.isAgg106
  z22 := Tryz.sizeOf106
  v22 := Tryz.zeroValue106
  t25 := Tryz.underlying164
  a25 := Tryz.isAgg164
  z25 := Tryz.sizeOf164
  v25 := Tryz.zeroValue164
  t39 := Tryz.underlying61
  a39 := Tryz.isAgg61
  z39 := Tryz.sizeOf61
  v39 := Tryz.zeroValue61
  t45 := Tryz.underlying196
  a45 := Tryz.isAgg196
  z45 := Tryz.sizeOf196
  v45 := Tryz.zeroValue196
  t46 := Tryz.underlying197
  a46 := Tryz.isAgg197
  z46 := Tryz.sizeOf197
  v46 := Tryz.zeroValue197
  t50 := Tryz.underlying81
  a50 := Tryz.isAgg81
  z50 := Tryz.sizeOf81
  v50 := Tryz.zeroValue81
  t53 := Tryz.underlying172
  a53 := Tryz.isAgg172
  z53 := Tryz.sizeOf172
  v53 := Tryz.zeroValue172
  t55 := Tryz.underlying27
  a55 := Tryz.isAgg27
  z55 := Tryz.sizeOf27
  v55 := Tryz.zeroValue27
  t66 := Tryz.underlying209
  a66 := Tryz.isAgg209
  z66 := Tryz.sizeOf209
  v66 := Tryz.zeroValue209
  t70 := Tryz.underlying213
  a70 := Tryz.isAgg213
  z70 := Tryz.sizeOf213
  v70 := Tryz.zeroValue213
  t76 := Tryz.underlying217
  a76 := Tryz.isAgg217
  z76 := Tryz.sizeOf217
  v76 := Tryz.zeroValue217
  t77 := Tryz.underlying96
  a77 := Tryz.isAgg96
  z77 := Tryz.sizeOf96
  v77 := Tryz.zeroValue96 }
open Go.Sort Go.RowKit in
theorem Tryz.slices_pdq_Rg {α : Type} [Inhabited α] (enc : α → List Value) (hk : ∀ x, (enc x).length = 6) (h1 : ∀ x, ∀ v ∈ enc x, v.oneCell' = true) (cf : α → α → Int) (hO : SWO (ltOf cf)) (g : Nat) (cb : Array Value) (blk off cap lim : Nat) (d : Array α) (w : World)
    (eg : ∀ args w, (callFunc g args).run Tryz.prog w = .ok (.enter g args) w) (hcmp : CmpLays Tryz.prog g cb enc 6 cf blk off d.size w) (hH : HoldsK enc 6 w blk off d) (hblk : blk < w.heap.size) (hsz : d.size < 4611686018427387904) (hlim : lim < 4611686018427387904) :
    Calls Tryz.prog 170 #[.slice (some ⟨blk, off, none⟩) d.size cap, .int .i64 (0 : Nat), .int .i64 (d.size : Nat), .int .i64 (lim : Nat), .func (.func g) #[] cb] w fun e w' =>
      e = .returned (.tuple #[]) ∧ ∃ d' n os, PermIn 0 d.size d d' ∧ SortedIn (ltOf cf) 0 d.size d' ∧ w' = sortWorldK enc 6 w blk off n d' os :=
  (AnyQ.pdqsortCmpFunc_all Tryz.pdqRg 6 Tryz.isAgg131 Tryz.sizeOf131 enc cf g cb hO blk off cap d w eg hcmp ⟨hk, h1, hH, hblk⟩ (d.size + 1) 0 d.size lim d w (by omega) rfl (SWK.start hH) (Nat.zero_le _) (Nat.le_refl _) hsz hlim (Or.inl rfl)).mono fun _ _ ⟨he, n, os, hw⟩ =>
    have h := pdq_sorts (ltOf cf) hO d 0 d.size lim true true (Nat.zero_le _) (Nat.le_refl _) (Or.inl rfl)
    ⟨he, _, n, os, h.1, h.2, hw⟩
open Go.Sort Go.RowKit in
theorem Tryz.slices_pdq_Rg_none (p : Option Addr) (cap : Nat) (lim : Int) (fv : Value) (w : World) :
    Calls Tryz.prog 170 #[.slice p 0 cap, .int .i64 0, .int .i64 0, .int .i64 lim, fv] w fun e w' => e = .returned (.tuple #[]) ∧ w' = w :=
  AnyF.pdqsortCmpFunc_none Tryz.pdqRg p cap lim fv w
end Go.Proofs

namespace Go.Proofs
open Go.Shelf
def Tryz.sortQs_ren : Go.Shelf.Ren := ⟨fun | 6 => 151 | 15 => 171 | 14 => 172 | 28 => 185 | 29 => 155 | 20 => 186 | 21 => 187 | 22 => 188 | 23 => 189 | 24 => 190 | 25 => 191 | 26 => 192 | 27 => 193 | 46 => 199 | 47 => 195 | 48 => 196 | 49 => 200 | 50 => 201 | 57 => 203 | n => n, fun | 22 => 114 | 24 => 138 | 25 => 168 | 3 => 3 | 39 => 61 | 0 => 0 | 53 => 172 | 55 => 27 | 4 => 4 | 46 => 197 | 45 => 196 | 50 => 81 | 5 => 5 | 9 => 9 | 66 => 209 | 70 => 213 | 76 => 217 | 77 => 96 | n => n, fun | n => n⟩
theorem Tryz.sortQs : Go.Proofs.SlLaysF0.n6 Tryz.prog Tryz.sortQs_ren := {
  mixed := by kernel_rfl
  f6 := ⟨Tryz.f151.name, by decide, Tryz.func151.trans (congrArg some (by kernel_rfl))⟩
  f14 := ⟨Tryz.f172.name, by decide, Tryz.func172.trans (congrArg some (by kernel_rfl))⟩
  f15 := Tryz.func171.trans (congrArg some (by kernel_rfl))
  f20 := ⟨Tryz.f186.name, by decide, Tryz.func186.trans (congrArg some (by kernel_rfl))⟩
  f21 := ⟨Tryz.f187.name, by decide, Tryz.func187.trans (congrArg some (by kernel_rfl))⟩
  f22 := ⟨Tryz.f188.name, by decide, Tryz.func188.trans (congrArg some (by kernel_rfl))⟩
  f23 := ⟨Tryz.f189.name, by decide, Tryz.func189.trans (congrArg some (by kernel_rfl))⟩
  f24 := ⟨Tryz.f190.name, by decide, Tryz.func190.trans (congrArg some (by kernel_rfl))⟩
  f25 := ⟨Tryz.f191.name, by decide, Tryz.func191.trans (congrArg some (by kernel_rfl))⟩
  f26 := ⟨Tryz.f192.name, by decide, Tryz.func192.trans (congrArg some (by kernel_rfl))⟩
  f27 := ⟨Tryz.f193.name, by decide, Tryz.func193.trans (congrArg some (by kernel_rfl))⟩
  f28 := Tryz.func185.trans (congrArg some (by kernel_rfl))
  f29 := Tryz.func155.trans (congrArg some (by kernel_rfl))
  f46 := ⟨Tryz.f199.name, by decide, Tryz.func199.trans (congrArg some (by kernel_rfl))⟩
  f47 := Tryz.func195.trans (congrArg some (by kernel_rfl))
  f48 := Tryz.func196.trans (congrArg some (by kernel_rfl))
  f49 := ⟨Tryz.f200.name, by decide, Tryz.func200.trans (congrArg some (by kernel_rfl))⟩
  f50 := ⟨Tryz.f201.name, by decide, Tryz.func201.trans (congrArg some (by kernel_rfl))⟩
  f57 := ⟨Tryz.f203.name, by decide, Tryz.func203.trans (congrArg some (by kernel_rfl))⟩
  t0 := Tryz.underlying0
  a0 := Tryz.isAgg0
  z0 := Tryz.sizeOf0
  v0 := Tryz.zeroValue0
  t3 := Tryz.underlying3
  a3 := Tryz.isAgg3
  z3 := Tryz.sizeOf3
  v3 := Tryz.zeroValue3
  t4 := Tryz.underlying4
  a4 := Tryz.isAgg4
  z4 := Tryz.sizeOf4
  v4 := Tryz.zeroValue4
  t5 := Tryz.underlying5
  a5 := Tryz.isAgg5
  z5 := Tryz.sizeOf5
  v5 := Tryz.zeroValue5
  t9 := Tryz.underlying9
  a9 := Tryz.isAgg9
  z9 := Tryz.sizeOf9
  v9 := Tryz.zeroValue9
  t22 := Tryz.underlying114
  a22 := Tryz.isAgg114
  z22 := Tryz.sizeOf114
  v22 := Tryz.zeroValue114
  t25 := Tryz.underlying168
  a25 := Tryz.isAgg168
  z25 := Tryz.sizeOf168
  v25 := Tryz.zeroValue168
  t39 := Tryz.underlying61
  a39 := Tryz.isAgg61
  z39 := Tryz.sizeOf61
  v39 := Tryz.zeroValue61
  t45 := Tryz.underlying196
  a45 := Tryz.isAgg196
  z45 := Tryz.sizeOf196
  v45 := Tryz.zeroValue196
  t46 := Tryz.underlying197
  a46 := Tryz.isAgg197
  z46 := Tryz.sizeOf197
  v46 := Tryz.zeroValue197
  t50 := Tryz.underlying81
  a50 := Tryz.isAgg81
  z50 := Tryz.sizeOf81
  v50 := Tryz.zeroValue81
  t53 := Tryz.underlying172
  a53 := Tryz.isAgg172
  z53 := Tryz.sizeOf172
  v53 := Tryz.zeroValue172
  t55 := Tryz.underlying27
  a55 := Tryz.isAgg27
  z55 := Tryz.sizeOf27
  v55 := Tryz.zeroValue27
  t66 := Tryz.underlying209
  a66 := Tryz.isAgg209
  z66 := Tryz.sizeOf209
  v66 := Tryz.zeroValue209
  t70 := Tryz.underlying213
  a70 := Tryz.isAgg213
  z70 := Tryz.sizeOf213
  v70 := Tryz.zeroValue213
  t76 := Tryz.underlying217
  a76 := Tryz.isAgg217
  z76 := Tryz.sizeOf217
  v76 := Tryz.zeroValue217
  t77 := Tryz.underlying96
  a77 := Tryz.isAgg96
  z77 := Tryz.sizeOf96
  v77 := Tryz.zeroValue96 }
open Go.Sort Go.RowKit in
theorem Tryz.slices_SortFunc_Qs {α : Type} [Inhabited α] (enc : α → List Value) (hk : ∀ x, (enc x).length = 18) (h1 : ∀ x, ∀ v ∈ enc x, v.oneCell' = true) (cf : α → α → Int) (hO : SWO (ltOf cf)) (g : Nat) (cb : Array Value) (blk off cap : Nat) (d : Array α) (w : World)
    (eg : ∀ args w, (callFunc g args).run Tryz.prog w = .ok (.enter g args) w) (hcmp : CmpLays Tryz.prog g cb enc 18 cf blk off d.size w) (hH : HoldsK enc 18 w blk off d) (hblk : blk < w.heap.size) (hsz : d.size < 4611686018427387904) :
    Calls Tryz.prog 151 #[.slice (some ⟨blk, off, none⟩) d.size cap, .func (.func g) #[] cb] w fun e w' =>
      e = .returned (.tuple #[]) ∧ ∃ d' n os, PermIn 0 d.size d d' ∧ SortedIn (ltOf cf) 0 d.size d' ∧ w' = sortWorldK enc 18 w blk off n d' os :=
  AnyQ.slices_SortFunc Tryz.sortQs 18 Tryz.isAgg138 Tryz.sizeOf138 enc hk h1 cf hO g cb blk off cap d w eg hcmp hH hblk hsz
open Go.Sort Go.RowKit in
theorem Tryz.slices_SortFunc_Qs_none (p : Option Addr) (cap : Nat) (fv : Value) (w : World) :
    Calls Tryz.prog 151 #[.slice p 0 cap, fv] w fun e w' => e = .returned (.tuple #[]) ∧ w' = w :=
  AnyF.slices_SortFunc_none Tryz.sortQs p cap fv w
end Go.Proofs

namespace Go.Proofs.YtcpafmndjcejjaaGreatDoor
open Go.RowKit Go Go.Sort
set_option linter.unusedVariables false

/-- a prefix as it lies: six, hi, lo, bits -/
abbrev Pf := Bool × Nat × Nat × Int
def pfC (p : Pf) : List Value := [.bool p.1, .int .u64 ((p.2.1 : Nat) : Int), .int .u64 ((p.2.2.1 : Nat) : Int), .int .i64 p.2.2.2]
/-! ### The comparisons -/
def nmN (x : Nat) : Nat := numA (sixN x) (hiN x) (loN x)
def keyRg (p : Sp) : Nat := nmN p.1
def keyQs (p : Sp) : Nat := p.1 % 65536 ^ 9
end Go.Proofs.YtcpafmndjcejjaaGreatDoor

namespace Go.Proofs.YtcpafmndjcejjaaGreatDoor
open Go.RowKit Go Go.Sort
set_option linter.unusedVariables false
end Go.Proofs.YtcpafmndjcejjaaGreatDoor

namespace Go.Proofs.YtcpafmndjcejjaaGreatDoor
open Go.RowKit Go
set_option linter.unusedVariables false

/-- a right range -/
structure VR (p : Sp) : Prop where
  a : VN p.1
  b : VN p.2
  s : sixN p.1 = sixN p.2
  le : p.1 ≤ p.2
theorem nm_VN {x : Nat} (h : VN x) : nmN x = x := num_aN h
theorem VR.key {p : Sp} (h : VR p) : keyRg p = p.1 ∧ keyQs p = p.1 := ⟨nm_VN h.a, Nat.mod_eq_of_lt (by have := h.a.lt9; omega)⟩
end Go.Proofs.YtcpafmndjcejjaaGreatDoor

namespace Go.Proofs.YtcpafmndjcejjaaGreatDoor
open Go.RowKit Go
set_option linter.unusedVariables false

theorem flat_set (K : Nat) : ∀ (LL : List (List Value)) (i j : Nat) (xs : List Value) (v : Value), (∀ l ∈ LL, l.length = K) → LL[i]? = some xs → j < K → LL.flatten.set (i * K + j) v = (LL.set i (xs.set j v)).flatten
  | [], i, j, xs, v, _, h, _ => by simp at h
  | l :: LL, 0, j, xs, v, hl, h, hj => by
    simp at h
    subst h
    rw [Nat.zero_mul, Nat.zero_add, List.flatten_cons, List.set_append_left _ _ (by rw [hl l (List.mem_cons_self ..)]; exact hj)]
    rfl
  | l :: LL, i + 1, j, xs, v, hl, h, hj => by
    have := flat_set K LL i j xs v (fun l h => hl l (List.mem_cons_of_mem _ h)) (by simpa using h) hj
    have hk := hl l (List.mem_cons_self ..)
    rw [List.flatten_cons, List.set_append_right _ _ (by rw [hk, Nat.add_mul]; omega), hk, show (i + 1) * K + j - K = i * K + j by rw [Nat.add_mul]; omega, this]
    rfl
theorem raw_set {w : World} {B ty K g n c : Nat} {xs : List Value} (h : w.ownsRow B ty K (.slice (some ⟨g, 0, none⟩) n c) n xs) (t : Nat) (v : Value) : (w.setCell ⟨g, t, none⟩ v).ownsRow B ty K (.slice (some ⟨g, 0, none⟩) n c) n (xs.set t v) := by
  rcases h with ⟨hl, ⟨hv, _⟩ | ⟨g2, c2, cur, hv, hb, hg, hc, hm, hs, ht⟩⟩
  · cases hv
  · simp at hv
    obtain ⟨rfl, rfl⟩ := hv
    refine ⟨by rw [List.length_set]; exact hl, .inr ⟨g, c, cur.setIfInBounds t v, rfl, hb, heap_setCell_same w g _ cur _ _ hg, hc, hm, by simpa using hs, ?_⟩⟩
    rw [Array.toList_setIfInBounds, List.take_set, ht]
section
variable {α : Type} {E : Lay α}
theorem Lay.all_flat (E : Lay α) (L : List α) : E.all L = (L.map E.enc).flatten := by simp [Lay.all, List.flatMap]
theorem Lay.all_set3 (E : Lay α) (L : List α) (i j : Nat) (x y : α) (v0 v1 v2 : Value) (hx : L[i]? = some x) (hj : j + 2 < E.K) (hy : E.enc y = (((E.enc x).set j v0).set (j + 1) v1).set (j + 2) v2) :
    (((E.all L).set (i * E.K + j) v0).set (i * E.K + (j + 1)) v1).set (i * E.K + (j + 2)) v2 = E.all (L.set i y) := by
  have hi := (List.getElem?_eq_some_iff.1 hx).1
  have hm : (L.map E.enc)[i]? = some (E.enc x) := by rw [List.getElem?_map, hx]; rfl
  have hk : ∀ l ∈ L.map E.enc, l.length = E.K := fun l hl => by obtain ⟨z, _, rfl⟩ := List.mem_map.1 hl; exact E.len z
  have hks : ∀ (LL : List (List Value)) (z : List Value), (∀ l ∈ LL, l.length = E.K) → z.length = E.K → ∀ l ∈ LL.set i z, l.length = E.K := fun LL z h hz l hl => by
    rcases List.mem_or_eq_of_mem_set hl with h1 | rfl
    · exact h l h1
    · exact hz
  have hg : ∀ (LL : List (List Value)) (z : List Value), i < LL.length → (LL.set i z)[i]? = some z := fun LL z h => by simp [h]
  have hl := E.len x
  rw [E.all_flat, flat_set E.K _ i j _ v0 hk hm (by omega),
    flat_set E.K _ i (j + 1) _ v1 (hks _ _ hk (by simpa using hl)) (hg _ _ (by simpa using hi)) (by omega),
    flat_set E.K _ i (j + 2) _ v2 (hks _ _ (hks _ _ hk (by simpa using hl)) (by simpa using hl)) (hg _ _ (by simpa using hi)) (by omega),
    List.set_set, List.set_set, ← hy, E.all_flat, List.map_set]
theorem OwnK.set3 {w : World} {B g n c : Nat} {L : List α} (h : OwnK E w B (.slice (some ⟨g, 0, none⟩) n c) L) {i j : Nat} {x y : α} (v0 v1 v2 : Value) (hx : L[i]? = some x) (hj : j + 2 < E.K) (hy : E.enc y = (((E.enc x).set j v0).set (j + 1) v1).set (j + 2) v2) :
    OwnK E (((w.setCell ⟨g, i * E.K + j, none⟩ v0).setCell ⟨g, i * E.K + (j + 1), none⟩ v1).setCell ⟨g, i * E.K + (j + 2), none⟩ v2) B (.slice (some ⟨g, 0, none⟩) n c) (L.set i y) := by
  obtain ⟨rfl, _⟩ := h.block
  have := raw_set (raw_set (raw_set h (i * E.K + j) v0) (i * E.K + (j + 1)) v1) (i * E.K + (j + 2)) v2
  rw [E.all_set3 L i j x y v0 v1 v2 hx hj hy] at this
  show World.ownsRow _ _ _ _ _ _ _
  rw [List.length_set]
  exact this
end
end Go.Proofs.YtcpafmndjcejjaaGreatDoor

namespace Go.Proofs.YtcpafmndjcejjaaGreatDoor
open Go.RowKit Go
set_option linter.unusedVariables false
end Go.Proofs.YtcpafmndjcejjaaGreatDoor

namespace Go.Proofs.YtcpafmndjcejjaaGreatDoor
open Go.RowKit Go
set_option linter.unusedVariables false

/-- a prefix without a fault -/
structure OkPf (p : Pf) : Prop where
  nn : p.2.2.2 = (p.2.2.2.toNat : Int)
  ok : POK p.1 p.2.1 p.2.2.1 p.2.2.2.toNat
def nuP (p : Pf) : Nat := numA p.1 p.2.1 p.2.2.1
theorem OkPf.num {p : Pf} (h : OkPf p) : VN (nuP p) ∧ sixN (nuP p) = p.1 ∧ hiN (nuP p) = p.2.1 ∧ loN (nuP p) = p.2.2.1 := aN_num h.ok.1
theorem OkPf.bits {p : Pf} (h : OkPf p) : p.2.2.2.toNat ≤ LN (nuP p) := by
  rw [LN_six, h.num.2.1]
  exact h.ok.2.1
theorem OkPf.cells {p : Pf} (h : OkPf p) : pfC p = (pN (nuP p) (p.2.2.2.toNat : Int)).toList := by
  obtain ⟨_, a, b, c⟩ := h.num
  unfold pN pfC
  rw [a, b, c, ← h.nn]
theorem OkPf.clr {p : Pf} (h : OkPf p) : clr (nuP p) (LN (nuP p) - p.2.2.2.toNat) = nuP p := by
  have e := mask_num (n := p.2.2.2.toNat) h.ok.1
  rw [h.ok.2.2.1, h.ok.2.2.2] at e
  rw [LN_six, h.num.2.1]
  exact e.symm
end Go.Proofs.YtcpafmndjcejjaaGreatDoor
