/-
  The text of a set: SetLines of the reference, SetText of the program.
-/
import Derived.Test.YtcpafmndjcejjaaGreatDoorSE41
import Derived.Test.YtcpafmndjcejjaaGreatDoorSE42
import Derived.Test.YtcpafmndjcejjaaGreatDoorSE43
import Derived.Test.YtcpafmndjcejjaaGreatDoorSE44
set_option linter.unusedVariables false
namespace Go.Proofs.YtcpafmndjcejjaaGreatDoor
open Go.RowKit Go Go.Sort
set_option linter.unusedVariables false

theorem bld_later {B b : Nat} {bs : List Value} {w w' : World} (h : Lib.IsBuilder 67 5 B b bs w) (hb : Below w.heap.size w w') : Lib.IsBuilder 67 5 B b bs w' := by
  have key : ∀ p, Lib.BuilderAt 67 5 B b p bs w → Lib.BuilderAt 67 5 B b p bs w' := fun p hp => by
    have hlt := hp.lt
    obtain ⟨h1, v, h2, h3, h4⟩ := hp
    exact ⟨h1, v, (hb.block b hlt).trans h2, own_later h3 hb, h4⟩
  rcases h with h | h
  · exact .inl (key _ h)
  · exact .inr (key _ h)
set_option maxRecDepth 100000 in
set_option maxHeartbeats 4000000 in
theorem setLines_any (ad : Option Addr) (n c : Nat) (L : List Pf) (w : World) (h : RdK layPf w ad L) (hn : L.length = n) (hs : n ≤ 1000) (hk : ∀ p ∈ L, OkPf p) (ht : Tabs w) :
    Calls Tryz.prog 14 #[.slice ad n c] w (Ret (.string (strL (setT L))) w) := by
  have H0 := Lib.hid h
  have Hn := Lib.hid hn
  have Hk := Lib.hid hk
  have HT := Lib.hid ht
  have HE : Hid (setT (L.take n) = setT L) := Lib.hid (by rw [← hn, List.take_length])
  have HZ : Hid (setT (L.take 0) = []) := Lib.hid rfl
  clear h hn hk ht
  generalize setT L = ST at *
  go_enter Tryz.func14, Tryz.ntmps14
  go_wp2_with fail
  go_loopw [3, 5, 8] (fun sv s5 i wr => ∃ (k : Nat) (S : ByteArray), k ≤ n ∧ i = .int .i64 (k : Int) ∧ sv = .string S ∧ Hid (S = strL (setT (L.take k))) ∧ Hid (S.size ≤ 805 * k) ∧ Hid (Below w.heap.size w wr)) (fun _ _ i _ => n - (intOf i).toNat)
  case atStart => exact ⟨0, _, Nat.zero_le _, rfl, rfl, Lib.hid (by rw [HZ.out]; rfl), Lib.hid (by show 0 ≤ _; omega), Lib.hid (Below.refl _ _)⟩
  case round =>
    obtain ⟨k, S, hk, rfl, rfl, HS, HSz, HB⟩ := hrel
    by_cases hlt : k < n
    · have hS : k < L.length := by rw [Hn.out]; exact hlt
      obtain ⟨p, hp⟩ : ∃ p, L[k]? = some p := ⟨_, List.getElem?_eq_getElem hS⟩
      have hok := Hk.out p (List.mem_of_getElem? hp)
      have hTk := setT_take hp
      have hbt : p.2.2.2.toNat ≤ 128 := by
        have h1 := hok.bits
        have h2 : LN (nuP p) ≤ 128 := by rw [LN_six]; exact lenN_le _
        omega
      have haf := hok.aF
      have hnn := hok.nn
      obtain ⟨⟨u1, u2, -⟩, -⟩ := hok.ok
      obtain ⟨a1, a2, a3, a4i⟩ := p
      simp only at hbt haf hnn u1 u2
      obtain ⟨a4, ha4⟩ : ∃ q : Nat, a4i.toNat = q := ⟨_, rfl⟩
      have hTx : pfBy (a1, a2, a3, a4i) = pfxT a1 a2 a3 a4 := by unfold pfBy; rw [ha4]
      rw [ha4] at hnn hbt
      subst hnn
      rw [hTx] at hTk
      have hsz := pfxT_size (six := a1) (hi := a2) (lo := a3) (n := a4) (by omega)
      obtain ⟨g, o, had, hg, c0, c1, c2, c3⟩ := (H0.out.below HB.out).pf hp rfl
      subst had
      have HPL := Lib.hid fun wx (ht : Tabs wx) => prefixLine_any a1 a2 a3 a4 wx u1 u2 haf (by omega) ht
      obtain ⟨TX, hTX⟩ : ∃ q, pfxT a1 a2 a3 a4 = q := ⟨_, rfl⟩
      rw [hTX] at HPL hTk hsz
      have HTk := Lib.hid hTk
      clear hp hS hok haf hTx hTX ha4 hTk hg u1 u2 hbt
      have HP1 : Hid (Blk (wr.alloc (.cells #[.bool a1, .int .u64 (a2 : Int), .int .u64 (a3 : Int), .int .i64 (a4 : Int)] 45 (0, 0))) wr.heap.size 45 #[.bool a1, .int .u64 (a2 : Int), .int .u64 (a3 : Int), .int .i64 (a4 : Int)]) := Lib.hid (Blk.new wr _ _)
      have HB1 : Hid (Below w.heap.size w (wr.alloc (.cells #[.bool a1, .int .u64 (a2 : Int), .int .u64 (a3 : Int), .int .i64 (a4 : Int)] 45 (0, 0)))) := Lib.hid (Below.alloc HB.out HB.out.size _)
      have HS2 : Hid (S ++ (TX ++ ⟨#[10]⟩) = strL (setT (L.take (k + 1)))) := Lib.hid (by rw [HTk.out, strL_app, strL_app, ← HS.out, strL_of]; rfl)
      have HSz2 : Hid ((S ++ (TX ++ ⟨#[10]⟩)).size ≤ 805 * (k + 1)) := Lib.hid (by
        rw [ByteArray.size_append, ByteArray.size_append]
        have h1 : (⟨#[10]⟩ : ByteArray).size = 1 := rfl
        have h2 := HSz.out
        omega)
      have ad1 := fun wx => add_str TX ⟨#[10]⟩ (by omega) (by decide) wx
      have ad2 := fun wx => add_str S (TX ++ ⟨#[10]⟩) (by have := HSz.out; omega) (by rw [ByteArray.size_append]; have h1 : (⟨#[10]⟩ : ByteArray).size = 1 := rfl; omega) wx
      have HAd1 := Lib.hid ad1
      have HAd2 := Lib.hid ad2
      have HNb1 : Hid (¬ 9223372036854775807 < TX.size + 1) := Lib.hid (by omega)
      have HNb2 : Hid (¬ 9223372036854775807 < S.size + (TX.size + 1)) := Lib.hid (by have := HSz.out; omega)
      clear ad1 ad2 hsz
      go_upto_region 5 with fail
      generalize wr.alloc (.cells #[.bool a1, .int .u64 (a2 : Int), .int .u64 (a3 : Int), .int .i64 (a4 : Int)] 45 (0, 0)) = w3 at *
      generalize wr.heap.size = bx at *
      clear HB c0 c1 c2 c3
      have d0 := HP1.out.cell 0
      have d1 := HP1.out.cell 1
      have d2 := HP1.out.cell 2
      have d3 := HP1.out.cell 3
      simp at d0 d1 d2 d3
      have HPx := Lib.hid (HPL.out w3 (HT.out.below HB1.out))
      clear HPL
      go_wp2_with fail
      refine HPx.out.mono ?_
      rintro e w4 ⟨rfl, hb⟩
      have HB4 := Lib.hid (HB1.out.trans (hb.mono HB1.out.size))
      clear hb HB1 HP1 d0 d1 d2 d3
      have nb1 := HNb1.out
      have nb2 := HNb2.out
      go_wp2_with fail
      exact ⟨⟨k + 1, _, by omega, by go_num, rfl, HS2, HSz2, HB4⟩, by simp [intOf]; omega⟩
    · obtain rfl : k = n := by omega
      go_wp2_with fail
      go_ret
      exact ⟨by rw [← HE.out, ← HS.out]; rfl, HB.out⟩
set_option maxRecDepth 100000 in
set_option maxHeartbeats 4000000 in
theorem setText_any (ad : Option Addr) (n c : Nat) (L : List Pf) (w : World) (h : RdK layPf w ad L) (hn : L.length = n) (hs : n ≤ 1000) (hu : U4 L) (hk : setF L = 0 → ∀ p ∈ L, OkPf p) (ht : Tabs w) :
    Calls Tryz.prog 12 #[.slice ad n c] w (Ret (.tuple #[.string (if setF L = 0 then strL (setT L) else ⟨#[]⟩), .int .i64 (setF L)]) w) := by
  have H0 := Lib.hid h
  have Hn := Lib.hid hn
  have Hk0 := Lib.hid hk
  have HT := Lib.hid ht
  have HC := Lib.hid (checkSet_any ad n c L w h hn (by omega) hu)
  have HE : Hid (setT (L.take n) = setT L) := Lib.hid (by rw [← hn, List.take_length])
  have HZ : Hid (setT (L.take 0) = []) := Lib.hid rfl
  have HR0 : Hid (setF L = 0 → (if setF L = 0 then strL (setT L) else ⟨#[]⟩) = strL (setT L)) := Lib.hid fun h => if_pos h
  have HR1 : Hid (setF L ≠ 0 → (if setF L = 0 then strL (setT L) else ⟨#[]⟩) = ⟨#[]⟩) := Lib.hid fun h => if_neg h
  clear h hn hk ht hu
  generalize (if setF L = 0 then strL (setT L) else ⟨#[]⟩) = RS at *
  generalize setT L = ST at *
  generalize setF L = F at *
  go_enter Tryz.func12, Tryz.ntmps12
  go_wp2_with fail
  refine HC.out.mono ?_
  rintro e w1 ⟨rfl, hb⟩
  have HB1 := Lib.hid hb
  clear hb HC
  by_cases hF : F = 0
  · have Hk := Lib.hid (Hk0.out hF)
    have hRS := HR0.out hF
    have HRS := Lib.hid hRS
    subst hF
    clear HR0 HR1 Hk0 hRS
    have HBu : Hid (Lib.IsBuilder 67 5 w1.heap.size w1.heap.size (Lib.byteCells []) (w1.alloc (.cells #[.pointer none, .slice none 0 0] 67 (0, 0)))) := Lib.hid (Or.inl ⟨Nat.le_refl _, .slice none 0 0, heap_alloc_new w1 _, World.ownsRow_nil _ _ _ _, by simp [Value.ownBlock]⟩)
    have HB2 : Hid (Below w1.heap.size w1 (w1.alloc (.cells #[.pointer none, .slice none 0 0] 67 (0, 0)))) := Lib.hid (below_alloc (Below.refl _ _) _)
    have hlt2 : w1.heap.size < (w1.alloc (.cells #[.pointer none, .slice none 0 0] 67 (0, 0))).heap.size := by simp
    go_upto_region 5 with fail
    generalize w1.alloc (.cells #[.pointer none, .slice none 0 0] 67 (0, 0)) = w2 at *
    obtain ⟨bb, hbb⟩ : ∃ q, w1.heap.size = q := ⟨_, rfl⟩
    have Hbb := Lib.hid hbb
    rw [hbb] at HBu HB2 hlt2 ⊢
    clear hbb
    go_wp2_with fail
    go_loopw [7, 15] (fun s7 i wr => ∃ (k : Nat), k ≤ n ∧ i = .int .i64 (k : Int) ∧ Hid (Lib.IsBuilder 67 5 bb bb (Lib.byteCells (setT (L.take k))) wr) ∧ Hid ((setT (L.take k)).length ≤ 805 * k) ∧ Hid (Below bb w1 wr) ∧ Hid (bb < wr.heap.size)) (fun _ i _ => n - (intOf i).toNat)
    case atStart => exact ⟨0, Nat.zero_le _, rfl, by rw [HZ.out]; exact HBu, Lib.hid (by rw [HZ.out]; show 0 ≤ _; omega), HB2, Lib.hid hlt2⟩
    case round =>
      clear HBu HB2
      obtain ⟨k, hk, rfl, HU, HSz, HB, HLt⟩ := hrel
      have HBw : Hid (Below w.heap.size w wr) := Lib.hid (HB1.out.trans (HB.out.mono (by rw [← Hbb.out]; exact HB1.out.size)))
      by_cases hlt : k < n
      · have hS : k < L.length := by rw [Hn.out]; exact hlt
        obtain ⟨p, hp⟩ : ∃ p, L[k]? = some p := ⟨_, List.getElem?_eq_getElem hS⟩
        have hok := Hk.out p (List.mem_of_getElem? hp)
        have hTk := setT_take hp
        have hbt : p.2.2.2.toNat ≤ 128 := by
          have h1 := hok.bits
          have h2 : LN (nuP p) ≤ 128 := by rw [LN_six]; exact lenN_le _
          omega
        have haf := hok.aF
        have hnn := hok.nn
        obtain ⟨⟨u1, u2, -⟩, -⟩ := hok.ok
        obtain ⟨a1, a2, a3, a4i⟩ := p
        simp only at hbt haf hnn u1 u2
        obtain ⟨a4, ha4⟩ : ∃ q : Nat, a4i.toNat = q := ⟨_, rfl⟩
        have hTx : pfBy (a1, a2, a3, a4i) = pfxT a1 a2 a3 a4 := by unfold pfBy; rw [ha4]
        rw [ha4] at hnn hbt
        subst hnn
        rw [hTx] at hTk
        have hsz := pfxT_size (six := a1) (hi := a2) (lo := a3) (n := a4) (by omega)
        obtain ⟨g, o, had, hg, c0, c1, c2, c3⟩ := (H0.out.below HBw.out).pf hp rfl
        subst had
        have HPL := Lib.hid fun wx (ht : Tabs wx) => prefixText_any a1 a2 a3 a4 wx u1 u2 haf (by omega) ht
        obtain ⟨TX, hTX⟩ : ∃ q, pfxT a1 a2 a3 a4 = q := ⟨_, rfl⟩
        rw [hTX] at HPL hTk hsz
        have HTk := Lib.hid hTk
        clear hp hS hok haf hTx hTX ha4 hTk hg u1 u2 hbt
        have HP1 : Hid (Blk (wr.alloc (.cells #[.bool a1, .int .u64 (a2 : Int), .int .u64 (a3 : Int), .int .i64 (a4 : Int)] 45 (0, 0))) wr.heap.size 45 #[.bool a1, .int .u64 (a2 : Int), .int .u64 (a3 : Int), .int .i64 (a4 : Int)]) := Lib.hid (Blk.new wr _ _)
        have HB3 : Hid (Below bb w1 (wr.alloc (.cells #[.bool a1, .int .u64 (a2 : Int), .int .u64 (a3 : Int), .int .i64 (a4 : Int)] 45 (0, 0)))) := Lib.hid (Below.alloc HB.out (Nat.le_of_lt HLt.out) _)
        have HBw3 : Hid (Below w.heap.size w (wr.alloc (.cells #[.bool a1, .int .u64 (a2 : Int), .int .u64 (a3 : Int), .int .i64 (a4 : Int)] 45 (0, 0)))) := Lib.hid (Below.alloc HBw.out HBw.out.size _)
        have HU3 : Hid (Lib.IsBuilder 67 5 bb bb (Lib.byteCells (setT (L.take k))) (wr.alloc (.cells #[.bool a1, .int .u64 (a2 : Int), .int .u64 (a3 : Int), .int .i64 (a4 : Int)] 45 (0, 0)))) := Lib.hid (bld_later HU.out (below_alloc (Below.refl _ _) _))
        have HLt3 : Hid (bb < (wr.alloc (.cells #[.bool a1, .int .u64 (a2 : Int), .int .u64 (a3 : Int), .int .i64 (a4 : Int)] 45 (0, 0))).heap.size) := Lib.hid (by have := HLt.out; simp; omega)
        have HCat : Hid (Lib.byteCells (setT (L.take k)) ++ Lib.strCells (TX ++ ⟨#[10]⟩) = Lib.byteCells (setT (L.take (k + 1)))) := Lib.hid (by
          rw [HTk.out]
          unfold Lib.byteCells Lib.strCells
          rw [List.map_append, List.map_append, ByteArray.data_append, Array.toList_append, List.map_append])
        have HSz2 : Hid ((setT (L.take (k + 1))).length ≤ 805 * (k + 1)) := Lib.hid (by
          rw [HTk.out, List.length_append, List.length_append]
          have h1 : TX.data.toList.length = TX.size := by rw [Array.length_toList]; rfl
          have h2 := HSz.out
          simp only [List.length_cons, List.length_nil]
          omega)
        have HAd1 := Lib.hid fun wx => add_str TX ⟨#[10]⟩ (by omega) (by decide) wx
        have HW := Lib.hid fun wx (hx : Lib.IsBuilder 67 5 bb bb (Lib.byteCells (setT (L.take k))) wx) (hl : bb ≤ wx.heap.size) => bWrite_any bb bb (Lib.byteCells (setT (L.take k))) (TX ++ ⟨#[10]⟩) wx hx (by rw [Lib.byteCells_length, ByteArray.size_append]; have h1 : (⟨#[10]⟩ : ByteArray).size = 1 := rfl; have h2 := HSz.out; omega) hl
        rw [HCat.out] at HW
        have HNb1 : Hid (¬ 9223372036854775807 < TX.size + 1) := Lib.hid (by omega)
        clear hsz HCat
        generalize Lib.byteCells (setT (L.take k)) = BC at *
        go_upto_region 8 with fail
        generalize wr.alloc (.cells #[.bool a1, .int .u64 (a2 : Int), .int .u64 (a3 : Int), .int .i64 (a4 : Int)] 45 (0, 0)) = w3 at *
        generalize wr.heap.size = bx at *
        clear HB HBw HU HLt c0 c1 c2 c3
        have d0 := HP1.out.cell 0
        have d1 := HP1.out.cell 1
        have d2 := HP1.out.cell 2
        have d3 := HP1.out.cell 3
        simp at d0 d1 d2 d3
        have HPx := Lib.hid (HPL.out w3 (HT.out.below HBw3.out))
        clear HPL
        go_wp2_with fail
        refine HPx.out.mono ?_
        rintro e w4 ⟨rfl, hb⟩
        have HB4 := Lib.hid (HB3.out.trans (hb.mono (Nat.le_of_lt HLt3.out)))
        have HU4 := Lib.hid (bld_later HU3.out hb)
        have HLt4 : Hid (bb < w4.heap.size) := Lib.hid (Nat.lt_of_lt_of_le HLt3.out hb.size)
        clear hb HB3 HBw3 HU3 HLt3 HP1 HPx d0 d1 d2 d3
        have nb1 := HNb1.out
        go_wp2_with fail
        refine (HW.out _ HU4.out (Nat.le_of_lt HLt4.out)).mono ?_
        rintro e w5 ⟨rfl, hbu, hb⟩
        have HB5 := Lib.hid (HB4.out.trans hb)
        have HU5 := Lib.hid (Or.inr hbu : Lib.IsBuilder 67 5 bb bb (Lib.byteCells (setT (L.take (k + 1)))) w5)
        have HLt5 : Hid (bb < w5.heap.size) := Lib.hid (Nat.lt_of_lt_of_le HLt4.out hb.size)
        clear hb hbu HB4 HU4 HLt4 nb1 HAd1 HW
        go_wp2_with fail
        exact ⟨⟨k + 1, by omega, by go_num, HU5, HSz2, HB5, HLt5⟩, by simp [intOf]; omega⟩
      · obtain rfl : k = n := by omega
        have HSt := Lib.hid (Tryz.Builder_String_any bb bb (setT (L.take k)) wr HU.out (Nat.le_of_lt HLt.out))
        rw [HE.out] at HSt
        go_wp2_with fail
        refine HSt.out.mono ?_
        rintro e w6 ⟨rfl, hb⟩
        have HB6 : Hid (Below w.heap.size w w6) := Lib.hid (HB1.out.trans ((HB.out.trans hb).mono (by rw [← Hbb.out]; exact HB1.out.size)))
        clear hb
        go_wp2_with fail
        go_ret2
        exact ⟨by rw [HRS.out]; rfl, HB6.out⟩
  · have hRS := HR1.out hF
    have hb1 : (F != 0) = true := by simpa using hF
    subst hRS
    clear HR0 HR1 Hk0
    go_wp2_with fail
    go_ret2
    exact ⟨rfl, HB1.out⟩
end Go.Proofs.YtcpafmndjcejjaaGreatDoor
