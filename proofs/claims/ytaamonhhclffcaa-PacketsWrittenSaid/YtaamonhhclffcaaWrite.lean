/-
  A right packet is written.
-/
import Derived.Test.YtaamonhhclffcaaPartOf
import Derived.Test.YtaamonhhclffcaaPartSum
import Derived.Deep.Cut
namespace Go.Proofs.Ytaamonhhclffcaa
open Go.RowKit Go
set_option linter.unusedVariables false

theorem FS.rebase {B : Nat} {w1 : World} {P0 : Nat} {x : PV} {pay : List UInt8} {w : World} (h : FS B w1 P0 x pay w) : FS w.heap.size w P0 x pay w :=
  ⟨Below.refl _ _, Nat.le_refl _, h.p, Blk.lt h.p, h.rb.mono h.sz⟩
theorem b8_lo (n : Nat) : Value.int .u8 ((n : Int) % 256) = encB (b8 n) := by rw [← IntKind.wrap_u8]; exact u8_nat n
theorem b8_hi' (n : Nat) : Value.int .u8 ((n : Int) / 256 % 256) = encB (b8 (n / 256)) := by rw [← IntKind.wrap_u8]; exact b8_hi n
theorem b8_small (n : Nat) (h : n ≤ 65535) : Value.int .u8 ((n : Int) / 256) = encB (b8 (n / 256)) := by
  rw [← b8_hi']
  refine congrArg (Value.int .u8) ?_
  omega
theorem OwnB.set2 {w : World} {B g c : Nat} {L : List UInt8} (h : OwnB w B (.slice (some ⟨g, 0, none⟩) L.length c) L) (i n : Nat) (hi : i + 1 < L.length) :
    OwnB ((w.setCell ⟨g, i, none⟩ (encB (b8 (n / 256)))).setCell ⟨g, i + 1, none⟩ (encB (b8 n))) B (.slice (some ⟨g, 0, none⟩) L.length c) (setSum L i n) := by
  have h1 := h.set i (by omega) (b8 (n / 256))
  have hl : L.length = (L.set i (b8 (n / 256))).length := by simp
  rw [hl] at h1 ⊢
  exact h1.set (i + 1) (by rw [← hl]; exact hi) (b8 n)
theorem own_new (w : World) (B : Nat) (hB : B ≤ w.heap.size) (L : List UInt8) (hl : L.length ≤ 1000000) (cs : Array Value) (hcs : cs = (encBs L).toArray) (m : Nat) (hm : m = L.length) : OwnB (w.alloc (.cells cs 5 (0, 0))) B (.slice (some ⟨w.heap.size, 0, none⟩) m m) L := by
  subst hcs hm
  refine ⟨by simp [encBs], .inr ⟨w.heap.size, L.length, (encBs L).toArray, rfl, hB, heap_alloc_new w _, Nat.le_refl _, by unfold maxLen; omega, by simp [encBs], by simp [encBs, List.take_of_length_le]⟩⟩
set_option maxRecDepth 100000 in
set_option maxHeartbeats 4000000 in
theorem write_any (x : NP) (hx : x.fit) (pa : Option Addr) (pc : Nat) (pay : List UInt8) (w : World) (hr : Rb w.heap.size w (.slice pa pay.length pc) pay) (hpl : pay.length ≤ 1400) :
    Calls Try.prog 59 #[.agg (x.pv (.slice pa pay.length pc)).cells] w fun e w' => ∃ v, e = .returned v ∧ OwnB w' w.heap.size v (pktB x pay) ∧ Below w.heap.size w w' := by
  replace hpl : pay.length ≤ 1401 := by omega
  have HF := Lib.hid (FS.start (x := x.pv (.slice pa pay.length pc)) hr)
  have hsz : w.heap.size ≤ (w.alloc (.cells (x.pv (.slice pa pay.length pc)).cells 45 (0, 0))).heap.size := by simp
  have HB0 : Hid (Below w.heap.size w (w.alloc (.cells (x.pv (.slice pa pay.length pc)).cells 45 (0, 0)))) := Lib.hid (below_alloc (Below.refl _ _) _)
  clear hr
  go_enter Try.func59, Try.ntmps59
  go_upto_region 1 with fail
  generalize w.alloc (.cells (x.pv (.slice pa pay.length pc)).cells 45 (0, 0)) = w1 at *
  generalize hP0 : w.heap.size = P0 at *
  have HP0 := Lib.hid hP0
  clear hP0
  have HB := Lib.hid (OwnB.nil w1 w1.heap.size)
  clear HB
  go_wp2_with (refine wpList_load_row rfl 45 (.tmp 1) rfl P0 rfl 45 (x.pv (.slice pa pay.length pc)).cells (0, 0) _ HF.out.p Try.underlying45 rfl (by kernel_rfl) ?_)
  refine (partOf_any x hx pa pc pay w1 HF.out.rb hpl).mono ?_
  rintro e w2 ⟨v2, rfl, hO2, hb2⟩
  replace hO2 := Lib.hid hO2
  replace hb2 := Lib.hid hb2
  go_upto_region 2 with fail
  have HO2 := hO2
  replace hO2 := hO2.out
  have hb2' := hb2
  replace hb2 := hb2.out
  have HF2 := Lib.hid ((HF.out.below hb2).rebase)
  have HB2 := Lib.hid (HB0.out.trans (hb2.mono hsz))
  have hs2 : w1.heap.size ≤ w2.heap.size := hb2.size
  have hPl := partB_len x pay
  have hle : leastN x.proto ≤ 20 := by unfold leastN; split <;> omega
  have HR2 := Lib.hid (hO2.rb (by omega))
  clear hO2 hb2
  have hB : RC.fine (⟨w2.heap.size, w2, (.slice none 0 0), false, P0⟩ : RC) := HF2.out.fine (fun k hk => by cases hk)
  refine Lm.wp_region_lim 6 0 (fun p vv nn ww => (List.getD ((.val (.pointer (some ⟨P0, 7, none⟩))) :: (.val (.int .i64 ((x.proto : Nat) : Int))) :: (.val (.int .i64 ((sumAtN x.proto : Nat) : Int))) :: (.val (.agg (x.pv (.slice pa pay.length pc)).cells)) :: (.rd (partB x pay)) :: (.val (.int .i64 ((partSumN x (partB x pay) : Nat) : Int))) :: [] : List Ds) p .any).R (⟨w2.heap.size, w2, (.slice none 0 0), false, P0⟩ : RC) vv nn ww) (RC.C (⟨w2.heap.size, w2, (.slice none 0 0), false, P0⟩ : RC)) (RC.S (⟨w2.heap.size, w2, (.slice none 0 0), false, P0⟩ : RC)) (fun _ => 0) (fun _ => 0)
    (by kernel_rfl) (by kernel_rfl) (by decide) (by kernel_rfl) (fun p vv nn ww n' w' h hs => ds_keep hB _ rfl p vv nn ww n' w' h hs) RC.start ?hX1
  case' hX1 => (apply Exists.intro; refine ⟨fun T => ?hA1, ?hob1, ?hend1⟩)
  case hA1 =>
    simp only [setAll, List.take_succ_cons, List.take_zero, Act.put, List.setIfInBounds_toArray, List.set_cons_succ, List.set_cons_zero, Nat.reduceAdd]
    exact rfl
  case hob1 =>
    refine ⟨?_, ?_, ?_, ?_, ?_, ?_, trivial⟩
    · intro T wx n hC hn hp
      have hn : n ≤ 0 := hn
      refine Op1.gen fun post hpost => ?_; unfold Op1; go_simp; exact hpost _ _ ⟨rfl, hC, RC.S.refl⟩
    · intro T wx n hC hn hp
      have hn : n ≤ 0 := hn
      obtain ⟨e0, -⟩ := hp
      have d0 : T 0 = .pointer (some ⟨P0, 7, none⟩) := e0
      clear e0
      obtain ⟨-, -, -, -, -, -, -, c7, -, -, -, -, -, -, -, -, -, -, -, f0⟩ := np_cells (show PBlk wx P0 (x.pv (.slice pa pay.length pc)) from hC.2.2.trans HF2.out.p)
      refine Op1.gen fun post hpost => ?_; unfold Op1; go_simp; exact hpost _ _ ⟨rfl, hC, RC.S.refl⟩
    · intro T wx n hC hn hp
      have hn : n ≤ 0 := hn
      obtain ⟨e0, -⟩ := hp
      have d1 : T 1 = .int .i64 ((x.proto : Nat) : Int) := e0
      clear e0
      refine Op1.gen fun post hpost => ?_; unfold Op1; go_simp; exact calls_post (ret_ob (c := (⟨w2.heap.size, w2, (.slice none 0 0), false, P0⟩ : RC)) hB hC (sumAt_any x.proto wx hx.proto)) hpost
    · intro T wx n hC hn hp
      have hn : n ≤ 0 := hn
      exact Op1.load_row 45 (.tmp 1) rfl P0 rfl 45 (x.pv (.slice pa pay.length pc)).cells (0, 0) _ (hC.2.2.trans HF2.out.p) Try.underlying45 rfl (by kernel_rfl) ⟨rfl, hC, RC.S.refl⟩
    · intro T wx n hC hn hp
      have hn : n ≤ 0 := hn
      refine Op1.gen fun post hpost => ?_; unfold Op1; go_simp; exact hpost _ _ ⟨HR2.out, hC, RC.S.refl⟩
    · intro T wx n hC hn hp
      have hn : n ≤ 0 := hn
      obtain ⟨e0, e1, e2, -⟩ := hp
      have d3 : T 3 = .agg (x.pv (.slice pa pay.length pc)).cells := e0
      have d4 : Ds.R (⟨w2.heap.size, w2, (.slice none 0 0), false, P0⟩ : RC) (.rd (partB x pay)) (T 4) n wx := e1
      clear e0 e1 e2
      have hr : Rb wx.heap.size wx (T 4) (partB x pay) := (Rb.below d4 hC.1).mono (Nat.le_trans hB.le hC.size)
      refine Op1.gen fun post hpost => ?_; unfold Op1; go_simp; exact calls_post (ret_ob (c := (⟨w2.heap.size, w2, (.slice none 0 0), false, P0⟩ : RC)) hB hC (partSum_any x hx _ _ _ wx ((HF2.out.rb.below hC.1).mono (Nat.le_trans hB.le hC.size)) hpl (T 4) (partB x pay) hr (by first | omega | (simp [be_len, addrB_len, bodyB_len, partB_len, leastN] <;> (repeat' split) <;> omega)))) hpost
  case hend1 =>
    intro T wx ⟨n, hn, hC, hR⟩
    have r4 : T 2 = .int .i64 ((sumAtN x.proto : Nat) : Int) := hR 2 (by omega)
    rw [r4]
    clear r4
    have r5 : T 5 = .int .i64 ((partSumN x (partB x pay) : Nat) : Int) := hR 5 (by omega)
    rw [r5]
    clear r5
    have HC := Lib.hid hC.1
    have hB2 := hC.size
    clear hR hC
    have HF3 := Lib.hid (HF2.out.below HC.out)
    have HO3 := Lib.hid (own_later HO2.out HC.out)
    have hs3 := HC.out.size
    have HBl := Lib.hid (hb2'.out.trans (HC.out.mono hs2))
    have hlt : sumAtN x.proto + 2 ≤ (partB x pay).length := by
      rw [hPl]
      rcases hx.proto with h | h | h <;> rw [h] <;> simp [sumAtN, leastN] <;> omega
    have hln := partSumN_le x (partB x pay)
    have Hbody := Lib.hid (show bodyB x pay = setSum (partB x pay) (sumAtN x.proto) (partSumN x (partB x pay)) from rfl)
    have hple : (partB x pay).length ≤ 1421 := by omega
    generalize partSumN x (partB x pay) = sn at *
    generalize sumAtN x.proto = sa at *
    have HO3' : Hid (OwnB wx w1.heap.size v2 (partB x pay)) := HO3
    clear HO3 HO2 HR2 HC hB hB2 HB2 HF2 hPl hle hb2' HF3
    obtain ⟨g, c, rfl, hg1, hg2, hc1, hc2⟩ := HO3'.out.slice1 (by omega)
    have hf := HO3'.out.frozen
    have hcl := HO3'.out.get
    have HS := Lib.hid (HO3'.out.set2 sa sn (by omega))
    rw [← Hbody.out] at HS
    generalize hPL : (partB x pay).length = pl at *
    have HPL : Hid ((bodyB x pay).length = pl) := Lib.hid (by rw [Hbody.out, setSum_len]; exact hPL)
    obtain ⟨y1, hc1'⟩ : ∃ y, wx.cell? ⟨g, sa, none⟩ = some (encB y) := ⟨_, hcl sa (by omega)⟩
    obtain ⟨y2, hc2'⟩ : ∃ y, wx.cell? ⟨g, sa + 1, none⟩ = some (encB y) := ⟨_, hcl (sa + 1) (by omega)⟩
    clear hcl hPL HO3' Hbody
    go_upto_region 4 with fail
    rw [b8_small sn hln, b8_lo sn]
    have HB4 : Hid (Below w1.heap.size w1 ((wx.setCell ⟨g, sa, none⟩ (encB (b8 (sn / 256)))).setCell ⟨g, sa + 1, none⟩ (encB (b8 sn)))) := Lib.hid ((HBl.out.setCell hg1 _).setCell hg1 _)
    generalize (wx.setCell ⟨g, sa, none⟩ (encB (b8 (sn / 256)))).setCell ⟨g, sa + 1, none⟩ (encB (b8 sn)) = w4 at *
    have HF4 := Lib.hid ((HF.out.below HB4.out).rebase)
    have hs4 : w1.heap.size ≤ w4.heap.size := HB4.out.size
    have HR4 : Hid (Rb w4.heap.size w4 (.slice (some ⟨g, 0, none⟩) pl c) (bodyB x pay)) := Lib.hid (HS.out.rb (by rw [HPL.out]; omega))
    have HBz := Lib.hid (HB0.out.trans (HB4.out.mono hsz))
    have hsz4 := Nat.le_trans hsz hs4
    clear hf hc1' hc2' hg1 hg2 HBl HS HF HB4 hs2 hs3 hsz hs4 hln hlt
    have hpq : Hid (pktB x pay = if x.s1 = true then [96, 0, 0, 0] ++ be (bodyB x pay).length 2 ++ [b8 (codeN x), b8 x.hops] ++ addrB x.s1 x.h1 x.l1 ++ addrB x.s2 x.h2 x.l2 ++ bodyB x pay else setSum (headB x (bodyB x pay).length) 10 (sumN (headB x (bodyB x pay).length)) ++ bodyB x pay) := Lib.hid rfl
    rw [HPL.out] at hpq
    have hbl : (bodyB x pay).length ≤ 1000000 := by rw [HPL.out]; omega
    generalize bodyB x pay = body at *
    rcases hs : x.s1 with _ | _
    · replace hs := Lib.hid hs
      obtain ⟨c0, -, -, -, -, -, -, -, -, -, -, -, -, -, -, -, -, -, -, f0⟩ := np_cells HF4.out.p
      rw [hs.out] at c0
      go_upto_region 9 with fail
      clear c0 f0
      go_wp2_with fail
      refine (put_fs (HF4.out.alloc _) (own_new w4 _ (Nat.le_refl _) [69, 0] (by simp) _ rfl _ rfl) (20 + pl) 2 (by omega) (by omega) (by simp)).mono ?_
      rintro e w5 ⟨v5, rfl, HO5, HF5⟩
      go_upto_region 10 with fail
      obtain ⟨-, -, -, -, -, -, c6, c7, -, -, -, -, -, -, -, -, -, -, -, f0⟩ := np_cells HF5.out.p
      go_wp2_with (refine wpList_build_fs [0, 0, 0, 0, b8 x.hops, b8 x.proto, 0, 0] _ _ rfl rfl _ rfl (by go_simp; first | rfl | (simp only [u8_nat, b8_lo]; rfl)) rfl (.tmp 59) (.tmp 66) rfl rfl HO5.out rfl (by simp [be_len]) (by simp) HF5.out ?_)
      intro v6 w6 HO6 HF6
      clear c6 c7 f0
      go_upto_region 11 with fail
      have HO6q : Hid (OwnB w6 w4.heap.size v6 ([69, 0] ++ be (20 + pl) 2 ++ [0, 0, 0, 0, b8 x.hops, b8 x.proto, 0, 0])) := HO6
      have hB : RC.fine (⟨w4.heap.size, w6, v6, false, P0⟩ : RC) := HF6.out.fine (own_base HO6.out)
      refine Lm.wp_region_lim 7 2 (fun p vv nn ww => (List.getD ((.own 0 ([69, 0] ++ be (20 + pl) 2 ++ [0, 0, 0, 0, b8 x.hops, b8 x.proto, 0, 0])) :: (.val (.pointer (some ⟨P0, 0, none⟩))) :: (.val (.agg #[.bool x.s1, .int .u64 ((x.h1 : Nat) : Int), .int .u64 ((x.l1 : Nat) : Int)])) :: (.own 1 ([69, 0] ++ be (20 + pl) 2 ++ [0, 0, 0, 0, b8 x.hops, b8 x.proto, 0, 0] ++ addrB x.s1 x.h1 x.l1)) :: (.val (.pointer (some ⟨P0, 3, none⟩))) :: (.val (.agg #[.bool x.s2, .int .u64 ((x.h2 : Nat) : Int), .int .u64 ((x.l2 : Nat) : Int)])) :: (.own 2 ([69, 0] ++ be (20 + pl) 2 ++ [0, 0, 0, 0, b8 x.hops, b8 x.proto, 0, 0] ++ addrB x.s1 x.h1 x.l1 ++ addrB x.s2 x.h2 x.l2)) :: [] : List Ds) p .any).R (⟨w4.heap.size, w6, v6, false, P0⟩ : RC) vv nn ww) (RC.C (⟨w4.heap.size, w6, v6, false, P0⟩ : RC)) (RC.S (⟨w4.heap.size, w6, v6, false, P0⟩ : RC)) (fun i => if i = 3 ∨ i = 6 then 1 else 0) (fun i => if i = 4 ∨ i = 5 ∨ i = 6 then 1 else 0)
        (by kernel_rfl) (by kernel_rfl) (by decide) (by kernel_rfl) (fun p vv nn ww n' w' h hs => ds_keep hB _ rfl p vv nn ww n' w' h hs) RC.start ?hX2
      case' hX2 => (apply Exists.intro; refine ⟨fun T => ?hA2, ?hob2, ?hend2⟩)
      case hA2 =>
        simp only [setAll, List.take_succ_cons, List.take_zero, Act.put, List.setIfInBounds_toArray, List.set_cons_succ, List.set_cons_zero, Nat.reduceAdd]
        exact rfl
      case hob2 =>
        refine ⟨?_, ?_, ?_, ?_, ?_, ?_, ?_, trivial⟩
        · intro T wy n hC hn hp
          have hn : n ≤ 0 := hn
          refine Op1.gen fun post hpost => ?_; unfold Op1; go_simp
          have hz : n = 0 := by omega
          exact hpost _ _ ⟨own0 hC hz HO6q.out, hC, RC.S.refl⟩
        · intro T wy n hC hn hp
          have hn : n ≤ 0 := hn
          refine Op1.gen fun post hpost => ?_; unfold Op1; go_simp; exact hpost _ _ ⟨rfl, hC, RC.S.refl⟩
        · intro T wy n hC hn hp
          have hn : n ≤ 0 := hn
          obtain ⟨e0, -⟩ := hp
          have d1 : T 1 = .pointer (some ⟨P0, 0, none⟩) := e0
          clear e0
          obtain ⟨c0, c1, c2, -, -, -, -, -, -, -, -, -, -, -, -, -, -, -, -, f0⟩ := np_cells (show PBlk wy P0 (x.pv (.slice pa pay.length pc)) from hC.2.2.trans HF6.out.p)
          refine Op1.gen fun post hpost => ?_; unfold Op1; go_simp; exact hpost _ _ ⟨rfl, hC, RC.S.refl⟩
        · intro T wy n hC hn hp
          have hn : n ≤ 0 := hn
          obtain ⟨e0, e1, -⟩ := hp
          have d0 : Ds.R (⟨w4.heap.size, w6, v6, false, P0⟩ : RC) (.own 0 ([69, 0] ++ be (20 + pl) 2 ++ [0, 0, 0, 0, b8 x.hops, b8 x.proto, 0, 0])) (T 0) n wy := e0
          have d2 : T 2 = .agg #[.bool x.s1, .int .u64 ((x.h1 : Nat) : Int), .int .u64 ((x.l1 : Nat) : Int)] := e1
          clear e0 e1
          obtain ⟨hO, hGo⟩ := d0.2 (by omega)
          have hk0 := d0.1
          have hk : n = 0 := by omega
          refine Op1.gen fun post hpost => ?_; unfold Op1; go_simp; exact calls_post (putAddr_ob (c := (⟨w4.heap.size, w6, v6, false, P0⟩ : RC)) hB hC hk hO hGo (.inl rfl) x.s1 x.h1 x.l1 hx.h1 hx.l1 (by first | omega | (simp [be_len, addrB_len, bodyB_len, partB_len, leastN] <;> (repeat' split) <;> omega))) hpost
        · intro T wy n hC hn hp
          have hn : n ≤ 1 := hn
          refine Op1.gen fun post hpost => ?_; unfold Op1; go_simp; exact hpost _ _ ⟨rfl, hC, RC.S.refl⟩
        · intro T wy n hC hn hp
          have hn : n ≤ 1 := hn
          obtain ⟨e0, -⟩ := hp
          have d4 : T 4 = .pointer (some ⟨P0, 3, none⟩) := e0
          clear e0
          obtain ⟨-, -, -, c3, c4, c5, -, -, -, -, -, -, -, -, -, -, -, -, -, f0⟩ := np_cells (show PBlk wy P0 (x.pv (.slice pa pay.length pc)) from hC.2.2.trans HF6.out.p)
          refine Op1.gen fun post hpost => ?_; unfold Op1; go_simp; exact hpost _ _ ⟨rfl, hC, RC.S.refl⟩
        · intro T wy n hC hn hp
          have hn : n ≤ 1 := hn
          obtain ⟨e0, e1, e2, -⟩ := hp
          have d3 : Ds.R (⟨w4.heap.size, w6, v6, false, P0⟩ : RC) (.own 1 ([69, 0] ++ be (20 + pl) 2 ++ [0, 0, 0, 0, b8 x.hops, b8 x.proto, 0, 0] ++ addrB x.s1 x.h1 x.l1)) (T 3) n wy := e0
          have d5 : T 5 = .agg #[.bool x.s2, .int .u64 ((x.h2 : Nat) : Int), .int .u64 ((x.l2 : Nat) : Int)] := e1
          clear e0 e1 e2
          obtain ⟨hO, hGo⟩ := d3.2 (by omega)
          have hk0 := d3.1
          have hk : n = 1 := by omega
          refine Op1.gen fun post hpost => ?_; unfold Op1; go_simp; exact calls_post (putAddr_ob (c := (⟨w4.heap.size, w6, v6, false, P0⟩ : RC)) hB hC hk hO hGo (.inl rfl) x.s2 x.h2 x.l2 hx.h2 hx.l2 (by first | omega | (simp [be_len, addrB_len, bodyB_len, partB_len, leastN] <;> (repeat' split) <;> omega))) hpost
      case hend2 =>
        intro T wy ⟨n, hn, hC, hR⟩
        obtain ⟨HO6, HG6⟩ : OwnB wy w4.heap.size (T 6) ([69, 0] ++ be (20 + pl) 2 ++ [0, 0, 0, 0, b8 x.hops, b8 x.proto, 0, 0] ++ addrB x.s1 x.h1 x.l1 ++ addrB x.s2 x.h2 x.l2) ∧ Grew w6 wy v6 (T 6) := (show Ds.R (⟨w4.heap.size, w6, v6, false, P0⟩ : RC) (.own 2 ([69, 0] ++ be (20 + pl) 2 ++ [0, 0, 0, 0, b8 x.hops, b8 x.proto, 0, 0] ++ addrB x.s1 x.h1 x.l1 ++ addrB x.s2 x.h2 x.l2)) (T 6) n wy from hR 6 (by omega)).2 (by omega)
        generalize T 6 = v6 at *
        have HO6 := Lib.hid HO6
        have HG6 := Lib.hid HG6
        have HC := Lib.hid hC.1
        have hB2 := hC.size
        clear hR hC
        have HF7 := Lib.hid (HF6.out.below HC.out)
        have HO7 := Lib.hid (show OwnB wy w4.heap.size v6 (headB x pl) from HO6.out)
        have hhl := headB_len x pl
        clear HC HF6 HO6 HG6 HO6q hB hB2
        go_wp2_with fail
        refine (sum_rb (HO7.out.rb (by omega))).mono ?_
        rintro e w8 ⟨rfl, rfl⟩
        have hsn := sumN_le (headB x pl)
        generalize sumN (headB x pl) = sm at *
        obtain ⟨g2, cc2, rfl, hg1, hg2, hd1, hd2⟩ := HO7.out.slice1 (by omega)
        have hf := HO7.out.frozen
        have hcl := HO7.out.get
        have HS := Lib.hid (show OwnB ((wy.setCell ⟨g2, 10, none⟩ (encB (b8 (sm / 256)))).setCell ⟨g2, 11, none⟩ (encB (b8 sm))) w4.heap.size (.slice (some ⟨g2, 0, none⟩) (headB x pl).length cc2) (setSum (headB x pl) 10 sm) from HO7.out.set2 10 sm (by omega))
        generalize hPL : (headB x pl).length = hl at *
        obtain ⟨y1, hc1'⟩ : ∃ y, wy.cell? ⟨g2, 10, none⟩ = some (encB y) := ⟨_, hcl 10 (by omega)⟩
        obtain ⟨y2, hc2'⟩ : ∃ y, wy.cell? ⟨g2, 10 + 1, none⟩ = some (encB y) := ⟨_, hcl (10 + 1) (by omega)⟩
        clear hcl HO7
        go_upto_region 14 with fail
        rw [b8_small sm hsn, b8_lo sm]
        have HF8 : Hid (FS w4.heap.size w4 P0 (x.pv (.slice pa pay.length pc)) pay ((wy.setCell ⟨g2, 10, none⟩ (encB (b8 (sm / 256)))).setCell ⟨g2, 11, none⟩ (encB (b8 sm)))) := Lib.hid (HF7.out.below (((Below.refl w4.heap.size wy).setCell hg1 _).setCell hg1 _))
        generalize (wy.setCell ⟨g2, 10, none⟩ (encB (b8 (sm / 256)))).setCell ⟨g2, 11, none⟩ (encB (b8 sm)) = w9 at *
        clear hf hc1' hc2' HF7
        go_wp2_with (at_builtin; refine wpList_fs rfl (.tmp 86) (.tmp 87) rfl rfl HS.out rfl (HR4.out.below HF8.out.bl) (by simp [setSum_len]; omega) hbl HF8.out ?_)
        intro v10 w10 HO10 HF10
        go_wp2_with fail
        go_ret
        have hP0 := HP0.out
        subst hP0
        exact ⟨_, rfl, OwnB.weak (by have := HO10.out; rw [hpq.out, if_neg (by rw [hs.out]; decide)]; exact this) hsz4, HBz.out.trans (HF10.out.bl.mono hsz4)⟩
    · replace hs := Lib.hid hs
      obtain ⟨c0, -, -, -, -, -, -, -, -, -, -, -, -, -, -, -, -, -, -, f0⟩ := np_cells HF4.out.p
      rw [hs.out] at c0
      go_upto_region 6 with fail
      clear c0 f0
      go_wp2_with fail
      refine (put_fs (HF4.out.alloc _) (own_new w4 _ (Nat.le_refl _) [96, 0, 0, 0] (by simp) _ rfl _ rfl) pl 2 (by omega) (by omega) (by simp)).mono ?_
      rintro e w5 ⟨v5, rfl, HO5, HF5⟩
      go_upto_region 7 with fail
      have HO5q : Hid (OwnB w5 w4.heap.size v5 ([96, 0, 0, 0] ++ be pl 2)) := HO5
      have hB : RC.fine (⟨w4.heap.size, w5, v5, false, P0⟩ : RC) := HF5.out.fine (own_base HO5.out)
      refine Lm.wp_region_lim 9 1 (fun p vv nn ww => (List.getD ((.own 0 ([96, 0, 0, 0] ++ be pl 2)) :: (.val (.agg (x.pv (.slice pa pay.length pc)).cells)) :: (.val (.int .i64 ((codeN x : Nat) : Int))) :: (.val (encB (b8 (codeN x)))) :: (.val (.pointer (some ⟨P0, 6, none⟩))) :: (.val (.int .i64 ((x.hops : Nat) : Int))) :: (.val (encB (b8 (x.hops)))) :: (.arr 0 ([b8 (codeN x), b8 (x.hops)])) :: (.own 1 ([96, 0, 0, 0] ++ be pl 2 ++ [b8 (codeN x), b8 (x.hops)])) :: [] : List Ds) p .any).R (⟨w4.heap.size, w5, v5, false, P0⟩ : RC) vv nn ww) (RC.C (⟨w4.heap.size, w5, v5, false, P0⟩ : RC)) (RC.S (⟨w4.heap.size, w5, v5, false, P0⟩ : RC)) (fun i => if i = 8 then 1 else 0) (fun _ => 0)
        (by kernel_rfl) (by kernel_rfl) (by decide) (by kernel_rfl) (fun p vv nn ww n' w' h hs => ds_keep hB _ rfl p vv nn ww n' w' h hs) RC.start ?hX3
      case' hX3 => (apply Exists.intro; refine ⟨fun T => ?hA3, ?hob3, ?hend3⟩)
      case hA3 =>
        simp only [setAll, List.take_succ_cons, List.take_zero, Act.put, List.setIfInBounds_toArray, List.set_cons_succ, List.set_cons_zero, Nat.reduceAdd]
        exact rfl
      case hob3 =>
        refine ⟨?_, ?_, ?_, ?_, ?_, ?_, ?_, ?_, ?_, trivial⟩
        · intro T wy n hC hn hp
          have hn : n ≤ 0 := hn
          refine Op1.gen fun post hpost => ?_; unfold Op1; go_simp
          have hz : n = 0 := by omega
          exact hpost _ _ ⟨own0 hC hz HO5q.out, hC, RC.S.refl⟩
        · intro T wy n hC hn hp
          have hn : n ≤ 0 := hn
          exact Op1.load_row 45 (.tmp 1) rfl P0 rfl 45 (x.pv (.slice pa pay.length pc)).cells (0, 0) _ (hC.2.2.trans HF5.out.p) Try.underlying45 rfl (by kernel_rfl) ⟨rfl, hC, RC.S.refl⟩
        · intro T wy n hC hn hp
          have hn : n ≤ 0 := hn
          obtain ⟨e0, -⟩ := hp
          have d1 : T 1 = .agg (x.pv (.slice pa pay.length pc)).cells := e0
          clear e0
          refine Op1.gen fun post hpost => ?_; unfold Op1; go_simp; exact calls_post (ret_ob (c := (⟨w4.heap.size, w5, v5, false, P0⟩ : RC)) hB hC (wire_any x (.slice pa pay.length pc) wy hx)) hpost
        · intro T wy n hC hn hp
          have hn : n ≤ 0 := hn
          obtain ⟨e0, -⟩ := hp
          have d2 : T 2 = .int .i64 ((codeN x : Nat) : Int) := e0
          clear e0
          refine Op1.gen fun post hpost => ?_; unfold Op1; go_simp
          first | exact hpost _ _ ⟨rfl, hC, RC.S.refl⟩ | exact hpost _ _ ⟨u8_nat _, hC, RC.S.refl⟩ | (refine hpost _ _ ⟨congrArg (Value.int _) ?_, hC, RC.S.refl⟩; have := hx.fp; have := hx.tp; have := hx.seq; have := hx.ack; have := hx.id; have := hx.hops; have := hx.proto; have := hx.h1; have := hx.l1; have := hx.h2; have := hx.l2; omega) | (refine hpost _ _ ⟨congrArg (Value.int _) ?_, hC, RC.S.refl⟩; simp only [IntKind.wrap_u64, IntKind.wrap_i64, IntKind.wrap_u8]; have := hx.fp; have := hx.tp; have := hx.seq; have := hx.ack; have := hx.id; have := hx.hops; have := hx.proto; have := hx.h1; have := hx.l1; have := hx.h2; have := hx.l2; omega)
        · intro T wy n hC hn hp
          have hn : n ≤ 0 := hn
          refine Op1.gen fun post hpost => ?_; unfold Op1; go_simp; exact hpost _ _ ⟨rfl, hC, RC.S.refl⟩
        · intro T wy n hC hn hp
          have hn : n ≤ 0 := hn
          obtain ⟨e0, -⟩ := hp
          have d4 : T 4 = .pointer (some ⟨P0, 6, none⟩) := e0
          clear e0
          obtain ⟨-, -, -, -, -, -, c6, -, -, -, -, -, -, -, -, -, -, -, -, f0⟩ := np_cells (show PBlk wy P0 (x.pv (.slice pa pay.length pc)) from hC.2.2.trans HF5.out.p)
          refine Op1.gen fun post hpost => ?_; unfold Op1; go_simp; exact hpost _ _ ⟨rfl, hC, RC.S.refl⟩
        · intro T wy n hC hn hp
          have hn : n ≤ 0 := hn
          obtain ⟨e0, -⟩ := hp
          have d5 : T 5 = .int .i64 ((x.hops : Nat) : Int) := e0
          clear e0
          refine Op1.gen fun post hpost => ?_; unfold Op1; go_simp
          first | exact hpost _ _ ⟨rfl, hC, RC.S.refl⟩ | exact hpost _ _ ⟨u8_nat _, hC, RC.S.refl⟩ | (refine hpost _ _ ⟨congrArg (Value.int _) ?_, hC, RC.S.refl⟩; have := hx.fp; have := hx.tp; have := hx.seq; have := hx.ack; have := hx.id; have := hx.hops; have := hx.proto; have := hx.h1; have := hx.l1; have := hx.h2; have := hx.l2; omega) | (refine hpost _ _ ⟨congrArg (Value.int _) ?_, hC, RC.S.refl⟩; simp only [IntKind.wrap_u64, IntKind.wrap_i64, IntKind.wrap_u8]; have := hx.fp; have := hx.tp; have := hx.seq; have := hx.ack; have := hx.id; have := hx.hops; have := hx.proto; have := hx.h1; have := hx.l1; have := hx.h2; have := hx.l2; omega)
        · intro T wy n hC hn hp
          have hn : n ≤ 0 := hn
          obtain ⟨e0, e1, -⟩ := hp
          have d3 : T 3 = encB (b8 (codeN x)) := e0
          have d6 : T 6 = encB (b8 (x.hops)) := e1
          clear e0 e1
          refine Op1.gen fun post hpost => ?_; unfold Op1; go_simp; exact hpost _ _ (arr_ok hB _ hC _ rfl _ rfl)
        · intro T wy n hC hn hp
          have hn : n ≤ 0 := hn
          obtain ⟨e0, e1, e2, -⟩ := hp
          have d0 : Ds.R (⟨w4.heap.size, w5, v5, false, P0⟩ : RC) (.own 0 ([96, 0, 0, 0] ++ be pl 2)) (T 0) n wy := e0
          have d7 : Ds.R (⟨w4.heap.size, w5, v5, false, P0⟩ : RC) (.arr 0 ([b8 (codeN x), b8 (x.hops)])) (T 7) n wy := e1
          clear e0 e1 e2
          obtain ⟨hO, hGo⟩ := d0.2 (by omega)
          obtain ⟨g2, q2, hg2⟩ := d7
          have hr2 : Rb wy.heap.size wy (T 7) _ := q2 ▸ rb_arr (hg2 (by omega)) (by first | omega | (simp [be_len, addrB_len, bodyB_len, partB_len, leastN] <;> (repeat' split) <;> omega))
          have hk0 := d0.1
          have hk : n = 0 := by omega
          exact app_ob hB rfl hC hk rfl hO hGo (.inl rfl) rfl hr2 (by first | omega | (simp [be_len, addrB_len, bodyB_len, partB_len, leastN] <;> (repeat' split) <;> omega)) (by first | omega | (simp [be_len, addrB_len, bodyB_len, partB_len, leastN] <;> (repeat' split) <;> omega))
      case hend3 =>
        intro T wy ⟨n, hn, hC, hR⟩
        obtain ⟨HO6, HG6⟩ : OwnB wy w4.heap.size (T 8) ([96, 0, 0, 0] ++ be pl 2 ++ [b8 (codeN x), b8 (x.hops)]) ∧ Grew w5 wy v5 (T 8) := (show Ds.R (⟨w4.heap.size, w5, v5, false, P0⟩ : RC) (.own 1 ([96, 0, 0, 0] ++ be pl 2 ++ [b8 (codeN x), b8 (x.hops)])) (T 8) n wy from hR 8 (by omega)).2 (by omega)
        generalize T 8 = v6 at *
        have HO6 := Lib.hid HO6
        have HG6 := Lib.hid HG6
        have HC := Lib.hid hC.1
        have hB2 := hC.size
        clear hR hC
        have HF6 := Lib.hid (HF5.out.below HC.out)
        have HR6 := Lib.hid (HR4.out.below HF6.out.bl)
        clear HC HF5 HO5 HG6 HO5q hB hB2
        go_upto_region 8 with fail
        have HO6q : Hid (OwnB wy w4.heap.size v6 ([96, 0, 0, 0] ++ be pl 2 ++ [b8 (codeN x), b8 x.hops])) := HO6
        have hB : RC.fine (⟨w4.heap.size, wy, v6, false, P0⟩ : RC) := HF6.out.fine (own_base HO6q.out)
        refine Lm.wp_region_lim 9 3 (fun p vv nn ww => (List.getD ((.own 0 ([96, 0, 0, 0] ++ be pl 2 ++ [b8 (codeN x), b8 x.hops])) :: (.val (.pointer (some ⟨P0, 0, none⟩))) :: (.val (.agg #[.bool x.s1, .int .u64 ((x.h1 : Nat) : Int), .int .u64 ((x.l1 : Nat) : Int)])) :: (.own 1 ([96, 0, 0, 0] ++ be pl 2 ++ [b8 (codeN x), b8 x.hops] ++ addrB x.s1 x.h1 x.l1)) :: (.val (.pointer (some ⟨P0, 3, none⟩))) :: (.val (.agg #[.bool x.s2, .int .u64 ((x.h2 : Nat) : Int), .int .u64 ((x.l2 : Nat) : Int)])) :: (.own 2 ([96, 0, 0, 0] ++ be pl 2 ++ [b8 (codeN x), b8 x.hops] ++ addrB x.s1 x.h1 x.l1 ++ addrB x.s2 x.h2 x.l2)) :: (.rd (body)) :: (.own 3 ([96, 0, 0, 0] ++ be pl 2 ++ [b8 (codeN x), b8 x.hops] ++ addrB x.s1 x.h1 x.l1 ++ addrB x.s2 x.h2 x.l2 ++ body)) :: [] : List Ds) p .any).R (⟨w4.heap.size, wy, v6, false, P0⟩ : RC) vv nn ww) (RC.C (⟨w4.heap.size, wy, v6, false, P0⟩ : RC)) (RC.S (⟨w4.heap.size, wy, v6, false, P0⟩ : RC)) (fun i => if i = 3 ∨ i = 6 ∨ i = 8 then 1 else 0) (fun i => if i = 4 ∨ i = 5 ∨ i = 6 then 1 else if i = 7 ∨ i = 8 then 2 else 0)
          (by kernel_rfl) (by kernel_rfl) (by decide) (by kernel_rfl) (fun p vv nn ww n' w' h hs => ds_keep hB _ rfl p vv nn ww n' w' h hs) RC.start ?hX4
        case' hX4 => (apply Exists.intro; refine ⟨fun T => ?hA4, ?hob4, ?hend4⟩)
        case hA4 =>
          simp only [setAll, List.take_succ_cons, List.take_zero, Act.put, List.setIfInBounds_toArray, List.set_cons_succ, List.set_cons_zero, Nat.reduceAdd]
          exact rfl
        case hob4 =>
          refine ⟨?_, ?_, ?_, ?_, ?_, ?_, ?_, ?_, ?_, trivial⟩
          · intro T wz n hC hn hp
            have hn : n ≤ 0 := hn
            refine Op1.gen fun post hpost => ?_; unfold Op1; go_simp
            have hz : n = 0 := by omega
            exact hpost _ _ ⟨own0 hC hz HO6q.out, hC, RC.S.refl⟩
          · intro T wz n hC hn hp
            have hn : n ≤ 0 := hn
            refine Op1.gen fun post hpost => ?_; unfold Op1; go_simp; exact hpost _ _ ⟨rfl, hC, RC.S.refl⟩
          · intro T wz n hC hn hp
            have hn : n ≤ 0 := hn
            obtain ⟨e0, -⟩ := hp
            have d1 : T 1 = .pointer (some ⟨P0, 0, none⟩) := e0
            clear e0
            obtain ⟨c0, c1, c2, -, -, -, -, -, -, -, -, -, -, -, -, -, -, -, -, f0⟩ := np_cells (show PBlk wz P0 (x.pv (.slice pa pay.length pc)) from hC.2.2.trans HF6.out.p)
            refine Op1.gen fun post hpost => ?_; unfold Op1; go_simp; exact hpost _ _ ⟨rfl, hC, RC.S.refl⟩
          · intro T wz n hC hn hp
            have hn : n ≤ 0 := hn
            obtain ⟨e0, e1, -⟩ := hp
            have d0 : Ds.R (⟨w4.heap.size, wy, v6, false, P0⟩ : RC) (.own 0 ([96, 0, 0, 0] ++ be pl 2 ++ [b8 (codeN x), b8 x.hops])) (T 0) n wz := e0
            have d2 : T 2 = .agg #[.bool x.s1, .int .u64 ((x.h1 : Nat) : Int), .int .u64 ((x.l1 : Nat) : Int)] := e1
            clear e0 e1
            obtain ⟨hO, hGo⟩ := d0.2 (by omega)
            have hk0 := d0.1
            have hk : n = 0 := by omega
            refine Op1.gen fun post hpost => ?_; unfold Op1; go_simp; exact calls_post (putAddr_ob (c := (⟨w4.heap.size, wy, v6, false, P0⟩ : RC)) hB hC hk hO hGo (.inl rfl) x.s1 x.h1 x.l1 hx.h1 hx.l1 (by first | omega | (simp [be_len, addrB_len, bodyB_len, partB_len, leastN] <;> (repeat' split) <;> omega))) hpost
          · intro T wz n hC hn hp
            have hn : n ≤ 1 := hn
            refine Op1.gen fun post hpost => ?_; unfold Op1; go_simp; exact hpost _ _ ⟨rfl, hC, RC.S.refl⟩
          · intro T wz n hC hn hp
            have hn : n ≤ 1 := hn
            obtain ⟨e0, -⟩ := hp
            have d4 : T 4 = .pointer (some ⟨P0, 3, none⟩) := e0
            clear e0
            obtain ⟨-, -, -, c3, c4, c5, -, -, -, -, -, -, -, -, -, -, -, -, -, f0⟩ := np_cells (show PBlk wz P0 (x.pv (.slice pa pay.length pc)) from hC.2.2.trans HF6.out.p)
            refine Op1.gen fun post hpost => ?_; unfold Op1; go_simp; exact hpost _ _ ⟨rfl, hC, RC.S.refl⟩
          · intro T wz n hC hn hp
            have hn : n ≤ 1 := hn
            obtain ⟨e0, e1, e2, -⟩ := hp
            have d3 : Ds.R (⟨w4.heap.size, wy, v6, false, P0⟩ : RC) (.own 1 ([96, 0, 0, 0] ++ be pl 2 ++ [b8 (codeN x), b8 x.hops] ++ addrB x.s1 x.h1 x.l1)) (T 3) n wz := e0
            have d5 : T 5 = .agg #[.bool x.s2, .int .u64 ((x.h2 : Nat) : Int), .int .u64 ((x.l2 : Nat) : Int)] := e1
            clear e0 e1 e2
            obtain ⟨hO, hGo⟩ := d3.2 (by omega)
            have hk0 := d3.1
            have hk : n = 1 := by omega
            refine Op1.gen fun post hpost => ?_; unfold Op1; go_simp; exact calls_post (putAddr_ob (c := (⟨w4.heap.size, wy, v6, false, P0⟩ : RC)) hB hC hk hO hGo (.inl rfl) x.s2 x.h2 x.l2 hx.h2 hx.l2 (by first | omega | (simp [be_len, addrB_len, bodyB_len, partB_len, leastN] <;> (repeat' split) <;> omega))) hpost
          · intro T wz n hC hn hp
            have hn : n ≤ 2 := hn
            refine Op1.gen fun post hpost => ?_; unfold Op1; go_simp; exact hpost _ _ ⟨HR6.out, hC, RC.S.refl⟩
          · intro T wz n hC hn hp
            have hn : n ≤ 2 := hn
            obtain ⟨e0, e1, e2, -⟩ := hp
            have d6 : Ds.R (⟨w4.heap.size, wy, v6, false, P0⟩ : RC) (.own 2 ([96, 0, 0, 0] ++ be pl 2 ++ [b8 (codeN x), b8 x.hops] ++ addrB x.s1 x.h1 x.l1 ++ addrB x.s2 x.h2 x.l2)) (T 6) n wz := e0
            have d7 : Ds.R (⟨w4.heap.size, wy, v6, false, P0⟩ : RC) (.rd (body)) (T 7) n wz := e1
            clear e0 e1 e2
            obtain ⟨hO, hGo⟩ := d6.2 (by omega)
            have hk0 := d6.1
            have hk : n = 2 := by omega
            exact app_ob hB rfl hC hk rfl hO hGo (.inl rfl) rfl (Rb.below d7 hC.1) (by first | omega | (simp [be_len, addrB_len, bodyB_len, partB_len, leastN] <;> (repeat' split) <;> omega)) (by first | omega | (simp [be_len, addrB_len, bodyB_len, partB_len, leastN] <;> (repeat' split) <;> omega))
        case hend4 =>
          intro T wz ⟨n, hn, hC, hR⟩
          obtain ⟨HO2, HG2⟩ : OwnB wz w4.heap.size (T 8) ([96, 0, 0, 0] ++ be pl 2 ++ [b8 (codeN x), b8 x.hops] ++ addrB x.s1 x.h1 x.l1 ++ addrB x.s2 x.h2 x.l2 ++ body) ∧ Grew wy wz v6 (T 8) := (show Ds.R (⟨w4.heap.size, wy, v6, false, P0⟩ : RC) (.own 3 ([96, 0, 0, 0] ++ be pl 2 ++ [b8 (codeN x), b8 x.hops] ++ addrB x.s1 x.h1 x.l1 ++ addrB x.s2 x.h2 x.l2 ++ body)) (T 8) n wz from hR 8 (by omega)).2 (by omega)
          generalize T 8 = v2 at *
          have HO2 := Lib.hid HO2
          have HG2 := Lib.hid HG2
          have HC := Lib.hid hC.1
          have hB2 := hC.size
          clear hR hC
          have HF8 := Lib.hid (HF6.out.below HC.out)
          go_wp2_with fail
          go_ret
          have hP0 := HP0.out
          subst hP0
          exact ⟨_, rfl, OwnB.weak (by have := HO2.out; rw [hpq.out, if_pos hs.out]; exact this) hsz4, HBz.out.trans (HF8.out.bl.mono hsz4)⟩
end Go.Proofs.Ytaamonhhclffcaa
