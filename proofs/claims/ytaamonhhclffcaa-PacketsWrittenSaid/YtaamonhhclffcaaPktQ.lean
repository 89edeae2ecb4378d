/-
  A right packet is written by the reference: addresses and pieces.
-/
import Derived.Test.YtaamonhhclffcaaPktW
import Derived.Test.YtaamonhhclffcaaConcat
namespace Go.Proofs.Ytaamonhhclffcaa
open Go.RowKit Go
set_option linter.unusedVariables false

theorem concat_ob {c : RC} (hB : c.fine) {n : Nat} {w : World} (hC : c.C n w) (hn : n = 0) (hv : c.v0 = .slice none 0 0) (g : Nat) (vs : List Value) (Ls : List (List UInt8)) (hg : w.heap[g]? = some (.cells vs.toArray 43 (0, 0))) (hR : RbL w.heap.size w vs Ls) (hl : Ls.flatten.length ≤ 100000) (hk : Ls.length ≤ 100) (m : Nat) (hm : m = Ls.length) :
    Calls Try.prog 66 #[.slice (some ⟨g, 0, none⟩) m m] w fun e w' => ∃ v', e = .returned v' ∧ Ds.R c (.own 0 Ls.flatten) v' n w' ∧ c.C n w' ∧ c.S n w n w' := by
  subst hm
  refine (concat_any g vs Ls w hg hR hl hk).mono ?_
  rintro e w' ⟨v', rfl, hO, hb⟩
  exact ⟨v', rfl, fresh_ok hB hC hn hv hO hb⟩
set_option maxRecDepth 100000 in
set_option maxHeartbeats 2000000 in
theorem addrBytes_any (x : NP) (w : World) (hx : x.h1 < 18446744073709551616 ∧ x.l1 < 18446744073709551616) :
    Calls Try.prog 65 #[.agg #[.bool x.s1, .int .u64 ((x.h1 : Nat) : Int), .int .u64 ((x.l1 : Nat) : Int)]] w fun e w' => ∃ v', e = .returned v' ∧ OwnB w' w.heap.size v' (addrB x.s1 x.h1 x.l1) ∧ Below w.heap.size w w' := by
  have hcase := x.s1.eq_false_or_eq_true
  go_enter Try.func65, Try.ntmps65
  rcases hcase with hs | hs
  · simp only [hs]
    go_upto_region 2 with fail
    have HP : Hid (Blk (w.alloc (.cells #[.bool true, .int .u64 ((x.h1 : Nat) : Int), .int .u64 ((x.l1 : Nat) : Int)] 28 (0, 0))) w.heap.size 28 #[.bool true, .int .u64 ((x.h1 : Nat) : Int), .int .u64 ((x.l1 : Nat) : Int)]) := Lib.hid (Blk.new w _ _)
    have hsz : (w.alloc (.cells #[.bool true, .int .u64 ((x.h1 : Nat) : Int), .int .u64 ((x.l1 : Nat) : Int)] 28 (0, 0))).heap.size = w.heap.size + 1 := by simp
    have HB0 := Lib.hid (below_alloc (Below.refl w.heap.size w) (.cells #[.bool true, .int .u64 ((x.h1 : Nat) : Int), .int .u64 ((x.l1 : Nat) : Int)] 28 (0, 0)))
    generalize w.alloc (.cells #[.bool true, .int .u64 ((x.h1 : Nat) : Int), .int .u64 ((x.l1 : Nat) : Int)] 28 (0, 0)) = w1 at *
    have hB : RC.fine ⟨w1.heap.size, w1, .slice none 0 0, false, w.heap.size⟩ := ⟨Nat.le_refl _, by simp only; omega, by simp [Value.ownBlock]⟩
    refine Lm.wp_region_lim 7 1 (fun p vv nn ww => (List.getD ((.val (.pointer (some ⟨w.heap.size, 1, none⟩))) :: (.val (.int .u64 ((x.h1 : Nat) : Int))) :: (.own 0 (be (x.h1) 8)) :: (.val (.pointer (some ⟨w.heap.size, 2, none⟩))) :: (.val (.int .u64 ((x.l1 : Nat) : Int))) :: (.own 0 (be (x.l1) 8)) :: (.own 1 (be (x.h1) 8 ++ be (x.l1) 8)) :: [] : List Ds) p .any).R (⟨w1.heap.size, w1, (.slice none 0 0), false, w.heap.size⟩ : RC) vv nn ww) (RC.C (⟨w1.heap.size, w1, (.slice none 0 0), false, w.heap.size⟩ : RC)) (RC.S (⟨w1.heap.size, w1, (.slice none 0 0), false, w.heap.size⟩ : RC)) (fun i => if i = 6 then 1 else 0) (fun _ => 0)
      (by kernel_rfl) (by kernel_rfl) (by decide) (by kernel_rfl) (fun p vv nn ww n' w' h hs => ds_keep hB _ rfl p vv nn ww n' w' h hs) RC.start ?hX1
    case' hX1 => (apply Exists.intro; refine ⟨fun T => ?hA1, ?hob1, ?hend1⟩)
    case hA1 =>
      simp only [setAll, List.take_succ_cons, List.take_zero, Act.put, List.setIfInBounds_toArray, List.set_cons_succ, List.set_cons_zero, Nat.reduceAdd]
      exact rfl
    case hob1 =>
      refine ⟨?_, ?_, ?_, ?_, ?_, ?_, ?_, trivial⟩
      · intro T wx n hC hn hp
        have hn : n ≤ 0 := hn
        refine Op1.gen fun post hpost => ?_; unfold Op1; go_simp; exact hpost _ _ ⟨rfl, hC, RC.S.refl⟩
      · intro T wx n hC hn hp
        have hn : n ≤ 0 := hn
        obtain ⟨e0, -⟩ := hp
        have d0 : T 0 = .pointer (some ⟨w.heap.size, 1, none⟩) := e0
        clear e0
        have hq := fun i => Blk.cell (show Blk wx w.heap.size _ _ from hC.2.2.trans HP.out) i
        have cq := hq 1
        simp at cq
        clear hq
        refine Op1.gen fun post hpost => ?_; unfold Op1; go_simp; exact hpost _ _ ⟨rfl, hC, RC.S.refl⟩
      · intro T wx n hC hn hp
        have hn : n ≤ 0 := hn
        obtain ⟨e0, -⟩ := hp
        have d1 : T 1 = .int .u64 ((x.h1 : Nat) : Int) := e0
        clear e0
        have hz : n = 0 := by omega
        refine Op1.gen fun post hpost => ?_; unfold Op1; go_simp; exact calls_post (big_ob (c := (⟨w1.heap.size, w1, (.slice none 0 0), false, w.heap.size⟩ : RC)) hB hC hz rfl (x.h1) 8 (by have := hx.1; have := hx.2; omega) (by omega)) hpost
      · intro T wx n hC hn hp
        have hn : n ≤ 0 := hn
        refine Op1.gen fun post hpost => ?_; unfold Op1; go_simp; exact hpost _ _ ⟨rfl, hC, RC.S.refl⟩
      · intro T wx n hC hn hp
        have hn : n ≤ 0 := hn
        obtain ⟨e0, -⟩ := hp
        have d3 : T 3 = .pointer (some ⟨w.heap.size, 2, none⟩) := e0
        clear e0
        have hq := fun i => Blk.cell (show Blk wx w.heap.size _ _ from hC.2.2.trans HP.out) i
        have cq := hq 2
        simp at cq
        clear hq
        refine Op1.gen fun post hpost => ?_; unfold Op1; go_simp; exact hpost _ _ ⟨rfl, hC, RC.S.refl⟩
      · intro T wx n hC hn hp
        have hn : n ≤ 0 := hn
        obtain ⟨e0, e1, -⟩ := hp
        have d4 : T 4 = .int .u64 ((x.l1 : Nat) : Int) := e0
        clear e0 e1
        have hz : n = 0 := by omega
        refine Op1.gen fun post hpost => ?_; unfold Op1; go_simp; exact calls_post (big_ob (c := (⟨w1.heap.size, w1, (.slice none 0 0), false, w.heap.size⟩ : RC)) hB hC hz rfl (x.l1) 8 (by have := hx.1; have := hx.2; omega) (by omega)) hpost
      · intro T wx n hC hn hp
        have hn : n ≤ 0 := hn
        obtain ⟨e0, e1, e2, -⟩ := hp
        have d2 : Ds.R (⟨w1.heap.size, w1, (.slice none 0 0), false, w.heap.size⟩ : RC) (.own 0 (be (x.h1) 8)) (T 2) n wx := e0
        have d5 : Ds.R (⟨w1.heap.size, w1, (.slice none 0 0), false, w.heap.size⟩ : RC) (.own 0 (be (x.l1) 8)) (T 5) n wx := e1
        clear e0 e1 e2
        obtain ⟨hO, hGo⟩ := d2.2 (by omega)
        obtain ⟨hO2, -⟩ := d5.2 (by omega)
        have hk0 := d2.1
        have hk : n = 0 := by omega
        exact app_ob hB rfl hC hk rfl hO hGo (.inl rfl) rfl (hO2.rb (by first | omega | (simp [be_len, addrB_len, bodyB_len, partB_len, leastN] <;> (repeat' split) <;> omega))) (by first | omega | (simp [be_len, addrB_len, bodyB_len, partB_len, leastN] <;> (repeat' split) <;> omega)) (by first | omega | (simp [be_len, addrB_len, bodyB_len, partB_len, leastN] <;> (repeat' split) <;> omega))
    case hend1 =>
      intro T wx ⟨n, hn, hC, hR⟩
      obtain ⟨HO2, HG2⟩ : OwnB wx w1.heap.size (T 6) (be (x.h1) 8 ++ be (x.l1) 8) ∧ Grew w1 wx (.slice none 0 0) (T 6) := (show Ds.R (⟨w1.heap.size, w1, (.slice none 0 0), false, w.heap.size⟩ : RC) (.own 1 (be (x.h1) 8 ++ be (x.l1) 8)) (T 6) n wx from hR 6 (by omega)).2 (by omega)
      generalize T 6 = v2 at *
      have HO2 := Lib.hid HO2
      have HG2 := Lib.hid HG2
      have HC := Lib.hid hC.1
      have hB2 := hC.size
      clear hR hC
      go_wp2_with fail
      go_ret
      exact ⟨_, rfl, OwnB.weak (by simpa [addrB, hs] using HO2.out) (by omega), HB0.out.trans (HC.out.mono (by omega))⟩
  · simp only [hs]
    go_wp2_with fail
    refine (big_any x.l1 4 _ hx.2 (by omega)).mono ?_
    rintro e w2 ⟨v2, rfl, hO, hG⟩
    have HO2 := Lib.hid hO
    have HG2 := Lib.hid hG
    clear hO hG
    go_wp2_with fail
    go_ret
    exact ⟨_, rfl, OwnB.weak (by simpa [addrB, hs] using HO2.out) (by simp), (below_alloc (Below.refl _ _) _).trans (HG2.out.mono (by simp))⟩
theorem addrBytes_ob {c : RC} (hB : c.fine) {n : Nat} {w : World} (hC : c.C n w) (hn : n = 0) (hv : c.v0 = .slice none 0 0) (s : Bool) (h l : Nat) (hh : h < 18446744073709551616) (hl : l < 18446744073709551616) :
    Calls Try.prog 65 #[.agg #[.bool s, .int .u64 (h : Int), .int .u64 (l : Int)]] w fun e w' => ∃ v', e = .returned v' ∧ Ds.R c (.own 0 (addrB s h l)) v' n w' ∧ c.C n w' ∧ c.S n w n w' := by
  refine (addrBytes_any ⟨s, h, l, false, 0, 0, 0, 0, 0, 0, false, false, false, false, 0, 0, false, 0⟩ w ⟨hh, hl⟩).mono ?_
  rintro e w' ⟨v', rfl, hO, hb⟩
  exact ⟨v', rfl, fresh_ok hB hC hn hv hO hb⟩
theorem bit_enc (c : Bool) (n : UInt8) : Value.int .u8 (if c = true then (n.toNat : Int) else 0) = encB (if c = true then n else 0) := by cases c <;> rfl
theorem u8_add (a b : UInt8) : Value.int .u8 (((a.toNat : Int) + (b.toNat : Int)) % 256) = encB (a + b) := by
  unfold encB
  refine congrArg (Value.int .u8) ?_
  rw [UInt8.toNat_add]
  omega
theorem u8_sub (a b : UInt8) : Value.int .u8 (((a.toNat : Int) - (b.toNat : Int)) % 256) = encB (a - b) := by
  unfold encB
  refine congrArg (Value.int .u8) ?_
  rw [UInt8.toNat_sub]
  have := a.toNat_lt
  have := b.toNat_lt
  omega
end Go.Proofs.Ytaamonhhclffcaa
