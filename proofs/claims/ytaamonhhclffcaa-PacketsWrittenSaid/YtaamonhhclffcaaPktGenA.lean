/-
  The generator RightPacket.
-/
import Derived.Test.YtaamonhhclffcaaPkt
import Derived.Test.YtaamonhhclffcaaGenD
import Derived.Test.YtaamonhhclffcaaRegionP
import Derived.Deep.CutBlock
namespace Go.Proofs.Ytaamonhhclffcaa
open Go.RowKit Go
set_option linter.unusedVariables false

def NumsAt (b n : Nat) (zs : List Int) (v : Value) (w : World) : Prop := ∃ B, v = .slice (some ⟨B, 0, none⟩) n n ∧ B ≠ b ∧ RdInts w B 0 n zs
theorem NumsAt.keep {b n : Nat} {zs : List Int} {v : Value} {w w' : World} (h : NumsAt b n zs v w) (hg : w.grownBy w' (some b)) : NumsAt b n zs v w' := by
  obtain ⟨B, hv, hb, h1, h2, h3⟩ := h
  refine ⟨B, hv, hb, h1, Nat.lt_of_lt_of_le h2 hg.size, fun i hi => ?_⟩
  exact (World.cell?_of_block (w := w) (hg.block B h2 (by simpa using hb))).trans (h3 i hi)
theorem NumsAt.new {b : Nat} (w : World) (t : TypeId) (zs : List Int) (n : Nat) (hn : zs.length = n) (hb : b < w.heap.size) (vs : Array Value) (hv : vs = (zs.map (Value.int .i64)).toArray) : NumsAt b n zs (.slice (some ⟨w.heap.size, 0, none⟩) n n) (w.alloc (.cells vs t (0, 0))) := by
  subst hn
  exact ⟨w.heap.size, rfl, by omega, rdInts_new w t zs vs hv⟩
def IsI (v : Value) : Prop := ∃ k, v = .int .i64 k
theorem pick_at (b m n : Nat) (zs : List Int) (v : Value) (w : World) (h : Strm w b m) (hm : m < 1099511627776) (hv : NumsAt b n zs v w) (hn : 1 ≤ n ∧ n ≤ 1000) :
    Calls Try.prog 18 #[.pointer (some ⟨b, 0, none⟩), v] w fun e w' => ∃ k : Int, e = .returned (.int .i64 k) ∧ k ∈ zs ∧ Gen b w w' (m + 1) := by
  obtain ⟨B, rfl, hb, hr⟩ := hv
  exact pick_gen b m B 0 n n zs w h hm (by omega) hr hb

def isI : Value → Bool
  | .int .i64 _ => true
  | _ => false
theorem isI_all : ∀ (l : List Value), l.all isI = true → ∃ zs : List Int, l = zs.map (Value.int .i64)
  | [], _ => ⟨[], rfl⟩
  | v :: l, h => by
    simp only [List.all_cons, Bool.and_eq_true] at h
    obtain ⟨zs, rfl⟩ := isI_all l h.2
    unfold isI at h
    split at h
    · exact ⟨_ :: zs, rfl⟩
    · cases h.1
theorem pick_ints (b m g n : Nat) (t : TypeId) (vs : Array Value) (w : World) (h : Strm w b m) (hg : w.heap.size = g) (hm : m < 1099511627776) (hn : vs.size = n) (hn1 : 1 ≤ n ∧ n ≤ 1000) (hv : vs.toList.all isI = true) :
    Calls Try.prog 18 #[.pointer (some ⟨b, 0, none⟩), .slice (some ⟨g, 0, none⟩) n n] (w.alloc (.cells vs t (0, 0))) fun e w' => ∃ k : Int, e = .returned (.int .i64 k) ∧ Gen b w w' (m + 1) := by
  obtain ⟨zs, hz⟩ := isI_all _ hv
  have hz' : vs = (zs.map (Value.int .i64)).toArray := by rw [← hz]
  exact (pick_new b m g n t vs zs w h hg hm (by rw [← hn, hz']; simp) hn1 hz').mono fun _ _ ⟨k, h1, _, h3⟩ => ⟨k, h1, h3⟩

def pktR (b G : Nat) (f : FV) (p : Nat) (v : Value) (w : World) : Prop :=
  match p with
  | 0 => v = .pointer (some ⟨G, 1, none⟩)
  | 1 => v = .agg #[.bool f.s1, .int .u64 f.h1, .int .u64 f.l1]
  | 2 => v = .pointer (some ⟨G, 4, none⟩)
  | 3 => v = .agg #[.bool f.s2, .int .u64 f.h2, .int .u64 f.l2]
  | 4 => v = .pointer (some ⟨b, 0, none⟩)
  | 5 => NumsAt b 4 [0, 1, 64, 255] v w
  | 6 => IsI v
  | 7 => v = .pointer (some ⟨b, 0, none⟩)
  | 8 => NumsAt b 4 [6, 6, 17, 1] v w
  | 9 => IsI v
  | 11 => ∃ F, v = .pointer (some ⟨F, 0, none⟩) ∧ G < F ∧ F ≠ b ∧ PBlk w F PV.zero
  | 10 => ∃ p q, v = .agg (PV.mk f.s1 f.h1 f.l1 f.s2 f.h2 f.l2 p q 0 0 false false false false 0 0 false 0 (.slice none 0 0)).cells
  | _ => False

theorem u8_wrap (k : Int) : ∃ c : UInt8, Value.int .u8 (IntKind.u8.wrap k) = encB c := by
  refine ⟨UInt8.ofNat (k % 256).toNat, ?_⟩
  unfold encB
  refine congrArg (Value.int .u8) ?_
  rw [UInt8.toNat_ofNat', IntKind.wrap_u8]
  omega
/-- the drawn region that appends a byte to the payload: what is known of each value, n being what has run (100: the append) -/
def payR (b B F : Nat) (L : List UInt8) (v0 : Value) (p : Nat) (v : Value) (n : Nat) (w : World) : Prop :=
  match p with
  | 0 => v = .pointer (some ⟨F, 18, none⟩)
  | 1 => v = v0
  | 2 => v = .pointer (some ⟨b, 0, none⟩)
  | 3 => v = .pointer (some ⟨b, 0, none⟩)
  | 4 => IsI v ∧ 1 ≤ n
  | 5 => 2 ≤ n ∧ ∃ k B, v = .slice (some ⟨B, 0, none⟩) 4 4 ∧ B ≠ b ∧ w.heap[B]? = some (.cells #[.int .i64 0, .int .i64 255, .int .i64 65, .int .i64 k] 3 (0, 0))
  | 6 => IsI v ∧ 3 ≤ n
  | 7 => (∃ c, v = encB c) ∧ 3 ≤ n
  | 8 => 4 ≤ n ∧ (n < 100 → ∃ g c, v = .slice (some ⟨g, 0, none⟩) 1 1 ∧ g ≠ b ∧ w.heap[g]? = some (.cells #[encB c] 5 (0, 0)))
  | 9 => 100 ≤ n ∧ v.oneCell' = true ∧ ∃ c, OwnB w B v (L ++ [c])
  | 10 => v = .pointer (some ⟨F, 18, none⟩)
  | _ => False
def payS (b : Nat) (n : Nat) (u : World) (n' : Nat) (v : World) : Prop := n ≤ n' ∧ (n' < 100 ∨ 100 ≤ n → u.grownBy v (some b)) ∧ ∀ i cs, i ≠ b → u.heap[i]? = some (.cells cs 3 (0, 0)) → v.heap[i]? = some (.cells cs 3 (0, 0))
theorem payS_grown {b n n' : Nat} {u v : World} (h : n ≤ n') (hg : u.grownBy v (some b)) : payS b n u n' v := ⟨h, fun _ => hg, fun i cs hi he => blk_keep hg hi he⟩
theorem payS_refl (b : Nat) (n : Nat) (u : World) : payS b n u n u := payS_grown (Nat.le_refl _) (World.grownBy.refl _ _)
theorem rdInts_at {w : World} {B : Nat} {t : TypeId} {a b c d : Int} (h : w.heap[B]? = some (.cells #[.int .i64 a, .int .i64 b, .int .i64 c, .int .i64 d] t (0, 0))) : RdInts w B 0 4 [a, b, c, d] := by
  refine ⟨rfl, lt_of_block h, fun i hi => ?_⟩
  rw [Nat.zero_add, cell_of_row w B i _ _ _ h]
  have : i = 0 ∨ i = 1 ∨ i = 2 ∨ i = 3 := by omega
  rcases this with rfl | rfl | rfl | rfl <;> rfl
theorem OwnB.notInt {w : World} {B i : Nat} {v : Value} {L : List UInt8} {cs : Array Value} (h : OwnB w B v L) (hi : w.heap[i]? = some (.cells cs 3 (0, 0))) : v.ownBlock ≠ some i := by
  intro hk
  rcases h.2 with ⟨rfl, _⟩ | ⟨g, cap, cur, rfl, hb, hg, r⟩
  · cases hk
  · obtain rfl : g = i := by simpa [Value.ownBlock] using hk
    rw [hg] at hi
    injection hi with hi
    injection hi with _ h3 _
    revert h3
    decide
theorem payR_keep {b B F : Nat} {L : List UInt8} {v0 : Value} (hbB : b < B) : ∀ p v n w n' w', payR b B F L v0 p v n w → payS b n w n' w' → payR b B F L v0 p v n' w' := by
  intro p v n w n' w' h ⟨h0, h1, h3⟩
  rcases p with _ | _ | _ | _ | _ | _ | _ | _ | _ | _ | _ | p
  all_goals first | exact h | skip
  · exact ⟨h.1, by have := h.2; omega⟩
  · obtain ⟨e0, k, B, e1, e2, e3⟩ := h
    exact ⟨by omega, k, B, e1, e2, h3 _ _ e2 e3⟩
  · exact ⟨h.1, by have := h.2; omega⟩
  · exact ⟨h.1, by have := h.2; omega⟩
  · refine ⟨by have := h.1; omega, fun hn => ?_⟩
    obtain ⟨g, c, e1, e2, e3⟩ := h.2 (by omega)
    exact ⟨g, c, e1, e2, blk_keep (h1 (.inl hn)) e2 e3⟩
  · obtain ⟨e0, e1, c, e2⟩ := h
    have hg := h1 (.inr e0)
    exact ⟨by omega, e1, c, e2.block fun k hk => hg.block k (own_lt e2 k hk) (by have := own_base e2 k hk; simp; omega)⟩

set_option maxRecDepth 100000 in
set_option maxHeartbeats 2000000 in
theorem rightPacket_gen (b m : Nat) (w : World) (h : Strm w b m) (hm : m + 3000 < 1099511627776) :
    Calls Try.prog 58 #[.pointer (some ⟨b, 0, none⟩)] w fun e w' => ∃ (x : PV) (L : List UInt8), e = .returned (.agg x.cells) ∧ x.ok ∧ OwnB w' w.heap.size x.pay L ∧ L.length ≤ 20 ∧ Gen b w w' (m + 2102) := by
  have hblt := h.lt
  go_enter Try.func58, Try.ntmps58
  go_wp2_with fail
  refine (rightFlow_gen b m _ (h.alloc _) (by omega)).mono ?_
  rintro e w1 ⟨f, rfl, HO, hg⟩
  have HO := Lib.hid HO
  have HA1 : PBlk w1 w.heap.size PV.zero := Blk.keep (Blk.new w _ _) hg.g (by omega)
  have hG1 : Gen b w w1 (m + 11) := ((Gen.start h).alloc _).trans hg
  have HF1 : FBlk (w1.alloc (.cells #[.int .i64 f.p, .bool f.s1, .int .u64 f.h1, .int .u64 f.l1, .bool f.s2, .int .u64 f.h2, .int .u64 f.l2, .int .i64 f.fp, .int .i64 f.tp] 30 (0, 0))) w1.heap.size f := Blk.new w1 _ _
  have HA2 := HA1.alloc (.cells #[.int .i64 f.p, .bool f.s1, .int .u64 f.h1, .int .u64 f.l1, .bool f.s2, .int .u64 f.h2, .int .u64 f.l2, .int .i64 f.fp, .int .i64 f.tp] 30 (0, 0))
  have hG2 := hG1.alloc (.cells #[.int .i64 f.p, .bool f.s1, .int .u64 f.h1, .int .u64 f.l1, .bool f.s2, .int .u64 f.h2, .int .u64 f.l2, .int .i64 f.fp, .int .i64 f.tp] 30 (0, 0))
  have hltA : w.heap.size < w1.heap.size := HA1.lt
  have hs : w1.heap.size < (w1.alloc (.cells #[.int .i64 f.p, .bool f.s1, .int .u64 f.h1, .int .u64 f.l1, .bool f.s2, .int .u64 f.h2, .int .u64 f.l2, .int .i64 f.fp, .int .i64 f.tp] 30 (0, 0))).heap.size := HF1.lt
  have H2 := Lib.hid (And.intro HA2 (And.intro hG2 HF1))
  clear hg HA1 hG1 HF1 HA2 hG2
  unfold FV.cells
  go_wp2_with fail
  generalize (w1.alloc (.cells #[.int .i64 f.p, .bool f.s1, .int .u64 f.h1, .int .u64 f.l1, .bool f.s2, .int .u64 f.h2, .int .u64 f.l2, .int .i64 f.fp, .int .i64 f.tp] 30 (0, 0))) = w2 at *
  generalize w1.heap.size = G at *
  refine wp_region_inv 12 2 (pktR b G f) (fun n w' => Gen b w w' (m + 11 + n) ∧ FBlk w' G f ∧ PBlk w' w.heap.size PV.zero) (fun u v => u.grownBy v (some b)) (fun i => if i = 6 ∨ i = 9 then 1 else 0)
    (by kernel_rfl) (by kernel_rfl) (by decide) ?hS ⟨H2.out.2.1.drew, H2.out.2.2.drewN 1, Blk.drewN H2.out.1 1⟩ ?hX
  case' hX => (apply Exists.intro; refine ⟨fun T => ?hA, ?hob, ?hend⟩)
  case hA =>
    simp only [setAll, List.take_succ_cons, List.take_zero, Act.put, List.setIfInBounds_toArray, List.set_cons_succ, List.set_cons_zero, Nat.reduceAdd]
    exact rfl
  case hS =>
    intro p v u u' hR hg
    rcases p with _ | _ | _ | _ | _ | _ | _ | _ | _ | _ | _ | _ | p
    all_goals first | exact NumsAt.keep hR hg | exact hR | (obtain ⟨F, h1, h2, h3, h4⟩ := hR; exact ⟨F, h1, h2, h3, Blk.keep h4 hg h3⟩)
  case hob =>
    refine ⟨?_, ?_, ?_, ?_, ?_, ?_, ?_, ?_, ?_, ?_, ?_, ?_, trivial⟩
    all_goals (intro T wx n hC hn hp; obtain ⟨hC, hF, hA⟩ := hC; dsimp only at hn ⊢; unfold Op1)
    · go_simp
      first | exact ⟨rfl, World.grownBy.refl _ _⟩ | exact World.grownBy.refl _ _
    · obtain ⟨h1, -⟩ := hp
      have h1 : T 0 = .pointer (some ⟨G, 1, none⟩) := h1
      obtain ⟨c0, c1, c2, c3, c4, c5, c6, c7, c8, f0⟩ := FBlk.cells hF
      go_simp
      first | exact ⟨rfl, World.grownBy.refl _ _⟩ | exact World.grownBy.refl _ _
    · go_simp
      first | exact ⟨rfl, World.grownBy.refl _ _⟩ | exact World.grownBy.refl _ _
    · obtain ⟨h1, -⟩ := hp
      have h1 : T 2 = .pointer (some ⟨G, 4, none⟩) := h1
      obtain ⟨c0, c1, c2, c3, c4, c5, c6, c7, c8, f0⟩ := FBlk.cells hF
      go_simp
      first | exact ⟨rfl, World.grownBy.refl _ _⟩ | exact World.grownBy.refl _ _
    · go_simp
      first | exact ⟨rfl, World.grownBy.refl _ _⟩ | exact World.grownBy.refl _ _
    · go_simp
      exact ⟨NumsAt.new wx _ _ 4 rfl hC.s.lt _ rfl, ⟨hC.alloc _, Blk.alloc hF _, Blk.alloc hA _⟩, World.grownBy_alloc _ _ _⟩
    · obtain ⟨h1, h2, -⟩ := hp
      have h1 : T 4 = .pointer (some ⟨b, 0, none⟩) := h1
      go_simp
      refine (pick_at b (m + 11 + n) 4 _ _ _ hC.s (by simp at hn; omega) h2 (by omega)).mono ?_
      rintro e w2 ⟨k, rfl, -, hg2⟩
      exact ⟨_, rfl, ⟨k, rfl⟩, ⟨hC.trans hg2, Blk.keep hF hg2.g (by omega), Blk.keep hA hg2.g (by omega)⟩, hg2.g⟩
    · go_simp
      first | exact ⟨rfl, World.grownBy.refl _ _⟩ | exact World.grownBy.refl _ _
    · go_simp
      exact ⟨NumsAt.new wx _ _ 4 rfl hC.s.lt _ rfl, ⟨hC.alloc _, Blk.alloc hF _, Blk.alloc hA _⟩, World.grownBy_alloc _ _ _⟩
    · obtain ⟨h1, h2, -⟩ := hp
      have h1 : T 7 = .pointer (some ⟨b, 0, none⟩) := h1
      go_simp
      refine (pick_at b (m + 11 + n) 4 _ _ _ hC.s (by simp at hn; omega) h2 (by omega)).mono ?_
      rintro e w2 ⟨k, rfl, -, hg2⟩
      exact ⟨_, rfl, ⟨k, rfl⟩, ⟨hC.trans hg2, Blk.keep hF hg2.g (by omega), Blk.keep hA hg2.g (by omega)⟩, hg2.g⟩
    · obtain ⟨h1, h2, ⟨k1, h3⟩, ⟨k2, h4⟩, -⟩ := hp
      have h1 : T 1 = .agg #[.bool f.s1, .int .u64 f.h1, .int .u64 f.l1] := h1
      have h2 : T 3 = .agg #[.bool f.s2, .int .u64 f.h2, .int .u64 f.l2] := h2
      go_simp
      exact ⟨⟨k1, k2, rfl⟩, World.grownBy.refl _ _⟩
    · go_simp
      exact ⟨⟨wx.heap.size, rfl, hF.lt, by have := hC.s.lt; omega, Blk.new wx _ _⟩, ⟨hC.alloc _, Blk.alloc hF _, Blk.alloc hA _⟩, World.grownBy_alloc _ _ _⟩
  case hend =>
    intro T wx ⟨n, hn, hC, hF, hA⟩ hR
    obtain ⟨p, q, hT⟩ := hR 10 (by omega)
    obtain ⟨F, hTF, hGF, hFb, hFz⟩ := hR 11 (by omega)
    clear hR
    have hok : (PV.mk f.s1 f.h1 f.l1 f.s2 f.h2 f.l2 p q 0 0 false false false false 0 0 false 0 (.slice none 0 0)).ok := ⟨HO.out.2.1, HO.out.2.2.1, HO.out.2.2.2.1, HO.out.2.2.2.2.1, rfl⟩
    have hPG : PG b w (m + 13) w.heap.size F PV.zero wx := ⟨hFz, hA, hC.mono (by omega), ⟨by simp [PV.zero, U64], by simp [PV.zero, U64], by simp [PV.zero, U64], by simp [PV.zero, U64], rfl⟩, hblt, by omega, by omega, Nat.le_refl _, by omega⟩
    have hxp : (PV.mk f.s1 f.h1 f.l1 f.s2 f.h2 f.l2 p q 0 0 false false false false 0 0 false 0 (.slice none 0 0)).pay = .slice none 0 0 := rfl
    generalize PV.mk f.s1 f.h1 f.l1 f.s2 f.h2 f.l2 p q 0 0 false false false false 0 0 false 0 (.slice none 0 0) = x at *
    have HP := Lib.hid (hPG.store x hok)
    have Hxp := Lib.hid hxp
    rw [hT, hTF]
    refine wpList_store_row rfl 45 (.tmp 4) (.tmp 17) rfl F x.cells rfl rfl 45 _ hPG.f (by kernel_rfl) rfl (x.one hok.2.2.2.2) ?_
    generalize wx.setRow F x.cells = w3 at *
    clear hPG hF hA hC hxp hok hFz hT hTF hltA hs H2 hGF hFb
    go_upto_region 3 with fail
    have HP := HP
    obtain ⟨c0, c1, c2, c3, c4, c5, c6, c7, c8, c9, c10, c11, c12, c13, c14, c15, c16, c17, c18, f0⟩ := PBlk.cells HP.out.f
    go_upto_block 0 with fail
    clear c0 c1 c2 c3 c4 c5 c6 c7 c8 c9 c10 c11 c12 c13 c14 c15 c16 c17 c18 f0
    go_cut [] (fun wx => ∃ x : PV, PG b w (m + 21) w.heap.size F x wx ∧ x.pay = .slice none 0 0)
    case first =>
      go_wp2_with fail
      · refine (pick_ints b _ _ _ _ _ _ HP.out.g.s ?h1 ?h2 ?h3 ?h4 ?h5).mono ?_
        case h1 => first | rfl | simp
        case h2 => omega
        case h3 => rfl
        case h4 => decide
        case h5 => rfl
        rintro e w4 ⟨k4, rfl, hg⟩
        replace HP := Lib.hid (HP.out.step hg)
        clear hg
        go_wp2_with fail
        refine (pick_ints b _ _ _ _ _ _ HP.out.g.s ?h1 ?h2 ?h3 ?h4 ?h5).mono ?_
        case h1 => first | rfl | simp
        case h2 => omega
        case h3 => rfl
        case h4 => decide
        case h5 => rfl
        rintro e w5 ⟨k5, rfl, hg⟩
        replace HP := Lib.hid (HP.out.step hg)
        clear hg
        obtain ⟨c0, c1, c2, c3, c4, c5, c6, c7, c8, c9, c10, c11, c12, c13, c14, c15, c16, c17, c18, f0⟩ := PBlk.cells HP.out.f
        go_wp2_with fail
        clear c0 c1 c2 c3 c4 c5 c6 c7 c8 c9 c10 c11 c12 c13 c14 c15 c16 c17 c18 f0
        replace HP := Lib.hid (HP.out.set_fp k4 |>.set_tp k5)
        refine (flip_gen b _ _ _ HP.out.g.s (by omega) (by omega)).mono ?_
        rintro e w6 ⟨k6, rfl, hg⟩
        replace HP := Lib.hid (HP.out.step hg)
        clear hg
        go_wp2_with fail
        refine (flip_gen b _ _ _ HP.out.g.s (by omega) (by omega)).mono ?_
        rintro e w7 ⟨k7, rfl, hg⟩
        replace HP := Lib.hid (HP.out.step hg)
        clear hg
        go_wp2_with fail
        refine (flip_gen b _ _ _ HP.out.g.s (by omega) (by omega)).mono ?_
        rintro e w8 ⟨k8, rfl, hg⟩
        replace HP := Lib.hid (HP.out.step hg)
        clear hg
        go_wp2_with fail
        refine (flip_gen b _ _ _ HP.out.g.s (by omega) (by omega)).mono ?_
        rintro e w9 ⟨k9, rfl, hg⟩
        replace HP := Lib.hid (HP.out.step hg)
        clear hg
        obtain ⟨c0, c1, c2, c3, c4, c5, c6, c7, c8, c9, c10, c11, c12, c13, c14, c15, c16, c17, c18, f0⟩ := PBlk.cells HP.out.f
        go_wp2_with fail
        clear c0 c1 c2 c3 c4 c5 c6 c7 c8 c9 c10 c11 c12 c13 c14 c15 c16 c17 c18 f0
        replace HP := Lib.hid (HP.out.set_syn k6 |>.set_fin k7 |>.set_rst k8 |>.set_has k9)
        refine (pick_ints b _ _ _ _ _ _ HP.out.g.s ?h1 ?h2 ?h3 ?h4 ?h5).mono ?_
        case h1 => first | rfl | simp
        case h2 => omega
        case h3 => rfl
        case h4 => decide
        case h5 => rfl
        rintro e w10 ⟨k10, rfl, hg⟩
        replace HP := Lib.hid (HP.out.step hg)
        clear hg
        obtain ⟨c0, c1, c2, c3, c4, c5, c6, c7, c8, c9, c10, c11, c12, c13, c14, c15, c16, c17, c18, f0⟩ := PBlk.cells HP.out.f
        cases k9
        · go_wp2_with fail
          clear c0 c1 c2 c3 c4 c5 c6 c7 c8 c9 c10 c11 c12 c13 c14 c15 c16 c17 c18 f0
          replace HP := Lib.hid (HP.out.set_seq k10)
          go_meet
          case rel => exact ⟨_, HP.out.mono (by omega), Hxp.out⟩
        · go_wp2_with fail
          clear c0 c1 c2 c3 c4 c5 c6 c7 c8 c9 c10 c11 c12 c13 c14 c15 c16 c17 c18 f0
          replace HP := Lib.hid (HP.out.set_seq k10)
          refine (pick_ints b _ _ _ _ _ _ HP.out.g.s ?h1 ?h2 ?h3 ?h4 ?h5).mono ?_
          case h1 => first | rfl | simp
          case h2 => omega
          case h3 => rfl
          case h4 => decide
          case h5 => rfl
          rintro e w11 ⟨k11, rfl, hg⟩
          replace HP := Lib.hid (HP.out.step hg)
          clear hg
          obtain ⟨c0, c1, c2, c3, c4, c5, c6, c7, c8, c9, c10, c11, c12, c13, c14, c15, c16, c17, c18, f0⟩ := PBlk.cells HP.out.f
          go_wp2_with fail
          clear c0 c1 c2 c3 c4 c5 c6 c7 c8 c9 c10 c11 c12 c13 c14 c15 c16 c17 c18 f0
          replace HP := Lib.hid (HP.out.set_ack k11)
          go_meet
          case rel => exact ⟨_, HP.out.mono (by omega), Hxp.out⟩
      · refine (pick_ints b _ _ _ _ _ _ HP.out.g.s ?h1 ?h2 ?h3 ?h4 ?h5).mono ?_
        case h1 => first | rfl | simp
        case h2 => omega
        case h3 => rfl
        case h4 => decide
        case h5 => rfl
        rintro e w4 ⟨k4, rfl, hg⟩
        replace HP := Lib.hid (HP.out.step hg)
        clear hg
        go_wp2_with fail
        refine (pick_ints b _ _ _ _ _ _ HP.out.g.s ?h1 ?h2 ?h3 ?h4 ?h5).mono ?_
        case h1 => first | rfl | simp
        case h2 => omega
        case h3 => rfl
        case h4 => decide
        case h5 => rfl
        rintro e w5 ⟨k5, rfl, hg⟩
        replace HP := Lib.hid (HP.out.step hg)
        clear hg
        obtain ⟨c0, c1, c2, c3, c4, c5, c6, c7, c8, c9, c10, c11, c12, c13, c14, c15, c16, c17, c18, f0⟩ := PBlk.cells HP.out.f
        go_wp2_with fail
        clear c0 c1 c2 c3 c4 c5 c6 c7 c8 c9 c10 c11 c12 c13 c14 c15 c16 c17 c18 f0
        replace HP := Lib.hid (HP.out.set_fp k4 |>.set_tp k5)
        go_meet
        case rel => exact ⟨_, HP.out.mono (by omega), Hxp.out⟩
      · refine (flip_gen b _ _ _ HP.out.g.s (by omega) (by omega)).mono ?_
        rintro e w4 ⟨k4, rfl, hg⟩
        replace HP := Lib.hid (HP.out.step hg)
        clear hg
        go_wp2_with fail
        refine (pick_ints b _ _ _ _ _ _ HP.out.g.s ?h1 ?h2 ?h3 ?h4 ?h5).mono ?_
        case h1 => first | rfl | simp
        case h2 => omega
        case h3 => rfl
        case h4 => decide
        case h5 => rfl
        rintro e w5 ⟨k5, rfl, hg⟩
        replace HP := Lib.hid (HP.out.step hg)
        clear hg
        go_wp2_with fail
        refine (pick_ints b _ _ _ _ _ _ HP.out.g.s ?h1 ?h2 ?h3 ?h4 ?h5).mono ?_
        case h1 => first | rfl | simp
        case h2 => omega
        case h3 => rfl
        case h4 => decide
        case h5 => rfl
        rintro e w6 ⟨k6, rfl, hg⟩
        replace HP := Lib.hid (HP.out.step hg)
        clear hg
        obtain ⟨c0, c1, c2, c3, c4, c5, c6, c7, c8, c9, c10, c11, c12, c13, c14, c15, c16, c17, c18, f0⟩ := PBlk.cells HP.out.f
        go_wp2_with fail
        clear c0 c1 c2 c3 c4 c5 c6 c7 c8 c9 c10 c11 c12 c13 c14 c15 c16 c17 c18 f0
        replace HP := Lib.hid (HP.out.set_reply k4 |>.set_id k5 |>.set_seq k6)
        go_meet
        case rel => exact ⟨_, HP.out.mono (by omega), Hxp.out⟩
    case rest =>
      clear HP Hxp
      obtain ⟨x1, HP, hxp⟩ := hcut
      have HP := Lib.hid HP
      have Hxp := Lib.hid hxp
      clear hxp
      go_wp2_with fail
      refine (pick_new b _ _ _ _ _ [0, 0, 1, 2, 3, 20] _ HP.out.g.s rfl (by omega) rfl (by decide) rfl).mono ?_
      rintro e w4 ⟨K0, rfl, hK, hg⟩
      replace HP := Lib.hid (HP.out.step hg)
      have hK' : 0 ≤ K0 ∧ K0 ≤ 20 := by simp at hK; omega
      clear hg hK
      obtain ⟨K, rfl⟩ := Int.eq_ofNat_of_zero_le hK'.1
      have hK20 : K ≤ 20 := by omega
      clear hK'
      go_wp2
      go_loopw [76] (fun i wr => ∃ (k : Nat) (x2 : PV) (L : List UInt8), k ≤ K ∧ i = .int .i64 k ∧ L.length = k ∧ Hid (PG b w (m + 22 + 104 * k) w.heap.size F x2 wr) ∧ Hid (OwnB wr w.heap.size x2.pay L)) (fun i _ => K - (intOf i).toNat)
      case atStart => exact ⟨0, x1, [], Nat.zero_le _, rfl, rfl, Lib.hid (HP.out.mono (by omega)), Lib.hid (by rw [Hxp.out]; exact OwnB.nil _ _)⟩
      case round =>
        obtain ⟨k, x2, L, hk, rfl, hL, HP, HO⟩ := hrel
        have HL := Lib.hid hL
        clear hL
        by_cases hlt : k < K
        · go_upto_region 15 with fail
          refine Ph.wp_region_ph 11 104 (payR b w.heap.size F L x2.pay) (fun n w' => PG b w (m + 22 + 104 * k + n) w.heap.size F x2 w' ∧ (n < 100 → OwnB w' w.heap.size x2.pay L)) (payS b) (fun i => if i = 4 ∨ i = 5 ∨ i = 6 ∨ i = 8 then 1 else if i = 9 then 100 else 0)
            (by kernel_rfl) (by kernel_rfl) (by decide) ?hS2 ⟨HP.out.drewN 1, fun _ => HO.out⟩ ?hX2
          case' hX2 => (apply Exists.intro; refine ⟨fun T => ?hA2, ?hob2, ?hend2⟩)
          case hA2 =>
            simp only [setAll, List.take_succ_cons, List.take_zero, Act.put, List.setIfInBounds_toArray, List.set_cons_succ, List.set_cons_zero, Nat.reduceAdd]
            exact rfl
          case hS2 => exact payR_keep hblt
          case hob2 =>
            refine ⟨?_, ?_, ?_, ?_, ?_, ?_, ?_, ?_, ?_, ?_, ?_, trivial⟩
            all_goals (intro T wx n hC hn hp; obtain ⟨hC, hO⟩ := hC; dsimp only at hn ⊢; try simp at hn)
            · unfold Op1; go_simp; exact ⟨rfl, hO, payS_refl _ _ _⟩
            · obtain ⟨h1, -⟩ := hp
              have h1 : T 0 = .pointer (some ⟨F, 18, none⟩) := h1
              obtain ⟨-, -, -, -, -, -, -, -, -, -, -, -, -, -, -, -, -, -, c18, f0⟩ := PBlk.cells hC.f
              unfold Op1; go_simp; exact ⟨rfl, hO, payS_refl _ _ _⟩
            · unfold Op1; go_simp; exact ⟨rfl, hO, payS_refl _ _ _⟩
            · unfold Op1; go_simp; exact ⟨rfl, hO, payS_refl _ _ _⟩
            · obtain ⟨h1, -⟩ := hp
              have h1 : T 3 = .pointer (some ⟨b, 0, none⟩) := h1
              unfold Op1
              go_simp
              refine (range_gen b _ 0 255 wx hC.g.s (by omega) (by omega) (by omega)).mono ?_
              rintro e w2 ⟨kr, rfl, -, hg2⟩
              exact ⟨_, rfl, ⟨⟨kr, rfl⟩, by omega⟩, ⟨hC.step hg2, fun h => (hO (by omega)).gen hg2 hblt⟩, payS_grown (by omega) hg2.g⟩
            · obtain ⟨⟨⟨kr, h1⟩, hn1⟩, -⟩ := hp
              unfold Op1
              go_simp
              exact ⟨⟨by omega, kr, wx.heap.size, rfl, by have := hC.g.s.lt; omega, heap_alloc_new wx _⟩, ⟨(hC.alloc _).mono (by omega), fun h => (hO (by omega)).alloc _⟩, payS_grown (by omega) (World.grownBy_alloc _ _ _)⟩
            · obtain ⟨h1, ⟨hn1, kr, B5, h2, h3, h4⟩, -⟩ := hp
              have h1 : T 2 = .pointer (some ⟨b, 0, none⟩) := h1
              have h5 : NumsAt b 4 [0, 255, 65, kr] (T 5) wx := ⟨B5, h2, h3, rdInts_at h4⟩
              clear h2
              unfold Op1
              go_simp
              refine (pick_at b _ 4 _ _ wx hC.g.s (by omega) h5 (by omega)).mono ?_
              rintro e w2 ⟨kp, rfl, -, hg2⟩
              exact ⟨_, rfl, ⟨⟨kp, rfl⟩, by omega⟩, ⟨hC.step hg2, fun h => (hO (by omega)).gen hg2 hblt⟩, payS_grown (by omega) hg2.g⟩
            · obtain ⟨⟨⟨kp, h1⟩, hn1⟩, -⟩ := hp
              unfold Op1
              go_simp
              exact ⟨⟨u8_wrap kp, hn1⟩, hO, payS_refl _ _ _⟩
            · obtain ⟨⟨⟨cc, h1⟩, hn1⟩, -⟩ := hp
              unfold encB at h1
              unfold Op1
              go_simp
              exact ⟨⟨by omega, fun _ => ⟨wx.heap.size, cc, rfl, by have := hC.g.s.lt; omega, heap_alloc_new wx _⟩⟩, ⟨(hC.alloc _).mono (by omega), fun h => (hO (by omega)).alloc _⟩, payS_grown (by omega) (World.grownBy_alloc _ _ _)⟩
            · obtain ⟨h1, ⟨hn1, h2⟩, -⟩ := hp
              have h1 : T 1 = x2.pay := h1
              obtain ⟨g, cc, e1, e2, e3⟩ := h2 (by omega)
              have hOO := hO (by omega)
              simp only [Nat.reduceAdd, Nat.reduceEqDiff, reduceIte, or_self] at hn ⊢
              refine Op1.app byteE rfl h1 hOO (e1 : _ = _) (src_one wx g (encB cc) _ e3) (by intro u hu; simp at hu; subst hu; rfl) ?_ ?_ ?_ ?_
              · have := HL.out; simp only [maxLen]; omega
              · have := HL.out; omega
              · exact hC.g.g.size
              intro v' w' hO' hG
              have hO2 : OwnB w' w.heap.size v' (L ++ [cc]) := by
                show w'.ownsRow _ _ _ _ _ _
                rw [List.length_append, encBs, List.map_append]
                exact hO'
              exact ⟨⟨by omega, hO2.one, cc, hO2⟩, ⟨(hC.grew hOO hG hblt).mono (by omega), fun h => absurd h (by omega)⟩, ⟨by omega, fun h => absurd h (by omega), fun i cs _ hi => (hG.g.block i (lt_of_block hi) (fun e => hOO.notInt hi e.symm)).trans hi⟩⟩
            · unfold Op1; go_simp; exact ⟨rfl, hO, payS_refl _ _ _⟩
          case hend2 =>
            intro T wx ⟨n, hn, ⟨hC, hO⟩, hR⟩
            obtain ⟨h9, h9b, cc, h9c⟩ := hR 9 (by omega)
            have h10 : T 10 = .pointer (some ⟨F, 18, none⟩) := hR 10 (by omega)
            have hP2 := Lib.hid (hC.set_pay (T 9) h9b)
            have hO2 := Lib.hid (h9c.setCell hC.f 18 (T 9))
            obtain ⟨-, -, -, -, -, -, -, -, -, -, -, -, -, -, -, -, -, -, c18, f0⟩ := PBlk.cells hC.f
            obtain ⟨ad9, c9, hv9, -⟩ := own_form h9c
            clear hR hO h9 hC h9c
            simp only [List.drop_succ_cons, List.drop_zero]
            generalize T 9 = v9 at *
            generalize (L ++ [cc]).length = ln at hv9
            subst hv9
            rw [h10]
            go_wp2_with fail
            refine ⟨⟨k + 1, _, L ++ [cc], by omega, by go_num, by simp; exact HL.out, Lib.hid (hP2.out.mono (by omega)), hO2⟩, by simp [intOf]; omega⟩
        · obtain rfl : k = K := by omega
          go_wp2_with (first | (refine wpList_load_row rfl 45 (.tmp 4) rfl F rfl 45 x2.cells (0, 0) _ HP.out.f Try.underlying45 rfl (by kernel_rfl) ?_) | (refine wpList_store_row rfl 45 (.tmp 2) (.tmp 90) rfl w.heap.size x2.cells rfl rfl 45 _ HP.out.a (by kernel_rfl) rfl (x2.one HP.out.ok.2.2.2.2) ?_))
          refine bodyPost_ret (v := .agg x2.cells) (results_cell_row Try.results58 _ _ w.heap.size 45 x2.cells (0, 0) _ rfl (setRow_heap _ _ _ _ _ _ HP.out.a) Try.underlying45 rfl (by kernel_rfl)) rfl ⟨x2, L, rfl, HP.out.ok, ?_, by have := HL.out; omega, Gen.setRow (HP.out.g.mono (by omega)) (Nat.le_refl _) hblt _⟩
          exact HO.out.setRow HP.out.a _
end Go.Proofs.Ytaamonhhclffcaa
