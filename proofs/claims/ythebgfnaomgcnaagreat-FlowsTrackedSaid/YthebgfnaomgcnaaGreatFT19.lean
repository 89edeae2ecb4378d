/-
  The generator RightPacket.
  A right packet is made: what the generator leaves.
  A right packet's bytes: the function of the packet that the program and the reference both compute.
  Bytes set in an own row; sums of rows that can be read.
  The generator Packet.
  The generator of right prefixes: what it returns is a right prefix.
  Generators of sets of prefixes.
  The generator of a part of a row (lanemake's Row$1).
-/
import Derived.Test.YthebgfnaomgcnaaGreatFT9
import Derived.Test.YthebgfnaomgcnaaGreatFT18
import Derived.Deep.CutBlock
import Derived.Test.YthebgfnaomgcnaaGreatFT6
import Derived.Test.YthebgfnaomgcnaaGreatFT3
import Derived.Test.YthebgfnaomgcnaaGreatFT7
import Derived.Test.YthebgfnaomgcnaaGreatFT16
import Derived.Test.YthebgfnaomgcnaaGreatFT12
import Derived.BigRegion
import Derived.Test.YthebgfnaomgcnaaGreatFT14
import Derived.Test.YthebgfnaomgcnaaGreatFT5
set_option linter.unusedVariables false
set_option maxRecDepth 100000
set_option maxHeartbeats 4000000
namespace Go.Proofs.YthebgfnaomgcnaaGreat
open Go.RowKit Go
def NumsAt (b n : Nat) (zs : List Int) (v : Value) (w : World) : Prop:=∃ B,v = .slice (some ⟨B,0,none⟩) n n ∧ B ≠ b ∧ RdInts w B 0 n zs
theorem NumsAt.keep {b n : Nat} {zs : List Int} {v : Value} {w w' : World} (h : NumsAt b n zs v w) (hg : w.grownBy w' (some b)) : NumsAt b n zs v w':=by
 obtain ⟨B,hv,hb,h1,h2,h3⟩:=h
 refine ⟨B,hv,hb,h1,Nat.lt_of_lt_of_le h2 hg.size,fun i hi => ?_⟩
 exact (World.cell?_of_block (w:=w) (hg.block B h2 (by simpa using hb))).trans (h3 i hi)
theorem NumsAt.new {b : Nat} (w : World) (t : TypeId) (zs : List Int) (n : Nat) (hn : zs.length = n) (hb : b < w.heap.size) (vs : Array Value) (hv : vs = (zs.map (Value.int .i64)).toArray) : NumsAt b n zs (.slice (some ⟨w.heap.size,0,none⟩) n n) (w.alloc (.cells vs t (0,0))):=by
 subst hn
 exact ⟨w.heap.size,rfl,by omega,rdInts_new w t zs vs hv⟩
def IsI (v : Value) : Prop:=∃ k,v = .int .i64 k
theorem pick_at (b m n : Nat) (zs : List Int) (v : Value) (w : World) (h : Strm w b m) (hm : m < 1099511627776) (hv : NumsAt b n zs v w) (hn : 1 ≤ n ∧ n ≤ 1000) :
  Calls Tryz.prog 6 #[.pointer (some ⟨b,0,none⟩),v] w fun e w' => ∃ k : Int,e = .returned (.int .i64 k) ∧ k ∈ zs ∧ Gen b w w' (m + 1):=by
 obtain ⟨B,rfl,hb,hr⟩:=hv
 exact pick_gen b m B 0 n n zs w h hm (by omega) hr hb
def isI : Value → Bool
 | .int .i64 _ => true
 | _ => false
theorem isI_all : ∀ (l : List Value),l.all isI = true → ∃ zs : List Int,l = zs.map (Value.int .i64)
 | [],_ => ⟨[],rfl⟩
 | v :: l,h => by
   simp only [List.all_cons,Bool.and_eq_true] at h
   obtain ⟨zs,rfl⟩:=isI_all l h.2
   unfold isI at h
   split at h
   ·exact ⟨_ :: zs,rfl⟩
   ·cases h.1
theorem pick_ints (b m g n : Nat) (t : TypeId) (vs : Array Value) (w : World) (h : Strm w b m) (hg : w.heap.size = g) (hm : m < 1099511627776) (hn : vs.size = n) (hn1 : 1 ≤ n ∧ n ≤ 1000) (hv : vs.toList.all isI = true) :
  Calls Tryz.prog 6 #[.pointer (some ⟨b,0,none⟩), .slice (some ⟨g,0,none⟩) n n] (w.alloc (.cells vs t (0,0))) fun e w' => ∃ k : Int,e = .returned (.int .i64 k) ∧ Gen b w w' (m + 1):=by
 obtain ⟨zs,hz⟩:=isI_all _ hv
 have hz' : vs = (zs.map (Value.int .i64)).toArray:=by rw [← hz]
 exact (pick_new b m g n t vs zs w h hg hm (by rw [← hn,hz'];simp) hn1 hz').mono fun _ _ ⟨k,h1,_,h3⟩ => ⟨k,h1,h3⟩
def pktR (b G : Nat) (f : FV) (p : Nat) (v : Value) (w : World) : Prop :=
 match p with
 | 0 => v = .pointer (some ⟨G,1,none⟩)
 | 1 => v = .agg #[.bool f.s1, .int .u64 f.h1, .int .u64 f.l1]
 | 2 => v = .pointer (some ⟨G,4,none⟩)
 | 3 => v = .agg #[.bool f.s2, .int .u64 f.h2, .int .u64 f.l2]
 | 4 => v = .pointer (some ⟨b,0,none⟩)
 | 5 => NumsAt b 4 [0,1,64,255] v w
 | 6 => IsI v
 | 7 => v = .pointer (some ⟨b,0,none⟩)
 | 8 => NumsAt b 4 [6,6,17,1] v w
 | 9 => IsI v
 | 11 => ∃ F,v = .pointer (some ⟨F,0,none⟩) ∧ G < F ∧ F ≠ b ∧ PBlk w F PV.zero
 | 10 => ∃ p q,v = .agg (PV.mk f.s1 f.h1 f.l1 f.s2 f.h2 f.l2 p q 0 0 false false false false 0 0 false 0 (.slice none 0 0)).cells
 | _ => False
theorem u8_wrap (k : Int) : ∃ c : UInt8,Value.int .u8 (IntKind.u8.wrap k) = encB c:=by
 refine ⟨UInt8.ofNat (k % 256).toNat,?_⟩
 unfold encB
 refine congrArg (Value.int .u8) ?_
 rw [UInt8.toNat_ofNat',IntKind.wrap_u8]
 omega
def payR (b B F : Nat) (L : List UInt8) (v0 : Value) (p : Nat) (v : Value) (n : Nat) (w : World) : Prop :=
 match p with
 | 0 => v = .pointer (some ⟨F,18,none⟩)
 | 1 => v = v0
 | 2 => v = .pointer (some ⟨b,0,none⟩)
 | 3 => v = .pointer (some ⟨b,0,none⟩)
 | 4 => IsI v ∧ 1 ≤ n
 | 5 => 2 ≤ n ∧ ∃ k B,v = .slice (some ⟨B,0,none⟩) 4 4 ∧ B ≠ b ∧ w.heap[B]? = some (.cells #[.int .i64 0, .int .i64 255, .int .i64 65, .int .i64 k] 3 (0,0))
 | 6 => IsI v ∧ 3 ≤ n
 | 7 => (∃ c,v = encB c) ∧ 3 ≤ n
 | 8 => 4 ≤ n ∧ (n < 100 → ∃ g c,v = .slice (some ⟨g,0,none⟩) 1 1 ∧ g ≠ b ∧ w.heap[g]? = some (.cells #[encB c] 5 (0,0)))
 | 9 => 100 ≤ n ∧ v.oneCell' = true ∧ ∃ c,OwnB w B v (L ++ [c])
 | 10 => v = .pointer (some ⟨F,18,none⟩)
 | _ => False
def payS (b : Nat) (n : Nat) (u : World) (n' : Nat) (v : World) : Prop:=n ≤ n' ∧ (n' < 100 ∨ 100 ≤ n → u.grownBy v (some b)) ∧ ∀ i cs,i ≠ b → u.heap[i]? = some (.cells cs 3 (0,0)) → v.heap[i]? = some (.cells cs 3 (0,0))
theorem payS_grown {b n n' : Nat} {u v : World} (h : n ≤ n') (hg : u.grownBy v (some b)) : payS b n u n' v:=⟨h,fun _ => hg,fun i cs hi he => blk_keep hg hi he⟩
theorem payS_refl (b : Nat) (n : Nat) (u : World) : payS b n u n u:=payS_grown (Nat.le_refl _) (World.grownBy.refl _ _)
theorem rdInts_at {w : World} {B : Nat} {t : TypeId} {a b c d : Int} (h : w.heap[B]? = some (.cells #[.int .i64 a, .int .i64 b, .int .i64 c, .int .i64 d] t (0,0))) : RdInts w B 0 4 [a,b,c,d]:=by
 refine ⟨rfl,lt_of_block h,fun i hi => ?_⟩
 rw [Nat.zero_add,cell_of_row w B i _ _ _ h]
 have : i = 0 ∨ i = 1 ∨ i = 2 ∨ i = 3:=by omega
 rcases this with rfl | rfl | rfl | rfl <;> rfl
theorem OwnB.notInt {w : World} {B i : Nat} {v : Value} {L : List UInt8} {cs : Array Value} (h : OwnB w B v L) (hi : w.heap[i]? = some (.cells cs 3 (0,0))) : v.ownBlock ≠ some i:=by
 intro hk
 rcases h.2 with ⟨rfl,_⟩ | ⟨g,cap,cur,rfl,hb,hg,r⟩
 ·cases hk
 ·obtain rfl : g = i:=by simpa [Value.ownBlock] using hk
  rw [hg] at hi
  injection hi with hi
  injection hi with _ h3 _
  revert h3
  decide
theorem payR_keep {b B F : Nat} {L : List UInt8} {v0 : Value} (hbB : b < B) : ∀ p v n w n' w',payR b B F L v0 p v n w → payS b n w n' w' → payR b B F L v0 p v n' w':=by
 intro p v n w n' w' h ⟨h0,h1,h3⟩
 rcases p with _ | _ | _ | _ | _ | _ | _ | _ | _ | _ | _ | p
 all_goals first | exact h | skip
 ·exact ⟨h.1,by have:=h.2;omega⟩
 ·obtain ⟨e0,k,B,e1,e2,e3⟩:=h
  exact ⟨by omega,k,B,e1,e2,h3 _ _ e2 e3⟩
 ·exact ⟨h.1,by have:=h.2;omega⟩
 ·exact ⟨h.1,by have:=h.2;omega⟩
 ·refine ⟨by have:=h.1;omega,fun hn => ?_⟩
  obtain ⟨g,c,e1,e2,e3⟩:=h.2 (by omega)
  exact ⟨g,c,e1,e2,blk_keep (h1 (.inl hn)) e2 e3⟩
 ·obtain ⟨e0,e1,c,e2⟩:=h
  have hg:=h1 (.inr e0)
  exact ⟨by omega,e1,c,e2.block fun k hk => hg.block k (own_lt e2 k hk) (by have:=own_base e2 k hk;simp;omega)⟩
theorem rightPacket_gen (b m : Nat) (w : World) (h : Strm w b m) (hm : m + 3000 < 1099511627776) :
  Calls Tryz.prog 40 #[.pointer (some ⟨b,0,none⟩)] w fun e w' => ∃ (x : PV) (L : List UInt8),e = .returned (.agg x.cells) ∧ x.ok ∧ OwnB w' w.heap.size x.pay L ∧ L.length ≤ 20 ∧ Gen b w w' (m + 2102):=by
 have hblt:=h.lt
 go_enter Tryz.func40,Tryz.ntmps40
 go_wp2_with fail
 refine (rightFlow_gen b m _ (h.alloc _) (by omega)).mono ?_
 rintro e w1 ⟨f,rfl,HO,hg⟩
 have HO:=Lib.hid HO
 have HA1 : PBlk w1 w.heap.size PV.zero:=Blk.keep (Blk.new w _ _) hg.g (by omega)
 have hG1 : Gen b w w1 (m + 11):=((Gen.start h).alloc _).trans hg
 have HF1 : FBlk (w1.alloc (.cells #[.int .i64 f.p, .bool f.s1, .int .u64 f.h1, .int .u64 f.l1, .bool f.s2, .int .u64 f.h2, .int .u64 f.l2, .int .i64 f.fp, .int .i64 f.tp] 63 (0,0))) w1.heap.size f:=Blk.new w1 _ _
 have HA2:=HA1.alloc (.cells #[.int .i64 f.p, .bool f.s1, .int .u64 f.h1, .int .u64 f.l1, .bool f.s2, .int .u64 f.h2, .int .u64 f.l2, .int .i64 f.fp, .int .i64 f.tp] 63 (0,0))
 have hG2:=hG1.alloc (.cells #[.int .i64 f.p, .bool f.s1, .int .u64 f.h1, .int .u64 f.l1, .bool f.s2, .int .u64 f.h2, .int .u64 f.l2, .int .i64 f.fp, .int .i64 f.tp] 63 (0,0))
 have hltA : w.heap.size < w1.heap.size:=HA1.lt
 have hs : w1.heap.size < (w1.alloc (.cells #[.int .i64 f.p, .bool f.s1, .int .u64 f.h1, .int .u64 f.l1, .bool f.s2, .int .u64 f.h2, .int .u64 f.l2, .int .i64 f.fp, .int .i64 f.tp] 63 (0,0))).heap.size:=HF1.lt
 have H2:=Lib.hid (And.intro HA2 (And.intro hG2 HF1))
 clear hg HA1 hG1 HF1 HA2 hG2
 unfold FV.cells
 go_wp2_with fail
 generalize (w1.alloc (.cells #[.int .i64 f.p, .bool f.s1, .int .u64 f.h1, .int .u64 f.l1, .bool f.s2, .int .u64 f.h2, .int .u64 f.l2, .int .i64 f.fp, .int .i64 f.tp] 63 (0,0))) = w2 at *
 generalize w1.heap.size = G at *
 refine wp_region_inv 12 2 (pktR b G f) (fun n w' => Gen b w w' (m + 11 + n) ∧ FBlk w' G f ∧ PBlk w' w.heap.size PV.zero) (fun u v => u.grownBy v (some b)) (fun i => if i = 6 ∨ i = 9 then 1 else 0)
  (by kernel_rfl) (by kernel_rfl) (by decide) ?hS ⟨H2.out.2.1.drew,H2.out.2.2.drewN 1,Blk.drewN H2.out.1 1⟩ ?hX
 case' hX => (apply Exists.intro;refine ⟨fun T => ?hA,?hob,?hend⟩)
 case hA =>
  simp only [setAll,List.take_succ_cons,List.take_zero,Act.put,List.setIfInBounds_toArray,List.set_cons_succ,List.set_cons_zero,Nat.reduceAdd]
  exact rfl
 case hS =>
  intro p v u u' hR hg
  rcases p with _ | _ | _ | _ | _ | _ | _ | _ | _ | _ | _ | _ | p
  all_goals first | exact NumsAt.keep hR hg | exact hR | (obtain ⟨F,h1,h2,h3,h4⟩:=hR;exact ⟨F,h1,h2,h3,Blk.keep h4 hg h3⟩)
 case hob =>
  refine ⟨?_,?_,?_,?_,?_,?_,?_,?_,?_,?_,?_,?_,trivial⟩
  all_goals (intro T wx n hC hn hp;obtain ⟨hC,hF,hA⟩:=hC;dsimp only at hn ⊢;unfold Op1)
  ·go_simp
   first | exact ⟨rfl,World.grownBy.refl _ _⟩ | exact World.grownBy.refl _ _
  ·obtain ⟨h1, -⟩:=hp
   have h1 : T 0 = .pointer (some ⟨G,1,none⟩):=h1
   obtain ⟨c0,c1,c2,c3,c4,c5,c6,c7,c8,f0⟩:=FBlk.cells hF
   go_simp
   first | exact ⟨rfl,World.grownBy.refl _ _⟩ | exact World.grownBy.refl _ _
  ·go_simp
   first | exact ⟨rfl,World.grownBy.refl _ _⟩ | exact World.grownBy.refl _ _
  ·obtain ⟨h1, -⟩:=hp
   have h1 : T 2 = .pointer (some ⟨G,4,none⟩):=h1
   obtain ⟨c0,c1,c2,c3,c4,c5,c6,c7,c8,f0⟩:=FBlk.cells hF
   go_simp
   first | exact ⟨rfl,World.grownBy.refl _ _⟩ | exact World.grownBy.refl _ _
  ·go_simp
   first | exact ⟨rfl,World.grownBy.refl _ _⟩ | exact World.grownBy.refl _ _
  ·go_simp
   exact ⟨NumsAt.new wx _ _ 4 rfl hC.s.lt _ rfl,⟨hC.alloc _,Blk.alloc hF _,Blk.alloc hA _⟩,World.grownBy_alloc _ _ _⟩
  ·obtain ⟨h1,h2, -⟩:=hp
   have h1 : T 4 = .pointer (some ⟨b,0,none⟩):=h1
   go_simp
   refine (pick_at b (m + 11 + n) 4 _ _ _ hC.s (by simp at hn;omega) h2 (by omega)).mono ?_
   rintro e w2 ⟨k,rfl, -,hg2⟩
   exact ⟨_,rfl,⟨k,rfl⟩,⟨hC.trans hg2,Blk.keep hF hg2.g (by omega),Blk.keep hA hg2.g (by omega)⟩,hg2.g⟩
  ·go_simp
   first | exact ⟨rfl,World.grownBy.refl _ _⟩ | exact World.grownBy.refl _ _
  ·go_simp
   exact ⟨NumsAt.new wx _ _ 4 rfl hC.s.lt _ rfl,⟨hC.alloc _,Blk.alloc hF _,Blk.alloc hA _⟩,World.grownBy_alloc _ _ _⟩
  ·obtain ⟨h1,h2, -⟩:=hp
   have h1 : T 7 = .pointer (some ⟨b,0,none⟩):=h1
   go_simp
   refine (pick_at b (m + 11 + n) 4 _ _ _ hC.s (by simp at hn;omega) h2 (by omega)).mono ?_
   rintro e w2 ⟨k,rfl, -,hg2⟩
   exact ⟨_,rfl,⟨k,rfl⟩,⟨hC.trans hg2,Blk.keep hF hg2.g (by omega),Blk.keep hA hg2.g (by omega)⟩,hg2.g⟩
  ·obtain ⟨h1,h2,⟨k1,h3⟩,⟨k2,h4⟩, -⟩:=hp
   have h1 : T 1 = .agg #[.bool f.s1, .int .u64 f.h1, .int .u64 f.l1]:=h1
   have h2 : T 3 = .agg #[.bool f.s2, .int .u64 f.h2, .int .u64 f.l2]:=h2
   go_simp
   exact ⟨⟨k1,k2,rfl⟩,World.grownBy.refl _ _⟩
  ·go_simp
   exact ⟨⟨wx.heap.size,rfl,hF.lt,by have:=hC.s.lt;omega,Blk.new wx _ _⟩,⟨hC.alloc _,Blk.alloc hF _,Blk.alloc hA _⟩,World.grownBy_alloc _ _ _⟩
 case hend =>
  intro T wx ⟨n,hn,hC,hF,hA⟩ hR
  obtain ⟨p,q,hT⟩:=hR 10 (by omega)
  obtain ⟨F,hTF,hGF,hFb,hFz⟩:=hR 11 (by omega)
  clear hR
  have hok : (PV.mk f.s1 f.h1 f.l1 f.s2 f.h2 f.l2 p q 0 0 false false false false 0 0 false 0 (.slice none 0 0)).ok:=⟨HO.out.2.1,HO.out.2.2.1,HO.out.2.2.2.1,HO.out.2.2.2.2.1,rfl⟩
  have hPG : PG b w (m + 13) w.heap.size F PV.zero wx:=⟨hFz,hA,hC.mono (by omega),⟨by simp [PV.zero,U64],by simp [PV.zero,U64],by simp [PV.zero,U64],by simp [PV.zero,U64],rfl⟩,hblt,by omega,by omega,Nat.le_refl _,by omega⟩
  have hxp : (PV.mk f.s1 f.h1 f.l1 f.s2 f.h2 f.l2 p q 0 0 false false false false 0 0 false 0 (.slice none 0 0)).pay = .slice none 0 0:=rfl
  generalize PV.mk f.s1 f.h1 f.l1 f.s2 f.h2 f.l2 p q 0 0 false false false false 0 0 false 0 (.slice none 0 0) = x at *
  have HP:=Lib.hid (hPG.store x hok)
  have Hxp:=Lib.hid hxp
  rw [hT,hTF]
  refine wpList_store_row rfl 52 (.tmp 4) (.tmp 17) rfl F x.cells rfl rfl 52 _ hPG.f (by kernel_rfl) rfl (x.one hok.2.2.2.2) ?_
  generalize wx.setRow F x.cells = w3 at *
  clear hPG hF hA hC hxp hok hFz hT hTF hltA hs H2 hGF hFb
  go_upto_region 3 with fail
  have HP:=HP
  obtain ⟨c0,c1,c2,c3,c4,c5,c6,c7,c8,c9,c10,c11,c12,c13,c14,c15,c16,c17,c18,f0⟩:=PBlk.cells HP.out.f
  go_upto_block 0 with fail
  clear c0 c1 c2 c3 c4 c5 c6 c7 c8 c9 c10 c11 c12 c13 c14 c15 c16 c17 c18 f0
  go_cut [] (fun wx => ∃ x : PV,PG b w (m + 21) w.heap.size F x wx ∧ x.pay = .slice none 0 0)
  case first =>
   go_wp2_with fail
   ·refine (pick_ints b _ _ _ _ _ _ HP.out.g.s ?h1 ?h2 ?h3 ?h4 ?h5).mono ?_
    case h1 => first | rfl | simp
    case h2 => omega
    case h3 => rfl
    case h4 => decide
    case h5 => rfl
    rintro e w4 ⟨k4,rfl,hg⟩
    replace HP:=Lib.hid (HP.out.step hg)
    clear hg
    go_wp2_with fail
    refine (pick_ints b _ _ _ _ _ _ HP.out.g.s ?h1 ?h2 ?h3 ?h4 ?h5).mono ?_
    case h1 => first | rfl | simp
    case h2 => omega
    case h3 => rfl
    case h4 => decide
    case h5 => rfl
    rintro e w5 ⟨k5,rfl,hg⟩
    replace HP:=Lib.hid (HP.out.step hg)
    clear hg
    obtain ⟨c0,c1,c2,c3,c4,c5,c6,c7,c8,c9,c10,c11,c12,c13,c14,c15,c16,c17,c18,f0⟩:=PBlk.cells HP.out.f
    go_wp2_with fail
    clear c0 c1 c2 c3 c4 c5 c6 c7 c8 c9 c10 c11 c12 c13 c14 c15 c16 c17 c18 f0
    replace HP:=Lib.hid (HP.out.set_fp k4 |>.set_tp k5)
    refine (flip_gen b _ _ _ HP.out.g.s (by omega) (by omega)).mono ?_
    rintro e w6 ⟨k6,rfl,hg⟩
    replace HP:=Lib.hid (HP.out.step hg)
    clear hg
    go_wp2_with fail
    refine (flip_gen b _ _ _ HP.out.g.s (by omega) (by omega)).mono ?_
    rintro e w7 ⟨k7,rfl,hg⟩
    replace HP:=Lib.hid (HP.out.step hg)
    clear hg
    go_wp2_with fail
    refine (flip_gen b _ _ _ HP.out.g.s (by omega) (by omega)).mono ?_
    rintro e w8 ⟨k8,rfl,hg⟩
    replace HP:=Lib.hid (HP.out.step hg)
    clear hg
    go_wp2_with fail
    refine (flip_gen b _ _ _ HP.out.g.s (by omega) (by omega)).mono ?_
    rintro e w9 ⟨k9,rfl,hg⟩
    replace HP:=Lib.hid (HP.out.step hg)
    clear hg
    obtain ⟨c0,c1,c2,c3,c4,c5,c6,c7,c8,c9,c10,c11,c12,c13,c14,c15,c16,c17,c18,f0⟩:=PBlk.cells HP.out.f
    go_wp2_with fail
    clear c0 c1 c2 c3 c4 c5 c6 c7 c8 c9 c10 c11 c12 c13 c14 c15 c16 c17 c18 f0
    replace HP:=Lib.hid (HP.out.set_syn k6 |>.set_fin k7 |>.set_rst k8 |>.set_has k9)
    refine (pick_ints b _ _ _ _ _ _ HP.out.g.s ?h1 ?h2 ?h3 ?h4 ?h5).mono ?_
    case h1 => first | rfl | simp
    case h2 => omega
    case h3 => rfl
    case h4 => decide
    case h5 => rfl
    rintro e w10 ⟨k10,rfl,hg⟩
    replace HP:=Lib.hid (HP.out.step hg)
    clear hg
    obtain ⟨c0,c1,c2,c3,c4,c5,c6,c7,c8,c9,c10,c11,c12,c13,c14,c15,c16,c17,c18,f0⟩:=PBlk.cells HP.out.f
    cases k9
    ·go_wp2_with fail
     clear c0 c1 c2 c3 c4 c5 c6 c7 c8 c9 c10 c11 c12 c13 c14 c15 c16 c17 c18 f0
     replace HP:=Lib.hid (HP.out.set_seq k10)
     go_meet
     case rel => exact ⟨_,HP.out.mono (by omega),Hxp.out⟩
    ·go_wp2_with fail
     clear c0 c1 c2 c3 c4 c5 c6 c7 c8 c9 c10 c11 c12 c13 c14 c15 c16 c17 c18 f0
     replace HP:=Lib.hid (HP.out.set_seq k10)
     refine (pick_ints b _ _ _ _ _ _ HP.out.g.s ?h1 ?h2 ?h3 ?h4 ?h5).mono ?_
     case h1 => first | rfl | simp
     case h2 => omega
     case h3 => rfl
     case h4 => decide
     case h5 => rfl
     rintro e w11 ⟨k11,rfl,hg⟩
     replace HP:=Lib.hid (HP.out.step hg)
     clear hg
     obtain ⟨c0,c1,c2,c3,c4,c5,c6,c7,c8,c9,c10,c11,c12,c13,c14,c15,c16,c17,c18,f0⟩:=PBlk.cells HP.out.f
     go_wp2_with fail
     clear c0 c1 c2 c3 c4 c5 c6 c7 c8 c9 c10 c11 c12 c13 c14 c15 c16 c17 c18 f0
     replace HP:=Lib.hid (HP.out.set_ack k11)
     go_meet
     case rel => exact ⟨_,HP.out.mono (by omega),Hxp.out⟩
   ·refine (pick_ints b _ _ _ _ _ _ HP.out.g.s ?h1 ?h2 ?h3 ?h4 ?h5).mono ?_
    case h1 => first | rfl | simp
    case h2 => omega
    case h3 => rfl
    case h4 => decide
    case h5 => rfl
    rintro e w4 ⟨k4,rfl,hg⟩
    replace HP:=Lib.hid (HP.out.step hg)
    clear hg
    go_wp2_with fail
    refine (pick_ints b _ _ _ _ _ _ HP.out.g.s ?h1 ?h2 ?h3 ?h4 ?h5).mono ?_
    case h1 => first | rfl | simp
    case h2 => omega
    case h3 => rfl
    case h4 => decide
    case h5 => rfl
    rintro e w5 ⟨k5,rfl,hg⟩
    replace HP:=Lib.hid (HP.out.step hg)
    clear hg
    obtain ⟨c0,c1,c2,c3,c4,c5,c6,c7,c8,c9,c10,c11,c12,c13,c14,c15,c16,c17,c18,f0⟩:=PBlk.cells HP.out.f
    go_wp2_with fail
    clear c0 c1 c2 c3 c4 c5 c6 c7 c8 c9 c10 c11 c12 c13 c14 c15 c16 c17 c18 f0
    replace HP:=Lib.hid (HP.out.set_fp k4 |>.set_tp k5)
    go_meet
    case rel => exact ⟨_,HP.out.mono (by omega),Hxp.out⟩
   ·refine (flip_gen b _ _ _ HP.out.g.s (by omega) (by omega)).mono ?_
    rintro e w4 ⟨k4,rfl,hg⟩
    replace HP:=Lib.hid (HP.out.step hg)
    clear hg
    go_wp2_with fail
    refine (pick_ints b _ _ _ _ _ _ HP.out.g.s ?h1 ?h2 ?h3 ?h4 ?h5).mono ?_
    case h1 => first | rfl | simp
    case h2 => omega
    case h3 => rfl
    case h4 => decide
    case h5 => rfl
    rintro e w5 ⟨k5,rfl,hg⟩
    replace HP:=Lib.hid (HP.out.step hg)
    clear hg
    go_wp2_with fail
    refine (pick_ints b _ _ _ _ _ _ HP.out.g.s ?h1 ?h2 ?h3 ?h4 ?h5).mono ?_
    case h1 => first | rfl | simp
    case h2 => omega
    case h3 => rfl
    case h4 => decide
    case h5 => rfl
    rintro e w6 ⟨k6,rfl,hg⟩
    replace HP:=Lib.hid (HP.out.step hg)
    clear hg
    obtain ⟨c0,c1,c2,c3,c4,c5,c6,c7,c8,c9,c10,c11,c12,c13,c14,c15,c16,c17,c18,f0⟩:=PBlk.cells HP.out.f
    go_wp2_with fail
    clear c0 c1 c2 c3 c4 c5 c6 c7 c8 c9 c10 c11 c12 c13 c14 c15 c16 c17 c18 f0
    replace HP:=Lib.hid (HP.out.set_reply k4 |>.set_id k5 |>.set_seq k6)
    go_meet
    case rel => exact ⟨_,HP.out.mono (by omega),Hxp.out⟩
  case rest =>
   clear HP Hxp
   obtain ⟨x1,HP,hxp⟩:=hcut
   have HP:=Lib.hid HP
   have Hxp:=Lib.hid hxp
   clear hxp
   go_wp2_with fail
   refine (pick_new b _ _ _ _ _ [0,0,1,2,3,20] _ HP.out.g.s rfl (by omega) rfl (by decide) rfl).mono ?_
   rintro e w4 ⟨K0,rfl,hK,hg⟩
   replace HP:=Lib.hid (HP.out.step hg)
   have hK' : 0 ≤ K0 ∧ K0 ≤ 20:=by simp at hK;omega
   clear hg hK
   obtain ⟨K,rfl⟩:=Int.eq_ofNat_of_zero_le hK'.1
   have hK20 : K ≤ 20:=by omega
   clear hK'
   go_wp2
   go_loopw [76] (fun i wr => ∃ (k : Nat) (x2 : PV) (L : List UInt8),k ≤ K ∧ i = .int .i64 k ∧ L.length = k ∧ Hid (PG b w (m + 22 + 104 * k) w.heap.size F x2 wr) ∧ Hid (OwnB wr w.heap.size x2.pay L)) (fun i _ => K - (intOf i).toNat)
   case atStart => exact ⟨0,x1, [],Nat.zero_le _,rfl,rfl,Lib.hid (HP.out.mono (by omega)),Lib.hid (by rw [Hxp.out];exact OwnB.nil _ _)⟩
   case round =>
    obtain ⟨k,x2,L,hk,rfl,hL,HP,HO⟩:=hrel
    have HL:=Lib.hid hL
    clear hL
    by_cases hlt : k < K
    ·go_upto_region 15 with fail
     refine Ph.wp_region_ph 11 104 (payR b w.heap.size F L x2.pay) (fun n w' => PG b w (m + 22 + 104 * k + n) w.heap.size F x2 w' ∧ (n < 100 → OwnB w' w.heap.size x2.pay L)) (payS b) (fun i => if i = 4 ∨ i = 5 ∨ i = 6 ∨ i = 8 then 1 else if i = 9 then 100 else 0)
      (by kernel_rfl) (by kernel_rfl) (by decide) ?hS2 ⟨HP.out.drewN 1,fun _ => HO.out⟩ ?hX2
     case' hX2 => (apply Exists.intro;refine ⟨fun T => ?hA2,?hob2,?hend2⟩)
     case hA2 =>
      simp only [setAll,List.take_succ_cons,List.take_zero,Act.put,List.setIfInBounds_toArray,List.set_cons_succ,List.set_cons_zero,Nat.reduceAdd]
      exact rfl
     case hS2 => exact payR_keep hblt
     case hob2 =>
      refine ⟨?_,?_,?_,?_,?_,?_,?_,?_,?_,?_,?_,trivial⟩
      all_goals (intro T wx n hC hn hp;obtain ⟨hC,hO⟩:=hC;dsimp only at hn ⊢;try simp at hn)
      ·unfold Op1;go_simp;exact ⟨rfl,hO,payS_refl _ _ _⟩
      ·obtain ⟨h1, -⟩:=hp
       have h1 : T 0 = .pointer (some ⟨F,18,none⟩):=h1
       obtain ⟨-, -, -, -, -, -, -, -, -, -, -, -, -, -, -, -, -, -,c18,f0⟩:=PBlk.cells hC.f
       unfold Op1;go_simp;exact ⟨rfl,hO,payS_refl _ _ _⟩
      ·unfold Op1;go_simp;exact ⟨rfl,hO,payS_refl _ _ _⟩
      ·unfold Op1;go_simp;exact ⟨rfl,hO,payS_refl _ _ _⟩
      ·obtain ⟨h1, -⟩:=hp
       have h1 : T 3 = .pointer (some ⟨b,0,none⟩):=h1
       unfold Op1
       go_simp
       refine (range_gen b _ 0 255 wx hC.g.s (by omega) (by omega) (by omega)).mono ?_
       rintro e w2 ⟨kr,rfl, -,hg2⟩
       exact ⟨_,rfl,⟨⟨kr,rfl⟩,by omega⟩,⟨hC.step hg2,fun h => (hO (by omega)).gen hg2 hblt⟩,payS_grown (by omega) hg2.g⟩
      ·obtain ⟨⟨⟨kr,h1⟩,hn1⟩, -⟩:=hp
       unfold Op1
       go_simp
       exact ⟨⟨by omega,kr,wx.heap.size,rfl,by have:=hC.g.s.lt;omega,heap_alloc_new wx _⟩,⟨(hC.alloc _).mono (by omega),fun h => (hO (by omega)).alloc _⟩,payS_grown (by omega) (World.grownBy_alloc _ _ _)⟩
      ·obtain ⟨h1,⟨hn1,kr,B5,h2,h3,h4⟩, -⟩:=hp
       have h1 : T 2 = .pointer (some ⟨b,0,none⟩):=h1
       have h5 : NumsAt b 4 [0,255,65,kr] (T 5) wx:=⟨B5,h2,h3,rdInts_at h4⟩
       clear h2
       unfold Op1
       go_simp
       refine (pick_at b _ 4 _ _ wx hC.g.s (by omega) h5 (by omega)).mono ?_
       rintro e w2 ⟨kp,rfl, -,hg2⟩
       exact ⟨_,rfl,⟨⟨kp,rfl⟩,by omega⟩,⟨hC.step hg2,fun h => (hO (by omega)).gen hg2 hblt⟩,payS_grown (by omega) hg2.g⟩
      ·obtain ⟨⟨⟨kp,h1⟩,hn1⟩, -⟩:=hp
       unfold Op1
       go_simp
       exact ⟨⟨u8_wrap kp,hn1⟩,hO,payS_refl _ _ _⟩
      ·obtain ⟨⟨⟨cc,h1⟩,hn1⟩, -⟩:=hp
       unfold encB at h1
       unfold Op1
       go_simp
       exact ⟨⟨by omega,fun _ => ⟨wx.heap.size,cc,rfl,by have:=hC.g.s.lt;omega,heap_alloc_new wx _⟩⟩,⟨(hC.alloc _).mono (by omega),fun h => (hO (by omega)).alloc _⟩,payS_grown (by omega) (World.grownBy_alloc _ _ _)⟩
      ·obtain ⟨h1,⟨hn1,h2⟩, -⟩:=hp
       have h1 : T 1 = x2.pay:=h1
       obtain ⟨g,cc,e1,e2,e3⟩:=h2 (by omega)
       have hOO:=hO (by omega)
       simp only [Nat.reduceAdd,Nat.reduceEqDiff,reduceIte,or_self] at hn ⊢
       refine Op1.app byteE rfl h1 hOO (e1 : _ = _) (src_one wx g (encB cc) _ e3) (by intro u hu;simp at hu;subst hu;rfl) ?_ ?_ ?_ ?_
       ·have:=HL.out;simp only [maxLen];omega
       ·have:=HL.out;omega
       ·exact hC.g.g.size
       intro v' w' hO' hG
       have hO2 : OwnB w' w.heap.size v' (L ++ [cc]):=by
        show w'.ownsRow _ _ _ _ _ _
        rw [List.length_append,encBs,List.map_append]
        exact hO'
       exact ⟨⟨by omega,hO2.one,cc,hO2⟩,⟨(hC.grew hOO hG hblt).mono (by omega),fun h => absurd h (by omega)⟩,⟨by omega,fun h => absurd h (by omega),fun i cs _ hi => (hG.g.block i (lt_of_block hi) (fun e => hOO.notInt hi e.symm)).trans hi⟩⟩
      ·unfold Op1;go_simp;exact ⟨rfl,hO,payS_refl _ _ _⟩
     case hend2 =>
      intro T wx ⟨n,hn,⟨hC,hO⟩,hR⟩
      obtain ⟨h9,h9b,cc,h9c⟩:=hR 9 (by omega)
      have h10 : T 10 = .pointer (some ⟨F,18,none⟩):=hR 10 (by omega)
      have hP2:=Lib.hid (hC.set_pay (T 9) h9b)
      have hO2:=Lib.hid (h9c.setCell hC.f 18 (T 9))
      obtain ⟨-, -, -, -, -, -, -, -, -, -, -, -, -, -, -, -, -, -,c18,f0⟩:=PBlk.cells hC.f
      obtain ⟨ad9,c9,hv9, -⟩:=own_form h9c
      clear hR hO h9 hC h9c
      simp only [List.drop_succ_cons,List.drop_zero]
      generalize T 9 = v9 at *
      generalize (L ++ [cc]).length = ln at hv9
      subst hv9
      rw [h10]
      go_wp2_with fail
      refine ⟨⟨k + 1,_,L ++ [cc],by omega,by go_num,by simp;exact HL.out,Lib.hid (hP2.out.mono (by omega)),hO2⟩,by simp [intOf];omega⟩
    ·obtain rfl : k = K:=by omega
     go_wp2_with (first | (refine wpList_load_row rfl 52 (.tmp 4) rfl F rfl 52 x2.cells (0,0) _ HP.out.f Tryz.underlying52 rfl (by kernel_rfl) ?_) | (refine wpList_store_row rfl 52 (.tmp 2) (.tmp 90) rfl w.heap.size x2.cells rfl rfl 52 _ HP.out.a (by kernel_rfl) rfl (x2.one HP.out.ok.2.2.2.2) ?_))
     refine bodyPost_ret (v:=.agg x2.cells) (results_cell_row Tryz.results40 _ _ w.heap.size 52 x2.cells (0,0) _ rfl (setRow_heap _ _ _ _ _ _ HP.out.a) Tryz.underlying52 rfl (by kernel_rfl)) rfl ⟨x2,L,rfl,HP.out.ok,?_,by have:=HL.out;omega,Gen.setRow (HP.out.g.mono (by omega)) (Nat.le_refl _) hblt _⟩
     exact HO.out.setRow HP.out.a _
theorem OwnB.weak {w : World} {B B' : Nat} {v : Value} {L : List UInt8} (h : OwnB w B v L) (hB : B' ≤ B) : OwnB w B' v L:=own_weak h hB
theorem odd_gen3 (b m : Nat) (low high : Int) (w : World) (h : Strm w b m) (hm : m + 2 < 1099511627776) (hl : -4398046511104 ≤ low ∧ low ≤ 4398046511104) (hh : -4398046511104 ≤ high ∧ high ≤ 4398046511104) :
  Calls Tryz.prog 26 #[.pointer (some ⟨b,0,none⟩), .int .i64 low, .int .i64 high] w fun e w' => ∃ k : Int,e = .returned (.int .i64 k) ∧ Gen b w w' (m + 2):=by
 go_enter Tryz.func26,Tryz.ntmps26
 go_wp2_with fail
 refine (flip_gen b m _ _ h (by omega) (by omega)).mono ?_
 rintro e w1 ⟨k,rfl,hg⟩
 cases k
 ·go_wp2_with fail
  refine (range_gen b (m + 1) _ _ _ hg.s (by omega) (by omega) (by omega)).mono ?_
  rintro e w2 ⟨k,rfl,_,hg2⟩
  go_wp2_with fail
  go_ret;exact ⟨_,rfl,hg.trans hg2⟩
 ·go_wp2_with fail
  refine (pick_gen b (m + 1) w1.heap.size 0 6 6 [low - 1,high + 1,low,high, -1099511627776,1099511627776] _ (hg.s.alloc _) (by omega) (by omega) (rdInts_new w1 _ _ _ rfl) (by have:=hg.s.lt;omega)).mono ?_
  rintro e w2 ⟨k,rfl,_,hg2⟩
  go_wp2_with fail
  go_ret;exact ⟨_,rfl,(hg.alloc _).trans hg2⟩
theorem packet_gen (b m : Nat) (w : World) (h : Strm w b m) (hm : m + 4000 < 1099511627776) :
  Calls Tryz.prog 14 #[.pointer (some ⟨b,0,none⟩)] w fun e w' => ∃ (x : PV) (L : List UInt8),e = .returned (.agg x.cells) ∧ x.ok ∧ OwnB w' w.heap.size x.pay L ∧ L.length ≤ 20 ∧ Gen b w w' (m + 2120):=by
 have hblt:=h.lt
 go_enter Tryz.func14,Tryz.ntmps14
 go_wp2_with fail
 refine (rightPacket_gen b m _ (h.alloc _) (by omega)).mono ?_
 rintro e w1 ⟨x,L,rfl,hok,hO,hL,hg⟩
 have HL:=Lib.hid hL
 have HO:=Lib.hid (OwnB.weak (B':=w.heap.size) hO (by simp))
 have hA1 : PBlk w1 w.heap.size PV.zero:=Blk.keep (Blk.new w _ _) hg.g (by omega)
 have hG1 : Gen b w w1 (m + 2102):=((Gen.start h).alloc _).trans hg
 have hltA : w.heap.size < w1.heap.size:=hA1.lt
 have hPG : PG b w (m + 2102) w.heap.size w1.heap.size PV.zero (w1.alloc (.cells PV.zero.cells 52 (0,0))):=⟨Blk.new w1 _ _,hA1.alloc _,hG1.alloc _,⟨by simp [PV.zero,U64],by simp [PV.zero,U64],by simp [PV.zero,U64],by simp [PV.zero,U64],rfl⟩,hblt,by omega,by omega,Nat.le_refl _,by omega⟩
 replace HO:=Lib.hid (HO.out.alloc (.cells PV.zero.cells 52 (0,0)))
 clear hO hL hg hA1 hG1
 have HPG:=Lib.hid hPG
 have Hok:=Lib.hid hok
 clear hPG hok
 go_wp2_with (refine wpList_store_row rfl 52 (.tmp 3) (.tmp 5) rfl w1.heap.size x.cells rfl rfl 52 _ HPG.out.f (by kernel_rfl) rfl (x.one Hok.out.2.2.2.2) ?_)
 have HP:=Lib.hid (HPG.out.store x Hok.out)
 replace HO:=Lib.hid (HO.out.setRow HPG.out.f x.cells)
 have hs3 : ((w1.alloc (.cells PV.zero.cells 52 (0,0))).setRow w1.heap.size x.cells) = (w1.alloc (.cells PV.zero.cells 52 (0,0))).setRow w1.heap.size x.cells:=rfl
 generalize hF : w1.heap.size = F at *
 clear HPG Hok hs3
 obtain ⟨w3,hw3⟩ : ∃ w3,(w1.alloc (.cells PV.zero.cells 52 (0,0))).setRow F x.cells = w3:=⟨_,rfl⟩
 rw [hw3] at HP HO
 have hw3' : (w1.alloc (.cells #[.bool false, .int .u64 0, .int .u64 0, .bool false, .int .u64 0, .int .u64 0, .int .i64 0, .int .i64 0, .int .i64 0, .int .i64 0, .bool false, .bool false, .bool false, .bool false, .int .i64 0, .int .i64 0, .bool false, .int .i64 0, .slice none 0 0] 52 (0,0))).setRow F x.cells = w3:=hw3
 rw [hw3']
 clear hw3 hw3' hltA hF
 go_wp2_with fail
 refine (flip_gen b _ _ _ HP.out.g.s (by omega) (by omega)).mono ?_
 rintro e w4 ⟨k,rfl,hg⟩
 replace HO:=Lib.hid (HO.out.gen hg hblt)
 replace HP:=Lib.hid (HP.out.step hg)
 clear hg
 cases k
 ·go_wp2_with (first | (refine wpList_load_row rfl 52 (.tmp 3) rfl F rfl 52 x.cells (0,0) _ HP.out.f Tryz.underlying52 rfl (by kernel_rfl) ?_) | (refine wpList_store_row rfl 52 (.tmp 2) (.tmp 47) rfl w.heap.size x.cells rfl rfl 52 _ HP.out.a (by kernel_rfl) rfl (x.one HP.out.ok.2.2.2.2) ?_))
  refine bodyPost_ret (v:=.agg x.cells) (results_cell_row Tryz.results14 _ _ w.heap.size 52 x.cells (0,0) _ rfl (setRow_heap _ _ _ _ _ _ HP.out.a) Tryz.underlying52 rfl (by kernel_rfl)) rfl ⟨x,L,rfl,HP.out.ok,HO.out.setRow HP.out.a _,HL.out,Gen.setRow (HP.out.g.mono (by omega)) (Nat.le_refl _) hblt _⟩
 ·go_wp2_with fail
  refine (next_gen b _ _ _ HP.out.g.s (by omega) (by omega)).mono ?_
  rintro e w5 ⟨k2,rfl,hbr,hg⟩
  replace HO:=Lib.hid (HO.out.gen hg hblt)
  replace HP:=Lib.hid (HP.out.step hg)
  clear hg
  clear hbr
  go_upto_block 0 with fail
  go_cut [] (fun wx => ∃ x : PV,PG b w (m + 2110) w.heap.size F x wx ∧ OwnB wx w.heap.size x.pay L)
  case first =>
   obtain ⟨c0,c1,c2,c3,c4,c5,c6,c7,c8,c9,c10,c11,c12,c13,c14,c15,c16,c17,c18,f0⟩:=PBlk.cells HP.out.f
   go_wp2_with fail
   all_goals clear c0 c1 c2 c3 c4 c5 c6 c7 c8 c9 c10 c11 c12 c13 c14 c15 c16 c17 c18 f0
   ·refine (raw_gen b _ _ HP.out.g.s (by omega)).mono ?_
    rintro e w6 ⟨six,hi,lo,rfl,⟨u1,u2⟩,hg⟩
    replace HO:=Lib.hid (HO.out.gen hg hblt)
    replace HP:=Lib.hid (HP.out.step hg)
    clear hg
    obtain ⟨c0,c1,c2,c3,c4,c5,c6,c7,c8,c9,c10,c11,c12,c13,c14,c15,c16,c17,c18,f0⟩:=PBlk.cells HP.out.f
    unfold vAddr
    go_wp2_with fail
    clear c0 c1 c2 c3 c4 c5 c6 c7 c8 c9 c10 c11 c12 c13 c14 c15 c16 c17 c18 f0
    have HO2:=Lib.hid (((HO.out.setCell HP.out.f 0 (.bool six)).setCell (PBlk.set_s1 HP.out.f six) 1 (.int .u64 hi)).setCell (PBlk.set_h1 (PBlk.set_s1 HP.out.f six) hi) 2 (.int .u64 lo))
    replace HP:=Lib.hid (HP.out.set_from six hi lo u1 u2)
    go_meet
    case rel => exact ⟨_,HP.out.mono (by omega),HO2.out⟩
   ·refine (odd_gen3 b _ _ _ _ HP.out.g.s (by omega) (by omega) (by omega)).mono ?_
    rintro e w6 ⟨k6,rfl,hg⟩
    replace HO:=Lib.hid (HO.out.gen hg hblt)
    replace HP:=Lib.hid (HP.out.step hg)
    clear hg
    obtain ⟨c0,c1,c2,c3,c4,c5,c6,c7,c8,c9,c10,c11,c12,c13,c14,c15,c16,c17,c18,f0⟩:=PBlk.cells HP.out.f
    go_wp2_with fail
    clear c0 c1 c2 c3 c4 c5 c6 c7 c8 c9 c10 c11 c12 c13 c14 c15 c16 c17 c18 f0
    have HO2:=Lib.hid (HO.out.setCell HP.out.f 6 (.int .i64 k6))
    replace HP:=Lib.hid (HP.out.set_hops k6)
    go_meet
    case rel => exact ⟨_,HP.out.mono (by omega),HO2.out⟩
   ·refine (pick_ints b _ _ _ _ _ _ HP.out.g.s ?h1 ?h2 ?h3 ?h4 ?h5).mono ?_
    case h1 => first | rfl | simp
    case h2 => omega
    case h3 => rfl
    case h4 => decide
    case h5 => rfl
    rintro e w6 ⟨k6,rfl,hg⟩
    replace HO:=Lib.hid (HO.out.gen hg hblt)
    replace HP:=Lib.hid (HP.out.step hg)
    clear hg
    obtain ⟨c0,c1,c2,c3,c4,c5,c6,c7,c8,c9,c10,c11,c12,c13,c14,c15,c16,c17,c18,f0⟩:=PBlk.cells HP.out.f
    go_wp2_with fail
    clear c0 c1 c2 c3 c4 c5 c6 c7 c8 c9 c10 c11 c12 c13 c14 c15 c16 c17 c18 f0
    have HO2:=Lib.hid (HO.out.setCell HP.out.f 7 (.int .i64 k6))
    replace HP:=Lib.hid (HP.out.set_proto k6)
    go_meet
    case rel => exact ⟨_,HP.out.mono (by omega),HO2.out⟩
   ·refine (odd_gen3 b _ _ _ _ HP.out.g.s (by omega) (by omega) (by omega)).mono ?_
    rintro e w6 ⟨k6,rfl,hg⟩
    replace HO:=Lib.hid (HO.out.gen hg hblt)
    replace HP:=Lib.hid (HP.out.step hg)
    clear hg
    obtain ⟨c0,c1,c2,c3,c4,c5,c6,c7,c8,c9,c10,c11,c12,c13,c14,c15,c16,c17,c18,f0⟩:=PBlk.cells HP.out.f
    go_wp2_with fail
    clear c0 c1 c2 c3 c4 c5 c6 c7 c8 c9 c10 c11 c12 c13 c14 c15 c16 c17 c18 f0
    have HO2:=Lib.hid (HO.out.setCell HP.out.f 9 (.int .i64 k6))
    replace HP:=Lib.hid (HP.out.set_tp k6)
    go_meet
    case rel => exact ⟨_,HP.out.mono (by omega),HO2.out⟩
   ·refine (odd_gen3 b _ _ _ _ HP.out.g.s (by omega) (by omega) (by omega)).mono ?_
    rintro e w6 ⟨k6,rfl,hg⟩
    replace HO:=Lib.hid (HO.out.gen hg hblt)
    replace HP:=Lib.hid (HP.out.step hg)
    clear hg
    go_wp2_with fail
    refine (odd_gen3 b _ _ _ _ HP.out.g.s (by omega) (by omega) (by omega)).mono ?_
    rintro e w7 ⟨k7,rfl,hg⟩
    replace HO:=Lib.hid (HO.out.gen hg hblt)
    replace HP:=Lib.hid (HP.out.step hg)
    clear hg
    obtain ⟨c0,c1,c2,c3,c4,c5,c6,c7,c8,c9,c10,c11,c12,c13,c14,c15,c16,c17,c18,f0⟩:=PBlk.cells HP.out.f
    go_wp2_with fail
    clear c0 c1 c2 c3 c4 c5 c6 c7 c8 c9 c10 c11 c12 c13 c14 c15 c16 c17 c18 f0
    have HO2:=Lib.hid ((HO.out.setCell HP.out.f 14 (.int .i64 k6)).setCell (PBlk.set_seq HP.out.f k6) 15 (.int .i64 k7))
    replace HP:=Lib.hid (HP.out.set_seq k6 |>.set_ack k7)
    go_meet
    case rel => exact ⟨_,HP.out.mono (by omega),HO2.out⟩
   ·refine (odd_gen3 b _ _ _ _ HP.out.g.s (by omega) (by omega) (by omega)).mono ?_
    rintro e w6 ⟨k6,rfl,hg⟩
    replace HO:=Lib.hid (HO.out.gen hg hblt)
    replace HP:=Lib.hid (HP.out.step hg)
    clear hg
    obtain ⟨c0,c1,c2,c3,c4,c5,c6,c7,c8,c9,c10,c11,c12,c13,c14,c15,c16,c17,c18,f0⟩:=PBlk.cells HP.out.f
    go_wp2_with fail
    clear c0 c1 c2 c3 c4 c5 c6 c7 c8 c9 c10 c11 c12 c13 c14 c15 c16 c17 c18 f0
    have HO2:=Lib.hid ((HO.out.setCell HP.out.f 17 (.int .i64 k6)).setCell (PBlk.set_id HP.out.f k6) 16 (.bool true))
    replace HP:=Lib.hid (HP.out.set_id k6 |>.set_reply true)
    go_meet
    case rel => exact ⟨_,HP.out.mono (by omega),HO2.out⟩
   ·have HO2:=Lib.hid ((HO.out.setCell HP.out.f 10 (.bool true)).setCell (PBlk.set_syn HP.out.f true) 13 (.bool false))
    replace HP:=Lib.hid (HP.out.set_syn true |>.set_has false)
    go_meet
    case rel => exact ⟨_,HP.out.mono (by omega),HO2.out⟩
  case rest =>
   clear HP HO
   obtain ⟨x1,HP,HO⟩:=hcut
   replace HP:=Lib.hid HP
   replace HO:=Lib.hid HO
   go_wp2_with (first | (refine wpList_load_row rfl 52 (.tmp 3) rfl F rfl 52 x1.cells (0,0) _ HP.out.f Tryz.underlying52 rfl (by kernel_rfl) ?_) | (refine wpList_store_row rfl 52 (.tmp 2) (.tmp 47) rfl w.heap.size x1.cells rfl rfl 52 _ HP.out.a (by kernel_rfl) rfl (x1.one HP.out.ok.2.2.2.2) ?_))
   refine bodyPost_ret (v:=.agg x1.cells) (results_cell_row Tryz.results14 _ _ w.heap.size 52 x1.cells (0,0) _ rfl (setRow_heap _ _ _ _ _ _ HP.out.a) Tryz.underlying52 rfl (by kernel_rfl)) rfl ⟨x1,L,rfl,HP.out.ok,HO.out.setRow HP.out.a _,HL.out,Gen.setRow (HP.out.g.mono (by omega)) (Nat.le_refl _) hblt _⟩
def PfxOk (b : Nat) (w : World) (m : Nat) (e : Ending) (w' : World) : Prop :=
 ∃ p : Pf,e = .returned (.agg (pfC p).toArray) ∧ OkPf p ∧ Gen b w w' m
theorem rightPrefix_ok (b m : Nat) (w : World) (h : Strm w b m) (hm : m + 10 < 1099511627776) :
  Calls Tryz.prog 107 #[.pointer (some ⟨b,0,none⟩)] w (PfxOk b w (m + 5)):=by
 have hblt:=h.lt
 have HG0 : Hid (Gen b w (w.alloc (.cells #[.bool false, .int .u64 0, .int .u64 0, .int .i64 0] 104 (0,0))) m):=Lib.hid ((Gen.start h).alloc _)
 have HR0 : Hid (Blk (w.alloc (.cells #[.bool false, .int .u64 0, .int .u64 0, .int .i64 0] 104 (0,0))) w.heap.size 104 #[.bool false, .int .u64 0, .int .u64 0, .int .i64 0]):=Lib.hid (Blk.new w _ _)
 clear h
 go_enter Tryz.func107,Tryz.ntmps107
 go_wp2_with fail
 refine (mAddr_gen b m _ HG0.out.s (by omega)).mono ?_
 rintro e w1 ⟨six,hi0,lo0,rfl,⟨hu1,hu2,hu3⟩,hg⟩
 obtain ⟨hi,rfl,h1⟩:=nat_of_U64 hu1
 obtain ⟨lo,rfl,h2⟩:=nat_of_U64 hu2
 have HU:=Lib.hid (And.intro h1 h2)
 have HA : Hid (AOK six hi lo):=Lib.hid ⟨h1,h2,fun e => by have:=hu3 e;omega⟩
 have HG1:=Lib.hid ((HG0.out.trans hg).alloc (.cells #[.bool six, .int .u64 (hi : Int), .int .u64 (lo : Int)] 49 (0,0)))
 have HR1:=Lib.hid ((HR0.out.keep hg.g (by omega)).alloc (.cells #[.bool six, .int .u64 (hi : Int), .int .u64 (lo : Int)] 49 (0,0)))
 have HA1 : Hid (Blk (w1.alloc (.cells #[.bool six, .int .u64 (hi : Int), .int .u64 (lo : Int)] 49 (0,0))) w1.heap.size 49 #[.bool six, .int .u64 (hi : Int), .int .u64 (lo : Int)]):=Lib.hid (Blk.new w1 _ _)
 have hw1 : w.heap.size < w1.heap.size:=HR0.out.keep hg.g (by omega) |> Blk.lt
 clear hu1 hu2 hu3 h1 h2 hg HG0 HR0
 unfold vAddr
 go_upto_region 2 with fail
 generalize w1.alloc (.cells #[.bool six, .int .u64 (hi : Int), .int .u64 (lo : Int)] 49 (0,0)) = w2 at *
 generalize w1.heap.size = F at *
 have key : ∀ (n : Nat) (wx : World),n ≤ 128 → Calls Tryz.prog 101 #[.agg #[.bool six, .int .u64 (hi : Int), .int .u64 (lo : Int)], .int .i64 (n : Int)] wx (Ret (vP six (mHi six hi n) (mLo six lo n) (n : Int)) wx):=fun n wx hn => maskOf_any six hi lo n wx HU.out.1 HU.out.2 hn
 have HK:=Lib.hid key
 clear key
 go_wp2_with fail
 refine (pick_new b (m + 3) _ _ _ _ [0,8,24,27,28,29,30,31,32] _ HG1.out.s rfl (by omega) rfl (by decide) rfl).mono ?_
 rintro e w3 ⟨x,rfl,hx,hg⟩
 have hxb : 0 ≤ x ∧ x ≤ 32:=by simp at hx;omega
 obtain ⟨n,rfl⟩:=Int.eq_ofNat_of_zero_le hxb.1
 have hn : n ≤ 128:=by omega
 have hn32 : n ≤ 32:=by omega
 have HG3:=Lib.hid (HG1.out.trans hg)
 have HR3:=Lib.hid (HR1.out.keep hg.g (by omega))
 have HA3:=Lib.hid (HA1.out.keep hg.g (by omega))
 clear hx hxb hg HG1 HR1 HA1
 have a0:=HA3.out.cell 0
 have a1:=HA3.out.cell 1
 have a2:=HA3.out.cell 2
 simp at a0 a1 a2
 cases six
 ·go_wp2_with fail
  refine (HK.out n _ hn).mono ?_
  rintro e w5 ⟨rfl,hb⟩
  have HG5:=Lib.hid (HG3.out.below0 hb HG3.out.s.lt)
  have HR5:=Lib.hid (HR3.out.below hb HR3.out.lt)
  have HO : Hid (POK false (mHi false hi n) (mLo false lo n) n):=Lib.hid (mask_pok HA.out hn32)
  have h1 : U64N (mHi false hi n):=mHi_lt HU.out.1
  have h2 : U64N (mLo false lo n):=mLo_lt HU.out.2
  generalize mHi false hi n = mh at *
  generalize mLo false lo n = ml at *
  have HU2:=Lib.hid (And.intro h1 h2)
  clear h1 h2 hb a0 a1 a2 HG3 HR3 HA3
  have r0:=HR5.out.cell 0
  have r1:=HR5.out.cell 1
  have r2:=HR5.out.cell 2
  have r3:=HR5.out.cell 3
  have rf:=HR5.out.free
  simp at r0 r1 r2 r3
  unfold vP
  go_wp2_with fail
  refine bodyPost_ret (v:=.agg #[.bool false, .int .u64 (mh : Int), .int .u64 (ml : Int), .int .i64 (n : Int)]) (by simp [results,Tryz.results107,go_sem,r0,r1,r2,r3]) rfl ⟨(false,mh,ml,(n : Int)),rfl,⟨rfl,HO.out⟩,?_⟩
  repeat refine Gen.setCell ?_ _ _ (Nat.le_refl _) hblt
  exact HG5.out.mono (by omega)
 ·go_wp2_with fail
  refine (pick_new b (m + 3 + 1) _ _ _ _ [0,8,32,48,63,64,65,96,127,128] _ HG3.out.s rfl (by omega) rfl (by decide) rfl).mono ?_
  rintro e w4 ⟨x,rfl,hx,hg⟩
  have hxb : 0 ≤ x ∧ x ≤ 128:=by simp at hx;omega
  obtain ⟨n2,rfl⟩:=Int.eq_ofNat_of_zero_le hxb.1
  have hn2 : n2 ≤ 128:=by omega
  have HG4:=Lib.hid (HG3.out.trans hg)
  have HR4:=Lib.hid (HR3.out.keep hg.g (by omega))
  have HA4:=Lib.hid (HA3.out.keep hg.g (by omega))
  clear hx hxb hg HG3 HR3 HA3 a0 a1 a2
  have a0:=HA4.out.cell 0
  have a1:=HA4.out.cell 1
  have a2:=HA4.out.cell 2
  simp at a0 a1 a2
  go_wp2_with fail
  refine (HK.out n2 _ hn2).mono ?_
  rintro e w5 ⟨rfl,hb⟩
  have HG5:=Lib.hid (HG4.out.below0 hb HG4.out.s.lt)
  have HR5:=Lib.hid (HR4.out.below hb HR4.out.lt)
  have HO : Hid (POK true (mHi true hi n2) (mLo true lo n2) n2):=Lib.hid (mask_pok HA.out hn2)
  have h1 : U64N (mHi true hi n2):=mHi_lt HU.out.1
  have h2 : U64N (mLo true lo n2):=mLo_lt HU.out.2
  generalize mHi true hi n2 = mh at *
  generalize mLo true lo n2 = ml at *
  have HU2:=Lib.hid (And.intro h1 h2)
  clear h1 h2 hb a0 a1 a2 HG4 HR4 HA4
  have r0:=HR5.out.cell 0
  have r1:=HR5.out.cell 1
  have r2:=HR5.out.cell 2
  have r3:=HR5.out.cell 3
  have rf:=HR5.out.free
  simp at r0 r1 r2 r3
  unfold vP
  go_wp2_with fail
  refine bodyPost_ret (v:=.agg #[.bool true, .int .u64 (mh : Int), .int .u64 (ml : Int), .int .i64 (n2 : Int)]) (by simp [results,Tryz.results107,go_sem,r0,r1,r2,r3]) rfl ⟨(true,mh,ml,(n2 : Int)),rfl,⟨rfl,HO.out⟩,?_⟩
  repeat refine Gen.setCell ?_ _ _ (Nat.le_refl _) hblt
  exact HG5.out.mono (by omega)
theorem OkPf.u4 {p : Pf} (h : OkPf p) : U64N p.2.1 ∧ U64N p.2.2.1:=⟨h.ok.1.1,h.ok.1.2.1⟩
theorem u4_ok {L : List Pf} (h : ∀ p ∈ L,OkPf p) : U4 L:=fun p hp => (h p hp).u4
theorem prefixes_gen (b m k : Nat) (w : World) (h : Strm w b m) (hk : k ≤ 1000) (hm : m + 5 * k + 20 < 1099511627776) :
  Calls Tryz.prog 106 #[.pointer (some ⟨b,0,none⟩), .int .i64 (k : Int)] w fun e w' => ∃ v L,e = .returned v ∧ OwnK layPf w' w.heap.size v L ∧ L.length = k ∧ (∀ p ∈ L,OkPf p) ∧ Gen b w w' (m + 5 * k):=by
 have hblt:=h.lt
 have HG0 : Hid (Gen b w w m):=Lib.hid (Gen.start h)
 clear h
 go_enter Tryz.func106,Tryz.ntmps106
 go_wp2_with fail
 go_loopw [5,7] (fun out i wr => ∃ (j : Nat) (L : List Pf),j ≤ k ∧ i = .int .i64 (j : Int) ∧ Hid (OwnK layPf wr w.heap.size out L) ∧ Hid (L.length = j) ∧ Hid (∀ p ∈ L,OkPf p) ∧ Hid (Gen b w wr (m + 5 * j))) (fun _ i _ => k - (intOf i).toNat)
 case atStart => exact ⟨0, [],Nat.zero_le _,rfl,Lib.hid (OwnK.nil _ _ _),Lib.hid rfl,Lib.hid (by simp),HG0⟩
 case round =>
  obtain ⟨j,L,hj,rfl,HO,HL,HK,HG⟩:=hrel
  by_cases hlt : j < k
  ·go_wp2_with fail
   refine (rightPrefix_ok b (m + 5 * j) _ HG.out.s (by omega)).mono ?_
   rintro e w2 ⟨⟨q1,q2,q3,q4⟩,rfl,hok,hg⟩
   have HO2 : Hid (OwnK layPf w2 w.heap.size u5 L):=Lib.hid (HO.out.gen hg hblt)
   have HG2 : Hid (Gen b w w2 (m + 5 * (j + 1))):=Lib.hid ((HG.out.trans hg).mono (by omega))
   have HK2 : Hid (∀ p ∈ L ++ [(q1,q2,q3,q4)],OkPf p):=Lib.hid (ok_append HK.out fun p hp => by rw [List.mem_singleton.1 hp];exact hok)
   clear hg HO HG hok HK
   simp only [pfC]
   go_wp2_with (at_builtin;refine wpList_app pfE rfl (.tmp 9) (.tmp 12) rfl rfl (World.ownsRow.alloc HO2.out _) rfl (src_new layPf _ (q1,q2,q3,q4) _ _ ?c0) ?c1 ?c2 ?c3 ?c4 ?_)
   case c0 => rfl
   case c1 => exact layPf.one _
   case c2 => have:=HL.out;unfold maxLen;omega
   case c3 => have:=HL.out;omega
   case c4 => have:=HG2.out.g.size;simp;omega
   intro v' w' hO hG
   have HO' : Hid (OwnK layPf w' w.heap.size v' (L ++ [(q1,q2,q3,q4)])):=Lib.hid (OwnK.snoc hO)
   have HG' : Hid (Gen b w w' (m + 5 * (j + 1))):=Lib.hid (HG2.out.below (hG.allocFirst.below HG2.out.g.size (own_base HO2.out)) (Nat.le_refl _) hblt)
   clear hO hG HO2 HG2
   go_wp2
   exact ⟨⟨j + 1,L ++ [(q1,q2,q3,q4)],by omega,by go_num,HO',Lib.hid (by rw [List.length_append,HL.out];rfl),HK2,HG'⟩,by simp [intOf];omega⟩
  ·obtain rfl : j = k:=by omega
   go_wp2_with fail
   go_ret
   exact ⟨_,L,rfl,HO.out,HL.out,HK.out,HG.out⟩
theorem rightSet_gen (b m : Nat) (w : World) (h : Strm w b m) (hm : m + 50 < 1099511627776) :
  Calls Tryz.prog 66 #[.pointer (some ⟨b,0,none⟩)] w fun e w' => ∃ v L,e = .returned v ∧ OwnK layPf w' w.heap.size v L ∧ L.length ≤ 5 ∧ (∀ p ∈ L,OkPf p) ∧ Gen b w w' (m + 26):=by
 have hblt:=h.lt
 have HG0 : Hid (Gen b w w m):=Lib.hid (Gen.start h)
 clear h
 go_enter Tryz.func66,Tryz.ntmps66
 go_wp2_with fail
 refine (range_gen b m _ _ _ HG0.out.s (by omega) (by omega) (by omega)).mono ?_
 rintro e w1 ⟨y,rfl,⟨hy0,hy1⟩,hg⟩
 obtain ⟨k,rfl⟩:=Int.eq_ofNat_of_zero_le hy0
 have hk : k ≤ 5:=by omega
 have HG1:=Lib.hid (HG0.out.trans hg)
 clear hg HG0 hy0 hy1
 go_wp2_with fail
 refine (prefixes_gen b (m + 1) k _ HG1.out.s (by omega) (by omega)).mono ?_
 rintro e w2 ⟨v,L,rfl,hO,hl,hok,hg⟩
 have HG2:=Lib.hid (HG1.out.trans hg)
 obtain ⟨ad,c,rfl,_⟩:=hO.form
 have HS:=Lib.hid (leastOf_any ad k c L w2 (by rw [hl] at hO;exact hO.rd) hl (by omega) hok)
 have HK:=Lib.hid (ok_lst hok)
 have HLl : Hid ((lst L).length ≤ 5):=Lib.hid (by have:=lst_len hok;omega)
 rw [hl]
 clear hO hl hok hg HG1
 go_wp2_with fail
 refine HS.out.mono ?_
 rintro e w3 ⟨v,rfl,hO,hB⟩
 have hs:=HG2.out.g.size
 have HO3:=Lib.hid (hO.weak hs)
 have HG3:=Lib.hid (HG2.out.below0 hB (Nat.lt_of_lt_of_le hblt hs))
 clear hO hB HG2
 go_wp2_with fail
 go_ret
 exact ⟨_,_,rfl,HO3.out,HLl.out,HK.out,HG3.out.mono (by omega)⟩
theorem u4_app {L M : List Pf} (h : U4 L) (k : U4 M) : U4 (L ++ M):=fun p hp => (List.mem_append.1 hp).elim (h p) (k p)
theorem set_gen (b m : Nat) (w : World) (h : Strm w b m) (hm : m + 100 < 1099511627776) :
  Calls Tryz.prog 27 #[.pointer (some ⟨b,0,none⟩)] w fun e w' => ∃ v L,e = .returned v ∧ OwnK layPf w' w.heap.size v L ∧ L.length ≤ 6 ∧ U4 L ∧ Gen b w w' (m + 50):=by
 have hblt:=h.lt
 have HG0 : Hid (Gen b w w m):=Lib.hid (Gen.start h)
 clear h
 go_enter Tryz.func27,Tryz.ntmps27
 go_wp2_with fail
 refine (rightSet_gen b m _ HG0.out.s (by omega)).mono ?_
 rintro e w1 ⟨v,L,rfl,hO,hl,hok,hg⟩
 have HO1:=Lib.hid hO
 have HG1:=Lib.hid (HG0.out.trans hg)
 have HU1:=Lib.hid (u4_ok hok)
 clear hO hok hg HG0
 go_wp2_with fail
 refine (flip_gen b (m + 26) _ _ HG1.out.s (by omega) (by omega)).mono ?_
 rintro e w2 ⟨kk,rfl,hg⟩
 have HO2:=Lib.hid (HO1.out.gen hg hblt)
 have HG2:=Lib.hid (HG1.out.trans hg)
 clear hg HO1 HG1
 go_upto_if 7 with fail
 go_cut [3] (fun s wx => ∃ L : List Pf,L.length ≤ 6 ∧ U4 L ∧ OwnK layPf wx w.heap.size s L ∧ Gen b w wx (m + 45))
 case first =>
  cases kk
  ·go_wp2_with fail
   go_meet
   case rel => exact ⟨L,by omega,HU1.out,HO2.out,HG2.out.mono (by omega)⟩
  ·go_wp2_with fail
   refine (prefix_gen b (m + 26 + 1) _ HG2.out.s (by omega)).mono ?_
   rintro e w3 ⟨q1,q2,q3,q4,rfl,h1,h2, -,hg⟩
   have HO3:=Lib.hid (HO2.out.gen hg hblt)
   have HG3:=Lib.hid (HG2.out.trans hg)
   have HU3 : Hid (U4 (L ++ [(q1,q2,q3,q4)])):=Lib.hid (u4_app HU1.out fun p hp => by rw [List.mem_singleton.1 hp];exact ⟨h1,h2⟩)
   clear hg h1 h2 HO2 HG2
   unfold vP
   go_wp2_with (at_builtin;refine wpList_app pfE rfl (.tmp 8) (.tmp 11) rfl rfl (World.ownsRow.alloc HO3.out _) rfl (src_new layPf _ (q1,q2,q3,q4) _ _ ?c0) ?c1 ?c2 ?c3 ?c4 ?_)
   case c0 => rfl
   case c1 => exact layPf.one _
   case c2 => unfold maxLen;omega
   case c3 => omega
   case c4 => have:=HG3.out.g.size;simp;omega
   intro v' w' hO hG
   have HO':=Lib.hid (OwnK.snoc (x:=(q1,q2,q3,q4)) hO)
   have HG':=Lib.hid (HG3.out.below (hG.allocFirst.below HG3.out.g.size (own_base HO3.out)) (Nat.le_refl _) hblt)
   clear hO hG HO3 HG3
   go_wp2_with fail
   go_meet
   case rel => exact ⟨_,by rw [List.length_append];simp;omega,HU3.out,HO'.out,HG'.out.mono (by omega)⟩
 case rest =>
  clear HO2 HG2 HU1 hl
  obtain ⟨L,hl,hu,hO,hG⟩:=hcut
  obtain ⟨ad,c,hv,_,_,_⟩:=hO.form
  have HO:=Lib.hid hO
  have HG:=Lib.hid hG
  have HU:=Lib.hid hu
  clear hO hG hu
  subst hv
  obtain ⟨n,hn⟩ : ∃ n,L.length = n:=⟨_,rfl⟩
  rw [hn] at HO hl ⊢
  have Hn:=Lib.hid hn
  clear hn
  by_cases h1 : 1 < n
  ·have g1 : ((n : Int) > 1):=by omega
   go_wp2_with fail
   refine (flip_gen b (m + 45) _ _ HG.out.s (by omega) (by omega)).mono ?_
   rintro e w2 ⟨kk,rfl,hg⟩
   have HO2:=Lib.hid (HO.out.gen hg hblt)
   have HG2:=Lib.hid (HG.out.trans hg)
   clear hg HO HG
   cases kk
   ·go_wp2_with fail
    go_ret
    exact ⟨_,L,rfl,HO2.out,by rw [Hn.out];exact hl,HU.out,HG2.out.mono (by omega)⟩
   ·have h0L : 0 < L.length:=by rw [Hn.out];omega
    have h1L : 1 < L.length:=by rw [Hn.out];omega
    obtain ⟨⟨x1,x2,x3,x4⟩,hx⟩ : ∃ x,L[0]? = some x:=⟨_,List.getElem?_eq_getElem h0L⟩
    obtain ⟨⟨y1,y2,y3,y4⟩,hy⟩ : ∃ y,L[1]? = some y:=⟨_,List.getElem?_eq_getElem h1L⟩
    obtain ⟨g,c',hv,hg,hgl,hc1,hc2⟩:=HO2.out.one (by omega)
    rw [Hn.out] at hv hc1
    injection hv with hv1 _ hv3
    subst hv1 hv3
    have HO3 : Hid (OwnK layPf w2 w.heap.size (.slice (some ⟨g,0,none⟩) n c) L):=HO2
    clear HO2
    have e0 : ∀ j v,(pfC (x1,x2,x3,x4))[j]? = some v → w2.cell? ⟨g,0 * 4 + j,none⟩ = some v:=fun j v hv => HO3.out.get hx hv
    have e1 : ∀ j v,(pfC (y1,y2,y3,y4))[j]? = some v → w2.cell? ⟨g,1 * 4 + j,none⟩ = some v:=fun j v hv => HO3.out.get hy hv
    have a0:=e0 0 _ rfl
    have a1:=e0 1 _ rfl
    have a2:=e0 2 _ rfl
    have a3:=e0 3 _ rfl
    have b0:=e1 0 _ rfl
    have b1:=e1 1 _ rfl
    have b2:=e1 2 _ rfl
    have b3:=e1 3 _ rfl
    simp only [Nat.zero_mul,Nat.zero_add,Nat.one_mul,Nat.reduceAdd] at a0 a1 a2 a3 b0 b1 b2 b3
    have hfz : ∀ i,w2.frozen? ⟨g,i,none⟩ = false:=fun i => HO3.out.frozen i
    have HSw : Hid (∀ wx : World,OwnK layPf wx w.heap.size (.slice (some ⟨g,0,none⟩) n c) L → ∃ L',L'.length ≤ 6 ∧ U4 L' ∧ OwnK layPf (setCs (setCs wx g (0 * 4 + 0) (pfC (y1,y2,y3,y4))) g (1 * 4 + 0) (pfC (x1,x2,x3,x4))) w.heap.size (.slice (some ⟨g,0,none⟩) n c) L'):=Lib.hid fun wx hO => by
     have k1:=OwnK.sets (i:=0) (j:=0) (y:=(y1,y2,y3,y4)) hO (pfC (y1,y2,y3,y4)) hx (by show 0 + 4 ≤ 4;decide) rfl
     have k2:=OwnK.sets (i:=1) (j:=0) (y:=(x1,x2,x3,x4)) k1 (pfC (x1,x2,x3,x4)) (x:=(y1,y2,y3,y4)) (by rw [List.getElem?_set_ne (by decide)];exact hy) (by show 0 + 4 ≤ 4;decide) rfl
     refine ⟨_,?_,fun p hp => ?_,k2⟩
     ·rw [List.length_set,List.length_set,Hn.out];exact hl
     ·rcases List.mem_or_eq_of_mem_set hp with hp | rfl
      ·rcases List.mem_or_eq_of_mem_set hp with hp | rfl
       ·exact HU.out p hp
       ·exact HU.out _ (List.mem_of_getElem? hy)
      ·exact HU.out _ (List.mem_of_getElem? hx)
    have i0 : (0 : Int) < (n : Int):=by omega
    have i1 : (1 : Int) < (n : Int):=by omega
    clear e0 e1 hx hy HU Hn h0L h1L
    go_upto_region 5 with fail
    go_region
    go_wp2_with fail
    obtain ⟨L',hL',hU',hO'⟩:=HSw.out _ HO3.out
    have hgB : w.heap.size ≤ g:=HO3.out.block.2.1
    have hbg : b < g:=Nat.lt_of_lt_of_le hblt hgB
    have hO2:=OwnK.later hO' (below_drew (Below.refl _ _))
    go_ret
    refine ⟨_,L',rfl,hO2,hL',hU',?_⟩
    refine Gen.mono (m:=m + 45 + 1) (Gen.drew ?_) (by omega)
    repeat refine Gen.setCell ?_ _ _ hgB hbg
    exact HG2.out
  ·have g1 : ¬ ((n : Int) > 1):=by omega
   go_wp2_with fail
   go_ret
   exact ⟨_,rfl,L,HO.out,by rw [Hn.out];exact hl,HU.out,HG.out.mono (by omega)⟩
theorem okPf_at {lo n : Nat} (hl : lo < 2 ^ 32) (hn : n ≤ 32) : OkPf (false,mHi false 0 n,mLo false lo n,(n : Int)) :=
 ⟨rfl,mask_pok (s:=false) (h:=0) (l:=lo) ⟨by decide,Nat.lt_trans hl (by decide),fun _ => ⟨rfl,hl⟩⟩ (show n ≤ 32 from hn)⟩
theorem okPf_six {n : Nat} (hn : n = 64 ∨ n = 127) : OkPf (true,18230571291595767808,0,(n : Int)):=by
 refine ⟨rfl,?_⟩
 rcases hn with rfl | rfl
 ·show POK true 18230571291595767808 0 64
  unfold POK AOK mHi mLo lenN
  decide
 ·show POK true 18230571291595767808 0 127
  unfold POK AOK mHi mLo lenN
  decide
def rpR (b : Nat) (out : Value) : Nat → Value → World → Prop
 | 0,v,_ => v = out
 | 1,v,_ => v = .pointer (some ⟨b,0,none⟩)
 | 2,v,_ => ∃ k : Nat,v = .int .i64 (k : Int) ∧ k ≤ 7
 | 3,v,_ => ∃ k : Nat,v = .agg #[.bool false, .int .u64 ((0 : Nat) : Int), .int .u64 ((1681915904 + k : Nat) : Int)] ∧ k ≤ 7
 | 4,v,_ => v = .pointer (some ⟨b,0,none⟩)
 | 5,v,w => ∃ g,v = .slice (some ⟨g,0,none⟩) 4 4 ∧ g ≠ b ∧ RdInts w g 0 4 [30,31,32,32]
 | 6,v,_ => ∃ n : Nat,v = .int .i64 (n : Int) ∧ n ≤ 32
 | 7,v,_ => ∃ p : Pf,v = .agg (pfC p).toArray ∧ OkPf p
 | _,v,w => ∃ (B : Nat) (p : Pf),v = .slice (some ⟨B,0,none⟩) 1 1 ∧ Blk w B 104 (pfC p).toArray ∧ OkPf p ∧ B ≠ b
theorem rpR_keep {b : Nat} {out : Value} (p : Nat) (v : Value) (u w : World) (h : rpR b out p v u) (hg : u.grownBy w (some b)) : rpR b out p v w:=by
 rcases p with _ | _ | _ | _ | _ | _ | _ | _ | p
 all_goals first
  | exact h
  | (obtain ⟨g,h1,h2,h3⟩:=h;exact ⟨g,h1,h2,h3.grown hg h2⟩)
  | (obtain ⟨B,p,h1,h2,h3,h4⟩:=h;exact ⟨B,p,h1,h2.keep hg h4,h3,h4⟩)
def rqR (b : Nat) (out : Value) : Nat → Value → World → Prop
 | 0,v,_ => v = out
 | 1,v,_ => v = .agg #[.bool true, .int .u64 18230571291595767808, .int .u64 0]
 | 2,v,_ => v = .pointer (some ⟨b,0,none⟩)
 | 3,v,w => ∃ g,v = .slice (some ⟨g,0,none⟩) 2 2 ∧ g ≠ b ∧ RdInts w g 0 2 [64,127]
 | 4,v,_ => ∃ n : Nat,v = .int .i64 (n : Int) ∧ (n = 64 ∨ n = 127)
 | 5,v,_ => ∃ p : Pf,v = .agg (pfC p).toArray ∧ OkPf p
 | _,v,w => ∃ (B : Nat) (p : Pf),v = .slice (some ⟨B,0,none⟩) 1 1 ∧ Blk w B 104 (pfC p).toArray ∧ OkPf p ∧ B ≠ b
theorem rqR_keep {b : Nat} {out : Value} (p : Nat) (v : Value) (u w : World) (h : rqR b out p v u) (hg : u.grownBy w (some b)) : rqR b out p v w:=by
 rcases p with _ | _ | _ | _ | _ | _ | p
 all_goals first
  | exact h
  | (obtain ⟨g,h1,h2,h3⟩:=h;exact ⟨g,h1,h2,h3.grown hg h2⟩)
  | (obtain ⟨B,p,h1,h2,h3,h4⟩:=h;exact ⟨B,p,h1,h2.keep hg h4,h3,h4⟩)
theorem rowPart_gen (b m bx : Nat) (w : World) (h : Strm w b m) (hx : Blk w bx 23 #[.pointer (some ⟨b,0,none⟩)]) (hne : bx ≠ b) (hm : m + 50 < 1099511627776) :
  Calls Tryz.prog 100 #[.pointer (some ⟨bx,0,none⟩)] w fun e w' => ∃ v L,e = .returned v ∧ OwnK layPf w' w.heap.size v L ∧ L.length ≤ 4 ∧ (∀ p ∈ L,OkPf p) ∧ Gen b w w' (m + 9):=by
 have hblt:=h.lt
 have HG0 : Hid (Gen b w w m):=Lib.hid (Gen.start h)
 have HX0:=Lib.hid hx
 have e0:=hx.cell 0
 have hbx:=hx.lt
 simp at e0
 clear h hx
 go_enter Tryz.func100,Tryz.ntmps100
 go_wp2_with fail
 refine (pick_new b m _ _ _ _ [1,1,2,3] _ HG0.out.s rfl (by omega) rfl (by decide) rfl).mono ?_
 rintro e w1 ⟨x,rfl,hx,hg⟩
 have hxb : 0 ≤ x ∧ x ≤ 3:=by simp at hx;omega
 obtain ⟨K,rfl⟩:=Int.eq_ofNat_of_zero_le hxb.1
 have hK : K ≤ 3:=by omega
 have HG1 : Hid (Gen b w w1 (m + 1)):=Lib.hid (HG0.out.trans hg)
 have HX1 : Hid (Blk w1 bx 23 #[.pointer (some ⟨b,0,none⟩)]):=Lib.hid (HX0.out.keep hg.g hne)
 clear hx hxb hg HG0 HX0 e0
 go_wp2_with fail
 go_loopw [2,6] (fun out i wr => ∃ (j : Nat) (L : List Pf),j ≤ K ∧ i = .int .i64 (j : Int) ∧ Hid (OwnK layPf wr w.heap.size out L) ∧ Hid (L.length = j) ∧ Hid (∀ p ∈ L,OkPf p) ∧ Hid (Gen b w wr (m + 1 + 2 * j)) ∧ Hid (Blk wr bx 23 #[.pointer (some ⟨b,0,none⟩)])) (fun _ i _ => K - (intOf i).toNat)
 case atStart => exact ⟨0, [],Nat.zero_le _,rfl,Lib.hid (OwnK.nil _ _ _),Lib.hid rfl,Lib.hid (by simp),HG1,HX1⟩
 case round =>
  obtain ⟨j,L,hj,rfl,HO,HL,HK,HG,HX⟩:=hrel
  by_cases hlt : j < K
  ·have hbw:=HG.out.s.lt
   go_upto_region 4 with fail
   refine wp_region_inv 9 2 (rpR b u2) (fun n wx => Gen b wr wx (m + 1 + 2 * j + n) ∧ Blk wx bx 23 #[.pointer (some ⟨b,0,none⟩)]) (fun u v => u.grownBy v (some b)) (fun i => if i = 2 ∨ i = 6 then 1 else 0)
    (by kernel_rfl) (by kernel_rfl) (by decide) rpR_keep ⟨(Gen.start HG.out.s).drew,HX.out.drewN 1⟩ ?hX
   case' hX => (apply Exists.intro;refine ⟨fun T => ?hA,?hob,?hend⟩)
   case hA =>
    simp only [setAll,List.take_succ_cons,List.take_zero,Act.put,List.setIfInBounds_toArray,List.set_cons_succ,List.set_cons_zero,Nat.reduceAdd]
    exact rfl
   case hob =>
    clear HO HL HK HG HX
    go_light
    refine ⟨?_,?_,?_,?_,?_,?_,?_,?_,?_,trivial⟩
    all_goals (intro T wx n hC hn hp;obtain ⟨hC,hB⟩:=hC;dsimp only at hn ⊢;unfold Op1)
    ·go_simp
     exact ⟨rfl,World.grownBy.refl _ _⟩
    ·have e0:=hB.cell 0
     simp at e0
     go_simp
     exact ⟨rfl,World.grownBy.refl _ _⟩
    ·obtain ⟨h1, -⟩:=hp
     have h1 : T 1 = .pointer (some ⟨b,0,none⟩):=h1
     go_simp
     refine (range_gen b (m + 1 + 2 * j + n) _ _ _ hC.s (by simp at hn;omega) (by omega) (by omega)).mono ?_
     rintro e w2 ⟨y,rfl,⟨hy0,hy1⟩,hg2⟩
     obtain ⟨k,rfl⟩:=Int.eq_ofNat_of_zero_le hy0
     exact ⟨_,rfl,⟨k,rfl,by omega⟩,⟨hC.trans hg2,hB.keep hg2.g hne⟩,hg2.g⟩
    ·obtain ⟨⟨k,hT2,hk⟩, -⟩:=hp
     go_simp
     refine (at_any _ _ (by omega)).mono ?_
     rintro e w2 ⟨rfl,o,rfl⟩
     exact ⟨_,rfl,⟨k,rfl,hk⟩,⟨hC.alloc _,hB.alloc _⟩,World.grownBy_alloc _ _ _⟩
    ·have e0:=hB.cell 0
     simp at e0
     go_simp
     exact ⟨rfl,World.grownBy.refl _ _⟩
    ·go_simp
     exact ⟨⟨wx.heap.size,rfl,by have:=hC.s.lt;omega,rdInts_new wx _ [30,31,32,32] _ rfl⟩,⟨hC.alloc _,hB.alloc _⟩,World.grownBy_alloc _ _ _⟩
    ·obtain ⟨h1,⟨g,h2,hgb,hR⟩, -⟩:=hp
     have h1 : T 4 = .pointer (some ⟨b,0,none⟩):=h1
     go_simp
     refine (pick_gen b (m + 1 + 2 * j + n) g 0 4 4 [30,31,32,32] _ hC.s (by simp at hn;omega) (by omega) hR hgb).mono ?_
     rintro e w2 ⟨y,rfl,hy,hg2⟩
     have hyb : 0 ≤ y ∧ y ≤ 32:=by simp at hy;omega
     obtain ⟨k,rfl⟩:=Int.eq_ofNat_of_zero_le hyb.1
     exact ⟨_,rfl,⟨k,rfl,by omega⟩,⟨hC.trans hg2,hB.keep hg2.g hne⟩,hg2.g⟩
    ·obtain ⟨⟨k,h1,hk⟩,⟨q,h2,hq⟩, -⟩:=hp
     go_simp
     refine (maskOf_any false 0 (1681915904 + k) q wx (by decide) (by omega) (by omega)).mono ?_
     rintro e w2 ⟨rfl,hb⟩
     have hg2 : wx.grownBy w2 (some b):=((Gen.start hC.s).below0 hb hC.s.lt).g
     exact ⟨_,rfl,⟨(false,mHi false 0 q,mLo false (1681915904 + k) q,(q : Int)),rfl,okPf_at (by omega) (by omega)⟩,⟨hC.below0 hb hC.s.lt,hB.keep hg2 hne⟩,hg2⟩
    ·obtain ⟨⟨p,h1,hk⟩, -⟩:=hp
     have hpc : (pfC p).toArray = #[.bool p.1, .int .u64 ((p.2.1 : Nat) : Int), .int .u64 ((p.2.2.1 : Nat) : Int), .int .i64 p.2.2.2]:=rfl
     rw [hpc] at h1
     go_simp
     exact ⟨⟨wx.heap.size,p,rfl,Blk.new wx _ _,hk,by have:=hC.s.lt;omega⟩,⟨hC.alloc _,hB.alloc _⟩,World.grownBy_alloc _ _ _⟩
   case hend =>
    intro T w4 ⟨n,hn,hC,hB⟩ hR
    have hT0 : T 0 = u2:=hR 0 (by omega)
    obtain ⟨B,p,hT8,hBl,hok,hBb⟩:=hR 8 (by omega)
    have HO4:=Lib.hid (HO.out.gen hC hblt)
    have HG4 : Hid (Gen b w w4 (m + 1 + 2 * (j + 1))):=Lib.hid ((HG.out.trans hC).mono (by omega))
    have HX4:=Lib.hid hB
    have HBl:=Lib.hid hBl
    have HK4 : Hid (∀ q ∈ L ++ [p],OkPf q):=Lib.hid (ok_append HK.out fun q hq => by rw [List.mem_singleton.1 hq];exact hok)
    clear hR hB hBl hC hok HO HG HX HK
    simp only [List.drop_succ_cons,List.drop_zero]
    refine wpList_app (c:=1) pfE rfl (.tmp 8) (.tmp 16) rfl ?hs HO4.out ?hx (src_blk layPf p HBl.out rfl) ?c1 ?c2 ?c3 ?c4 ?_
    case hs => exact hT0
    case hx => exact hT8
    case c1 => exact layPf.one p
    case c2 => unfold maxLen;rw [HL.out];omega
    case c3 => rw [HL.out];omega
    case c4 => exact HG4.out.g.size
    intro v' w' hO hG
    have hbl : Below w.heap.size w4 w':=hG.below HG4.out.g.size (own_base HO4.out)
    have HO' : Hid (OwnK layPf w' w.heap.size v' (L ++ [p])):=Lib.hid (OwnK.snoc hO)
    have HG' : Hid (Gen b w w' (m + 1 + 2 * (j + 1))):=Lib.hid (HG4.out.below hbl (Nat.le_refl _) hblt)
    have HX' : Hid (Blk w' bx 23 #[.pointer (some ⟨b,0,none⟩)]):=Lib.hid (HX4.out.below hbl hbx)
    clear hO hG hbl HO4 HG4 HX4 HBl
    go_wp2
    exact ⟨⟨j + 1,L ++ [p],by omega,by go_num,HO',Lib.hid (by rw [List.length_append,HL.out];rfl),HK4,HG',HX'⟩,by simp [intOf];omega⟩
  ·obtain rfl : j = K:=by omega
   have e0:=HX.out.cell 0
   simp at e0
   go_wp2_with fail
   refine (flip_gen b (m + 1 + 2 * j) _ _ HG.out.s (by omega) (by omega)).mono ?_
   rintro e w2 ⟨fl,rfl,hg⟩
   have HO2:=Lib.hid (HO.out.gen hg hblt)
   have HG2 : Hid (Gen b w w2 (m + 1 + 2 * j + 1)):=Lib.hid (HG.out.trans hg)
   have HX2:=Lib.hid (HX.out.keep hg.g hne)
   clear hg HO HG HX e0
   have HEND : Hid (∀ (v : Value) (L2 : List Pf) (w5 : World),OwnK layPf w5 w.heap.size v L2 → L2.length ≤ 4 → (∀ p ∈ L2,OkPf p) → Gen b w w5 (m + 9) → ∃ ad c,v = .slice ad L2.length c ∧ Calls Tryz.prog 77 #[.slice ad L2.length c] w5 fun e w' => ∃ v L,e = .returned v ∧ OwnK layPf w' w.heap.size v L ∧ L.length ≤ 4 ∧ (∀ p ∈ L,OkPf p) ∧ Gen b w w' (m + 9)):=Lib.hid fun v L2 w5 hO hl hk hg => by
    obtain ⟨ad,c,rfl,_⟩:=hO.form
    refine ⟨ad,c,rfl,(leastOf_any ad L2.length c L2 w5 hO.rd rfl (by omega) hk).mono ?_⟩
    rintro e w6 ⟨v,rfl,hO6,hB6⟩
    refine ⟨_,_,rfl,hO6.weak hg.g.size,by have:=lst_len hk;omega,ok_lst hk,hg.below0 hB6 (Nat.lt_of_lt_of_le hblt hg.g.size)⟩
   cases fl
   ·obtain ⟨ad,c,rfl,hE⟩:=HEND.out _ L w2 HO2.out (by have:=HL.out;omega) HK.out (HG2.out.mono (by omega))
    have HE:=Lib.hid hE
    clear hE HEND HO2 HG2 HX2 HK
    go_wp2_with fail
    refine HE.out.mono ?_
    rintro e w6 ⟨v,L3,rfl,h1,h2,h3,h4⟩
    have HH:=Lib.hid (And.intro h1 (And.intro h2 (And.intro h3 h4)))
    clear h1 h2 h3 h4 HE
    go_wp2_with fail
    go_ret
    exact ⟨_,_,rfl,HH.out⟩
   ·have hbw:=HG2.out.s.lt
    go_upto_region 7 with fail
    refine wp_region_inv 7 1 (rqR b u2) (fun n wx => Gen b w2 wx (m + 1 + 2 * j + 1 + n) ∧ Blk wx bx 23 #[.pointer (some ⟨b,0,none⟩)]) (fun u v => u.grownBy v (some b)) (fun i => if i = 4 then 1 else 0)
     (by kernel_rfl) (by kernel_rfl) (by decide) rqR_keep ⟨(Gen.start HG2.out.s).drew,HX2.out.drewN 1⟩ ?hXz
    case' hXz => (apply Exists.intro;refine ⟨fun T => ?hAz,?hobz,?hendz⟩)
    case hAz =>
     simp only [setAll,List.take_succ_cons,List.take_zero,Act.put,List.setIfInBounds_toArray,List.set_cons_succ,List.set_cons_zero,Nat.reduceAdd]
     exact rfl
    case hobz =>
     clear HO2 HL HK HG2 HX2 HEND
     go_light
     refine ⟨?_,?_,?_,?_,?_,?_,?_,trivial⟩
     all_goals (intro T wx n hC hn hp;obtain ⟨hC,hB⟩:=hC;dsimp only at hn ⊢;unfold Op1)
     ·go_simp
      exact ⟨rfl,World.grownBy.refl _ _⟩
     ·go_simp
      refine (sixAt_any _ _ (by omega)).mono ?_
      rintro e w2 ⟨rfl,o,rfl⟩
      exact ⟨_,rfl,rfl,⟨hC.alloc _,hB.alloc _⟩,World.grownBy_alloc _ _ _⟩
     ·have e0:=hB.cell 0
      simp at e0
      go_simp
      exact ⟨rfl,World.grownBy.refl _ _⟩
     ·go_simp
      exact ⟨⟨wx.heap.size,rfl,by have:=hC.s.lt;omega,rdInts_new wx _ [64,127] _ rfl⟩,⟨hC.alloc _,hB.alloc _⟩,World.grownBy_alloc _ _ _⟩
     ·obtain ⟨h1,⟨g,h2,hgb,hR⟩, -⟩:=hp
      have h1 : T 2 = .pointer (some ⟨b,0,none⟩):=h1
      go_simp
      refine (pick_gen b (m + 1 + 2 * j + 1 + n) g 0 2 2 [64,127] _ hC.s (by simp at hn;omega) (by omega) hR hgb).mono ?_
      rintro e w2 ⟨y,rfl,hy,hg2⟩
      have hyb : y = 64 ∨ y = 127:=by simpa using hy
      obtain ⟨k,rfl⟩:=Int.eq_ofNat_of_zero_le (show 0 ≤ y by omega)
      exact ⟨_,rfl,⟨k,rfl,by omega⟩,⟨hC.trans hg2,hB.keep hg2.g hne⟩,hg2.g⟩
     ·obtain ⟨h1,⟨q,h2,hq⟩, -⟩:=hp
      have h1 : T 1 = .agg #[.bool true, .int .u64 18230571291595767808, .int .u64 0]:=h1
      go_simp
      exact ⟨⟨(true,18230571291595767808,0,(q : Int)),rfl,okPf_six hq⟩,World.grownBy.refl _ _⟩
     ·obtain ⟨⟨p,h1,hk⟩, -⟩:=hp
      have hpc : (pfC p).toArray = #[.bool p.1, .int .u64 ((p.2.1 : Nat) : Int), .int .u64 ((p.2.2.1 : Nat) : Int), .int .i64 p.2.2.2]:=rfl
      rw [hpc] at h1
      go_simp
      exact ⟨⟨wx.heap.size,p,rfl,Blk.new wx _ _,hk,by have:=hC.s.lt;omega⟩,⟨hC.alloc _,hB.alloc _⟩,World.grownBy_alloc _ _ _⟩
    case hendz =>
     intro T w4 ⟨n,hn,hC,hB⟩ hR
     have hT0 : T 0 = u2:=hR 0 (by omega)
     obtain ⟨B,p,hT8,hBl,hok,hBb⟩:=hR 6 (by omega)
     have HO4:=Lib.hid (HO2.out.gen hC hblt)
     have HG4 : Hid (Gen b w w4 (m + 9)):=Lib.hid ((HG2.out.trans hC).mono (by omega))
     have HBl:=Lib.hid hBl
     have HK4 : Hid (∀ q ∈ L ++ [p],OkPf q):=Lib.hid (ok_append HK.out fun q hq => by rw [List.mem_singleton.1 hq];exact hok)
     clear hR hB hBl hC hok HO2 HG2 HX2 HK
     simp only [List.drop_succ_cons,List.drop_zero]
     refine wpList_app (c:=1) pfE rfl (.tmp 21) (.tmp 27) rfl ?hsz HO4.out ?hxz (src_blk layPf p HBl.out rfl) ?c1z ?c2z ?c3z ?c4z ?_
     case hsz => exact hT0
     case hxz => exact hT8
     case c1z => exact layPf.one p
     case c2z => unfold maxLen;rw [HL.out];omega
     case c3z => rw [HL.out];omega
     case c4z => exact HG4.out.g.size
     intro v' w' hO hG
     have hbl : Below w.heap.size w4 w':=hG.below HG4.out.g.size (own_base HO4.out)
     obtain ⟨ad,c,rfl,hE⟩:=HEND.out _ (L ++ [p]) w' (OwnK.snoc hO) (by rw [List.length_append,HL.out];simp;omega) HK4.out (HG4.out.below hbl (Nat.le_refl _) hblt)
     have HE:=Lib.hid hE
     clear hE HEND hO hG hbl HO4 HG4 HBl HK4
     generalize (L ++ [p]).length = ll at *
     go_wp2_with fail
     refine HE.out.mono ?_
     rintro e w6 ⟨v,L3,rfl,h1,h2,h3,h4⟩
     have HH:=Lib.hid (And.intro h1 (And.intro h2 (And.intro h3 h4)))
     clear h1 h2 h3 h4 HE
     go_wp2_with fail
     go_ret
     exact ⟨_,_,rfl,HH.out⟩
end Go.Proofs.YthebgfnaomgcnaaGreat
