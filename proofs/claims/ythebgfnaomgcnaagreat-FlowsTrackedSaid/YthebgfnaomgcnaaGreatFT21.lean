/-
  The generator of a row (lanemake's Row).
-/
import Derived.Test.YthebgfnaomgcnaaGreatFT19
import Derived.Test.YthebgfnaomgcnaaGreatFT16
import Derived.Test.YthebgfnaomgcnaaGreatFT20
import Derived.Test.YthebgfnaomgcnaaGreatFT18
set_option linter.unusedVariables false
set_option maxRecDepth 100000
set_option maxHeartbeats 8000000
namespace Go.Proofs.YthebgfnaomgcnaaGreat
open Go.RowKit Go
theorem mrgR_len (A : List (Nat × Nat)) (p : Nat × Nat) : (mrg A p).length ≤ A.length + 1:=by
 rcases List.eq_nil_or_concat A with rfl | ⟨D,q,rfl⟩
 ·show [p].length ≤ _
  simp
 ·rw [List.concat_eq_append]
  have e : mrg (D ++ [q]) p = if p.1 ≤ q.2 + 1 then D ++ [(q.1,max q.2 p.2)] else D ++ [q] ++ [p]:=by simp [mrg]
  rw [e]
  split <;> simp
theorem foldlR_len : ∀ (S A : List (Nat × Nat)),(S.foldl mrg A).length ≤ A.length + S.length
 | [],A => by simp
 | p :: S,A => by
   have h1:=foldlR_len S (mrg A p)
   have h2:=mrgR_len A p
   simp only [List.foldl_cons,List.length_cons]
   omega
theorem scan_short {L : List (Nat × Nat)} {n : Nat} (hv : ∀ p,p ∈ L → p.1 ≤ p.2 ∧ p.2 < n) : (scan (inRow L) n).length ≤ L.length:=by
 have hp : (L.mergeSort (fun p q => decide (p.1 ≤ q.1))).Perm L:=List.mergeSort_perm _ _
 have hs : (L.mergeSort (fun p q => decide (p.1 ≤ q.1))).Pairwise (fun p q => p.1 ≤ q.1):=by
  have:=List.pairwise_mergeSort (le:=fun (p q : Nat × Nat) => decide (p.1 ≤ q.1)) (fun a b c h1 h2 => by simp at *;omega) (fun a b => by simp;omega) L
  exact this.imp fun h => by simpa using h
 rw [← least_eq (fun p => hp.mem_iff) hs hv]
 have:=foldlR_len (L.mergeSort (fun p q => decide (p.1 ≤ q.1))) []
 rw [hp.length_eq] at this
 simpa using this
theorem ownP_K {w : World} {B : Nat} {v : Value} {L : List (Int × Int)} (h : OwnP w B v L) : OwnK layPo w B v L:=h
theorem KeepT.set4 {S : List TypeId} {w : World} {B : Nat} {t : TypeId} {cs : Array Value} (h : Blk w B t cs) (ht : t ∈ S) (a b c d : Value) : KeepT S w ((((w.setCell ⟨B,0,none⟩ a).setCell ⟨B,1,none⟩ b).setCell ⟨B,2,none⟩ c).setCell ⟨B,3,none⟩ d) :=
 (((KeepT.of_set h ht).trans (KeepT.of_set (h.set 0 a) ht)).trans (KeepT.of_set ((h.set 0 a).set 1 b) ht)).trans (KeepT.of_set (((h.set 0 a).set 1 b).set 2 c) ht)
structure FR.Sm (r : FR) : Prop where
 ok : r.Ok
 l1 : r.src.length ≤ 30
 l2 : r.dst.length ≤ 30
 l3 : r.po.length ≤ 30
theorem FR.Sm.un {r : FR} (h : r.Sm) : r.Un:=⟨u4_ok h.ok.v1,u4_ok h.ok.v2,by have:=h.l1;omega,by have:=h.l2;omega,by have:=h.l3;omega⟩
theorem row_gen (b m : Nat) (w : World) (h : Strm w b m) (hm : m + 100 < 1099511627776) :
  Calls Tryz.prog 65 #[.pointer (some ⟨b,0,none⟩)] w fun e w' => ∃ (r : FR) (c : FC),e = .returned (.agg (fcC c).toArray) ∧ FlcT w' r c ∧ r.Sm ∧ Gen b w w' (m + 30):=by
 have hblt:=h.lt
 obtain ⟨w0,hw0⟩ : ∃ w0,(w.alloc (.cells #[.pointer (some ⟨b,0,none⟩)] 23 (0,0))).alloc (.cells #[.int .i64 0, .slice none 0 0, .slice none 0 0, .slice none 0 0] 71 (0,0)) = w0:=⟨_,rfl⟩
 have HG0 : Hid (Gen b w w0 m):=Lib.hid (by rw [← hw0];exact ((Gen.start h).alloc _).alloc _)
 have HX0 : Hid (Blk w0 w.heap.size 23 #[.pointer (some ⟨b,0,none⟩)]):=Lib.hid (by rw [← hw0];exact (Blk.new w _ _).alloc _)
 have HZ0 : Hid (Blk w0 (w.heap.size + 1) 71 #[.int .i64 0, .slice none 0 0, .slice none 0 0, .slice none 0 0]):=Lib.hid (by
  rw [← hw0]
  have this:=Blk.new (w.alloc (.cells #[.pointer (some ⟨b,0,none⟩)] 23 (0,0))) 71 #[.int .i64 0, .slice none 0 0, .slice none 0 0, .slice none 0 0]
  rw [World.size_alloc] at this
  exact this)
 have hxb : w.heap.size ≠ b:=by omega
 clear h
 go_enter Tryz.func65,Tryz.ntmps65
 go_upto_region 1 with fail
 clear hw0
 have x0:=HX0.out.cell 0
 simp at x0
 go_wp2_with fail
 refine (pick_new b m _ _ _ _ [0,0,6,6,17,1] _ HG0.out.s rfl (by omega) rfl (by decide) rfl).mono ?_
 rintro e w1 ⟨x,rfl,hx,hg⟩
 have hx4 : x = 0 ∨ x = 6 ∨ x = 17 ∨ x = 1:=by simp at hx;omega
 have HX4:=Lib.hid hx4
 have HG1 : Hid (Gen b w w1 (m + 1)):=Lib.hid (HG0.out.trans hg)
 have HX1:=Lib.hid (HX0.out.keep hg.g hxb)
 have HZ1:=Lib.hid (HZ0.out.keep hg.g (by omega))
 have hR1:=HZ1.out.lt
 have HR2 : Hid (Blk (w1.alloc (.cells #[.int .i64 x, .slice none 0 0, .slice none 0 0, .slice none 0 0] 71 (0,0))) w1.heap.size 71 #[.int .i64 x, .slice none 0 0, .slice none 0 0, .slice none 0 0]):=Lib.hid (Blk.new w1 _ _)
 have HG2:=Lib.hid (HG1.out.alloc (.cells #[.int .i64 x, .slice none 0 0, .slice none 0 0, .slice none 0 0] 71 (0,0)))
 have HX2:=Lib.hid (HX1.out.alloc (.cells #[.int .i64 x, .slice none 0 0, .slice none 0 0, .slice none 0 0] 71 (0,0)))
 have HZ2:=Lib.hid (HZ1.out.alloc (.cells #[.int .i64 x, .slice none 0 0, .slice none 0 0, .slice none 0 0] 71 (0,0)))
 clear hx hx4 hg HG0 HX0 HZ0 x0 HG1 HX1 HZ1
 go_upto_region 2 with fail
 generalize w1.alloc (.cells #[.int .i64 x, .slice none 0 0, .slice none 0 0, .slice none 0 0] 71 (0,0)) = w2 at *
 generalize w1.heap.size = R at *
 go_wp2_with fail
 refine (rowPart_gen b (m + 1) w.heap.size _ HG2.out.s HX2.out hxb (by omega)).mono ?_
 rintro e w3 ⟨v1,L1,rfl,hO,hl,hk,hg⟩
 have HG3:=Lib.hid (HG2.out.trans hg)
 have HX3:=Lib.hid (HX2.out.keep hg.g hxb)
 have HZ3:=Lib.hid (HZ2.out.keep hg.g (by omega))
 have HR3:=Lib.hid (HR2.out.keep hg.g (by omega))
 have HO3:=Lib.hid hO
 have HL1:=Lib.hid (And.intro hl hk)
 have hs2:=HG2.out.s.lt
 clear hO hl hk hg HG2 HX2 HZ2 HR2
 go_wp2_with fail
 refine (rowPart_gen b (m + 1 + 9) w.heap.size _ HG3.out.s HX3.out hxb (by omega)).mono ?_
 rintro e w4 ⟨v2,L2,rfl,hO,hl,hk,hg⟩
 have HG4:=Lib.hid (HG3.out.trans hg)
 have HX4':=Lib.hid (HX3.out.keep hg.g hxb)
 have HZ4:=Lib.hid (HZ3.out.keep hg.g (by omega))
 have HR4:=Lib.hid (HR3.out.keep hg.g (by omega))
 obtain ⟨a1,c1,rfl, -⟩:=(HO3.out.gen hg hs2).form
 obtain ⟨a2,c2,rfl, -⟩:=hO.form
 have HT1:=Lib.hid (HO3.out.gen hg hs2).rdT
 have HT2:=Lib.hid hO.rdT
 have HL2:=Lib.hid (And.intro hl hk)
 clear hO hl hk hg HG3 HX3 HZ3 HR3 HO3
 obtain ⟨n1,hn1⟩ : ∃ n,L1.length = n:=⟨_,rfl⟩
 obtain ⟨n2,hn2⟩ : ∃ n,L2.length = n:=⟨_,rfl⟩
 have HN:=Lib.hid (And.intro hn1 hn2)
 rw [hn1,hn2]
 clear hn1 hn2
 have f4:=HR4.out.free
 have r0:=HR4.out.cell 0
 have r1:=HR4.out.cell 1
 have r2:=HR4.out.cell 2
 have r3:=HR4.out.cell 3
 simp at r0 r1 r2 r3
 go_upto_region 4 with fail
 have HR5 : Hid (Blk ((w4.setCell ⟨R,1,none⟩ (.slice a1 n1 c1)).setCell ⟨R,2,none⟩ (.slice a2 n2 c2)) R 71 #[.int .i64 x, .slice a1 n1 c1, .slice a2 n2 c2, .slice none 0 0]):=Lib.hid ((HR4.out.set 1 _).set 2 _)
 have HX5 : Hid (Blk ((w4.setCell ⟨R,1,none⟩ (.slice a1 n1 c1)).setCell ⟨R,2,none⟩ (.slice a2 n2 c2)) w.heap.size 23 #[.pointer (some ⟨b,0,none⟩)]):=Lib.hid ((HX4'.out.far (by omega) 1 _).far (by omega) 2 _)
 have HZ5 : Hid (Blk ((w4.setCell ⟨R,1,none⟩ (.slice a1 n1 c1)).setCell ⟨R,2,none⟩ (.slice a2 n2 c2)) (w.heap.size + 1) 71 #[.int .i64 0, .slice none 0 0, .slice none 0 0, .slice none 0 0]):=Lib.hid ((HZ4.out.far (by omega) 1 _).far (by omega) 2 _)
 have HG5 : Hid (Gen b w ((w4.setCell ⟨R,1,none⟩ (.slice a1 n1 c1)).setCell ⟨R,2,none⟩ (.slice a2 n2 c2)) (m + 1 + 9 + 9)):=Lib.hid ((HG4.out.setCell ⟨R,1,none⟩ _ (show w.heap.size ≤ R by omega) (show b < R by omega)).setCell ⟨R,2,none⟩ _ (show w.heap.size ≤ R by omega) (show b < R by omega))
 have HK5 : Hid (KeepT [71] w4 ((w4.setCell ⟨R,1,none⟩ (.slice a1 n1 c1)).setCell ⟨R,2,none⟩ (.slice a2 n2 c2))):=Lib.hid ((KeepT.of_set HR4.out (by simp)).trans (KeepT.of_set (HR4.out.set 1 _) (by simp)))
 have HT15:=Lib.hid (HT1.out.keep HK5.out (by decide))
 have HT25:=Lib.hid (HT2.out.keep HK5.out (by decide))
 generalize ((w4.setCell ⟨R,1,none⟩ (.slice a1 n1 c1)).setCell ⟨R,2,none⟩ (.slice a2 n2 c2)) = w5 at *
 clear HR4 HX4' HZ4 HG4 HK5 HT1 HT2 f4 r0 r1 r2 r3
 have HA6 : Hid (Blk (w5.alloc (.cells #[.int .i64 0, .int .i64 65535] 74 (0,0))) w5.heap.size 74 #[.int .i64 0, .int .i64 65535]):=Lib.hid (Blk.new w5 _ _)
 have hR5:=HR5.out.lt
 have HR6:=Lib.hid (HR5.out.alloc (.cells #[.int .i64 0, .int .i64 65535] 74 (0,0)))
 have f6:=HR6.out.free
 have r3:=HR6.out.cell 3
 simp at r3
 go_upto_region 5 with fail
 have HR7 : Hid (Blk ((w5.setCell ⟨R,3,none⟩ (.slice (some ⟨w5.heap.size,0,none⟩) 1 1)).alloc (.cells #[.int .i64 0, .int .i64 65535] 74 (0,0))) R 71 #[.int .i64 x, .slice a1 n1 c1, .slice a2 n2 c2, .slice (some ⟨w5.heap.size,0,none⟩) 1 1]):=Lib.hid ((HR5.out.set 3 _).alloc _)
 have HA7 : Hid (Blk ((w5.setCell ⟨R,3,none⟩ (.slice (some ⟨w5.heap.size,0,none⟩) 1 1)).alloc (.cells #[.int .i64 0, .int .i64 65535] 74 (0,0))) w5.heap.size 74 #[.int .i64 0, .int .i64 65535]):=Lib.hid (by
  have this:=Blk.new (w5.setCell ⟨R,3,none⟩ (.slice (some ⟨w5.heap.size,0,none⟩) 1 1)) 74 #[.int .i64 0, .int .i64 65535]
  rw [World.size_setCell] at this
  exact this)
 have HX7 : Hid (Blk ((w5.setCell ⟨R,3,none⟩ (.slice (some ⟨w5.heap.size,0,none⟩) 1 1)).alloc (.cells #[.int .i64 0, .int .i64 65535] 74 (0,0))) w.heap.size 23 #[.pointer (some ⟨b,0,none⟩)]):=Lib.hid ((HX5.out.far (by omega) 3 _).alloc _)
 have HZ7 : Hid (Blk ((w5.setCell ⟨R,3,none⟩ (.slice (some ⟨w5.heap.size,0,none⟩) 1 1)).alloc (.cells #[.int .i64 0, .int .i64 65535] 74 (0,0))) (w.heap.size + 1) 71 #[.int .i64 0, .slice none 0 0, .slice none 0 0, .slice none 0 0]):=Lib.hid ((HZ5.out.far (by omega) 3 _).alloc _)
 have HG7 : Hid (Gen b w ((w5.setCell ⟨R,3,none⟩ (.slice (some ⟨w5.heap.size,0,none⟩) 1 1)).alloc (.cells #[.int .i64 0, .int .i64 65535] 74 (0,0))) (m + 1 + 9 + 9)):=Lib.hid ((HG5.out.setCell ⟨R,3,none⟩ _ (show w.heap.size ≤ R by omega) (show b < R by omega)).alloc _)
 have HK7 : Hid (KeepT [71] w5 ((w5.setCell ⟨R,3,none⟩ (.slice (some ⟨w5.heap.size,0,none⟩) 1 1)).alloc (.cells #[.int .i64 0, .int .i64 65535] 74 (0,0)))):=Lib.hid ((KeepT.of_set HR5.out (by simp)).alloc _)
 have HT17:=Lib.hid (HT15.out.keep HK7.out (by decide))
 have HT27:=Lib.hid (HT25.out.keep HK7.out (by decide))
 have hbA : b < w5.heap.size:=by omega
 generalize ((w5.setCell ⟨R,3,none⟩ (.slice (some ⟨w5.heap.size,0,none⟩) 1 1)).alloc (.cells #[.int .i64 0, .int .i64 65535] 74 (0,0))) = w7 at *
 generalize w5.heap.size = A5 at *
 clear HR5 HX5 HZ5 HG5 HK7 HT15 HT25 f6 r3 HA6 HR6
 have hx:=HX4.out
 have HS1 : Hid (L1.length = n1 ∧ n1 ≤ 4):=Lib.hid ⟨HN.out.1,by have:=HL1.out.1;rw [HN.out.1] at this;exact this⟩
 have HS2 : Hid (L2.length = n2 ∧ n2 ≤ 4):=Lib.hid ⟨HN.out.2,by have:=HL2.out.1;rw [HN.out.2] at this;exact this⟩
 have HKL1:=Lib.hid HL1.out.2
 have HKL2:=Lib.hid HL2.out.2
 clear HX4 HN HL1 HL2
 have r0:=HR7.out.cell 0
 simp at r0
 rcases hx with h | h | h | h
 rotate_right
 ·go_upto_region 12 with fail
  have HF9 : Hid (FlcT w7 ⟨x,L1,L2, [(0,65535)]⟩ (x,(a1,n1,c1),(a2,n2,c2),(some ⟨A5,0,none⟩,1,1))):=Lib.hid ⟨rfl,HT17.out,HT27.out,⟨RdK.blk layPo (x:=(0,65535)) HA7.out rfl,fun a ha => by
   injection ha with ha
   subst ha
   exact ⟨_,_,HA7.out⟩⟩,HS1.out.1,HS2.out.1,rfl,by have:=HS1.out.2;simp;omega,by have:=HS2.out.2;simp;omega,by simp⟩
  have HSm : Hid (FR.Sm ⟨x,L1,L2, [(0,65535)]⟩):=Lib.hid ⟨⟨HKL1.out,HKL2.out⟩,by have:=HS1.out;show L1.length ≤ 30;omega,by have:=HS2.out;show L2.length ≤ 30;omega,by simp⟩
  have HR9:=HR7
  have HZ9:=HZ7
  have HG9:=Lib.hid (HG7.out.mono (show m + 1 + 9 + 9 ≤ m + 30 by omega))
  clear h HR7 HZ7 HG7 HT17 HT27 HA7 HX7 HS1 HS2 HKL1 HKL2 r0
  have z0:=HZ9.out.cell 0
  have z1:=HZ9.out.cell 1
  have z2:=HZ9.out.cell 2
  have z3:=HZ9.out.cell 3
  have zf:=HZ9.out.free
  have y0:=HR9.out.cell 0
  have y1:=HR9.out.cell 1
  have y2:=HR9.out.cell 2
  have y3:=HR9.out.cell 3
  simp at z0 z1 z2 z3 y0 y1 y2 y3
  go_wp2_with fail
  refine bodyPost_ret (v:=.agg (fcC (x,(a1,n1,c1),(a2,n2,c2),(some ⟨A5,0,none⟩,1,1))).toArray) (by simp [results,Tryz.results65,go_sem,z0,z1,z2,z3,fcC]) rfl ⟨⟨x,L1,L2, [(0,65535)]⟩,(x,(a1,n1,c1),(a2,n2,c2),(some ⟨A5,0,none⟩,1,1)),rfl,?_,HSm.out,?_⟩
  ·have hk:=KeepT.set4 (S:=[71]) HZ9.out (by simp) (.int .i64 x) (.slice a1 n1 c1) (.slice a2 n2 c2) (.slice (some ⟨A5,0,none⟩) 1 1)
   exact HF9.out.keep hk (by decide) (by decide)
  ·repeat refine Gen.setCell ?_ _ _ (Nat.le_succ _) (Nat.lt_succ_of_lt hblt)
   exact HG9.out
 all_goals
  go_upto_region 6 with fail
  clear h r0 HA7
  have x0:=HX7.out.cell 0
  simp at x0
  go_wp2_with fail
  refine (pick_new b (m + 1 + 9 + 9) _ _ _ _ [1,1,2] _ HG7.out.s rfl (by omega) rfl (by decide) rfl).mono ?_
  rintro e w8 ⟨y,rfl,hy,hg⟩
  have hyb : 0 ≤ y ∧ y ≤ 2:=by simp at hy;omega
  obtain ⟨K,rfl⟩:=Int.eq_ofNat_of_zero_le hyb.1
  have hK : K ≤ 2:=by omega
  have HG8 : Hid (Gen b w w8 (m + 1 + 9 + 9 + 1)):=Lib.hid (HG7.out.trans hg)
  have HX8:=Lib.hid (HX7.out.keep hg.g hxb)
  have HZ8:=Lib.hid (HZ7.out.keep hg.g (by omega))
  have HR8:=Lib.hid (HR7.out.keep hg.g (by omega))
  have HK8 : Hid (KeepT [25,74] w7 w8):=Lib.hid ((KeepT.of_gen HG7.out.s hg).mono (by simp))
  have hw8 : w.heap.size + 1 < w8.heap.size:=HZ8.out.lt
  clear hy hyb hg HG7 HX7 HZ7 HR7 x0
  go_wp2_with fail
  go_loopw [5,36] (fun out i wr => ∃ (j : Nat) (M : List (Nat × Nat)),j ≤ K ∧ i = .int .i64 (j : Int) ∧ Hid (OwnP wr w8.heap.size out (PI M)) ∧ Hid (M.length = j) ∧ Hid (∀ p ∈ M,p.1 ≤ p.2 ∧ p.2 < 65536) ∧ Hid (Gen b w8 wr (m + 1 + 9 + 9 + 1 + 3 * j)) ∧ Hid (KeepT [25,74] w8 wr)) (fun _ i _ => K - (intOf i).toNat)
  case atStart => exact ⟨0, [],Nat.zero_le _,rfl,Lib.hid (OwnP.nil _ _),Lib.hid rfl,Lib.hid (by simp),Lib.hid (Gen.start HG8.out.s),Lib.hid (KeepT.refl _ _)⟩
  case round =>
   obtain ⟨j,M,hj,rfl,HO,HL,HK,HG,HKT⟩:=hrel
   by_cases hlt : j < K
   ·have x0:=(HX8.out.keep HG.out.g hxb).cell 0
    simp at x0
    go_wp2_with fail
    refine (portRange_ok b (m + 1 + 9 + 9 + 1 + 3 * j) _ HG.out.s (by omega)).mono ?_
    rintro e w2' ⟨f,t,rfl,hf,ht,hg⟩
    obtain ⟨f',rfl⟩:=Int.eq_ofNat_of_zero_le hf.1
    obtain ⟨t',rfl⟩:=Int.eq_ofNat_of_zero_le ht.1
    have hbw8:=HG8.out.s.lt
    have HO2 : Hid (OwnP w2' w8.heap.size u5 (PI M)):=Lib.hid (HO.out.gen hg hbw8)
    have HG2 : Hid (Gen b w8 w2' (m + 1 + 9 + 9 + 1 + 3 * (j + 1))):=Lib.hid ((HG.out.trans hg).mono (by omega))
    have HKT2 : Hid (KeepT [25,74] w8 w2'):=Lib.hid (HKT.out.trans ((KeepT.of_gen HG.out.s hg).mono (by simp)))
    have HK2 : Hid (∀ p ∈ M ++ [(f',t')],p.1 ≤ p.2 ∧ p.2 < 65536):=Lib.hid (fun p hp => by
     rcases List.mem_append.1 hp with hp | hp
     ·exact HK.out p hp
     ·rw [List.mem_singleton.1 hp];exact ⟨by have:=hf.2;omega,by have:=ht.2;omega⟩)
    have HPl : Hid ((PI M).length = j):=Lib.hid (by rw [PI_len];exact HL.out)
    clear hf ht hg HO HG HKT HK x0
    go_wp2_with (at_builtin;refine wpList_app portE rfl (.tmp 38) (.tmp 41) rfl rfl (World.ownsRow.alloc HO2.out _) rfl (src_two_new w2' (.int .i64 (f' : Int)) (.int .i64 (t' : Int)) _) ?d1 ?d2 ?d3 ?d4 ?_)
    case d1 => intro u hu;simp at hu;rcases hu with rfl | rfl <;> rfl
    case d2 => have:=HPl.out;unfold maxLen;omega
    case d3 => have:=HPl.out;omega
    case d4 => have:=HG2.out.g.size;simp;omega
    intro v' w' hO hG
    have HO' : Hid (OwnP w' w8.heap.size v' (PI (M ++ [(f',t')]))):=Lib.hid (by rw [PI_append];exact OwnP.snoc hO)
    have HG' : Hid (Gen b w8 w' (m + 1 + 9 + 9 + 1 + 3 * (j + 1))):=Lib.hid (HG2.out.below (hG.allocFirst.below HG2.out.g.size (own_base HO2.out)) (Nat.le_refl _) hbw8)
    have HKT' : Hid (KeepT [25,74] w8 w'):=Lib.hid (HKT2.out.trans (KeepT.of_grew (E:=layPo) (ownP_K HO2.out) hG.allocFirst (by simp [layPo])))
    clear hO hG HO2 HG2 HKT2
    go_wp2
    exact ⟨⟨j + 1,M ++ [(f',t')],by omega,by go_num,HO',Lib.hid (by rw [List.length_append,HL.out];rfl),HK2,HG',HKT'⟩,by simp [intOf];omega⟩
   ·obtain rfl : j = K:=by omega
    obtain ⟨a6,c6,rfl, -⟩:=HO.out.form
    have hbw8:=HG8.out.s.lt
    have HLe:=Lib.hid (leastPortsOf_any a6 M.length c6 M wr (HO.out.rd (by rw [PI_len,HL.out];omega)) rfl HK.out)
    have HSc : Hid ((PI (scan (inRow M) 65536)).length ≤ 2):=Lib.hid (by rw [PI_len];have:=scan_short HK.out;rw [HL.out] at this;omega)
    have HPl : Hid ((PI M).length = M.length):=Lib.hid (PI_len M)
    rw [HPl.out]
    have HG8':=HG8
    have HR5 : Hid (Blk wr R 71 #[.int .i64 x, .slice a1 n1 c1, .slice a2 n2 c2, .slice (some ⟨A5,0,none⟩) 1 1]):=Lib.hid (HR8.out.keep HG.out.g (by omega))
    have HZ5 : Hid (Blk wr (w.heap.size + 1) 71 #[.int .i64 0, .slice none 0 0, .slice none 0 0, .slice none 0 0]):=Lib.hid (HZ8.out.keep HG.out.g (by omega))
    have HGr : Hid (Gen b w wr (m + 29)):=Lib.hid ((HG8.out.trans HG.out).mono (by omega))
    have HKr : Hid (KeepT [25,74] w7 wr):=Lib.hid (HK8.out.trans HKT.out)
    generalize PI (scan (inRow M) 65536) = P3 at *
    clear HO HL HK HG HKT HG8 HG8' HX8 HZ8 HR8 HK8
    generalize M.length = ml at *
    go_wp2_with fail
    refine HLe.out.mono ?_
    rintro e w10 ⟨v,rfl,hO,hb⟩
    have hO:=ownP_K hO
    obtain ⟨a7,c7,rfl, -⟩:=hO.form
    have HP3:=Lib.hid hO.rdT
    have hwr:=HZ5.out.lt
    have HR10:=Lib.hid (HR5.out.below hb HR5.out.lt)
    have HZ10:=Lib.hid (HZ5.out.below hb HZ5.out.lt)
    have HG10 : Hid (Gen b w w10 (m + 29)):=Lib.hid (HGr.out.below0 hb HGr.out.s.lt)
    have HK10 : Hid (KeepT [25,74] w7 w10):=Lib.hid (HKr.out.trans (KeepT.of_below hb))
    clear hO hb HLe HR5 HZ5 HGr HKr
    obtain ⟨n7,hn7⟩ : ∃ n,P3.length = n:=⟨_,rfl⟩
    have HN7:=Lib.hid hn7
    rw [hn7]
    clear hn7
    have s3:=HR10.out.cell 3
    have sf:=HR10.out.free
    simp at s3
    go_upto_region 12 with fail
    have HR9 : Hid (Blk (w10.setCell ⟨R,3,none⟩ (.slice a7 n7 c7)) R 71 #[.int .i64 x, .slice a1 n1 c1, .slice a2 n2 c2, .slice a7 n7 c7]):=Lib.hid (HR10.out.set 3 _)
    have HZ9 : Hid (Blk (w10.setCell ⟨R,3,none⟩ (.slice a7 n7 c7)) (w.heap.size + 1) 71 #[.int .i64 0, .slice none 0 0, .slice none 0 0, .slice none 0 0]):=Lib.hid (HZ10.out.far (by omega) 3 _)
    have HG9 : Hid (Gen b w (w10.setCell ⟨R,3,none⟩ (.slice a7 n7 c7)) (m + 30)):=Lib.hid ((HG10.out.setCell ⟨R,3,none⟩ _ (show w.heap.size ≤ R by omega) (show b < R by omega)).mono (by omega))
    have hKf : KeepT [71] w10 (w10.setCell ⟨R,3,none⟩ (.slice a7 n7 c7)):=KeepT.of_set HR10.out (by simp)
    have hK9 : KeepT [25,74,71] w7 (w10.setCell ⟨R,3,none⟩ (.slice a7 n7 c7)):=(HK10.out.mono (by simp)).trans (hKf.mono (by simp))
    have HF9 : Hid (FlcT (w10.setCell ⟨R,3,none⟩ (.slice a7 n7 c7)) ⟨x,L1,L2,P3⟩ (x,(a1,n1,c1),(a2,n2,c2),(a7,n7,c7))):=Lib.hid ⟨rfl,HT17.out.keep hK9 (by decide),HT27.out.keep hK9 (by decide),HP3.out.keep hKf (by decide),HS1.out.1,HS2.out.1,HN7.out,by have:=HS1.out.2;simp;omega,by have:=HS2.out.2;simp;omega,by have:=HSc.out;rw [HN7.out] at this;simp;omega⟩
    have HSm : Hid (FR.Sm ⟨x,L1,L2,P3⟩):=Lib.hid ⟨⟨HKL1.out,HKL2.out⟩,by have:=HS1.out;show L1.length ≤ 30;omega,by have:=HS2.out;show L2.length ≤ 30;omega,by have:=HSc.out;show P3.length ≤ 30;omega⟩
    generalize w10.setCell ⟨R,3,none⟩ (.slice a7 n7 c7) = w11 at *
    clear hKf hK9 HK10 HP3 HR10 HZ10 HG10 HT17 HT27 HS1 HS2 HKL1 HKL2 HN7 HSc s3 sf
    have z0:=HZ9.out.cell 0
    have z1:=HZ9.out.cell 1
    have z2:=HZ9.out.cell 2
    have z3:=HZ9.out.cell 3
    have zf:=HZ9.out.free
    have y0:=HR9.out.cell 0
    have y1:=HR9.out.cell 1
    have y2:=HR9.out.cell 2
    have y3:=HR9.out.cell 3
    simp at z0 z1 z2 z3 y0 y1 y2 y3
    go_wp2_with fail
    refine bodyPost_ret (v:=.agg (fcC (x,(a1,n1,c1),(a2,n2,c2),(a7,n7,c7))).toArray) (by simp [results,Tryz.results65,go_sem,z0,z1,z2,z3,fcC]) rfl ⟨⟨x,L1,L2,P3⟩,(x,(a1,n1,c1),(a2,n2,c2),(a7,n7,c7)),rfl,?_,HSm.out,?_⟩
    ·have hk:=KeepT.set4 (S:=[71]) HZ9.out (by simp) (.int .i64 x) (.slice a1 n1 c1) (.slice a2 n2 c2) (.slice (a7) n7 c7)
     exact HF9.out.keep hk (by decide) (by decide)
    ·repeat refine Gen.setCell ?_ _ _ (Nat.le_succ _) (Nat.lt_succ_of_lt hblt)
     exact HG9.out
end Go.Proofs.YthebgfnaomgcnaaGreat
