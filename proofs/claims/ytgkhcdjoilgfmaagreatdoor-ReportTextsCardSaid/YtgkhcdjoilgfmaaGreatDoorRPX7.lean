/-
  Rows of structs, whatever their element: how they lie, what a call owns of them, how they are read.
  What stays when blocks of some types alone change: rows that can be read, of a type that is not among them.
  What stays while the stream moves on, and while cells of a block are set.
  The reference's order of addresses; the count of draws never goes down.
  Flows: view.FlowFault and the reference's FlowFault are the same function; Back and BackOf.
  The sum of bytes: filter.Sum and the reference's CheckSumOf are the same function of the bytes.
  The last of the law's marks: filtered is true.
  Generators of flows and times: contracts of Flow, Times.
-/
import Derived.Test.YtgkhcdjoilgfmaaGreatDoorRPX6
import Derived.Test.YtgkhcdjoilgfmaaGreatDoorRPX3
import Derived.Sort.Grow
import Derived.Test.YtgkhcdjoilgfmaaGreatDoorRPX1
import Derived.Test.YtgkhcdjoilgfmaaGreatDoorRPX2
set_option linter.unusedVariables false
set_option maxRecDepth 100000
set_option maxHeartbeats 2000000
namespace Go.Proofs.YtgkhcdjoilgfmaaGreatDoor
open Go.RowKit Go
structure Lay (α:Type) where
 enc:α→List Value
 K:Nat
 ty:TypeId
 pos:0 < K
 len:∀ x,(enc x).length=K
 one:∀ x, ∀ v ∈ enc x,v.oneCell'=true
section
variable {α:Type} {E:Lay α}
def Lay.all (E:Lay α) (L:List α):List Value:=L.flatMap E.enc
theorem Lay.all_len (E:Lay α):∀ L:List α,(E.all L).length=L.length * E.K
 | [] => by simp [Lay.all]
 | x :: L => by
   have:=E.all_len L
   simp only [Lay.all,List.flatMap_cons,List.length_append,E.len,List.length_cons] at this ⊢
   rw [Nat.add_mul,this];omega
theorem Lay.all_append (E:Lay α) (A B:List α):E.all (A ++ B)=E.all A ++ E.all B:=by simp [Lay.all]
theorem Lay.all_get (E:Lay α):∀ (L:List α) (i j:Nat) (x:α),L[i]?=some x→j < E.K→(E.all L)[i * E.K + j]?=(E.enc x)[j]?
 | [],i,j,x,h,_ => by simp at h
 | y :: L,0,j,x,h,hj => by
   simp at h
   subst h
   rw [Nat.zero_mul,Nat.zero_add]
   show ((E.enc y) ++ E.all L)[j]?=_
   rw [List.getElem?_append_left (by rw [E.len];exact hj)]
 | y :: L,i + 1,j,x,h,hj => by
   have:=E.all_get L i j x (by simpa using h) hj
   show ((E.enc y) ++ E.all L)[(i + 1) * E.K + j]?=_
   rw [List.getElem?_append_right (by rw [E.len,Nat.add_mul];omega),E.len,show (i + 1) * E.K + j - E.K=i * E.K + j by rw [Nat.add_mul];omega]
   exact this
theorem Lay.all_cut (E:Lay α) (L:List α) (t:Nat) (h:t < L.length * E.K):∃ x,L[t / E.K]?=some x∧(E.all L)[t]?=(E.enc x)[t % E.K]?:=by
 have hi:t / E.K < L.length:=(Nat.div_lt_iff_lt_mul E.pos).2 h
 refine ⟨L[t / E.K],List.getElem?_eq_getElem hi,?_⟩
 have:=E.all_get L (t / E.K) (t % E.K) _ (List.getElem?_eq_getElem hi) (Nat.mod_lt _ E.pos)
 rwa [show t / E.K * E.K + t % E.K=t by rw [Nat.mul_comm];exact Nat.div_add_mod t E.K] at this
def OwnK (E:Lay α) (w:World) (base:Nat) (v:Value) (L:List α):Prop:=w.ownsRow base E.ty E.K v L.length (E.all L)
def RdK (E:Lay α) (w:World) (ad:Option Addr) (L:List α):Prop :=
 ∀ (i:Nat) x,L[i]?=some x→∃ g o,ad=some ⟨g,o,none⟩∧g < w.heap.size∧∀ j v,(E.enc x)[j]?=some v→w.cell? ⟨g,o + (i * E.K + j),none⟩=some v
theorem RdK.below {w w':World} {ad:Option Addr} {L:List α} (h:RdK E w ad L) (hb:Below w.heap.size w w'):RdK E w' ad L:=fun i x hx => by
 obtain ⟨g,o,e,hg,hc⟩:=h i x hx
 exact ⟨g,o,e,Nat.lt_of_lt_of_le hg hb.size,fun j v hv => (hb.cell (p:=⟨g,o + (i * E.K + j),none⟩) hg).trans (hc j v hv)⟩
theorem OwnK.nil (E:Lay α) (w:World) (base:Nat):OwnK E w base (.slice none 0 0) []:=World.ownsRow_nil w base _ _
theorem OwnK.weak {w:World} {base base':Nat} {v:Value} {L:List α} (h:OwnK E w base v L) (hb:base'≤base):OwnK E w base' v L:=own_weak h hb
theorem OwnK.later {w w':World} {base:Nat} {v:Value} {L:List α} (h:OwnK E w base v L) (hb:Below w.heap.size w w'):OwnK E w' base v L:=own_later h hb
theorem OwnK.alloc {w:World} {base:Nat} {v:Value} {L:List α} (h:OwnK E w base v L) (o:Obj):OwnK E (w.alloc o) base v L:=h.later (below_alloc (Below.refl _ _) _)
theorem OwnK.gen {w w':World} {b B m:Nat} {v:Value} {L:List α} (h:OwnK E w B v L) (hg:Gen b w w' m) (hb:b < B):OwnK E w' B v L :=
 World.ownsRow.kept h hg.g (by
  cases hv:v.ownBlock with
  | none => exact .inl rfl
  | some k => exact .inr (by have:=own_base h k hv;simp;omega))
theorem OwnK.snoc {w:World} {B:Nat} {v:Value} {L:List α} {x:α} (h:w.ownsRow B E.ty E.K v (L.length + 1) (E.all L ++ E.enc x)):OwnK E w B v (L ++ [x]):=by
 show w.ownsRow _ _ _ _ _ _
 rw [List.length_append,E.all_append]
 simpa [Lay.all] using h
theorem OwnK.app {w:World} {B:Nat} {v:Value} {L M:List α} (h:w.ownsRow B E.ty E.K v (L.length + M.length) (E.all L ++ E.all M)):OwnK E w B v (L ++ M):=by
 show w.ownsRow _ _ _ _ _ _
 rw [List.length_append,E.all_append]
 exact h
theorem OwnK.form {w:World} {B:Nat} {v:Value} {L:List α} (h:OwnK E w B v L):∃ ad c,v=.slice ad L.length c∧Src w ad L.length E.K (E.all L)∧L.length≤c∧c≤maxLen:=own_form h
theorem OwnK.one {w:World} {B:Nat} {v:Value} {L:List α} (h:OwnK E w B v L) (hl:1≤L.length) :
  ∃ g c,v=.slice (some ⟨g,0,none⟩) L.length c∧B≤g∧g < w.heap.size∧L.length≤c∧c≤maxLen:=by
 rcases h.2 with ⟨rfl,h0⟩ | ⟨g,cap,cur,rfl,hb,hg,hc,hm,hs,ht⟩
 ·omega
 ·exact ⟨g,cap,rfl,hb,lt_of_block hg,hc,hm⟩
theorem OwnK.block {w:World} {B g n c:Nat} {L:List α} (h:OwnK E w B (.slice (some ⟨g,0,none⟩) n c) L):n=L.length∧B≤g∧n≤c∧c≤maxLen∧∃ cur,w.heap[g]?=some (.cells cur E.ty (0,0))∧cur.size=c * E.K∧cur.toList.take (L.length * E.K)=E.all L:=by
 rcases h.2 with ⟨hv,_⟩ | ⟨g2,c2,cur,hv,hb,hg,hc,hm,hs,ht⟩
 ·cases hv
 ·simp at hv
  obtain ⟨rfl,rfl,rfl⟩:=hv
  exact ⟨rfl,hb,hc,hm,cur,hg,hs,ht⟩
theorem OwnK.frozen {w:World} {B g c n:Nat} {L:List α} (h:OwnK E w B (.slice (some ⟨g,0,none⟩) n c) L) (i:Nat):w.frozen? ⟨g,i,none⟩=false:=by
 obtain ⟨_,_,_,_,cur,hg,_⟩:=h.block
 exact frozen_of_row w g i cur _ hg
theorem OwnK.get {w:World} {B g c n:Nat} {L:List α} (h:OwnK E w B (.slice (some ⟨g,0,none⟩) n c) L) {i j:Nat} {x:α} {v:Value} (hi:L[i]?=some x) (hv:(E.enc x)[j]?=some v) :
  w.cell? ⟨g,i * E.K + j,none⟩=some v:=by
 obtain ⟨_,_,_,_,cur,hg,hs,ht⟩:=h.block
 have hj:j < E.K:=by rw [← E.len x];exact (List.getElem?_eq_some_iff.1 hv).1
 have h0:=E.all_get L i j x hi hj
 have hil:=(List.getElem?_eq_some_iff.1 hi).1
 have hlt:i * E.K + j < L.length * E.K:=by
  have:=Nat.mul_le_mul_right E.K (Nat.succ_le_of_lt hil)
  rw [Nat.succ_eq_add_one,Nat.add_mul,Nat.one_mul] at this
  omega
 rw [cell_of_row w g _ _ _ _ hg]
 rw [← ht,List.getElem?_take,if_pos hlt,Array.getElem?_toList] at h0
 rw [h0,hv]
theorem OwnK.rd {w:World} {B n c:Nat} {ad:Option Addr} {L:List α} (h:OwnK E w B (.slice ad n c) L):RdK E w ad L:=fun i x hx => by
 have hi:=(List.getElem?_eq_some_iff.1 hx).1
 obtain ⟨g,c',hv,_,hg,_⟩:=h.one (by omega)
 simp at hv
 obtain ⟨rfl,rfl,rfl⟩:=hv
 exact ⟨g,0,rfl,hg,fun j v hv => by rw [Nat.zero_add];exact h.get hx hv⟩
theorem src_new (E:Lay α) (w:World) (x:α) (cs:Array Value) (t:TypeId) (h:cs=(E.enc x).toArray):Src (w.alloc (.cells cs t)) (some ⟨w.heap.size,0,none⟩) 1 E.K (E.enc x):=by
 subst h
 refine ⟨by rw [E.len,Nat.one_mul],fun j u hu => ⟨_,rfl,by simp,?_⟩⟩
 have hadd:(⟨w.heap.size,0,none⟩:Addr).add j=⟨w.heap.size,j,none⟩:=by unfold Addr.add;split <;> simp_all
 rw [hadd,cell_of_row _ w.heap.size j _ _ _ (heap_alloc_new w _)]
 simpa using hu
theorem Lay.all_set (E:Lay α):∀ (L:List α) (i j:Nat) (x y:α) (v:Value),L[i]?=some x→j < E.K→E.enc y=(E.enc x).set j v→(E.all L).set (i * E.K + j) v=E.all (L.set i y)
 | [],i,j,x,y,v,h,_,_ => by simp at h
 | z :: L,0,j,x,y,v,h,hj,hy => by
   simp at h
   subst h
   rw [Nat.zero_mul,Nat.zero_add]
   show ((E.enc z) ++ E.all L).set j v=_
   rw [List.set_append_left _ _ (by rw [E.len];exact hj), ← hy]
   rfl
 | z :: L,i + 1,j,x,y,v,h,hj,hy => by
   have:=E.all_set L i j x y v (by simpa using h) hj hy
   show ((E.enc z) ++ E.all L).set ((i + 1) * E.K + j) v=_
   rw [List.set_append_right _ _ (by rw [E.len,Nat.add_mul];omega),E.len,show (i + 1) * E.K + j - E.K=i * E.K + j by rw [Nat.add_mul];omega,this]
   rfl
theorem OwnK.setTo {w:World} {B g c n:Nat} {L:List α} (h:OwnK E w B (.slice (some ⟨g,0,none⟩) n c) L) {i j:Nat} {x y:α} {v:Value} (hx:L[i]?=some x) (hj:j < E.K) (hy:E.enc y=(E.enc x).set j v) :
  OwnK E (w.setCell ⟨g,i * E.K + j,none⟩ v) B (.slice (some ⟨g,0,none⟩) n c) (L.set i y):=by
 obtain ⟨rfl,hb,hc,hm,cur,hg,hs,ht⟩:=h.block
 refine ⟨by rw [E.all_len], .inr ⟨g,c,cur.setIfInBounds (i * E.K + j) v,by simp,hb,heap_setCell_same w g _ cur _ _ hg,by simpa using hc,hm,by simpa using hs,?_⟩⟩
 rw [Array.toList_setIfInBounds,List.take_set,List.length_set,ht,E.all_set _ _ _ _ _ _ hx hj hy]
end
section
variable {α:Type} {E:Lay α}
end
theorem RdInts.grown {w w':World} {b g o n:Nat} {zs:List Int} (h:RdInts w g o n zs) (hg:w.grownBy w' (some b)) (hne:g ≠ b):RdInts w' g o n zs :=
 ⟨h.1,Nat.lt_of_lt_of_le h.2.1 hg.size,fun i hi => (World.cell?_of_block (w:=w) (hg.block g h.2.1 (fun e => hne (Option.some.inj e)))).trans (h.2.2 i hi)⟩
theorem ofD_any (six:Bool) (hi lo:Nat) (w:World) (h1:hi < 18446744073709551616) (h2:lo < 18446744073709551616) :
  Calls Tryz.prog 83 #[vA six hi lo] w (RetD (.agg (wCells six hi lo)) w):=by
 have d0:wrap64 (bits .and .u64 (lo:Int) 65535)=(lo:Int) % 65536:=by rw [u64_and65535];unfold wrap64;omega
 have d7:wrap64 (bits .and .u64 (hi:Int) 65535)=(hi:Int) % 65536:=by rw [u64_and65535];unfold wrap64;omega
 have d1:=dig lo 65536 h2
 have d2:=dig lo 4294967296 h2
 have d3:=dig lo 281474976710656 h2
 have d4:=dig hi 65536 h1
 have d5:=dig hi 4294967296 h1
 have d6:=dig hi 281474976710656 h1
 have hwc:Hid (wCells six hi lo=#[.int .i64 ((lo % 65536:Nat):Int), .int .i64 ((lo / 65536 % 65536:Nat):Int), .int .i64 ((lo / 4294967296 % 65536:Nat):Int), .int .i64 ((lo / 281474976710656 % 65536:Nat):Int), .int .i64 ((hi % 65536:Nat):Int), .int .i64 ((hi / 65536 % 65536:Nat):Int), .int .i64 ((hi / 4294967296 % 65536:Nat):Int), .int .i64 ((hi / 281474976710656 % 65536:Nat):Int), .int .i64 (if six=true then 1 else 0)]):=Lib.hid rfl
 generalize (lo / 65536 % 65536:Nat)=r1 at *
 generalize (lo / 4294967296 % 65536:Nat)=r2 at *
 generalize (lo / 281474976710656 % 65536:Nat)=r3 at *
 generalize (hi / 65536 % 65536:Nat)=r4 at *
 generalize (hi / 4294967296 % 65536:Nat)=r5 at *
 generalize (hi / 281474976710656 % 65536:Nat)=r6 at *
 generalize wCells six hi lo=wc at *
 have HD:=Lib.hid (And.intro d0 (And.intro d1 (And.intro d2 (And.intro d3 (And.intro d7 (And.intro d4 (And.intro d5 d6)))))))
 clear d0 d1 d2 d3 d4 d5 d6 d7
 unfold vA
 go_enter Tryz.func83,Tryz.ntmps83
 go_wp2
 refine wp_loop_rounds 6 ?_
 rw [rounds_succ]
 go_wp2_with (rw [rounds_succ])
 all_goals
  refine bodyPost_ret (v:=.agg wc) (by rw [hwc.out];simp [results,Tryz.results83,go_sem, *];exact HD.out) rfl ⟨rfl,by repeat (first | exact BelD.refl _ | apply BelD.alloc | apply BelD.drewN | apply BelD.drew)⟩
theorem orderD_any (s1:Bool) (h1 l1:Nat) (s2:Bool) (h2 l2:Nat) (w:World) (a1:U64N h1) (a2:U64N l1) (a3:U64N h2) (a4:U64N l2) :
  Calls Tryz.prog 204 #[.agg #[.bool s1, .int .u64 (h1:Int), .int .u64 (l1:Int)], .agg #[.bool s2, .int .u64 (h2:Int), .int .u64 (l2:Int)]] w (RetD (.int .i64 (cN (numA s1 h1 l1) (numA s2 h2 l2))) w):=by
 have HP':Blk ((w.alloc (.cells #[.bool s1, .int .u64 (h1:Int), .int .u64 (l1:Int)] 28 (0,0))).alloc (.cells #[.bool s2, .int .u64 (h2:Int), .int .u64 (l2:Int)] 28 (0,0))) (w.heap.size) 28 #[.bool s1, .int .u64 (h1:Int), .int .u64 (l1:Int)] :=
  (Blk.new w 28 #[.bool s1, .int .u64 (h1:Int), .int .u64 (l1:Int)]).alloc _
 have HP:=Lib.hid HP'
 clear HP'
 have HQ':Blk ((w.alloc (.cells #[.bool s1, .int .u64 (h1:Int), .int .u64 (l1:Int)] 28 (0,0))).alloc (.cells #[.bool s2, .int .u64 (h2:Int), .int .u64 (l2:Int)] 28 (0,0))) (w.heap.size + 1) 28 #[.bool s2, .int .u64 (h2:Int), .int .u64 (l2:Int)]:=by
  have this:=Blk.new (w.alloc (.cells #[.bool s1, .int .u64 (h1:Int), .int .u64 (l1:Int)] 28 (0,0))) 28 #[.bool s2, .int .u64 (h2:Int), .int .u64 (l2:Int)]
  rw [World.size_alloc] at this
  exact this
 have HQ:=Lib.hid HQ'
 clear HQ'
 have HB:Hid (BelD w ((w.alloc (.cells #[.bool s1, .int .u64 (h1:Int), .int .u64 (l1:Int)] 28 (0,0))).alloc (.cells #[.bool s2, .int .u64 (h2:Int), .int .u64 (l2:Int)] 28 (0,0)))):=Lib.hid (((BelD.refl _).alloc _).alloc _)
 have HO1:=Lib.hid fun wx => ofD_any s1 h1 l1 wx a1 a2
 have HO2:=Lib.hid fun wx => ofD_any s2 h2 l2 wx a3 a4
 have HC:=Lib.hid fun wx => wideCmpD_any (dv s1 (dg h1 l1)) (dv s2 (dg h2 l2)) wx (dv_lt (dg_lt h1 l1)) (dv_lt (dg_lt h2 l2))
 rw [PW_numA _ _ _ a1 a2,PW_numA _ _ _ a3 a4] at HC
 simp only [← wv_wd] at HC
 rw [wCells_wv] at HO1 HO2
 unfold vA at HO1 HO2
 generalize cN (numA s1 h1 l1) (numA s2 h2 l2)=C at *
 generalize wv s1 (dg h1 l1)=V1 at *
 generalize wv s2 (dg h2 l2)=V2 at *
 go_enter Tryz.func204,Tryz.ntmps204
 go_upto_region 1 with fail
 generalize ((w.alloc (.cells #[.bool s1, .int .u64 (h1:Int), .int .u64 (l1:Int)] 28 (0,0))).alloc (.cells #[.bool s2, .int .u64 (h2:Int), .int .u64 (l2:Int)] 28 (0,0)))=w1 at *
 have p0:=HP.out.cell 0
 have p1:=HP.out.cell 1
 have p2:=HP.out.cell 2
 simp at p0 p1 p2
 have q0:=HQ.out.cell 0
 have q1:=HQ.out.cell 1
 have q2:=HQ.out.cell 2
 simp at q0 q1 q2
 have hsz:w.heap.size + 1 < w1.heap.size:=HQ.out.lt
 have k1:=fun (m:LaterD w1) => Later.cell (W:=w1) ⟨m.1,m.2.b⟩ (i:=0) (Nat.lt_of_succ_lt hsz)
 have k2:=fun (m:LaterD w1) => Later.cell (W:=w1) ⟨m.1,m.2.b⟩ (i:=1) (Nat.lt_of_succ_lt hsz)
 have k3:=fun (m:LaterD w1) => Later.cell (W:=w1) ⟨m.1,m.2.b⟩ (i:=2) (Nat.lt_of_succ_lt hsz)
 have k4:=fun (m:LaterD w1) => Later.cell (W:=w1) ⟨m.1,m.2.b⟩ (i:=0) hsz
 have k5:=fun (m:LaterD w1) => Later.cell (W:=w1) ⟨m.1,m.2.b⟩ (i:=1) hsz
 have k6:=fun (m:LaterD w1) => Later.cell (W:=w1) ⟨m.1,m.2.b⟩ (i:=2) hsz
 have hO1:=fun m:LaterD w1 => Calls.laterD m (HO1.out m.1)
 have hO2:=fun m:LaterD w1 => Calls.laterD m (HO2.out m.1)
 have hC:=fun m:LaterD w1 => Calls.laterD m (HC.out m.1)
 refine wp_region_laterD (by kernel_rfl) (by kernel_rfl) ?_
 repeat (go_big_quiet_step (fail))
 go_big_quiet_step ((go_at_call 83;exact hO1 _))
 repeat (go_big_quiet_step (fail))
 go_big_quiet_step ((go_at_call 83;exact hO2 _))
 repeat (go_big_quiet_step (fail))
 go_big_quiet_step ((go_at_call 185;exact hC _))
 repeat (go_big_quiet_step (fail))
 refine wpQuiet_nil ?_
 rintro w2 ⟨n2,hn2⟩
 have hb:BelD w1 w2:=by rw [hn2];exact n2.2
 clear hn2 n2 hO1 hO2 hC k1 k2 k3 k4 k5 k6
 have HB2:=Lib.hid (HB.out.trans hb)
 clear hb
 go_wp2_with fail
 go_ret
 exact ⟨rfl,HB2.out⟩
open Go.RowKit
def badPort (p n:Int):Bool:=outB n 0 65535 || (n != 0 && !hasPorts p)
theorem badPort_yes {p n:Int} (h:hasPorts p=true):badPort p n=outB n 0 65535:=by simp [badPort,h]
theorem badPort_no {p n:Int} (h:hasPorts p=false):badPort p n=outB n 0 0:=by
 simp only [badPort,h,outB,Bool.not_false,Bool.and_true]
 rw [Bool.eq_iff_iff]
 simp
 omega
def flowFault (f:FV):Int :=
 if outB f.p 1 255=true then 1
 else if aFault f.s1 f.h1 f.l1 ≠ 0 then aFault f.s1 f.h1 f.l1
 else if aFault f.s2 f.h2 f.l2 ≠ 0 then aFault f.s2 f.h2 f.l2
 else if f.s1 ≠ f.s2 then 10
 else if badPort f.p f.fp=true ∨ badPort f.p f.tp=true then 1 else 0
theorem idxA0 (s1:Bool) (h1 l1:Int) (s2:Bool) (h2 l2:Int) (w:World):(Instr.index 218 (.agg #[.bool s1, .int .u64 h1, .int .u64 l1, .bool s2, .int .u64 h2, .int .u64 l2]) (.int .i64 0)).run Tryz.prog w=.ok (.agg #[.bool s1, .int .u64 h1, .int .u64 l1]) w:=by kernel_rfl
theorem idxA1 (s1:Bool) (h1 l1:Int) (s2:Bool) (h2 l2:Int) (w:World):(Instr.index 218 (.agg #[.bool s1, .int .u64 h1, .int .u64 l1, .bool s2, .int .u64 h2, .int .u64 l2]) (.int .i64 1)).run Tryz.prog w=.ok (.agg #[.bool s2, .int .u64 h2, .int .u64 l2]) w:=by kernel_rfl
theorem idxI0 (x y:Int) (w:World):(Instr.index 219 (.agg #[.int .i64 x, .int .i64 y]) (.int .i64 0)).run Tryz.prog w=.ok (.int .i64 x) w:=by kernel_rfl
theorem idxI1 (x y:Int) (w:World):(Instr.index 219 (.agg #[.int .i64 x, .int .i64 y]) (.int .i64 1)).run Tryz.prog w=.ok (.int .i64 y) w:=by kernel_rfl
theorem vFlowFault_any (f:FV) (w:World) (h:f.ok):Calls Tryz.prog 154 #[.agg f.cells] w (Ret (.int .i64 (flowFault f)) w):=by
 obtain ⟨p,s1,h1,l1,s2,h2,l2,fp,tp⟩:=f
 obtain ⟨hp,b1,b2,b3,b4,hf,ht⟩:=h
 simp only [FV.cells]
 have i0:=idxA0
 have i1:=idxA1
 have j0:=idxI0
 have j1:=idxI1
 have HB:=Lib.hid (And.intro b1 (And.intro b2 (And.intro b3 b4)))
 clear b1 b2 b3 b4
 go_enter Tryz.func154,Tryz.ntmps154
 go_wp2_with (go_at_call 125;refine (outside_any _ _ _ _).mono ?_;rintro e w' ⟨rfl,rfl⟩)
 ·go_ret
  exact ⟨by simp [flowFault, *],(Below.refl _ _).alloc (Nat.le_refl _) _⟩
 ·refine wp_loop_rounds 3 ?_
  rw [rounds_succ]
  go_wp2_with (first | rw [rounds_succ] | (go_at_call 133;refine (checkAddr_any _ _ _ _ (by first | exact HB.out.1 | exact HB.out.2.2.1) (by first | exact HB.out.2.1 | exact HB.out.2.2.2)).mono ?_;rintro e w' ⟨rfl,o,rfl⟩))
  ·go_ret;exact ⟨by simp_all [flowFault],by repeat (first | exact Below.refl _ _ | apply below_alloc | apply below_drewN)⟩
  ·go_ret;exact ⟨by simp_all [flowFault],by repeat (first | exact Below.refl _ _ | apply below_alloc | apply below_drewN)⟩
  ·go_ret;exact ⟨by simp_all [flowFault],by repeat (first | exact Below.refl _ _ | apply below_alloc | apply below_drewN)⟩
  ·refine wp_loop_rounds 3 ?_
   rw [rounds_succ]
   go_wp2_with (first | rw [rounds_succ] | (go_at_call 125;refine (outside_any _ _ _ _).mono ?_;rintro e w' ⟨rfl,rfl⟩) | (go_at_call 207;refine (hasPorts_any _ _).mono ?_;rintro e w' ⟨rfl,rfl⟩))
   all_goals (go_ret;refine ⟨?_,by repeat (first | exact Below.refl _ _ | apply below_alloc | apply below_drewN)⟩)
   all_goals (clear i0 i1 j0 j1;simp_all [flowFault,badPort])
theorem qFlowFault_any (f:FV) (w:World) (h:f.ok):Calls Tryz.prog 102 #[.agg f.cells] w (Ret (.int .i64 (flowFault f)) w):=by
 obtain ⟨p,s1,h1,l1,s2,h2,l2,fp,tp⟩:=f
 obtain ⟨hp,b1,b2,b3,b4,hf,ht⟩:=h
 simp only [FV.cells]
 have HB:=Lib.hid (And.intro b1 (And.intro b2 (And.intro b3 b4)))
 clear b1 b2 b3 b4
 go_enter Tryz.func102,Tryz.ntmps102
 go_wp2_with (go_at_call 67;refine (in_any _ _ _ _).mono ?_;rintro e w' ⟨rfl,rfl⟩)
 ·go_ret
  exact ⟨by simp_all [flowFault,inB_out],by repeat (first | exact Below.refl _ _ | apply below_alloc | apply below_drewN)⟩
 ·refine wp_loop_rounds 3 ?_
  rw [rounds_succ]
  go_wp2_with (first | rw [rounds_succ] | (go_at_call 126;refine (addrFault_any _ _ _ _ (by first | exact HB.out.1 | exact HB.out.2.2.1) (by first | exact HB.out.2.1 | exact HB.out.2.2.2)).mono ?_;rintro e w' ⟨rfl,o,rfl⟩) | (go_at_call 67;refine (in_any _ _ _ _).mono ?_;rintro e w' ⟨rfl,rfl⟩))
  all_goals (go_ret;refine ⟨?_,by repeat (first | exact Below.refl _ _ | apply below_alloc | apply below_drewN)⟩)
  all_goals clear HB
  all_goals by_cases hP:hasPorts p=true
  all_goals first
   | (have hb:=fun n => badPort_yes (n:=n) hP;simp_all [flowFault,inB_out,hasPorts];done)
   | (have hb:=fun n => badPort_no (n:=n) (Bool.eq_false_iff.2 hP);simp_all [flowFault,inB_out,hasPorts];done)
theorem flow_gen (b m:Nat) (w:World) (h:Strm w b m) (hm:m + 20 < 1099511627776) :
  Calls Tryz.prog 95 #[.pointer (some ⟨b,0,none⟩)] w fun e w' => ∃ f:FV,e=.returned (.agg f.cells)∧f.ok∧Gen b w w' (m + 19):=by
 have hblt:=h.lt
 go_enter Tryz.func95,Tryz.ntmps95
 go_wp2_with fail
 refine (rightFlow_gen b m _ (h.alloc _) (by omega)).mono ?_
 rintro e w1 ⟨f,rfl,HO,hg⟩
 have HO:=Lib.hid HO
 have HA1:Hid (FBlk w1 w.heap.size FV.zero):=(Blk.new w _ _).keep hg.g (by omega)
 have HG1:=Lib.hid (((Gen.start h).alloc _).trans hg)
 clear hg
 unfold FV.cells
 go_wp2_with fail
 have hlt:w.heap.size < w1.heap.size:=Blk.lt HA1.out
 refine (flip_gen b (m + 11) _ _ (HG1.out.s.alloc _) (by omega) (by omega)).mono ?_
 rintro e w2 ⟨kk,rfl,hg⟩
 have HF2:Hid (FBlk w2 w1.heap.size f):=(Blk.new w1 _ _).keep hg.g (by have:=HG1.out.s.lt;omega)
 have HA2:Hid (FBlk w2 w.heap.size FV.zero):=(Blk.alloc HA1.out _).keep hg.g (by omega)
 have HG2:=Lib.hid ((HG1.out.alloc _).trans hg)
 clear hg HA1 HG1
 generalize w1.heap.size=F at *
 go_upto_if 7 with fail
 go_cut [] (fun wx => ∃ f:FV,FBlk wx F f∧f.ok∧FBlk wx w.heap.size FV.zero∧Gen b w wx (m + 19))
 case rest =>
  clear HF2 HA2 HG2 HO
  obtain ⟨f,HF,HO,HA,HG⟩:=hcut
  obtain ⟨c0,c1,c2,c3,c4,c5,c6,c7,c8,f0⟩:=FBlk.cells HF
  obtain ⟨d0,d1,d2,d3,d4,d5,d6,d7,d8,g0⟩:=FBlk.cells HA
  have HG:=Lib.hid HG
  have hne:w.heap.size ≠ F:=by omega
  clear HF HA hlt
  go_wp2_with fail
  refine bodyPost_ret (v:=.agg f.cells) (by simp [results,Tryz.results95,go_sem,d0,d1,d2,d3,d4,d5,d6,d7,d8,FV.cells]) rfl ⟨f,rfl,HO,?_⟩
  exact Gen.setB HG.out (Nat.le_refl _) hblt _ _ _ _ _ _ _ _ _ _ _ _ _ _ _ _ _ _
 case first =>
  go_wp2_with fail
  rotate_right
  ·go_meet
   case rel => exact ⟨f,HF2.out,HO.out,HA2.out,HG2.out.mono (by omega)⟩
  ·refine (next_gen b (m + 12) _ _ HG2.out.s (by omega) (by omega)).mono ?_
   rintro e w3 ⟨k3,rfl,⟨hk0,hk1⟩,hg⟩
   have HF3:=Lib.hid (HF2.out.keep hg.g (by have:=HG2.out.s.lt;omega))
   have HA3:=Lib.hid (HA2.out.keep hg.g (by omega))
   have HG3:=Lib.hid (HG2.out.trans hg)
   clear hg HF2 HA2 HG2
   go_wp2_with fail
   all_goals first
    | (refine (odd_gen b (m + 12 + 1) _ _ _ HG3.out.s (by omega) (by omega) (by omega)).mono ?_
       rintro e w4 ⟨k4,rfl,⟨hk40,hk41⟩,hg⟩
       have HF4:=HF3.out.keep hg.g (by omega)
       obtain ⟨c0, -, -, -, -, -, -,c7,c8,f0⟩:=FBlk.cells (f:=f) HF4
       have HF4:=Lib.hid HF4
       have HA4:=Lib.hid (HA3.out.keep hg.g (by omega))
       have HG4:=Lib.hid (HG3.out.trans hg)
       clear hg HF3 HA3 HG3
       go_wp2_with fail
       go_meet
       case rel =>
        refine ⟨_,by first | exact FBlk.setP (f:=f) HF4.out k4 | exact FBlk.setFp (f:=f) HF4.out k4 | exact FBlk.setTp (f:=f) HF4.out k4,?_,Blk.far HA4.out (by omega) _ _,Gen.setCell (HG4.out.mono (by omega)) ⟨F,_,none⟩ _ (Nat.le_of_lt hlt) (by simp only;omega)⟩
        have:=HO.out
        simp only [FV.ok,I41,U64] at this ⊢
        omega)
    | (refine (raw_gen b (m + 12 + 1) _ HG3.out.s (by omega)).mono ?_
       rintro e w4 ⟨six,hi,lo,rfl,⟨hu1,hu2⟩,hg⟩
       have HF4:=HF3.out.keep hg.g (by omega)
       obtain ⟨-,c1,c2,c3, -, -, -, -, -,f0⟩:=FBlk.cells (f:=f) HF4
       have HF4:=Lib.hid HF4
       have HA4:=Lib.hid (HA3.out.keep hg.g (by omega))
       have HG4:=Lib.hid (HG3.out.trans hg)
       clear hg HF3 HA3 HG3
       unfold vAddr
       go_wp2_with fail
       go_meet
       case rel =>
        refine ⟨_,FBlk.setFrom (f:=f) HF4.out six hi lo,?_,Blk.far (Blk.far (Blk.far HA4.out (by omega) 1 _) (by omega) 2 _) (by omega) 3 _,Gen.setCell (Gen.setCell (Gen.setCell (HG4.out.mono (by omega)) ⟨F,1,none⟩ _ (Nat.le_of_lt hlt) (by simp only;omega)) ⟨F,2,none⟩ _ (Nat.le_of_lt hlt) (by simp only;omega)) ⟨F,3,none⟩ _ (Nat.le_of_lt hlt) (by simp only;omega)⟩
        have:=HO.out
        simp only [FV.ok,I41,U64] at this hu1 hu2 ⊢
        omega)
end Go.Proofs.YtgkhcdjoilgfmaaGreatDoor
