/-
  Pack, plain: the order by bits, the leases laid anew one after another.
  Pack's means: the results as a pool, the region that makes a pool without leases.
  PackOf: the reference lays the leases of a pool anew.
  Pack: the program lays the leases of a pool anew.
  The law PoolsPick: walked.
-/
import Derived.Test.YteldaicgaeooiaaGreatDoorPK17
import Derived.Test.YteldaicgaeooiaaGreatDoorPK14
import Derived.Test.YteldaicgaeooiaaGreatDoorPK16
set_option linter.unusedVariables false
set_option maxRecDepth 100000
set_option maxHeartbeats 32000000
namespace Go.Proofs.YteldaicgaeooiaaGreatDoor
open Go Go.Sort Go.RowKit
section
variable {α:Type} [Inhabited α]
theorem mem_swpT {d:Array α} {i j:Nat} (hi:i < d.size) (hj:j < d.size) {x:α} (h:x ∈ swp d i j):x ∈ d:=by
 unfold swp at h
 rcases Array.mem_or_eq_of_mem_setIfInBounds h with h | h
 ·rcases Array.mem_or_eq_of_mem_setIfInBounds h with h | h
  ·exact h
  ·subst h
   rw [getElem!_pos d j hj]
   exact Array.getElem_mem hj
 ·subst h
  rw [getElem!_pos d i hi]
  exact Array.getElem_mem hi
theorem size_swpT (d:Array α) (i j:Nat):(swp d i j).size=d.size:=by simp [swp]
theorem insInner_both (l1 l2:α→α→Bool) (a:Nat):∀ (j:Nat) (d:Array α),j < d.size→(∀ x ∈ d, ∀ y ∈ d,l1 x y=l2 x y)→insInner l1 a j d=insInner l2 a j d∧∀ x ∈ insInner l1 a j d,x ∈ d
 | 0,d,_,_ => by
   rw [insInner,insInner]
   exact ⟨rfl,fun x h => h⟩
 | j + 1,d,hj,he => by
   rw [insInner,insInner]
   have h1:d[j + 1]! ∈ d:=by rw [getElem!_pos d (j + 1) hj];exact Array.getElem_mem hj
   have h2:d[j]! ∈ d:=by rw [getElem!_pos d j (by omega)];exact Array.getElem_mem (by omega)
   rw [he _ h1 _ h2]
   by_cases hc:(decide (j + 1 > a) && l2 d[j + 1]! d[j]!)=true
   ·rw [if_pos hc,if_pos hc]
    have hm:∀ x ∈ swp d (j + 1) j,x ∈ d:=fun x hx => mem_swpT hj (by omega) hx
    obtain ⟨h3,h4⟩:=insInner_both l1 l2 a j (swp d (j + 1) j) (by rw [size_swpT];omega) (fun x hx y hy => he x (hm x hx) y (hm y hy))
    exact ⟨h3,fun x hx => hm x (h4 x hx)⟩
   ·rw [if_neg hc,if_neg hc]
    exact ⟨rfl,fun x h => h⟩
theorem insOuter_both (l1 l2:α→α→Bool) (a b:Nat):∀ (n i:Nat) (d:Array α),b - i=n→b≤d.size→(∀ x ∈ d, ∀ y ∈ d,l1 x y=l2 x y)→insOuter l1 a b i d=insOuter l2 a b i d∧∀ x ∈ insOuter l1 a b i d,x ∈ d
 | 0,i,d,h,_,_ => by
   have e:∀ l:α→α→Bool,insOuter l a b i d=d:=fun l => by rw [insOuter,if_neg (by omega)]
   rw [e,e]
   exact ⟨rfl,fun x h => h⟩
 | n + 1,i,d,h,hb,he => by
   have e:∀ l:α→α→Bool,insOuter l a b i d=insOuter l a b (i + 1) (insInner l a i d):=fun l => by rw [insOuter,if_pos (by omega)]
   rw [e l1,e l2]
   obtain ⟨h1,h2⟩:=insInner_both l1 l2 a i d (by omega) he
   rw [← h1]
   obtain ⟨h3,h4⟩:=insOuter_both l1 l2 a b n (i + 1) (insInner l1 a i d) (by omega) (by rw [size_insInnerT];exact hb) (fun x hx y hy => he x (h2 x hx) y (h2 y hy))
   exact ⟨h3,fun x hx => h2 x (h4 x hx)⟩
end
theorem mem_stabLs {cf:Ls→Ls→Int} {L:List Ls} {x:Ls} (h:x ∈ stabLs cf L):x ∈ L:=by
 unfold stabLs at h
 have:=(insOuter_both (Go.Proofs.ltOf cf) (Go.Proofs.ltOf cf) 0 L.length _ 1 L.toArray rfl (Nat.le_refl _) (fun _ _ _ _ => rfl)).2 x (Array.mem_toList_iff.1 h)
 exact List.mem_toArray.1 this
theorem stabLs_congr {c1 c2:Ls→Ls→Int} {L:List Ls} (h:∀ x ∈ L, ∀ y ∈ L,Go.Proofs.ltOf c1 x y=Go.Proofs.ltOf c2 x y):stabLs c1 L=stabLs c2 L:=by
 unfold stabLs
 exact congrArg _ (insOuter_both (Go.Proofs.ltOf c1) (Go.Proofs.ltOf c2) 0 L.length _ 1 L.toArray rfl (Nat.le_refl _) (fun x hx y hy => h x (List.mem_toArray.1 hx) y (List.mem_toArray.1 hy))).1
def cfBt (x y:Ls):Int:=Lib.compareInt x.2.2.2.2 y.2.2.2.2
def cfBq (x y:Ls):Int:=sgn (IntKind.i64.wrap (x.2.2.2.2 - y.2.2.2.2))
theorem stab_same {L:List Ls} (h:∀ x ∈ L,0≤x.2.2.2.2∧x.2.2.2.2≤128):stabLs cfBq L=stabLs cfBt L:=stabLs_congr fun x hx y hy => by
 have h1:=h x hx
 have h2:=h y hy
 have e:cfBq x y=cfBt x y:=by
  unfold cfBq cfBt
  rw [IntKind.wrap_i64]
  generalize x.2.2.2.2=a at *
  generalize y.2.2.2.2=b at *
  unfold sgn Lib.compareInt
  have e:(a - b + 9223372036854775808) % 18446744073709551616 - 9223372036854775808=a - b:=by omega
  first
   | rw [e]
   | skip
  by_cases c1:a < b
  ·rw [if_pos (by omega),if_pos c1]
  ·rw [if_neg (by omega),if_neg c1]
   by_cases c2:b < a
   ·rw [if_pos (by omega),if_pos c2]
   ·rw [if_neg (by omega),if_neg (by omega)]
 unfold Go.Proofs.ltOf
 rw [e]
def packC (M:List Ls) (x:Ls) (ch:Option Pf):Option (List Ls) :=
 match ch with
 | none => none
 | some f => some (leasedL M x.1 (atP (some f) x.2.2.2.2))
def packS (P:Pf) (K:List Pf) (o:Option (List Ls)) (x:Ls):Option (List Ls) :=
 match o with
 | none => none
 | some M => packC M x (chP false x.2.2.2.2 (freeL P K M))
theorem packS_some {P:Pf} {K:List Pf} {M:List Ls} {x:Ls} {ch:Option Pf} (h:chP false x.2.2.2.2 (freeL P K M)=ch):packS P K (some M) x=packC M x ch:=by
 rw [← h]
 rfl
def packL (P:Pf) (K:List Pf) (S:List Ls):Option (List Ls):=S.foldl (packS P K) (some [])
theorem packL_snoc (P:Pf) (K:List Pf) (S:List Ls) (x:Ls):packL P K (S ++ [x])=packS P K (packL P K S) x:=by
 unfold packL
 rw [List.foldl_append]
 rfl
theorem packL_take {P:Pf} {K:List Pf} {S:List Ls} {k:Nat} {x:Ls} (h:S[k]?=some x):packL P K (S.take (k + 1))=packS P K (packL P K (S.take k)) x:=by
 rw [List.take_add_one,h]
 exact packL_snoc _ _ _ _
theorem packL_none {P:Pf} {K:List Pf} {S:List Ls} {k:Nat} (h:packL P K (S.take k)=none):packL P K S=none:=by
 have e:S=S.take k ++ S.drop k:=(List.take_append_drop k S).symm
 rw [e]
 unfold packL at h ⊢
 rw [List.foldl_append,h]
 generalize S.drop k=T
 induction T with
 | nil => rfl
 | cons y T ih => exact ih
theorem chP_mem {n:Int} {F:List Pf} {f:Pf} (h:chP false n F=some f):f ∈ F∧f.2.2.2≤n:=by
 rw [chP_first] at h
 exact ⟨List.mem_of_find?_eq_some h,by have:=List.find?_some h;simpa using this⟩
theorem free_six {P:Pf} {K:List Pf} {M:List Ls} (hP:OkPf P) (hT:∀ p ∈ takenL K M,OkPf p) {f:Pf} (hf:f ∈ freeL P K M):OkPf f∧f.1=P.1:=by
 have hok:=freeL_ok hP hT f hf
 refine ⟨hok,?_⟩
 have hv:=freeS_ok hP hT
 have hi:InS ((pfs (freeS P K M)).map spP) (nuP f):=⟨spP f,List.mem_map.2 ⟨f,hf,rfl⟩,Nat.le_refl _,hok.vr.le⟩
 rw [inS_pfs hv,(freeS_mem hP hT).2] at hi
 obtain ⟨⟨h1,h2⟩, -⟩:=hi
 have hs:=hP.sp.snd
 have hvr:=hP.vr
 have hp:0 < 2 ^ (LN (nuP P) - P.2.2.2.toNat):=Nat.pow_pos (by decide)
 have e0:(spP P).1=nuP P:=rfl
 rw [← hok.num.2.1, ← hP.num.2.1]
 obtain ⟨v1,v2,v3,v4⟩:=hvr
 unfold sixN at v3 ⊢
 rw [decide_eq_decide] at v3 ⊢
 omega
theorem at_ok {f:Pf} {n:Int} (hf:OkPf f) (h1:f.2.2.2≤n) (h2:n≤((lenN f.1:Nat):Int)):OkPf (atP (some f) n):=by
 obtain ⟨b,hb, -⟩:=okPf_bits hf
 obtain ⟨m,hm⟩:∃ m:Nat,n=(m:Int):=⟨n.toNat,by omega⟩
 subst hm
 have hv:=hf.num
 have hd:=clr_dvd.1 hf.clr
 have hl:LN (nuP f)=lenN f.1:=by rw [LN_six,hv.2.1]
 have hbt:f.2.2.2.toNat=b:=by omega
 rw [hbt] at hd
 have hd2:2 ^ (LN (nuP f) - m) ∣ nuP f:=Nat.dvd_trans (Nat.pow_dvd_pow 2 (by omega)) hd
 have h:=(ok_block hv.1 (by omega:m≤LN (nuP f)) hd2).1
 have e:pfOf (nuP f,m)=atP (some f) (m:Int):=by
  unfold pfOf atP
  simp only [Option.getD_some,hv.2.1,hv.2.2.1,hv.2.2.2]
 rw [e] at h
 exact h
theorem mem_leased {M:List Ls} {key:List UInt8} {p:Pf} {x:Ls} (h:x ∈ leasedL M key p):x ∈ M ∨ x=(key,p):=by
 unfold leasedL at h
 rcases List.mem_append.1 (mem_stabLs h) with h | h
 ·exact .inl h
 ·exact .inr (List.mem_singleton.1 h)
theorem pack_step {P:Pf} {K:List Pf} {M M':List Ls} {x:Ls} (hP:OkPf P) (hT:∀ p ∈ takenL K M,OkPf p) (hx:x.2.2.2.2≤((lenN P.1:Nat):Int)) (h:packS P K (some M) x=some M'):(∀ p ∈ takenL K M',OkPf p)∧M'.length=M.length + 1:=by
 obtain ⟨ch,hc⟩:∃ q,chP false x.2.2.2.2 (freeL P K M)=q:=⟨_,rfl⟩
 rw [packS_some hc] at h
 cases ch with
 | none => cases h
 | some f =>
   injection h with h
   subst h
   obtain ⟨hf,hle⟩:=chP_mem hc
   obtain ⟨hok,h6⟩:=free_six hP hT hf
   refine ⟨fun p hp => ?_,leasedL_len _ _ _⟩
   unfold takenL at hp hT
   rcases List.mem_append.1 hp with hp | hp
   ·exact hT p (List.mem_append_left _ hp)
   ·obtain ⟨y,hy,rfl⟩:=List.mem_map.1 hp
    rcases mem_leased hy with hy | rfl
    ·exact hT _ (List.mem_append_right _ (List.mem_map.2 ⟨y,hy,rfl⟩))
    ·exact at_ok hok hle (by rw [h6];exact hx)
open Go.RowKit Go Go.Sort
def gP (o:Option (List Ls)) (P:Pf):Pf:=match o with | none => zPf | some _ => P
def gK (o:Option (List Ls)) (K:List Pf):List Pf:=match o with | none => [] | some _ => K
def gM (o:Option (List Ls)):List Ls:=match o with | none => [] | some M => M
def pkR (pb:Nat) (ps:Bool) (ph pl:Nat) (pn:Int) (vk:Value) (base:Nat) (K:List Pf):Nat→Value→World→Prop
 | 0,v,_ => v=.pointer (some ⟨pb,0,none⟩)
 | 1,v,_ => v=.agg #[.bool ps, .int .u64 (ph:Int), .int .u64 (pl:Int), .int .i64 pn]
 | 2,v,_ => v=.pointer (some ⟨pb,4,none⟩)
 | 3,v,_ => v=vk
 | 4,v,w => ∃ a c,v=.slice a K.length c∧OwnK layPf w base v K
 | 5,v,w => ∃ a c,v=.agg #[.bool ps, .int .u64 (ph:Int), .int .u64 (pl:Int), .int .i64 pn, .slice a K.length c, .slice none 0 0]∧OwnK layPf w base (.slice a K.length c) K
 | _,v,w => ∃ B,v=.pointer (some ⟨B,0,none⟩)∧base≤B∧Blk w B 34 #[.bool false, .int .u64 0, .int .u64 0, .int .i64 0, .slice none 0 0, .slice none 0 0]
theorem pkR_keep {pb:Nat} {ps:Bool} {ph pl:Nat} {pn:Int} {vk:Value} {base:Nat} {K:List Pf} (p:Nat) (v:Value) (u w:World) (h:pkR pb ps ph pl pn vk base K p v u) (hb:Below u.heap.size u w):pkR pb ps ph pl pn vk base K p v w:=by
 rcases p with _ | _ | _ | _ | _ | _ | p
 all_goals first
  | exact h
  | (obtain ⟨a,c,h1,h2⟩:=h;exact ⟨a,c,h1,h2.later hb⟩)
  | (obtain ⟨B,h1,h2,h3⟩:=h;exact ⟨B,h1,h2,h3.below hb h3.lt⟩)
theorem below_set6 {n:Nat} {u w:World} (h:Below n u w) {b:Nat} (hb:n≤b) (x1 x2 x3 x4 x5 x6:Value):Below n u ((((((w.setCell ⟨b,0,none⟩ (x1)).setCell ⟨b,1,none⟩ (x2)).setCell ⟨b,2,none⟩ (x3)).setCell ⟨b,3,none⟩ (x4)).setCell ⟨b,4,none⟩ (x5)).setCell ⟨b,5,none⟩ (x6)) :=
 (((((h.setCell hb _).setCell hb _).setCell hb _).setCell hb _).setCell hb _).setCell hb _
theorem keep_set6 {w:World} {b:Nat} {cs:Array Value} (h:Blk w b 34 cs) (x1 x2 x3 x4 x5 x6:Value):KeepT [34] w ((((((w.setCell ⟨b,0,none⟩ (x1)).setCell ⟨b,1,none⟩ (x2)).setCell ⟨b,2,none⟩ (x3)).setCell ⟨b,3,none⟩ (x4)).setCell ⟨b,4,none⟩ (x5)).setCell ⟨b,5,none⟩ (x6)) :=
 KeepT.of_cells [x1,x2,x3,x4,x5,x6] h (by simp) 0
theorem lease_bits {P:Pf} {K:List Pf} {L:List Ls} (h:poolF P K L=0) (hP:u2P P) (hK:U4 K) (hL:UL L):∀ x ∈ L,0≤x.2.2.2.2∧x.2.2.2.2≤((lenN P.1:Nat):Int):=fun x hx => by
 obtain ⟨hOk,hKk,hLk,hTk⟩:=poolF_ok h hP hK hL
 obtain ⟨h1,h2,h3,h4⟩:=poolF_zero h
 obtain ⟨i,hi,hxi⟩:=List.getElem_of_mem hx
 have hl:=h3 i hi
 have hxx:L.getD i zLs=x:=by rw [← hxi];simp [hi]
 unfold lAt at hl
 rw [hxx] at hl
 obtain ⟨hox, -,hin⟩:=lsF_ok hl (hL x hx).1
 unfold insP inP at hin
 rw [Bool.and_eq_true,Bool.and_eq_true,decide_eq_true_eq,decide_eq_true_eq,decide_eq_true_eq] at hin
 obtain ⟨-,ha,hb⟩:=hin
 have hs:sixN (nuP x.2)=sixN (nuP P):=by
  obtain ⟨v1,v2,v3,v4⟩:=hOk.vr
  have e0:(spP P).1=nuP P:=rfl
  unfold sixN at v3 ⊢
  rw [decide_eq_decide] at v3 ⊢
  omega
 have hb:=hox.bits
 rw [LN_six,hs,hOk.num.2.1] at hb
 have hn:=hox.nn
 omega
theorem sign_same (x:Int) (w:World):Calls Tryz.prog 77 #[.int .i64 x] w fun e w' => e=.returned (.int .i64 (sgn x))∧w=w':=by
 by_cases h1:x < 0
 ·have e:sgn x=-1:=if_pos h1
  rw [e]
  go_enter Tryz.func77,Tryz.ntmps77
  go_wp2
  go_ret
  exact ⟨rfl,rfl⟩
 ·by_cases h2:x > 0
  ·have e:sgn x=1:=by unfold sgn;rw [if_neg h1,if_pos h2]
   rw [e]
   go_enter Tryz.func77,Tryz.ntmps77
   go_wp2
   go_ret
   exact ⟨rfl,rfl⟩
  ·have e:sgn x=0:=by unfold sgn;rw [if_neg h1,if_neg h2]
   rw [e]
   go_enter Tryz.func77,Tryz.ntmps77
   go_wp2
   go_ret
   exact ⟨rfl,rfl⟩
theorem pka_any (x y:Ls) (w:World):Calls Tryz.prog 68 #[.agg (layLs.enc x).toArray, .agg (layLs.enc y).toArray] w (RetD (.int .i64 (cfBt x y)) w):=by
 obtain ⟨k1,s1,h1,l1,n1⟩:=x
 obtain ⟨k2,s2,h2,l2,n2⟩:=y
 show Calls Tryz.prog 68 #[.agg #[.string (strL k1), .bool s1, .int .u64 (h1:Int), .int .u64 (l1:Int), .int .i64 n1], .agg #[.string (strL k2), .bool s2, .int .u64 (h2:Int), .int .u64 (l2:Int), .int .i64 n2]] w (RetD (.int .i64 (Lib.compareInt n1 n2)) w)
 have HC:=Lib.hid fun wx => cmpInt_any n1 n2 wx
 generalize Lib.compareInt n1 n2=C at *
 generalize strL k1=K1 at *
 generalize strL k2=K2 at *
 have HP:Hid (Blk ((w.alloc (.cells #[.string K1, .bool s1, .int .u64 (h1:Int), .int .u64 (l1:Int), .int .i64 n1] 67 (0,0))).alloc (.cells #[.string K2, .bool s2, .int .u64 (h2:Int), .int .u64 (l2:Int), .int .i64 n2] 67 (0,0))) w.heap.size 67 #[.string K1, .bool s1, .int .u64 (h1:Int), .int .u64 (l1:Int), .int .i64 n1]):=Lib.hid ((Blk.new w _ _).alloc _)
 have HQ:Hid (Blk ((w.alloc (.cells #[.string K1, .bool s1, .int .u64 (h1:Int), .int .u64 (l1:Int), .int .i64 n1] 67 (0,0))).alloc (.cells #[.string K2, .bool s2, .int .u64 (h2:Int), .int .u64 (l2:Int), .int .i64 n2] 67 (0,0))) (w.heap.size + 1) 67 #[.string K2, .bool s2, .int .u64 (h2:Int), .int .u64 (l2:Int), .int .i64 n2]):=Lib.hid (by
  have this:=Blk.new (w.alloc (.cells #[.string K1, .bool s1, .int .u64 (h1:Int), .int .u64 (l1:Int), .int .i64 n1] 67 (0,0))) 67 #[.string K2, .bool s2, .int .u64 (h2:Int), .int .u64 (l2:Int), .int .i64 n2]
  rw [World.size_alloc] at this
  exact this)
 have HB:Hid (BelD w ((w.alloc (.cells #[.string K1, .bool s1, .int .u64 (h1:Int), .int .u64 (l1:Int), .int .i64 n1] 67 (0,0))).alloc (.cells #[.string K2, .bool s2, .int .u64 (h2:Int), .int .u64 (l2:Int), .int .i64 n2] 67 (0,0)))):=Lib.hid (((BelD.refl _).alloc _).alloc _)
 go_enter Tryz.func68,Tryz.ntmps68
 go_upto_region 1 with fail
 generalize ((w.alloc (.cells #[.string K1, .bool s1, .int .u64 (h1:Int), .int .u64 (l1:Int), .int .i64 n1] 67 (0,0))).alloc (.cells #[.string K2, .bool s2, .int .u64 (h2:Int), .int .u64 (l2:Int), .int .i64 n2] 67 (0,0)))=w1 at *
 generalize w.heap.size=b at HP HQ ⊢
 have a0:=HP.out.cell 4
 have b0:=HQ.out.cell 4
 simp at a0 b0
 go_wp2_with fail
 refine (HC.out _).mono ?_
 rintro e w2 ⟨rfl,rfl⟩
 go_wp2_with fail
 go_ret
 exact ⟨rfl,HB.out⟩
theorem pkq_any (x y:Ls) (w:World):Calls Tryz.prog 76 #[.agg (layLs.enc x).toArray, .agg (layLs.enc y).toArray] w (RetD (.int .i64 (cfBq x y)) w):=by
 obtain ⟨k1,s1,h1,l1,n1⟩:=x
 obtain ⟨k2,s2,h2,l2,n2⟩:=y
 show Calls Tryz.prog 76 #[.agg #[.string (strL k1), .bool s1, .int .u64 (h1:Int), .int .u64 (l1:Int), .int .i64 n1], .agg #[.string (strL k2), .bool s2, .int .u64 (h2:Int), .int .u64 (l2:Int), .int .i64 n2]] w (RetD (.int .i64 (sgn (IntKind.i64.wrap (n1 - n2)))) w)
 have HC:=Lib.hid fun wx => sign_same (wrap64 (n1 - n2)) wx
 rw [show IntKind.i64.wrap (n1 - n2)=wrap64 (n1 - n2) by rw [IntKind.wrap_i64];unfold wrap64;omega]
 generalize sgn (wrap64 (n1 - n2))=C at *
 generalize strL k1=K1 at *
 generalize strL k2=K2 at *
 have HP:Hid (Blk ((w.alloc (.cells #[.string K1, .bool s1, .int .u64 (h1:Int), .int .u64 (l1:Int), .int .i64 n1] 67 (0,0))).alloc (.cells #[.string K2, .bool s2, .int .u64 (h2:Int), .int .u64 (l2:Int), .int .i64 n2] 67 (0,0))) w.heap.size 67 #[.string K1, .bool s1, .int .u64 (h1:Int), .int .u64 (l1:Int), .int .i64 n1]):=Lib.hid ((Blk.new w _ _).alloc _)
 have HQ:Hid (Blk ((w.alloc (.cells #[.string K1, .bool s1, .int .u64 (h1:Int), .int .u64 (l1:Int), .int .i64 n1] 67 (0,0))).alloc (.cells #[.string K2, .bool s2, .int .u64 (h2:Int), .int .u64 (l2:Int), .int .i64 n2] 67 (0,0))) (w.heap.size + 1) 67 #[.string K2, .bool s2, .int .u64 (h2:Int), .int .u64 (l2:Int), .int .i64 n2]):=Lib.hid (by
  have this:=Blk.new (w.alloc (.cells #[.string K1, .bool s1, .int .u64 (h1:Int), .int .u64 (l1:Int), .int .i64 n1] 67 (0,0))) 67 #[.string K2, .bool s2, .int .u64 (h2:Int), .int .u64 (l2:Int), .int .i64 n2]
  rw [World.size_alloc] at this
  exact this)
 have HB:Hid (BelD w ((w.alloc (.cells #[.string K1, .bool s1, .int .u64 (h1:Int), .int .u64 (l1:Int), .int .i64 n1] 67 (0,0))).alloc (.cells #[.string K2, .bool s2, .int .u64 (h2:Int), .int .u64 (l2:Int), .int .i64 n2] 67 (0,0)))):=Lib.hid (((BelD.refl _).alloc _).alloc _)
 go_enter Tryz.func76,Tryz.ntmps76
 go_upto_region 1 with fail
 generalize ((w.alloc (.cells #[.string K1, .bool s1, .int .u64 (h1:Int), .int .u64 (l1:Int), .int .i64 n1] 67 (0,0))).alloc (.cells #[.string K2, .bool s2, .int .u64 (h2:Int), .int .u64 (l2:Int), .int .i64 n2] 67 (0,0)))=w1 at *
 generalize w.heap.size=b at HP HQ ⊢
 have a0:=HP.out.cell 4
 have b0:=HQ.out.cell 4
 simp at a0 b0
 go_wp2_with fail
 refine (HC.out _).mono ?_
 rintro e w2 ⟨rfl,rfl⟩
 go_wp2_with fail
 go_ret
 exact ⟨rfl,HB.out⟩
theorem packOf_any (P:Pf) (ka la:Option Addr) (kn kc ln lc:Nat) (K:List Pf) (L:List Ls) (w:World) (hK:RdK layPf w ka K) (hL:RdK layLs w la L) (hkn:K.length=kn) (hln:L.length=ln) (hs:kn + ln≤7) (hP:OkPf P) (hT:∀ p ∈ takenL K L,OkPf p) (hI:∀ x ∈ L,0≤x.2.2.2.2∧x.2.2.2.2≤((lenN P.1:Nat):Int)) :
  Calls Tryz.prog 26 #[.agg (plC P (.slice ka kn kc) (.slice la ln lc)).toArray] w fun e w' => ∃ v,e=.returned (.tuple #[v, .bool (packL P K (stabLs cfBt L)).isSome])∧PoolV w' w.heap.size v (gP (packL P K (stabLs cfBt L)) P) (gK (packL P K (stabLs cfBt L)) K) (gM (packL P K (stabLs cfBt L)))∧Below w.heap.size w w':=by
 have Hkn:=Lib.hid hkn
 have Hln:=Lib.hid hln
 have HCK:=Lib.hid fun wx (hr:RdK layPf wx ka K) => clonePf_any ka kn kc K wx hr hkn (by omega)
 have HCL:=Lib.hid fun wx (hr:RdK layLs wx la L) => cloneLs_any la ln lc L wx hr hln (by omega)
 have hlp:=lenN_le P.1
 have hsame:=stab_same (L:=L) fun x hx => ⟨(hI x hx).1,by have:=(hI x hx).2;omega⟩
 have HSb:Hid (∀ x ∈ stabLs cfBt L,x.2.2.2.2≤((lenN P.1:Nat):Int)):=Lib.hid fun x hx => (hI x (mem_stabLs hx)).2
 have HSl:Hid ((stabLs cfBt L).length=ln):=Lib.hid (by rw [stabLs_len,hln])
 have HSt:Hid (∀ (M M':List Ls) (x:Ls),(∀ p ∈ takenL K M,OkPf p)→x.2.2.2.2≤((lenN P.1:Nat):Int)→packS P K (some M) x=some M'→(∀ p ∈ takenL K M',OkPf p)∧M'.length=M.length + 1):=Lib.hid fun M M' x h1 h2 h3 => pack_step hP h1 h2 h3
 have HT0:Hid (∀ p ∈ takenL K ([]:List Ls),OkPf p):=Lib.hid fun p hp => hT p (by
  unfold takenL at hp ⊢
  rw [List.map_nil,List.append_nil] at hp
  exact List.mem_append_left _ hp)
 have HTk:Hid (∀ (M:List Ls) (b1 b2:Option Addr) (k e1 e2:Nat) (ky:List UInt8) (n:Int) wx,RdK layPf wx b1 K→RdK layLs wx b2 M→M.length=k→kn + k≤7→(∀ p ∈ takenL K M,OkPf p)→Calls Tryz.prog 18 #[.agg (plC P (.slice b1 kn e1) (.slice b2 k e2)).toArray, .string (strL ky), .int .i64 n] wx fun e w' => ∃ v,e=.returned (.tuple #[v, .agg (pfC (gotX (chP false n (freeL P K M)) n)).toArray, .bool (chP false n (freeL P K M)).isSome])∧PoolV w' wx.heap.size v (gotP (chP false n (freeL P K M)) P) (gotK (chP false n (freeL P K M)) K) (gotL (chP false n (freeL P K M)) M ky n)∧Below wx.heap.size wx w'):=Lib.hid fun M b1 b2 k e1 e2 ky n wx h1 h2 h3 h4 h5 => takeOf_any P b1 b2 kn e1 k e2 K M ky n wx h1 h2 hkn h3 h4 hP h5
 obtain ⟨S,hS⟩:∃ S,stabLs cfBt L=S:=⟨_,rfl⟩
 have HSq:Hid (stabLs cfBq L=S):=Lib.hid (hsame.trans hS)
 rw [hS] at HSb HSl ⊢
 obtain ⟨o,ho⟩:∃ o,packL P K S=o:=⟨_,rfl⟩
 have HOo:=Lib.hid ho
 rw [ho]
 clear ho hS hsame hkn hln hI hT
 obtain ⟨ps,ph,pl,pn⟩:=P
 rw [show (plC (ps,ph,pl,pn) (.slice ka kn kc) (.slice la ln lc)).toArray=#[.bool ps, .int .u64 (ph:Int), .int .u64 (pl:Int), .int .i64 pn, .slice ka kn kc, .slice la ln lc] from rfl]
 have hB01:Below w.heap.size w ((w.alloc (.cells #[.bool ps, .int .u64 (ph:Int), .int .u64 (pl:Int), .int .i64 pn, .slice ka kn kc, .slice la ln lc] 34 (0,0))).alloc (.cells #[.bool false, .int .u64 0, .int .u64 0, .int .i64 0, .slice none 0 0, .slice none 0 0] 34 (0,0))):=below_alloc (below_alloc (Below.refl _ _) _) _
 have HBa:=Lib.hid hB01
 have HKw:=Lib.hid hK
 have HLw:=Lib.hid hL
 have HQa:Hid (Blk ((w.alloc (.cells #[.bool ps, .int .u64 (ph:Int), .int .u64 (pl:Int), .int .i64 pn, .slice ka kn kc, .slice la ln lc] 34 (0,0))).alloc (.cells #[.bool false, .int .u64 0, .int .u64 0, .int .i64 0, .slice none 0 0, .slice none 0 0] 34 (0,0))) w.heap.size 34 #[.bool ps, .int .u64 (ph:Int), .int .u64 (pl:Int), .int .i64 pn, .slice ka kn kc, .slice la ln lc]):=Lib.hid ((Blk.new w _ _).alloc _)
 have HZa:Hid (Blk ((w.alloc (.cells #[.bool ps, .int .u64 (ph:Int), .int .u64 (pl:Int), .int .i64 pn, .slice ka kn kc, .slice la ln lc] 34 (0,0))).alloc (.cells #[.bool false, .int .u64 0, .int .u64 0, .int .i64 0, .slice none 0 0, .slice none 0 0] 34 (0,0))) (w.heap.size + 1) 34 #[.bool false, .int .u64 0, .int .u64 0, .int .i64 0, .slice none 0 0, .slice none 0 0]):=Lib.hid (by
  have this:=Blk.new (w.alloc (.cells #[.bool ps, .int .u64 (ph:Int), .int .u64 (pl:Int), .int .i64 pn, .slice ka kn kc, .slice la ln lc] 34 (0,0))) 34 #[.bool false, .int .u64 0, .int .u64 0, .int .i64 0, .slice none 0 0, .slice none 0 0]
  rw [World.size_alloc] at this
  exact this)
 clear hK hL hB01
 go_enter Tryz.func26,Tryz.ntmps26
 go_upto_region 1 with fail
 generalize ((w.alloc (.cells #[.bool ps, .int .u64 (ph:Int), .int .u64 (pl:Int), .int .i64 pn, .slice ka kn kc, .slice la ln lc] 34 (0,0))).alloc (.cells #[.bool false, .int .u64 0, .int .u64 0, .int .i64 0, .slice none 0 0, .slice none 0 0] 34 (0,0)))=wa at *
 obtain ⟨pb,hpb⟩:∃ q,w.heap.size=q:=⟨_,rfl⟩
 have Hpw:Hid (w.heap.size≤pb):=Lib.hid (by omega)
 rw [hpb] at HQa HZa ⊢
 clear hpb
 have p5:=HQa.out.cell 5
 simp at p5
 go_wp2_with fail
 refine (HCL.out wa (HLw.out.below HBa.out)).mono ?_
 rintro e wb ⟨v,rfl,hO,hb⟩
 obtain ⟨sa,sc,rfl, -, -, -⟩:=hO.form
 rw [Hln.out] at hO ⊢
 have HOb:=Lib.hid hO
 have HQb:=Lib.hid (HQa.out.below hb HQa.out.lt)
 have HZb:=Lib.hid (HZa.out.below hb HZa.out.lt)
 have HBb:=Lib.hid (HBa.out.trans (hb.mono HBa.out.size))
 have Hwab:Hid (w.heap.size≤wa.heap.size):=Lib.hid HBa.out.size
 clear hO hb p5 HQa HZa HCL HBa
 have egs:∀ args w,(callFunc 76 args).run Tryz.prog w=.ok (.enter 76 args) w:=Go.Proofs.enters_of Tryz.func76 (by kernel_rfl) rfl
 have HSr:=Lib.hid (sortStableLs_any cfBq 76 cfBq rfl egs pkq_any wa.heap.size ln sc sa L wb HOb.out (by omega))
 rw [HSq.out] at HSr
 clear egs
 go_wp2_with fail
 refine HSr.out.mono ?_
 rintro e wc ⟨rfl,ho,hG⟩
 have hk:=KeepT.of_grew (S:=[67]) HOb.out hG (by decide)
 have HOc:=Lib.hid ho.rd
 have HBc:=Lib.hid (HBb.out.trans (hG.below HBb.out.size (own_base (HOb.out.weak Hwab.out))))
 have HQc:=Lib.hid (HQb.out.keepS hk (by decide))
 have HZc:=Lib.hid (HZb.out.keepS hk (by decide))
 have HKc:=Lib.hid (HKw.out.below HBc.out)
 clear ho hG hk HOb HQb HZb HBb HSr Hwab
 have p0:=HQc.out.cell 0
 have p1:=HQc.out.cell 1
 have p2:=HQc.out.cell 2
 have p3:=HQc.out.cell 3
 have p4:=HQc.out.cell 4
 simp at p0 p1 p2 p3 p4
 have l0:=Later.cell_of p0
 have l1:=Later.cell_of p1
 have l2:=Later.cell_of p2
 have l3:=Later.cell_of p3
 have l4:=Later.cell_of p4
 go_upto_region 3 with fail
 refine wp_region_inv 7 0 (pkR pb ps ph pl pn (.slice ka kn kc) wc.heap.size K) (fun _ wx => Below wc.heap.size wc wx) (fun u v => Below u.heap.size u v) (fun _ => 0)
  (by kernel_rfl) (by kernel_rfl) (by decide) pkR_keep (below_drew (Below.refl _ _)) ?hX
 case' hX => (apply Exists.intro;refine ⟨fun T => ?hA,?hob,?hend⟩)
 case hA =>
  simp only [setAll,List.take_succ_cons,List.take_zero,Act.put,List.setIfInBounds_toArray,List.set_cons_succ,List.set_cons_zero,Nat.reduceAdd]
  exact rfl
 case hob =>
  clear HQc HZc p0 p1 p2 p3 p4 HOc HTk HSt HSb
  go_light
  refine ⟨?_,?_,?_,?_,?_,?_,?_,trivial⟩
  all_goals (intro T wx n0 hC hn hp;dsimp only at hn ⊢;unfold Op1)
  ·go_simp
   first | exact ⟨rfl,hC,Below.refl _ _⟩ | exact ⟨rfl,Below.refl _ _⟩ | exact Below.refl _ _
  ·obtain ⟨h0, -⟩:=hp
   have h0:T 0=.pointer (some ⟨pb,0,none⟩):=h0
   have e0:=l0 ⟨wx,hC⟩
   have e1:=l1 ⟨wx,hC⟩
   have e2:=l2 ⟨wx,hC⟩
   have e3:=l3 ⟨wx,hC⟩
   simp only at e0 e1 e2 e3
   go_simp
   first | exact ⟨rfl,hC,Below.refl _ _⟩ | exact ⟨rfl,Below.refl _ _⟩ | exact Below.refl _ _
  ·go_simp
   first | exact ⟨rfl,hC,Below.refl _ _⟩ | exact ⟨rfl,Below.refl _ _⟩ | exact Below.refl _ _
  ·obtain ⟨h0, -⟩:=hp
   have h0:T 2=.pointer (some ⟨pb,4,none⟩):=h0
   have e4:=l4 ⟨wx,hC⟩
   simp only at e4
   go_simp
   first | exact ⟨rfl,hC,Below.refl _ _⟩ | exact ⟨rfl,Below.refl _ _⟩ | exact Below.refl _ _
  ·obtain ⟨h0, -⟩:=hp
   have h0:T 3=.slice ka kn kc:=h0
   go_simp
   refine (HCK.out wx (HKc.out.below hC)).mono ?_
   rintro e w5 ⟨v,rfl,hO,hb⟩
   obtain ⟨a5,c5,rfl,_⟩:=hO.form
   exact ⟨_,rfl,⟨_,_,rfl,hO.weak hC.size⟩,hC.trans (hb.mono hC.size),hb⟩
  ·obtain ⟨h0,h1, -⟩:=hp
   have h0:T 1=.agg #[.bool ps, .int .u64 (ph:Int), .int .u64 (pl:Int), .int .i64 pn]:=h0
   obtain ⟨a1,c1,h1,q1⟩:∃ a c,T 4=.slice a K.length c∧OwnK layPf wx wc.heap.size (T 4) K:=h1
   rw [h1] at q1
   have HV:=Lib.hid q1
   clear q1
   go_simp
   first | exact ⟨⟨a1,c1,rfl,HV.out⟩,hC,Below.refl _ _⟩ | exact ⟨⟨a1,c1,rfl,HV.out⟩,Below.refl _ _⟩
  ·go_simp
   exact ⟨⟨wx.heap.size,rfl,hC.size,Blk.new wx _ _⟩,below_alloc hC _,below_alloc (Below.refl _ _) _⟩
 case hend =>
 intro T wd ⟨n0,hn0,hb⟩ hR
 obtain ⟨a1,c1,hv,q1⟩:∃ a c,T 5=.agg #[.bool ps, .int .u64 (ph:Int), .int .u64 (pl:Int), .int .i64 pn, .slice a K.length c, .slice none 0 0]∧OwnK layPf wd wc.heap.size (.slice a K.length c) K:=hR 5 (by omega)
 obtain ⟨ob,h6,hBg,hBl⟩:∃ B,T 6=.pointer (some ⟨B,0,none⟩)∧wc.heap.size≤B∧Blk wd B 34 #[.bool false, .int .u64 0, .int .u64 0, .int .i64 0, .slice none 0 0, .slice none 0 0]:=hR 6 (by omega)
 rw [Hkn.out] at hv q1
 have HV5:Hid (Blk ((((((wd.setCell ⟨ob,0,none⟩ (.bool ps)).setCell ⟨ob,1,none⟩ (.int .u64 (ph:Int))).setCell ⟨ob,2,none⟩ (.int .u64 (pl:Int))).setCell ⟨ob,3,none⟩ (.int .i64 pn)).setCell ⟨ob,4,none⟩ (.slice a1 kn c1)).setCell ⟨ob,5,none⟩ (.slice none 0 0)) ob 34 #[.bool ps, .int .u64 (ph:Int), .int .u64 (pl:Int), .int .i64 pn, .slice a1 kn c1, .slice none 0 0]):=Lib.hid (hBl.set6w (x1':=.bool ps) (x2':=.int .u64 (ph:Int)) (x3':=.int .u64 (pl:Int)) (x4':=.int .i64 pn) (x5':=.slice a1 kn c1) (x6':=.slice none 0 0))
 have HK5:Hid (OwnK layPf ((((((wd.setCell ⟨ob,0,none⟩ (.bool ps)).setCell ⟨ob,1,none⟩ (.int .u64 (ph:Int))).setCell ⟨ob,2,none⟩ (.int .u64 (pl:Int))).setCell ⟨ob,3,none⟩ (.int .i64 pn)).setCell ⟨ob,4,none⟩ (.slice a1 kn c1)).setCell ⟨ob,5,none⟩ (.slice none 0 0)) wc.heap.size (.slice a1 kn c1) K):=Lib.hid (q1.keepT (keep_set6 hBl (.bool ps) (.int .u64 (ph:Int)) (.int .u64 (pl:Int)) (.int .i64 pn) (.slice a1 kn c1) (.slice none 0 0)) (by decide))
 have HB5:Hid (Below wc.heap.size wc ((((((wd.setCell ⟨ob,0,none⟩ (.bool ps)).setCell ⟨ob,1,none⟩ (.int .u64 (ph:Int))).setCell ⟨ob,2,none⟩ (.int .u64 (pl:Int))).setCell ⟨ob,3,none⟩ (.int .i64 pn)).setCell ⟨ob,4,none⟩ (.slice a1 kn c1)).setCell ⟨ob,5,none⟩ (.slice none 0 0))):=Lib.hid (below_set6 hb hBg (.bool ps) (.int .u64 (ph:Int)) (.int .u64 (pl:Int)) (.int .i64 pn) (.slice a1 kn c1) (.slice none 0 0))
 have Hbg:Hid (wc.heap.size≤ob):=Lib.hid hBg
 have Hzl:Hid (pb + 1 < wc.heap.size):=Lib.hid HZc.out.lt
 have r0:=hBl.cell 0
 have r1:=hBl.cell 1
 have r2:=hBl.cell 2
 have r3:=hBl.cell 3
 have r4:=hBl.cell 4
 have r5:=hBl.cell 5
 simp at r0 r1 r2 r3 r4 r5
 have rf:=hBl.free
 clear hR hb q1 hBl hBg p0 p1 p2 p3 p4 l0 l1 l2 l3 l4 HQc HKc HCK HKw HLw
 simp only [List.drop_succ_cons,List.drop_zero]
 rw [hv,h6]
 go_upto_region 4 with fail
 generalize ((((((wd.setCell ⟨ob,0,none⟩ (.bool ps)).setCell ⟨ob,1,none⟩ (.int .u64 (ph:Int))).setCell ⟨ob,2,none⟩ (.int .u64 (pl:Int))).setCell ⟨ob,3,none⟩ (.int .i64 pn)).setCell ⟨ob,4,none⟩ (.slice a1 kn c1)).setCell ⟨ob,5,none⟩ (.slice none 0 0))=we at *
 clear r0 r1 r2 r3 r4 r5 rf hv h6
 go_wp2_with fail
 go_loopw [6,8,22] (fun s6 s8 i wr => ∃ (k:Nat) (M:List Ls) (b1 b2:Option Addr) (e1 e2:Nat),k≤ln∧i=.int .i64 (k:Int)∧Hid (packL (ps,ph,pl,pn) K (S.take k)=some M)∧Hid (M.length=k)∧Hid (∀ p ∈ takenL K M,OkPf p)∧Hid (Blk wr ob 34 #[.bool ps, .int .u64 (ph:Int), .int .u64 (pl:Int), .int .i64 pn, .slice b1 kn e1, .slice b2 k e2])∧Hid (OwnK layPf wr wc.heap.size (.slice b1 kn e1) K∧OwnK layLs wr wc.heap.size (.slice b2 k e2) M)∧Hid (Below wc.heap.size wc wr)) (fun _ _ i _ => ln - (intOf i).toNat)
 case atStart => exact ⟨0, [],a1,none,c1,0,Nat.zero_le _,rfl,Lib.hid rfl,Lib.hid rfl,HT0,HV5,Lib.hid ⟨HK5.out,OwnK.nil _ _ _⟩,HB5⟩
 case round =>
  clear HV5 HK5 HB5 HT0
  obtain ⟨k,M,b1,b2,e1,e2,hk,rfl,HM,HMl,HMt,HV,HO,HBr⟩:=hrel
  have HZr:=Lib.hid (HZc.out.below HBr.out HZc.out.lt)
  have HBw:=Lib.hid (HBc.out.trans (HBr.out.mono HBc.out.size))
  by_cases hlt:k < ln
  ·obtain ⟨x,hx⟩:∃ x,S[k]?=some x:=⟨_,List.getElem?_eq_getElem (by rw [HSl.out];exact hlt)⟩
   have HXb:=Lib.hid (HSb.out x (List.mem_of_getElem? hx))
   have HTa:Hid (packL (ps,ph,pl,pn) K (S.take (k + 1))=packS (ps,ph,pl,pn) K (some M) x):=Lib.hid (by rw [packL_take hx,HM.out])
   obtain ⟨ky,xs,xh,xl,xn⟩:=x
   obtain ⟨g,off,had,hg,d0,d1,d2,d3,d4⟩:=(HOc.out.below HBr.out).ls hx
   subst had
   have HX3:Hid (Blk (wr.alloc (.cells #[.string (strL ky), .bool xs, .int .u64 (xh:Int), .int .u64 (xl:Int), .int .i64 xn] 67 (0,0))) wr.heap.size 67 #[.string (strL ky), .bool xs, .int .u64 (xh:Int), .int .u64 (xl:Int), .int .i64 xn]):=Lib.hid (Blk.new wr _ _)
   have hb3:Below wr.heap.size wr (wr.alloc (.cells #[.string (strL ky), .bool xs, .int .u64 (xh:Int), .int .u64 (xl:Int), .int .i64 xn] 67 (0,0))):=below_alloc (Below.refl _ _) _
   have HV3:=Lib.hid (HV.out.below hb3 HV.out.lt)
   have HZ3:=Lib.hid (HZr.out.below hb3 HZr.out.lt)
   have HO3:=Lib.hid (And.intro (HO.out.1.later hb3) (HO.out.2.later hb3))
   have HB3:=Lib.hid (HBr.out.trans (hb3.mono HBr.out.size))
   have HBw3:=Lib.hid (HBw.out.trans (hb3.mono HBw.out.size))
   have Hobx:Hid (ob < wr.heap.size):=Lib.hid HV.out.lt
   clear hb3 hx HM HV HO HBr HZr HBw
   go_upto_region 8 with fail
   generalize wr.alloc (.cells #[.string (strL ky), .bool xs, .int .u64 (xh:Int), .int .u64 (xl:Int), .int .i64 xn] 67 (0,0))=w3 at *
   obtain ⟨xb,hxb⟩:∃ q,wr.heap.size=q:=⟨_,rfl⟩
   rw [hxb] at HX3 Hobx ⊢
   clear hxb hg d0 d1 d2 d3 d4
   have p0:=HV3.out.cell 0
   have p1:=HV3.out.cell 1
   have p2:=HV3.out.cell 2
   have p3:=HV3.out.cell 3
   have p4:=HV3.out.cell 4
   have p5:=HV3.out.cell 5
   simp at p0 p1 p2 p3 p4 p5
   have d0:=HX3.out.cell 0
   have d1:=HX3.out.cell 1
   have d2:=HX3.out.cell 2
   have d3:=HX3.out.cell 3
   have d4:=HX3.out.cell 4
   simp at d0 d1 d2 d3 d4
   have hTk:=HTk.out M b1 b2 k e1 e2 ky xn w3 HO3.out.1.rd HO3.out.2.rd HMl.out (by omega) HMt.out
   rw [show (plC (ps,ph,pl,pn) (.slice b1 kn e1) (.slice b2 k e2)).toArray=#[.bool ps, .int .u64 (ph:Int), .int .u64 (pl:Int), .int .i64 pn, .slice b1 kn e1, .slice b2 k e2] from rfl] at hTk
   obtain ⟨ch,hch⟩:∃ q,chP false xn (freeL (ps,ph,pl,pn) K M)=q:=⟨_,rfl⟩
   rw [hch] at hTk
   have hPS:=packS_some (x:=(ky,(xs,xh,xl,xn))) hch
   clear hch
   have HTk1:=Lib.hid hTk
   clear hTk
   go_wp2_with fail
   refine HTk1.out.mono ?_
   rintro e w4 ⟨v,rfl,hV,hb⟩
   have HV4:=Lib.hid (HV3.out.below hb HV3.out.lt)
   have HZ4:=Lib.hid (HZ3.out.below hb HZ3.out.lt)
   have HB4:=Lib.hid (HB3.out.trans (hb.mono HB3.out.size))
   have HBw4:=Lib.hid (HBw3.out.trans (hb.mono HBw3.out.size))
   have Hs3:Hid (wc.heap.size≤w3.heap.size):=Lib.hid HB3.out.size
   clear hb HTk1 p0 p1 p2 p3 p4 p5 d0 d1 d2 d3 d4 HX3 HV3 HZ3 HO3 HB3 HBw3
   have r0:=HV4.out.cell 0
   have r1:=HV4.out.cell 1
   have r2:=HV4.out.cell 2
   have r3:=HV4.out.cell 3
   have r4:=HV4.out.cell 4
   have r5:=HV4.out.cell 5
   simp at r0 r1 r2 r3 r4 r5
   have rf:=HV4.out.free
   cases ch with
   | none =>
     have HE:Hid (o=none):=Lib.hid (by rw [← HOo.out];exact packL_none (HTa.out.trans hPS))
     obtain ⟨a3,c3,a4,c4,rfl, -, -⟩:=hV
     rw [show (plC (gotP none (ps,ph,pl,pn)) (.slice a3 (gotK none K).length c3) (.slice a4 (gotL none M ky xn).length c4)).toArray=#[.bool false, .int .u64 ((0:Nat):Int), .int .u64 ((0:Nat):Int), .int .i64 0, .slice a3 0 c3, .slice a4 0 c4] from rfl,show (none:Option Pf).isSome=false from rfl,show (pfC (gotX none xn)).toArray=#[.bool false, .int .u64 0, .int .u64 0, .int .i64 0] from rfl]
     have HZx:Hid (Blk ((((((w4.setCell ⟨ob,0,none⟩ (.bool false)).setCell ⟨ob,1,none⟩ (.int .u64 ((0:Nat):Int))).setCell ⟨ob,2,none⟩ (.int .u64 ((0:Nat):Int))).setCell ⟨ob,3,none⟩ (.int .i64 0)).setCell ⟨ob,4,none⟩ (.slice a3 0 c3)).setCell ⟨ob,5,none⟩ (.slice a4 0 c4)) (pb + 1) 34 #[.bool false, .int .u64 0, .int .u64 0, .int .i64 0, .slice none 0 0, .slice none 0 0]):=Lib.hid (HZ4.out.far6w (show pb + 1 ≠ ob by have:=Hzl.out;have:=Hbg.out;omega) (x1':=.bool false) (x2':=.int .u64 ((0:Nat):Int)) (x3':=.int .u64 ((0:Nat):Int)) (x4':=.int .i64 0) (x5':=.slice a3 0 c3) (x6':=.slice a4 0 c4))
     have HBx:Hid (Below w.heap.size w ((((((w4.setCell ⟨ob,0,none⟩ (.bool false)).setCell ⟨ob,1,none⟩ (.int .u64 ((0:Nat):Int))).setCell ⟨ob,2,none⟩ (.int .u64 ((0:Nat):Int))).setCell ⟨ob,3,none⟩ (.int .i64 0)).setCell ⟨ob,4,none⟩ (.slice a3 0 c3)).setCell ⟨ob,5,none⟩ (.slice a4 0 c4))):=Lib.hid (below_set6 HBw4.out (show w.heap.size≤ob by have:=Hzl.out;have:=Hbg.out;have:=Hpw.out;omega) (.bool false) (.int .u64 ((0:Nat):Int)) (.int .u64 ((0:Nat):Int)) (.int .i64 0) (.slice a3 0 c3) (.slice a4 0 c4))
     clear hPS HTa HTk HSt HSb HOc HZc HBc
     go_upto_region 9 with fail
     generalize ((((((w4.setCell ⟨ob,0,none⟩ (.bool false)).setCell ⟨ob,1,none⟩ (.int .u64 ((0:Nat):Int))).setCell ⟨ob,2,none⟩ (.int .u64 ((0:Nat):Int))).setCell ⟨ob,3,none⟩ (.int .i64 0)).setCell ⟨ob,4,none⟩ (.slice a3 0 c3)).setCell ⟨ob,5,none⟩ (.slice a4 0 c4))=w5 at *
     clear r0 r1 r2 r3 r4 r5 rf HV4 HZ4 HB4 HBw4
     have c6:=HZx.out.set6w (x1':=.bool false) (x2':=.int .u64 0) (x3':=.int .u64 0) (x4':=.int .i64 0) (x5':=.slice none 0 0) (x6':=.slice none 0 0)
     have y0:=c6.cell 0
     have y1:=c6.cell 1
     have y2:=c6.cell 2
     have y3:=c6.cell 3
     have y4:=c6.cell 4
     have y5:=c6.cell 5
     simp at y0 y1 y2 y3 y4 y5
     clear c6
     have q0:=HZx.out.cell 0
     have q1:=HZx.out.cell 1
     have q2:=HZx.out.cell 2
     have q3:=HZx.out.cell 3
     have q4:=HZx.out.cell 4
     have q5:=HZx.out.cell 5
     simp at q0 q1 q2 q3 q4 q5
     have qf:=HZx.out.free
     have HBf:Hid (Below w.heap.size w ((((((w5.setCell ⟨pb + 1,0,none⟩ (.bool false)).setCell ⟨pb + 1,1,none⟩ (.int .u64 0)).setCell ⟨pb + 1,2,none⟩ (.int .u64 0)).setCell ⟨pb + 1,3,none⟩ (.int .i64 0)).setCell ⟨pb + 1,4,none⟩ (.slice none 0 0)).setCell ⟨pb + 1,5,none⟩ (.slice none 0 0))):=Lib.hid (below_set6 HBx.out (show w.heap.size≤pb + 1 by have:=Hpw.out;omega) (.bool false) (.int .u64 0) (.int .u64 0) (.int .i64 0) (.slice none 0 0) (.slice none 0 0))
     go_wp2_with fail
     refine bodyPost_ret (v:=.tuple #[.agg #[.bool false, .int .u64 0, .int .u64 0, .int .i64 0, .slice none 0 0, .slice none 0 0], .bool false]) (by simp [results,Tryz.results26,go_sem, *]) rfl ⟨_,by rw [HE.out] <;> rfl,by rw [HE.out];exact poolV_zero _ _,HBf.out⟩
   | some f =>
     obtain ⟨M',hM'⟩:∃ q,leasedL M ky (atP (some f) xn)=q:=⟨_,rfl⟩
     have hV:PoolV w4 w3.heap.size v (ps,ph,pl,pn) K (leasedL M ky (atP (some f) xn)):=hV
     have hPS:packS (ps,ph,pl,pn) K (some M) (ky,(xs,xh,xl,xn))=some (leasedL M ky (atP (some f) xn)):=hPS
     rw [hM'] at hV hPS
     clear hM'
     obtain ⟨hT2,hl2⟩:=HSt.out M M' (ky,(xs,xh,xl,xn)) HMt.out HXb.out hPS
     rw [HMl.out] at hl2
     have HM2:Hid (packL (ps,ph,pl,pn) K (S.take (k + 1))=some M'):=Lib.hid (HTa.out.trans hPS)
     have HMl2:=Lib.hid hl2
     have HMt2:=Lib.hid hT2
     obtain ⟨a3,c3,a4,c4,rfl,q3,q4⟩:=hV
     rw [Hkn.out] at q3 ⊢
     rw [hl2] at q4 ⊢
     rw [show (plC (ps,ph,pl,pn) (.slice a3 kn c3) (.slice a4 (k + 1) c4)).toArray=#[.bool ps, .int .u64 (ph:Int), .int .u64 (pl:Int), .int .i64 pn, .slice a3 kn c3, .slice a4 (k + 1) c4] from rfl,show (some f).isSome=true from rfl]
     have HVn:Hid (Blk ((((((w4.setCell ⟨ob,0,none⟩ (.bool ps)).setCell ⟨ob,1,none⟩ (.int .u64 (ph:Int))).setCell ⟨ob,2,none⟩ (.int .u64 (pl:Int))).setCell ⟨ob,3,none⟩ (.int .i64 pn)).setCell ⟨ob,4,none⟩ (.slice a3 kn c3)).setCell ⟨ob,5,none⟩ (.slice a4 (k + 1) c4)) ob 34 #[.bool ps, .int .u64 (ph:Int), .int .u64 (pl:Int), .int .i64 pn, .slice a3 kn c3, .slice a4 (k + 1) c4]):=Lib.hid (HV4.out.set6w (x1':=.bool ps) (x2':=.int .u64 (ph:Int)) (x3':=.int .u64 (pl:Int)) (x4':=.int .i64 pn) (x5':=.slice a3 kn c3) (x6':=.slice a4 (k + 1) c4))
     have HOn:Hid (OwnK layPf ((((((w4.setCell ⟨ob,0,none⟩ (.bool ps)).setCell ⟨ob,1,none⟩ (.int .u64 (ph:Int))).setCell ⟨ob,2,none⟩ (.int .u64 (pl:Int))).setCell ⟨ob,3,none⟩ (.int .i64 pn)).setCell ⟨ob,4,none⟩ (.slice a3 kn c3)).setCell ⟨ob,5,none⟩ (.slice a4 (k + 1) c4)) wc.heap.size (.slice a3 kn c3) K∧OwnK layLs ((((((w4.setCell ⟨ob,0,none⟩ (.bool ps)).setCell ⟨ob,1,none⟩ (.int .u64 (ph:Int))).setCell ⟨ob,2,none⟩ (.int .u64 (pl:Int))).setCell ⟨ob,3,none⟩ (.int .i64 pn)).setCell ⟨ob,4,none⟩ (.slice a3 kn c3)).setCell ⟨ob,5,none⟩ (.slice a4 (k + 1) c4)) wc.heap.size (.slice a4 (k + 1) c4) M'):=Lib.hid ⟨(q3.weak Hs3.out).keepT (keep_set6 HV4.out (.bool ps) (.int .u64 (ph:Int)) (.int .u64 (pl:Int)) (.int .i64 pn) (.slice a3 kn c3) (.slice a4 (k + 1) c4)) (by decide),(q4.weak Hs3.out).keepT (keep_set6 HV4.out (.bool ps) (.int .u64 (ph:Int)) (.int .u64 (pl:Int)) (.int .i64 pn) (.slice a3 kn c3) (.slice a4 (k + 1) c4)) (by decide)⟩
     have HBn:Hid (Below wc.heap.size wc ((((((w4.setCell ⟨ob,0,none⟩ (.bool ps)).setCell ⟨ob,1,none⟩ (.int .u64 (ph:Int))).setCell ⟨ob,2,none⟩ (.int .u64 (pl:Int))).setCell ⟨ob,3,none⟩ (.int .i64 pn)).setCell ⟨ob,4,none⟩ (.slice a3 kn c3)).setCell ⟨ob,5,none⟩ (.slice a4 (k + 1) c4))):=Lib.hid (below_set6 HB4.out Hbg.out (.bool ps) (.int .u64 (ph:Int)) (.int .u64 (pl:Int)) (.int .i64 pn) (.slice a3 kn c3) (.slice a4 (k + 1) c4))
     obtain ⟨X4v,hX4⟩:∃ q,(pfC (gotX (some f) xn)).toArray=q:=⟨_,rfl⟩
     rw [hX4]
     clear hX4 q3 q4 hT2 hl2 hPS HTa HTk HSt HSb HOc HZ4 HB4 HBw4
     go_wp2_with fail
     exact ⟨⟨k + 1,M',a3,a4,c3,c4,by omega,by go_num,HM2,HMl2,HMt2,HVn,HOn,HBn⟩,by simp [intOf];omega⟩
  ·obtain rfl:k=ln:=by omega
   have HE:Hid (o=some M):=Lib.hid (by rw [← HOo.out, ← HM.out,List.take_of_length_le (Nat.le_of_eq HSl.out)])
   have HVf:Hid (PoolV ((((((wr.setCell ⟨pb + 1,0,none⟩ (.bool ps)).setCell ⟨pb + 1,1,none⟩ (.int .u64 (ph:Int))).setCell ⟨pb + 1,2,none⟩ (.int .u64 (pl:Int))).setCell ⟨pb + 1,3,none⟩ (.int .i64 pn)).setCell ⟨pb + 1,4,none⟩ (.slice b1 kn e1)).setCell ⟨pb + 1,5,none⟩ (.slice b2 k e2)) w.heap.size (.agg #[.bool ps, .int .u64 (ph:Int), .int .u64 (pl:Int), .int .i64 pn, .slice b1 kn e1, .slice b2 k e2]) (ps,ph,pl,pn) K M):=Lib.hid ⟨b1,e1,b2,e2,by rw [Hkn.out,HMl.out] <;> rfl,by rw [Hkn.out];exact (HO.out.1.weak HBc.out.size).keepT (keep_set6 HZr.out (.bool ps) (.int .u64 (ph:Int)) (.int .u64 (pl:Int)) (.int .i64 pn) (.slice b1 kn e1) (.slice b2 k e2)) (by decide),by rw [HMl.out];exact (HO.out.2.weak HBc.out.size).keepT (keep_set6 HZr.out (.bool ps) (.int .u64 (ph:Int)) (.int .u64 (pl:Int)) (.int .i64 pn) (.slice b1 kn e1) (.slice b2 k e2)) (by decide)⟩
   have HBf:Hid (Below w.heap.size w ((((((wr.setCell ⟨pb + 1,0,none⟩ (.bool ps)).setCell ⟨pb + 1,1,none⟩ (.int .u64 (ph:Int))).setCell ⟨pb + 1,2,none⟩ (.int .u64 (pl:Int))).setCell ⟨pb + 1,3,none⟩ (.int .i64 pn)).setCell ⟨pb + 1,4,none⟩ (.slice b1 kn e1)).setCell ⟨pb + 1,5,none⟩ (.slice b2 k e2))):=Lib.hid (below_set6 HBw.out (show w.heap.size≤pb + 1 by have:=Hpw.out;omega) (.bool ps) (.int .u64 (ph:Int)) (.int .u64 (pl:Int)) (.int .i64 pn) (.slice b1 kn e1) (.slice b2 k e2))
   have c6:=HZr.out.set6w (x1':=.bool ps) (x2':=.int .u64 (ph:Int)) (x3':=.int .u64 (pl:Int)) (x4':=.int .i64 pn) (x5':=.slice b1 kn e1) (x6':=.slice b2 k e2)
   have y0:=c6.cell 0
   have y1:=c6.cell 1
   have y2:=c6.cell 2
   have y3:=c6.cell 3
   have y4:=c6.cell 4
   have y5:=c6.cell 5
   simp at y0 y1 y2 y3 y4 y5
   clear c6
   have r0:=HZr.out.cell 0
   have r1:=HZr.out.cell 1
   have r2:=HZr.out.cell 2
   have r3:=HZr.out.cell 3
   have r4:=HZr.out.cell 4
   have r5:=HZr.out.cell 5
   simp at r0 r1 r2 r3 r4 r5
   have rf:=HZr.out.free
   have p0:=HV.out.cell 0
   have p1:=HV.out.cell 1
   have p2:=HV.out.cell 2
   have p3:=HV.out.cell 3
   have p4:=HV.out.cell 4
   have p5:=HV.out.cell 5
   simp at p0 p1 p2 p3 p4 p5
   clear HTk HSt HSb HOc HM HMt HO HBr HBw
   go_wp2_with fail
   refine bodyPost_ret (v:=.tuple #[.agg #[.bool ps, .int .u64 (ph:Int), .int .u64 (pl:Int), .int .i64 pn, .slice b1 kn e1, .slice b2 k e2], .bool true]) (by simp [results,Tryz.results26,go_sem, *]) rfl ⟨_,by rw [HE.out] <;> rfl,by rw [HE.out];exact HVf.out,HBf.out⟩
def packO (P:Pf) (K:List Pf) (L:List Ls):Option (List Ls):=if poolF P K L ≠ 0 then none else packL P K (stabLs cfBt L)
def packF (P:Pf) (K:List Pf) (L:List Ls):Int:=if poolF P K L ≠ 0 then poolF P K L else if (packL P K (stabLs cfBt L)).isSome=true then 0 else 12
theorem aPack_any (P:Pf) (ka la:Option Addr) (kn kc ln lc:Nat) (K:List Pf) (L:List Ls) (w:World) (hK:RdK layPf w ka K) (hL:RdK layLs w la L) (hkn:K.length=kn) (hln:L.length=ln) (hs:kn + ln≤7) (hlc:ln≤lc) (huP:u2P P) (huK:U4 K) (huL:UL L) :
  Calls Tryz.prog 24 #[.agg (plC P (.slice ka kn kc) (.slice la ln lc)).toArray] w fun e w' => ∃ v,e=.returned (.tuple #[v, .int .i64 (packF P K L)])∧PoolV w' w.heap.size v (gP (packO P K L) P) (gK (packO P K L) K) (gM (packO P K L))∧Below w.heap.size w w':=by
 have HCp:=Lib.hid fun wx (hk:RdK layPf wx ka K) (hl:RdK layLs wx la L) => checkPool_any P ka la kn kc ln lc K L wx hk hl hkn hln (by omega) (by omega) hlc huP huK huL
 by_cases h0:poolF P K L=0
 ·rw [h0] at HCp
  obtain ⟨hP, -, -,hT⟩:=poolF_ok h0 huP huK huL
  have hI:=lease_bits h0 huP huK huL
  have hO:packO P K L=packL P K (stabLs cfBt L)∧packF P K L=(if (packL P K (stabLs cfBt L)).isSome=true then 0 else 12):=by
   unfold packO packF
   constructor
   ·rw [if_neg (by rw [h0];decide)]
   ·rw [if_neg (by rw [h0];decide)]
  rw [hO.1,hO.2]
  clear hO h0 huP huK huL hlc
  have Hkn:=Lib.hid hkn
  have Hln:=Lib.hid hln
  have HCK:=Lib.hid fun wx (hr:RdK layPf wx ka K) => clonePf_any ka kn kc K wx hr hkn (by omega)
  have HCL:=Lib.hid fun wx (hr:RdK layLs wx la L) => cloneLs_any la ln lc L wx hr hln (by omega)
  have hlp:=lenN_le P.1
  have hsame:=stab_same (L:=L) fun x hx => ⟨(hI x hx).1,by have:=(hI x hx).2;omega⟩
  have HSb:Hid (∀ x ∈ stabLs cfBt L,x.2.2.2.2≤((lenN P.1:Nat):Int)):=Lib.hid fun x hx => (hI x (mem_stabLs hx)).2
  have HSl:Hid ((stabLs cfBt L).length=ln):=Lib.hid (by rw [stabLs_len,hln])
  have HSt:Hid (∀ (M M':List Ls) (x:Ls),(∀ p ∈ takenL K M,OkPf p)→x.2.2.2.2≤((lenN P.1:Nat):Int)→packS P K (some M) x=some M'→(∀ p ∈ takenL K M',OkPf p)∧M'.length=M.length + 1):=Lib.hid fun M M' x h1 h2 h3 => pack_step hP h1 h2 h3
  have HT0:Hid (∀ p ∈ takenL K ([]:List Ls),OkPf p):=Lib.hid fun p hp => hT p (by
   unfold takenL at hp ⊢
   rw [List.map_nil,List.append_nil] at hp
   exact List.mem_append_left _ hp)
  have HTk:Hid (∀ (M:List Ls) (b1 b2:Option Addr) (k e1 e2:Nat) (n:Int) wx,RdK layPf wx b1 K→RdK layLs wx b2 M→M.length=k→kn + k≤7→(∀ p ∈ takenL K M,OkPf p)→Calls Tryz.prog 70 #[.agg (plC P (.slice b1 kn e1) (.slice b2 k e2)).toArray, .int .i64 n, .bool false] wx (Ret (.tuple #[.agg (pfC (atP (chP false n (freeL P K M)) n)).toArray, .bool (chP false n (freeL P K M)).isSome]) wx)):=Lib.hid fun M b1 b2 k e1 e2 n wx h1 h2 h3 h4 h5 => achoose_any false P b1 b2 kn e1 k e2 K M n wx h1 h2 hkn h3 h4 hP h5
  have HLd:Hid (∀ (M:List Ls) (b1 b2:Option Addr) (k e1 e2:Nat) (ky:List UInt8) (x:Pf) wx,RdK layPf wx b1 K→RdK layLs wx b2 M→M.length=k→k≤11→Calls Tryz.prog 66 #[.agg (plC P (.slice b1 kn e1) (.slice b2 k e2)).toArray, .string (strL ky), .agg (pfC x).toArray] wx fun e w' => ∃ v,e=.returned v∧PoolV w' wx.heap.size v P K (leasedL M ky x)∧Below wx.heap.size wx w'):=Lib.hid fun M b1 b2 k e1 e2 ky x wx h1 h2 h3 h4 => aleased_any P b1 b2 kn e1 k e2 K M ky x wx h1 h2 hkn h3 (by omega) h4
  obtain ⟨S,hS⟩:∃ S,stabLs cfBt L=S:=⟨_,rfl⟩
  have HSq:Hid (stabLs cfBt L=S):=Lib.hid hS
  rw [hS] at HSb HSl ⊢
  obtain ⟨o,ho⟩:∃ o,packL P K S=o:=⟨_,rfl⟩
  have HOo:=Lib.hid ho
  rw [ho]
  clear ho hS hsame hkn hln hI hT
  obtain ⟨FE,hFE⟩:∃ q:Int,(if o.isSome=true then (0:Int) else 12)=q:=⟨_,rfl⟩
  have HFE:=Lib.hid hFE
  rw [hFE]
  clear hFE hP hlp
  obtain ⟨ps,ph,pl,pn⟩:=P
  rw [show (plC (ps,ph,pl,pn) (.slice ka kn kc) (.slice la ln lc)).toArray=#[.bool ps, .int .u64 (ph:Int), .int .u64 (pl:Int), .int .i64 pn, .slice ka kn kc, .slice la ln lc] from rfl] at *
  have hB01:Below w.heap.size w ((w.alloc (.cells #[.bool ps, .int .u64 (ph:Int), .int .u64 (pl:Int), .int .i64 pn, .slice ka kn kc, .slice la ln lc] 34 (0,0))).alloc (.cells #[.bool false, .int .u64 0, .int .u64 0, .int .i64 0, .slice none 0 0, .slice none 0 0] 34 (0,0))):=below_alloc (below_alloc (Below.refl _ _) _) _
  have HB1:=Lib.hid hB01
  have HKw:=Lib.hid hK
  have HLw:=Lib.hid hL
  have HQ1:Hid (Blk ((w.alloc (.cells #[.bool ps, .int .u64 (ph:Int), .int .u64 (pl:Int), .int .i64 pn, .slice ka kn kc, .slice la ln lc] 34 (0,0))).alloc (.cells #[.bool false, .int .u64 0, .int .u64 0, .int .i64 0, .slice none 0 0, .slice none 0 0] 34 (0,0))) w.heap.size 34 #[.bool ps, .int .u64 (ph:Int), .int .u64 (pl:Int), .int .i64 pn, .slice ka kn kc, .slice la ln lc]):=Lib.hid ((Blk.new w _ _).alloc _)
  have HZ1:Hid (Blk ((w.alloc (.cells #[.bool ps, .int .u64 (ph:Int), .int .u64 (pl:Int), .int .i64 pn, .slice ka kn kc, .slice la ln lc] 34 (0,0))).alloc (.cells #[.bool false, .int .u64 0, .int .u64 0, .int .i64 0, .slice none 0 0, .slice none 0 0] 34 (0,0))) (w.heap.size + 1) 34 #[.bool false, .int .u64 0, .int .u64 0, .int .i64 0, .slice none 0 0, .slice none 0 0]):=Lib.hid (by
   have this:=Blk.new (w.alloc (.cells #[.bool ps, .int .u64 (ph:Int), .int .u64 (pl:Int), .int .i64 pn, .slice ka kn kc, .slice la ln lc] 34 (0,0))) 34 #[.bool false, .int .u64 0, .int .u64 0, .int .i64 0, .slice none 0 0, .slice none 0 0]
   rw [World.size_alloc] at this
   exact this)
  clear hK hL hB01
  go_enter Tryz.func24,Tryz.ntmps24
  go_upto_region 1 with fail
  generalize ((w.alloc (.cells #[.bool ps, .int .u64 (ph:Int), .int .u64 (pl:Int), .int .i64 pn, .slice ka kn kc, .slice la ln lc] 34 (0,0))).alloc (.cells #[.bool false, .int .u64 0, .int .u64 0, .int .i64 0, .slice none 0 0, .slice none 0 0] 34 (0,0)))=w1 at *
  obtain ⟨pb,hpb⟩:∃ q,w.heap.size=q:=⟨_,rfl⟩
  have Hpw:Hid (w.heap.size≤pb):=Lib.hid (by omega)
  rw [hpb] at HQ1 HZ1 ⊢
  clear hpb
  have p0:=HQ1.out.cell 0
  have p1:=HQ1.out.cell 1
  have p2:=HQ1.out.cell 2
  have p3:=HQ1.out.cell 3
  have p4:=HQ1.out.cell 4
  have p5:=HQ1.out.cell 5
  simp at p0 p1 p2 p3 p4 p5
  go_wp2_with fail
  refine (HCp.out w1 (HKw.out.below HB1.out) (HLw.out.below HB1.out)).mono ?_
  rintro e wa ⟨rfl,hb⟩
  have HQa:=Lib.hid (HQ1.out.below hb HQ1.out.lt)
  have HZa:=Lib.hid (HZ1.out.below hb HZ1.out.lt)
  have HBa:=Lib.hid (HB1.out.trans (hb.mono HB1.out.size))
  clear hb HCp p0 p1 p2 p3 p4 p5 HQ1 HZ1 HB1
  have p5:=HQa.out.cell 5
  simp at p5
  go_wp2_with fail
  refine (HCL.out wa (HLw.out.below HBa.out)).mono ?_
  rintro e wb ⟨v,rfl,hO,hb⟩
  obtain ⟨sa,sc,rfl, -, -, -⟩:=hO.form
  rw [Hln.out] at hO ⊢
  have HOb:=Lib.hid hO
  have HQb:=Lib.hid (HQa.out.below hb HQa.out.lt)
  have HZb:=Lib.hid (HZa.out.below hb HZa.out.lt)
  have HBb:=Lib.hid (HBa.out.trans (hb.mono HBa.out.size))
  have Hwab:Hid (w.heap.size≤wa.heap.size):=Lib.hid HBa.out.size
  clear hO hb p5 HQa HZa HCL HBa
  have egs:∀ args w,(callFunc 68 args).run Tryz.prog w=.ok (.enter 68 args) w:=Go.Proofs.enters_of Tryz.func68 (by kernel_rfl) rfl
  have HSr:=Lib.hid (sortStableLs_any cfBt 68 cfBt rfl egs pka_any wa.heap.size ln sc sa L wb HOb.out (by omega))
  rw [HSq.out] at HSr
  clear egs
  go_wp2_with fail
  refine HSr.out.mono ?_
  rintro e wc ⟨rfl,ho,hG⟩
  have hk:=KeepT.of_grew (S:=[67]) HOb.out hG (by decide)
  have HOc:=Lib.hid ho.rd
  have HBc:=Lib.hid (HBb.out.trans (hG.below HBb.out.size (own_base (HOb.out.weak Hwab.out))))
  have HQc:=Lib.hid (HQb.out.keepS hk (by decide))
  have HZc:=Lib.hid (HZb.out.keepS hk (by decide))
  have HKc:=Lib.hid (HKw.out.below HBc.out)
  clear ho hG hk HOb HQb HZb HBb HSr Hwab
  have p0:=HQc.out.cell 0
  have p1:=HQc.out.cell 1
  have p2:=HQc.out.cell 2
  have p3:=HQc.out.cell 3
  have p4:=HQc.out.cell 4
  simp at p0 p1 p2 p3 p4
  have l0:=Later.cell_of p0
  have l1:=Later.cell_of p1
  have l2:=Later.cell_of p2
  have l3:=Later.cell_of p3
  have l4:=Later.cell_of p4
  go_upto_region 6 with fail
  refine wp_region_inv 7 0 (pkR pb ps ph pl pn (.slice ka kn kc) wc.heap.size K) (fun _ wx => Below wc.heap.size wc wx) (fun u v => Below u.heap.size u v) (fun _ => 0)
   (by kernel_rfl) (by kernel_rfl) (by decide) pkR_keep (below_drew (Below.refl _ _)) ?hX
  case' hX => (apply Exists.intro;refine ⟨fun T => ?hA,?hob,?hend⟩)
  case hA =>
   simp only [setAll,List.take_succ_cons,List.take_zero,Act.put,List.setIfInBounds_toArray,List.set_cons_succ,List.set_cons_zero,Nat.reduceAdd]
   exact rfl
  case hob =>
   clear HQc HZc p0 p1 p2 p3 p4 HOc HTk HSt HSb HLd
   go_light
   refine ⟨?_,?_,?_,?_,?_,?_,?_,trivial⟩
   all_goals (intro T wx n0 hC hn hp;dsimp only at hn ⊢;unfold Op1)
   ·go_simp
    first | exact ⟨rfl,hC,Below.refl _ _⟩ | exact ⟨rfl,Below.refl _ _⟩ | exact Below.refl _ _
   ·obtain ⟨h0, -⟩:=hp
    have h0:T 0=.pointer (some ⟨pb,0,none⟩):=h0
    have e0:=l0 ⟨wx,hC⟩
    have e1:=l1 ⟨wx,hC⟩
    have e2:=l2 ⟨wx,hC⟩
    have e3:=l3 ⟨wx,hC⟩
    simp only at e0 e1 e2 e3
    go_simp
    first | exact ⟨rfl,hC,Below.refl _ _⟩ | exact ⟨rfl,Below.refl _ _⟩ | exact Below.refl _ _
   ·go_simp
    first | exact ⟨rfl,hC,Below.refl _ _⟩ | exact ⟨rfl,Below.refl _ _⟩ | exact Below.refl _ _
   ·obtain ⟨h0, -⟩:=hp
    have h0:T 2=.pointer (some ⟨pb,4,none⟩):=h0
    have e4:=l4 ⟨wx,hC⟩
    simp only at e4
    go_simp
    first | exact ⟨rfl,hC,Below.refl _ _⟩ | exact ⟨rfl,Below.refl _ _⟩ | exact Below.refl _ _
   ·obtain ⟨h0, -⟩:=hp
    have h0:T 3=.slice ka kn kc:=h0
    go_simp
    refine (HCK.out wx (HKc.out.below hC)).mono ?_
    rintro e w5 ⟨v,rfl,hO,hb⟩
    obtain ⟨a5,c5,rfl,_⟩:=hO.form
    exact ⟨_,rfl,⟨_,_,rfl,hO.weak hC.size⟩,hC.trans (hb.mono hC.size),hb⟩
   ·obtain ⟨h0,h1, -⟩:=hp
    have h0:T 1=.agg #[.bool ps, .int .u64 (ph:Int), .int .u64 (pl:Int), .int .i64 pn]:=h0
    obtain ⟨a1,c1,h1,q1⟩:∃ a c,T 4=.slice a K.length c∧OwnK layPf wx wc.heap.size (T 4) K:=h1
    rw [h1] at q1
    have HV:=Lib.hid q1
    clear q1
    go_simp
    first | exact ⟨⟨a1,c1,rfl,HV.out⟩,hC,Below.refl _ _⟩ | exact ⟨⟨a1,c1,rfl,HV.out⟩,Below.refl _ _⟩
   ·go_simp
    exact ⟨⟨wx.heap.size,rfl,hC.size,Blk.new wx _ _⟩,below_alloc hC _,below_alloc (Below.refl _ _) _⟩
  case hend =>
  intro T wd ⟨n0,hn0,hb⟩ hR
  obtain ⟨a1,c1,hv,q1⟩:∃ a c,T 5=.agg #[.bool ps, .int .u64 (ph:Int), .int .u64 (pl:Int), .int .i64 pn, .slice a K.length c, .slice none 0 0]∧OwnK layPf wd wc.heap.size (.slice a K.length c) K:=hR 5 (by omega)
  obtain ⟨ob,h6,hBg,hBl⟩:∃ B,T 6=.pointer (some ⟨B,0,none⟩)∧wc.heap.size≤B∧Blk wd B 34 #[.bool false, .int .u64 0, .int .u64 0, .int .i64 0, .slice none 0 0, .slice none 0 0]:=hR 6 (by omega)
  rw [Hkn.out] at hv q1
  have HV5:Hid (Blk ((((((wd.setCell ⟨ob,0,none⟩ (.bool ps)).setCell ⟨ob,1,none⟩ (.int .u64 (ph:Int))).setCell ⟨ob,2,none⟩ (.int .u64 (pl:Int))).setCell ⟨ob,3,none⟩ (.int .i64 pn)).setCell ⟨ob,4,none⟩ (.slice a1 kn c1)).setCell ⟨ob,5,none⟩ (.slice none 0 0)) ob 34 #[.bool ps, .int .u64 (ph:Int), .int .u64 (pl:Int), .int .i64 pn, .slice a1 kn c1, .slice none 0 0]):=Lib.hid (hBl.set6w (x1':=.bool ps) (x2':=.int .u64 (ph:Int)) (x3':=.int .u64 (pl:Int)) (x4':=.int .i64 pn) (x5':=.slice a1 kn c1) (x6':=.slice none 0 0))
  have HK5:Hid (OwnK layPf ((((((wd.setCell ⟨ob,0,none⟩ (.bool ps)).setCell ⟨ob,1,none⟩ (.int .u64 (ph:Int))).setCell ⟨ob,2,none⟩ (.int .u64 (pl:Int))).setCell ⟨ob,3,none⟩ (.int .i64 pn)).setCell ⟨ob,4,none⟩ (.slice a1 kn c1)).setCell ⟨ob,5,none⟩ (.slice none 0 0)) wc.heap.size (.slice a1 kn c1) K):=Lib.hid (q1.keepT (keep_set6 hBl (.bool ps) (.int .u64 (ph:Int)) (.int .u64 (pl:Int)) (.int .i64 pn) (.slice a1 kn c1) (.slice none 0 0)) (by decide))
  have HB5:Hid (Below wc.heap.size wc ((((((wd.setCell ⟨ob,0,none⟩ (.bool ps)).setCell ⟨ob,1,none⟩ (.int .u64 (ph:Int))).setCell ⟨ob,2,none⟩ (.int .u64 (pl:Int))).setCell ⟨ob,3,none⟩ (.int .i64 pn)).setCell ⟨ob,4,none⟩ (.slice a1 kn c1)).setCell ⟨ob,5,none⟩ (.slice none 0 0))):=Lib.hid (below_set6 hb hBg (.bool ps) (.int .u64 (ph:Int)) (.int .u64 (pl:Int)) (.int .i64 pn) (.slice a1 kn c1) (.slice none 0 0))
  have Hbg:Hid (wc.heap.size≤ob):=Lib.hid hBg
  have Hzl:Hid (pb + 1 < wc.heap.size):=Lib.hid HZc.out.lt
  have r0:=hBl.cell 0
  have r1:=hBl.cell 1
  have r2:=hBl.cell 2
  have r3:=hBl.cell 3
  have r4:=hBl.cell 4
  have r5:=hBl.cell 5
  simp at r0 r1 r2 r3 r4 r5
  have rf:=hBl.free
  clear hR hb q1 hBl hBg p0 p1 p2 p3 p4 l0 l1 l2 l3 l4 HQc HKc HCK HKw HLw
  simp only [List.drop_succ_cons,List.drop_zero]
  rw [hv,h6]
  go_upto_region 7 with fail
  generalize ((((((wd.setCell ⟨ob,0,none⟩ (.bool ps)).setCell ⟨ob,1,none⟩ (.int .u64 (ph:Int))).setCell ⟨ob,2,none⟩ (.int .u64 (pl:Int))).setCell ⟨ob,3,none⟩ (.int .i64 pn)).setCell ⟨ob,4,none⟩ (.slice a1 kn c1)).setCell ⟨ob,5,none⟩ (.slice none 0 0))=we at *
  clear r0 r1 r2 r3 r4 r5 rf hv h6
  go_wp2_with fail
  go_loopw [8,9,10,30] (fun s8 s9 s10 i wr => ∃ (k:Nat) (M:List Ls) (b1 b2:Option Addr) (e1 e2:Nat),k≤ln∧i=.int .i64 (k:Int)∧Hid (packL (ps,ph,pl,pn) K (S.take k)=some M)∧Hid (M.length=k)∧Hid (∀ p ∈ takenL K M,OkPf p)∧Hid (Blk wr ob 34 #[.bool ps, .int .u64 (ph:Int), .int .u64 (pl:Int), .int .i64 pn, .slice b1 kn e1, .slice b2 k e2])∧Hid (OwnK layPf wr wc.heap.size (.slice b1 kn e1) K∧OwnK layLs wr wc.heap.size (.slice b2 k e2) M)∧Hid (Below wc.heap.size wc wr)) (fun _ _ _ i _ => ln - (intOf i).toNat)
  case atStart => exact ⟨0, [],a1,none,c1,0,Nat.zero_le _,rfl,Lib.hid rfl,Lib.hid rfl,HT0,HV5,Lib.hid ⟨HK5.out,OwnK.nil _ _ _⟩,HB5⟩
  case round =>
   clear HV5 HK5 HB5 HT0
   obtain ⟨k,M,b1,b2,e1,e2,hk,rfl,HM,HMl,HMt,HV,HO,HBr⟩:=hrel
   have HZr:=Lib.hid (HZc.out.below HBr.out HZc.out.lt)
   have HBw:=Lib.hid (HBc.out.trans (HBr.out.mono HBc.out.size))
   by_cases hlt:k < ln
   ·obtain ⟨x,hx⟩:∃ x,S[k]?=some x:=⟨_,List.getElem?_eq_getElem (by rw [HSl.out];exact hlt)⟩
    have HXb:=Lib.hid (HSb.out x (List.mem_of_getElem? hx))
    have HTa:Hid (packL (ps,ph,pl,pn) K (S.take (k + 1))=packS (ps,ph,pl,pn) K (some M) x):=Lib.hid (by rw [packL_take hx,HM.out])
    obtain ⟨ky,xs,xh,xl,xn⟩:=x
    obtain ⟨g,off,had,hg,d0,d1,d2,d3,d4⟩:=(HOc.out.below HBr.out).ls hx
    subst had
    have HX3:Hid (Blk (wr.alloc (.cells #[.string (strL ky), .bool xs, .int .u64 (xh:Int), .int .u64 (xl:Int), .int .i64 xn] 67 (0,0))) wr.heap.size 67 #[.string (strL ky), .bool xs, .int .u64 (xh:Int), .int .u64 (xl:Int), .int .i64 xn]):=Lib.hid (Blk.new wr _ _)
    have hb3:Below wr.heap.size wr (wr.alloc (.cells #[.string (strL ky), .bool xs, .int .u64 (xh:Int), .int .u64 (xl:Int), .int .i64 xn] 67 (0,0))):=below_alloc (Below.refl _ _) _
    have HV3:=Lib.hid (HV.out.below hb3 HV.out.lt)
    have HZ3:=Lib.hid (HZr.out.below hb3 HZr.out.lt)
    have HO3:=Lib.hid (And.intro (HO.out.1.later hb3) (HO.out.2.later hb3))
    have HB3:=Lib.hid (HBr.out.trans (hb3.mono HBr.out.size))
    have HBw3:=Lib.hid (HBw.out.trans (hb3.mono HBw.out.size))
    have Hobx:Hid (ob < wr.heap.size):=Lib.hid HV.out.lt
    clear hb3 hx HM HV HO HBr HZr HBw
    go_upto_region 10 with fail
    generalize wr.alloc (.cells #[.string (strL ky), .bool xs, .int .u64 (xh:Int), .int .u64 (xl:Int), .int .i64 xn] 67 (0,0))=w3 at *
    obtain ⟨xb,hxb⟩:∃ q,wr.heap.size=q:=⟨_,rfl⟩
    rw [hxb] at HX3 Hobx ⊢
    clear hxb hg d0 d1 d2 d3 d4
    have p0:=HV3.out.cell 0
    have p1:=HV3.out.cell 1
    have p2:=HV3.out.cell 2
    have p3:=HV3.out.cell 3
    have p4:=HV3.out.cell 4
    have p5:=HV3.out.cell 5
    simp at p0 p1 p2 p3 p4 p5
    have d0:=HX3.out.cell 0
    have d1:=HX3.out.cell 1
    have d2:=HX3.out.cell 2
    have d3:=HX3.out.cell 3
    have d4:=HX3.out.cell 4
    simp at d0 d1 d2 d3 d4
    have hTk:=HTk.out M b1 b2 k e1 e2 xn w3 HO3.out.1.rd HO3.out.2.rd HMl.out (by omega) HMt.out
    rw [show (plC (ps,ph,pl,pn) (.slice b1 kn e1) (.slice b2 k e2)).toArray=#[.bool ps, .int .u64 (ph:Int), .int .u64 (pl:Int), .int .i64 pn, .slice b1 kn e1, .slice b2 k e2] from rfl] at hTk
    obtain ⟨ch,hch⟩:∃ q,chP false xn (freeL (ps,ph,pl,pn) K M)=q:=⟨_,rfl⟩
    rw [hch] at hTk
    have hPS:=packS_some (x:=(ky,(xs,xh,xl,xn))) hch
    clear hch
    have HTk1:=Lib.hid hTk
    clear hTk
    go_wp2_with fail
    refine HTk1.out.mono ?_
    rintro e w4 ⟨rfl,hb⟩
    have HV4:=Lib.hid (HV3.out.below hb HV3.out.lt)
    have HX4:=Lib.hid (HX3.out.below hb HX3.out.lt)
    have HZ4:=Lib.hid (HZ3.out.below hb HZ3.out.lt)
    have HO4:=Lib.hid (And.intro (HO3.out.1.later hb) (HO3.out.2.later hb))
    have HB4:=Lib.hid (HB3.out.trans (hb.mono HB3.out.size))
    have HBw4:=Lib.hid (HBw3.out.trans (hb.mono HBw3.out.size))
    clear hb HTk1 p0 p1 p2 p3 p4 p5 d0 d1 d2 d3 d4 HX3 HV3 HZ3 HO3 HB3 HBw3
    cases ch with
    | none =>
      have HE:Hid (o=none):=Lib.hid (by rw [← HOo.out];exact packL_none (HTa.out.trans hPS))
      have HFx:Hid (FE=12):=Lib.hid (by rw [← HFE.out,HE.out];rfl)
      rw [show (pfC (atP none xn)).toArray=#[.bool false, .int .u64 ((0:Nat):Int), .int .u64 ((0:Nat):Int), .int .i64 xn] from rfl,show (none:Option Pf).isSome=false from rfl]
      have HZx:=Lib.hid (HZ4.out.alloc (.cells #[.bool false, .int .u64 ((0:Nat):Int), .int .u64 ((0:Nat):Int), .int .i64 xn] 30 (0,0)))
      have HBx:Hid (Below w.heap.size w (w4.alloc (.cells #[.bool false, .int .u64 ((0:Nat):Int), .int .u64 ((0:Nat):Int), .int .i64 xn] 30 (0,0)))):=Lib.hid (Below.alloc HBw4.out HBw4.out.size _)
      clear hPS HTa HTk HSt HSb HOc HZc HBc HLd HFE
      go_upto_region 11 with fail
      generalize w4.alloc (.cells #[.bool false, .int .u64 ((0:Nat):Int), .int .u64 ((0:Nat):Int), .int .i64 xn] 30 (0,0))=w5 at *
      clear HV4 HX4 HZ4 HO4 HB4 HBw4
      have c6:=HZx.out.set6w (x1':=.bool false) (x2':=.int .u64 0) (x3':=.int .u64 0) (x4':=.int .i64 0) (x5':=.slice none 0 0) (x6':=.slice none 0 0)
      have y0:=c6.cell 0
      have y1:=c6.cell 1
      have y2:=c6.cell 2
      have y3:=c6.cell 3
      have y4:=c6.cell 4
      have y5:=c6.cell 5
      simp at y0 y1 y2 y3 y4 y5
      clear c6
      have q0:=HZx.out.cell 0
      have q1:=HZx.out.cell 1
      have q2:=HZx.out.cell 2
      have q3:=HZx.out.cell 3
      have q4:=HZx.out.cell 4
      have q5:=HZx.out.cell 5
      simp at q0 q1 q2 q3 q4 q5
      have qf:=HZx.out.free
      have HBf:Hid (Below w.heap.size w ((((((w5.setCell ⟨pb + 1,0,none⟩ (.bool false)).setCell ⟨pb + 1,1,none⟩ (.int .u64 0)).setCell ⟨pb + 1,2,none⟩ (.int .u64 0)).setCell ⟨pb + 1,3,none⟩ (.int .i64 0)).setCell ⟨pb + 1,4,none⟩ (.slice none 0 0)).setCell ⟨pb + 1,5,none⟩ (.slice none 0 0))):=Lib.hid (below_set6 HBx.out (show w.heap.size≤pb + 1 by have:=Hpw.out;omega) (.bool false) (.int .u64 0) (.int .u64 0) (.int .i64 0) (.slice none 0 0) (.slice none 0 0))
      go_wp2_with fail
      refine bodyPost_ret (v:=.tuple #[.agg #[.bool false, .int .u64 0, .int .u64 0, .int .i64 0, .slice none 0 0, .slice none 0 0], .int .i64 12]) (by simp [results,Tryz.results24,go_sem, *]) rfl ⟨_,by rw [HFx.out],by rw [HE.out];exact poolV_zero _ _,HBf.out⟩
    | some f =>
      obtain ⟨M',hM'⟩:∃ q,leasedL M ky (atP (some f) xn)=q:=⟨_,rfl⟩
      have hPS:packS (ps,ph,pl,pn) K (some M) (ky,(xs,xh,xl,xn))=some (leasedL M ky (atP (some f) xn)):=hPS
      rw [hM'] at hPS
      obtain ⟨hT2,hl2⟩:=HSt.out M M' (ky,(xs,xh,xl,xn)) HMt.out HXb.out hPS
      rw [HMl.out] at hl2
      have HM2:Hid (packL (ps,ph,pl,pn) K (S.take (k + 1))=some M'):=Lib.hid (HTa.out.trans hPS)
      have HMl2:=Lib.hid hl2
      have HMt2:=Lib.hid hT2
      have HMe:=Lib.hid hM'
      obtain ⟨f1,f2,f3,f4⟩:=f
      rw [show (pfC (atP (some (f1,f2,f3,f4)) xn)).toArray=#[.bool f1, .int .u64 (f2:Int), .int .u64 (f3:Int), .int .i64 xn] from rfl,show (some (f1,f2,f3,f4)).isSome=true from rfl]
      have hb5:Below w4.heap.size w4 (w4.alloc (.cells #[.bool f1, .int .u64 (f2:Int), .int .u64 (f3:Int), .int .i64 xn] 30 (0,0))):=below_alloc (Below.refl _ _) _
      have HY5:Hid (Blk (w4.alloc (.cells #[.bool f1, .int .u64 (f2:Int), .int .u64 (f3:Int), .int .i64 xn] 30 (0,0))) w4.heap.size 30 #[.bool f1, .int .u64 (f2:Int), .int .u64 (f3:Int), .int .i64 xn]):=Lib.hid (Blk.new w4 _ _)
      have HV5:=Lib.hid (HV4.out.below hb5 HV4.out.lt)
      have HX5:=Lib.hid (HX4.out.below hb5 HX4.out.lt)
      have HO5:=Lib.hid (And.intro (HO4.out.1.later hb5) (HO4.out.2.later hb5))
      have HB5:=Lib.hid (HB4.out.trans (hb5.mono HB4.out.size))
      clear hb5 hM' hT2 hl2 hPS HTa HTk HSt HSb HOc HZ4 HBw4 HV4 HX4 HO4 HB4 HFE
      go_upto_region 13 with fail
      generalize w4.alloc (.cells #[.bool f1, .int .u64 (f2:Int), .int .u64 (f3:Int), .int .i64 xn] 30 (0,0))=w5 at *
      obtain ⟨yb,hyb⟩:∃ q,w4.heap.size=q:=⟨_,rfl⟩
      rw [hyb] at HY5 ⊢
      clear hyb
      have p0:=HV5.out.cell 0
      have p1:=HV5.out.cell 1
      have p2:=HV5.out.cell 2
      have p3:=HV5.out.cell 3
      have p4:=HV5.out.cell 4
      have p5:=HV5.out.cell 5
      simp at p0 p1 p2 p3 p4 p5
      have d0:=HX5.out.cell 0
      simp at d0
      have q0:=HY5.out.cell 0
      have q1:=HY5.out.cell 1
      have q2:=HY5.out.cell 2
      have q3:=HY5.out.cell 3
      simp at q0 q1 q2 q3
      have hLd:=HLd.out M b1 b2 k e1 e2 ky (f1,f2,f3,xn) w5 HO5.out.1.rd HO5.out.2.rd HMl.out (by omega)
      rw [show (plC (ps,ph,pl,pn) (.slice b1 kn e1) (.slice b2 k e2)).toArray=#[.bool ps, .int .u64 (ph:Int), .int .u64 (pl:Int), .int .i64 pn, .slice b1 kn e1, .slice b2 k e2] from rfl,show (pfC (f1,f2,f3,xn)).toArray=#[.bool f1, .int .u64 (f2:Int), .int .u64 (f3:Int), .int .i64 xn] from rfl,show leasedL M ky (f1,f2,f3,xn)=M' from HMe.out] at hLd
      have HLd1:=Lib.hid hLd
      clear hLd HLd HO5
      go_wp2_with fail
      refine HLd1.out.mono ?_
      rintro e w6 ⟨v,rfl,hV,hb⟩
      have HV6:=Lib.hid (HV5.out.below hb HV5.out.lt)
      have HB6:=Lib.hid (HB5.out.trans (hb.mono HB5.out.size))
      have Hs5:Hid (wc.heap.size≤w5.heap.size):=Lib.hid HB5.out.size
      clear hb HLd1 p0 p1 p2 p3 p4 p5 d0 q0 q1 q2 q3 HV5 HX5 HY5 HB5
      have r0:=HV6.out.cell 0
      have r1:=HV6.out.cell 1
      have r2:=HV6.out.cell 2
      have r3:=HV6.out.cell 3
      have r4:=HV6.out.cell 4
      have r5:=HV6.out.cell 5
      simp at r0 r1 r2 r3 r4 r5
      have rf:=HV6.out.free
      obtain ⟨a3,c3,a4,c4,rfl,q3,q4⟩:=hV
      rw [Hkn.out] at q3 ⊢
      rw [HMl2.out] at q4 ⊢
      rw [show (plC (ps,ph,pl,pn) (.slice a3 kn c3) (.slice a4 (k + 1) c4)).toArray=#[.bool ps, .int .u64 (ph:Int), .int .u64 (pl:Int), .int .i64 pn, .slice a3 kn c3, .slice a4 (k + 1) c4] from rfl]
      have HVn:Hid (Blk ((((((w6.setCell ⟨ob,0,none⟩ (.bool ps)).setCell ⟨ob,1,none⟩ (.int .u64 (ph:Int))).setCell ⟨ob,2,none⟩ (.int .u64 (pl:Int))).setCell ⟨ob,3,none⟩ (.int .i64 pn)).setCell ⟨ob,4,none⟩ (.slice a3 kn c3)).setCell ⟨ob,5,none⟩ (.slice a4 (k + 1) c4)) ob 34 #[.bool ps, .int .u64 (ph:Int), .int .u64 (pl:Int), .int .i64 pn, .slice a3 kn c3, .slice a4 (k + 1) c4]):=Lib.hid (HV6.out.set6w (x1':=.bool ps) (x2':=.int .u64 (ph:Int)) (x3':=.int .u64 (pl:Int)) (x4':=.int .i64 pn) (x5':=.slice a3 kn c3) (x6':=.slice a4 (k + 1) c4))
      have HOn:Hid (OwnK layPf ((((((w6.setCell ⟨ob,0,none⟩ (.bool ps)).setCell ⟨ob,1,none⟩ (.int .u64 (ph:Int))).setCell ⟨ob,2,none⟩ (.int .u64 (pl:Int))).setCell ⟨ob,3,none⟩ (.int .i64 pn)).setCell ⟨ob,4,none⟩ (.slice a3 kn c3)).setCell ⟨ob,5,none⟩ (.slice a4 (k + 1) c4)) wc.heap.size (.slice a3 kn c3) K∧OwnK layLs ((((((w6.setCell ⟨ob,0,none⟩ (.bool ps)).setCell ⟨ob,1,none⟩ (.int .u64 (ph:Int))).setCell ⟨ob,2,none⟩ (.int .u64 (pl:Int))).setCell ⟨ob,3,none⟩ (.int .i64 pn)).setCell ⟨ob,4,none⟩ (.slice a3 kn c3)).setCell ⟨ob,5,none⟩ (.slice a4 (k + 1) c4)) wc.heap.size (.slice a4 (k + 1) c4) M'):=Lib.hid ⟨(q3.weak Hs5.out).keepT (keep_set6 HV6.out (.bool ps) (.int .u64 (ph:Int)) (.int .u64 (pl:Int)) (.int .i64 pn) (.slice a3 kn c3) (.slice a4 (k + 1) c4)) (by decide),(q4.weak Hs5.out).keepT (keep_set6 HV6.out (.bool ps) (.int .u64 (ph:Int)) (.int .u64 (pl:Int)) (.int .i64 pn) (.slice a3 kn c3) (.slice a4 (k + 1) c4)) (by decide)⟩
      have HBn:Hid (Below wc.heap.size wc ((((((w6.setCell ⟨ob,0,none⟩ (.bool ps)).setCell ⟨ob,1,none⟩ (.int .u64 (ph:Int))).setCell ⟨ob,2,none⟩ (.int .u64 (pl:Int))).setCell ⟨ob,3,none⟩ (.int .i64 pn)).setCell ⟨ob,4,none⟩ (.slice a3 kn c3)).setCell ⟨ob,5,none⟩ (.slice a4 (k + 1) c4))):=Lib.hid (below_set6 HB6.out Hbg.out (.bool ps) (.int .u64 (ph:Int)) (.int .u64 (pl:Int)) (.int .i64 pn) (.slice a3 kn c3) (.slice a4 (k + 1) c4))
      clear q3 q4 HB6
      go_wp2_with fail
      exact ⟨⟨k + 1,M',a3,a4,c3,c4,by omega,by go_num,HM2,HMl2,HMt2,HVn,HOn,HBn⟩,by simp [intOf];omega⟩
   ·obtain rfl:k=ln:=by omega
    have HE:Hid (o=some M):=Lib.hid (by rw [← HOo.out, ← HM.out,List.take_of_length_le (Nat.le_of_eq HSl.out)])
    have HFx:Hid (FE=0):=Lib.hid (by rw [← HFE.out,HE.out];rfl)
    have HVf:Hid (PoolV ((((((wr.setCell ⟨pb + 1,0,none⟩ (.bool ps)).setCell ⟨pb + 1,1,none⟩ (.int .u64 (ph:Int))).setCell ⟨pb + 1,2,none⟩ (.int .u64 (pl:Int))).setCell ⟨pb + 1,3,none⟩ (.int .i64 pn)).setCell ⟨pb + 1,4,none⟩ (.slice b1 kn e1)).setCell ⟨pb + 1,5,none⟩ (.slice b2 k e2)) w.heap.size (.agg #[.bool ps, .int .u64 (ph:Int), .int .u64 (pl:Int), .int .i64 pn, .slice b1 kn e1, .slice b2 k e2]) (ps,ph,pl,pn) K M):=Lib.hid ⟨b1,e1,b2,e2,by rw [Hkn.out,HMl.out] <;> rfl,by rw [Hkn.out];exact (HO.out.1.weak HBc.out.size).keepT (keep_set6 HZr.out (.bool ps) (.int .u64 (ph:Int)) (.int .u64 (pl:Int)) (.int .i64 pn) (.slice b1 kn e1) (.slice b2 k e2)) (by decide),by rw [HMl.out];exact (HO.out.2.weak HBc.out.size).keepT (keep_set6 HZr.out (.bool ps) (.int .u64 (ph:Int)) (.int .u64 (pl:Int)) (.int .i64 pn) (.slice b1 kn e1) (.slice b2 k e2)) (by decide)⟩
    have HBf:Hid (Below w.heap.size w ((((((wr.setCell ⟨pb + 1,0,none⟩ (.bool ps)).setCell ⟨pb + 1,1,none⟩ (.int .u64 (ph:Int))).setCell ⟨pb + 1,2,none⟩ (.int .u64 (pl:Int))).setCell ⟨pb + 1,3,none⟩ (.int .i64 pn)).setCell ⟨pb + 1,4,none⟩ (.slice b1 kn e1)).setCell ⟨pb + 1,5,none⟩ (.slice b2 k e2))):=Lib.hid (below_set6 HBw.out (show w.heap.size≤pb + 1 by have:=Hpw.out;omega) (.bool ps) (.int .u64 (ph:Int)) (.int .u64 (pl:Int)) (.int .i64 pn) (.slice b1 kn e1) (.slice b2 k e2))
    have c6:=HZr.out.set6w (x1':=.bool ps) (x2':=.int .u64 (ph:Int)) (x3':=.int .u64 (pl:Int)) (x4':=.int .i64 pn) (x5':=.slice b1 kn e1) (x6':=.slice b2 k e2)
    have y0:=c6.cell 0
    have y1:=c6.cell 1
    have y2:=c6.cell 2
    have y3:=c6.cell 3
    have y4:=c6.cell 4
    have y5:=c6.cell 5
    simp at y0 y1 y2 y3 y4 y5
    clear c6
    have r0:=HZr.out.cell 0
    have r1:=HZr.out.cell 1
    have r2:=HZr.out.cell 2
    have r3:=HZr.out.cell 3
    have r4:=HZr.out.cell 4
    have r5:=HZr.out.cell 5
    simp at r0 r1 r2 r3 r4 r5
    have rf:=HZr.out.free
    have p0:=HV.out.cell 0
    have p1:=HV.out.cell 1
    have p2:=HV.out.cell 2
    have p3:=HV.out.cell 3
    have p4:=HV.out.cell 4
    have p5:=HV.out.cell 5
    simp at p0 p1 p2 p3 p4 p5
    clear HTk HSt HSb HOc HM HMt HO HBr HBw HLd HFE
    go_wp2_with fail
    refine bodyPost_ret (v:=.tuple #[.agg #[.bool ps, .int .u64 (ph:Int), .int .u64 (pl:Int), .int .i64 pn, .slice b1 kn e1, .slice b2 k e2], .int .i64 0]) (by simp [results,Tryz.results24,go_sem, *]) rfl ⟨_,by rw [HFx.out],by rw [HE.out];exact HVf.out,HBf.out⟩
 ·have hO:packO P K L=none∧packF P K L=poolF P K L:=by
   unfold packO packF
   rw [if_pos h0,if_pos h0]
   exact ⟨rfl,rfl⟩
  rw [hO.1,hO.2]
  clear hO huP huK huL hkn hln
  obtain ⟨F,hF⟩:∃ q,poolF P K L=q:=⟨_,rfl⟩
  rw [hF] at HCp h0 ⊢
  clear hF
  obtain ⟨ps,ph,pl,pn⟩:=P
  rw [show (plC (ps,ph,pl,pn) (.slice ka kn kc) (.slice la ln lc)).toArray=#[.bool ps, .int .u64 (ph:Int), .int .u64 (pl:Int), .int .i64 pn, .slice ka kn kc, .slice la ln lc] from rfl] at *
  have hB01:Below w.heap.size w ((w.alloc (.cells #[.bool ps, .int .u64 (ph:Int), .int .u64 (pl:Int), .int .i64 pn, .slice ka kn kc, .slice la ln lc] 34 (0,0))).alloc (.cells #[.bool false, .int .u64 0, .int .u64 0, .int .i64 0, .slice none 0 0, .slice none 0 0] 34 (0,0))):=below_alloc (below_alloc (Below.refl _ _) _) _
  have HB1:=Lib.hid hB01
  have HKw:=Lib.hid hK
  have HLw:=Lib.hid hL
  have HQ1:Hid (Blk ((w.alloc (.cells #[.bool ps, .int .u64 (ph:Int), .int .u64 (pl:Int), .int .i64 pn, .slice ka kn kc, .slice la ln lc] 34 (0,0))).alloc (.cells #[.bool false, .int .u64 0, .int .u64 0, .int .i64 0, .slice none 0 0, .slice none 0 0] 34 (0,0))) w.heap.size 34 #[.bool ps, .int .u64 (ph:Int), .int .u64 (pl:Int), .int .i64 pn, .slice ka kn kc, .slice la ln lc]):=Lib.hid ((Blk.new w _ _).alloc _)
  have HZ1:Hid (Blk ((w.alloc (.cells #[.bool ps, .int .u64 (ph:Int), .int .u64 (pl:Int), .int .i64 pn, .slice ka kn kc, .slice la ln lc] 34 (0,0))).alloc (.cells #[.bool false, .int .u64 0, .int .u64 0, .int .i64 0, .slice none 0 0, .slice none 0 0] 34 (0,0))) (w.heap.size + 1) 34 #[.bool false, .int .u64 0, .int .u64 0, .int .i64 0, .slice none 0 0, .slice none 0 0]):=Lib.hid (by
   have this:=Blk.new (w.alloc (.cells #[.bool ps, .int .u64 (ph:Int), .int .u64 (pl:Int), .int .i64 pn, .slice ka kn kc, .slice la ln lc] 34 (0,0))) 34 #[.bool false, .int .u64 0, .int .u64 0, .int .i64 0, .slice none 0 0, .slice none 0 0]
   rw [World.size_alloc] at this
   exact this)
  clear hK hL hB01
  go_enter Tryz.func24,Tryz.ntmps24
  go_upto_region 1 with fail
  generalize ((w.alloc (.cells #[.bool ps, .int .u64 (ph:Int), .int .u64 (pl:Int), .int .i64 pn, .slice ka kn kc, .slice la ln lc] 34 (0,0))).alloc (.cells #[.bool false, .int .u64 0, .int .u64 0, .int .i64 0, .slice none 0 0, .slice none 0 0] 34 (0,0)))=w1 at *
  obtain ⟨pb,hpb⟩:∃ q,w.heap.size=q:=⟨_,rfl⟩
  have Hpw:Hid (w.heap.size≤pb):=Lib.hid (by omega)
  rw [hpb] at HQ1 HZ1 ⊢
  clear hpb
  have p0:=HQ1.out.cell 0
  have p1:=HQ1.out.cell 1
  have p2:=HQ1.out.cell 2
  have p3:=HQ1.out.cell 3
  have p4:=HQ1.out.cell 4
  have p5:=HQ1.out.cell 5
  simp at p0 p1 p2 p3 p4 p5
  go_wp2_with fail
  refine (HCp.out w1 (HKw.out.below HB1.out) (HLw.out.below HB1.out)).mono ?_
  rintro e wa ⟨rfl,hb⟩
  have HQa:=Lib.hid (HQ1.out.below hb HQ1.out.lt)
  have HZa:=Lib.hid (HZ1.out.below hb HZ1.out.lt)
  have HBa:=Lib.hid (HB1.out.trans (hb.mono HB1.out.size))
  clear hb HCp p0 p1 p2 p3 p4 p5 HQ1 HZ1 HB1
  have hF2:(F != 0)=true:=by simpa using h0
  clear h0 HQa
  have c6:=HZa.out.set6w (x1':=.bool false) (x2':=.int .u64 0) (x3':=.int .u64 0) (x4':=.int .i64 0) (x5':=.slice none 0 0) (x6':=.slice none 0 0)
  have y0:=c6.cell 0
  have y1:=c6.cell 1
  have y2:=c6.cell 2
  have y3:=c6.cell 3
  have y4:=c6.cell 4
  have y5:=c6.cell 5
  simp at y0 y1 y2 y3 y4 y5
  clear c6
  have q0:=HZa.out.cell 0
  have q1:=HZa.out.cell 1
  have q2:=HZa.out.cell 2
  have q3:=HZa.out.cell 3
  have q4:=HZa.out.cell 4
  have q5:=HZa.out.cell 5
  simp at q0 q1 q2 q3 q4 q5
  have qf:=HZa.out.free
  have HBf:Hid (Below w.heap.size w ((((((wa.setCell ⟨pb + 1,0,none⟩ (.bool false)).setCell ⟨pb + 1,1,none⟩ (.int .u64 0)).setCell ⟨pb + 1,2,none⟩ (.int .u64 0)).setCell ⟨pb + 1,3,none⟩ (.int .i64 0)).setCell ⟨pb + 1,4,none⟩ (.slice none 0 0)).setCell ⟨pb + 1,5,none⟩ (.slice none 0 0))):=Lib.hid (below_set6 HBa.out (show w.heap.size≤pb + 1 by have:=Hpw.out;omega) (.bool false) (.int .u64 0) (.int .u64 0) (.int .i64 0) (.slice none 0 0) (.slice none 0 0))
  go_wp2_with fail
  refine bodyPost_ret (v:=.tuple #[.agg #[.bool false, .int .u64 0, .int .u64 0, .int .i64 0, .slice none 0 0, .slice none 0 0], .int .i64 F]) (by simp [results,Tryz.results24,go_sem, *]) rfl ⟨_,rfl,poolV_zero _ _,HBf.out⟩
theorem packL_len {P:Pf} {K:List Pf}:∀ {S:List Ls} {M0 M:List Ls},S.foldl (packS P K) (some M0)=some M→M.length=M0.length + S.length
 | [],M0,M,h => by
   injection h with h
   subst h
   rfl
 | x :: S,M0,M,h => by
   rw [List.foldl_cons] at h
   obtain ⟨ch,hc⟩:∃ q,chP false x.2.2.2.2 (freeL P K M0)=q:=⟨_,rfl⟩
   rw [packS_some hc] at h
   cases ch with
   | none =>
     have:∀ T:List Ls,T.foldl (packS P K) none=none:=fun T => by
      induction T with
      | nil => rfl
      | cons y T ih => exact ih
     rw [show packC M0 x none=none from rfl,this] at h
     cases h
   | some f =>
     have:=packL_len (S:=S) h
     rw [leasedL_len] at this
     rw [this,List.length_cons]
     omega
theorem gK_len (o:Option (List Ls)) (K:List Pf):(gK o K).length≤K.length:=by
 cases o
 ·exact Nat.zero_le _
 ·exact Nat.le_refl _
theorem packO_len (P:Pf) (K:List Pf) (L:List Ls):(gM (packO P K L)).length≤L.length:=by
 unfold packO
 by_cases h:poolF P K L ≠ 0
 ·rw [if_pos h]
  exact Nat.zero_le _
 ·rw [if_neg h]
  obtain ⟨o,ho⟩:∃ o,packL P K (stabLs cfBt L)=o:=⟨_,rfl⟩
  rw [ho]
  cases o with
  | none => exact Nat.zero_le _
  | some M =>
    have:=packL_len ho
    rw [stabLs_len] at this
    show M.length≤_
    simp at this
    omega
theorem three_new (w:World) (A B C:Array Value) (t u:TypeId):Blk (((w.alloc (.cells A t (0,0))).alloc (.cells B t (0,0))).alloc (.cells C u (0,0))) w.heap.size t A∧Blk (((w.alloc (.cells A t (0,0))).alloc (.cells B t (0,0))).alloc (.cells C u (0,0))) (w.heap.size + 1) t B ∧
  Blk (((w.alloc (.cells A t (0,0))).alloc (.cells B t (0,0))).alloc (.cells C u (0,0))) (w.heap.size + 1 + 1) u C∧Below w.heap.size w (((w.alloc (.cells A t (0,0))).alloc (.cells B t (0,0))).alloc (.cells C u (0,0))):=by
 have e:∀ (w:World) (o:Obj),(w.alloc o).heap.size=w.heap.size + 1:=fun w o => by simp
 refine ⟨((Blk.new w _ _).alloc _).alloc _,?_,?_,below_alloc (below_two w _ _) _⟩
 ·rw [← e w (.cells A t (0,0))]
  exact (Blk.new _ _ _).alloc _
 ·rw [← e w (.cells A t (0,0)), ← e (w.alloc (.cells A t (0,0))) (.cells B t (0,0))]
  exact Blk.new _ _ _
theorem pick_none {P:Pf} {K:List Pf} {L:List Ls} {ky:List UInt8} {F:Int} (hkq:keyF P K L ky=keyQ L ky) (h:(if keyQ L ky ≠ 0 then keyQ L ky else if smallP P=true then 1 else 0)=F) (hz:F ≠ 0):pickO P K L ky=none∧pickF P K L ky=F:=by
 unfold pickO pickF
 rw [hkq]
 generalize pickA P K L ky=o
 generalize keyQ L ky=q at *
 generalize smallP P=s at *
 by_cases h1:q ≠ 0
 ·rw [if_pos h1] at h
  constructor
  ·rw [if_pos h1]
  ·rw [if_pos h1];exact h
 ·rw [if_neg h1] at h
  cases s with
  | true =>
    constructor
    ·rw [if_neg h1,if_pos rfl]
    ·rw [if_neg h1,if_pos rfl];exact h
  | false => exact absurd h.symm hz
theorem pick_zero {P:Pf} {K:List Pf} {L:List Ls} {ky:List UInt8} (hkq:keyF P K L ky=keyQ L ky) (h:(if keyQ L ky ≠ 0 then keyQ L ky else if smallP P=true then 1 else 0)=0):smallP P=false∧pickO P K L ky=pickA P K L ky∧pickF P K L ky=if (pickA P K L ky).isSome=true then 0 else 12:=by
 unfold pickO pickF
 rw [hkq]
 generalize pickA P K L ky=o
 generalize keyQ L ky=q at *
 generalize smallP P=s at *
 by_cases h1:q ≠ 0
 ·rw [if_pos h1] at h
  exact absurd h h1
 ·rw [if_neg h1] at h
  cases s with
  | true =>
    rw [if_pos rfl] at h
    omega
  | false =>
    refine ⟨rfl,?_,?_⟩
    ·rw [if_neg h1,if_neg (by decide)]
    ·rw [if_neg h1,if_neg (by decide)]
def pnR (cs:Array Value) (ky:List UInt8) (pb:Nat) (pn lp A:Int) (Bo:Bool) (Bv:Int):Nat→Value→World→Prop
 | 0,v,_ => v=.agg cs
 | 1,v,_ => v=.string (strL ky)
 | 2,v,_ => v=.int .i64 A
 | 3,v,_ => v=.pointer (some ⟨pb,0,none⟩)
 | 4,v,_ => v=.pointer (some ⟨pb,3,none⟩)
 | 5,v,_ => v=.int .i64 pn
 | 6,v,_ => v=.int .i64 lp
 | 7,v,_ => v=.int .i64 (lp - 20)
 | 8,v,_ => v=.bool Bo
 | 9,v,_ => v=.int .i64 Bv
 | 10,v,w => ∃ g,v=.slice (some ⟨g,0,none⟩) 2 2∧RdInts w g 0 2 [A,Bv]
 | _,v,_ => v=.int .i64 (firstE [A,Bv])
theorem pnR_keep {cs:Array Value} {ky:List UInt8} {pb:Nat} {pn lp A:Int} {Bo:Bool} {Bv:Int} (p:Nat) (v:Value) (u w:World) (h:pnR cs ky pb pn lp A Bo Bv p v u) (hg:Below u.heap.size u w):pnR cs ky pb pn lp A Bo Bv p v w:=by
 rcases p with _ | _ | _ | _ | _ | _ | _ | _ | _ | _ | _ | p
 all_goals first
  | exact h
  | (obtain ⟨g,h1,h2,h3,h4⟩:=h;exact ⟨g,h1,h2,Nat.lt_of_lt_of_le h3 hg.size,fun i hi => (hg.cell (p:=⟨g,0 + i,none⟩) h3).trans (h4 i hi)⟩)
theorem law_PoolsPick (ad:Option Addr) (n c:Nat) (w:World) (h:LawArg w ad n) :
  Calls Tryz.prog 4 #[.slice ad n c] w (Ret (.bool true) w):=by
 have hS:=LawArg.strm (c:=c) h
 have HB0:Hid (Below w.heap.size w (w.alloc (.cells #[.slice ad n c, .int .i64 0] 25 (0,0)))):=Lib.hid (below_alloc (Below.refl _ _) _)
 have hblt:w.heap.size < (w.alloc (.cells #[.slice ad n c, .int .i64 0] 25 (0,0))).heap.size:=hS.lt
 have HS:=Lib.hid hS
 clear h hS
 go_enter Tryz.func4,Tryz.ntmps4
 go_wp2_with fail
 generalize w.alloc (.cells #[.slice ad n c, .int .i64 0] 25 (0,0))=w0 at *
 obtain ⟨b,hbw⟩:∃ b,w.heap.size=b:=⟨_,rfl⟩
 rw [hbw] at hblt HS HB0 ⊢
 have Hbw:=Lib.hid hbw
 clear hbw
 refine (pool_gen b 0 _ HS.out (by omega)).mono ?_
 rintro e w1 ⟨v,P,K,L,rfl,hV,hU,hg⟩
 have HG1:Hid (Gen b w0 w1 100):=Lib.hid (hg.mono (by omega))
 have HU:=Lib.hid hU
 have HV1:=Lib.hid hV
 clear hU hg hV HS
 go_wp2_with fail
 refine (leaseKey_gen b 100 _ HG1.out.s (by omega)).mono ?_
 rintro e w2 ⟨ky,rfl,hky,hg⟩
 obtain ⟨ka,kc,la,lc,rfl,q1,q2⟩:=HV1.out
 have HG2:Hid (Gen b w0 w2 101):=Lib.hid (HG1.out.trans hg)
 have HK2:=Lib.hid (q1.gen hg hblt)
 have HL2:=Lib.hid (q2.gen hg hblt)
 have Hky:=Lib.hid hky
 clear hky hg q1 q2 HV1 HG1
 obtain ⟨ps,ph,pl,pn⟩:=P
 rw [show (plC (ps,ph,pl,pn) (.slice ka K.length kc) (.slice la L.length lc)).toArray=#[.bool ps, .int .u64 (ph:Int), .int .u64 (pl:Int), .int .i64 pn, .slice ka K.length kc, .slice la L.length lc] from rfl]
 have hbl:Below w2.heap.size w2 (w2.alloc (.cells #[.bool ps, .int .u64 (ph:Int), .int .u64 (pl:Int), .int .i64 pn, .slice ka K.length kc, .slice la L.length lc] 34 (0,0))):=below_alloc (Below.refl _ _) _
 have HX3:Hid (Blk (w2.alloc (.cells #[.bool ps, .int .u64 (ph:Int), .int .u64 (pl:Int), .int .i64 pn, .slice ka K.length kc, .slice la L.length lc] 34 (0,0))) w2.heap.size 34 #[.bool ps, .int .u64 (ph:Int), .int .u64 (pl:Int), .int .i64 pn, .slice ka K.length kc, .slice la L.length lc]):=Lib.hid (Blk.new w2 _ _)
 have HK3:=Lib.hid (HK2.out.later hbl)
 have HL3:=Lib.hid (HL2.out.later hbl)
 have HG3:Hid (Gen b w0 (w2.alloc (.cells #[.bool ps, .int .u64 (ph:Int), .int .u64 (pl:Int), .int .i64 pn, .slice ka K.length kc, .slice la L.length lc] 34 (0,0))) 101):=Lib.hid (HG2.out.alloc _)
 have hpb:b < w2.heap.size:=by have:=HG2.out.s.lt;omega
 clear hbl HG2 HK2 HL2
 go_upto_region 3 with fail
 generalize w2.alloc (.cells #[.bool ps, .int .u64 (ph:Int), .int .u64 (pl:Int), .int .i64 pn, .slice ka K.length kc, .slice la L.length lc] 34 (0,0))=w3 at *
 obtain ⟨pb,hq⟩:∃ q,w2.heap.size=q:=⟨_,rfl⟩
 rw [hq] at HX3 hpb ⊢
 clear hq
 have hpbn:pb ≠ b:=by omega
 obtain ⟨kn,hkn⟩:∃ q,K.length=q:=⟨_,rfl⟩
 obtain ⟨ln,hln⟩:∃ q,L.length=q:=⟨_,rfl⟩
 rw [hkn] at HX3 HK3
 rw [hln] at HX3 HL3
 have Hkn:=Lib.hid hkn
 have Hln:=Lib.hid hln
 clear hkn hln
 have HS4:Hid (PlS w w3 w0.heap.size pb (ps,ph,pl,pn) K L ka la kn kc ln lc):=Lib.hid ⟨Gen.toBelowR (w:=w) HG3.out (by rw [Hbw.out];exact HB0.out) (by rw [Hbw.out];exact Nat.le_refl _),HG3.out.g.size,HX3.out,HK3.out,HL3.out⟩
 have hlc:ln≤lc:=by
  obtain ⟨ad9,c9,e9, -,h9, -⟩:=HL3.out.form
  injection e9 with _ e8 e7
  omega
 obtain ⟨huP, -,huK,huL,hkl⟩:=HU.out
 rw [Hkn.out,Hln.out] at hkl
 have HAp:=Lib.hid fun wx (hk:RdK layPf wx ka K) (hl:RdK layLs wx la L) => aPick_any (ps,ph,pl,pn) ka la kn kc ln lc K L ky wx hk hl Hkn.out Hln.out hkl hlc huP huK huL Hky.out
 have HAk:=Lib.hid fun wx (hk:RdK layPf wx ka K) (hl:RdK layLs wx la L) => aPack_any (ps,ph,pl,pn) ka la kn kc ln lc K L wx hk hl Hkn.out Hln.out hkl hlc huP huK huL
 have HPf:=Lib.hid fun wx (hk:RdK layPf wx ka K) (hl:RdK layLs wx la L) => poolFault_any (ps,ph,pl,pn) ka la kn kc ln lc K L wx hk hl Hkn.out Hln.out (by omega) (by omega) hlc huP huK huL
 clear HX3 HK3 HL3 HG3 HB0
 have p0:=HS4.out.blk.cell 0
 have p1:=HS4.out.blk.cell 1
 have p2:=HS4.out.blk.cell 2
 have p3:=HS4.out.blk.cell 3
 have p4:=HS4.out.blk.cell 4
 have p5:=HS4.out.blk.cell 5
 simp [plC,pfC] at p0 p1 p2 p3 p4 p5
 go_wp2_with fail
 refine (HAp.out w3 HS4.out.rk.rd HS4.out.rl.rd).mono ?_
 rintro e w5 ⟨vT,rfl,hT,hb⟩
 have HS5:=Lib.hid (HS4.out.later hb)
 have Hw3:Hid (w0.heap.size≤w3.heap.size):=Lib.hid HS4.out.le
 clear hb HS4 p0 p1 p2 p3 p4 p5 HAp
 obtain ⟨F1,hF1⟩:∃ q,pickF (ps,ph,pl,pn) K L ky=q:=⟨_,rfl⟩
 have HF1:=Lib.hid hF1
 rw [hF1]
 clear hF1
 obtain ⟨ta,tc,ua,uc,rfl,r1,r2⟩:=hT
 obtain ⟨⟨x1,x2,x3,x4⟩,hX1⟩:∃ q:Pf,gotX (pickO (ps,ph,pl,pn) K L ky) ((lenN ps:Nat):Int)=q:=⟨_,rfl⟩
 obtain ⟨⟨g1,g2,g3,g4⟩,hP1⟩:∃ q:Pf,gotP (pickO (ps,ph,pl,pn) K L ky) (ps,ph,pl,pn)=q:=⟨_,rfl⟩
 obtain ⟨K1,hK1⟩:∃ q:List Pf,gotK (pickO (ps,ph,pl,pn) K L ky) K=q:=⟨_,rfl⟩
 obtain ⟨L1,hL1⟩:∃ q:List Ls,gotL (pickO (ps,ph,pl,pn) K L ky) L ky ((lenN ps:Nat):Int)=q:=⟨_,rfl⟩
 rw [hX1,hP1,hK1,hL1]
 rw [hK1] at r1
 rw [hL1] at r2
 rw [show (pfC (x1,x2,x3,x4)).toArray=#[.bool x1, .int .u64 (x2:Int), .int .u64 (x3:Int), .int .i64 x4] from rfl,show (plC (g1,g2,g3,g4) (.slice ta K1.length tc) (.slice ua L1.length uc)).toArray=#[.bool g1, .int .u64 (g2:Int), .int .u64 (g3:Int), .int .i64 g4, .slice ta K1.length tc, .slice ua L1.length uc] from rfl]
 obtain ⟨k1,hk1⟩:∃ q,K1.length=q:=⟨_,rfl⟩
 obtain ⟨l1,hl1⟩:∃ q,L1.length=q:=⟨_,rfl⟩
 rw [hk1] at r1 ⊢
 rw [hl1] at r2 ⊢
 have HT1:Hid (TkS ((w5.alloc (.cells #[.bool g1, .int .u64 (g2:Int), .int .u64 (g3:Int), .int .i64 g4, .slice ta k1 tc, .slice ua l1 uc] 34 (0,0))).alloc (.cells #[.bool x1, .int .u64 (x2:Int), .int .u64 (x3:Int), .int .i64 x4] 30 (0,0))) w0.heap.size w5.heap.size (w5.heap.size + 1) (g1,g2,g3,g4) K1 L1 (x1,x2,x3,x4) ta ua k1 tc l1 uc):=Lib.hid (TkS.new (P1:=(g1,g2,g3,g4)) (X1:=(x1,x2,x3,x4)) (r1.weak Hw3.out) (r2.weak Hw3.out))
 have Hr1:=Lib.hid (And.intro hX1 (And.intro hP1 (And.intro hK1 (And.intro hL1 (And.intro hk1 hl1)))))
 have Hb1:Hid (k1≤1000∧l1≤1000):=Lib.hid (by
  have b1:=gotK_len (pickO (ps,ph,pl,pn) K L ky) K
  have b2:=gotL_len (pickO (ps,ph,pl,pn) K L ky) L ky ((lenN ps:Nat):Int)
  rw [hK1,hk1,Hkn.out] at b1
  rw [hL1,hl1,Hln.out] at b2
  omega)
 clear hX1 hP1 hK1 hL1 hk1 hl1 r1 r2
 have HS6:=Lib.hid (HS5.out.later (below_two w5 (.cells #[.bool g1, .int .u64 (g2:Int), .int .u64 (g3:Int), .int .i64 g4, .slice ta k1 tc, .slice ua l1 uc] 34 (0,0)) (.cells #[.bool x1, .int .u64 (x2:Int), .int .u64 (x3:Int), .int .i64 x4] 30 (0,0))))
 clear HS5
 go_upto_region 4 with fail
 generalize ((w5.alloc (.cells #[.bool g1, .int .u64 (g2:Int), .int .u64 (g3:Int), .int .i64 g4, .slice ta k1 tc, .slice ua l1 uc] 34 (0,0))).alloc (.cells #[.bool x1, .int .u64 (x2:Int), .int .u64 (x3:Int), .int .i64 x4] 30 (0,0)))=w6 at *
 obtain ⟨tb,htb⟩:∃ q,w5.heap.size=q:=⟨_,rfl⟩
 rw [htb] at HT1 ⊢
 clear htb
 have p0:=HS6.out.blk.cell 0
 have p1:=HS6.out.blk.cell 1
 have p2:=HS6.out.blk.cell 2
 have p3:=HS6.out.blk.cell 3
 have p4:=HS6.out.blk.cell 4
 have p5:=HS6.out.blk.cell 5
 simp [plC,pfC] at p0 p1 p2 p3 p4 p5
 go_wp2_with fail
 refine (HAk.out w6 HS6.out.rk.rd HS6.out.rl.rd).mono ?_
 rintro e w7 ⟨vT,rfl,hT,hb⟩
 have HS7:=Lib.hid (HS6.out.later hb)
 have HT7:=Lib.hid (HT1.out.later hb)
 have Hw6:Hid (w0.heap.size≤w6.heap.size):=Lib.hid HS6.out.le
 clear hb HS6 HT1 p0 p1 p2 p3 p4 p5 HAk
 obtain ⟨F2,hF2⟩:∃ q,packF (ps,ph,pl,pn) K L=q:=⟨_,rfl⟩
 have HF2:=Lib.hid hF2
 rw [hF2]
 clear hF2
 obtain ⟨sa,sc,za,zc,rfl,r3,r4⟩:=hT
 obtain ⟨⟨h1,h2,h3,h4⟩,hP2⟩:∃ q:Pf,gP (packO (ps,ph,pl,pn) K L) (ps,ph,pl,pn)=q:=⟨_,rfl⟩
 obtain ⟨K2,hK2⟩:∃ q:List Pf,gK (packO (ps,ph,pl,pn) K L) K=q:=⟨_,rfl⟩
 obtain ⟨L2,hL2⟩:∃ q:List Ls,gM (packO (ps,ph,pl,pn) K L)=q:=⟨_,rfl⟩
 rw [hP2,hK2,hL2]
 rw [hK2] at r3
 rw [hL2] at r4
 rw [show (plC (h1,h2,h3,h4) (.slice sa K2.length sc) (.slice za L2.length zc)).toArray=#[.bool h1, .int .u64 (h2:Int), .int .u64 (h3:Int), .int .i64 h4, .slice sa K2.length sc, .slice za L2.length zc] from rfl]
 obtain ⟨k2,hk2⟩:∃ q,K2.length=q:=⟨_,rfl⟩
 obtain ⟨l2,hl2⟩:∃ q,L2.length=q:=⟨_,rfl⟩
 rw [hk2] at r3 ⊢
 rw [hl2] at r4 ⊢
 have HQ2:Hid (Blk (w7.alloc (.cells #[.bool h1, .int .u64 (h2:Int), .int .u64 (h3:Int), .int .i64 h4, .slice sa k2 sc, .slice za l2 zc] 34 (0,0))) w7.heap.size 34 #[.bool h1, .int .u64 (h2:Int), .int .u64 (h3:Int), .int .i64 h4, .slice sa k2 sc, .slice za l2 zc]):=Lib.hid (Blk.new w7 _ _)
 have HO2:Hid (OwnK layPf (w7.alloc (.cells #[.bool h1, .int .u64 (h2:Int), .int .u64 (h3:Int), .int .i64 h4, .slice sa k2 sc, .slice za l2 zc] 34 (0,0))) w0.heap.size (.slice sa k2 sc) K2∧OwnK layLs (w7.alloc (.cells #[.bool h1, .int .u64 (h2:Int), .int .u64 (h3:Int), .int .i64 h4, .slice sa k2 sc, .slice za l2 zc] 34 (0,0))) w0.heap.size (.slice za l2 zc) L2):=Lib.hid ⟨(r3.weak Hw6.out).alloc _,(r4.weak Hw6.out).alloc _⟩
 have Hr2:=Lib.hid (And.intro hP2 (And.intro hK2 (And.intro hL2 (And.intro hk2 hl2))))
 have Hb2:Hid (k2≤1000∧l2≤1000):=Lib.hid (by
  have b1:=gK_len (packO (ps,ph,pl,pn) K L) K
  have b2:=packO_len (ps,ph,pl,pn) K L
  rw [hK2,hk2,Hkn.out] at b1
  rw [hL2,hl2,Hln.out] at b2
  omega)
 clear hP2 hK2 hL2 hk2 hl2 r3 r4
 have hb8:Below w7.heap.size w7 (w7.alloc (.cells #[.bool h1, .int .u64 (h2:Int), .int .u64 (h3:Int), .int .i64 h4, .slice sa k2 sc, .slice za l2 zc] 34 (0,0))):=below_alloc (Below.refl _ _) _
 have HS8:=Lib.hid (HS7.out.later hb8)
 have HT8:=Lib.hid (HT7.out.later hb8)
 clear HS7 HT7 hb8
 go_upto_region 5 with fail
 generalize (w7.alloc (.cells #[.bool h1, .int .u64 (h2:Int), .int .u64 (h3:Int), .int .i64 h4, .slice sa k2 sc, .slice za l2 zc] 34 (0,0)))=w8 at *
 obtain ⟨sb,hsb⟩:∃ q,w7.heap.size=q:=⟨_,rfl⟩
 rw [hsb] at HQ2 ⊢
 clear hsb
 have p0:=HS8.out.blk.cell 0
 have p1:=HS8.out.blk.cell 1
 have p2:=HS8.out.blk.cell 2
 have p3:=HS8.out.blk.cell 3
 have p4:=HS8.out.blk.cell 4
 have p5:=HS8.out.blk.cell 5
 simp [plC,pfC] at p0 p1 p2 p3 p4 p5
 go_wp2_with fail
 refine (HPf.out w8 HS8.out.rk.rd HS8.out.rl.rd).mono ?_
 rintro e w9 ⟨rfl,hb⟩
 have HS9:=Lib.hid (HS8.out.later hb)
 have HT9:=Lib.hid (HT8.out.later hb)
 have HQ9:=Lib.hid (HQ2.out.below hb HQ2.out.lt)
 have HO9:=Lib.hid (And.intro (HO2.out.1.later hb) (HO2.out.2.later hb))
 clear hb HS8 HT8 HQ2 HO2 p0 p1 p2 p3 p4 p5 HPf
 obtain ⟨pf,hpf⟩:∃ q,poolF (ps,ph,pl,pn) K L=q:=⟨_,rfl⟩
 rw [hpf]
 have Hpf:=Lib.hid hpf
 clear hpf
 go_upto_region 7 with fail
 have HZ:=Lib.hid (three_new w9 #[.bool false, .int .u64 0, .int .u64 0, .int .i64 0, .slice none 0 0, .slice none 0 0] #[.bool false, .int .u64 0, .int .u64 0, .int .i64 0, .slice none 0 0, .slice none 0 0] #[.bool false, .int .u64 0, .int .u64 0, .int .i64 0] 34 30)
 go_upto_if 44 with fail
 generalize (((w9.alloc (.cells #[.bool false, .int .u64 0, .int .u64 0, .int .i64 0, .slice none 0 0, .slice none 0 0] 34 (0,0))).alloc (.cells #[.bool false, .int .u64 0, .int .u64 0, .int .i64 0, .slice none 0 0, .slice none 0 0] 34 (0,0))).alloc (.cells #[.bool false, .int .u64 0, .int .u64 0, .int .i64 0] 30 (0,0)))=w10 at *
 obtain ⟨zb,hzb⟩:∃ q,w9.heap.size=q:=⟨_,rfl⟩
 have Hzb:=Lib.hid hzb
 rw [hzb] at HZ ⊢
 clear hzb
 have HZ1:=Lib.hid HZ.out.1
 have HZ2:=Lib.hid HZ.out.2.1
 have HZ3:=Lib.hid HZ.out.2.2.1
 have HBc:Hid (Below w9.heap.size w9 w10):=Lib.hid (by rw [Hzb.out];exact HZ.out.2.2.2)
 clear HZ
 by_cases hBB:pf=0∧(if keyQ L ky ≠ 0 then keyQ L ky else if smallP (ps,ph,pl,pn)=true then 1 else 0)=0
 ·obtain ⟨hz,hB0⟩:=hBB
  subst hz
  obtain ⟨hOk,hKk,hLk,hTk⟩:=poolF_ok Hpf.out huP huK huL
  have hI:=lease_bits Hpf.out huP huK huL
  have hkq:keyF (ps,ph,pl,pn) K L ky=keyQ L ky:=by
   unfold keyF
   rw [Hpf.out,if_neg (by simp)]
  have hpo:packO (ps,ph,pl,pn) K L=packL (ps,ph,pl,pn) K (stabLs cfBt L):=by
   unfold packO
   rw [Hpf.out,if_neg (by simp)]
  have hpq:packF (ps,ph,pl,pn) K L=if (packL (ps,ph,pl,pn) K (stabLs cfBt L)).isSome=true then 0 else 12:=by
   unfold packF
   rw [Hpf.out,if_neg (by simp)]
  obtain ⟨s2,hs2⟩:∃ q,(packL (ps,ph,pl,pn) K (stabLs cfBt L)).isSome=q:=⟨_,rfl⟩
  rw [hs2] at hpq
  have HQk:Hid (∀ wx,RdK layPf wx ka K→RdK layLs wx la L→Calls Tryz.prog 26 #[.agg #[.bool ps, .int .u64 (ph:Int), .int .u64 (pl:Int), .int .i64 pn, .slice ka kn kc, .slice la ln lc]] wx fun e w' => ∃ v,e=.returned (.tuple #[v, .bool s2])∧PoolV w' wx.heap.size v (h1,h2,h3,h4) K2 L2∧Below wx.heap.size wx w'):=Lib.hid fun wx hk hl => by
   have h:=packOf_any (ps,ph,pl,pn) ka la kn kc ln lc K L wx hk hl Hkn.out Hln.out hkl hOk hTk hI
   obtain ⟨e1,e2,e3,e4,e5⟩:=Hr2.out
   rw [hpo] at e1 e2 e3
   rw [e1,e2,e3,hs2] at h
   exact h
  have HW2:Hid (∀ wx,Calls Tryz.prog 20 #[.bool (!s2), .int .i64 12] wx fun e w' => e=.returned (.int .i64 F2)∧wx=w'):=Lib.hid fun wx => by
   have h:=when_any (!s2) 12 wx
   rw [show (if (!s2)=true then (12:Int) else 0)=F2 by rw [← HF2.out,hpq];cases s2 <;> rfl] at h
   exact h
  clear hpo hpq hs2 hI hKk hLk HF2
  have HSa:=Lib.hid (HS9.out.later HBc.out)
  have p0:=HSa.out.blk.cell 0
  have p1:=HSa.out.blk.cell 1
  have p2:=HSa.out.blk.cell 2
  have p3:=HSa.out.blk.cell 3
  have p4:=HSa.out.blk.cell 4
  have p5:=HSa.out.blk.cell 5
  simp [plC,pfC] at p0 p1 p2 p3 p4 p5
  go_upto_if 48 with fail
  go_cut [17] (fun s17 wx => s17=.int .i64 ((lenN ps:Nat):Int)∧w10=wx)
  case first =>
   clear HQk HW2 HF1 Hpf HS9 HT9 HQ9 HO9 HZ1 HZ2 HZ3 HBc HSa hOk hTk hkq Hr1 Hr2 HU huP
   cases ps
   ·go_wp2_with fail
    go_meet
    case rel => exact ⟨rfl,rfl⟩
   ·go_wp2_with fail
    go_meet
    case rel => exact ⟨rfl,rfl⟩
  case rest =>
  obtain ⟨rfl,rfl⟩:=hcut
  have hlp9:=lenN_le ps
  have hpn9:0≤pn∧pn≤128:=by
   obtain ⟨q9,hq9,hl9⟩:=okPf_bits hOk
   exact ⟨by rw [show pn=(q9:Int) from hq9];omega,by rw [show pn=(q9:Int) from hq9];omega⟩
  obtain ⟨hpn0,hpn1⟩:=hpn9
  obtain ⟨lp,hlp⟩:∃ q:Int,((lenN ps:Nat):Int)=q:=⟨_,rfl⟩
  have hl0:0≤lp∧lp≤128:=by omega
  obtain ⟨hl0,hl1⟩:=hl0
  rw [hlp]
  have Hlp:=Lib.hid hlp
  clear hlp hlp9
  have HKf:=Lib.hid fun wx (hk:RdK layPf wx ka K) (hl:RdK layLs wx la L) => keyFault_any (ps,ph,pl,pn) ka la kn kc ln lc K L ky wx hk hl Hkn.out Hln.out (by omega) (by omega) hlc huP huK huL Hky.out
  obtain ⟨Bv,hBv⟩:∃ q:Int,(if decide (pn < lp - 20)=true then (1:Int) else 0)=q:=⟨_,rfl⟩
  have HBv:=Lib.hid hBv
  have HWn:Hid (∀ wx,Calls Tryz.prog 20 #[.bool (decide (pn < lp - 20)), .int .i64 1] wx fun e w' => e=.returned (.int .i64 Bv)∧wx=w'):=Lib.hid fun wx => by
   have h:=when_any (decide (pn < lp - 20)) 1 wx
   rw [hBv] at h
   exact h
  clear hBv
  have He2:=Lib.hid (And.intro Hr2.out.2.2.2.1 Hr2.out.2.2.2.2)
  clear p0 p1 p2 p3 p4 p5
  go_upto_region 13 with fail
  refine wp_region_inv 12 0 (pnR #[.bool ps, .int .u64 (ph:Int), .int .u64 (pl:Int), .int .i64 pn, .slice ka kn kc, .slice la ln lc] ky pb pn lp (keyQ L ky) (decide (pn < lp - 20)) Bv) (fun _ wx => Below w10.heap.size w10 wx) (fun u v => Below u.heap.size u v) (fun _ => 0)
   (by kernel_rfl) (by kernel_rfl) (by decide) pnR_keep (below_drew (Below.refl _ _)) ?hX29
  case' hX29 => (apply Exists.intro;refine ⟨fun T => ?hA29,?hob29,?hend29⟩)
  case hA29 =>
   simp only [setAll,List.take_succ_cons,List.take_zero,Act.put,List.setIfInBounds_toArray,List.set_cons_succ,List.set_cons_zero,Nat.reduceAdd]
   exact rfl
  case hob29 =>
   clear HQk HW2 HF1 Hpf HS9 HT9 HQ9 HO9 HZ1 HZ2 HZ3 HBc Hr1 Hr2 hOk hTk hkq Hlp He2 HBv
   go_light
   refine ⟨?_,?_,?_,?_,?_,?_,?_,?_,?_,?_,?_,?_,trivial⟩
   all_goals (intro T wx n0 hI hn hp;dsimp only at hn ⊢;unfold Op1)
   ·have q:=HSa.out.blk.below hI HSa.out.blk.lt
    have e0:=q.cell 0
    have e1:=q.cell 1
    have e2:=q.cell 2
    have e3:=q.cell 3
    have e4:=q.cell 4
    have e5:=q.cell 5
    simp [plC,pfC] at e0 e1 e2 e3 e4 e5
    clear q
    go_simp
    first | exact ⟨rfl,hI,Below.refl _ _⟩ | exact ⟨rfl,Below.refl _ _⟩ | exact Below.refl _ _
   ·go_simp
    first | exact ⟨rfl,hI,Below.refl _ _⟩ | exact ⟨rfl,Below.refl _ _⟩ | exact Below.refl _ _
   ·obtain ⟨h0,h1, -⟩:=hp
    have h0:T 0=.agg #[.bool ps, .int .u64 (ph:Int), .int .u64 (pl:Int), .int .i64 pn, .slice ka kn kc, .slice la ln lc]:=h0
    have h1:T 1=.string (strL ky):=h1
    go_simp
    refine (HKf.out wx (HSa.out.rk.rd.below hI) (HSa.out.rl.rd.below hI)).mono ?_
    rintro e w14 ⟨rfl,hb⟩
    exact ⟨_,rfl,rfl,hI.trans (hb.mono hI.size),hb⟩
   ·go_simp
    first | exact ⟨rfl,hI,Below.refl _ _⟩ | exact ⟨rfl,Below.refl _ _⟩ | exact Below.refl _ _
   ·obtain ⟨h0, -⟩:=hp
    have h0:T 3=.pointer (some ⟨pb,0,none⟩):=h0
    go_simp
    first | exact ⟨rfl,hI,Below.refl _ _⟩ | exact ⟨rfl,Below.refl _ _⟩ | exact Below.refl _ _
   ·obtain ⟨h0, -⟩:=hp
    have h0:T 4=.pointer (some ⟨pb,3,none⟩):=h0
    have q:=HSa.out.blk.below hI HSa.out.blk.lt
    have e3:=q.cell 3
    simp [plC,pfC] at e3
    clear q
    go_simp
    first | exact ⟨rfl,hI,Below.refl _ _⟩ | exact ⟨rfl,Below.refl _ _⟩ | exact Below.refl _ _
   ·go_simp
    first | exact ⟨rfl,hI,Below.refl _ _⟩ | exact ⟨rfl,Below.refl _ _⟩ | exact Below.refl _ _
   ·obtain ⟨h0, -⟩:=hp
    have h0:T 6=.int .i64 lp:=h0
    have e9:IntKind.i64.wrap (lp - 20)=lp - 20:=by rw [IntKind.wrap_i64];omega
    go_simp
    first | exact ⟨rfl,hI,Below.refl _ _⟩ | exact ⟨rfl,Below.refl _ _⟩ | exact Below.refl _ _
   ·obtain ⟨h0,h1, -⟩:=hp
    have h0:T 5=.int .i64 pn:=h0
    have h1:T 7=.int .i64 (lp - 20):=h1
    go_simp
    first | exact ⟨rfl,hI,Below.refl _ _⟩ | exact ⟨rfl,Below.refl _ _⟩ | exact Below.refl _ _
   ·obtain ⟨h0, -⟩:=hp
    have h0:T 8=.bool (decide (pn < lp - 20)):=h0
    go_simp
    refine (HWn.out wx).mono ?_
    rintro e w14 ⟨rfl,rfl⟩
    exact ⟨_,rfl,rfl,hI,Below.refl _ _⟩
   ·obtain ⟨h0,h1, -⟩:=hp
    have h0:T 2=.int .i64 (keyQ L ky):=h0
    have h1:T 9=.int .i64 Bv:=h1
    go_simp
    exact ⟨⟨wx.heap.size,rfl,rdInts_new wx _ [_,_] _ rfl⟩,Below.alloc hI hI.size _,below_alloc (Below.refl _ _) _⟩
   ·obtain ⟨h0, -⟩:=hp
    obtain ⟨g,h0,hz⟩:∃ g,T 10=.slice (some ⟨g,0,none⟩) 2 2∧RdInts wx g 0 2 [keyQ L ky,Bv]:=h0
    go_simp
    refine (errs_any g 2 2 _ wx hz (by omega)).mono ?_
    rintro e w14 ⟨rfl,rfl⟩
    exact ⟨_,rfl,rfl,hI,Below.refl _ _⟩
  case hend29 =>
   intro T w11 ⟨n0,hn0,hB⟩ hY
   have hT11:T 11=.int .i64 (firstE [keyQ L ky,Bv]):=hY 11 (by omega)
   replace HZ1:=Lib.hid (HZ1.out.below hB HZ1.out.lt)
   replace HZ2:=Lib.hid (HZ2.out.below hB HZ2.out.lt)
   replace HZ3:=Lib.hid (HZ3.out.below hB HZ3.out.lt)
   replace HBc:=Lib.hid (HBc.out.trans (hB.mono HBc.out.size))
   clear hY hB HSa HKf HWn
   simp only [List.drop_succ_cons,List.drop_zero]
   rw [hT11]
   clear hT11
   obtain ⟨F,hF⟩:∃ F,firstE [keyQ L ky,Bv]=F:=⟨_,rfl⟩
   rw [hF]
   rw [firstE_two, ← HBv.out] at hF
   have hsm:smallP (ps,ph,pl,pn)=decide (pn < lp - 20):=by
    unfold smallP
    rw [← Hlp.out]
   have hz:F=0:=by
    rw [← hF, ← hsm]
    exact hB0
   subst hz
   obtain ⟨hk1,hO1,hf1⟩:=pick_zero hkq (by rw [hsm];exact hF)
   rw [pick_same hOk hTk] at hO1 hf1
   rw [HF1.out] at hf1
   rw [hsm] at hk1
   have hb20:((lenN ps:Nat):Int) - 20≤pn:=by
    rw [Hlp.out]
    simpa using hk1
   obtain ⟨s1,hs1⟩:∃ q,(pickQ (ps,ph,pl,pn) K L ky).isSome=q:=⟨_,rfl⟩
   rw [hs1] at hf1
   have HPo:Hid (∀ wx,RdK layPf wx ka K→RdK layLs wx la L→Calls Tryz.prog 25 #[.agg #[.bool ps, .int .u64 (ph:Int), .int .u64 (pl:Int), .int .i64 pn, .slice ka kn kc, .slice la ln lc], .string (strL ky)] wx fun e w' => ∃ v,e=.returned (.tuple #[v, .agg #[.bool x1, .int .u64 (x2:Int), .int .u64 (x3:Int), .int .i64 x4], .bool s1])∧PoolV w' wx.heap.size v (g1,g2,g3,g4) K1 L1∧Below wx.heap.size wx w'):=Lib.hid fun wx hk hl => by
    have h:=pickOf_any (ps,ph,pl,pn) ka la kn kc ln lc K L ky wx hk hl Hkn.out Hln.out hkl hOk hTk hb20 Hky.out
    obtain ⟨e1,e2,e3,e4,e5,e6⟩:=Hr1.out
    rw [hO1] at e1 e2 e3 e4
    rw [show lenN ((ps,ph,pl,pn):Pf).1=lenN ps from rfl,e1,e2,e3,e4,hs1] at h
    exact h
   have HW1:Hid (∀ wx,Calls Tryz.prog 20 #[.bool (!s1), .int .i64 12] wx fun e w' => e=.returned (.int .i64 F1)∧wx=w'):=Lib.hid fun wx => by
    have h:=when_any (!s1) 12 wx
    rw [show (if (!s1)=true then (12:Int) else 0)=F1 by rw [hf1];cases s1 <;> rfl] at h
    exact h
   have He1:=Lib.hid (And.intro Hr1.out.2.2.2.2.1 Hr1.out.2.2.2.2.2)
   clear hk1 hO1 hf1 hs1 hb20 hkq hsm hF HF1 HBv Hpf
   have HSx:=Lib.hid (HS9.out.later HBc.out)
   have Hl1:Hid (zb + 1 + 1 < w11.heap.size):=Lib.hid HZ3.out.lt
   have p0:=HSx.out.blk.cell 0
   have p1:=HSx.out.blk.cell 1
   have p2:=HSx.out.blk.cell 2
   have p3:=HSx.out.blk.cell 3
   have p4:=HSx.out.blk.cell 4
   have p5:=HSx.out.blk.cell 5
   simp [plC,pfC] at p0 p1 p2 p3 p4 p5
   go_wp2_with fail
   refine (HPo.out w11 HSx.out.rk.rd HSx.out.rl.rd).mono ?_
   rintro e w12 ⟨v,rfl,hV,hb⟩
   clear HPo HSx p0 p1 p2 p3 p4 p5
   obtain ⟨a1,c1,a2,c2,rfl,q1,q2⟩:=hV
   rw [show (plC (g1,g2,g3,g4) (.slice a1 K1.length c1) (.slice a2 L1.length c2)).toArray=#[.bool g1, .int .u64 (g2:Int), .int .u64 (g3:Int), .int .i64 g4, .slice a1 K1.length c1, .slice a2 L1.length c2] from rfl]
   rw [He1.out.1] at q1 ⊢
   rw [He1.out.2] at q2 ⊢
   have HBd:=Lib.hid (HBc.out.trans (hb.mono HBc.out.size))
   have HY1:=Lib.hid (HZ1.out.below hb HZ1.out.lt)
   have HY2:=Lib.hid (HZ2.out.below hb HZ2.out.lt)
   have HY3:=Lib.hid (HZ3.out.below hb HZ3.out.lt)
   have r0:=HY1.out.cell 0
   have r1:=HY1.out.cell 1
   have r2:=HY1.out.cell 2
   have r3:=HY1.out.cell 3
   have r4:=HY1.out.cell 4
   have r5:=HY1.out.cell 5
   simp at r0 r1 r2 r3 r4 r5
   have r9:=HY1.out.free
   have HA1:Hid (Blk ((((((w12.setCell ⟨zb,0,none⟩ (.bool g1)).setCell ⟨zb,1,none⟩ (.int .u64 (g2:Int))).setCell ⟨zb,2,none⟩ (.int .u64 (g3:Int))).setCell ⟨zb,3,none⟩ (.int .i64 g4)).setCell ⟨zb,4,none⟩ (.slice a1 k1 c1)).setCell ⟨zb,5,none⟩ (.slice a2 l1 c2)) zb 34 #[.bool g1, .int .u64 (g2:Int), .int .u64 (g3:Int), .int .i64 g4, .slice a1 k1 c1, .slice a2 l1 c2]):=Lib.hid (HY1.out.set6w (x1':=.bool g1) (x2':=.int .u64 (g2:Int)) (x3':=.int .u64 (g3:Int)) (x4':=.int .i64 g4) (x5':=.slice a1 k1 c1) (x6':=.slice a2 l1 c2))
   have HA2:Hid (Blk ((((((w12.setCell ⟨zb,0,none⟩ (.bool g1)).setCell ⟨zb,1,none⟩ (.int .u64 (g2:Int))).setCell ⟨zb,2,none⟩ (.int .u64 (g3:Int))).setCell ⟨zb,3,none⟩ (.int .i64 g4)).setCell ⟨zb,4,none⟩ (.slice a1 k1 c1)).setCell ⟨zb,5,none⟩ (.slice a2 l1 c2)) (zb + 1) 34 #[.bool false, .int .u64 0, .int .u64 0, .int .i64 0, .slice none 0 0, .slice none 0 0]):=Lib.hid (HY2.out.far6w (show zb + 1 ≠ zb by omega) (x1':=.bool g1) (x2':=.int .u64 (g2:Int)) (x3':=.int .u64 (g3:Int)) (x4':=.int .i64 g4) (x5':=.slice a1 k1 c1) (x6':=.slice a2 l1 c2))
   have HA3:Hid (Blk ((((((w12.setCell ⟨zb,0,none⟩ (.bool g1)).setCell ⟨zb,1,none⟩ (.int .u64 (g2:Int))).setCell ⟨zb,2,none⟩ (.int .u64 (g3:Int))).setCell ⟨zb,3,none⟩ (.int .i64 g4)).setCell ⟨zb,4,none⟩ (.slice a1 k1 c1)).setCell ⟨zb,5,none⟩ (.slice a2 l1 c2)) (zb + 1 + 1) 30 #[.bool false, .int .u64 0, .int .u64 0, .int .i64 0]):=Lib.hid (HY3.out.far6w (show zb + 1 + 1 ≠ zb by omega) (x1':=.bool g1) (x2':=.int .u64 (g2:Int)) (x3':=.int .u64 (g3:Int)) (x4':=.int .i64 g4) (x5':=.slice a1 k1 c1) (x6':=.slice a2 l1 c2))
   have HAb:Hid (Below w9.heap.size w9 ((((((w12.setCell ⟨zb,0,none⟩ (.bool g1)).setCell ⟨zb,1,none⟩ (.int .u64 (g2:Int))).setCell ⟨zb,2,none⟩ (.int .u64 (g3:Int))).setCell ⟨zb,3,none⟩ (.int .i64 g4)).setCell ⟨zb,4,none⟩ (.slice a1 k1 c1)).setCell ⟨zb,5,none⟩ (.slice a2 l1 c2))):=Lib.hid (below_set6 HBd.out (show w9.heap.size≤zb by rw [Hzb.out];exact Nat.le_refl _) (.bool g1) (.int .u64 (g2:Int)) (.int .u64 (g3:Int)) (.int .i64 g4) (.slice a1 k1 c1) (.slice a2 l1 c2))
   have HAr:Hid (OwnK layPf ((((((w12.setCell ⟨zb,0,none⟩ (.bool g1)).setCell ⟨zb,1,none⟩ (.int .u64 (g2:Int))).setCell ⟨zb,2,none⟩ (.int .u64 (g3:Int))).setCell ⟨zb,3,none⟩ (.int .i64 g4)).setCell ⟨zb,4,none⟩ (.slice a1 k1 c1)).setCell ⟨zb,5,none⟩ (.slice a2 l1 c2)) w11.heap.size (.slice a1 k1 c1) K1∧OwnK layLs ((((((w12.setCell ⟨zb,0,none⟩ (.bool g1)).setCell ⟨zb,1,none⟩ (.int .u64 (g2:Int))).setCell ⟨zb,2,none⟩ (.int .u64 (g3:Int))).setCell ⟨zb,3,none⟩ (.int .i64 g4)).setCell ⟨zb,4,none⟩ (.slice a1 k1 c1)).setCell ⟨zb,5,none⟩ (.slice a2 l1 c2)) w11.heap.size (.slice a2 l1 c2) L1):=Lib.hid ⟨q1.farC (show zb < w11.heap.size by have:=Hl1.out;omega) 0 [.bool g1, .int .u64 (g2:Int), .int .u64 (g3:Int), .int .i64 g4, .slice a1 k1 c1, .slice a2 l1 c2],q2.farC (show zb < w11.heap.size by have:=Hl1.out;omega) 0 [.bool g1, .int .u64 (g2:Int), .int .u64 (g3:Int), .int .i64 g4, .slice a1 k1 c1, .slice a2 l1 c2]⟩
   clear hb q1 q2 HZ1 HZ2 HZ3 HBc HY1 HY2 HY3 HBd
   iterate 16 (first | go_values | go_skip | go_guarded | go_step | go_upon | go_back | go_simp)
   generalize ((((((w12.setCell ⟨zb,0,none⟩ (.bool g1)).setCell ⟨zb,1,none⟩ (.int .u64 (g2:Int))).setCell ⟨zb,2,none⟩ (.int .u64 (g3:Int))).setCell ⟨zb,3,none⟩ (.int .i64 g4)).setCell ⟨zb,4,none⟩ (.slice a1 k1 c1)).setCell ⟨zb,5,none⟩ (.slice a2 l1 c2))=w14 at *
   clear r0 r1 r2 r3 r4 r5 r9
   have HTH:=Lib.hid (there_blk HA3.out)
   have HA9:=Lib.hid (all_pfx x1 x2 x3 x4)
   have HN1:Hid (Blk ((((w14.setCell ⟨zb + 1 + 1,0,none⟩ (.bool x1)).setCell ⟨zb + 1 + 1,1,none⟩ (.int .u64 (x2:Int))).setCell ⟨zb + 1 + 1,2,none⟩ (.int .u64 (x3:Int))).setCell ⟨zb + 1 + 1,3,none⟩ (.int .i64 x4)) zb 34 #[.bool g1, .int .u64 (g2:Int), .int .u64 (g3:Int), .int .i64 g4, .slice a1 k1 c1, .slice a2 l1 c2]):=Lib.hid (HA1.out.far4w (show zb ≠ zb + 1 + 1 by omega) (x':=.bool x1) (y':=.int .u64 (x2:Int)) (z':=.int .u64 (x3:Int)) (u':=.int .i64 x4))
   have HN3:Hid (Blk ((((w14.setCell ⟨zb + 1 + 1,0,none⟩ (.bool x1)).setCell ⟨zb + 1 + 1,1,none⟩ (.int .u64 (x2:Int))).setCell ⟨zb + 1 + 1,2,none⟩ (.int .u64 (x3:Int))).setCell ⟨zb + 1 + 1,3,none⟩ (.int .i64 x4)) (zb + 1 + 1) 30 #[.bool x1, .int .u64 (x2:Int), .int .u64 (x3:Int), .int .i64 x4]):=Lib.hid (HA3.out.set4w (x':=.bool x1) (y':=.int .u64 (x2:Int)) (z':=.int .u64 (x3:Int)) (u':=.int .i64 x4))
   have HN2:Hid (Blk ((((w14.setCell ⟨zb + 1 + 1,0,none⟩ (.bool x1)).setCell ⟨zb + 1 + 1,1,none⟩ (.int .u64 (x2:Int))).setCell ⟨zb + 1 + 1,2,none⟩ (.int .u64 (x3:Int))).setCell ⟨zb + 1 + 1,3,none⟩ (.int .i64 x4)) (zb + 1) 34 #[.bool false, .int .u64 0, .int .u64 0, .int .i64 0, .slice none 0 0, .slice none 0 0]):=Lib.hid (HA2.out.far4w (show zb + 1 ≠ zb + 1 + 1 by omega) (x':=.bool x1) (y':=.int .u64 (x2:Int)) (z':=.int .u64 (x3:Int)) (u':=.int .i64 x4))
   have HBn:Hid (Below w9.heap.size w9 ((((w14.setCell ⟨zb + 1 + 1,0,none⟩ (.bool x1)).setCell ⟨zb + 1 + 1,1,none⟩ (.int .u64 (x2:Int))).setCell ⟨zb + 1 + 1,2,none⟩ (.int .u64 (x3:Int))).setCell ⟨zb + 1 + 1,3,none⟩ (.int .i64 x4))):=Lib.hid ((((HAb.out.setCell (show w9.heap.size≤zb + 1 + 1 by rw [Hzb.out];omega) _).setCell (show w9.heap.size≤zb + 1 + 1 by rw [Hzb.out];omega) _).setCell (show w9.heap.size≤zb + 1 + 1 by rw [Hzb.out];omega) _).setCell (show w9.heap.size≤zb + 1 + 1 by rw [Hzb.out];omega) _)
   have HR1:Hid (OwnK layPf ((((w14.setCell ⟨zb + 1 + 1,0,none⟩ (.bool x1)).setCell ⟨zb + 1 + 1,1,none⟩ (.int .u64 (x2:Int))).setCell ⟨zb + 1 + 1,2,none⟩ (.int .u64 (x3:Int))).setCell ⟨zb + 1 + 1,3,none⟩ (.int .i64 x4)) w11.heap.size (.slice a1 k1 c1) K1∧OwnK layLs ((((w14.setCell ⟨zb + 1 + 1,0,none⟩ (.bool x1)).setCell ⟨zb + 1 + 1,1,none⟩ (.int .u64 (x2:Int))).setCell ⟨zb + 1 + 1,2,none⟩ (.int .u64 (x3:Int))).setCell ⟨zb + 1 + 1,3,none⟩ (.int .i64 x4)) w11.heap.size (.slice a2 l1 c2) L1):=Lib.hid ⟨HAr.out.1.farC (show zb + 1 + 1 < w11.heap.size from Hl1.out) 0 [.bool x1, .int .u64 (x2:Int), .int .u64 (x3:Int), .int .i64 x4],HAr.out.2.farC (show zb + 1 + 1 < w11.heap.size from Hl1.out) 0 [.bool x1, .int .u64 (x2:Int), .int .u64 (x3:Int), .int .i64 x4]⟩
   clear HA1 HA2 HA3 HAb HAr
   go_step
   refine wpList_store_mid rfl 30 _ _ rfl (zb + 1 + 1) 0 #[.bool x1, .int .u64 (x2:Int), .int .u64 (x3:Int), .int .i64 x4] rfl rfl HTH.out size_pfx HA9.out ?_
   show wpList _ _ _ _ _ ((((w14.setCell ⟨zb + 1 + 1,0,none⟩ (.bool x1)).setCell ⟨zb + 1 + 1,1,none⟩ (.int .u64 (x2:Int))).setCell ⟨zb + 1 + 1,2,none⟩ (.int .u64 (x3:Int))).setCell ⟨zb + 1 + 1,3,none⟩ (.int .i64 x4))
   generalize ((((w14.setCell ⟨zb + 1 + 1,0,none⟩ (.bool x1)).setCell ⟨zb + 1 + 1,1,none⟩ (.int .u64 (x2:Int))).setCell ⟨zb + 1 + 1,2,none⟩ (.int .u64 (x3:Int))).setCell ⟨zb + 1 + 1,3,none⟩ (.int .i64 x4))=w15 at *
   go_upto_region 17 with fail
   clear HTH HA9
   go_wp2_with fail
   refine (HW1.out _).mono ?_
   rintro e wz ⟨rfl,rfl⟩
   have HZ1:=HN1
   have HZ2:=HN2
   have HZ3:=HN3
   have HBc:=HBn
   clear HN1 HN2 HN3 HBn HW1
   have HSx:=Lib.hid (HS9.out.later HBc.out)
   have Hlt:Hid (zb + 1 + 1 < w15.heap.size):=Lib.hid HZ3.out.lt
   have p0:=HSx.out.blk.cell 0
   have p1:=HSx.out.blk.cell 1
   have p2:=HSx.out.blk.cell 2
   have p3:=HSx.out.blk.cell 3
   have p4:=HSx.out.blk.cell 4
   have p5:=HSx.out.blk.cell 5
   simp [plC,pfC] at p0 p1 p2 p3 p4 p5
   go_wp2_with fail
   refine (HQk.out w15 HSx.out.rk.rd HSx.out.rl.rd).mono ?_
   rintro e w13 ⟨v,rfl,hV,hb⟩
   clear HQk HSx p0 p1 p2 p3 p4 p5
   obtain ⟨a3,c3,a4,c4,rfl,q1,q2⟩:=hV
   rw [show (plC (h1,h2,h3,h4) (.slice a3 K2.length c3) (.slice a4 L2.length c4)).toArray=#[.bool h1, .int .u64 (h2:Int), .int .u64 (h3:Int), .int .i64 h4, .slice a3 K2.length c3, .slice a4 L2.length c4] from rfl]
   rw [He2.out.1] at q1 ⊢
   rw [He2.out.2] at q2 ⊢
   have HBd:=Lib.hid (HBc.out.trans (hb.mono HBc.out.size))
   have HY1:=Lib.hid (HZ1.out.below hb HZ1.out.lt)
   have HY2:=Lib.hid (HZ2.out.below hb HZ2.out.lt)
   have HY3:=Lib.hid (HZ3.out.below hb HZ3.out.lt)
   have HRd:=Lib.hid (And.intro (HR1.out.1.later hb) (HR1.out.2.later hb))
   have HN2:Hid (Blk ((((((w13.setCell ⟨zb + 1,0,none⟩ (.bool h1)).setCell ⟨zb + 1,1,none⟩ (.int .u64 (h2:Int))).setCell ⟨zb + 1,2,none⟩ (.int .u64 (h3:Int))).setCell ⟨zb + 1,3,none⟩ (.int .i64 h4)).setCell ⟨zb + 1,4,none⟩ (.slice a3 k2 c3)).setCell ⟨zb + 1,5,none⟩ (.slice a4 l2 c4)) (zb + 1) 34 #[.bool h1, .int .u64 (h2:Int), .int .u64 (h3:Int), .int .i64 h4, .slice a3 k2 c3, .slice a4 l2 c4]):=Lib.hid (HY2.out.set6w (x1':=.bool h1) (x2':=.int .u64 (h2:Int)) (x3':=.int .u64 (h3:Int)) (x4':=.int .i64 h4) (x5':=.slice a3 k2 c3) (x6':=.slice a4 l2 c4))
   have HN1:Hid (Blk ((((((w13.setCell ⟨zb + 1,0,none⟩ (.bool h1)).setCell ⟨zb + 1,1,none⟩ (.int .u64 (h2:Int))).setCell ⟨zb + 1,2,none⟩ (.int .u64 (h3:Int))).setCell ⟨zb + 1,3,none⟩ (.int .i64 h4)).setCell ⟨zb + 1,4,none⟩ (.slice a3 k2 c3)).setCell ⟨zb + 1,5,none⟩ (.slice a4 l2 c4)) zb 34 #[.bool g1, .int .u64 (g2:Int), .int .u64 (g3:Int), .int .i64 g4, .slice a1 k1 c1, .slice a2 l1 c2]):=Lib.hid (HY1.out.far6w (show zb ≠ zb + 1 by omega) (x1':=.bool h1) (x2':=.int .u64 (h2:Int)) (x3':=.int .u64 (h3:Int)) (x4':=.int .i64 h4) (x5':=.slice a3 k2 c3) (x6':=.slice a4 l2 c4))
   have HN3:Hid (Blk ((((((w13.setCell ⟨zb + 1,0,none⟩ (.bool h1)).setCell ⟨zb + 1,1,none⟩ (.int .u64 (h2:Int))).setCell ⟨zb + 1,2,none⟩ (.int .u64 (h3:Int))).setCell ⟨zb + 1,3,none⟩ (.int .i64 h4)).setCell ⟨zb + 1,4,none⟩ (.slice a3 k2 c3)).setCell ⟨zb + 1,5,none⟩ (.slice a4 l2 c4)) (zb + 1 + 1) 30 #[.bool x1, .int .u64 (x2:Int), .int .u64 (x3:Int), .int .i64 x4]):=Lib.hid (HY3.out.far6w (show zb + 1 + 1 ≠ zb + 1 by omega) (x1':=.bool h1) (x2':=.int .u64 (h2:Int)) (x3':=.int .u64 (h3:Int)) (x4':=.int .i64 h4) (x5':=.slice a3 k2 c3) (x6':=.slice a4 l2 c4))
   have HBn:Hid (Below w9.heap.size w9 ((((((w13.setCell ⟨zb + 1,0,none⟩ (.bool h1)).setCell ⟨zb + 1,1,none⟩ (.int .u64 (h2:Int))).setCell ⟨zb + 1,2,none⟩ (.int .u64 (h3:Int))).setCell ⟨zb + 1,3,none⟩ (.int .i64 h4)).setCell ⟨zb + 1,4,none⟩ (.slice a3 k2 c3)).setCell ⟨zb + 1,5,none⟩ (.slice a4 l2 c4))):=Lib.hid (below_set6 HBd.out (show w9.heap.size≤zb + 1 by rw [Hzb.out];omega) (.bool h1) (.int .u64 (h2:Int)) (.int .u64 (h3:Int)) (.int .i64 h4) (.slice a3 k2 c3) (.slice a4 l2 c4))
   have HRn:Hid (RdK layPf ((((((w13.setCell ⟨zb + 1,0,none⟩ (.bool h1)).setCell ⟨zb + 1,1,none⟩ (.int .u64 (h2:Int))).setCell ⟨zb + 1,2,none⟩ (.int .u64 (h3:Int))).setCell ⟨zb + 1,3,none⟩ (.int .i64 h4)).setCell ⟨zb + 1,4,none⟩ (.slice a3 k2 c3)).setCell ⟨zb + 1,5,none⟩ (.slice a4 l2 c4)) a1 K1∧RdK layLs ((((((w13.setCell ⟨zb + 1,0,none⟩ (.bool h1)).setCell ⟨zb + 1,1,none⟩ (.int .u64 (h2:Int))).setCell ⟨zb + 1,2,none⟩ (.int .u64 (h3:Int))).setCell ⟨zb + 1,3,none⟩ (.int .i64 h4)).setCell ⟨zb + 1,4,none⟩ (.slice a3 k2 c3)).setCell ⟨zb + 1,5,none⟩ (.slice a4 l2 c4)) a2 L1):=Lib.hid ⟨(HRd.out.1.farC (show zb + 1 < w11.heap.size by have:=Hl1.out;omega) 0 [.bool h1, .int .u64 (h2:Int), .int .u64 (h3:Int), .int .i64 h4, .slice a3 k2 c3, .slice a4 l2 c4]).rd,(HRd.out.2.farC (show zb + 1 < w11.heap.size by have:=Hl1.out;omega) 0 [.bool h1, .int .u64 (h2:Int), .int .u64 (h3:Int), .int .i64 h4, .slice a3 k2 c3, .slice a4 l2 c4]).rd⟩
   have HQn:Hid (RdK layPf ((((((w13.setCell ⟨zb + 1,0,none⟩ (.bool h1)).setCell ⟨zb + 1,1,none⟩ (.int .u64 (h2:Int))).setCell ⟨zb + 1,2,none⟩ (.int .u64 (h3:Int))).setCell ⟨zb + 1,3,none⟩ (.int .i64 h4)).setCell ⟨zb + 1,4,none⟩ (.slice a3 k2 c3)).setCell ⟨zb + 1,5,none⟩ (.slice a4 l2 c4)) a3 K2∧RdK layLs ((((((w13.setCell ⟨zb + 1,0,none⟩ (.bool h1)).setCell ⟨zb + 1,1,none⟩ (.int .u64 (h2:Int))).setCell ⟨zb + 1,2,none⟩ (.int .u64 (h3:Int))).setCell ⟨zb + 1,3,none⟩ (.int .i64 h4)).setCell ⟨zb + 1,4,none⟩ (.slice a3 k2 c3)).setCell ⟨zb + 1,5,none⟩ (.slice a4 l2 c4)) a4 L2):=Lib.hid ⟨(q1.farC (show zb + 1 < w15.heap.size by have:=Hlt.out;omega) 0 [.bool h1, .int .u64 (h2:Int), .int .u64 (h3:Int), .int .i64 h4, .slice a3 k2 c3, .slice a4 l2 c4]).rd,(q2.farC (show zb + 1 < w15.heap.size by have:=Hlt.out;omega) 0 [.bool h1, .int .u64 (h2:Int), .int .u64 (h3:Int), .int .i64 h4, .slice a3 k2 c3, .slice a4 l2 c4]).rd⟩
   have r0:=HY2.out.cell 0
   have r1:=HY2.out.cell 1
   have r2:=HY2.out.cell 2
   have r3:=HY2.out.cell 3
   have r4:=HY2.out.cell 4
   have r5:=HY2.out.cell 5
   simp at r0 r1 r2 r3 r4 r5
   have rf:=HY2.out.free
   clear hb q1 q2 HZ1 HZ2 HZ3 HR1 HBc HY1 HY2 HY3 HRd HBd Hlt
   go_upto_region 20 with fail
   generalize ((((((w13.setCell ⟨zb + 1,0,none⟩ (.bool h1)).setCell ⟨zb + 1,1,none⟩ (.int .u64 (h2:Int))).setCell ⟨zb + 1,2,none⟩ (.int .u64 (h3:Int))).setCell ⟨zb + 1,3,none⟩ (.int .i64 h4)).setCell ⟨zb + 1,4,none⟩ (.slice a3 k2 c3)).setCell ⟨zb + 1,5,none⟩ (.slice a4 l2 c4))=wc at *
   clear r0 r1 r2 r3 r4 r5 rf
   go_wp2_with fail
   refine (HW2.out _).mono ?_
   rintro e wz ⟨rfl,rfl⟩
   have HZ1:=HN1
   have HZ2:=HN2
   have HZ3:=HN3
   have HD:=Lib.hid (And.intro HRn.out.1 (And.intro HRn.out.2 (And.intro HQn.out.1 HQn.out.2)))
   have HBw:=HBn
   clear HN1 HN2 HN3 HRn HQn HBn HW2
   have HTc:=Lib.hid (HT9.out.later HBw.out)
   have HQc:=Lib.hid (HQ9.out.below HBw.out HQ9.out.lt)
   have HOc:=Lib.hid (And.intro (HO9.out.1.later HBw.out) (HO9.out.2.later HBw.out))
   have HSc:=Lib.hid (HS9.out.later HBw.out)
   clear HS9 HT9 HQ9 HO9 HBw
   have p0:=HTc.out.pb.cell 0
   have p1:=HTc.out.pb.cell 1
   have p2:=HTc.out.pb.cell 2
   have p3:=HTc.out.pb.cell 3
   have p4:=HTc.out.pb.cell 4
   have p5:=HTc.out.pb.cell 5
   simp [plC,pfC] at p0 p1 p2 p3 p4 p5
   have q0:=HZ1.out.cell 0
   have q1:=HZ1.out.cell 1
   have q2:=HZ1.out.cell 2
   have q3:=HZ1.out.cell 3
   have q4:=HZ1.out.cell 4
   have q5:=HZ1.out.cell 5
   simp at q0 q1 q2 q3 q4 q5
   go_wp2_with fail
   refine (samePool_any (g1,g2,g3,g4) K1 L1 ta ua a1 a2 k1 l1 tc uc c1 c2 wc HTc.out.rk.rd HTc.out.rl.rd HD.out.1 HD.out.2.1 Hr1.out.2.2.2.2.1 Hr1.out.2.2.2.2.2 Hb1.out.1 Hb1.out.2).mono ?_
   rintro e w15 ⟨rfl,hb⟩
   have HTd:=Lib.hid (HTc.out.later hb)
   have HQd:=Lib.hid (HQc.out.below hb HQc.out.lt)
   have HOd:=Lib.hid (And.intro (HOc.out.1.later hb) (HOc.out.2.later hb))
   have HSd:=Lib.hid (HSc.out.later hb)
   have HY2:=Lib.hid (HZ2.out.below hb HZ2.out.lt)
   have HY3:=Lib.hid (HZ3.out.below hb HZ3.out.lt)
   have HE3:=Lib.hid (HD.out.2.2.1.below hb)
   have HE4:=Lib.hid (HD.out.2.2.2.below hb)
   clear hb HTc HQc HOc HSc HZ1 HZ2 HZ3 HD p0 p1 p2 p3 p4 p5 q0 q1 q2 q3 q4 q5
   have p0:=HQd.out.cell 0
   have p1:=HQd.out.cell 1
   have p2:=HQd.out.cell 2
   have p3:=HQd.out.cell 3
   have p4:=HQd.out.cell 4
   have p5:=HQd.out.cell 5
   simp at p0 p1 p2 p3 p4 p5
   have q0:=HY2.out.cell 0
   have q1:=HY2.out.cell 1
   have q2:=HY2.out.cell 2
   have q3:=HY2.out.cell 3
   have q4:=HY2.out.cell 4
   have q5:=HY2.out.cell 5
   simp at q0 q1 q2 q3 q4 q5
   go_wp2_with fail
   refine (samePool_any (h1,h2,h3,h4) K2 L2 sa za a3 a4 k2 l2 sc zc c3 c4 w15 HOd.out.1.rd HOd.out.2.rd HE3.out HE4.out Hr2.out.2.2.2.1 Hr2.out.2.2.2.2 Hb2.out.1 Hb2.out.2).mono ?_
   rintro e w16 ⟨rfl,hb⟩
   have HTe:=Lib.hid (HTd.out.later hb)
   have HSe:=Lib.hid (HSd.out.later hb)
   have HY4:=Lib.hid (HY3.out.below hb HY3.out.lt)
   clear hb HTd HQd HOd HSd HY2 HY3 HE3 HE4 p0 p1 p2 p3 p4 p5 q0 q1 q2 q3 q4 q5
   have p0:=HTe.out.xb.cell 0
   have p1:=HTe.out.xb.cell 1
   have p2:=HTe.out.xb.cell 2
   have p3:=HTe.out.xb.cell 3
   simp [pfC] at p0 p1 p2 p3
   have q0:=HY4.out.cell 0
   have q1:=HY4.out.cell 1
   have q2:=HY4.out.cell 2
   have q3:=HY4.out.cell 3
   simp at q0 q1 q2 q3
   have hAd:=Lib.hid fun wx => addressed_any wx
   have hE1:=fun wq => pfx_eql x1 x1 (x2:Int) (x2:Int) (x3:Int) (x3:Int) x4 x4 wq
   simp only [decide_true] at hE1
   have hGd:=pfx_guard .eql
   go_wp2_with fail
   refine (hAd.out _).mono ?_
   rintro e z ⟨rfl,hb⟩
   have HE:=Lib.hid (HSe.out.later hb).bel
   clear hb
   go_wp2_with fail
   go_ret
   exact ⟨rfl,HE.out⟩
 ·go_cut [12,13] (fun s12 s13 wx => s12=.int .i64 F1∧s13=.int .i64 F2∧∃ (a1 a2 a3 a4:Option Addr) (c1 c2 c3 c4:Nat),Blk wx zb 34 #[.bool g1, .int .u64 (g2:Int), .int .u64 (g3:Int), .int .i64 g4, .slice a1 k1 c1, .slice a2 l1 c2]∧Blk wx (zb + 1) 34 #[.bool h1, .int .u64 (h2:Int), .int .u64 (h3:Int), .int .i64 h4, .slice a3 k2 c3, .slice a4 l2 c4]∧Blk wx (zb + 1 + 1) 30 #[.bool x1, .int .u64 (x2:Int), .int .u64 (x3:Int), .int .i64 x4]∧RdK layPf wx a1 K1∧RdK layLs wx a2 L1∧RdK layPf wx a3 K2∧RdK layLs wx a4 L2∧Below w9.heap.size w9 wx)
  case first =>
   as_aux_lemma =>
    by_cases hz:pf=0
    ·subst hz
     obtain ⟨hOk,hKk,hLk,hTk⟩:=poolF_ok Hpf.out huP huK huL
     have hI:=lease_bits Hpf.out huP huK huL
     have hkq:keyF (ps,ph,pl,pn) K L ky=keyQ L ky:=by
      unfold keyF
      rw [Hpf.out,if_neg (by simp)]
     have hpo:packO (ps,ph,pl,pn) K L=packL (ps,ph,pl,pn) K (stabLs cfBt L):=by
      unfold packO
      rw [Hpf.out,if_neg (by simp)]
     have hpq:packF (ps,ph,pl,pn) K L=if (packL (ps,ph,pl,pn) K (stabLs cfBt L)).isSome=true then 0 else 12:=by
      unfold packF
      rw [Hpf.out,if_neg (by simp)]
     obtain ⟨s2,hs2⟩:∃ q,(packL (ps,ph,pl,pn) K (stabLs cfBt L)).isSome=q:=⟨_,rfl⟩
     rw [hs2] at hpq
     have HQk:Hid (∀ wx,RdK layPf wx ka K→RdK layLs wx la L→Calls Tryz.prog 26 #[.agg #[.bool ps, .int .u64 (ph:Int), .int .u64 (pl:Int), .int .i64 pn, .slice ka kn kc, .slice la ln lc]] wx fun e w' => ∃ v,e=.returned (.tuple #[v, .bool s2])∧PoolV w' wx.heap.size v (h1,h2,h3,h4) K2 L2∧Below wx.heap.size wx w'):=Lib.hid fun wx hk hl => by
      have h:=packOf_any (ps,ph,pl,pn) ka la kn kc ln lc K L wx hk hl Hkn.out Hln.out hkl hOk hTk hI
      obtain ⟨e1,e2,e3,e4,e5⟩:=Hr2.out
      rw [hpo] at e1 e2 e3
      rw [e1,e2,e3,hs2] at h
      exact h
     have HW2:Hid (∀ wx,Calls Tryz.prog 20 #[.bool (!s2), .int .i64 12] wx fun e w' => e=.returned (.int .i64 F2)∧wx=w'):=Lib.hid fun wx => by
      have h:=when_any (!s2) 12 wx
      rw [show (if (!s2)=true then (12:Int) else 0)=F2 by rw [← HF2.out,hpq];cases s2 <;> rfl] at h
      exact h
     clear hpo hpq hs2 hI hKk hLk HF2
     have HSa:=Lib.hid (HS9.out.later HBc.out)
     have p0:=HSa.out.blk.cell 0
     have p1:=HSa.out.blk.cell 1
     have p2:=HSa.out.blk.cell 2
     have p3:=HSa.out.blk.cell 3
     have p4:=HSa.out.blk.cell 4
     have p5:=HSa.out.blk.cell 5
     simp [plC,pfC] at p0 p1 p2 p3 p4 p5
     go_upto_if 48 with fail
     go_cut [17] (fun s17 wx => s17=.int .i64 ((lenN ps:Nat):Int)∧w10=wx)
     case first =>
      clear HQk HW2 HF1 Hpf HS9 HT9 HQ9 HO9 HZ1 HZ2 HZ3 HBc HSa hOk hTk hkq Hr1 Hr2 HU huP
      cases ps
      ·go_wp2_with fail
       go_meet
       case rel => exact ⟨rfl,rfl⟩
      ·go_wp2_with fail
       go_meet
       case rel => exact ⟨rfl,rfl⟩
     case rest =>
     obtain ⟨rfl,rfl⟩:=hcut
     have hlp9:=lenN_le ps
     have hpn9:0≤pn∧pn≤128:=by
      obtain ⟨q9,hq9,hl9⟩:=okPf_bits hOk
      exact ⟨by rw [show pn=(q9:Int) from hq9];omega,by rw [show pn=(q9:Int) from hq9];omega⟩
     obtain ⟨hpn0,hpn1⟩:=hpn9
     obtain ⟨lp,hlp⟩:∃ q:Int,((lenN ps:Nat):Int)=q:=⟨_,rfl⟩
     have hl0:0≤lp∧lp≤128:=by omega
     obtain ⟨hl0,hl1⟩:=hl0
     rw [hlp]
     have Hlp:=Lib.hid hlp
     clear hlp hlp9
     have HKf:=Lib.hid fun wx (hk:RdK layPf wx ka K) (hl:RdK layLs wx la L) => keyFault_any (ps,ph,pl,pn) ka la kn kc ln lc K L ky wx hk hl Hkn.out Hln.out (by omega) (by omega) hlc huP huK huL Hky.out
     obtain ⟨Bv,hBv⟩:∃ q:Int,(if decide (pn < lp - 20)=true then (1:Int) else 0)=q:=⟨_,rfl⟩
     have HBv:=Lib.hid hBv
     have HWn:Hid (∀ wx,Calls Tryz.prog 20 #[.bool (decide (pn < lp - 20)), .int .i64 1] wx fun e w' => e=.returned (.int .i64 Bv)∧wx=w'):=Lib.hid fun wx => by
      have h:=when_any (decide (pn < lp - 20)) 1 wx
      rw [hBv] at h
      exact h
     clear hBv
     have He2:=Lib.hid (And.intro Hr2.out.2.2.2.1 Hr2.out.2.2.2.2)
     clear p0 p1 p2 p3 p4 p5
     go_upto_region 13 with fail
     refine wp_region_inv 12 0 (pnR #[.bool ps, .int .u64 (ph:Int), .int .u64 (pl:Int), .int .i64 pn, .slice ka kn kc, .slice la ln lc] ky pb pn lp (keyQ L ky) (decide (pn < lp - 20)) Bv) (fun _ wx => Below w10.heap.size w10 wx) (fun u v => Below u.heap.size u v) (fun _ => 0)
      (by kernel_rfl) (by kernel_rfl) (by decide) pnR_keep (below_drew (Below.refl _ _)) ?hX2
     case' hX2 => (apply Exists.intro;refine ⟨fun T => ?hA2,?hob2,?hend2⟩)
     case hA2 =>
      simp only [setAll,List.take_succ_cons,List.take_zero,Act.put,List.setIfInBounds_toArray,List.set_cons_succ,List.set_cons_zero,Nat.reduceAdd]
      exact rfl
     case hob2 =>
      clear HQk HW2 HF1 Hpf HS9 HT9 HQ9 HO9 HZ1 HZ2 HZ3 HBc Hr1 Hr2 hOk hTk hkq Hlp He2 HBv
      go_light
      refine ⟨?_,?_,?_,?_,?_,?_,?_,?_,?_,?_,?_,?_,trivial⟩
      all_goals (intro T wx n0 hI hn hp;dsimp only at hn ⊢;unfold Op1)
      ·have q:=HSa.out.blk.below hI HSa.out.blk.lt
       have e0:=q.cell 0
       have e1:=q.cell 1
       have e2:=q.cell 2
       have e3:=q.cell 3
       have e4:=q.cell 4
       have e5:=q.cell 5
       simp [plC,pfC] at e0 e1 e2 e3 e4 e5
       clear q
       go_simp
       first | exact ⟨rfl,hI,Below.refl _ _⟩ | exact ⟨rfl,Below.refl _ _⟩ | exact Below.refl _ _
      ·go_simp
       first | exact ⟨rfl,hI,Below.refl _ _⟩ | exact ⟨rfl,Below.refl _ _⟩ | exact Below.refl _ _
      ·obtain ⟨h0,h1, -⟩:=hp
       have h0:T 0=.agg #[.bool ps, .int .u64 (ph:Int), .int .u64 (pl:Int), .int .i64 pn, .slice ka kn kc, .slice la ln lc]:=h0
       have h1:T 1=.string (strL ky):=h1
       go_simp
       refine (HKf.out wx (HSa.out.rk.rd.below hI) (HSa.out.rl.rd.below hI)).mono ?_
       rintro e w14 ⟨rfl,hb⟩
       exact ⟨_,rfl,rfl,hI.trans (hb.mono hI.size),hb⟩
      ·go_simp
       first | exact ⟨rfl,hI,Below.refl _ _⟩ | exact ⟨rfl,Below.refl _ _⟩ | exact Below.refl _ _
      ·obtain ⟨h0, -⟩:=hp
       have h0:T 3=.pointer (some ⟨pb,0,none⟩):=h0
       go_simp
       first | exact ⟨rfl,hI,Below.refl _ _⟩ | exact ⟨rfl,Below.refl _ _⟩ | exact Below.refl _ _
      ·obtain ⟨h0, -⟩:=hp
       have h0:T 4=.pointer (some ⟨pb,3,none⟩):=h0
       have q:=HSa.out.blk.below hI HSa.out.blk.lt
       have e3:=q.cell 3
       simp [plC,pfC] at e3
       clear q
       go_simp
       first | exact ⟨rfl,hI,Below.refl _ _⟩ | exact ⟨rfl,Below.refl _ _⟩ | exact Below.refl _ _
      ·go_simp
       first | exact ⟨rfl,hI,Below.refl _ _⟩ | exact ⟨rfl,Below.refl _ _⟩ | exact Below.refl _ _
      ·obtain ⟨h0, -⟩:=hp
       have h0:T 6=.int .i64 lp:=h0
       have e9:IntKind.i64.wrap (lp - 20)=lp - 20:=by rw [IntKind.wrap_i64];omega
       go_simp
       first | exact ⟨rfl,hI,Below.refl _ _⟩ | exact ⟨rfl,Below.refl _ _⟩ | exact Below.refl _ _
      ·obtain ⟨h0,h1, -⟩:=hp
       have h0:T 5=.int .i64 pn:=h0
       have h1:T 7=.int .i64 (lp - 20):=h1
       go_simp
       first | exact ⟨rfl,hI,Below.refl _ _⟩ | exact ⟨rfl,Below.refl _ _⟩ | exact Below.refl _ _
      ·obtain ⟨h0, -⟩:=hp
       have h0:T 8=.bool (decide (pn < lp - 20)):=h0
       go_simp
       refine (HWn.out wx).mono ?_
       rintro e w14 ⟨rfl,rfl⟩
       exact ⟨_,rfl,rfl,hI,Below.refl _ _⟩
      ·obtain ⟨h0,h1, -⟩:=hp
       have h0:T 2=.int .i64 (keyQ L ky):=h0
       have h1:T 9=.int .i64 Bv:=h1
       go_simp
       exact ⟨⟨wx.heap.size,rfl,rdInts_new wx _ [_,_] _ rfl⟩,Below.alloc hI hI.size _,below_alloc (Below.refl _ _) _⟩
      ·obtain ⟨h0, -⟩:=hp
       obtain ⟨g,h0,hz⟩:∃ g,T 10=.slice (some ⟨g,0,none⟩) 2 2∧RdInts wx g 0 2 [keyQ L ky,Bv]:=h0
       go_simp
       refine (errs_any g 2 2 _ wx hz (by omega)).mono ?_
       rintro e w14 ⟨rfl,rfl⟩
       exact ⟨_,rfl,rfl,hI,Below.refl _ _⟩
     case hend2 =>
      intro T w11 ⟨n0,hn0,hB⟩ hY
      have hT11:T 11=.int .i64 (firstE [keyQ L ky,Bv]):=hY 11 (by omega)
      replace HZ1:=Lib.hid (HZ1.out.below hB HZ1.out.lt)
      replace HZ2:=Lib.hid (HZ2.out.below hB HZ2.out.lt)
      replace HZ3:=Lib.hid (HZ3.out.below hB HZ3.out.lt)
      replace HBc:=Lib.hid (HBc.out.trans (hB.mono HBc.out.size))
      clear hY hB HSa HKf HWn
      simp only [List.drop_succ_cons,List.drop_zero]
      rw [hT11]
      clear hT11
      obtain ⟨F,hF⟩:∃ F,firstE [keyQ L ky,Bv]=F:=⟨_,rfl⟩
      rw [hF]
      rw [firstE_two, ← HBv.out] at hF
      have hsm:smallP (ps,ph,pl,pn)=decide (pn < lp - 20):=by
       unfold smallP
       rw [← Hlp.out]
      by_cases hz:F=0
      ·exact absurd ⟨rfl,by rw [hsm];exact hF.trans hz⟩ hBB
      ·obtain ⟨hO1,hf1⟩:=pick_none hkq (by rw [hsm];exact hF) hz
       rw [HF1.out] at hf1
       obtain ⟨e1,e2,e3,e4,e5,e6⟩:=Hr1.out
       rw [hO1] at e1 e2 e3 e4
       injection e1 with a1 e1;injection e1 with a2 e1;injection e1 with a3 a4
       injection e2 with b1 e2;injection e2 with b2 e2;injection e2 with b3 b4
       have e3:[]=K1:=e3
       have e4:[]=L1:=e4
       have hz2:(F == 0)=false:=by simpa using hz
       subst e3 e4 a1 a2 a3 a4 b1 b2 b3 b4 e5 e6 hf1
       clear hO1 Hr1 Hr2 HF1 Hpf hF hsm hkq
       have HR1:Hid (OwnK layPf w11 (zb + 1 + 1 + 1) (.slice none 0 0) []∧OwnK layLs w11 (zb + 1 + 1 + 1) (.slice none 0 0) []):=Lib.hid ⟨OwnK.nil _ _ _,OwnK.nil _ _ _⟩
       have Hl1:Hid (zb + 1 + 1 < zb + 1 + 1 + 1):=Lib.hid (by omega)
       have HSx:=Lib.hid (HS9.out.later HBc.out)
       have Hlt:Hid (zb + 1 + 1 < w11.heap.size):=Lib.hid HZ3.out.lt
       have p0:=HSx.out.blk.cell 0
       have p1:=HSx.out.blk.cell 1
       have p2:=HSx.out.blk.cell 2
       have p3:=HSx.out.blk.cell 3
       have p4:=HSx.out.blk.cell 4
       have p5:=HSx.out.blk.cell 5
       simp [plC,pfC] at p0 p1 p2 p3 p4 p5
       go_wp2_with fail
       refine (HQk.out w11 HSx.out.rk.rd HSx.out.rl.rd).mono ?_
       rintro e w13 ⟨v,rfl,hV,hb⟩
       clear HQk HSx p0 p1 p2 p3 p4 p5
       obtain ⟨a3,c3,a4,c4,rfl,q1,q2⟩:=hV
       rw [show (plC (h1,h2,h3,h4) (.slice a3 K2.length c3) (.slice a4 L2.length c4)).toArray=#[.bool h1, .int .u64 (h2:Int), .int .u64 (h3:Int), .int .i64 h4, .slice a3 K2.length c3, .slice a4 L2.length c4] from rfl]
       rw [He2.out.1] at q1 ⊢
       rw [He2.out.2] at q2 ⊢
       have HBd:=Lib.hid (HBc.out.trans (hb.mono HBc.out.size))
       have HY1:=Lib.hid (HZ1.out.below hb HZ1.out.lt)
       have HY2:=Lib.hid (HZ2.out.below hb HZ2.out.lt)
       have HY3:=Lib.hid (HZ3.out.below hb HZ3.out.lt)
       have HRd:=Lib.hid (And.intro (HR1.out.1.later hb) (HR1.out.2.later hb))
       have HN2:Hid (Blk ((((((w13.setCell ⟨zb + 1,0,none⟩ (.bool h1)).setCell ⟨zb + 1,1,none⟩ (.int .u64 (h2:Int))).setCell ⟨zb + 1,2,none⟩ (.int .u64 (h3:Int))).setCell ⟨zb + 1,3,none⟩ (.int .i64 h4)).setCell ⟨zb + 1,4,none⟩ (.slice a3 k2 c3)).setCell ⟨zb + 1,5,none⟩ (.slice a4 l2 c4)) (zb + 1) 34 #[.bool h1, .int .u64 (h2:Int), .int .u64 (h3:Int), .int .i64 h4, .slice a3 k2 c3, .slice a4 l2 c4]):=Lib.hid (HY2.out.set6w (x1':=.bool h1) (x2':=.int .u64 (h2:Int)) (x3':=.int .u64 (h3:Int)) (x4':=.int .i64 h4) (x5':=.slice a3 k2 c3) (x6':=.slice a4 l2 c4))
       have HN1:Hid (Blk ((((((w13.setCell ⟨zb + 1,0,none⟩ (.bool h1)).setCell ⟨zb + 1,1,none⟩ (.int .u64 (h2:Int))).setCell ⟨zb + 1,2,none⟩ (.int .u64 (h3:Int))).setCell ⟨zb + 1,3,none⟩ (.int .i64 h4)).setCell ⟨zb + 1,4,none⟩ (.slice a3 k2 c3)).setCell ⟨zb + 1,5,none⟩ (.slice a4 l2 c4)) zb 34 #[.bool false, .int .u64 0, .int .u64 0, .int .i64 0, .slice none 0 0, .slice none 0 0]):=Lib.hid (HY1.out.far6w (show zb ≠ zb + 1 by omega) (x1':=.bool h1) (x2':=.int .u64 (h2:Int)) (x3':=.int .u64 (h3:Int)) (x4':=.int .i64 h4) (x5':=.slice a3 k2 c3) (x6':=.slice a4 l2 c4))
       have HN3:Hid (Blk ((((((w13.setCell ⟨zb + 1,0,none⟩ (.bool h1)).setCell ⟨zb + 1,1,none⟩ (.int .u64 (h2:Int))).setCell ⟨zb + 1,2,none⟩ (.int .u64 (h3:Int))).setCell ⟨zb + 1,3,none⟩ (.int .i64 h4)).setCell ⟨zb + 1,4,none⟩ (.slice a3 k2 c3)).setCell ⟨zb + 1,5,none⟩ (.slice a4 l2 c4)) (zb + 1 + 1) 30 #[.bool false, .int .u64 0, .int .u64 0, .int .i64 0]):=Lib.hid (HY3.out.far6w (show zb + 1 + 1 ≠ zb + 1 by omega) (x1':=.bool h1) (x2':=.int .u64 (h2:Int)) (x3':=.int .u64 (h3:Int)) (x4':=.int .i64 h4) (x5':=.slice a3 k2 c3) (x6':=.slice a4 l2 c4))
       have HBn:Hid (Below w9.heap.size w9 ((((((w13.setCell ⟨zb + 1,0,none⟩ (.bool h1)).setCell ⟨zb + 1,1,none⟩ (.int .u64 (h2:Int))).setCell ⟨zb + 1,2,none⟩ (.int .u64 (h3:Int))).setCell ⟨zb + 1,3,none⟩ (.int .i64 h4)).setCell ⟨zb + 1,4,none⟩ (.slice a3 k2 c3)).setCell ⟨zb + 1,5,none⟩ (.slice a4 l2 c4))):=Lib.hid (below_set6 HBd.out (show w9.heap.size≤zb + 1 by rw [Hzb.out];omega) (.bool h1) (.int .u64 (h2:Int)) (.int .u64 (h3:Int)) (.int .i64 h4) (.slice a3 k2 c3) (.slice a4 l2 c4))
       have HRn:Hid (RdK layPf ((((((w13.setCell ⟨zb + 1,0,none⟩ (.bool h1)).setCell ⟨zb + 1,1,none⟩ (.int .u64 (h2:Int))).setCell ⟨zb + 1,2,none⟩ (.int .u64 (h3:Int))).setCell ⟨zb + 1,3,none⟩ (.int .i64 h4)).setCell ⟨zb + 1,4,none⟩ (.slice a3 k2 c3)).setCell ⟨zb + 1,5,none⟩ (.slice a4 l2 c4)) none []∧RdK layLs ((((((w13.setCell ⟨zb + 1,0,none⟩ (.bool h1)).setCell ⟨zb + 1,1,none⟩ (.int .u64 (h2:Int))).setCell ⟨zb + 1,2,none⟩ (.int .u64 (h3:Int))).setCell ⟨zb + 1,3,none⟩ (.int .i64 h4)).setCell ⟨zb + 1,4,none⟩ (.slice a3 k2 c3)).setCell ⟨zb + 1,5,none⟩ (.slice a4 l2 c4)) none []):=Lib.hid ⟨(HRd.out.1.farC (show zb + 1 < zb + 1 + 1 + 1 by have:=Hl1.out;omega) 0 [.bool h1, .int .u64 (h2:Int), .int .u64 (h3:Int), .int .i64 h4, .slice a3 k2 c3, .slice a4 l2 c4]).rd,(HRd.out.2.farC (show zb + 1 < zb + 1 + 1 + 1 by have:=Hl1.out;omega) 0 [.bool h1, .int .u64 (h2:Int), .int .u64 (h3:Int), .int .i64 h4, .slice a3 k2 c3, .slice a4 l2 c4]).rd⟩
       have HQn:Hid (RdK layPf ((((((w13.setCell ⟨zb + 1,0,none⟩ (.bool h1)).setCell ⟨zb + 1,1,none⟩ (.int .u64 (h2:Int))).setCell ⟨zb + 1,2,none⟩ (.int .u64 (h3:Int))).setCell ⟨zb + 1,3,none⟩ (.int .i64 h4)).setCell ⟨zb + 1,4,none⟩ (.slice a3 k2 c3)).setCell ⟨zb + 1,5,none⟩ (.slice a4 l2 c4)) a3 K2∧RdK layLs ((((((w13.setCell ⟨zb + 1,0,none⟩ (.bool h1)).setCell ⟨zb + 1,1,none⟩ (.int .u64 (h2:Int))).setCell ⟨zb + 1,2,none⟩ (.int .u64 (h3:Int))).setCell ⟨zb + 1,3,none⟩ (.int .i64 h4)).setCell ⟨zb + 1,4,none⟩ (.slice a3 k2 c3)).setCell ⟨zb + 1,5,none⟩ (.slice a4 l2 c4)) a4 L2):=Lib.hid ⟨(q1.farC (show zb + 1 < w11.heap.size by have:=Hlt.out;omega) 0 [.bool h1, .int .u64 (h2:Int), .int .u64 (h3:Int), .int .i64 h4, .slice a3 k2 c3, .slice a4 l2 c4]).rd,(q2.farC (show zb + 1 < w11.heap.size by have:=Hlt.out;omega) 0 [.bool h1, .int .u64 (h2:Int), .int .u64 (h3:Int), .int .i64 h4, .slice a3 k2 c3, .slice a4 l2 c4]).rd⟩
       have r0:=HY2.out.cell 0
       have r1:=HY2.out.cell 1
       have r2:=HY2.out.cell 2
       have r3:=HY2.out.cell 3
       have r4:=HY2.out.cell 4
       have r5:=HY2.out.cell 5
       simp at r0 r1 r2 r3 r4 r5
       have rf:=HY2.out.free
       clear hb q1 q2 HZ1 HZ2 HZ3 HR1 HBc HY1 HY2 HY3 HRd HBd Hlt
       go_upto_region 20 with fail
       generalize ((((((w13.setCell ⟨zb + 1,0,none⟩ (.bool h1)).setCell ⟨zb + 1,1,none⟩ (.int .u64 (h2:Int))).setCell ⟨zb + 1,2,none⟩ (.int .u64 (h3:Int))).setCell ⟨zb + 1,3,none⟩ (.int .i64 h4)).setCell ⟨zb + 1,4,none⟩ (.slice a3 k2 c3)).setCell ⟨zb + 1,5,none⟩ (.slice a4 l2 c4))=w16 at *
       clear r0 r1 r2 r3 r4 r5 rf
       go_wp2_with fail
       refine (HW2.out _).mono ?_
       rintro e wz ⟨rfl,rfl⟩
       go_wp2_with fail
       go_meet
       case rel => exact ⟨rfl,rfl,none,none,a3,a4,0,0,c3,c4,HN1.out,HN2.out,HN3.out,HRn.out.1,HRn.out.2,HQn.out.1,HQn.out.2,HBn.out⟩
    ·have hO1:pickO (ps,ph,pl,pn) K L ky=none∧F1=pf:=by
      have hk:keyF (ps,ph,pl,pn) K L ky=pf:=by
       unfold keyF
       rw [Hpf.out,if_pos hz]
      rw [← HF1.out]
      unfold pickO pickF
      rw [hk,if_pos hz,if_pos hz]
      exact ⟨rfl,rfl⟩
     have hO2:packO (ps,ph,pl,pn) K L=none∧F2=pf:=by
      rw [← HF2.out]
      unfold packO packF
      rw [Hpf.out,if_pos hz,if_pos hz]
      exact ⟨rfl,rfl⟩
     have hz2:(pf == 0)=false:=by simpa using hz
     obtain ⟨hO1,hf1⟩:=hO1
     obtain ⟨hO2,hf2⟩:=hO2
     obtain ⟨e1,e2,e3,e4,e5,e6⟩:=Hr1.out
     obtain ⟨u2,u3,u4,u5,u6⟩:=Hr2.out
     rw [hO1] at e1 e2 e3 e4
     rw [hO2] at u2 u3 u4
     injection e1 with a1 e1;injection e1 with a2 e1;injection e1 with a3 a4
     injection e2 with b1 e2;injection e2 with b2 e2;injection e2 with b3 b4
     injection u2 with d1 u2;injection u2 with d2 u2;injection u2 with d3 d4
     have e3:[]=K1:=e3
     have e4:[]=L1:=e4
     have u3:[]=K2:=u3
     have u4:[]=L2:=u4
     subst e3 e4 u3 u4 a1 a2 a3 a4 b1 b2 b3 b4 d1 d2 d3 d4 e5 e6 u5 u6 hf1 hf2
     clear hO1 hO2 Hr1 Hr2 HF1 HF2 Hpf
     go_wp2_with fail
     go_meet
     case rel => exact ⟨rfl,rfl,none,none,none,none,0,0,0,0,HZ1.out,HZ2.out,HZ3.out,RdK.nil _ _,RdK.nil _ _,RdK.nil _ _,RdK.nil _ _,HBc.out⟩
  case rest =>
  obtain ⟨rfl,rfl,a1,a2,a3,a4,c1,c2,c3,c4,z1,z2,z3,d1,d2,d3,d4,hB⟩:=hcut
  have HZ1:=Lib.hid z1
  have HZ2:=Lib.hid z2
  have HZ3:=Lib.hid z3
  have HD:=Lib.hid (And.intro d1 (And.intro d2 (And.intro d3 d4)))
  have HBw:=Lib.hid hB
  clear z1 z2 z3 d1 d2 d3 d4 hB
  have HTc:=Lib.hid (HT9.out.later HBw.out)
  have HQc:=Lib.hid (HQ9.out.below HBw.out HQ9.out.lt)
  have HOc:=Lib.hid (And.intro (HO9.out.1.later HBw.out) (HO9.out.2.later HBw.out))
  have HSc:=Lib.hid (HS9.out.later HBw.out)
  clear HS9 HT9 HQ9 HO9 HBw HBc HF1 HF2 Hpf
  have p0:=HTc.out.pb.cell 0
  have p1:=HTc.out.pb.cell 1
  have p2:=HTc.out.pb.cell 2
  have p3:=HTc.out.pb.cell 3
  have p4:=HTc.out.pb.cell 4
  have p5:=HTc.out.pb.cell 5
  simp [plC,pfC] at p0 p1 p2 p3 p4 p5
  have q0:=HZ1.out.cell 0
  have q1:=HZ1.out.cell 1
  have q2:=HZ1.out.cell 2
  have q3:=HZ1.out.cell 3
  have q4:=HZ1.out.cell 4
  have q5:=HZ1.out.cell 5
  simp at q0 q1 q2 q3 q4 q5
  go_wp2_with fail
  refine (samePool_any (g1,g2,g3,g4) K1 L1 ta ua a1 a2 k1 l1 tc uc c1 c2 wc HTc.out.rk.rd HTc.out.rl.rd HD.out.1 HD.out.2.1 Hr1.out.2.2.2.2.1 Hr1.out.2.2.2.2.2 Hb1.out.1 Hb1.out.2).mono ?_
  rintro e w15 ⟨rfl,hb⟩
  have HTd:=Lib.hid (HTc.out.later hb)
  have HQd:=Lib.hid (HQc.out.below hb HQc.out.lt)
  have HOd:=Lib.hid (And.intro (HOc.out.1.later hb) (HOc.out.2.later hb))
  have HSd:=Lib.hid (HSc.out.later hb)
  have HY2:=Lib.hid (HZ2.out.below hb HZ2.out.lt)
  have HY3:=Lib.hid (HZ3.out.below hb HZ3.out.lt)
  have HE3:=Lib.hid (HD.out.2.2.1.below hb)
  have HE4:=Lib.hid (HD.out.2.2.2.below hb)
  clear hb HTc HQc HOc HSc HZ1 HZ2 HZ3 HD p0 p1 p2 p3 p4 p5 q0 q1 q2 q3 q4 q5
  have p0:=HQd.out.cell 0
  have p1:=HQd.out.cell 1
  have p2:=HQd.out.cell 2
  have p3:=HQd.out.cell 3
  have p4:=HQd.out.cell 4
  have p5:=HQd.out.cell 5
  simp at p0 p1 p2 p3 p4 p5
  have q0:=HY2.out.cell 0
  have q1:=HY2.out.cell 1
  have q2:=HY2.out.cell 2
  have q3:=HY2.out.cell 3
  have q4:=HY2.out.cell 4
  have q5:=HY2.out.cell 5
  simp at q0 q1 q2 q3 q4 q5
  go_wp2_with fail
  refine (samePool_any (h1,h2,h3,h4) K2 L2 sa za a3 a4 k2 l2 sc zc c3 c4 w15 HOd.out.1.rd HOd.out.2.rd HE3.out HE4.out Hr2.out.2.2.2.1 Hr2.out.2.2.2.2 Hb2.out.1 Hb2.out.2).mono ?_
  rintro e w16 ⟨rfl,hb⟩
  have HTe:=Lib.hid (HTd.out.later hb)
  have HSe:=Lib.hid (HSd.out.later hb)
  have HY4:=Lib.hid (HY3.out.below hb HY3.out.lt)
  clear hb HTd HQd HOd HSd HY2 HY3 HE3 HE4 p0 p1 p2 p3 p4 p5 q0 q1 q2 q3 q4 q5
  have p0:=HTe.out.xb.cell 0
  have p1:=HTe.out.xb.cell 1
  have p2:=HTe.out.xb.cell 2
  have p3:=HTe.out.xb.cell 3
  simp [pfC] at p0 p1 p2 p3
  have q0:=HY4.out.cell 0
  have q1:=HY4.out.cell 1
  have q2:=HY4.out.cell 2
  have q3:=HY4.out.cell 3
  simp at q0 q1 q2 q3
  have hAd:=Lib.hid fun wx => addressed_any wx
  have hE1:=fun wq => pfx_eql x1 x1 (x2:Int) (x2:Int) (x3:Int) (x3:Int) x4 x4 wq
  simp only [decide_true] at hE1
  have hGd:=pfx_guard .eql
  go_wp2_with fail
  refine (hAd.out _).mono ?_
  rintro e z ⟨rfl,hb⟩
  have HE:=Lib.hid (HSe.out.later hb).bel
  clear hb
  go_wp2_with fail
  go_ret
  exact ⟨rfl,HE.out⟩
end Go.Proofs.YteldaicgaeooiaaGreatDoor
