/-
  The law PoolsLease: walked.
  Pick, plain: the first free number from a start on, and from the beginning when there is none, two ways.
  The sum of a key, two ways.
  wide.plus of the reference, at any number: so many further on.
  PickOf: the reference's search for a free address, going round.
  Pick: the program's search for a free address.
-/
import Derived.Test.YteldaicgaeooiaaGreatDoorPK16
import Derived.Test.YteldaicgaeooiaaGreatDoorPK5
import Derived.Test.YteldaicgaeooiaaGreatDoorPK10
import Derived.Test.YteldaicgaeooiaaGreatDoorPK9
import Derived.Test.YteldaicgaeooiaaGreatDoorPK11
import Derived.Test.YteldaicgaeooiaaGreatDoorPK14
import Derived.Test.YteldaicgaeooiaaGreatDoorPK8
set_option linter.unusedVariables false
set_option maxRecDepth 100000
set_option maxHeartbeats 16000000
namespace Go.Proofs.YteldaicgaeooiaaGreatDoor
open Go.RowKit Go Go.Sort
theorem Gen.toBelowR {b m:Nat} {w u v:World} (h:Gen b u v m) (hw:Below w.heap.size w u) (hb:w.heap.size≤b):Below w.heap.size w v :=
 hw.trans ⟨h.g.os,h.g.tape,h.g.output,h.g.size,fun k hk => h.g.block k (Nat.lt_of_lt_of_le hk hw.size) (by intro e;injection e with e;omega)⟩
structure PlS (w wx:World) (B pb:Nat) (P:Pf) (K:List Pf) (L:List Ls) (ka la:Option Addr) (kn kc ln lc:Nat):Prop where
 bel:Below w.heap.size w wx
 le:B≤wx.heap.size
 blk:Blk wx pb 34 (plC P (.slice ka kn kc) (.slice la ln lc)).toArray
 rk:OwnK layPf wx B (.slice ka kn kc) K
 rl:OwnK layLs wx B (.slice la ln lc) L
theorem PlS.later {w wx wy:World} {B pb:Nat} {P:Pf} {K:List Pf} {L:List Ls} {ka la:Option Addr} {kn kc ln lc:Nat} (h:PlS w wx B pb P K L ka la kn kc ln lc) (hb:Below wx.heap.size wx wy):PlS w wy B pb P K L ka la kn kc ln lc :=
 ⟨h.bel.trans (hb.mono h.bel.size),Nat.le_trans h.le hb.size,h.blk.below hb h.blk.lt,h.rk.later hb,h.rl.later hb⟩
structure TkS (wx:World) (B tb xb:Nat) (P1:Pf) (K1:List Pf) (L1:List Ls) (X1:Pf) (ta ua:Option Addr) (k1 tc l1 uc:Nat):Prop where
 pb:Blk wx tb 34 (plC P1 (.slice ta k1 tc) (.slice ua l1 uc)).toArray
 xb:Blk wx xb 30 (pfC X1).toArray
 rk:OwnK layPf wx B (.slice ta k1 tc) K1
 rl:OwnK layLs wx B (.slice ua l1 uc) L1
theorem TkS.new {w:World} {B:Nat} {P1:Pf} {K1:List Pf} {L1:List Ls} {X1:Pf} {ta ua:Option Addr} {k1 tc l1 uc:Nat} (h1:OwnK layPf w B (.slice ta k1 tc) K1) (h2:OwnK layLs w B (.slice ua l1 uc) L1) :
  TkS ((w.alloc (.cells (plC P1 (.slice ta k1 tc) (.slice ua l1 uc)).toArray 34 (0,0))).alloc (.cells (pfC X1).toArray 30 (0,0))) B w.heap.size (w.heap.size + 1) P1 K1 L1 X1 ta ua k1 tc l1 uc :=
 ⟨(Blk.new w _ _).alloc _,by
  have e:(w.alloc (.cells (plC P1 (.slice ta k1 tc) (.slice ua l1 uc)).toArray 34 (0,0))).heap.size=w.heap.size + 1:=by simp
  rw [← e]
  exact Blk.new _ _ _,(h1.alloc _).alloc _,(h2.alloc _).alloc _⟩
theorem TkS.later {wx wy:World} {B tb xb:Nat} {P1:Pf} {K1:List Pf} {L1:List Ls} {X1:Pf} {ta ua:Option Addr} {k1 tc l1 uc:Nat} (h:TkS wx B tb xb P1 K1 L1 X1 ta ua k1 tc l1 uc) (hb:Below wx.heap.size wx wy):TkS wy B tb xb P1 K1 L1 X1 ta ua k1 tc l1 uc :=
 ⟨h.pb.below hb h.pb.lt,h.xb.below hb h.xb.lt,h.rk.later hb,h.rl.later hb⟩
theorem below_two (w:World) (a b:Obj):Below w.heap.size w ((w.alloc a).alloc b):=below_alloc (below_alloc (Below.refl _ _) _) _
theorem firstE_two (a b:Int):firstE [a,b]=if a ≠ 0 then a else b:=by
 by_cases h:a=0
 ·subst h
  by_cases h2:b=0
  ·subst h2;rfl
  ·simp [firstE,h2]
 ·simp [firstE,h]
theorem gotK_len (o:Option Pf) (K:List Pf):(gotK o K).length≤K.length:=by
 cases o
 ·exact Nat.zero_le _
 ·exact Nat.le_refl _
theorem gotL_len (o:Option Pf) (L:List Ls) (key:List UInt8) (n:Int):(gotL o L key n).length≤L.length + 1:=by
 cases o
 ·exact Nat.zero_le _
 ·exact Nat.le_of_eq (leasedL_len _ _ _)
open Go
def pkP (F:List Sp) (want:Nat):Option Nat :=
 match F.find? (fun s => decide (want≤s.2)) with
 | some s => some (max s.1 want)
 | none => F.head?.map (·.1)
def pkQ (lo size start:Nat) (tk:Nat→Bool):Option Nat :=
 ((List.range size).find? fun i => !tk (lo + (start + i) % size)).map fun i => lo + (start + i) % size
theorem range_find {n i:Nat} {q:Nat→Bool} (hi:i < n) (h:q i=true) (hn:∀ j,j < i→q j=false):(List.range n).find? q=some i:=by
 rw [List.find?_range_eq_some]
 exact ⟨h,List.mem_range.2 hi,fun j hj => by rw [hn j hj];rfl⟩
theorem range_find_none {n:Nat} {q:Nat→Bool} (hn:∀ j,j < n→q j=false):(List.range n).find? q=none:=by
 rw [List.find?_eq_none]
 intro x hx
 rw [hn x (List.mem_range.1 hx)]
 decide
theorem pk_same {F:List Sp} {lo size start:Nat} {tk:Nat→Bool} (hc:Can F) (hs:start < size) (hF:∀ x,InS F x ↔ (lo≤x∧x < lo + size)∧tk x=false) :
  pkP F (lo + start)=pkQ lo size start tk:=by
 have hno:∀ x,lo≤x→x < lo + size→¬ InS F x→tk x=true:=fun x h1 h2 h3 => by
  cases h:tk x with
  | true => rfl
  | false => exact absurd ((hF x).2 ⟨⟨h1,h2⟩,h⟩) h3
 unfold pkP pkQ
 cases hf:F.find? (fun s => decide (lo + start≤s.2)) with
 | some s =>
   obtain ⟨h1,fa,fb,rfl,h2⟩:=List.find?_eq_some_iff_append.1 hf
   have h1:lo + start≤s.2:=by simpa using h1
   have hpw:=hc.1
   rw [List.pairwise_append,List.pairwise_cons] at hpw
   obtain ⟨-,⟨hpb, -⟩, -⟩:=hpw
   have hle:=hc.2 s (by simp)
   have hv:InS (fa ++ s :: fb) (max s.1 (lo + start)):=⟨s,by simp,by omega,by omega⟩
   obtain ⟨⟨hv1,hv2⟩,hv3⟩:=(hF _).1 hv
   have hm:∀ j,start + j < size→lo + (start + j) % size=lo + start + j:=fun j hj => by
    rw [Nat.mod_eq_of_lt hj]
    omega
   have hj:lo + (start + (max s.1 (lo + start) - (lo + start))) % size=max s.1 (lo + start):=by
    rw [hm _ (by omega)]
    omega
   rw [range_find (i:=max s.1 (lo + start) - (lo + start)) (by omega) (by simp only [hj,hv3];rfl) ?_]
   ·simp only [Option.map_some,hj]
   ·intro j hjl
    rw [hm j (by omega)]
    rw [hno (lo + start + j) (by omega) (by omega) ?_]
    ·rfl
    ·rintro ⟨t,ht,ht1,ht2⟩
     rcases List.mem_append.1 ht with ht | ht
     ·have:=h2 t ht
      simp at this
      omega
     ·rcases List.mem_cons.1 ht with rfl | ht
      ·omega
      ·have:=hpb t ht
       omega
 | none =>
   rw [List.find?_eq_none] at hf
   have hf:∀ t ∈ F,t.2 < lo + start:=fun t ht => by
    have:=hf t ht
    simp at this
    omega
   cases F with
   | nil =>
     rw [range_find_none]
     ·rfl
     ·intro j hj
      have hsz:0 < size:=by omega
      have:=Nat.mod_lt (start + j) hsz
      rw [hno _ (by omega) (by omega) (inS_nil _)]
      rfl
   | cons s F' =>
     have hpw:=hc.1
     rw [List.pairwise_cons] at hpw
     obtain ⟨hpb, -⟩:=hpw
     have hle:=hc.2 s (by simp)
     have hl:=hf s (by simp)
     have hv:InS (s :: F') s.1:=⟨s,by simp,by omega,by omega⟩
     obtain ⟨⟨hv1,hv2⟩,hv3⟩:=(hF _).1 hv
     have hm:∀ j,size≤start + j→start + j < size + size→lo + (start + j) % size=lo + (start + j - size):=fun j hj hj2 => by
      rw [Nat.mod_eq_sub_mod hj,Nat.mod_eq_of_lt (by omega)]
     have hj:lo + (start + (size - start + (s.1 - lo))) % size=s.1:=by
      rw [hm _ (by omega) (by omega)]
      omega
     rw [range_find (i:=size - start + (s.1 - lo)) (by omega) (by simp only [hj,hv3];rfl) ?_]
     ·simp only [Option.map_some,hj,List.head?_cons]
     ·intro j hjl
      rcases Nat.lt_or_ge (start + j) size with h3 | h3
      ·rw [Nat.mod_eq_of_lt h3]
       rw [hno (lo + (start + j)) (by omega) (by omega) ?_]
       ·rfl
       ·rintro ⟨t,ht,ht1,ht2⟩
        have:=hf t ht
        omega
      ·rw [hm j h3 (by omega)]
       rw [hno (lo + (start + j - size)) (by omega) (by omega) ?_]
       ·rfl
       ·rintro ⟨t,ht,ht1,ht2⟩
        rcases List.mem_cons.1 ht with rfl | ht
        ·omega
        ·have:=hpb t ht
         omega
theorem freeS_mem {P:Pf} {K:List Pf} {L:List Ls} (hP:OkPf P) (hT:∀ p ∈ takenL K L,OkPf p) :
  Can (freeS P K L)∧∀ x,InS (freeS P K L) x ↔ (nuP P≤x∧x < nuP P + 2 ^ (LN (nuP P) - P.2.2.2.toNat))∧((takenL K L).any fun p => inP p x)=false:=by
 have hP1:∀ p ∈ [P],OkPf p:=fun p hp => by rw [List.mem_singleton.1 hp];exact hP
 have g:=gaps_ok (spn_can hT) (spn_vr hT)
 obtain ⟨h1,h2, -⟩:=both_ok (spn_can hP1) g.1 (spn_vr hP1) g.2.2
 refine ⟨h1,fun x => ?_⟩
 show InS (jn (both (spn [P]) (gaps (spn (takenL K L))))) x ↔ _
 rw [h2,g.2.1,inS_spn hP1,inS_spn hT]
 have ha:((takenL K L).any fun p => inP p x)=false ↔ ¬ InS ((takenL K L).map spP) x:=by
  rw [← any_inP,Bool.not_eq_true]
 rw [ha]
 have hs:=hP.sp.snd
 have hv:=hP.vr
 have hp:0 < 2 ^ (LN (nuP P) - P.2.2.2.toNat):=Nat.pow_pos (by decide)
 have h0:(spP P).1=nuP P:=rfl
 have hi:InS ([P].map spP) x ↔ (spP P).1≤x∧x≤(spP P).2:=by simp [InS]
 rw [hi]
 constructor
 ·rintro ⟨⟨a,b⟩, -,c⟩
  exact ⟨⟨by omega,by omega⟩,c⟩
 ·rintro ⟨⟨a,b⟩,c⟩
  refine ⟨⟨by omega,by omega⟩,?_,c⟩
  obtain ⟨v1,v2,v3,v4⟩:=hv
  unfold sixN at v3
  rw [decide_eq_decide] at v3
  unfold VN at v1 v2 ⊢
  omega
theorem add_num {N st j:Nat} (hd:2 ^ j ∣ N) (hj:j≤64) (hs:st < 2 ^ j):sixN (N + st)=sixN N∧hiN (N + st)=hiN N∧loN (N + st)=loN N + st∧loN N + st < 2 ^ 64:=by
 obtain ⟨e,he⟩:∃ e,2 ^ 64=2 ^ j * e:=⟨2 ^ (64 - j),by rw [← Nat.pow_add];congr 1;omega⟩
 have hl:2 ^ j ∣ N % 2 ^ 64:=(Nat.dvd_mod_iff ⟨e,he⟩).2 hd
 obtain ⟨r,hr⟩:=hl
 have hlt:=Nat.mod_lt N (show 0 < 2 ^ 64 by decide)
 have hb:N % 2 ^ 64 + 2 ^ j≤2 ^ 64:=by
  rw [hr] at hlt ⊢
  rw [he] at hlt ⊢
  have hre:r < e:=Nat.lt_of_mul_lt_mul_left hlt
  rw [← Nat.mul_succ]
  exact Nat.mul_le_mul_left _ hre
 clear hr hlt hd he hj
 generalize 2 ^ j=s at *
 unfold sixN hiN loN
 refine ⟨decide_eq_decide.2 ⟨fun h => by omega,fun h => by omega⟩,by omega,by omega,by omega⟩
open Go.RowKit Go
def fnvS (h:Int) (b:UInt8):Int:=IntKind.u64.wrap (bits .xor .u64 h (b.toNat:Int) * 1099511628211)
def fnvI (s:List UInt8):Int:=s.foldl fnvS 14695981039346656037
theorem fnv_take {L:List UInt8} {k:Nat} {x:UInt8} (h:L[k]?=some x):fnvI (L.take (k + 1))=fnvS (fnvI (L.take k)) x:=by
 rw [List.take_add_one,h]
 unfold fnvI
 rw [List.foldl_append]
 rfl
theorem fnv_shift (y:Int):IntKind.u64.wrap (IntKind.u64.wrap (IntKind.u64.wrap (IntKind.u64.wrap (IntKind.u64.wrap (IntKind.u64.wrap (IntKind.u64.wrap (y * 1099511627776) + IntKind.u64.wrap (y * 256)) + IntKind.u64.wrap (y * 128)) + IntKind.u64.wrap (y * 32)) + IntKind.u64.wrap (y * 16)) + IntKind.u64.wrap (y * 2)) + y)=IntKind.u64.wrap (y * 1099511628211):=by
 simp only [IntKind.wrap_u64]
 omega
theorem fnv_pos (s:List UInt8):∃ n:Nat,fnvI s=(n:Int)∧n < 18446744073709551616:=by
 have h:0≤fnvI s∧fnvI s < 18446744073709551616:=by
  rcases snoc_cases s with rfl | ⟨A,c,rfl⟩
  ·exact ⟨by decide,by decide⟩
  ·unfold fnvI
   rw [List.foldl_append]
   show 0≤fnvS _ c∧fnvS _ c < _
   unfold fnvS
   rw [IntKind.wrap_u64]
   omega
 exact ⟨(fnvI s).toNat,by omega,by omega⟩
theorem asumOf_any (L:List UInt8) (w:World) (hL:L.length≤1000000):Calls Tryz.prog 63 #[.string (strL L)] w fun e w' => e=.returned (.int .u64 (fnvI L))∧w'=w:=by
 have HIx:=Lib.hid fun (i:Nat) (x:UInt8) hx h => strL_get L i x hx h
 have HT:=Lib.hid fun (k:Nat) (x:UInt8) (hx:L[k]?=some x) => fnv_take hx
 have H0:Hid (fnvI (L.take 0)=14695981039346656037):=Lib.hid rfl
 have HE:Hid (∀ k,k=L.length→fnvI (L.take k)=fnvI L):=Lib.hid fun k h => by rw [h,List.take_length]
 have hsz:=strL_size L
 generalize strL L=S at *
 generalize fnvI L=F at *
 generalize hT:(fun k => fnvI (L.take k))=T at *
 have hTk:∀ k,fnvI (L.take k)=T k:=fun k => by rw [← hT]
 simp only [hTk] at HT H0 HE
 clear hTk hT
 obtain ⟨n,hn⟩:∃ n,L.length=n:=⟨_,rfl⟩
 have Hn:=Lib.hid hn
 rw [hn] at hsz hL HE
 clear hn
 go_enter Tryz.func63,Tryz.ntmps63
 go_wp2_with fail
 go_loop [3,4,7] (fun h i4 i => ∃ k:Nat,k≤n∧i=.int .i64 (k:Int)∧h=.int .u64 (T k)) (fun _ _ i => n - (intOf i).toNat)
 case atStart => exact ⟨0,Nat.zero_le _,rfl,by rw [H0.out]⟩
 case round =>
  obtain ⟨k,hk,rfl,rfl⟩:=hrel
  by_cases hlt:k < n
  ·obtain ⟨x,hx⟩:∃ x,L[k]?=some x:=⟨_,List.getElem?_eq_getElem (by rw [Hn.out];exact hlt)⟩
   have hix:∀ h:k < S.size,(((S[k]'h).toNat:Nat):Int)=(x.toNat:Int):=fun h => by rw [HIx.out k x hx h]
   have HS:=Lib.hid (HT.out k x hx)
   unfold fnvS at HS
   obtain ⟨v,hv⟩:∃ v:Int,(x.toNat:Int)=v:=⟨_,rfl⟩
   rw [hv] at hix HS
   have hv2:0≤v∧v < 256:=by have:=x.toNat_lt;omega
   obtain ⟨hv0,hv1⟩:=hv2
   obtain ⟨a,ha⟩:∃ a,T k=a:=⟨_,rfl⟩
   rw [ha] at HS ⊢
   clear hx hv ha HT H0 HE HIx
   go_wp2_with fail
   exact ⟨⟨k + 1,by omega,by go_num,by rw [HS.out]⟩,by simp [intOf];omega⟩
  ·obtain rfl:k=n:=by omega
   rw [HE.out k rfl]
   go_wp2_with fail
   go_ret
   exact ⟨rfl,rfl⟩
theorem qSumOf_any (L:List UInt8) (w:World) (hL:L.length≤1000000):Calls Tryz.prog 71 #[.string (strL L)] w fun e w' => e=.returned (.int .u64 (fnvI L))∧w'=w:=by
 have HIx:=Lib.hid fun (i:Nat) (x:UInt8) hx h => strL_get L i x hx h
 have HT:=Lib.hid fun (k:Nat) (x:UInt8) (hx:L[k]?=some x) => fnv_take hx
 have H0:Hid (fnvI (L.take 0)=14695981039346656037):=Lib.hid rfl
 have HE:Hid (∀ k,k=L.length→fnvI (L.take k)=fnvI L):=Lib.hid fun k h => by rw [h,List.take_length]
 have hsz:=strL_size L
 generalize strL L=S at *
 generalize fnvI L=F at *
 generalize hT:(fun k => fnvI (L.take k))=T at *
 have hTk:∀ k,fnvI (L.take k)=T k:=fun k => by rw [← hT]
 simp only [hTk] at HT H0 HE
 clear hTk hT
 obtain ⟨n,hn⟩:∃ n,L.length=n:=⟨_,rfl⟩
 have Hn:=Lib.hid hn
 rw [hn] at hsz hL HE
 clear hn
 go_enter Tryz.func71,Tryz.ntmps71
 go_wp2_with fail
 go_loop [3,4,7] (fun h i4 i => ∃ k:Nat,k≤n∧i=.int .i64 (k:Int)∧h=.int .u64 (T k)) (fun _ _ i => n - (intOf i).toNat)
 case atStart => exact ⟨0,Nat.zero_le _,rfl,by rw [H0.out]⟩
 case round =>
  obtain ⟨k,hk,rfl,rfl⟩:=hrel
  by_cases hlt:k < n
  ·obtain ⟨x,hx⟩:∃ x,L[k]?=some x:=⟨_,List.getElem?_eq_getElem (by rw [Hn.out];exact hlt)⟩
   have hix:∀ h:k < S.size,(((S[k]'h).toNat:Nat):Int)=(x.toNat:Int):=fun h => by rw [HIx.out k x hx h]
   have HS:=Lib.hid (HT.out k x hx)
   unfold fnvS at HS
   obtain ⟨v,hv⟩:∃ v:Int,(x.toNat:Int)=v:=⟨_,rfl⟩
   rw [hv] at hix HS
   have hv2:0≤v∧v < 256:=by have:=x.toNat_lt;omega
   obtain ⟨hv0,hv1⟩:=hv2
   obtain ⟨a,ha⟩:∃ a,T k=a:=⟨_,rfl⟩
   rw [ha] at HS ⊢
   clear hx hv ha HT H0 HE HIx
   go_upto_region 6 with fail
   obtain ⟨y,hy⟩:∃ y,bits .xor .u64 a v=y:=⟨_,rfl⟩
   rw [hy] at HS ⊢
   clear hy
   go_wp2_with fail
   exact ⟨⟨k + 1,by omega,by go_num,by rw [HS.out,fnv_shift]⟩,by simp [intOf];omega⟩
  ·obtain rfl:k=n:=by omega
   rw [HE.out k rfl]
   go_wp2_with fail
   go_ret
   exact ⟨rfl,rfl⟩
def carK (x n k:Nat):Nat:=(x % 65536 ^ k + n) / 65536 ^ k
theorem carK_zero (x n:Nat):carK x n 0=n:=by simp [carK,Nat.mod_one]
theorem carK_le (x n k:Nat):carK x n k≤n:=by
 unfold carK
 have hp:0 < 65536 ^ k:=Nat.pow_pos (by decide)
 have h:=Nat.mod_lt x hp
 refine Nat.le_of_lt_succ ((Nat.div_lt_iff_lt_mul hp).2 ?_)
 generalize x % 65536 ^ k=r at *
 generalize 65536 ^ k=m at *
 have:n * 1≤n * m:=Nat.mul_le_mul_left n hp
 rw [Nat.succ_mul]
 omega
theorem carK_dig (x n k:Nat):digN (x + n) k=(carK x n k + digN x k) % 65536:=by
 have hp:0 < 65536 ^ k:=Nat.pow_pos (by decide)
 unfold digN carK
 have e:x + n=(x % 65536 ^ k + n) + 65536 ^ k * (x / 65536 ^ k):=by have:=Nat.mod_add_div x (65536 ^ k);omega
 rw [e,Nat.add_mul_div_left _ _ hp,Nat.add_mod,Nat.add_mod ((x % 65536 ^ k + n) / 65536 ^ k) (x / 65536 ^ k % 65536),Nat.mod_mod]
theorem carK_succ (x n k:Nat):carK x n (k + 1)=(carK x n k + digN x k) / 65536:=by
 have hp:0 < 65536 ^ k:=Nat.pow_pos (by decide)
 unfold digN carK
 rw [Nat.mod_pow_succ,Nat.pow_succ, ← Nat.div_div_eq_div_mul,show x % 65536 ^ k + 65536 ^ k * (x / 65536 ^ k % 65536) + n=x % 65536 ^ k + n + 65536 ^ k * (x / 65536 ^ k % 65536) by omega,Nat.add_mul_div_left _ _ hp]
def mixK (x n k:Nat) (j:Nat):Nat:=if j < k then digN (x + n) j else digN x j
theorem mixK_step (x n k:Nat) (h:k < 9):(wd (mixK x n k)).setIfInBounds k (.int .i64 (((carK x n k + digN x k) % 65536:Nat):Int))=wd (mixK x n (k + 1)):=by
 rw [wd_set _ _ h]
 refine wd_congr fun d _ => ?_
 unfold mixK
 by_cases h1:d=k
 ·subst h1;rw [if_pos rfl,if_pos (by omega),carK_dig]
 ·rw [if_neg h1]
  by_cases h2:d < k
  ·rw [if_pos h2,if_pos (by omega)]
  ·rw [if_neg h2,if_neg (by omega)]
theorem plusK (x n:Nat) (w:World) (hn:n≤1099511627776):Calls Tryz.prog 73 #[.agg (wN x), .int .i64 (n:Int)] w (Ret (.agg (wN (x + n))) w):=by
 have HZ:Hid (mixK x n 9=mixK x n 9∧wd (mixK x n 9)=wN (x + n)):=Lib.hid ⟨rfl,wd_congr fun d hd => by unfold mixK;rw [if_pos hd]⟩
 have H0:Hid (wN x=wd (mixK x n 0)):=Lib.hid (wd_congr fun d _ => by unfold mixK;rw [if_neg (by omega)])
 rw [H0.out]
 have HP':Blk ((w.alloc (.cells (wd (mixK x n 0)) 101 (0,0))).alloc (.cells #[.int .i64 0, .int .i64 0, .int .i64 0, .int .i64 0, .int .i64 0, .int .i64 0, .int .i64 0, .int .i64 0, .int .i64 0] 101 (0,0))) (w.heap.size) 101 (wd (mixK x n 0)):=(Blk.new w _ _).alloc _
 have HR':Blk ((w.alloc (.cells (wd (mixK x n 0)) 101 (0,0))).alloc (.cells #[.int .i64 0, .int .i64 0, .int .i64 0, .int .i64 0, .int .i64 0, .int .i64 0, .int .i64 0, .int .i64 0, .int .i64 0] 101 (0,0))) (w.heap.size + 1) 101 #[.int .i64 0, .int .i64 0, .int .i64 0, .int .i64 0, .int .i64 0, .int .i64 0, .int .i64 0, .int .i64 0, .int .i64 0]:=by
  have this:=Blk.new (w.alloc (.cells (wd (mixK x n 0)) 101 (0,0))) 101 #[.int .i64 0, .int .i64 0, .int .i64 0, .int .i64 0, .int .i64 0, .int .i64 0, .int .i64 0, .int .i64 0, .int .i64 0]
  rw [World.size_alloc] at this
  exact this
 have HP:=Lib.hid HP'
 have HR:=Lib.hid HR'
 have HB:Hid (Below w.heap.size w ((w.alloc (.cells (wd (mixK x n 0)) 101 (0,0))).alloc (.cells #[.int .i64 0, .int .i64 0, .int .i64 0, .int .i64 0, .int .i64 0, .int .i64 0, .int .i64 0, .int .i64 0, .int .i64 0] 101 (0,0)))):=Lib.hid (below_alloc (below_alloc (Below.refl _ _) _) _)
 clear HP' HR'
 have hsz:=Tryz.sizeOf101
 have Hc0:=Lib.hid (carK_zero x n)
 go_enter Tryz.func73,Tryz.ntmps73
 go_upto_region 1 with fail
 generalize ((w.alloc (.cells (wd (mixK x n 0)) 101 (0,0))).alloc (.cells #[.int .i64 0, .int .i64 0, .int .i64 0, .int .i64 0, .int .i64 0, .int .i64 0, .int .i64 0, .int .i64 0, .int .i64 0] 101 (0,0)))=w1 at *
 go_wp2_with fail
 go_loopw [1,5,6] (fun nv iv i wr => ∃ k:Nat,k≤9∧i=.int .i64 (k:Int)∧nv=.int .i64 ((carK x n k:Nat):Int)∧Hid (Blk wr w.heap.size 101 (wd (mixK x n k)))∧Hid (Blk wr (w.heap.size + 1) 101 #[.int .i64 0, .int .i64 0, .int .i64 0, .int .i64 0, .int .i64 0, .int .i64 0, .int .i64 0, .int .i64 0, .int .i64 0])∧Hid (Below w.heap.size w wr)) (fun _ _ i _ => 9 - (intOf i).toNat)
 case atStart => exact ⟨0,by omega,rfl,by rw [Hc0.out],HP,HR,HB⟩
 case round =>
  clear HP HR HB
  obtain ⟨k,hk,rfl,rfl,HP,HR,HB⟩:=hrel
  by_cases hlt:k < 9
  ·have hc:=carK_le x n k
   have hd:=digN_lt x k
   have hcell:wr.cell? ⟨w.heap.size,k,none⟩=some (.int .i64 ((digN x k:Nat):Int)):=by
    rw [HP.out.cell k,wd_get _ _ hlt]
    unfold mixK
    rw [if_neg (Nat.lt_irrefl k)]
   have hfr:=HP.out.free k
   have HP2:Hid (Blk (wr.setCell ⟨w.heap.size,k,none⟩ (.int .i64 (((carK x n k + digN x k) % 65536:Nat):Int))) w.heap.size 101 (wd (mixK x n (k + 1)))):=Lib.hid (by
    rw [← mixK_step x n k hlt]
    exact HP.out.set k _)
   have HR2:Hid (Blk (wr.setCell ⟨w.heap.size,k,none⟩ (.int .i64 (((carK x n k + digN x k) % 65536:Nat):Int))) (w.heap.size + 1) 101 #[.int .i64 0, .int .i64 0, .int .i64 0, .int .i64 0, .int .i64 0, .int .i64 0, .int .i64 0, .int .i64 0, .int .i64 0]):=Lib.hid (HR.out.far (by omega) _ _)
   have HB2:Hid (Below w.heap.size w (wr.setCell ⟨w.heap.size,k,none⟩ (.int .i64 (((carK x n k + digN x k) % 65536:Nat):Int)))):=Lib.hid (below_set HB.out (Nat.le_refl _) _ _)
   have Hs:=Lib.hid (carK_succ x n k)
   clear HP HR HB
   generalize carK x n k=c1 at *
   generalize digN x k=d1 at *
   obtain ⟨s,hs⟩:∃ s,c1 + d1=s:=⟨_,rfl⟩
   have hs2:(c1:Int) + (d1:Int)=(s:Int):=by omega
   have hs3:s≤2199023255552:=by omega
   rw [hs] at HP2 HR2 HB2 Hs
   have ha:=i64_and65535 s
   have b1:(0:Int)≤(k:Int):=by omega
   have b2:(k:Int) < 9:=by omega
   clear hs hc hd hn
   go_wp2_with fail
   exact ⟨⟨k + 1,by omega,by go_num,by rw [Hs.out];exact congrArg _ (by omega),HP2,HR2,HB2⟩,by simp [intOf];omega⟩
  ·obtain rfl:k=9:=by omega
   rw [← HZ.out.2]
   go_wp2_with (first | refine wpList_load_row rfl 101 (.tmp 2) rfl w.heap.size rfl 101 (wd (mixK x n 9)) (0,0) _ HP.out Tryz.underlying101 rfl (by kernel_rfl) ?_ | refine wpList_store_row rfl 101 (.tmp 4) (.tmp 21) rfl (w.heap.size + 1) (wd (mixK x n 9)) rfl rfl 101 #[.int .i64 0, .int .i64 0, .int .i64 0, .int .i64 0, .int .i64 0, .int .i64 0, .int .i64 0, .int .i64 0, .int .i64 0] HR.out (by kernel_rfl) rfl (wd_one _) ?_)
   refine bodyPost_ret (v:=.agg (wd (mixK x n 9))) (results_cell_row Tryz.results73 _ _ (w.heap.size + 1) 101 (wd (mixK x n 9)) (0,0) _ rfl (HR.out.row _) Tryz.underlying101 rfl (by kernel_rfl)) rfl ⟨by rw [HZ.out.2],belowRow HB.out (by omega) _⟩
def adrN (x:Nat):Pf:=(sixN x,hiN x,loN x,0)
def sizeP (P:Pf):Nat:=2 ^ (LN (nuP P) - P.2.2.2.toNat)
def startP (P:Pf) (key:List UInt8):Nat:=(fnvI key).toNat % sizeP P
def pickQ (P:Pf) (K:List Pf) (L:List Ls) (key:List UInt8):Option Pf:=(pkQ (nuP P) (sizeP P) (startP P key) fun x => (takenL K L).any fun p => inP p x).map adrN
def pickA (P:Pf) (K:List Pf) (L:List Ls) (key:List UInt8):Option Pf:=(pkP (freeS P K L) (nuP P + startP P key)).map adrN
theorem sizeP_pos (P:Pf):0 < sizeP P:=Nat.pow_pos (by decide)
theorem pick_same {P:Pf} {K:List Pf} {L:List Ls} {key:List UInt8} (hP:OkPf P) (hT:∀ p ∈ takenL K L,OkPf p):pickA P K L key=pickQ P K L key:=by
 unfold pickA pickQ
 rw [pk_same (start:=startP P key) (size:=sizeP P) (freeS_mem hP hT).1 (Nat.mod_lt _ (sizeP_pos P)) (freeS_mem hP hT).2]
theorem vn_in {P:Pf} {x:Nat} (hP:OkPf P) (h1:nuP P≤x) (h2:x < nuP P + sizeP P):VN x∧LN x=lenN P.1:=by
 have hs:=hP.sp.snd
 have hv:=hP.vr
 have hp:=sizeP_pos P
 have h0:(spP P).1=nuP P:=rfl
 have hz:sizeP P=2 ^ (LN (nuP P) - P.2.2.2.toNat):=rfl
 rw [← hz] at hs
 obtain ⟨v1,v2,v3,v4⟩:=hv
 have hn:=hP.num
 have hx:VN x:=by
  unfold sixN at v3
  rw [decide_eq_decide] at v3
  unfold VN at v1 v2 ⊢
  omega
 refine ⟨hx,?_⟩
 rw [LN_six, ← hn.2.1]
 congr 1
 unfold sixN at v3 ⊢
 rw [decide_eq_decide] at v3 ⊢
 omega
theorem open_bits {P:Pf} (hP:OkPf P) (hb:((lenN P.1:Nat):Int) - 20≤P.2.2.2):∃ j:Nat,((lenN P.1:Nat):Int) - P.2.2.2=(j:Int)∧j≤20∧sizeP P=2 ^ j:=by
 have h:=hP.bits
 have h2:=hP.nn
 have e:LN (nuP P)=lenN P.1:=by rw [LN_six,hP.num.2.1]
 rw [e] at h
 refine ⟨lenN P.1 - P.2.2.2.toNat,by omega,by omega,?_⟩
 unfold sizeP
 rw [e]
theorem pow_le20 {j:Nat} (h:j≤20):1≤2 ^ j∧2 ^ j≤1048576:=⟨Nat.pow_pos (by decide),Nat.pow_le_pow_right (by decide) h⟩
def pqR (pb:Nat) (a0 wz:Array Value) (st k sz m:Int) (wm am:Array Value) (base:Nat):Nat→Value→World→Prop
 | 0,v,_ => v=.pointer (some ⟨pb,0,none⟩)
 | 1,v,_ => v=.pointer (some ⟨pb,0,none⟩)
 | 2,v,_ => v=.agg a0
 | 3,v,_ => v=.agg wz
 | 4,v,_ => v=.int .i64 st
 | 5,v,_ => v=.int .i64 k
 | 6,v,_ => v=.int .i64 (st + k)
 | 7,v,_ => v=.int .i64 sz
 | 8,v,_ => v=.int .i64 m
 | 9,v,_ => v=.agg wm
 | 10,v,_ => v=.agg am
 | _,v,w => ∃ B,v=.pointer (some ⟨B,0,none⟩)∧base≤B∧Blk w B 28 #[.bool false, .int .u64 0, .int .u64 0]
theorem pqR_keep {pb:Nat} {a0 wz:Array Value} {st k sz m:Int} {wm am:Array Value} {base:Nat} (p:Nat) (v:Value) (u w:World) (h:pqR pb a0 wz st k sz m wm am base p v u) (hb:Below u.heap.size u w):pqR pb a0 wz st k sz m wm am base p v w:=by
 rcases p with _ | _ | _ | _ | _ | _ | _ | _ | _ | _ | _ | p
 all_goals first
  | exact h
  | (obtain ⟨B,h1,h2,h3⟩:=h;exact ⟨B,h1,h2,h3.below hb h3.lt⟩)
def pcaR (am:Array Value) (n:Int) (xv:Array Value) (base:Nat):Nat→Value→World→Prop
 | 0,v,_ => v=.agg am
 | 1,v,_ => v=.agg am
 | 2,v,_ => v=.int .i64 n
 | 3,v,_ => v=.agg xv
 | _,v,w => ∃ B,v=.pointer (some ⟨B,0,none⟩)∧base≤B∧Blk w B 30 #[.bool false, .int .u64 0, .int .u64 0, .int .i64 0]
theorem pcaR_keep {am:Array Value} {n:Int} {xv:Array Value} {base:Nat} (p:Nat) (v:Value) (u w:World) (h:pcaR am n xv base p v u) (hb:Below u.heap.size u w):pcaR am n xv base p v w:=by
 rcases p with _ | _ | _ | _ | p
 all_goals first
  | exact h
  | (obtain ⟨B,h1,h2,h3⟩:=h;exact ⟨B,h1,h2,h3.below hb h3.lt⟩)
theorem pickOf_any (P:Pf) (ka la:Option Addr) (kn kc ln lc:Nat) (K:List Pf) (L:List Ls) (key:List UInt8) (w:World) (hK:RdK layPf w ka K) (hL:RdK layLs w la L) (hkn:K.length=kn) (hln:L.length=ln) (hs:kn + ln≤7) (hP:OkPf P) (hT:∀ p ∈ takenL K L,OkPf p) (hb20:((lenN P.1:Nat):Int) - 20≤P.2.2.2) (hky:key.length≤1000) :
  Calls Tryz.prog 25 #[.agg (plC P (.slice ka kn kc) (.slice la ln lc)).toArray, .string (strL key)] w fun e w' => ∃ v,e=.returned (.tuple #[v, .agg (pfC (gotX (pickQ P K L key) ((lenN P.1:Nat):Int))).toArray, .bool (pickQ P K L key).isSome])∧PoolV w' w.heap.size v (gotP (pickQ P K L key) P) (gotK (pickQ P K L key) K) (gotL (pickQ P K L key) L key ((lenN P.1:Nat):Int))∧Below w.heap.size w w':=by
 have HUs:=Lib.hid fun wx (hk:RdK layPf wx ka K) (hl:RdK layLs wx la L) => used_any P ka la kn kc ln lc K L wx hk hl hkn hln (by omega) (by omega)
 have HLd0:=Lib.hid fun x wx (hk:RdK layPf wx ka K) (hl:RdK layLs wx la L) => qleased_any P ka la kn kc ln lc K L key x wx hk hl hkn hln (by omega) (by omega)
 have HSm:=Lib.hid fun wx => qSumOf_any key wx (by omega)
 obtain ⟨fv,hfv,hfl⟩:=fnv_pos key
 obtain ⟨j,hj,hj20,hsz⟩:=open_bits hP hb20
 obtain ⟨hz1,hz2⟩:=pow_le20 hj20
 rw [← hsz] at hz1 hz2
 have hOf:=Lib.hid fun wx => ofN wx hP.num.1
 have HVn:=Lib.hid fun x h1 h2 => vn_in (x:=x) hP h1 h2
 have HTl:Hid ((takenL K L).length≤7):=Lib.hid (by unfold takenL;rw [List.length_append,List.length_map];omega)
 have HHo:=Lib.hid fun (ad:Option Addr) (n c:Nat) (x:Nat) wx (h:RdK layPf wx ad (takenL K L)) (hn:(takenL K L).length=n) (h7:n≤7) (hx:VN x) => hasOf_any ad n c (takenL K L) x wx h hn (by omega) hT hx
 obtain ⟨tk,htk⟩:∃ tk:Nat→Bool,(fun x => (takenL K L).any fun p => inP p x)=tk:=⟨_,rfl⟩
 have htk2:∀ x,((takenL K L).any fun p => inP p x)=tk x:=fun x => by rw [← htk]
 simp only [htk2] at HHo
 have HQd:Hid (pickQ P K L key=(pkQ (nuP P) (sizeP P) (startP P key) tk).map adrN):=Lib.hid (by unfold pickQ;rw [htk])
 have hst:startP P key=fv % sizeP P:=by unfold startP;rw [hfv,Int.toNat_natCast]
 rw [hfv] at HSm
 rw [hst] at HQd
 clear htk htk2 hst hfv
 have hxn:aN (nuP P)=#[.bool P.1, .int .u64 (P.2.1:Int), .int .u64 (P.2.2.1:Int)]:=by
  have h:=hP.num
  unfold aN
  rw [h.2.1,h.2.2.1,h.2.2.2]
 rw [hxn] at hOf
 clear hxn
 obtain ⟨x0,hx0⟩:∃ x0,nuP P=x0:=⟨_,rfl⟩
 rw [hx0] at hOf HVn HQd
 clear hx0
 obtain ⟨sz,hszz⟩:∃ q,sizeP P=q:=⟨_,rfl⟩
 rw [hszz] at HQd HVn hz1 hz2 hsz
 clear hszz
 obtain ⟨st,hst⟩:∃ q,fv % sz=q:=⟨_,rfl⟩
 have hstl:st < sz:=by rw [← hst];exact Nat.mod_lt _ hz1
 rw [hst] at HQd
 obtain ⟨o,ho⟩:∃ o,pickQ P K L key=o:=⟨_,rfl⟩
 rw [ho] at HQd ⊢
 clear ho
 have HY:Hid (∀ k,k < sz→tk (x0 + (st + k) % sz)=false→(∀ i,i < k→tk (x0 + (st + i) % sz)=true)→o=some (adrN (x0 + (st + k) % sz))):=Lib.hid fun k h1 h2 h3 => by
  rw [HQd.out]
  unfold pkQ
  rw [range_find h1 (by rw [h2];rfl) (fun i hi => by rw [h3 i hi];rfl)]
  rfl
 have HNo:Hid ((∀ i,i < sz→tk (x0 + (st + i) % sz)=true)→o=none):=Lib.hid fun h => by
  rw [HQd.out]
  unfold pkQ
  rw [range_find_none (fun i hi => by rw [h i hi];rfl)]
  rfl
 have hlp:=lenN_le P.1
 have Hst:=Lib.hid hst
 have Hsz:=Lib.hid hsz
 clear HQd hP hT hkn hln hst hsz
 have hl2:((ln:Nat):Int) < 200:=by omega
 obtain ⟨ps,ph,pl,pn⟩:=P
 rw [show (plC (ps,ph,pl,pn) (.slice ka kn kc) (.slice la ln lc)).toArray=#[.bool ps, .int .u64 (ph:Int), .int .u64 (pl:Int), .int .i64 pn, .slice ka kn kc, .slice la ln lc] from rfl] at *
 simp only at hj hlp hb20
 have HLe:=Lib.hid fun wx => lengthQ_any ps ph pl wx
 unfold vA at HLe
 simp only at HVn hOf
 generalize hlnp:lenN ps=lp at *
 clear hlnp
 have hB01:Below w.heap.size w (((w.alloc (.cells #[.bool ps, .int .u64 (ph:Int), .int .u64 (pl:Int), .int .i64 pn, .slice ka kn kc, .slice la ln lc] 34 (0,0))).alloc (.cells #[.bool false, .int .u64 0, .int .u64 0, .int .i64 0, .slice none 0 0, .slice none 0 0] 34 (0,0))).alloc (.cells #[.bool false, .int .u64 0, .int .u64 0, .int .i64 0] 30 (0,0))):=below_alloc (below_alloc (below_alloc (Below.refl _ _) _) _) _
 have HB01:=Lib.hid hB01
 have HKw:=Lib.hid hK
 have HLw:=Lib.hid hL
 have HQ0:Hid (Blk (((w.alloc (.cells #[.bool ps, .int .u64 (ph:Int), .int .u64 (pl:Int), .int .i64 pn, .slice ka kn kc, .slice la ln lc] 34 (0,0))).alloc (.cells #[.bool false, .int .u64 0, .int .u64 0, .int .i64 0, .slice none 0 0, .slice none 0 0] 34 (0,0))).alloc (.cells #[.bool false, .int .u64 0, .int .u64 0, .int .i64 0] 30 (0,0))) w.heap.size 34 #[.bool ps, .int .u64 (ph:Int), .int .u64 (pl:Int), .int .i64 pn, .slice ka kn kc, .slice la ln lc]):=Lib.hid (((Blk.new w _ _).alloc _).alloc _)
 have HR1:Hid (Blk (((w.alloc (.cells #[.bool ps, .int .u64 (ph:Int), .int .u64 (pl:Int), .int .i64 pn, .slice ka kn kc, .slice la ln lc] 34 (0,0))).alloc (.cells #[.bool false, .int .u64 0, .int .u64 0, .int .i64 0, .slice none 0 0, .slice none 0 0] 34 (0,0))).alloc (.cells #[.bool false, .int .u64 0, .int .u64 0, .int .i64 0] 30 (0,0))) (w.heap.size + 1) 34 #[.bool false, .int .u64 0, .int .u64 0, .int .i64 0, .slice none 0 0, .slice none 0 0]):=Lib.hid (by
  have this:=(Blk.new (w.alloc (.cells #[.bool ps, .int .u64 (ph:Int), .int .u64 (pl:Int), .int .i64 pn, .slice ka kn kc, .slice la ln lc] 34 (0,0))) 34 #[.bool false, .int .u64 0, .int .u64 0, .int .i64 0, .slice none 0 0, .slice none 0 0]).alloc (.cells #[.bool false, .int .u64 0, .int .u64 0, .int .i64 0] 30 (0,0))
  rw [World.size_alloc] at this
  exact this)
 have HR2:Hid (Blk (((w.alloc (.cells #[.bool ps, .int .u64 (ph:Int), .int .u64 (pl:Int), .int .i64 pn, .slice ka kn kc, .slice la ln lc] 34 (0,0))).alloc (.cells #[.bool false, .int .u64 0, .int .u64 0, .int .i64 0, .slice none 0 0, .slice none 0 0] 34 (0,0))).alloc (.cells #[.bool false, .int .u64 0, .int .u64 0, .int .i64 0] 30 (0,0))) (w.heap.size + 1 + 1) 30 #[.bool false, .int .u64 0, .int .u64 0, .int .i64 0]):=Lib.hid (by
  have this:=Blk.new ((w.alloc (.cells #[.bool ps, .int .u64 (ph:Int), .int .u64 (pl:Int), .int .i64 pn, .slice ka kn kc, .slice la ln lc] 34 (0,0))).alloc (.cells #[.bool false, .int .u64 0, .int .u64 0, .int .i64 0, .slice none 0 0, .slice none 0 0] 34 (0,0))) 30 #[.bool false, .int .u64 0, .int .u64 0, .int .i64 0]
  rw [World.size_alloc,World.size_alloc] at this
  exact this)
 clear hK hL hB01
 go_enter Tryz.func25,Tryz.ntmps25
 go_upto_region 1 with fail
 generalize (((w.alloc (.cells #[.bool ps, .int .u64 (ph:Int), .int .u64 (pl:Int), .int .i64 pn, .slice ka kn kc, .slice la ln lc] 34 (0,0))).alloc (.cells #[.bool false, .int .u64 0, .int .u64 0, .int .i64 0, .slice none 0 0, .slice none 0 0] 34 (0,0))).alloc (.cells #[.bool false, .int .u64 0, .int .u64 0, .int .i64 0] 30 (0,0)))=w1 at *
 obtain ⟨pb,hpb⟩:∃ q,w.heap.size=q:=⟨_,rfl⟩
 have Hpw:Hid (w.heap.size≤pb):=Lib.hid (by omega)
 rw [hpb] at HQ0 HR1 HR2 ⊢
 clear hpb
 have p0:=HQ0.out.cell 0
 have p1:=HQ0.out.cell 1
 have p2:=HQ0.out.cell 2
 have p3:=HQ0.out.cell 3
 simp at p0 p1 p2 p3
 have l0:=Later.cell_of p0
 have l1:=Later.cell_of p1
 have l2:=Later.cell_of p2
 have l3:=Later.cell_of p3
 have hLe:=fun x:Later w1 => Calls.later x (HLe.out x.1)
 clear p0 p1 p2 p3
 refine wp_region_later (by kernel_rfl) (by kernel_rfl) ?_
 iterate 3 (go_big_quiet_step (fail))
 go_big_quiet_step ((go_at_call 57;exact hLe _))
 repeat (go_big_quiet_step (fail))
 refine wpQuiet_nil ?_
 rintro w2 ⟨n5,hn5⟩
 have hb2:Below w1.heap.size w1 w2:=by rw [hn5];exact n5.2
 have e1:wrap64 (2 ^ j)=(sz:Int):=by
  have e:((2:Int) ^ j)=((2 ^ j:Nat):Int):=by norm_cast
  rw [e, ← Hsz.out]
  unfold wrap64
  omega
 rw [e1]
 have HB2:=Lib.hid hb2
 clear hn5 n5 hLe l0 l1 l2 l3 e1 hb2
 go_wp2_with fail
 refine (HSm.out _).mono ?_
 rintro e w3 ⟨rfl,rfl⟩
 have s1:(sz:Int) ≠ 0:=by omega
 have s2:0≤(sz:Int):=by omega
 have s3:(sz:Int)≤1048576:=by omega
 have s4:((fv:Int) % (sz:Int))=(st:Int):=by rw [← Hst.out];norm_cast
 have s5:Int.tmod (fv:Int) (sz:Int)=(st:Int):=by rw [← Hst.out,Int.tmod_eq_emod_of_nonneg (by omega)];norm_cast
 go_upto_region 3 with fail
 have HKx:=Lib.hid (HKw.out.below HB01.out)
 have HLx:=Lib.hid (HLw.out.below HB01.out)
 have HQ3:=Lib.hid (HQ0.out.below HB2.out HQ0.out.lt)
 have p0:=HQ3.out.cell 0
 have p1:=HQ3.out.cell 1
 have p2:=HQ3.out.cell 2
 have p3:=HQ3.out.cell 3
 have p4:=HQ3.out.cell 4
 have p5:=HQ3.out.cell 5
 simp at p0 p1 p2 p3 p4 p5
 go_wp2_with fail
 refine (HUs.out _ (HKx.out.below HB2.out) (HLx.out.below HB2.out)).mono ?_
 rintro e w4 ⟨v,rfl,hO,hb⟩
 have HBu:Hid (Below w1.heap.size w1 w4):=Lib.hid (HB2.out.trans (hb.mono HB2.out.size))
 obtain ⟨ua,uc,rfl, -, -, -⟩:=hO.form
 obtain ⟨tn,htn⟩:∃ q,(takenL K L).length=q:=⟨_,rfl⟩
 rw [htn] at hO ⊢
 have htl:tn≤7:=by rw [← htn];exact HTl.out
 have HT4:=Lib.hid hO.rd
 have HHt:Hid (∀ (x:Nat) wx,Below w4.heap.size w4 wx→VN x→Calls Tryz.prog 75 #[.slice ua tn uc, .agg (aN x)] wx (Ret (.bool (tk x)) wx)):=Lib.hid fun x wx hbx hx => HHo.out ua tn uc x wx (HT4.out.below hbx) htn htl hx
 clear hO hb htn HHo HTl HUs HSm HQ3 HB2 p0 p1 p2 p3 p4 p5 s4 s5 hfl
 go_wp2_with fail
 go_loopw [10,11,12,31] (fun s10 s11 s12 i wr => ∃ k:Nat,k≤sz∧i=.int .i64 (k:Int)∧Hid (∀ i,i < k→tk (x0 + (st + i) % sz)=true)∧Hid (Below w4.heap.size w4 wr)) (fun _ _ _ i _ => sz - (intOf i).toNat)
 case atStart => exact ⟨0,Nat.zero_le _,rfl,Lib.hid fun i hi => absurd hi (Nat.not_lt_zero _),Lib.hid (Below.refl _ _)⟩
 case round =>
  obtain ⟨k,hk,rfl,HN,HBr⟩:=hrel
  have hbr:Below w1.heap.size w1 wr:=HBu.out.trans (HBr.out.mono HBu.out.size)
  have HBx:=Lib.hid (HB01.out.trans (hbr.mono HB01.out.size))
  have HQx:=Lib.hid (HQ0.out.below hbr HQ0.out.lt)
  have HR1x:=Lib.hid (HR1.out.below hbr HR1.out.lt)
  have HR2x:=Lib.hid (HR2.out.below hbr HR2.out.lt)
  have Hbx2:Hid (pb + 1 + 1 < wr.heap.size):=Lib.hid HR2x.out.lt
  clear hbr
  by_cases hlt:k < sz
  ·obtain ⟨m,hm⟩:∃ q,(st + k) % sz=q:=⟨_,rfl⟩
   have hml:m < sz:=by rw [← hm];exact Nat.mod_lt _ (by omega)
   have HYk:Hid (tk (x0 + m)=false→o=some (adrN (x0 + m))):=Lib.hid fun h => by
    have h2:=HY.out k hlt (by rw [hm];exact h) HN.out
    rw [hm] at h2
    exact h2
   have HN2:Hid (tk (x0 + m)=true→∀ i,i < k + 1→tk (x0 + (st + i) % sz)=true):=Lib.hid fun h i hi => by
    rcases Nat.lt_or_ge i k with h1 | h1
    ·exact HN.out i h1
    ·obtain rfl:i=k:=by omega
     rw [hm]
     exact h
   obtain ⟨hvx,hlx⟩:=HVn.out (x0 + m) (by omega) (by omega)
   have hPl:=Lib.hid fun wx => plusK x0 m wx (by omega)
   have hAd:=Lib.hid fun wx => wideAddrN wx hvx
   have hHt:=Lib.hid fun wx hbx => HHt.out (x0 + m) wx hbx hvx
   have e2:Int.tmod ((st:Int) + (k:Int)) (sz:Int)=(m:Int):=by rw [← hm,Int.tmod_eq_emod_of_nonneg (by omega)];norm_cast
   have e3:(((st + k:Nat):Int)) % (sz:Int)=(m:Int):=by rw [← hm];norm_cast
   go_upto_region 7 with fail
   have HAm:Hid (aN (x0 + m)=aN (x0 + m)):=Lib.hid rfl
   obtain ⟨f1,f2,f3,hf1,hf2⟩:∃ (f1:Bool) (f2 f3:Nat),aN (x0 + m)=#[.bool f1, .int .u64 (f2:Int), .int .u64 (f3:Int)]∧adrN (x0 + m)=(f1,f2,f3,0):=⟨_,_,_,rfl,rfl⟩
   have hLg:=Lib.hid fun wx => lengthQN (x0 + m) wx
   rw [hlx] at hLg
   rw [hf1] at hAd hHt hLg
   rw [hf2] at HYk
   clear hf1 hf2 hvx hlx HAm
   obtain ⟨wm,hwm⟩:∃ q,wN (x0 + m)=q:=⟨_,rfl⟩
   obtain ⟨wz,hwz⟩:∃ q,wN x0=q:=⟨_,rfl⟩
   rw [hwm] at hAd hPl
   rw [hwz] at hPl
   have hOf2:Hid (∀ wx,Calls Tryz.prog 72 #[.agg #[.bool ps, .int .u64 (ph:Int), .int .u64 (pl:Int)]] wx (Ret (.agg wz) wx)):=Lib.hid fun wx => by
    have h:=hOf.out wx
    rw [hwz] at h
    exact h
   clear hwm hwz
   have p0:=HQx.out.cell 0
   have p1:=HQx.out.cell 1
   have p2:=HQx.out.cell 2
   simp at p0 p1 p2
   have l0:=Later.cell_of p0
   have l1:=Later.cell_of p1
   have l2:=Later.cell_of p2
   refine wp_region_inv 12 0 (pqR pb #[.bool ps, .int .u64 (ph:Int), .int .u64 (pl:Int)] wz (st:Int) (k:Int) (sz:Int) (m:Int) wm #[.bool f1, .int .u64 (f2:Int), .int .u64 (f3:Int)] wr.heap.size) (fun _ wx => Below wr.heap.size wr wx) (fun u v => Below u.heap.size u v) (fun _ => 0)
    (by kernel_rfl) (by kernel_rfl) (by decide) pqR_keep (below_drew (Below.refl _ _)) ?hX
   case' hX => (apply Exists.intro;refine ⟨fun T => ?hA,?hob,?hend⟩)
   case hA =>
    simp only [setAll,List.take_succ_cons,List.take_zero,Act.put,List.setIfInBounds_toArray,List.set_cons_succ,List.set_cons_zero,Nat.reduceAdd]
    exact rfl
   case hob =>
    clear HQx HR1x HR2x HYk HN2 HN HBr HBx p0 p1 p2 hHt HY HNo HVn HHt HLd0 HT4 hLg
    go_light
    refine ⟨?_,?_,?_,?_,?_,?_,?_,?_,?_,?_,?_,?_,trivial⟩
    all_goals (intro T wx n0 hC hn hp;dsimp only at hn ⊢;unfold Op1)
    ·go_simp
     first | exact ⟨rfl,hC,Below.refl _ _⟩ | exact ⟨rfl,Below.refl _ _⟩ | exact Below.refl _ _
    ·obtain ⟨h0, -⟩:=hp
     have h0:T 0=.pointer (some ⟨pb,0,none⟩):=h0
     go_simp
     first | exact ⟨rfl,hC,Below.refl _ _⟩ | exact ⟨rfl,Below.refl _ _⟩ | exact Below.refl _ _
    ·obtain ⟨h0, -⟩:=hp
     have h0:T 1=.pointer (some ⟨pb,0,none⟩):=h0
     have e0:=l0 ⟨wx,hC⟩
     have e1:=l1 ⟨wx,hC⟩
     have e2:=l2 ⟨wx,hC⟩
     simp only at e0 e1 e2
     go_simp
     first | exact ⟨rfl,hC,Below.refl _ _⟩ | exact ⟨rfl,Below.refl _ _⟩ | exact Below.refl _ _
    ·obtain ⟨h0, -⟩:=hp
     have h0:T 2=.agg #[.bool ps, .int .u64 (ph:Int), .int .u64 (pl:Int)]:=h0
     go_simp
     refine (hOf2.out wx).mono ?_
     rintro e w5 ⟨rfl,hb⟩
     exact ⟨_,rfl,rfl,hC.trans (hb.mono hC.size),hb⟩
    ·go_simp
     first | exact ⟨rfl,hC,Below.refl _ _⟩ | exact ⟨rfl,Below.refl _ _⟩ | exact Below.refl _ _
    ·go_simp
     first | exact ⟨rfl,hC,Below.refl _ _⟩ | exact ⟨rfl,Below.refl _ _⟩ | exact Below.refl _ _
    ·obtain ⟨h0,h1, -⟩:=hp
     have h0:T 4=.int .i64 (st:Int):=h0
     have h1:T 5=.int .i64 (k:Int):=h1
     have e4:IntKind.i64.wrap ((st:Int) + (k:Int))=(st:Int) + (k:Int):=by rw [IntKind.wrap_i64];omega
     go_simp
     first | exact ⟨rfl,hC,Below.refl _ _⟩ | exact ⟨rfl,Below.refl _ _⟩ | exact Below.refl _ _
    ·go_simp
     first | exact ⟨rfl,hC,Below.refl _ _⟩ | exact ⟨rfl,Below.refl _ _⟩ | exact Below.refl _ _
    ·obtain ⟨h0,h1, -⟩:=hp
     have h0:T 6=.int .i64 ((st:Int) + (k:Int)):=h0
     have h1:T 7=.int .i64 (sz:Int):=h1
     have s7:¬ sz=0:=by omega
     go_simp
     first | exact ⟨rfl,hC,Below.refl _ _⟩ | exact ⟨rfl,Below.refl _ _⟩ | exact Below.refl _ _
    ·obtain ⟨h0,h1, -⟩:=hp
     have h0:T 3=.agg wz:=h0
     have h1:T 8=.int .i64 (m:Int):=h1
     go_simp
     refine (hPl.out wx).mono ?_
     rintro e w5 ⟨rfl,hb⟩
     exact ⟨_,rfl,rfl,hC.trans (hb.mono hC.size),hb⟩
    ·obtain ⟨h0, -⟩:=hp
     have h0:T 9=.agg wm:=h0
     go_simp
     refine (hAd.out wx).mono ?_
     rintro e w5 ⟨rfl,hb⟩
     exact ⟨_,rfl,rfl,hC.trans (hb.mono hC.size),hb⟩
    ·go_simp
     exact ⟨⟨wx.heap.size,rfl,hC.size,Blk.new wx _ _⟩,below_alloc hC _,below_alloc (Below.refl _ _) _⟩
   case hend =>
    intro T w5 ⟨n0,hn0,hb⟩ hR
    have h10:T 10=.agg #[.bool f1, .int .u64 (f2:Int), .int .u64 (f3:Int)]:=hR 10 (by omega)
    obtain ⟨ab,h11,hBg,hBl⟩:∃ B,T 11=.pointer (some ⟨B,0,none⟩)∧wr.heap.size≤B∧Blk w5 B 28 #[.bool false, .int .u64 0, .int .u64 0]:=hR 11 (by omega)
    have hBl2:=((hBl.set 0 (.bool f1)).set 1 (.int .u64 (f2:Int))).set 2 (.int .u64 (f3:Int))
    have HA3:Hid (Blk (((w5.setCell ⟨ab,0,none⟩ (.bool f1)).setCell ⟨ab,1,none⟩ (.int .u64 (f2:Int))).setCell ⟨ab,2,none⟩ (.int .u64 (f3:Int))) ab 28 #[.bool f1, .int .u64 (f2:Int), .int .u64 (f3:Int)]):=Lib.hid hBl2
    have HB5:Hid (Below wr.heap.size wr (((w5.setCell ⟨ab,0,none⟩ (.bool f1)).setCell ⟨ab,1,none⟩ (.int .u64 (f2:Int))).setCell ⟨ab,2,none⟩ (.int .u64 (f3:Int)))):=Lib.hid (((hb.setCell hBg _).setCell hBg _).setCell hBg _)
    have r0:=hBl.cell 0
    have r1:=hBl.cell 1
    have r2:=hBl.cell 2
    simp at r0 r1 r2
    have rf:=hBl.free
    clear hR hb hBl hBl2 hPl hAd hOf2 l0 l1 l2 p0 p1 p2
    simp only [List.drop_succ_cons,List.drop_zero]
    rw [h10,h11]
    go_upto_region 8 with fail
    generalize (((w5.setCell ⟨ab,0,none⟩ (.bool f1)).setCell ⟨ab,1,none⟩ (.int .u64 (f2:Int))).setCell ⟨ab,2,none⟩ (.int .u64 (f3:Int)))=w6 at *
    clear r0 r1 r2 rf h10 h11 hBg
    have hb6:Below w1.heap.size w1 w6:=(HBu.out.trans (HBr.out.mono HBu.out.size)).trans (HB5.out.mono (Nat.le_trans (HBu.out.trans (HBr.out.mono HBu.out.size)).size (Nat.le_refl _)))
    have HB4:=Lib.hid (HBr.out.trans (HB5.out.mono HBr.out.size))
    have HQ6:=Lib.hid (HQx.out.below HB5.out HQx.out.lt)
    have HR16:=Lib.hid (HR1x.out.below HB5.out HR1x.out.lt)
    have HR26:=Lib.hid (HR2x.out.below HB5.out HR2x.out.lt)
    have HBw6:=Lib.hid (HBx.out.trans (HB5.out.mono HBx.out.size))
    have Hab:Hid (pb + 1 + 1 < wr.heap.size):=Hbx2
    clear hb6 HQx HR1x HR2x HBx HBr
    have d0:=HA3.out.cell 0
    have d1:=HA3.out.cell 1
    have d2:=HA3.out.cell 2
    simp at d0 d1 d2
    have p5:=HQ6.out.cell 5
    simp at p5
    go_wp2_with fail
    refine (hHt.out _ HB4.out).mono ?_
    rintro e w7 ⟨rfl,hb⟩
    have HA7:=Lib.hid (HA3.out.below hb HA3.out.lt)
    have HB7:=Lib.hid (HB4.out.trans (hb.mono HB4.out.size))
    have HQ7:=Lib.hid (HQ6.out.below hb HQ6.out.lt)
    have HR17:=Lib.hid (HR16.out.below hb HR16.out.lt)
    have HR27:=Lib.hid (HR26.out.below hb HR26.out.lt)
    have HBw7:=Lib.hid (HBw6.out.trans (hb.mono HBw6.out.size))
    clear hb HA3 HB4 HQ6 HR16 HR26 HBw6 d0 d1 d2 p5 hHt HB5
    have p5:=HQ7.out.cell 5
    simp at p5
    obtain ⟨B,hB⟩:∃ B,tk (x0 + m)=B:=⟨_,rfl⟩
    rw [hB] at HYk HN2 ⊢
    clear hB
    cases B
    ·have HE:=Lib.hid (HYk.out rfl)
     clear HYk HN2 HN
     obtain ⟨n,hni⟩:∃ q:Int,((lp:Nat):Int)=q:=⟨_,rfl⟩
     have HNI:=Lib.hid hni
     rw [hni] at hLg
     have HLd:=Lib.hid fun wx hk hl => HLd0.out (f1,f2,f3,n) wx hk hl
     rw [show (pfC (f1,f2,f3,n)).toArray=#[.bool f1, .int .u64 (f2:Int), .int .u64 (f3:Int), .int .i64 n] from rfl] at HLd
     obtain ⟨LL,hLL⟩:∃ q,leasedL L key (f1,f2,f3,n)=q:=⟨_,rfl⟩
     have HLL:=Lib.hid hLL
     rw [hLL] at HLd
     clear hLL HLd0 hni HNo HY HVn HHt HT4 hOf e2 e3 s1 s2 s3 hj hb20 hlp
     go_upto_region 9 with fail
     clear p5
     have d0:=HA7.out.cell 0
     have d1:=HA7.out.cell 1
     have d2:=HA7.out.cell 2
     simp at d0 d1 d2
     have l0:=Later.cell_of d0
     have l1:=Later.cell_of d1
     have l2:=Later.cell_of d2
     refine wp_region_inv 5 0 (pcaR #[.bool f1, .int .u64 (f2:Int), .int .u64 (f3:Int)] n #[.bool f1, .int .u64 (f2:Int), .int .u64 (f3:Int), .int .i64 n] w7.heap.size) (fun _ wx => Below w7.heap.size w7 wx) (fun u v => Below u.heap.size u v) (fun _ => 0)
      (by kernel_rfl) (by kernel_rfl) (by decide) pcaR_keep (below_drew (Below.refl _ _)) ?hX9
     case' hX9 => (apply Exists.intro;refine ⟨fun T => ?hA9,?hob9,?hend9⟩)
     case hA9 =>
      simp only [setAll,List.take_succ_cons,List.take_zero,Act.put,List.setIfInBounds_toArray,List.set_cons_succ,List.set_cons_zero,Nat.reduceAdd]
      exact rfl
     case hob9 =>
      clear HQ7 HR17 HR27 d0 d1 d2 HE HLd HLL HBw7 HB7
      go_light
      refine ⟨?_,?_,?_,?_,?_,trivial⟩
      all_goals (intro T wx n0 hC hn hp;dsimp only at hn ⊢;unfold Op1)
      ·have e0:=l0 ⟨wx,hC⟩
       have e1:=l1 ⟨wx,hC⟩
       have e2:=l2 ⟨wx,hC⟩
       simp only at e0 e1 e2
       go_simp
       first | exact ⟨rfl,hC,Below.refl _ _⟩ | exact ⟨rfl,Below.refl _ _⟩ | exact Below.refl _ _
      ·have e0:=l0 ⟨wx,hC⟩
       have e1:=l1 ⟨wx,hC⟩
       have e2:=l2 ⟨wx,hC⟩
       simp only at e0 e1 e2
       go_simp
       first | exact ⟨rfl,hC,Below.refl _ _⟩ | exact ⟨rfl,Below.refl _ _⟩ | exact Below.refl _ _
      ·obtain ⟨h0, -⟩:=hp
       have h0:T 1=.agg #[.bool f1, .int .u64 (f2:Int), .int .u64 (f3:Int)]:=h0
       go_simp
       refine (hLg.out wx).mono ?_
       rintro e w8 ⟨rfl,hb⟩
       exact ⟨_,rfl,rfl,hC.trans (hb.mono hC.size),hb⟩
      ·obtain ⟨h0,h1, -⟩:=hp
       have h0:T 0=.agg #[.bool f1, .int .u64 (f2:Int), .int .u64 (f3:Int)]:=h0
       have h1:T 2=.int .i64 n:=h1
       go_simp
       first | exact ⟨rfl,hC,Below.refl _ _⟩ | exact ⟨rfl,Below.refl _ _⟩ | exact Below.refl _ _
      ·go_simp
       exact ⟨⟨wx.heap.size,rfl,hC.size,Blk.new wx _ _⟩,below_alloc hC _,below_alloc (Below.refl _ _) _⟩
     case hend9 =>
      intro T w8 ⟨n0,hn0,hb⟩ hR
      have h3:T 3=.agg #[.bool f1, .int .u64 (f2:Int), .int .u64 (f3:Int), .int .i64 n]:=hR 3 (by omega)
      obtain ⟨xb,h4,hBg,hBl⟩:∃ B,T 4=.pointer (some ⟨B,0,none⟩)∧w7.heap.size≤B∧Blk w8 B 30 #[.bool false, .int .u64 0, .int .u64 0, .int .i64 0]:=hR 4 (by omega)
      have HX8:Hid (Blk ((((w8.setCell ⟨xb,0,none⟩ (.bool f1)).setCell ⟨xb,1,none⟩ (.int .u64 (f2:Int))).setCell ⟨xb,2,none⟩ (.int .u64 (f3:Int))).setCell ⟨xb,3,none⟩ (.int .i64 n)) xb 30 #[.bool f1, .int .u64 (f2:Int), .int .u64 (f3:Int), .int .i64 n]):=Lib.hid (hBl.set4w (x':=.bool f1) (y':=.int .u64 (f2:Int)) (z':=.int .u64 (f3:Int)) (u':=.int .i64 n))
      have HB8:Hid (Below w7.heap.size w7 ((((w8.setCell ⟨xb,0,none⟩ (.bool f1)).setCell ⟨xb,1,none⟩ (.int .u64 (f2:Int))).setCell ⟨xb,2,none⟩ (.int .u64 (f3:Int))).setCell ⟨xb,3,none⟩ (.int .i64 n))):=Lib.hid ((((hb.setCell hBg _).setCell hBg _).setCell hBg _).setCell hBg _)
      have HXb:Hid (pb + 1 + 1 < xb):=Lib.hid (by have:=HR27.out.lt;omega)
      have r0:=hBl.cell 0
      have r1:=hBl.cell 1
      have r2:=hBl.cell 2
      have r3:=hBl.cell 3
      simp at r0 r1 r2 r3
      have rf:=hBl.free
      clear hR hb hBl hLg l0 l1 l2 d0 d1 d2 HA7
      simp only [List.drop_succ_cons,List.drop_zero]
      rw [h3,h4]
      go_upto_region 10 with fail
      generalize ((((w8.setCell ⟨xb,0,none⟩ (.bool f1)).setCell ⟨xb,1,none⟩ (.int .u64 (f2:Int))).setCell ⟨xb,2,none⟩ (.int .u64 (f3:Int))).setCell ⟨xb,3,none⟩ (.int .i64 n))=w9 at *
      clear r0 r1 r2 r3 rf h3 h4 hBg
      have HX3:=HX8
      have HQ3:=Lib.hid (HQ7.out.below HB8.out HQ7.out.lt)
      have HR1:=Lib.hid (HR17.out.below HB8.out HR17.out.lt)
      have HR2:=Lib.hid (HR27.out.below HB8.out HR27.out.lt)
      have HB3:=Lib.hid (HBw7.out.trans (HB8.out.mono HBw7.out.size))
      have Hb2:Hid (pb + 1 + 1 < w9.heap.size):=Lib.hid HR2.out.lt
      clear HX8 HQ7 HR17 HR27 HBw7 HB8 HB7
      have hbs:pb + 1 < w9.heap.size:=HR1.out.lt
      have hC3:lrC w pb xb (pb + 1) #[.bool ps, .int .u64 (ph:Int), .int .u64 (pl:Int), .int .i64 pn, .slice ka kn kc, .slice la ln lc] #[.bool f1, .int .u64 (f2:Int), .int .u64 (f3:Int), .int .i64 n] w9.heap.size (ps,ph,pl,pn) K LL 0 w9:=⟨HB3.out,Nat.le_refl _,HQ3.out,HX3.out,HR2.out,_,HR1.out,rfl,fun h => by cases h⟩
      have HC3:=Lib.hid hC3
      have Hbs:=Lib.hid hbs
      have Hxb:Hid (pb + 1 < xb):=Lib.hid (by have:=HXb.out;omega)
      clear hC3 hbs HB3 HQ3 HX3 HR1 HR2
      refine Lm.wp_region_lim 6 1 (lrR #[.bool ps, .int .u64 (ph:Int), .int .u64 (pl:Int), .int .i64 pn, .slice ka kn kc, .slice la ln lc] #[.bool f1, .int .u64 (f2:Int), .int .u64 (f3:Int), .int .i64 n] (.string (strL key)) w9.heap.size (ps,ph,pl,pn) K LL) (lrC w pb xb (pb + 1) #[.bool ps, .int .u64 (ph:Int), .int .u64 (pl:Int), .int .i64 pn, .slice ka kn kc, .slice la ln lc] #[.bool f1, .int .u64 (f2:Int), .int .u64 (f3:Int), .int .i64 n] w9.heap.size (ps,ph,pl,pn) K LL) (lrS (pb + 1)) (fun i => if i=5 then 1 else 0) (fun i => if i=4 then 1 else 0)
       (by kernel_rfl) (by kernel_rfl) (by decide) (by kernel_rfl) (lrR_keep Hbs.out) (lrC.later HC3.out (below_drew (Below.refl _ _))) ?hX5
      case' hX5 => (apply Exists.intro;refine ⟨fun T => ?hA5,?hob5,?hend5⟩)
      case hA5 =>
       simp only [setAll,List.take_succ_cons,List.take_zero,Act.put,List.setIfInBounds_toArray,List.set_cons_succ,List.set_cons_zero,Nat.reduceAdd]
       exact rfl
      case hob5 =>
       clear HE
       go_light
       refine ⟨?_,?_,?_,?_,?_,?_,trivial⟩
       all_goals (intro T wx n0 hC hn hp;dsimp only at hn ⊢)
       ·have hn1:n0≤1:=by simp at hn;omega
        have hS:lrS (pb + 1) n0 wx n0 wx:=⟨Nat.le_refl _,hn1,KeepX.refl _ _⟩
        have q:=hC.2.2.1
        have e0:=q.cell 0
        have e1:=q.cell 1
        have e2:=q.cell 2
        have e3:=q.cell 3
        have e4:=q.cell 4
        have e5:=q.cell 5
        simp at e0 e1 e2 e3 e4 e5
        clear q
        unfold Op1
        go_simp
        first | exact ⟨rfl,hC,hS⟩ | exact ⟨rfl,hS⟩ | exact ⟨hC,hS⟩ | exact rfl | exact hS
       ·have hn1:n0≤1:=by simp at hn;omega
        have hS:lrS (pb + 1) n0 wx n0 wx:=⟨Nat.le_refl _,hn1,KeepX.refl _ _⟩
        unfold Op1
        go_simp
        first | exact ⟨rfl,hC,hS⟩ | exact ⟨rfl,hS⟩ | exact ⟨hC,hS⟩ | exact rfl | exact hS
       ·have hn1:n0≤1:=by simp at hn;omega
        have hS:lrS (pb + 1) n0 wx n0 wx:=⟨Nat.le_refl _,hn1,KeepX.refl _ _⟩
        have q:=hC.2.2.2.1
        have e0:=q.cell 0
        have e1:=q.cell 1
        have e2:=q.cell 2
        have e3:=q.cell 3
        simp at e0 e1 e2 e3
        clear q
        unfold Op1
        go_simp
        first | exact ⟨rfl,hC,hS⟩ | exact ⟨rfl,hS⟩ | exact ⟨hC,hS⟩ | exact rfl | exact hS
       ·have hn1:n0≤1:=by simp at hn;omega
        obtain ⟨h0,h1,h2, -⟩:=hp
        have h0:T 0=.agg #[.bool ps, .int .u64 (ph:Int), .int .u64 (pl:Int), .int .i64 pn, .slice ka kn kc, .slice la ln lc]:=h0
        have h1:T 1=.string (strL key):=h1
        have h2:T 2=.agg #[.bool f1, .int .u64 (f2:Int), .int .u64 (f3:Int), .int .i64 n]:=h2
        unfold Op1
        go_simp
        refine (HLd.out wx (HKw.out.below hC.1) (HLw.out.below hC.1)).mono ?_
        rintro e w5 ⟨v,rfl,hV,hb⟩
        exact ⟨_,rfl,hV.weak hC.2.1,hC.later hb,Nat.le_refl _,hn1,KeepX.of_below hb⟩
       ·have hn1:n0≤1:=by simp at hn;omega
        have hS:lrS (pb + 1) n0 wx n0 wx:=⟨Nat.le_refl _,hn1,KeepX.refl _ _⟩
        have q:=hC.2.2.2.1
        have e0:=q.cell 0
        have e1:=q.cell 1
        have e2:=q.cell 2
        have e3:=q.cell 3
        simp at e0 e1 e2 e3
        clear q
        unfold Op1
        go_simp
        first | exact ⟨rfl,hC,hS⟩ | exact ⟨rfl,hS⟩ | exact ⟨hC,hS⟩ | exact rfl | exact hS
       ·obtain rfl:n0=0:=by simpa using hn
        obtain ⟨h3, -⟩:=hp
        have h3:PoolV wx w9.heap.size (T 3) (ps,ph,pl,pn) K LL:=h3
        obtain ⟨a1,c1,a2,c2,e,q1,q2⟩:=h3
        have hV:PoolV wx w9.heap.size (.agg #[.bool ps, .int .u64 (ph:Int), .int .u64 (pl:Int), .int .i64 pn, .slice a1 K.length c1, .slice a2 LL.length c2]) (ps,ph,pl,pn) K LL:=⟨a1,c1,a2,c2,rfl,q1,q2⟩
        obtain ⟨cs,hb1,hsz, -⟩:=hC.2.2.2.2.2
        refine Op1.store_rowQ 34 (.tmp 4) (.tmp 62) rfl (pb + 1) #[.bool ps, .int .u64 (ph:Int), .int .u64 (pl:Int), .int .i64 pn, .slice a1 K.length c1, .slice a2 LL.length c2] rfl e 34 cs hb1 size_pool hsz (all_pool ps ph pl pn a1 a2 K.length c1 LL.length c2) ?_
        exact ⟨rfl,hC.store _ rfl hV Hbs.out (by have:=Hpw.out;omega) (by omega) (by have:=Hxb.out;omega),by simp,by simp,KeepX.setRow _ _ _⟩
      case hend5 =>
       intro T w4 ⟨n0,hn0,hC,hR⟩
       have h5:n0=1:=hR 5 (by omega)
       subst h5
       have hT4:T 4=.agg #[.bool f1, .int .u64 (f2:Int), .int .u64 (f3:Int), .int .i64 n]:=hR 4 (by omega)
       obtain ⟨hB4,hbs4, -, -,hR24,cs,hR14, -,hV⟩:=hC
       obtain ⟨a1,c1,a2,c2,e,q1,q2⟩:=hV rfl
       injection e with e
       subst e
       have HR1:Hid (Blk w4 (pb + 1) 34 #[.bool ps, .int .u64 (ph:Int), .int .u64 (pl:Int), .int .i64 pn, .slice a1 K.length c1, .slice a2 LL.length c2]):=Lib.hid hR14
       have HR2:=Lib.hid hR24
       have HB:=Lib.hid hB4
       have HOK:=Lib.hid q1
       have HOL:=Lib.hid q2
       clear hR hV q1 q2 hR14 hR24 hB4 hbs4 HC3 HLd
       simp only [List.drop_succ_cons,List.drop_zero]
       rw [hT4]
       have c4:=HR2.out.set4w (x':=.bool f1) (y':=.int .u64 (f2:Int)) (z':=.int .u64 (f3:Int)) (u':=.int .i64 n)
       have c6:=HR1.out.far4w (show pb + 1 ≠ pb + 1 + 1 by omega) (x':=.bool f1) (y':=.int .u64 (f2:Int)) (z':=.int .u64 (f3:Int)) (u':=.int .i64 n)
       have z0:=c6.cell 0
       have z1:=c6.cell 1
       have z2:=c6.cell 2
       have z3:=c6.cell 3
       have z4:=c6.cell 4
       have z5:=c6.cell 5
       have y0:=c4.cell 0
       have y1:=c4.cell 1
       have y2:=c4.cell 2
       have y3:=c4.cell 3
       simp at z0 z1 z2 z3 z4 z5 y0 y1 y2 y3
       clear c4 c6
       have r0:=HR2.out.cell 0
       have r1:=HR2.out.cell 1
       have r2:=HR2.out.cell 2
       have r3:=HR2.out.cell 3
       simp at r0 r1 r2 r3
       have rf:=HR2.out.free
       have HBf:Hid (Below w.heap.size w ((((w4.setCell ⟨pb + 1 + 1,0,none⟩ (.bool f1)).setCell ⟨pb + 1 + 1,1,none⟩ (.int .u64 (f2:Int))).setCell ⟨pb + 1 + 1,2,none⟩ (.int .u64 (f3:Int))).setCell ⟨pb + 1 + 1,3,none⟩ (.int .i64 n))):=Lib.hid (HB.out.grown (grown_setCells (pb + 1 + 1) [.bool f1, .int .u64 (f2:Int), .int .u64 (f3:Int), .int .i64 n] 0 w4) HB.out.size (fun j hj => by injection hj with hj;have:=Hpw.out;omega))
       have HVf:Hid (PoolV ((((w4.setCell ⟨pb + 1 + 1,0,none⟩ (.bool f1)).setCell ⟨pb + 1 + 1,1,none⟩ (.int .u64 (f2:Int))).setCell ⟨pb + 1 + 1,2,none⟩ (.int .u64 (f3:Int))).setCell ⟨pb + 1 + 1,3,none⟩ (.int .i64 n)) w.heap.size (.agg #[.bool ps, .int .u64 (ph:Int), .int .u64 (pl:Int), .int .i64 pn, .slice a1 K.length c1, .slice a2 LL.length c2]) (ps,ph,pl,pn) K LL):=Lib.hid (PoolV.weak ⟨a1,c1,a2,c2,rfl,HOK.out.farC (show pb + 1 + 1 < w9.heap.size by have:=Hb2.out;omega) 0 [.bool f1, .int .u64 (f2:Int), .int .u64 (f3:Int), .int .i64 n],HOL.out.farC (show pb + 1 + 1 < w9.heap.size by have:=Hb2.out;omega) 0 [.bool f1, .int .u64 (f2:Int), .int .u64 (f3:Int), .int .i64 n]⟩ (show w.heap.size≤w9.heap.size by have:=Hbs.out;have:=Hpw.out;omega))
       go_wp2_with fail
       refine bodyPost_ret (v:=.tuple #[.agg #[.bool ps, .int .u64 (ph:Int), .int .u64 (pl:Int), .int .i64 pn, .slice a1 K.length c1, .slice a2 LL.length c2], .agg #[.bool f1, .int .u64 (f2:Int), .int .u64 (f3:Int), .int .i64 n], .bool true]) (by simp [results,Tryz.results25,go_sem, *]) rfl ⟨_,by rw [HE.out,HNI.out];rfl,by rw [HE.out,HNI.out];show PoolV _ _ _ (ps,ph,pl,pn) K (leasedL L key (f1,f2,f3,n));rw [HLL.out];exact HVf.out,HBf.out⟩
    ·have HN3:=Lib.hid (HN2.out rfl)
     clear HYk HN2 HN
     go_wp2_with fail
     exact ⟨⟨k + 1,by omega,by go_num,HN3,HB7⟩,by simp [intOf];omega⟩
  ·obtain rfl:k=sz:=by omega
   have HE:=Lib.hid (HNo.out HN.out)
   have HR1:=HR1x
   have HR2:=HR2x
   have HB:=HBx
   clear HNo HY HVn HHt HN HT4 hOf HBr HR1x HR2x HBx HQx HLd0
   have c6:=HR1.out.set6w (x1':=.bool false) (x2':=.int .u64 0) (x3':=.int .u64 0) (x4':=.int .i64 0) (x5':=.slice none 0 0) (x6':=.slice none 0 0)
   have c6b:=HR2.out.far6w (show pb + 1 + 1 ≠ pb + 1 by omega) (x1':=.bool false) (x2':=.int .u64 0) (x3':=.int .u64 0) (x4':=.int .i64 0) (x5':=.slice none 0 0) (x6':=.slice none 0 0)
   have c4:=c6b.set4w (x':=.bool false) (y':=.int .u64 0) (z':=.int .u64 0) (u':=.int .i64 0)
   have c6c:=c6.far4w (show pb + 1 ≠ pb + 1 + 1 by omega) (x':=.bool false) (y':=.int .u64 0) (z':=.int .u64 0) (u':=.int .i64 0)
   have b0:=c6b.cell 0
   have b1:=c6b.cell 1
   have b2:=c6b.cell 2
   have b3:=c6b.cell 3
   have bf:=c6b.free
   have z0:=c6c.cell 0
   have z1:=c6c.cell 1
   have z2:=c6c.cell 2
   have z3:=c6c.cell 3
   have z4:=c6c.cell 4
   have z5:=c6c.cell 5
   have y0:=c4.cell 0
   have y1:=c4.cell 1
   have y2:=c4.cell 2
   have y3:=c4.cell 3
   simp at b0 b1 b2 b3 z0 z1 z2 z3 z4 z5 y0 y1 y2 y3
   clear c6 c6b c4 c6c
   have r0:=HR1.out.cell 0
   have r1:=HR1.out.cell 1
   have r2:=HR1.out.cell 2
   have r3:=HR1.out.cell 3
   have r4:=HR1.out.cell 4
   have r5:=HR1.out.cell 5
   simp at r0 r1 r2 r3 r4 r5
   have rf:=HR1.out.free
   have HBf:Hid (Below w.heap.size w ((((((((((wr.setCell ⟨pb + 1,0,none⟩ (.bool false)).setCell ⟨pb + 1,1,none⟩ (.int .u64 0)).setCell ⟨pb + 1,2,none⟩ (.int .u64 0)).setCell ⟨pb + 1,3,none⟩ (.int .i64 0)).setCell ⟨pb + 1,4,none⟩ (.slice none 0 0)).setCell ⟨pb + 1,5,none⟩ (.slice none 0 0)).setCell ⟨pb + 1 + 1,0,none⟩ (.bool false)).setCell ⟨pb + 1 + 1,1,none⟩ (.int .u64 0)).setCell ⟨pb + 1 + 1,2,none⟩ (.int .u64 0)).setCell ⟨pb + 1 + 1,3,none⟩ (.int .i64 0))):=Lib.hid ((HB.out.grown (grown_setCells (pb + 1) [.bool false, .int .u64 0, .int .u64 0, .int .i64 0, .slice none 0 0, .slice none 0 0] 0 wr) HB.out.size (fun j hj => by injection hj with hj;have:=Hpw.out;omega)).grown (grown_setCells (pb + 1 + 1) [.bool false, .int .u64 0, .int .u64 0, .int .i64 0] 0 ((((((wr.setCell ⟨pb + 1,0,none⟩ (.bool false)).setCell ⟨pb + 1,1,none⟩ (.int .u64 0)).setCell ⟨pb + 1,2,none⟩ (.int .u64 0)).setCell ⟨pb + 1,3,none⟩ (.int .i64 0)).setCell ⟨pb + 1,4,none⟩ (.slice none 0 0)).setCell ⟨pb + 1,5,none⟩ (.slice none 0 0))) (Nat.le_trans HB.out.size (by rw [size_setCellsR];exact Nat.le_refl _)) (fun j hj => by injection hj with hj;have:=Hpw.out;omega))
   go_wp2_with fail
   refine bodyPost_ret (v:=.tuple #[.agg #[.bool false, .int .u64 0, .int .u64 0, .int .i64 0, .slice none 0 0, .slice none 0 0], .agg #[.bool false, .int .u64 0, .int .u64 0, .int .i64 0], .bool false]) (by simp [results,Tryz.results25,go_sem, *]) rfl ⟨_,by rw [HE.out];rfl,by rw [HE.out];exact (poolV_zero _ _),HBf.out⟩
def smallP (P:Pf):Bool:=decide (P.2.2.2 < ((lenN P.1:Nat):Int) - 20)
def pickO (P:Pf) (K:List Pf) (L:List Ls) (key:List UInt8):Option Pf:=if keyF P K L key ≠ 0 then none else if smallP P=true then none else pickA P K L key
def pickF (P:Pf) (K:List Pf) (L:List Ls) (key:List UInt8):Int:=if keyF P K L key ≠ 0 then keyF P K L key else if smallP P=true then 1 else if (pickA P K L key).isSome=true then 0 else 12
theorem pkP_at {F:List Sp} {want k:Nat} {s:Sp} (hs:F[k]?=some s) (h:want≤s.2) (hn:∀ (i:Nat) (t:Sp),i < k→F[i]?=some t→t.2 < want):pkP F want=some (max s.1 want):=by
 have e:F.find? (fun s => decide (want≤s.2))=some s:=by
  induction F generalizing k with
  | nil => simp at hs
  | cons a F ih =>
    cases k with
    | zero =>
      simp at hs
      subst hs
      simp [h]
    | succ k =>
      have ha:=hn 0 a (by omega) rfl
      rw [List.find?_cons,show decide (want≤a.2)=false from decide_eq_false (by omega)]
      exact ih (by simpa using hs) (fun i t hi ht => hn (i + 1) t (by omega) (by simpa using ht))
 unfold pkP
 rw [e]
theorem pkP_end {F:List Sp} {want:Nat} {s:Sp} (hs:F[0]?=some s) (hn:∀ (i:Nat) (t:Sp),F[i]?=some t→t.2 < want):pkP F want=some s.1:=by
 have e:F.find? (fun s => decide (want≤s.2))=none:=by
  rw [List.find?_eq_none]
  intro t ht
  obtain ⟨i,hi,rfl⟩:=List.getElem_of_mem ht
  have:=hn i _ (List.getElem?_eq_getElem hi)
  simp
  omega
 unfold pkP
 rw [e]
 cases F with
 | nil => simp at hs
 | cons a F =>
   simp at hs
   subst hs
   rfl
theorem allB_ge:∀ {S:List Sp},(∀ p ∈ S,VR p)→S.length≤(allB S).length
 | [],_ => Nat.zero_le _
 | p :: S,h => by
   have h1:=allB_ge fun q hq => h q (List.mem_cons_of_mem _ hq)
   have hp:=h p (by simp)
   unfold allB at h1 ⊢
   rw [List.flatMap_cons,List.length_append,List.length_cons]
   have hne:blks (LN p.1) p.1 p.2 ≠ []:=fun e => by
    have hm:=((blks_ok (LN p.1) p.1 p.2).mem p.1).2 ⟨Nat.le_refl _,hp.le⟩
    rw [e] at hm
    obtain ⟨q,hq, -⟩:=hm
    cases hq
   have:0 < (blks (LN p.1) p.1 p.2).length:=List.length_pos_iff.2 hne
   omega
theorem pfs_ge {S:List Sp} (h:∀ p ∈ S,VR p):S.length≤(pfs S).length:=by
 unfold pfs
 rw [List.length_map]
 exact allB_ge h
theorem aPick_any (P:Pf) (ka la:Option Addr) (kn kc ln lc:Nat) (K:List Pf) (L:List Ls) (key:List UInt8) (w:World) (hK:RdK layPf w ka K) (hL:RdK layLs w la L) (hkn:K.length=kn) (hln:L.length=ln) (hs:kn + ln≤7) (hlc:ln≤lc) (huP:u2P P) (huK:U4 K) (huL:UL L) (hky:key.length≤1000) :
  Calls Tryz.prog 23 #[.agg (plC P (.slice ka kn kc) (.slice la ln lc)).toArray, .string (strL key)] w fun e w' => ∃ v,e=.returned (.tuple #[v, .agg (pfC (gotX (pickO P K L key) ((lenN P.1:Nat):Int))).toArray, .int .i64 (pickF P K L key)])∧PoolV w' w.heap.size v (gotP (pickO P K L key) P) (gotK (pickO P K L key) K) (gotL (pickO P K L key) L key ((lenN P.1:Nat):Int))∧Below w.heap.size w w':=by
 have HKy:=Lib.hid fun wx (hk:RdK layPf wx ka K) (hl:RdK layLs wx la L) => akeyFault_any P ka la kn kc ln lc K L key wx hk hl hkn hln (by omega) (by omega) hlc huP huK huL hky
 have hlp:=lenN_le P.1
 by_cases h0:keyF P K L key=0
 ·rw [h0] at HKy
  obtain ⟨hP,hKk,hLk,hT⟩:=poolF_ok (keyF_zero h0).1 huP huK huL
  obtain ⟨hbd0,hbd1⟩:0≤P.2.2.2∧P.2.2.2≤128:=by
   obtain ⟨nb,hnb,hnl⟩:=okPf_bits hP
   omega
  by_cases hsm:P.2.2.2 < ((lenN P.1:Nat):Int) - 20
  ·have hO:pickO P K L key=none∧pickF P K L key=1:=by
    unfold pickO pickF smallP
    constructor
    ·rw [if_neg (by rw [h0];decide),if_pos (by simpa using hsm)]
    ·rw [if_neg (by rw [h0];decide),if_pos (by simpa using hsm)]
   rw [hO.1,hO.2]
   clear hO huP huK huL hkn hln hky h0 hP hKk hLk hT
   obtain ⟨n,hnn⟩:∃ n:Int,((lenN P.1:Nat):Int)=n:=⟨_,rfl⟩
   have HLe:=Lib.hid fun wx => length_any P.1 P.2.1 P.2.2.1 wx
   unfold vA at HLe
   rw [hnn] at HLe hsm ⊢
   have hn0:0≤n∧n≤128:=by omega
   clear hnn hlp
   obtain ⟨hn0,hn1⟩:=hn0
   obtain ⟨ps,ph,pl,pn⟩:=P
   rw [show (plC (ps,ph,pl,pn) (.slice ka kn kc) (.slice la ln lc)).toArray=#[.bool ps, .int .u64 (ph:Int), .int .u64 (pl:Int), .int .i64 pn, .slice ka kn kc, .slice la ln lc] from rfl] at *
   have hB01:Below w.heap.size w (((w.alloc (.cells #[.bool ps, .int .u64 (ph:Int), .int .u64 (pl:Int), .int .i64 pn, .slice ka kn kc, .slice la ln lc] 34 (0,0))).alloc (.cells #[.bool false, .int .u64 0, .int .u64 0, .int .i64 0, .slice none 0 0, .slice none 0 0] 34 (0,0))).alloc (.cells #[.bool false, .int .u64 0, .int .u64 0, .int .i64 0] 30 (0,0))):=below_alloc (below_alloc (below_alloc (Below.refl _ _) _) _) _
   have HB01:=Lib.hid hB01
   have HKw:=Lib.hid hK
   have HLw:=Lib.hid hL
   have HQ0:Hid (Blk (((w.alloc (.cells #[.bool ps, .int .u64 (ph:Int), .int .u64 (pl:Int), .int .i64 pn, .slice ka kn kc, .slice la ln lc] 34 (0,0))).alloc (.cells #[.bool false, .int .u64 0, .int .u64 0, .int .i64 0, .slice none 0 0, .slice none 0 0] 34 (0,0))).alloc (.cells #[.bool false, .int .u64 0, .int .u64 0, .int .i64 0] 30 (0,0))) w.heap.size 34 #[.bool ps, .int .u64 (ph:Int), .int .u64 (pl:Int), .int .i64 pn, .slice ka kn kc, .slice la ln lc]):=Lib.hid (((Blk.new w _ _).alloc _).alloc _)
   have HR1:Hid (Blk (((w.alloc (.cells #[.bool ps, .int .u64 (ph:Int), .int .u64 (pl:Int), .int .i64 pn, .slice ka kn kc, .slice la ln lc] 34 (0,0))).alloc (.cells #[.bool false, .int .u64 0, .int .u64 0, .int .i64 0, .slice none 0 0, .slice none 0 0] 34 (0,0))).alloc (.cells #[.bool false, .int .u64 0, .int .u64 0, .int .i64 0] 30 (0,0))) (w.heap.size + 1) 34 #[.bool false, .int .u64 0, .int .u64 0, .int .i64 0, .slice none 0 0, .slice none 0 0]):=Lib.hid (by
    have this:=(Blk.new (w.alloc (.cells #[.bool ps, .int .u64 (ph:Int), .int .u64 (pl:Int), .int .i64 pn, .slice ka kn kc, .slice la ln lc] 34 (0,0))) 34 #[.bool false, .int .u64 0, .int .u64 0, .int .i64 0, .slice none 0 0, .slice none 0 0]).alloc (.cells #[.bool false, .int .u64 0, .int .u64 0, .int .i64 0] 30 (0,0))
    rw [World.size_alloc] at this
    exact this)
   have HR2:Hid (Blk (((w.alloc (.cells #[.bool ps, .int .u64 (ph:Int), .int .u64 (pl:Int), .int .i64 pn, .slice ka kn kc, .slice la ln lc] 34 (0,0))).alloc (.cells #[.bool false, .int .u64 0, .int .u64 0, .int .i64 0, .slice none 0 0, .slice none 0 0] 34 (0,0))).alloc (.cells #[.bool false, .int .u64 0, .int .u64 0, .int .i64 0] 30 (0,0))) (w.heap.size + 1 + 1) 30 #[.bool false, .int .u64 0, .int .u64 0, .int .i64 0]):=Lib.hid (by
    have this:=Blk.new ((w.alloc (.cells #[.bool ps, .int .u64 (ph:Int), .int .u64 (pl:Int), .int .i64 pn, .slice ka kn kc, .slice la ln lc] 34 (0,0))).alloc (.cells #[.bool false, .int .u64 0, .int .u64 0, .int .i64 0, .slice none 0 0, .slice none 0 0] 34 (0,0))) 30 #[.bool false, .int .u64 0, .int .u64 0, .int .i64 0]
    rw [World.size_alloc,World.size_alloc] at this
    exact this)
   clear hK hL hB01
   go_enter Tryz.func23,Tryz.ntmps23
   go_upto_region 1 with fail
   generalize (((w.alloc (.cells #[.bool ps, .int .u64 (ph:Int), .int .u64 (pl:Int), .int .i64 pn, .slice ka kn kc, .slice la ln lc] 34 (0,0))).alloc (.cells #[.bool false, .int .u64 0, .int .u64 0, .int .i64 0, .slice none 0 0, .slice none 0 0] 34 (0,0))).alloc (.cells #[.bool false, .int .u64 0, .int .u64 0, .int .i64 0] 30 (0,0)))=w1 at *
   obtain ⟨pb,hpb⟩:∃ q,w.heap.size=q:=⟨_,rfl⟩
   have Hpw:Hid (w.heap.size≤pb):=Lib.hid (by omega)
   rw [hpb] at HQ0 HR1 HR2 ⊢
   clear hpb
   have p0:=HQ0.out.cell 0
   have p1:=HQ0.out.cell 1
   have p2:=HQ0.out.cell 2
   have p3:=HQ0.out.cell 3
   have p4:=HQ0.out.cell 4
   have p5:=HQ0.out.cell 5
   simp at p0 p1 p2 p3 p4 p5
   go_wp2_with fail
   refine (HKy.out _ (HKw.out.below HB01.out) (HLw.out.below HB01.out)).mono ?_
   rintro e w2 ⟨rfl,hb⟩
   have HQ2:=Lib.hid (HQ0.out.below hb HQ0.out.lt)
   have HR12:=Lib.hid (HR1.out.below hb HR1.out.lt)
   have HR22:=Lib.hid (HR2.out.below hb HR2.out.lt)
   have HB:=Lib.hid (HB01.out.trans (hb.mono HB01.out.size))
   clear hb HKy p0 p1 p2 p3 p4 p5 HQ0 HR1 HR2
   have p0:=HQ2.out.cell 0
   have p1:=HQ2.out.cell 1
   have p2:=HQ2.out.cell 2
   have p3:=HQ2.out.cell 3
   simp at p0 p1 p2 p3
   go_wp2_with fail
   refine (HLe.out _).mono ?_
   rintro e w3 ⟨rfl,hb⟩
   have HQ3:=Lib.hid (HQ2.out.below hb HQ2.out.lt)
   have HR1:=Lib.hid (HR12.out.below hb HR12.out.lt)
   have HR2:=Lib.hid (HR22.out.below hb HR22.out.lt)
   replace HB:=Lib.hid (HB.out.trans (hb.mono HB.out.size))
   clear hb p0 p1 p2 p3 HQ2 HR12 HR22 HLe
   have p3:=HQ3.out.cell 3
   simp at p3
   have c6:=HR1.out.set6w (x1':=.bool false) (x2':=.int .u64 0) (x3':=.int .u64 0) (x4':=.int .i64 0) (x5':=.slice none 0 0) (x6':=.slice none 0 0)
   have c6b:=HR2.out.far6w (show pb + 1 + 1 ≠ pb + 1 by omega) (x1':=.bool false) (x2':=.int .u64 0) (x3':=.int .u64 0) (x4':=.int .i64 0) (x5':=.slice none 0 0) (x6':=.slice none 0 0)
   have c4:=c6b.set4w (x':=.bool false) (y':=.int .u64 0) (z':=.int .u64 0) (u':=.int .i64 0)
   have c6c:=c6.far4w (show pb + 1 ≠ pb + 1 + 1 by omega) (x':=.bool false) (y':=.int .u64 0) (z':=.int .u64 0) (u':=.int .i64 0)
   have b0:=c6b.cell 0
   have b1:=c6b.cell 1
   have b2:=c6b.cell 2
   have b3:=c6b.cell 3
   have bf:=c6b.free
   have z0:=c6c.cell 0
   have z1:=c6c.cell 1
   have z2:=c6c.cell 2
   have z3:=c6c.cell 3
   have z4:=c6c.cell 4
   have z5:=c6c.cell 5
   have y0:=c4.cell 0
   have y1:=c4.cell 1
   have y2:=c4.cell 2
   have y3:=c4.cell 3
   simp at b0 b1 b2 b3 z0 z1 z2 z3 z4 z5 y0 y1 y2 y3
   clear c6 c6b c4 c6c
   have r0:=HR1.out.cell 0
   have r1:=HR1.out.cell 1
   have r2:=HR1.out.cell 2
   have r3:=HR1.out.cell 3
   have r4:=HR1.out.cell 4
   have r5:=HR1.out.cell 5
   simp at r0 r1 r2 r3 r4 r5
   have rf:=HR1.out.free
   have HBf:Hid (Below w.heap.size w ((((((((((w3.setCell ⟨pb + 1,0,none⟩ (.bool false)).setCell ⟨pb + 1,1,none⟩ (.int .u64 0)).setCell ⟨pb + 1,2,none⟩ (.int .u64 0)).setCell ⟨pb + 1,3,none⟩ (.int .i64 0)).setCell ⟨pb + 1,4,none⟩ (.slice none 0 0)).setCell ⟨pb + 1,5,none⟩ (.slice none 0 0)).setCell ⟨pb + 1 + 1,0,none⟩ (.bool false)).setCell ⟨pb + 1 + 1,1,none⟩ (.int .u64 0)).setCell ⟨pb + 1 + 1,2,none⟩ (.int .u64 0)).setCell ⟨pb + 1 + 1,3,none⟩ (.int .i64 0))):=Lib.hid ((HB.out.grown (grown_setCells (pb + 1) [.bool false, .int .u64 0, .int .u64 0, .int .i64 0, .slice none 0 0, .slice none 0 0] 0 w3) HB.out.size (fun j hj => by injection hj with hj;have:=Hpw.out;omega)).grown (grown_setCells (pb + 1 + 1) [.bool false, .int .u64 0, .int .u64 0, .int .i64 0] 0 ((((((w3.setCell ⟨pb + 1,0,none⟩ (.bool false)).setCell ⟨pb + 1,1,none⟩ (.int .u64 0)).setCell ⟨pb + 1,2,none⟩ (.int .u64 0)).setCell ⟨pb + 1,3,none⟩ (.int .i64 0)).setCell ⟨pb + 1,4,none⟩ (.slice none 0 0)).setCell ⟨pb + 1,5,none⟩ (.slice none 0 0))) (Nat.le_trans HB.out.size (by rw [size_setCellsR];exact Nat.le_refl _)) (fun j hj => by injection hj with hj;have:=Hpw.out;omega))
   go_wp2_with fail
   refine bodyPost_ret (v:=.tuple #[.agg #[.bool false, .int .u64 0, .int .u64 0, .int .i64 0, .slice none 0 0, .slice none 0 0], .agg #[.bool false, .int .u64 0, .int .u64 0, .int .i64 0], .int .i64 1]) (by simp [results,Tryz.results23,go_sem, *]) rfl ⟨_,rfl,poolV_zero _ _,HBf.out⟩
  ·have hO:pickO P K L key=pickA P K L key∧pickF P K L key=(if (pickA P K L key).isSome=true then 0 else 12):=by
    unfold pickO pickF smallP
    constructor
    ·rw [if_neg (by rw [h0];decide),if_neg (by simpa using hsm)]
    ·rw [if_neg (by rw [h0];decide),if_neg (by simpa using hsm)]
   rw [hO.1,hO.2]
   have hb20:((lenN P.1:Nat):Int) - 20≤P.2.2.2:=by omega
   obtain ⟨fv,hfv,hfl⟩:=fnv_pos key
   obtain ⟨j,hj,hj20,hsz⟩:=open_bits hP hb20
   obtain ⟨hz1,hz2⟩:=pow_le20 hj20
   rw [← hsz] at hz1 hz2
   have hdv:2 ^ j ∣ nuP P:=by
    have h:=hP.sp.dvd
    rw [← hsz]
    exact h
   have hst:startP P key=fv % sizeP P:=by unfold startP;rw [hfv,Int.toNat_natCast]
   have hstl:startP P key < sizeP P:=Nat.mod_lt _ hz1
   obtain ⟨hn1,hn2,hn3,hn4⟩:=add_num (st:=startP P key) hdv (by omega) (by rw [← hsz];exact hstl)
   have hPn:=hP.num
   have hwn:aN (nuP P + startP P key)=#[.bool P.1, .int .u64 (P.2.1:Int), .int .u64 ((P.2.2.1 + startP P key:Nat):Int)]:=by
    unfold aN
    rw [hn1,hn2,hn3,hPn.2.1,hPn.2.2.1,hPn.2.2.2]
   obtain ⟨hvw, -⟩:=vn_in (x:=nuP P + startP P key) hP (by omega) (by omega)
   rw [hPn.2.2.2] at hn4
   have hfn:(freeS P K L).length≤100000:=by
    have h1:=free_len hP hT (by omega)
    have h2:(freeS P K L).length≤(freeL P K L).length:=pfs_ge (freeS_ok hP hT)
    omega
   have hVR:=freeS_ok hP hT
   have HFr:=Lib.hid fun wx (hk:RdK layPf wx ka K) (hl:RdK layLs wx la L) => free_any P ka la kn kc ln lc K L wx hk hl hkn hln (by omega) (by omega) hP hT
   have HLd0:=Lib.hid fun x wx (hk:RdK layPf wx ka K) (hl:RdK layLs wx la L) => aleased_any P ka la kn kc ln lc K L key x wx hk hl hkn hln (by omega) (by omega)
   have HSm:=Lib.hid fun wx => asumOf_any key wx (by omega)
   rw [hfv] at HSm
   have HLe:=Lib.hid fun wx => length_any P.1 P.2.1 P.2.2.1 wx
   unfold vA at HLe
   have HPk:Hid (pickA P K L key=(pkP (freeS P K L) (nuP P + startP P key)).map adrN):=Lib.hid rfl
   clear hO huP huK huL hkn hln h0 hP hKk hLk hT hPn hn1 hn2 hn3 hdv hfv
   generalize freeS P K L=F at *
   generalize pickA P K L key=o at *
   obtain ⟨FE,hFE⟩:∃ q:Int,(if o.isSome=true then (0:Int) else 12)=q:=⟨_,rfl⟩
   have HFE:=Lib.hid hFE
   rw [hFE]
   clear hFE
   generalize nuP P + startP P key=want at *
   obtain ⟨st,hst2⟩:∃ q,startP P key=q:=⟨_,rfl⟩
   obtain ⟨sz,hsz2⟩:∃ q,sizeP P=q:=⟨_,rfl⟩
   rw [hst2] at hst hstl hwn hn4
   rw [hsz2] at hst hstl hsz hz1 hz2
   obtain ⟨pw,hpw⟩:∃ q,P.2.2.1 + st=q:=⟨_,rfl⟩
   rw [hpw] at hwn hn4
   have Hpv:=Lib.hid hpw
   clear hst2 hsz2 hpw
   have Hst:=Lib.hid hst
   have Hsz:=Lib.hid hsz
   have Hwn:=Lib.hid hwn
   have HVw:=Lib.hid hvw
   have HVR:=Lib.hid hVR
   clear hst hsz hwn hvw hVR
   obtain ⟨n,hnn⟩:∃ n:Int,((lenN P.1:Nat):Int)=n:=⟨_,rfl⟩
   rw [hnn] at HLe hsm hj ⊢
   have hn0:0≤n∧n≤128:=by omega
   obtain ⟨hn0,hn1⟩:=hn0
   clear hnn hlp hb20
   have hl2:¬ ((ln:Nat):Int) ≥ 200:=by omega
   have hd2:decide ((200:Int)≤((ln:Nat):Int))=false:=decide_eq_false (by omega)
   have hd3:decide (P.2.2.2 < n - 20)=false:=decide_eq_false (by omega)
   obtain ⟨m,hm⟩:∃ m,F.length=m:=⟨_,rfl⟩
   rw [hm] at hfn
   have Hm:=Lib.hid hm
   clear hm
   obtain ⟨ps,ph,pl,pn⟩:=P
   rw [show (plC (ps,ph,pl,pn) (.slice ka kn kc) (.slice la ln lc)).toArray=#[.bool ps, .int .u64 (ph:Int), .int .u64 (pl:Int), .int .i64 pn, .slice ka kn kc, .slice la ln lc] from rfl] at *
   have hB01:Below w.heap.size w (((w.alloc (.cells #[.bool ps, .int .u64 (ph:Int), .int .u64 (pl:Int), .int .i64 pn, .slice ka kn kc, .slice la ln lc] 34 (0,0))).alloc (.cells #[.bool false, .int .u64 0, .int .u64 0, .int .i64 0, .slice none 0 0, .slice none 0 0] 34 (0,0))).alloc (.cells #[.bool false, .int .u64 0, .int .u64 0, .int .i64 0] 30 (0,0))):=below_alloc (below_alloc (below_alloc (Below.refl _ _) _) _) _
   have HB01:=Lib.hid hB01
   have HKw:=Lib.hid hK
   have HLw:=Lib.hid hL
   have HQ0:Hid (Blk (((w.alloc (.cells #[.bool ps, .int .u64 (ph:Int), .int .u64 (pl:Int), .int .i64 pn, .slice ka kn kc, .slice la ln lc] 34 (0,0))).alloc (.cells #[.bool false, .int .u64 0, .int .u64 0, .int .i64 0, .slice none 0 0, .slice none 0 0] 34 (0,0))).alloc (.cells #[.bool false, .int .u64 0, .int .u64 0, .int .i64 0] 30 (0,0))) w.heap.size 34 #[.bool ps, .int .u64 (ph:Int), .int .u64 (pl:Int), .int .i64 pn, .slice ka kn kc, .slice la ln lc]):=Lib.hid (((Blk.new w _ _).alloc _).alloc _)
   have HR1:Hid (Blk (((w.alloc (.cells #[.bool ps, .int .u64 (ph:Int), .int .u64 (pl:Int), .int .i64 pn, .slice ka kn kc, .slice la ln lc] 34 (0,0))).alloc (.cells #[.bool false, .int .u64 0, .int .u64 0, .int .i64 0, .slice none 0 0, .slice none 0 0] 34 (0,0))).alloc (.cells #[.bool false, .int .u64 0, .int .u64 0, .int .i64 0] 30 (0,0))) (w.heap.size + 1) 34 #[.bool false, .int .u64 0, .int .u64 0, .int .i64 0, .slice none 0 0, .slice none 0 0]):=Lib.hid (by
    have this:=(Blk.new (w.alloc (.cells #[.bool ps, .int .u64 (ph:Int), .int .u64 (pl:Int), .int .i64 pn, .slice ka kn kc, .slice la ln lc] 34 (0,0))) 34 #[.bool false, .int .u64 0, .int .u64 0, .int .i64 0, .slice none 0 0, .slice none 0 0]).alloc (.cells #[.bool false, .int .u64 0, .int .u64 0, .int .i64 0] 30 (0,0))
    rw [World.size_alloc] at this
    exact this)
   have HR2:Hid (Blk (((w.alloc (.cells #[.bool ps, .int .u64 (ph:Int), .int .u64 (pl:Int), .int .i64 pn, .slice ka kn kc, .slice la ln lc] 34 (0,0))).alloc (.cells #[.bool false, .int .u64 0, .int .u64 0, .int .i64 0, .slice none 0 0, .slice none 0 0] 34 (0,0))).alloc (.cells #[.bool false, .int .u64 0, .int .u64 0, .int .i64 0] 30 (0,0))) (w.heap.size + 1 + 1) 30 #[.bool false, .int .u64 0, .int .u64 0, .int .i64 0]):=Lib.hid (by
    have this:=Blk.new ((w.alloc (.cells #[.bool ps, .int .u64 (ph:Int), .int .u64 (pl:Int), .int .i64 pn, .slice ka kn kc, .slice la ln lc] 34 (0,0))).alloc (.cells #[.bool false, .int .u64 0, .int .u64 0, .int .i64 0, .slice none 0 0, .slice none 0 0] 34 (0,0))) 30 #[.bool false, .int .u64 0, .int .u64 0, .int .i64 0]
    rw [World.size_alloc,World.size_alloc] at this
    exact this)
   clear hK hL hB01
   go_enter Tryz.func23,Tryz.ntmps23
   go_upto_region 1 with fail
   generalize (((w.alloc (.cells #[.bool ps, .int .u64 (ph:Int), .int .u64 (pl:Int), .int .i64 pn, .slice ka kn kc, .slice la ln lc] 34 (0,0))).alloc (.cells #[.bool false, .int .u64 0, .int .u64 0, .int .i64 0, .slice none 0 0, .slice none 0 0] 34 (0,0))).alloc (.cells #[.bool false, .int .u64 0, .int .u64 0, .int .i64 0] 30 (0,0)))=w1 at *
   obtain ⟨pb,hpb⟩:∃ q,w.heap.size=q:=⟨_,rfl⟩
   have Hpw:Hid (w.heap.size≤pb):=Lib.hid (by omega)
   rw [hpb] at HQ0 HR1 HR2 ⊢
   clear hpb
   have p0:=HQ0.out.cell 0
   have p1:=HQ0.out.cell 1
   have p2:=HQ0.out.cell 2
   have p3:=HQ0.out.cell 3
   have p4:=HQ0.out.cell 4
   have p5:=HQ0.out.cell 5
   simp at p0 p1 p2 p3 p4 p5
   go_wp2_with fail
   refine (HKy.out _ (HKw.out.below HB01.out) (HLw.out.below HB01.out)).mono ?_
   rintro e w2 ⟨rfl,hb⟩
   have HQ2:=Lib.hid (HQ0.out.below hb HQ0.out.lt)
   have HR12:=Lib.hid (HR1.out.below hb HR1.out.lt)
   have HR22:=Lib.hid (HR2.out.below hb HR2.out.lt)
   have HB:=Lib.hid (HB01.out.trans (hb.mono HB01.out.size))
   clear hb HKy p0 p1 p2 p3 p4 p5 HQ0 HR1 HR2
   have p0:=HQ2.out.cell 0
   have p1:=HQ2.out.cell 1
   have p2:=HQ2.out.cell 2
   have p3:=HQ2.out.cell 3
   simp at p0 p1 p2 p3
   go_wp2_with fail
   refine (HLe.out _).mono ?_
   rintro e w3 ⟨rfl,hb⟩
   have HQ3:=Lib.hid (HQ2.out.below hb HQ2.out.lt)
   have HR13:=Lib.hid (HR12.out.below hb HR12.out.lt)
   have HR23:=Lib.hid (HR22.out.below hb HR22.out.lt)
   have HB3:=Lib.hid (HB.out.trans (hb.mono HB.out.size))
   clear hb p0 p1 p2 p3 HQ2 HR12 HR22 HLe HB
   have p0:=HQ3.out.cell 0
   have p1:=HQ3.out.cell 1
   have p2:=HQ3.out.cell 2
   have p3:=HQ3.out.cell 3
   have p4:=HQ3.out.cell 4
   have p5:=HQ3.out.cell 5
   simp at p0 p1 p2 p3 p4 p5
   go_upto_region 7 with fail
   go_wp2_with fail
   refine (HFr.out w3 (HKw.out.below HB3.out) (HLw.out.below HB3.out)).mono ?_
   rintro e w4 ⟨v,rfl,hO,hb⟩
   obtain ⟨fa,fc,rfl, -, -, -⟩:=hO.form
   rw [Hm.out] at hO ⊢
   have HF4:=Lib.hid hO.rd
   have HQ4:=Lib.hid (HQ3.out.below hb HQ3.out.lt)
   have HR14:=Lib.hid (HR13.out.below hb HR13.out.lt)
   have HR24:=Lib.hid (HR23.out.below hb HR23.out.lt)
   have HB4:=Lib.hid (HB3.out.trans (hb.mono HB3.out.size))
   clear hO hb HQ3 HR13 HR23 HB3 HFr p0 p1 p2 p3 p4 p5
   have p0:=HQ4.out.cell 0
   have p1:=HQ4.out.cell 1
   have p2:=HQ4.out.cell 2
   have p3:=HQ4.out.cell 3
   have p5:=HQ4.out.cell 5
   simp at p0 p1 p2 p3 p5
   rcases Nat.eq_zero_or_pos m with hm0 | hm0
   ·subst hm0
    have hF0:F=[]:=List.length_eq_zero_iff.1 Hm.out
    have HE:Hid (o=none):=Lib.hid (by rw [HPk.out,hF0];rfl)
    have HFx:Hid (FE=12):=Lib.hid (by rw [← HFE.out,HE.out];rfl)
    have HR1:=HR14
    have HR2:=HR24
    have HB:=HB4
    clear hF0 HR14 HR24 HB4 p0 p1 p2 p3 p5 HPk HLd0 HSm
    have c6:=HR1.out.set6w (x1':=.bool false) (x2':=.int .u64 0) (x3':=.int .u64 0) (x4':=.int .i64 0) (x5':=.slice none 0 0) (x6':=.slice none 0 0)
    have c6b:=HR2.out.far6w (show pb + 1 + 1 ≠ pb + 1 by omega) (x1':=.bool false) (x2':=.int .u64 0) (x3':=.int .u64 0) (x4':=.int .i64 0) (x5':=.slice none 0 0) (x6':=.slice none 0 0)
    have c4:=c6b.set4w (x':=.bool false) (y':=.int .u64 0) (z':=.int .u64 0) (u':=.int .i64 0)
    have c6c:=c6.far4w (show pb + 1 ≠ pb + 1 + 1 by omega) (x':=.bool false) (y':=.int .u64 0) (z':=.int .u64 0) (u':=.int .i64 0)
    have b0:=c6b.cell 0
    have b1:=c6b.cell 1
    have b2:=c6b.cell 2
    have b3:=c6b.cell 3
    have bf:=c6b.free
    have z0:=c6c.cell 0
    have z1:=c6c.cell 1
    have z2:=c6c.cell 2
    have z3:=c6c.cell 3
    have z4:=c6c.cell 4
    have z5:=c6c.cell 5
    have y0:=c4.cell 0
    have y1:=c4.cell 1
    have y2:=c4.cell 2
    have y3:=c4.cell 3
    simp at b0 b1 b2 b3 z0 z1 z2 z3 z4 z5 y0 y1 y2 y3
    clear c6 c6b c4 c6c
    have r0:=HR1.out.cell 0
    have r1:=HR1.out.cell 1
    have r2:=HR1.out.cell 2
    have r3:=HR1.out.cell 3
    have r4:=HR1.out.cell 4
    have r5:=HR1.out.cell 5
    simp at r0 r1 r2 r3 r4 r5
    have rf:=HR1.out.free
    have HBf:Hid (Below w.heap.size w ((((((((((w4.setCell ⟨pb + 1,0,none⟩ (.bool false)).setCell ⟨pb + 1,1,none⟩ (.int .u64 0)).setCell ⟨pb + 1,2,none⟩ (.int .u64 0)).setCell ⟨pb + 1,3,none⟩ (.int .i64 0)).setCell ⟨pb + 1,4,none⟩ (.slice none 0 0)).setCell ⟨pb + 1,5,none⟩ (.slice none 0 0)).setCell ⟨pb + 1 + 1,0,none⟩ (.bool false)).setCell ⟨pb + 1 + 1,1,none⟩ (.int .u64 0)).setCell ⟨pb + 1 + 1,2,none⟩ (.int .u64 0)).setCell ⟨pb + 1 + 1,3,none⟩ (.int .i64 0))):=Lib.hid ((HB.out.grown (grown_setCells (pb + 1) [.bool false, .int .u64 0, .int .u64 0, .int .i64 0, .slice none 0 0, .slice none 0 0] 0 w4) HB.out.size (fun j hj => by injection hj with hj;have:=Hpw.out;omega)).grown (grown_setCells (pb + 1 + 1) [.bool false, .int .u64 0, .int .u64 0, .int .i64 0] 0 ((((((w4.setCell ⟨pb + 1,0,none⟩ (.bool false)).setCell ⟨pb + 1,1,none⟩ (.int .u64 0)).setCell ⟨pb + 1,2,none⟩ (.int .u64 0)).setCell ⟨pb + 1,3,none⟩ (.int .i64 0)).setCell ⟨pb + 1,4,none⟩ (.slice none 0 0)).setCell ⟨pb + 1,5,none⟩ (.slice none 0 0))) (Nat.le_trans HB.out.size (by rw [size_setCellsR];exact Nat.le_refl _)) (fun j hj => by injection hj with hj;have:=Hpw.out;omega))
    go_wp2_with fail
    refine bodyPost_ret (v:=.tuple #[.agg #[.bool false, .int .u64 0, .int .u64 0, .int .i64 0, .slice none 0 0, .slice none 0 0], .agg #[.bool false, .int .u64 0, .int .u64 0, .int .i64 0], .int .i64 12]) (by simp [results,Tryz.results23,go_sem, *]) rfl ⟨_,by rw [HE.out,HFx.out] <;> rfl,by rw [HE.out];exact (poolV_zero _ _),HBf.out⟩
   ·obtain ⟨s0,hs0⟩:∃ s,F[0]?=some s:=⟨_,List.getElem?_eq_getElem (by rw [Hm.out];exact hm0)⟩
    have hm1:((m:Nat):Int) ≠ 0:=by omega
    have hm2:(0:Int) < ((m:Nat):Int):=by omega
    have hm3:¬ m=0:=by omega
    have hm4:(m == 0)=false:=by simpa using hm3
    have hm5:(((m:Nat):Int) == 0)=false:=by simpa using hm3
    have hv0:=HVR.out s0 (List.mem_of_getElem? hs0)
    have HV0:Hid ((∀ (i:Nat) (t:Sp),F[i]?=some t→t.2 < want)→pkP F want=some s0.1):=Lib.hid fun h => pkP_end hs0 h
    have HV1:Hid (∀ (k:Nat) (s:Sp),F[k]?=some s→want≤s.2→(∀ (i:Nat) (t:Sp),i < k→F[i]?=some t→t.2 < want)→pkP F want=some (max s.1 want)):=Lib.hid fun k s h1 h2 h3 => pkP_at h1 h2 h3
    obtain ⟨c1,c2,c3,c4,c5,c6,hc⟩:∃ (c1:Bool) (c2 c3:Nat) (c4:Bool) (c5 c6:Nat),rgC s0=[.bool c1, .int .u64 (c2:Int), .int .u64 (c3:Int), .bool c4, .int .u64 (c5:Int), .int .u64 (c6:Int)]∧aN s0.1=#[.bool c1, .int .u64 (c2:Int), .int .u64 (c3:Int)]:=⟨_,_,_,_,_,_,rfl,rfl⟩
    obtain ⟨hc,hc0⟩:=hc
    have HWx:Hid (Blk (w4.alloc (.cells #[.bool ps, .int .u64 (ph:Int), .int .u64 (pl:Int)] 28 (0,0))) w4.heap.size 28 #[.bool ps, .int .u64 (ph:Int), .int .u64 (pl:Int)]):=Lib.hid (Blk.new w4 _ _)
    have HBr5:Hid (Below w4.heap.size w4 (w4.alloc (.cells #[.bool ps, .int .u64 (ph:Int), .int .u64 (pl:Int)] 28 (0,0)))):=Lib.hid (below_alloc (Below.refl _ _) _)
    have Hw5:Hid (pb + 1 + 1 < w4.heap.size):=Lib.hid HR24.out.lt
    go_upto_region 11 with fail
    generalize w4.alloc (.cells #[.bool ps, .int .u64 (ph:Int), .int .u64 (pl:Int)] 28 (0,0))=w5 at *
    obtain ⟨wb,hwb⟩:∃ q,w4.heap.size=q:=⟨_,rfl⟩
    have Hwb:=Lib.hid hwb
    rw [hwb] at HWx Hw5 ⊢
    clear hwb p0 p1 p2 p3 p5
    have HQ5:=Lib.hid (HQ4.out.below HBr5.out HQ4.out.lt)
    have p0:=HQ5.out.cell 0
    have p1:=HQ5.out.cell 1
    have p2:=HQ5.out.cell 2
    have p3:=HQ5.out.cell 3
    have p5:=HQ5.out.cell 5
    simp at p0 p1 p2 p3 p5
    have d0:=HWx.out.cell 0
    have d1:=HWx.out.cell 1
    have d2:=HWx.out.cell 2
    simp at d0 d1 d2
    have l3:=Later.cell_of p3
    have m2:=Later.cell_of d2
    have hS:=fun x:Later w5 => Calls.later_same x ((HSm.out x.1).mono fun _ _ h => ⟨h.1,h.2.symm⟩)
    have e1:IntKind.u64.wrap (2 ^ j)=(sz:Int):=by
     have e:((2:Int) ^ j)=((2 ^ j:Nat):Int):=by norm_cast
     rw [e, ← Hsz.out,IntKind.wrap_u64]
     omega
    have s1:(sz:Int) ≠ 0:=by omega
    have s7:¬ sz=0:=by omega
    have s4:((fv:Int) % (sz:Int))=(st:Int):=by rw [Hst.out];norm_cast
    have s5:Int.tmod (fv:Int) (sz:Int)=(st:Int):=by rw [Hst.out,Int.tmod_eq_emod_of_nonneg (by omega)];norm_cast
    refine wp_region_later_tail 13 (by kernel_rfl) (by kernel_rfl) ?_
    simp only [List.take_succ_cons,List.take_zero,List.drop_succ_cons,List.drop_zero]
    iterate 3 (go_big_quiet_step (fail))
    go_big_quiet_step ((go_at_call 63;exact hS _))
    repeat (go_big_quiet_step (fail))
    refine wpQuiet_nil ?_
    rintro w6 ⟨n5,hn5⟩
    have hb6:Below w5.heap.size w5 w6:=by rw [hn5];exact n5.2
    have HW6:=Lib.hid (HWx.out.below hb6 HWx.out.lt)
    have HBr6:=Lib.hid (HBr5.out.trans (hb6.mono HBr5.out.size))
    clear hn5 n5 hb6 hS HSm l3 m2 e1 s1 s7 s4 s5 p0 p1 p2 p3 p5 d0 d1 d2 HWx HQ5 HBr5
    have e5:IntKind.u64.wrap ((pl:Int) + (st:Int))=(pw:Int):=by have h:pl + st=pw:=Hpv.out;rw [IntKind.wrap_u64];omega
    have d0:=HW6.out.cell 0
    have d1:=HW6.out.cell 1
    have d2:=HW6.out.cell 2
    simp at d0 d1 d2
    have rf:=HW6.out.free
    have HW7:Hid (Blk (w6.setCell ⟨wb,2,none⟩ (.int .u64 (pw:Int))) wb 28 #[.bool ps, .int .u64 (ph:Int), .int .u64 (pw:Int)]):=Lib.hid (HW6.out.set 2 _)
    have HBr7:Hid (Below w4.heap.size w4 (w6.setCell ⟨wb,2,none⟩ (.int .u64 (pw:Int)))):=Lib.hid (HBr6.out.setCell (show w4.heap.size≤wb by rw [Hwb.out];exact Nat.le_refl _) _)
    go_upto_region 12 with fail
    generalize w6.setCell ⟨wb,2,none⟩ (.int .u64 (pw:Int))=w7 at *
    clear d0 d1 d2 rf e5 HW6 HBr6
    have HF7:=Lib.hid (HF4.out.below HBr7.out)
    obtain ⟨g,off,had,hg,e0,e1,e2,e3,e4,e5⟩:=HF7.out.rg hs0 hc
    subst had
    have hg0:off + 0 * 6=off:=by omega
    rw [hg0] at e0 e1 e2
    have HA8:Hid (Blk (w7.alloc (.cells #[.bool c1, .int .u64 (c2:Int), .int .u64 (c3:Int)] 28 (0,0))) w7.heap.size 28 #[.bool c1, .int .u64 (c2:Int), .int .u64 (c3:Int)]):=Lib.hid (Blk.new w7 _ _)
    have HW8:=Lib.hid (HW7.out.alloc (.cells #[.bool c1, .int .u64 (c2:Int), .int .u64 (c3:Int)] 28 (0,0)))
    have HBr8:Hid (Below w4.heap.size w4 (w7.alloc (.cells #[.bool c1, .int .u64 (c2:Int), .int .u64 (c3:Int)] 28 (0,0)))):=Lib.hid (Below.alloc HBr7.out HBr7.out.size _)
    have Hab:Hid (w4.heap.size≤w7.heap.size):=Lib.hid HBr7.out.size
    have Hwa:Hid (wb < w7.heap.size):=Lib.hid HW7.out.lt
    clear HF7 e3 e4 e5 hg0
    go_upto_region 13 with fail
    generalize w7.alloc (.cells #[.bool c1, .int .u64 (c2:Int), .int .u64 (c3:Int)] 28 (0,0))=w8 at *
    obtain ⟨ab,hab⟩:∃ q,w7.heap.size=q:=⟨_,rfl⟩
    rw [hab] at HA8 Hab Hwa ⊢
    clear hab hg e0 e1 e2 HW7 HBr7
    go_upto_block 0 with fail
    go_cut [] (fun wx => ∃ v:Nat,pkP F want=some v∧VN v∧Blk wx ab 28 (aN v)∧Below w4.heap.size w4 wx)
    case first =>
     as_aux_lemma =>
      clear HFE HPk HKw HLw HLd0 HQ4 HR14 HR24 HB4 hv0
      go_wp2_with fail
      go_loopw [13,70] (fun s13 i wr => ∃ k:Nat,k≤m∧i=.int .i64 (k:Int)∧Hid (∀ (i:Nat) (t:Sp),i < k→F[i]?=some t→t.2 < want)∧Hid (Below w8.heap.size w8 wr)) (fun _ i _ => m - (intOf i).toNat)
      case atStart => exact ⟨0,Nat.zero_le _,rfl,Lib.hid fun i t hi => absurd hi (Nat.not_lt_zero _),Lib.hid (Below.refl _ _)⟩
      case round =>
       obtain ⟨k,hk,rfl,HN,HBl⟩:=hrel
       have HBx:=Lib.hid (HBr8.out.trans (HBl.out.mono HBr8.out.size))
       have HWr:=Lib.hid (HW8.out.below HBl.out HW8.out.lt)
       have HAr:=Lib.hid (HA8.out.below HBl.out HA8.out.lt)
       by_cases hlt:k < m
       ·obtain ⟨x,hx⟩:∃ x,F[k]?=some x:=⟨_,List.getElem?_eq_getElem (by rw [Hm.out];exact hlt)⟩
        have hvx:=HVR.out x (List.mem_of_getElem? hx)
        have HYk:=Lib.hid fun h => HV1.out k x hx h HN.out
        have HN2:Hid (x.2 < want→∀ (i:Nat) (t:Sp),i < k + 1→F[i]?=some t→t.2 < want):=Lib.hid fun h i t hi ht => by
         rcases Nat.lt_or_ge i k with h1 | h1
         ·exact HN.out i t h1 ht
         ·obtain rfl:i=k:=by omega
          rw [hx] at ht
          injection ht with ht
          rw [← ht]
          exact h
        obtain ⟨v1,v2,v3,v4,v5,v6,hcx,hx1,hx2⟩:∃ (v1:Bool) (v2 v3:Nat) (v4:Bool) (v5 v6:Nat),rgC x=[.bool v1, .int .u64 (v2:Int), .int .u64 (v3:Int), .bool v4, .int .u64 (v5:Int), .int .u64 (v6:Int)]∧aN x.1=#[.bool v1, .int .u64 (v2:Int), .int .u64 (v3:Int)]∧aN x.2=#[.bool v4, .int .u64 (v5:Int), .int .u64 (v6:Int)]:=⟨_,_,_,_,_,_,rfl,rfl,rfl⟩
        obtain ⟨g2,o2,had,hg2,e0,e1,e2,e3,e4,e5⟩:=(HF4.out.below HBx.out).rg hx hcx
        injection had with had
        injection had with had1 had2
        subst had1 had2
        have hCm:=Lib.hid fun wx => aCompareN wx hvx.b HVw.out
        have hLt:=Lib.hid fun wx => laterN wx hvx.a HVw.out
        rw [hx2,Hwn.out] at hCm
        rw [hx1,Hwn.out] at hLt
        obtain ⟨z1,z2,z3,hzz⟩:∃ (z1:Bool) (z2 z3:Nat),aN (max x.1 want)=#[.bool z1, .int .u64 (z2:Int), .int .u64 (z3:Int)]:=⟨_,_,_,rfl⟩
        rw [hzz] at hLt
        have HZz:=Lib.hid hzz
        have hVm:Hid (VN (max x.1 want)):=Lib.hid (by
         rcases Nat.le_total x.1 want with h | h
         ·rw [Nat.max_eq_right h];exact HVw.out
         ·rw [Nat.max_eq_left h];exact hvx.a)
        have HXr:Hid (Blk (wr.alloc (.cells #[.bool v1, .int .u64 (v2:Int), .int .u64 (v3:Int), .bool v4, .int .u64 (v5:Int), .int .u64 (v6:Int)] 92 (0,0))) wr.heap.size 92 #[.bool v1, .int .u64 (v2:Int), .int .u64 (v3:Int), .bool v4, .int .u64 (v5:Int), .int .u64 (v6:Int)]):=Lib.hid (Blk.new wr _ _)
        have HB3:Hid (Below w8.heap.size w8 (wr.alloc (.cells #[.bool v1, .int .u64 (v2:Int), .int .u64 (v3:Int), .bool v4, .int .u64 (v5:Int), .int .u64 (v6:Int)] 92 (0,0)))):=Lib.hid (Below.alloc HBl.out HBl.out.size _)
        have HW3:=Lib.hid (HWr.out.alloc (.cells #[.bool v1, .int .u64 (v2:Int), .int .u64 (v3:Int), .bool v4, .int .u64 (v5:Int), .int .u64 (v6:Int)] 92 (0,0)))
        have HA3:=Lib.hid (HAr.out.alloc (.cells #[.bool v1, .int .u64 (v2:Int), .int .u64 (v3:Int), .bool v4, .int .u64 (v5:Int), .int .u64 (v6:Int)] 92 (0,0)))
        have HBx3:Hid (Below w4.heap.size w4 (wr.alloc (.cells #[.bool v1, .int .u64 (v2:Int), .int .u64 (v3:Int), .bool v4, .int .u64 (v5:Int), .int .u64 (v6:Int)] 92 (0,0)))):=Lib.hid (Below.alloc HBx.out HBx.out.size _)
        clear hx hcx hx1 hx2 hzz HN HV1 HV0 HBl HBx HWr HAr
        go_upto_region 16 with fail
        generalize wr.alloc (.cells #[.bool v1, .int .u64 (v2:Int), .int .u64 (v3:Int), .bool v4, .int .u64 (v5:Int), .int .u64 (v6:Int)] 92 (0,0))=w9 at *
        obtain ⟨rb,hrb⟩:∃ q,wr.heap.size=q:=⟨_,rfl⟩
        rw [hrb] at HXr ⊢
        clear hrb e0 e1 e2 e3 e4 e5 hg2
        have d0:=HXr.out.cell 0
        have d1:=HXr.out.cell 1
        have d2:=HXr.out.cell 2
        have d3:=HXr.out.cell 3
        have d4:=HXr.out.cell 4
        have d5:=HXr.out.cell 5
        simp at d0 d1 d2 d3 d4 d5
        have p0:=HW3.out.cell 0
        have p1:=HW3.out.cell 1
        have p2:=HW3.out.cell 2
        simp at p0 p1 p2
        go_wp2_with fail
        refine (hCm.out _).mono ?_
        rintro e wy ⟨rfl,hb⟩
        have HXy:=Lib.hid (HXr.out.below hb HXr.out.lt)
        have HWy:=Lib.hid (HW3.out.below hb HW3.out.lt)
        have HAy:=Lib.hid (HA3.out.below hb HA3.out.lt)
        have HBy:=Lib.hid (HB3.out.trans (hb.mono HB3.out.size))
        have HBxy:=Lib.hid (HBx3.out.trans (hb.mono HBx3.out.size))
        clear hb HXr HW3 HA3 HB3 HBx3 d0 d1 d2 d3 d4 d5 p0 p1 p2 hCm
        obtain ⟨C,hC⟩:∃ C,cN x.2 want=C:=⟨_,rfl⟩
        rw [hC]
        by_cases hge:want≤x.2
        ·have hC0:C ≥ 0:=by rw [← hC];exact (cN_ge_iff _ _).2 hge
         have HE:=Lib.hid (HYk.out hge)
         clear hC HYk HN2
         have d0:=HXy.out.cell 0
         have d1:=HXy.out.cell 1
         have d2:=HXy.out.cell 2
         simp at d0 d1 d2
         have p0:=HWy.out.cell 0
         have p1:=HWy.out.cell 1
         have p2:=HWy.out.cell 2
         simp at p0 p1 p2
         go_wp2_with fail
         refine (hLt.out _).mono ?_
         rintro e wv ⟨rfl,hb⟩
         have HAv:=Lib.hid (HAy.out.below hb HAy.out.lt)
         have HBv:=Lib.hid (HBxy.out.trans (hb.mono HBxy.out.size))
         clear hb HXy HWy HAy HBy HBxy d0 d1 d2 p0 p1 p2 hLt
         have r0:=HAv.out.cell 0
         have r1:=HAv.out.cell 1
         have r2:=HAv.out.cell 2
         simp at r0 r1 r2
         have rf:=HAv.out.free
         have HAw:Hid (Blk (((wv.setCell ⟨ab,0,none⟩ (.bool z1)).setCell ⟨ab,1,none⟩ (.int .u64 (z2:Int))).setCell ⟨ab,2,none⟩ (.int .u64 (z3:Int))) ab 28 #[.bool z1, .int .u64 (z2:Int), .int .u64 (z3:Int)]):=Lib.hid (((HAv.out.set 0 (.bool z1)).set 1 (.int .u64 (z2:Int))).set 2 (.int .u64 (z3:Int)))
         have HBw:Hid (Below w4.heap.size w4 (((wv.setCell ⟨ab,0,none⟩ (.bool z1)).setCell ⟨ab,1,none⟩ (.int .u64 (z2:Int))).setCell ⟨ab,2,none⟩ (.int .u64 (z3:Int)))):=Lib.hid (((HBv.out.setCell Hab.out _).setCell Hab.out _).setCell Hab.out _)
         go_wp2_with fail
         go_meet
         case rel => exact ⟨_,HE.out,hVm.out,by rw [HZz.out];exact HAw.out,HBw.out⟩
        ·have hC0:¬ C ≥ 0:=by rw [← hC];exact fun h => hge ((cN_ge_iff _ _).1 h)
         have hC1:C < 0:=by omega
         have HN3:=Lib.hid (HN2.out (by omega))
         clear hC HYk HN2 hC0
         go_wp2_with fail
         exact ⟨⟨k + 1,by omega,by go_num,HN3,HBy⟩,by simp [intOf];omega⟩
       ·obtain rfl:k=m:=by omega
        have HE:=Lib.hid (HV0.out fun i t ht => HN.out i t (by rw [← Hm.out];exact (List.getElem?_eq_some_iff.1 ht).1) ht)
        clear HN HV1 HV0
        go_wp2_with fail
        go_meet
        case rel => exact ⟨_,HE.out,(HVR.out s0 (List.mem_of_getElem? hs0)).a,by rw [hc0];exact HAr.out,HBx.out⟩
    case rest =>
    obtain ⟨v,hv,hvv,hA,hB⟩:=hcut
    obtain ⟨f1,f2,f3,hf1,hf2⟩:∃ (f1:Bool) (f2 f3:Nat),aN v=#[.bool f1, .int .u64 (f2:Int), .int .u64 (f3:Int)]∧adrN v=(f1,f2,f3,0):=⟨_,_,_,rfl,rfl⟩
    have HE:Hid (o=some (f1,f2,f3,0)):=Lib.hid (by rw [HPk.out,hv];exact congrArg some hf2)
    have HFx:Hid (FE=0):=Lib.hid (by rw [← HFE.out,HE.out];rfl)
    rw [hf1] at hA
    have HAc:=Lib.hid hA
    have HBc:=Lib.hid hB
    have HLd:=Lib.hid fun wx hk hl => HLd0.out (f1,f2,f3,n) wx hk hl
    rw [show (pfC (f1,f2,f3,n)).toArray=#[.bool f1, .int .u64 (f2:Int), .int .u64 (f3:Int), .int .i64 n] from rfl] at HLd
    obtain ⟨LL,hLL⟩:∃ q,leasedL L key (f1,f2,f3,n)=q:=⟨_,rfl⟩
    have HLL:=Lib.hid hLL
    rw [hLL] at HLd
    have HX3:Hid (Blk (wc.alloc (.cells #[.bool f1, .int .u64 (f2:Int), .int .u64 (f3:Int), .int .i64 n] 30 (0,0))) wc.heap.size 30 #[.bool f1, .int .u64 (f2:Int), .int .u64 (f3:Int), .int .i64 n]):=Lib.hid (Blk.new wc _ _)
    have HBd:Hid (Below w4.heap.size w4 (wc.alloc (.cells #[.bool f1, .int .u64 (f2:Int), .int .u64 (f3:Int), .int .i64 n] 30 (0,0)))):=Lib.hid (Below.alloc hB hB.size _)
    have HXb:Hid (pb + 1 + 1 < wc.heap.size):=Lib.hid (by have:=hB.size;have:=HR24.out.lt;omega)
    clear hv hvv hf1 hf2 hA hB hLL HLd0 HPk HFE HF4 HVR HVw Hwn HV0 HV1 HA8 HW8 HBr8 Hab Hwa hs0 hc hc0 hv0 Hst Hsz Hwb Hpv
    have p0:=HAc.out.cell 0
    have p1:=HAc.out.cell 1
    have p2:=HAc.out.cell 2
    simp at p0 p1 p2
    go_upto_region 20 with fail
    generalize wc.alloc (.cells #[.bool f1, .int .u64 (f2:Int), .int .u64 (f3:Int), .int .i64 n] 30 (0,0))=w10 at *
    obtain ⟨xb,hxb⟩:∃ q,wc.heap.size=q:=⟨_,rfl⟩
    rw [hxb] at HX3 HXb ⊢
    clear hxb p0 p1 p2 HAc HBc
    have HQ3:=Lib.hid (HQ4.out.below HBd.out HQ4.out.lt)
    have HR1:=Lib.hid (HR14.out.below HBd.out HR14.out.lt)
    have HR2:=Lib.hid (HR24.out.below HBd.out HR24.out.lt)
    have HB3:=Lib.hid (HB4.out.trans (HBd.out.mono HB4.out.size))
    have Hb2:Hid (pb + 1 + 1 < w10.heap.size):=Lib.hid HR2.out.lt
    clear HQ4 HR14 HR24 HB4 HBd
    have hbs:pb + 1 < w10.heap.size:=HR1.out.lt
    have hC3:lrC w pb xb (pb + 1) #[.bool ps, .int .u64 (ph:Int), .int .u64 (pl:Int), .int .i64 pn, .slice ka kn kc, .slice la ln lc] #[.bool f1, .int .u64 (f2:Int), .int .u64 (f3:Int), .int .i64 n] w10.heap.size (ps,ph,pl,pn) K LL 0 w10:=⟨HB3.out,Nat.le_refl _,HQ3.out,HX3.out,HR2.out,_,HR1.out,rfl,fun h => by cases h⟩
    have HC3:=Lib.hid hC3
    have Hbs:=Lib.hid hbs
    have Hxb:Hid (pb + 1 < xb):=Lib.hid (by have:=HXb.out;omega)
    clear hC3 hbs HB3 HQ3 HX3 HR1 HR2
    refine Lm.wp_region_lim 6 1 (lrR #[.bool ps, .int .u64 (ph:Int), .int .u64 (pl:Int), .int .i64 pn, .slice ka kn kc, .slice la ln lc] #[.bool f1, .int .u64 (f2:Int), .int .u64 (f3:Int), .int .i64 n] (.string (strL key)) w10.heap.size (ps,ph,pl,pn) K LL) (lrC w pb xb (pb + 1) #[.bool ps, .int .u64 (ph:Int), .int .u64 (pl:Int), .int .i64 pn, .slice ka kn kc, .slice la ln lc] #[.bool f1, .int .u64 (f2:Int), .int .u64 (f3:Int), .int .i64 n] w10.heap.size (ps,ph,pl,pn) K LL) (lrS (pb + 1)) (fun i => if i=5 then 1 else 0) (fun i => if i=4 then 1 else 0)
     (by kernel_rfl) (by kernel_rfl) (by decide) (by kernel_rfl) (lrR_keep Hbs.out) (lrC.later HC3.out (below_drew (Below.refl _ _))) ?hX
    case' hX => (apply Exists.intro;refine ⟨fun T => ?hA,?hob,?hend⟩)
    case hA =>
     simp only [setAll,List.take_succ_cons,List.take_zero,Act.put,List.setIfInBounds_toArray,List.set_cons_succ,List.set_cons_zero,Nat.reduceAdd]
     exact rfl
    case hob =>
     clear HE
     go_light
     refine ⟨?_,?_,?_,?_,?_,?_,trivial⟩
     all_goals (intro T wx n0 hC hn hp;dsimp only at hn ⊢)
     ·have hn1:n0≤1:=by simp at hn;omega
      have hS:lrS (pb + 1) n0 wx n0 wx:=⟨Nat.le_refl _,hn1,KeepX.refl _ _⟩
      have q:=hC.2.2.1
      have e0:=q.cell 0
      have e1:=q.cell 1
      have e2:=q.cell 2
      have e3:=q.cell 3
      have e4:=q.cell 4
      have e5:=q.cell 5
      simp at e0 e1 e2 e3 e4 e5
      clear q
      unfold Op1
      go_simp
      first | exact ⟨rfl,hC,hS⟩ | exact ⟨rfl,hS⟩ | exact ⟨hC,hS⟩ | exact rfl | exact hS
     ·have hn1:n0≤1:=by simp at hn;omega
      have hS:lrS (pb + 1) n0 wx n0 wx:=⟨Nat.le_refl _,hn1,KeepX.refl _ _⟩
      unfold Op1
      go_simp
      first | exact ⟨rfl,hC,hS⟩ | exact ⟨rfl,hS⟩ | exact ⟨hC,hS⟩ | exact rfl | exact hS
     ·have hn1:n0≤1:=by simp at hn;omega
      have hS:lrS (pb + 1) n0 wx n0 wx:=⟨Nat.le_refl _,hn1,KeepX.refl _ _⟩
      have q:=hC.2.2.2.1
      have e0:=q.cell 0
      have e1:=q.cell 1
      have e2:=q.cell 2
      have e3:=q.cell 3
      simp at e0 e1 e2 e3
      clear q
      unfold Op1
      go_simp
      first | exact ⟨rfl,hC,hS⟩ | exact ⟨rfl,hS⟩ | exact ⟨hC,hS⟩ | exact rfl | exact hS
     ·have hn1:n0≤1:=by simp at hn;omega
      obtain ⟨h0,h1,h2, -⟩:=hp
      have h0:T 0=.agg #[.bool ps, .int .u64 (ph:Int), .int .u64 (pl:Int), .int .i64 pn, .slice ka kn kc, .slice la ln lc]:=h0
      have h1:T 1=.string (strL key):=h1
      have h2:T 2=.agg #[.bool f1, .int .u64 (f2:Int), .int .u64 (f3:Int), .int .i64 n]:=h2
      unfold Op1
      go_simp
      refine (HLd.out wx (HKw.out.below hC.1) (HLw.out.below hC.1)).mono ?_
      rintro e w5 ⟨v,rfl,hV,hb⟩
      exact ⟨_,rfl,hV.weak hC.2.1,hC.later hb,Nat.le_refl _,hn1,KeepX.of_below hb⟩
     ·have hn1:n0≤1:=by simp at hn;omega
      have hS:lrS (pb + 1) n0 wx n0 wx:=⟨Nat.le_refl _,hn1,KeepX.refl _ _⟩
      have q:=hC.2.2.2.1
      have e0:=q.cell 0
      have e1:=q.cell 1
      have e2:=q.cell 2
      have e3:=q.cell 3
      simp at e0 e1 e2 e3
      clear q
      unfold Op1
      go_simp
      first | exact ⟨rfl,hC,hS⟩ | exact ⟨rfl,hS⟩ | exact ⟨hC,hS⟩ | exact rfl | exact hS
     ·obtain rfl:n0=0:=by simpa using hn
      obtain ⟨h3, -⟩:=hp
      have h3:PoolV wx w10.heap.size (T 3) (ps,ph,pl,pn) K LL:=h3
      obtain ⟨a1,c1,a2,c2,e,q1,q2⟩:=h3
      have hV:PoolV wx w10.heap.size (.agg #[.bool ps, .int .u64 (ph:Int), .int .u64 (pl:Int), .int .i64 pn, .slice a1 K.length c1, .slice a2 LL.length c2]) (ps,ph,pl,pn) K LL:=⟨a1,c1,a2,c2,rfl,q1,q2⟩
      obtain ⟨cs,hb1,hsz, -⟩:=hC.2.2.2.2.2
      refine Op1.store_rowQ 34 (.tmp 4) (.tmp 90) rfl (pb + 1) #[.bool ps, .int .u64 (ph:Int), .int .u64 (pl:Int), .int .i64 pn, .slice a1 K.length c1, .slice a2 LL.length c2] rfl e 34 cs hb1 size_pool hsz (all_pool ps ph pl pn a1 a2 K.length c1 LL.length c2) ?_
      exact ⟨rfl,hC.store _ rfl hV Hbs.out (by have:=Hpw.out;omega) (by omega) (by have:=Hxb.out;omega),by simp,by simp,KeepX.setRow _ _ _⟩
    case hend =>
     intro T w4 ⟨n0,hn0,hC,hR⟩
     have h5:n0=1:=hR 5 (by omega)
     subst h5
     have hT4:T 4=.agg #[.bool f1, .int .u64 (f2:Int), .int .u64 (f3:Int), .int .i64 n]:=hR 4 (by omega)
     obtain ⟨hB4,hbs4, -, -,hR24,cs,hR14, -,hV⟩:=hC
     obtain ⟨a1,c1,a2,c2,e,q1,q2⟩:=hV rfl
     injection e with e
     subst e
     have HR1:Hid (Blk w4 (pb + 1) 34 #[.bool ps, .int .u64 (ph:Int), .int .u64 (pl:Int), .int .i64 pn, .slice a1 K.length c1, .slice a2 LL.length c2]):=Lib.hid hR14
     have HR2:=Lib.hid hR24
     have HB:=Lib.hid hB4
     have HOK:=Lib.hid q1
     have HOL:=Lib.hid q2
     clear hR hV q1 q2 hR14 hR24 hB4 hbs4 HC3 HLd
     simp only [List.drop_succ_cons,List.drop_zero]
     rw [hT4]
     have c4:=HR2.out.set4w (x':=.bool f1) (y':=.int .u64 (f2:Int)) (z':=.int .u64 (f3:Int)) (u':=.int .i64 n)
     have c6:=HR1.out.far4w (show pb + 1 ≠ pb + 1 + 1 by omega) (x':=.bool f1) (y':=.int .u64 (f2:Int)) (z':=.int .u64 (f3:Int)) (u':=.int .i64 n)
     have z0:=c6.cell 0
     have z1:=c6.cell 1
     have z2:=c6.cell 2
     have z3:=c6.cell 3
     have z4:=c6.cell 4
     have z5:=c6.cell 5
     have y0:=c4.cell 0
     have y1:=c4.cell 1
     have y2:=c4.cell 2
     have y3:=c4.cell 3
     simp at z0 z1 z2 z3 z4 z5 y0 y1 y2 y3
     clear c4 c6
     have r0:=HR2.out.cell 0
     have r1:=HR2.out.cell 1
     have r2:=HR2.out.cell 2
     have r3:=HR2.out.cell 3
     simp at r0 r1 r2 r3
     have rf:=HR2.out.free
     have HBf:Hid (Below w.heap.size w ((((w4.setCell ⟨pb + 1 + 1,0,none⟩ (.bool f1)).setCell ⟨pb + 1 + 1,1,none⟩ (.int .u64 (f2:Int))).setCell ⟨pb + 1 + 1,2,none⟩ (.int .u64 (f3:Int))).setCell ⟨pb + 1 + 1,3,none⟩ (.int .i64 n))):=Lib.hid (HB.out.grown (grown_setCells (pb + 1 + 1) [.bool f1, .int .u64 (f2:Int), .int .u64 (f3:Int), .int .i64 n] 0 w4) HB.out.size (fun j hj => by injection hj with hj;have:=Hpw.out;omega))
     have HVf:Hid (PoolV ((((w4.setCell ⟨pb + 1 + 1,0,none⟩ (.bool f1)).setCell ⟨pb + 1 + 1,1,none⟩ (.int .u64 (f2:Int))).setCell ⟨pb + 1 + 1,2,none⟩ (.int .u64 (f3:Int))).setCell ⟨pb + 1 + 1,3,none⟩ (.int .i64 n)) w.heap.size (.agg #[.bool ps, .int .u64 (ph:Int), .int .u64 (pl:Int), .int .i64 pn, .slice a1 K.length c1, .slice a2 LL.length c2]) (ps,ph,pl,pn) K LL):=Lib.hid (PoolV.weak ⟨a1,c1,a2,c2,rfl,HOK.out.farC (show pb + 1 + 1 < w10.heap.size by have:=Hb2.out;omega) 0 [.bool f1, .int .u64 (f2:Int), .int .u64 (f3:Int), .int .i64 n],HOL.out.farC (show pb + 1 + 1 < w10.heap.size by have:=Hb2.out;omega) 0 [.bool f1, .int .u64 (f2:Int), .int .u64 (f3:Int), .int .i64 n]⟩ (show w.heap.size≤w10.heap.size by have:=Hbs.out;have:=Hpw.out;omega))
     go_wp2_with fail
     refine bodyPost_ret (v:=.tuple #[.agg #[.bool ps, .int .u64 (ph:Int), .int .u64 (pl:Int), .int .i64 pn, .slice a1 K.length c1, .slice a2 LL.length c2], .agg #[.bool f1, .int .u64 (f2:Int), .int .u64 (f3:Int), .int .i64 n], .int .i64 0]) (by simp [results,Tryz.results23,go_sem, *]) rfl ⟨_,by rw [HE.out,HFx.out] <;> rfl,by rw [HE.out];show PoolV _ _ _ (ps,ph,pl,pn) K (leasedL L key (f1,f2,f3,n));rw [HLL.out];exact HVf.out,HBf.out⟩
 ·have hO:pickO P K L key=none∧pickF P K L key=keyF P K L key:=by
   unfold pickO pickF
   rw [if_pos h0,if_pos h0]
   exact ⟨rfl,rfl⟩
  rw [hO.1,hO.2]
  clear hO huP huK huL hkn hln hky
  obtain ⟨KF,hKF⟩:∃ q,keyF P K L key=q:=⟨_,rfl⟩
  rw [hKF] at HKy h0 ⊢
  clear hKF hlp
  generalize ((lenN P.1:Nat):Int)=n
  obtain ⟨ps,ph,pl,pn⟩:=P
  rw [show (plC (ps,ph,pl,pn) (.slice ka kn kc) (.slice la ln lc)).toArray=#[.bool ps, .int .u64 (ph:Int), .int .u64 (pl:Int), .int .i64 pn, .slice ka kn kc, .slice la ln lc] from rfl] at *
  have hB01:Below w.heap.size w (((w.alloc (.cells #[.bool ps, .int .u64 (ph:Int), .int .u64 (pl:Int), .int .i64 pn, .slice ka kn kc, .slice la ln lc] 34 (0,0))).alloc (.cells #[.bool false, .int .u64 0, .int .u64 0, .int .i64 0, .slice none 0 0, .slice none 0 0] 34 (0,0))).alloc (.cells #[.bool false, .int .u64 0, .int .u64 0, .int .i64 0] 30 (0,0))):=below_alloc (below_alloc (below_alloc (Below.refl _ _) _) _) _
  have HB01:=Lib.hid hB01
  have HKw:=Lib.hid hK
  have HLw:=Lib.hid hL
  have HQ0:Hid (Blk (((w.alloc (.cells #[.bool ps, .int .u64 (ph:Int), .int .u64 (pl:Int), .int .i64 pn, .slice ka kn kc, .slice la ln lc] 34 (0,0))).alloc (.cells #[.bool false, .int .u64 0, .int .u64 0, .int .i64 0, .slice none 0 0, .slice none 0 0] 34 (0,0))).alloc (.cells #[.bool false, .int .u64 0, .int .u64 0, .int .i64 0] 30 (0,0))) w.heap.size 34 #[.bool ps, .int .u64 (ph:Int), .int .u64 (pl:Int), .int .i64 pn, .slice ka kn kc, .slice la ln lc]):=Lib.hid (((Blk.new w _ _).alloc _).alloc _)
  have HR1:Hid (Blk (((w.alloc (.cells #[.bool ps, .int .u64 (ph:Int), .int .u64 (pl:Int), .int .i64 pn, .slice ka kn kc, .slice la ln lc] 34 (0,0))).alloc (.cells #[.bool false, .int .u64 0, .int .u64 0, .int .i64 0, .slice none 0 0, .slice none 0 0] 34 (0,0))).alloc (.cells #[.bool false, .int .u64 0, .int .u64 0, .int .i64 0] 30 (0,0))) (w.heap.size + 1) 34 #[.bool false, .int .u64 0, .int .u64 0, .int .i64 0, .slice none 0 0, .slice none 0 0]):=Lib.hid (by
   have this:=(Blk.new (w.alloc (.cells #[.bool ps, .int .u64 (ph:Int), .int .u64 (pl:Int), .int .i64 pn, .slice ka kn kc, .slice la ln lc] 34 (0,0))) 34 #[.bool false, .int .u64 0, .int .u64 0, .int .i64 0, .slice none 0 0, .slice none 0 0]).alloc (.cells #[.bool false, .int .u64 0, .int .u64 0, .int .i64 0] 30 (0,0))
   rw [World.size_alloc] at this
   exact this)
  have HR2:Hid (Blk (((w.alloc (.cells #[.bool ps, .int .u64 (ph:Int), .int .u64 (pl:Int), .int .i64 pn, .slice ka kn kc, .slice la ln lc] 34 (0,0))).alloc (.cells #[.bool false, .int .u64 0, .int .u64 0, .int .i64 0, .slice none 0 0, .slice none 0 0] 34 (0,0))).alloc (.cells #[.bool false, .int .u64 0, .int .u64 0, .int .i64 0] 30 (0,0))) (w.heap.size + 1 + 1) 30 #[.bool false, .int .u64 0, .int .u64 0, .int .i64 0]):=Lib.hid (by
   have this:=Blk.new ((w.alloc (.cells #[.bool ps, .int .u64 (ph:Int), .int .u64 (pl:Int), .int .i64 pn, .slice ka kn kc, .slice la ln lc] 34 (0,0))).alloc (.cells #[.bool false, .int .u64 0, .int .u64 0, .int .i64 0, .slice none 0 0, .slice none 0 0] 34 (0,0))) 30 #[.bool false, .int .u64 0, .int .u64 0, .int .i64 0]
   rw [World.size_alloc,World.size_alloc] at this
   exact this)
  clear hK hL hB01
  go_enter Tryz.func23,Tryz.ntmps23
  go_upto_region 1 with fail
  generalize (((w.alloc (.cells #[.bool ps, .int .u64 (ph:Int), .int .u64 (pl:Int), .int .i64 pn, .slice ka kn kc, .slice la ln lc] 34 (0,0))).alloc (.cells #[.bool false, .int .u64 0, .int .u64 0, .int .i64 0, .slice none 0 0, .slice none 0 0] 34 (0,0))).alloc (.cells #[.bool false, .int .u64 0, .int .u64 0, .int .i64 0] 30 (0,0)))=w1 at *
  obtain ⟨pb,hpb⟩:∃ q,w.heap.size=q:=⟨_,rfl⟩
  have Hpw:Hid (w.heap.size≤pb):=Lib.hid (by omega)
  rw [hpb] at HQ0 HR1 HR2 ⊢
  clear hpb
  have p0:=HQ0.out.cell 0
  have p1:=HQ0.out.cell 1
  have p2:=HQ0.out.cell 2
  have p3:=HQ0.out.cell 3
  have p4:=HQ0.out.cell 4
  have p5:=HQ0.out.cell 5
  simp at p0 p1 p2 p3 p4 p5
  go_wp2_with fail
  refine (HKy.out _ (HKw.out.below HB01.out) (HLw.out.below HB01.out)).mono ?_
  rintro e w2 ⟨rfl,hb⟩
  have HQ2:=Lib.hid (HQ0.out.below hb HQ0.out.lt)
  have HR12:=Lib.hid (HR1.out.below hb HR1.out.lt)
  have HR22:=Lib.hid (HR2.out.below hb HR2.out.lt)
  have HB:=Lib.hid (HB01.out.trans (hb.mono HB01.out.size))
  clear hb HKy p0 p1 p2 p3 p4 p5 HQ0 HR1 HR2
  have hF2:(KF != 0)=true:=by simpa using h0
  have HR1:=HR12
  have HR2:=HR22
  clear h0 HR12 HR22 HQ2
  have c6:=HR1.out.set6w (x1':=.bool false) (x2':=.int .u64 0) (x3':=.int .u64 0) (x4':=.int .i64 0) (x5':=.slice none 0 0) (x6':=.slice none 0 0)
  have c6b:=HR2.out.far6w (show pb + 1 + 1 ≠ pb + 1 by omega) (x1':=.bool false) (x2':=.int .u64 0) (x3':=.int .u64 0) (x4':=.int .i64 0) (x5':=.slice none 0 0) (x6':=.slice none 0 0)
  have c4:=c6b.set4w (x':=.bool false) (y':=.int .u64 0) (z':=.int .u64 0) (u':=.int .i64 0)
  have c6c:=c6.far4w (show pb + 1 ≠ pb + 1 + 1 by omega) (x':=.bool false) (y':=.int .u64 0) (z':=.int .u64 0) (u':=.int .i64 0)
  have b0:=c6b.cell 0
  have b1:=c6b.cell 1
  have b2:=c6b.cell 2
  have b3:=c6b.cell 3
  have bf:=c6b.free
  have z0:=c6c.cell 0
  have z1:=c6c.cell 1
  have z2:=c6c.cell 2
  have z3:=c6c.cell 3
  have z4:=c6c.cell 4
  have z5:=c6c.cell 5
  have y0:=c4.cell 0
  have y1:=c4.cell 1
  have y2:=c4.cell 2
  have y3:=c4.cell 3
  simp at b0 b1 b2 b3 z0 z1 z2 z3 z4 z5 y0 y1 y2 y3
  clear c6 c6b c4 c6c
  have r0:=HR1.out.cell 0
  have r1:=HR1.out.cell 1
  have r2:=HR1.out.cell 2
  have r3:=HR1.out.cell 3
  have r4:=HR1.out.cell 4
  have r5:=HR1.out.cell 5
  simp at r0 r1 r2 r3 r4 r5
  have rf:=HR1.out.free
  have HBf:Hid (Below w.heap.size w ((((((((((w2.setCell ⟨pb + 1,0,none⟩ (.bool false)).setCell ⟨pb + 1,1,none⟩ (.int .u64 0)).setCell ⟨pb + 1,2,none⟩ (.int .u64 0)).setCell ⟨pb + 1,3,none⟩ (.int .i64 0)).setCell ⟨pb + 1,4,none⟩ (.slice none 0 0)).setCell ⟨pb + 1,5,none⟩ (.slice none 0 0)).setCell ⟨pb + 1 + 1,0,none⟩ (.bool false)).setCell ⟨pb + 1 + 1,1,none⟩ (.int .u64 0)).setCell ⟨pb + 1 + 1,2,none⟩ (.int .u64 0)).setCell ⟨pb + 1 + 1,3,none⟩ (.int .i64 0))):=Lib.hid ((HB.out.grown (grown_setCells (pb + 1) [.bool false, .int .u64 0, .int .u64 0, .int .i64 0, .slice none 0 0, .slice none 0 0] 0 w2) HB.out.size (fun j hj => by injection hj with hj;have:=Hpw.out;omega)).grown (grown_setCells (pb + 1 + 1) [.bool false, .int .u64 0, .int .u64 0, .int .i64 0] 0 ((((((w2.setCell ⟨pb + 1,0,none⟩ (.bool false)).setCell ⟨pb + 1,1,none⟩ (.int .u64 0)).setCell ⟨pb + 1,2,none⟩ (.int .u64 0)).setCell ⟨pb + 1,3,none⟩ (.int .i64 0)).setCell ⟨pb + 1,4,none⟩ (.slice none 0 0)).setCell ⟨pb + 1,5,none⟩ (.slice none 0 0))) (Nat.le_trans HB.out.size (by rw [size_setCellsR];exact Nat.le_refl _)) (fun j hj => by injection hj with hj;have:=Hpw.out;omega))
  go_wp2_with fail
  refine bodyPost_ret (v:=.tuple #[.agg #[.bool false, .int .u64 0, .int .u64 0, .int .i64 0, .slice none 0 0, .slice none 0 0], .agg #[.bool false, .int .u64 0, .int .u64 0, .int .i64 0], .int .i64 KF]) (by simp [results,Tryz.results23,go_sem, *]) rfl ⟨_,rfl,poolV_zero _ _,HBf.out⟩
end Go.Proofs.YteldaicgaeooiaaGreatDoor
