/-
  Rows of entries of tables: how they lie; CheckTable and TableFault.
  How many prefixes what is joined of small sets has.
  Plain law of pools: the fault of a pool, what is free, the lease that is taken (the first one that fits, or the best one), as program and reference find it.
  Inside and Within of prefixes without a fault; meet and touch.
  Rows of leases: how they lie.
  meet and touch; the closures of CheckPool, PoolFault, keyFault and KeyFault.
  Rows of structs whose cells are set many at once.
  Functions of package slices at a row of structs.
-/
import Derived.Test.YteldaicgaeooiaaGreatDoorPK9
import Derived.Test.YteldaicgaeooiaaGreatDoorPK8
import Derived.Test.YteldaicgaeooiaaGreatDoorPK4
import Derived.Test.YteldaicgaeooiaaGreatDoorPK5
import Derived.Deep.MidRow
import Derived.WalkSpells
set_option linter.unusedVariables false
set_option maxRecDepth 100000
set_option maxHeartbeats 4000000
namespace Go.Proofs.YteldaicgaeooiaaGreatDoor
open Go.RowKit Go
theorem keyB_ne {k:List UInt8} (h:keyB k=true):k ≠ []:=fun e => by
 subst e
 revert h
 decide
-- walks
theorem pfs_allB (S:List Sp):(pfs S).length=(allB S).length:=by unfold pfs;rw [List.length_map]
theorem sps_pfx {L:List Pf} (hv:∀ p ∈ L,OkPf p):∀ p ∈ L.map spP, ∃ j,PfxSp p j:=fun p hp => by
 obtain ⟨q,hq,rfl⟩:=List.mem_map.1 hp
 exact ⟨_,(hv q hq).sp⟩
def whole:List Sp:=[(0,2 ^ 32 - 1),(2 ^ 128,2 ^ 129 - 1)]
theorem whole_pfx:∀ p ∈ whole, ∃ j,PfxSp p j:=fun p hp => by
 unfold whole at hp
 simp only [List.mem_cons,List.not_mem_nil,or_false] at hp
 rcases hp with rfl | rfl
 ·exact ⟨32,by decide,⟨0,by decide⟩,by decide⟩
 ·exact ⟨128,by decide,⟨1,by decide⟩,by decide⟩
theorem inS_whole (x:Nat):InS whole x ↔ VN x:=by
 unfold whole VN
 rw [inS_cons,inS_cons]
 simp only [inS_nil,or_false]
 have e1:(2:Nat) ^ 32=4294967296:=by decide
 have e2:(2:Nat) ^ 128=340282366920938463463374607431768211456:=by decide
 have e3:(2:Nat) ^ 129=680564733841876926926749214863536422912:=by decide
 rw [e1,e2,e3]
 omega
theorem without_len {X Y:List Pf} (hx:∀ p ∈ X,OkPf p) (hy:∀ p ∈ Y,OkPf p):(pfs (jn (both (spn X) (gaps (spn Y))))).length≤2 * X.length + 128 * Y.length + 2:=by
 have g:=gaps_ok (spn_can hy) (spn_vr hy)
 obtain ⟨h1,h2,h3⟩:=both_ok (spn_can hx) g.1 (spn_vr hx) g.2.2
 have:=cover_len h1 h3 (A:=X.map spP) (C:=X.map spP) (B:=Y.map spP) (sps_pfx hx) (sps_pfx hx) (sps_pfx hy) (fun x => by
  rw [h2,g.2.1, ← inS_spn hx, ← inS_spn hy]
  constructor
  ·rintro ⟨a,b,c⟩;exact ⟨a,a,c⟩
  ·rintro ⟨a,b,c⟩;exact ⟨a,vr_vn (spn_vr hx) a,c⟩)
 rw [List.length_map,List.length_map] at this
 rw [pfs_allB]
 omega
theorem rest_len {X:List Pf} (hx:∀ p ∈ X,OkPf p):(pfs (gaps (spn X))).length≤128 * X.length + 6:=by
 have g:=gaps_ok (spn_can hx) (spn_vr hx)
 have:=cover_len g.1 g.2.2 (A:=whole) (C:=whole) (B:=X.map spP) whole_pfx whole_pfx (sps_pfx hx) (fun x => by
  rw [g.2.1,inS_whole, ← inS_spn hx]
  constructor
  ·rintro ⟨a,b⟩;exact ⟨a,a,b⟩
  ·rintro ⟨a,_,b⟩;exact ⟨a,b⟩)
 rw [List.length_map] at this
 rw [pfs_allB]
 have hw:whole.length=2:=rfl
 omega
theorem gaps_gaps {S:List Sp} (hc:Can S) (hv:∀ p ∈ S,VR p):gaps (gaps S)=S:=by
 have g:=gaps_ok hc hv
 have g2:=gaps_ok g.1 g.2.2
 refine can_unique g2.1 hc fun x => ?_
 rw [g2.2.1,g.2.1]
 constructor
 ·rintro ⟨a,b⟩
  exact Classical.byContradiction fun h => b ⟨a,h⟩
 ·intro h
  exact ⟨vr_vn hv h,fun h2 => h2.2 h⟩
theorem rest2_len {X:List Pf} (hx:∀ p ∈ X,OkPf p):(restR (restR X)).length≤X.length:=by
 have e:restR (restR X)=lst X:=by
  show pfs (gaps (spn (restR X)))=pfs (spn X)
  rw [spn_restR hx,gaps_gaps (spn_can hx) (spn_vr hx)]
 rw [e]
 exact lst_len hx
open Go.RowKit Go Go.Sort
abbrev Ls:=List UInt8 × Pf
def zLs:Ls:=([],zPf)
def insP (p q:Pf):Bool:=decide (q.2.2.2≤p.2.2.2) && inP q (nuP p)
def meetP (p q:Pf):Bool:=insP p q || insP q p
def strLe (a b:List UInt8):Bool:=Op.bytesLess a b || a == b
def kAt (P:Pf) (K:List Pf) (i:Nat):Int:=if pfF (K.getD i zPf) ≠ 0 then pfF (K.getD i zPf) else if insP (K.getD i zPf) P=false then 16 else 0
def lastK (L:List Ls) (i:Nat):List UInt8:=if i=0 then [] else (L.getD (i - 1) zLs).1
def lsF (P:Pf) (x:Ls) (lk:List UInt8):Int :=
 if keyB x.1=false then 5 else if pfF x.2 ≠ 0 then pfF x.2 else if insP x.2 P=false then 16 else if P.2.2.2 + 20 < x.2.2.2.2 then 1 else if strLe x.1 lk=true then 7 else 0
def lAt (P:Pf) (L:List Ls) (i:Nat):Int:=lsF P (L.getD i zLs) (lastK L i)
def cAt (K:List Pf) (L:List Ls) (i:Nat):Int:=if (K.any fun k => meetP k (L.getD i zLs).2)=true ∨ ((L.take i).any fun o => meetP o.2 (L.getD i zLs).2)=true then 13 else 0
def poolF (P:Pf) (K:List Pf) (L:List Ls):Int :=
 if pfF P ≠ 0 then pfF P else if firstN (kAt P K) K.length ≠ 0 then firstN (kAt P K) K.length else if firstN (lAt P L) L.length ≠ 0 then firstN (lAt P L) L.length else firstN (cAt K L) L.length
theorem poolF_p {P:Pf} {K:List Pf} {L:List Ls} (h:pfF P ≠ 0):poolF P K L=pfF P:=by unfold poolF;rw [if_pos h]
theorem poolF_k {P:Pf} {K:List Pf} {L:List Ls} (h0:pfF P=0) (k:Nat) (hk:k < K.length) (h1:∀ j,j < k→kAt P K j=0) (h2:kAt P K k ≠ 0):poolF P K L=kAt P K k:=by
 have e:=firstN_hit (kAt P K) K.length k hk h1 h2
 unfold poolF
 rw [if_neg (by rw [h0];decide),e,if_pos h2]
theorem poolF_l {P:Pf} {K:List Pf} {L:List Ls} (h0:pfF P=0) (hK:∀ j,j < K.length→kAt P K j=0) (k:Nat) (hk:k < L.length) (h1:∀ j,j < k→lAt P L j=0) (h2:lAt P L k ≠ 0):poolF P K L=lAt P L k:=by
 have e:=firstN_hit (lAt P L) L.length k hk h1 h2
 unfold poolF
 rw [if_neg (by rw [h0];decide),firstN_none _ _ hK,if_neg (by decide),e,if_pos h2]
theorem poolF_c {P:Pf} {K:List Pf} {L:List Ls} (h0:pfF P=0) (hK:∀ j,j < K.length→kAt P K j=0) (hL:∀ j,j < L.length→lAt P L j=0) (k:Nat) (hk:k < L.length) (h1:∀ j,j < k→cAt K L j=0) (h2:cAt K L k ≠ 0):poolF P K L=cAt K L k:=by
 have e:=firstN_hit (cAt K L) L.length k hk h1 h2
 unfold poolF
 rw [if_neg (by rw [h0];decide),firstN_none _ _ hK,if_neg (by decide),firstN_none _ _ hL,if_neg (by decide),e]
theorem poolF_z {P:Pf} {K:List Pf} {L:List Ls} (h0:pfF P=0) (hK:∀ j,j < K.length→kAt P K j=0) (hL:∀ j,j < L.length→lAt P L j=0) (hC:∀ j,j < L.length→cAt K L j=0):poolF P K L=0:=by
 unfold poolF
 rw [if_neg (by rw [h0];decide),firstN_none _ _ hK,if_neg (by decide),firstN_none _ _ hL,if_neg (by decide),firstN_none _ _ hC]
theorem lastK_succ {L:List Ls} {k:Nat} {x:Ls} (h:L[k]?=some x):lastK L (k + 1)=x.1:=by
 unfold lastK
 rw [if_neg (by omega),Nat.add_sub_cancel]
 simp [List.getD,h]
theorem RdK.takeN {α:Type} {E:Lay α} {w:World} {ad:Option Addr} {L:List α} (h:RdK E w ad L) (k:Nat):RdK E w ad (L.take k):=fun i x hx => h i x (by
 rw [List.getElem?_take] at hx
 by_cases hi:i < k
 ·rw [if_pos hi] at hx;exact hx
 ·rw [if_neg hi] at hx;cases hx)
def takenL (K:List Pf) (L:List Ls):List Pf:=K ++ L.map (·.2)
def freeS (P:Pf) (K:List Pf) (L:List Ls):List Sp:=jn (both (spn [P]) (gaps (spn (takenL K L))))
def freeL (P:Pf) (K:List Pf) (L:List Ls):List Pf:=pfs (freeS P K L)
def UL (L:List Ls):Prop:=∀ x ∈ L,u2P x.2∧x.1.length≤1000
theorem strL_ls (L:List UInt8):(strL L).toList=L:=by rw [ByteArray.toList_eq];rfl
theorem strLe_nil {a:List UInt8} (h:a ≠ []):strLe a []=false:=by
 cases a with
 | nil => exact absurd rfl h
 | cons x a => rfl
theorem lsF_ok {P:Pf} {x:Ls} {lk:List UInt8} (h:lsF P x lk=0) (hu:u2P x.2):OkPf x.2∧keyB x.1=true∧insP x.2 P=true:=by
 unfold lsF at h
 by_cases h0:keyB x.1=false
 ·rw [if_pos h0] at h;cases h
 ·rw [if_neg h0] at h
  by_cases h1:pfF x.2 ≠ 0
  ·rw [if_pos h1] at h;exact absurd h h1
  ·rw [if_neg h1] at h
   by_cases h2:insP x.2 P=false
   ·rw [if_pos h2] at h;cases h
   ·exact ⟨okPf_of (Decidable.not_not.1 h1) hu.1 hu.2,by simpa using h0,by simpa using h2⟩
theorem kAt_ok {P:Pf} {K:List Pf} (hK:∀ i,i < K.length→kAt P K i=0) (hu:U4 K):∀ p ∈ K,OkPf p:=fun p hp => by
 obtain ⟨i,hi,rfl⟩:=List.getElem_of_mem hp
 have h:=hK i hi
 unfold kAt at h
 simp only [List.getD,List.getElem?_eq_getElem hi,Option.getD_some] at h
 by_cases h1:pfF K[i] ≠ 0
 ·rw [if_pos h1] at h;exact absurd h h1
 ·obtain ⟨u1,u2⟩:=hu _ (List.getElem_mem hi)
  exact okPf_of (Decidable.not_not.1 h1) u1 u2
theorem lAt_ok {P:Pf} {L:List Ls} (hL:∀ i,i < L.length→lAt P L i=0) (hu:UL L):∀ x ∈ L,OkPf x.2∧keyB x.1=true:=fun x hx => by
 obtain ⟨i,hi,rfl⟩:=List.getElem_of_mem hx
 have h:=hL i hi
 unfold lAt at h
 simp only [List.getD,List.getElem?_eq_getElem hi,Option.getD_some] at h
 obtain ⟨a,b,_⟩:=lsF_ok h (hu _ (List.getElem_mem hi)).1
 exact ⟨a,b⟩
theorem poolF_zero {P:Pf} {K:List Pf} {L:List Ls} (h:poolF P K L=0):pfF P=0∧(∀ i,i < K.length→kAt P K i=0)∧(∀ i,i < L.length→lAt P L i=0)∧∀ i,i < L.length→cAt K L i=0:=by
 unfold poolF at h
 by_cases h1:pfF P ≠ 0
 ·rw [if_pos h1] at h;exact absurd h h1
 ·rw [if_neg h1] at h
  by_cases h2:firstN (kAt P K) K.length ≠ 0
  ·rw [if_pos h2] at h;exact absurd h h2
  ·rw [if_neg h2] at h
   by_cases h3:firstN (lAt P L) L.length ≠ 0
   ·rw [if_pos h3] at h;exact absurd h h3
   ·rw [if_neg h3] at h
    exact ⟨Decidable.not_not.1 h1,firstN_zero (Decidable.not_not.1 h2),firstN_zero (Decidable.not_not.1 h3),firstN_zero h⟩
theorem poolF_ok {P:Pf} {K:List Pf} {L:List Ls} (h:poolF P K L=0) (hP:u2P P) (hK:U4 K) (hL:UL L):OkPf P∧(∀ p ∈ K,OkPf p)∧(∀ x ∈ L,OkPf x.2∧keyB x.1=true)∧∀ p ∈ takenL K L,OkPf p:=by
 obtain ⟨h1,h2,h3,_⟩:=poolF_zero h
 refine ⟨okPf_of h1 hP.1 hP.2,kAt_ok h2 hK,lAt_ok h3 hL,fun p hp => ?_⟩
 rcases List.mem_append.1 hp with hp | hp
 ·exact kAt_ok h2 hK p hp
 ·obtain ⟨x,hx,rfl⟩:=List.mem_map.1 hp
  exact (lAt_ok h3 hL x hx).1
theorem free_eq {P:Pf} {K:List Pf} {L:List Ls} (hP:OkPf P) (hT:∀ p ∈ takenL K L,OkPf p):withoutR [P] (lst (takenL K L))=freeL P K L:=by
 have hP1:∀ p ∈ [P],OkPf p:=fun p hp => by rw [List.mem_singleton.1 hp];exact hP
 rw [without_eq hP1 (ok_lst hT),spn_lst hT]
 rfl
theorem free_len {P:Pf} {K:List Pf} {L:List Ls} (hP:OkPf P) (hT:∀ p ∈ takenL K L,OkPf p) (hs:K.length + L.length≤7):(freeL P K L).length≤900:=by
 have hP1:∀ p ∈ [P],OkPf p:=fun p hp => by rw [List.mem_singleton.1 hp];exact hP
 have h:=without_len hP1 hT
 have hl:(takenL K L).length=K.length + L.length:=by unfold takenL;rw [List.length_append,List.length_map]
 rw [hl] at h
 show (pfs (jn (both (spn [P]) (gaps (spn (takenL K L)))))).length≤900
 simp only [List.length_singleton] at h
 omega
theorem freeS_ok {P:Pf} {K:List Pf} {L:List Ls} (hP:OkPf P) (hT:∀ p ∈ takenL K L,OkPf p):∀ p ∈ freeS P K L,VR p:=by
 have hP1:∀ p ∈ [P],OkPf p:=fun p hp => by rw [List.mem_singleton.1 hp];exact hP
 have g:=gaps_ok (spn_can hT) (spn_vr hT)
 obtain ⟨h1,h2,h3⟩:=both_ok (spn_can hP1) g.1 (spn_vr hP1) g.2.2
 exact h3
theorem freeL_ok {P:Pf} {K:List Pf} {L:List Ls} (hP:OkPf P) (hT:∀ p ∈ takenL K L,OkPf p):∀ p ∈ freeL P K L,OkPf p:=okPf_pfs (freeS_ok hP hT)
/-! ### Choosing -/
def chS (best:Bool) (n:Int) (s:Option Pf) (f:Pf):Option Pf :=
 if f.2.2.2≤n∧(s=none ∨ (best=true∧∀ a,s=some a→a.2.2.2 < f.2.2.2)) then some f else s
def chP (best:Bool) (n:Int) (F:List Pf):Option Pf:=F.foldl (chS best n) none
theorem chP_snoc (best:Bool) (n:Int) (F:List Pf) (f:Pf):chP best n (F ++ [f])=chS best n (chP best n F) f:=by
 unfold chP
 rw [List.foldl_append]
 rfl
theorem chP_first (n:Int) (F:List Pf):chP false n F=F.find? fun f => decide (f.2.2.2≤n):=by
 obtain ⟨R,rfl⟩:∃ R:List Pf,F=R.reverse:=⟨F.reverse,(List.reverse_reverse F).symm⟩
 induction R with
 | nil => rfl
 | cons a R ih =>
   rw [List.reverse_cons,chP_snoc,find_snoc,ih]
   generalize R.reverse.find? _=s
   cases s with
   | some b => simp [chS]
   | none => simp [chS]
theorem insB_pf {p q:Pf} (hp:OkPf p) (hq:OkPf q):insB p.1 p.2.1 p.2.2.1 p.2.2.2.toNat q.1 q.2.1 q.2.2.1 q.2.2.2.toNat=insP p q:=by
 unfold insB insP
 rw [← hold_eq hq.ok hp.ok.1]
 have h1:decide (q.2.2.2.toNat≤p.2.2.2.toNat)=decide (q.2.2.2≤p.2.2.2):=by
  have:=hp.nn
  have:=hq.nn
  rw [decide_eq_decide]
  omega
 rw [h1]
 congr 1
 unfold holdsB inP spP
 rw [fill_num hq.ok.1,LN_six,hq.num.2.1]
 rfl
theorem pfC_nat {p:Pf} (hp:OkPf p):(pfC p).toArray=#[.bool p.1, .int .u64 ((p.2.1:Nat):Int), .int .u64 ((p.2.2.1:Nat):Int), .int .i64 ((p.2.2.2.toNat:Nat):Int)]:=by
 unfold pfC
 rw [← hp.nn]
theorem inside_pf {p q:Pf} (w:World) (hp:OkPf p) (hq:OkPf q):Calls Tryz.prog 47 #[.agg (pfC p).toArray, .agg (pfC q).toArray] w (Ret (.bool (insP p q)) w):=by
 have h:=spanInside_any p.1 p.2.1 p.2.2.1 p.2.2.2.toNat q.1 q.2.1 q.2.2.1 q.2.2.2.toNat w hp.ok.1.1 hp.ok.1.2.1 hq.ok.2.1
 rw [insB_pf hp hq] at h
 rw [pfC_nat hp,pfC_nat hq]
 exact h
theorem within_pf {p q:Pf} (w:World) (hp:OkPf p) (hq:OkPf q):Calls Tryz.prog 39 #[.agg (pfC p).toArray, .agg (pfC q).toArray] w (Ret (.bool (insP p q)) w):=by
 have h:=within_any p.1 p.2.1 p.2.2.1 p.2.2.2.toNat q.1 q.2.1 q.2.2.1 q.2.2.2.toNat w hp.ok.1.1 hp.ok.1.2.1 hq.ok.1.1 hq.ok.1.2.1 hp.ok.2.1 hq.ok.2.1
 rw [ins_eq hp.ok hq.ok,insB_pf hp hq] at h
 rw [pfC_nat hp,pfC_nat hq]
 exact h
def lsC (x:Ls):List Value:=[.string (strL x.1), .bool x.2.1, .int .u64 ((x.2.2.1:Nat):Int), .int .u64 ((x.2.2.2.1:Nat):Int), .int .i64 x.2.2.2.2]
def layLs:Lay Ls:=⟨lsC,5,67,by decide,fun _ => rfl,fun p v hv => by simp [lsC] at hv;rcases hv with rfl | rfl | rfl | rfl | rfl <;> rfl⟩
theorem lsE:EI Tryz.prog 32 67 5 48:=EI.mk' (z:=.agg #[.string ⟨#[]⟩, .bool false, .int .u64 0, .int .u64 0, .int .i64 0]) Tryz.underlying32 (by kernel_rfl) rfl (by decide)
theorem size_ls:(Tryz.prog.info? 67).map (·.size)=some 5:=by kernel_rfl
theorem under_ls:Tryz.prog.underlying 67=some (.struct (Tryz.prog.fieldsOf 67)):=by kernel_rfl
theorem size_pfx:(Tryz.prog.info? 30).map (·.size)=some 4:=by kernel_rfl
theorem under_pfx:Tryz.prog.underlying 30=some (.struct (Tryz.prog.fieldsOf 30)):=by kernel_rfl
theorem RdK.ls {w:World} {ad:Option Addr} {L:List Ls} (h:RdK layLs w ad L) {k:Nat} {s:Bool} {a b:Nat} {n:Int} {t:List UInt8} (hp:L[k]?=some (t,(s,a,b,n))) :
  ∃ g o,ad=some ⟨g,o,none⟩∧g < w.heap.size∧w.cell? ⟨g,o + k * 5,none⟩=some (.string (strL t))∧w.cell? ⟨g,o + k * 5 + 1,none⟩=some (.bool s)∧w.cell? ⟨g,o + k * 5 + 2,none⟩=some (.int .u64 (a:Int))∧w.cell? ⟨g,o + k * 5 + 3,none⟩=some (.int .u64 (b:Int))∧w.cell? ⟨g,o + k * 5 + 4,none⟩=some (.int .i64 n):=by
 obtain ⟨g,o,e,hg,h0⟩:=h k _ hp
 have hE:layLs.enc (t,(s,a,b,n))=[.string (strL t), .bool s, .int .u64 (a:Int), .int .u64 (b:Int), .int .i64 n]:=rfl
 have hK:layLs.K=5:=rfl
 rw [hE,hK] at h0
 exact ⟨g,o,e,hg,h0 0 _ rfl,h0 1 _ rfl,h0 2 _ rfl,h0 3 _ rfl,h0 4 _ rfl⟩
def plC (P:Pf) (vk vl:Value):List Value:=pfC P ++ [vk,vl]
theorem meet_any {p q:Pf} (w:World) (hp:OkPf p) (hq:OkPf q):Calls Tryz.prog 50 #[.agg (pfC p).toArray, .agg (pfC q).toArray] w (Ret (.bool (meetP p q)) w):=by
 have HI1:=Lib.hid fun wx => inside_pf wx hp hq
 have HI2:=Lib.hid fun wx => inside_pf wx hq hp
 have HM:Hid (meetP p q=(insP p q || insP q p)):=Lib.hid rfl
 generalize meetP p q=M at *
 generalize insP p q=X at *
 generalize insP q p=Y at *
 clear hp hq
 obtain ⟨s1,h1,l1,n1⟩:=p
 obtain ⟨s2,h2,l2,n2⟩:=q
 rw [show (pfC (s1,h1,l1,n1)).toArray=#[.bool s1, .int .u64 (h1:Int), .int .u64 (l1:Int), .int .i64 n1] from rfl,show (pfC (s2,h2,l2,n2)).toArray=#[.bool s2, .int .u64 (h2:Int), .int .u64 (l2:Int), .int .i64 n2] from rfl] at *
 have HP:Hid (Blk ((w.alloc (.cells #[.bool s1, .int .u64 (h1:Int), .int .u64 (l1:Int), .int .i64 n1] 30 (0,0))).alloc (.cells #[.bool s2, .int .u64 (h2:Int), .int .u64 (l2:Int), .int .i64 n2] 30 (0,0))) w.heap.size 30 #[.bool s1, .int .u64 (h1:Int), .int .u64 (l1:Int), .int .i64 n1]):=Lib.hid ((Blk.new w _ _).alloc _)
 have HQ:Hid (Blk ((w.alloc (.cells #[.bool s1, .int .u64 (h1:Int), .int .u64 (l1:Int), .int .i64 n1] 30 (0,0))).alloc (.cells #[.bool s2, .int .u64 (h2:Int), .int .u64 (l2:Int), .int .i64 n2] 30 (0,0))) (w.heap.size + 1) 30 #[.bool s2, .int .u64 (h2:Int), .int .u64 (l2:Int), .int .i64 n2]):=Lib.hid (by
  have this:=Blk.new (w.alloc (.cells #[.bool s1, .int .u64 (h1:Int), .int .u64 (l1:Int), .int .i64 n1] 30 (0,0))) 30 #[.bool s2, .int .u64 (h2:Int), .int .u64 (l2:Int), .int .i64 n2]
  rw [World.size_alloc] at this
  exact this)
 have HB:Hid (Below w.heap.size w ((w.alloc (.cells #[.bool s1, .int .u64 (h1:Int), .int .u64 (l1:Int), .int .i64 n1] 30 (0,0))).alloc (.cells #[.bool s2, .int .u64 (h2:Int), .int .u64 (l2:Int), .int .i64 n2] 30 (0,0)))):=Lib.hid (below_alloc (below_alloc (Below.refl _ _) _) _)
 go_enter Tryz.func50,Tryz.ntmps50
 go_upto_region 1 with fail
 generalize ((w.alloc (.cells #[.bool s1, .int .u64 (h1:Int), .int .u64 (l1:Int), .int .i64 n1] 30 (0,0))).alloc (.cells #[.bool s2, .int .u64 (h2:Int), .int .u64 (l2:Int), .int .i64 n2] 30 (0,0)))=w1 at *
 generalize w.heap.size=b at HP HQ ⊢
 have a0:=HP.out.cell 0
 have a1:=HP.out.cell 1
 have a2:=HP.out.cell 2
 have a3:=HP.out.cell 3
 have b0:=HQ.out.cell 0
 have b1:=HQ.out.cell 1
 have b2:=HQ.out.cell 2
 have b3:=HQ.out.cell 3
 simp at a0 a1 a2 a3 b0 b1 b2 b3
 go_wp2_with fail
 refine (HI1.out _).mono ?_
 rintro e w2 ⟨rfl,hb⟩
 have HB2:=Lib.hid (HB.out.trans (hb.mono HB.out.size))
 cases X
 ·have HP2:=Lib.hid (HP.out.below hb HP.out.lt)
  have HQ2:=Lib.hid (HQ.out.below hb HQ.out.lt)
  have c0:=HP2.out.cell 0
  have c1:=HP2.out.cell 1
  have c2:=HP2.out.cell 2
  have c3:=HP2.out.cell 3
  have d0:=HQ2.out.cell 0
  have d1:=HQ2.out.cell 1
  have d2:=HQ2.out.cell 2
  have d3:=HQ2.out.cell 3
  simp at c0 c1 c2 c3 d0 d1 d2 d3
  have hM:M=Y:=by rw [HM.out];rfl
  subst hM
  clear hb a0 a1 a2 a3 b0 b1 b2 b3 HI1 HM HP HQ HB
  go_wp2_with fail
  refine (HI2.out _).mono ?_
  rintro e w3 ⟨rfl,hb⟩
  have HB3:=Lib.hid (HB2.out.trans (hb.mono HB2.out.size))
  clear hb
  go_wp2_with fail
  go_ret
  exact ⟨rfl,HB3.out⟩
 ·have hM:M=true:=by rw [HM.out];rfl
  subst hM
  clear hb a0 a1 a2 a3 b0 b1 b2 b3 HI1 HI2 HM HP HQ HB
  go_wp2_with fail
  go_ret
  exact ⟨rfl,HB2.out⟩
theorem touch_any {p q:Pf} (w:World) (hp:OkPf p) (hq:OkPf q):Calls Tryz.prog 43 #[.agg (pfC p).toArray, .agg (pfC q).toArray] w (Ret (.bool (meetP p q)) w):=by
 have HI1:=Lib.hid fun wx => within_pf wx hp hq
 have HI2:=Lib.hid fun wx => within_pf wx hq hp
 have HM:Hid (meetP p q=(insP p q || insP q p)):=Lib.hid rfl
 generalize meetP p q=M at *
 generalize insP p q=X at *
 generalize insP q p=Y at *
 clear hp hq
 obtain ⟨s1,h1,l1,n1⟩:=p
 obtain ⟨s2,h2,l2,n2⟩:=q
 rw [show (pfC (s1,h1,l1,n1)).toArray=#[.bool s1, .int .u64 (h1:Int), .int .u64 (l1:Int), .int .i64 n1] from rfl,show (pfC (s2,h2,l2,n2)).toArray=#[.bool s2, .int .u64 (h2:Int), .int .u64 (l2:Int), .int .i64 n2] from rfl] at *
 have HP:Hid (Blk ((w.alloc (.cells #[.bool s1, .int .u64 (h1:Int), .int .u64 (l1:Int), .int .i64 n1] 30 (0,0))).alloc (.cells #[.bool s2, .int .u64 (h2:Int), .int .u64 (l2:Int), .int .i64 n2] 30 (0,0))) w.heap.size 30 #[.bool s1, .int .u64 (h1:Int), .int .u64 (l1:Int), .int .i64 n1]):=Lib.hid ((Blk.new w _ _).alloc _)
 have HQ:Hid (Blk ((w.alloc (.cells #[.bool s1, .int .u64 (h1:Int), .int .u64 (l1:Int), .int .i64 n1] 30 (0,0))).alloc (.cells #[.bool s2, .int .u64 (h2:Int), .int .u64 (l2:Int), .int .i64 n2] 30 (0,0))) (w.heap.size + 1) 30 #[.bool s2, .int .u64 (h2:Int), .int .u64 (l2:Int), .int .i64 n2]):=Lib.hid (by
  have this:=Blk.new (w.alloc (.cells #[.bool s1, .int .u64 (h1:Int), .int .u64 (l1:Int), .int .i64 n1] 30 (0,0))) 30 #[.bool s2, .int .u64 (h2:Int), .int .u64 (l2:Int), .int .i64 n2]
  rw [World.size_alloc] at this
  exact this)
 have HB:Hid (Below w.heap.size w ((w.alloc (.cells #[.bool s1, .int .u64 (h1:Int), .int .u64 (l1:Int), .int .i64 n1] 30 (0,0))).alloc (.cells #[.bool s2, .int .u64 (h2:Int), .int .u64 (l2:Int), .int .i64 n2] 30 (0,0)))):=Lib.hid (below_alloc (below_alloc (Below.refl _ _) _) _)
 go_enter Tryz.func43,Tryz.ntmps43
 go_upto_region 1 with fail
 generalize ((w.alloc (.cells #[.bool s1, .int .u64 (h1:Int), .int .u64 (l1:Int), .int .i64 n1] 30 (0,0))).alloc (.cells #[.bool s2, .int .u64 (h2:Int), .int .u64 (l2:Int), .int .i64 n2] 30 (0,0)))=w1 at *
 generalize w.heap.size=b at HP HQ ⊢
 have a0:=HP.out.cell 0
 have a1:=HP.out.cell 1
 have a2:=HP.out.cell 2
 have a3:=HP.out.cell 3
 have b0:=HQ.out.cell 0
 have b1:=HQ.out.cell 1
 have b2:=HQ.out.cell 2
 have b3:=HQ.out.cell 3
 simp at a0 a1 a2 a3 b0 b1 b2 b3
 go_wp2_with fail
 refine (HI1.out _).mono ?_
 rintro e w2 ⟨rfl,hb⟩
 have HB2:=Lib.hid (HB.out.trans (hb.mono HB.out.size))
 cases X
 ·have HP2:=Lib.hid (HP.out.below hb HP.out.lt)
  have HQ2:=Lib.hid (HQ.out.below hb HQ.out.lt)
  have c0:=HP2.out.cell 0
  have c1:=HP2.out.cell 1
  have c2:=HP2.out.cell 2
  have c3:=HP2.out.cell 3
  have d0:=HQ2.out.cell 0
  have d1:=HQ2.out.cell 1
  have d2:=HQ2.out.cell 2
  have d3:=HQ2.out.cell 3
  simp at c0 c1 c2 c3 d0 d1 d2 d3
  have hM:M=Y:=by rw [HM.out];rfl
  subst hM
  clear hb a0 a1 a2 a3 b0 b1 b2 b3 HI1 HM HP HQ HB
  go_wp2_with fail
  refine (HI2.out _).mono ?_
  rintro e w3 ⟨rfl,hb⟩
  have HB3:=Lib.hid (HB2.out.trans (hb.mono HB2.out.size))
  clear hb
  go_wp2_with fail
  go_ret
  exact ⟨rfl,HB3.out⟩
 ·have hM:M=true:=by rw [HM.out];rfl
  subst hM
  clear hb a0 a1 a2 a3 b0 b1 b2 b3 HI1 HI2 HM HP HQ HB
  go_wp2_with fail
  go_ret
  exact ⟨rfl,HB2.out⟩
theorem cp1_any (k:Pf) (x:Ls) (bx:Nat) (w:World) (hk:OkPf k) (hx:OkPf x.2) (hb:Blk w bx 67 (lsC x).toArray):Calls Tryz.prog 49 #[.agg (pfC k).toArray, .pointer (some ⟨bx,0,none⟩)] w (Ret (.bool (meetP k x.2)) w):=by
 have HC:=Lib.hid fun wx => meet_any wx hk hx
 obtain ⟨k2,s2,h2,l2,n2⟩:=x
 have HQ0:=Lib.hid hb
 rw [show (lsC (k2,(s2,h2,l2,n2))).toArray=#[.string (strL k2), .bool s2, .int .u64 (h2:Int), .int .u64 (l2:Int), .int .i64 n2] from rfl] at HQ0
 try dsimp only at HC ⊢
 generalize meetP k (s2,h2,l2,n2)=M at *
 clear hk hx hb
 obtain ⟨s1,h1,l1,n1⟩:=k
 try dsimp only at HC
 rw [show (pfC (s1,h1,l1,n1)).toArray=#[.bool s1, .int .u64 (h1:Int), .int .u64 (l1:Int), .int .i64 n1] from rfl,show (pfC (s2,h2,l2,n2)).toArray=#[.bool s2, .int .u64 (h2:Int), .int .u64 (l2:Int), .int .i64 n2] from rfl] at HC
 rw [show (pfC (s1,h1,l1,n1)).toArray=#[.bool s1, .int .u64 (h1:Int), .int .u64 (l1:Int), .int .i64 n1] from rfl]
 generalize strL k2=k2 at *
 have HP:Hid (Blk (w.alloc (.cells #[.bool s1, .int .u64 (h1:Int), .int .u64 (l1:Int), .int .i64 n1] 30 (0,0))) w.heap.size 30 #[.bool s1, .int .u64 (h1:Int), .int .u64 (l1:Int), .int .i64 n1]):=Lib.hid (Blk.new w _ _)
 have HQ:Hid (Blk (w.alloc (.cells #[.bool s1, .int .u64 (h1:Int), .int .u64 (l1:Int), .int .i64 n1] 30 (0,0))) bx 67 #[.string k2, .bool s2, .int .u64 (h2:Int), .int .u64 (l2:Int), .int .i64 n2]):=Lib.hid (HQ0.out.alloc _)
 have HB:Hid (Below w.heap.size w (w.alloc (.cells #[.bool s1, .int .u64 (h1:Int), .int .u64 (l1:Int), .int .i64 n1] 30 (0,0)))):=Lib.hid (below_alloc (Below.refl _ _) _)
 clear HQ0
 go_enter Tryz.func49,Tryz.ntmps49
 go_upto_region 1 with fail
 generalize w.alloc (.cells #[.bool s1, .int .u64 (h1:Int), .int .u64 (l1:Int), .int .i64 n1] 30 (0,0))=w1 at *
 generalize w.heap.size=b at HP HQ ⊢
 have a0:=HP.out.cell 0
 have a1:=HP.out.cell 1
 have a2:=HP.out.cell 2
 have a3:=HP.out.cell 3
 have b0:=HQ.out.cell 1
 have b1:=HQ.out.cell 2
 have b2:=HQ.out.cell 3
 have b3:=HQ.out.cell 4
 simp at a0 a1 a2 a3 b0 b1 b2 b3
 clear HP HQ
 go_wp2_with fail
 refine (HC.out _).mono ?_
 rintro e w2 ⟨rfl,hb⟩
 have HB2:=Lib.hid (HB.out.trans (hb.mono HB.out.size))
 clear hb a0 a1 a2 a3 b0 b1 b2 b3 HC HB
 go_wp2_with fail
 go_ret
 exact ⟨rfl,HB2.out⟩
theorem cp2_any (k:Ls) (x:Ls) (bx:Nat) (w:World) (hk:OkPf k.2) (hx:OkPf x.2) (hb:Blk w bx 67 (lsC x).toArray):Calls Tryz.prog 51 #[.agg (lsC k).toArray, .pointer (some ⟨bx,0,none⟩)] w (Ret (.bool (meetP k.2 x.2)) w):=by
 have HC:=Lib.hid fun wx => meet_any wx hk hx
 obtain ⟨k2,s2,h2,l2,n2⟩:=x
 have HQ0:=Lib.hid hb
 rw [show (lsC (k2,(s2,h2,l2,n2))).toArray=#[.string (strL k2), .bool s2, .int .u64 (h2:Int), .int .u64 (l2:Int), .int .i64 n2] from rfl] at HQ0
 try dsimp only at HC ⊢
 generalize meetP k.2 (s2,h2,l2,n2)=M at *
 clear hk hx hb
 obtain ⟨kb,s1,h1,l1,n1⟩:=k
 try dsimp only at HC
 rw [show (pfC (s1,h1,l1,n1)).toArray=#[.bool s1, .int .u64 (h1:Int), .int .u64 (l1:Int), .int .i64 n1] from rfl,show (pfC (s2,h2,l2,n2)).toArray=#[.bool s2, .int .u64 (h2:Int), .int .u64 (l2:Int), .int .i64 n2] from rfl] at HC
 rw [show (lsC (kb,(s1,h1,l1,n1))).toArray=#[.string (strL kb), .bool s1, .int .u64 (h1:Int), .int .u64 (l1:Int), .int .i64 n1] from rfl]
 generalize strL kb=k1
 generalize strL k2=k2 at *
 have HP:Hid (Blk (w.alloc (.cells #[.string k1, .bool s1, .int .u64 (h1:Int), .int .u64 (l1:Int), .int .i64 n1] 67 (0,0))) w.heap.size 67 #[.string k1, .bool s1, .int .u64 (h1:Int), .int .u64 (l1:Int), .int .i64 n1]):=Lib.hid (Blk.new w _ _)
 have HQ:Hid (Blk (w.alloc (.cells #[.string k1, .bool s1, .int .u64 (h1:Int), .int .u64 (l1:Int), .int .i64 n1] 67 (0,0))) bx 67 #[.string k2, .bool s2, .int .u64 (h2:Int), .int .u64 (l2:Int), .int .i64 n2]):=Lib.hid (HQ0.out.alloc _)
 have HB:Hid (Below w.heap.size w (w.alloc (.cells #[.string k1, .bool s1, .int .u64 (h1:Int), .int .u64 (l1:Int), .int .i64 n1] 67 (0,0)))):=Lib.hid (below_alloc (Below.refl _ _) _)
 clear HQ0
 go_enter Tryz.func51,Tryz.ntmps51
 go_upto_region 1 with fail
 generalize w.alloc (.cells #[.string k1, .bool s1, .int .u64 (h1:Int), .int .u64 (l1:Int), .int .i64 n1] 67 (0,0))=w1 at *
 generalize w.heap.size=b at HP HQ ⊢
 have a0:=HP.out.cell 1
 have a1:=HP.out.cell 2
 have a2:=HP.out.cell 3
 have a3:=HP.out.cell 4
 have b0:=HQ.out.cell 1
 have b1:=HQ.out.cell 2
 have b2:=HQ.out.cell 3
 have b3:=HQ.out.cell 4
 simp at a0 a1 a2 a3 b0 b1 b2 b3
 clear HP HQ
 go_wp2_with fail
 refine (HC.out _).mono ?_
 rintro e w2 ⟨rfl,hb⟩
 have HB2:=Lib.hid (HB.out.trans (hb.mono HB.out.size))
 clear hb a0 a1 a2 a3 b0 b1 b2 b3 HC HB
 go_wp2_with fail
 go_ret
 exact ⟨rfl,HB2.out⟩
theorem pf1_any (k:Pf) (x:Ls) (bx:Nat) (w:World) (hk:OkPf k) (hx:OkPf x.2) (hb:Blk w bx 67 (lsC x).toArray):Calls Tryz.prog 42 #[.agg (pfC k).toArray, .pointer (some ⟨bx,0,none⟩)] w (Ret (.bool (meetP k x.2)) w):=by
 have HC:=Lib.hid fun wx => touch_any wx hk hx
 obtain ⟨k2,s2,h2,l2,n2⟩:=x
 have HQ0:=Lib.hid hb
 rw [show (lsC (k2,(s2,h2,l2,n2))).toArray=#[.string (strL k2), .bool s2, .int .u64 (h2:Int), .int .u64 (l2:Int), .int .i64 n2] from rfl] at HQ0
 try dsimp only at HC ⊢
 generalize meetP k (s2,h2,l2,n2)=M at *
 clear hk hx hb
 obtain ⟨s1,h1,l1,n1⟩:=k
 try dsimp only at HC
 rw [show (pfC (s1,h1,l1,n1)).toArray=#[.bool s1, .int .u64 (h1:Int), .int .u64 (l1:Int), .int .i64 n1] from rfl,show (pfC (s2,h2,l2,n2)).toArray=#[.bool s2, .int .u64 (h2:Int), .int .u64 (l2:Int), .int .i64 n2] from rfl] at HC
 rw [show (pfC (s1,h1,l1,n1)).toArray=#[.bool s1, .int .u64 (h1:Int), .int .u64 (l1:Int), .int .i64 n1] from rfl]
 generalize strL k2=k2 at *
 have HP:Hid (Blk (w.alloc (.cells #[.bool s1, .int .u64 (h1:Int), .int .u64 (l1:Int), .int .i64 n1] 30 (0,0))) w.heap.size 30 #[.bool s1, .int .u64 (h1:Int), .int .u64 (l1:Int), .int .i64 n1]):=Lib.hid (Blk.new w _ _)
 have HQ:Hid (Blk (w.alloc (.cells #[.bool s1, .int .u64 (h1:Int), .int .u64 (l1:Int), .int .i64 n1] 30 (0,0))) bx 67 #[.string k2, .bool s2, .int .u64 (h2:Int), .int .u64 (l2:Int), .int .i64 n2]):=Lib.hid (HQ0.out.alloc _)
 have HB:Hid (Below w.heap.size w (w.alloc (.cells #[.bool s1, .int .u64 (h1:Int), .int .u64 (l1:Int), .int .i64 n1] 30 (0,0)))):=Lib.hid (below_alloc (Below.refl _ _) _)
 clear HQ0
 go_enter Tryz.func42,Tryz.ntmps42
 go_upto_region 1 with fail
 generalize w.alloc (.cells #[.bool s1, .int .u64 (h1:Int), .int .u64 (l1:Int), .int .i64 n1] 30 (0,0))=w1 at *
 generalize w.heap.size=b at HP HQ ⊢
 have a0:=HP.out.cell 0
 have a1:=HP.out.cell 1
 have a2:=HP.out.cell 2
 have a3:=HP.out.cell 3
 have b0:=HQ.out.cell 1
 have b1:=HQ.out.cell 2
 have b2:=HQ.out.cell 3
 have b3:=HQ.out.cell 4
 simp at a0 a1 a2 a3 b0 b1 b2 b3
 clear HP HQ
 go_wp2_with fail
 refine (HC.out _).mono ?_
 rintro e w2 ⟨rfl,hb⟩
 have HB2:=Lib.hid (HB.out.trans (hb.mono HB.out.size))
 clear hb a0 a1 a2 a3 b0 b1 b2 b3 HC HB
 go_wp2_with fail
 go_ret
 exact ⟨rfl,HB2.out⟩
theorem pf2_any (k:Ls) (x:Ls) (bx:Nat) (w:World) (hk:OkPf k.2) (hx:OkPf x.2) (hb:Blk w bx 67 (lsC x).toArray):Calls Tryz.prog 45 #[.agg (lsC k).toArray, .pointer (some ⟨bx,0,none⟩)] w (Ret (.bool (meetP k.2 x.2)) w):=by
 have HC:=Lib.hid fun wx => touch_any wx hk hx
 obtain ⟨k2,s2,h2,l2,n2⟩:=x
 have HQ0:=Lib.hid hb
 rw [show (lsC (k2,(s2,h2,l2,n2))).toArray=#[.string (strL k2), .bool s2, .int .u64 (h2:Int), .int .u64 (l2:Int), .int .i64 n2] from rfl] at HQ0
 try dsimp only at HC ⊢
 generalize meetP k.2 (s2,h2,l2,n2)=M at *
 clear hk hx hb
 obtain ⟨kb,s1,h1,l1,n1⟩:=k
 try dsimp only at HC
 rw [show (pfC (s1,h1,l1,n1)).toArray=#[.bool s1, .int .u64 (h1:Int), .int .u64 (l1:Int), .int .i64 n1] from rfl,show (pfC (s2,h2,l2,n2)).toArray=#[.bool s2, .int .u64 (h2:Int), .int .u64 (l2:Int), .int .i64 n2] from rfl] at HC
 rw [show (lsC (kb,(s1,h1,l1,n1))).toArray=#[.string (strL kb), .bool s1, .int .u64 (h1:Int), .int .u64 (l1:Int), .int .i64 n1] from rfl]
 generalize strL kb=k1
 generalize strL k2=k2 at *
 have HP:Hid (Blk (w.alloc (.cells #[.string k1, .bool s1, .int .u64 (h1:Int), .int .u64 (l1:Int), .int .i64 n1] 67 (0,0))) w.heap.size 67 #[.string k1, .bool s1, .int .u64 (h1:Int), .int .u64 (l1:Int), .int .i64 n1]):=Lib.hid (Blk.new w _ _)
 have HQ:Hid (Blk (w.alloc (.cells #[.string k1, .bool s1, .int .u64 (h1:Int), .int .u64 (l1:Int), .int .i64 n1] 67 (0,0))) bx 67 #[.string k2, .bool s2, .int .u64 (h2:Int), .int .u64 (l2:Int), .int .i64 n2]):=Lib.hid (HQ0.out.alloc _)
 have HB:Hid (Below w.heap.size w (w.alloc (.cells #[.string k1, .bool s1, .int .u64 (h1:Int), .int .u64 (l1:Int), .int .i64 n1] 67 (0,0)))):=Lib.hid (below_alloc (Below.refl _ _) _)
 clear HQ0
 go_enter Tryz.func45,Tryz.ntmps45
 go_upto_region 1 with fail
 generalize w.alloc (.cells #[.string k1, .bool s1, .int .u64 (h1:Int), .int .u64 (l1:Int), .int .i64 n1] 67 (0,0))=w1 at *
 generalize w.heap.size=b at HP HQ ⊢
 have a0:=HP.out.cell 1
 have a1:=HP.out.cell 2
 have a2:=HP.out.cell 3
 have a3:=HP.out.cell 4
 have b0:=HQ.out.cell 1
 have b1:=HQ.out.cell 2
 have b2:=HQ.out.cell 3
 have b3:=HQ.out.cell 4
 simp at a0 a1 a2 a3 b0 b1 b2 b3
 clear HP HQ
 go_wp2_with fail
 refine (HC.out _).mono ?_
 rintro e w2 ⟨rfl,hb⟩
 have HB2:=Lib.hid (HB.out.trans (hb.mono HB.out.size))
 clear hb a0 a1 a2 a3 b0 b1 b2 b3 HC HB
 go_wp2_with fail
 go_ret
 exact ⟨rfl,HB2.out⟩
theorem kf1_any (x:Ls) (key:List UInt8) (bx:Nat) (w:World) (hb:w.cell? ⟨bx,0,none⟩=some (.string (strL key))) (hl:bx < w.heap.size):Calls Tryz.prog 115 #[.agg (lsC x).toArray, .pointer (some ⟨bx,0,none⟩)] w (Ret (.bool (x.1 == key)) w):=by
 obtain ⟨k1,s1,h1,l1,n1⟩:=x
 rw [show (lsC (k1,(s1,h1,l1,n1))).toArray=#[.string (strL k1), .bool s1, .int .u64 (h1:Int), .int .u64 (l1:Int), .int .i64 n1] from rfl]
 have t1:=strL_ls k1
 have t2:=strL_ls key
 try dsimp only
 generalize strL k1=S1 at *
 generalize strL key=S2 at *
 subst t1
 subst t2
 have HP:Hid (Blk (w.alloc (.cells #[.string S1, .bool s1, .int .u64 (h1:Int), .int .u64 (l1:Int), .int .i64 n1] 67 (0,0))) w.heap.size 67 #[.string S1, .bool s1, .int .u64 (h1:Int), .int .u64 (l1:Int), .int .i64 n1]):=Lib.hid (Blk.new w _ _)
 have HQ:Hid ((w.alloc (.cells #[.string S1, .bool s1, .int .u64 (h1:Int), .int .u64 (l1:Int), .int .i64 n1] 67 (0,0))).cell? ⟨bx,0,none⟩=some (.string S2)):=Lib.hid (((below_alloc (Below.refl _ _) _).cell (p:=⟨bx,0,none⟩) hl).trans hb)
 have HB:Hid (Below w.heap.size w (w.alloc (.cells #[.string S1, .bool s1, .int .u64 (h1:Int), .int .u64 (l1:Int), .int .i64 n1] 67 (0,0)))):=Lib.hid (below_alloc (Below.refl _ _) _)
 clear hb hl
 go_enter Tryz.func115,Tryz.ntmps115
 go_upto_region 1 with fail
 generalize w.alloc (.cells #[.string S1, .bool s1, .int .u64 (h1:Int), .int .u64 (l1:Int), .int .i64 n1] 67 (0,0))=w1 at *
 generalize w.heap.size=b at HP HQ ⊢
 have a0:=HP.out.cell 0
 simp at a0
 have b0:=HQ.out
 go_wp2_with fail
 go_ret
 exact ⟨rfl,HB.out⟩
theorem qkf1_any (x:Ls) (key:List UInt8) (bx:Nat) (w:World) (hb:w.cell? ⟨bx,0,none⟩=some (.string (strL key))) (hl:bx < w.heap.size):Calls Tryz.prog 55 #[.agg (lsC x).toArray, .pointer (some ⟨bx,0,none⟩)] w (Ret (.bool (x.1 == key)) w):=by
 obtain ⟨k1,s1,h1,l1,n1⟩:=x
 rw [show (lsC (k1,(s1,h1,l1,n1))).toArray=#[.string (strL k1), .bool s1, .int .u64 (h1:Int), .int .u64 (l1:Int), .int .i64 n1] from rfl]
 have t1:=strL_ls k1
 have t2:=strL_ls key
 try dsimp only
 generalize strL k1=S1 at *
 generalize strL key=S2 at *
 subst t1
 subst t2
 have HP:Hid (Blk (w.alloc (.cells #[.string S1, .bool s1, .int .u64 (h1:Int), .int .u64 (l1:Int), .int .i64 n1] 67 (0,0))) w.heap.size 67 #[.string S1, .bool s1, .int .u64 (h1:Int), .int .u64 (l1:Int), .int .i64 n1]):=Lib.hid (Blk.new w _ _)
 have HQ:Hid ((w.alloc (.cells #[.string S1, .bool s1, .int .u64 (h1:Int), .int .u64 (l1:Int), .int .i64 n1] 67 (0,0))).cell? ⟨bx,0,none⟩=some (.string S2)):=Lib.hid (((below_alloc (Below.refl _ _) _).cell (p:=⟨bx,0,none⟩) hl).trans hb)
 have HB:Hid (Below w.heap.size w (w.alloc (.cells #[.string S1, .bool s1, .int .u64 (h1:Int), .int .u64 (l1:Int), .int .i64 n1] 67 (0,0)))):=Lib.hid (below_alloc (Below.refl _ _) _)
 clear hb hl
 go_enter Tryz.func55,Tryz.ntmps55
 go_upto_region 1 with fail
 generalize w.alloc (.cells #[.string S1, .bool s1, .int .u64 (h1:Int), .int .u64 (l1:Int), .int .i64 n1] 67 (0,0))=w1 at *
 generalize w.heap.size=b at HP HQ ⊢
 have a0:=HP.out.cell 0
 simp at a0
 have b0:=HQ.out
 go_wp2_with fail
 go_ret
 exact ⟨rfl,HB.out⟩
theorem heap_setCells_same {g:Nat} {t:TypeId}:∀ (vs:List Value) (o:Nat) (w:World) (cur:Array Value),w.heap[g]?=some (.cells cur t (0,0))→∃ cur',(w.setCells g o vs).heap[g]?=some (.cells cur' t (0,0))∧cur'.size=cur.size
 | [],_,w,cur,h => ⟨cur,h,rfl⟩
 | v :: r,o,w,cur,h => by
   obtain ⟨cur',h1,h2⟩:=heap_setCells_same r (o + 1) (w.setCell ⟨g,o,none⟩ v) (cur.setIfInBounds o v) (heap_setCell_same w g o cur t v h)
   exact ⟨cur',h1,by rw [h2];simp⟩
theorem heap_setCells_other {g j:Nat} (hne:j ≠ g):∀ (vs:List Value) (o:Nat) (w:World),(w.setCells g o vs).heap[j]?=w.heap[j]?
 | [],_,w => rfl
 | v :: r,o,w => by
   rw [World.setCells,heap_setCells_other hne r (o + 1)]
   exact Below.heap_setCell w ⟨g,o,none⟩ v j hne
theorem size_setCellsR {g:Nat}:∀ (vs:List Value) (o:Nat) (w:World),(w.setCells g o vs).heap.size=w.heap.size
 | [],_,w => rfl
 | v :: r,o,w => by rw [World.setCells,size_setCellsR r (o + 1)];simp
theorem grown_setCells (g:Nat):∀ (vs:List Value) (o:Nat) (w:World),w.grownBy (w.setCells g o vs) (some g)
 | [],_,w => World.grownBy.refl _ _
 | v :: r,o,w => by
   have h1:w.grownBy (w.setCell ⟨g,o,none⟩ v) (some g):=⟨rfl,rfl,rfl,by simp,fun i hi hne => Below.heap_setCell w ⟨g,o,none⟩ v i (fun e => hne (by rw [e]))⟩
   exact grown_trans h1 (grown_setCells g r (o + 1) (w.setCell ⟨g,o,none⟩ v))
section
variable {α:Type} {E:Lay α}
end
theorem Op1.loadn {P:Program} {o:Oper} {ρ:Operand→Value} {w:World} {post:Value→World→Prop} (ty:TypeId) (x:Operand) (ho:o.op=.load ty x) (b off:Nat) (hx:ρ x=.pointer (some ⟨b,off,none⟩)) (cs:List Value) (d:TypeDesc) (hc:w.rangeAt b off cs)
  (hu:P.underlying ty=some d) (hd:d.isRow=true) (m:Nat) (hi:(P.info? ty).map (·.size)=some m) (hm:cs.length=m) (h:post (.agg cs.toArray) w):Op1 P o ρ w post:=by
 subst hm
 have:=run_loadAt_mid (P:=P) w b off ty cs d hc hu hd hi
 unfold Op1 execOp
 simp only [ho,hx,Sem.run_bind,this,Result.andThen_ok,Sem.run_pure]
 exact h
theorem indexLs_any (g:Nat) (cb:Array Value) (p:Ls→Bool) (ad:Option Addr) (n c:Nat) (L:List Ls) (w:World) (h:RdK layLs w ad L) (hn:L.length=n) (hs:n≤1000000)
  (eg:∀ args w,(callFunc g args).run Tryz.prog w=.ok (.enter g args) w) (hc:∀ x ∈ L, ∀ wx,Below w.heap.size w wx→Calls Tryz.prog g (#[.agg (layLs.enc x).toArray] ++ cb) wx (Ret (.bool (p x)) wx)) :
  Calls Tryz.prog 102 #[.slice ad n c, .func (.func g) #[] cb] w fun e w' => ∃ k:Int,e=.returned (.int .i64 k)∧((k=-1∧∀ x ∈ L,p x=false) ∨ ∃ (i:Nat) (x:Ls),k=(i:Int)∧L[i]?=some x∧p x=true∧∀ (j:Nat) (y:Ls),j < i→L[j]?=some y→p y=false)∧Below w.heap.size w w':=by
 have H0:=Lib.hid h
 have Hn:=Lib.hid hn
 have HC:=Lib.hid hc
 clear h hn hc
 go_enter Tryz.func102,Tryz.ntmps102
 go_wp2_with fail
 go_loopw [5,8] (fun s5 i wr => ∃ k:Nat,k≤n∧i=.int .i64 (k:Int)∧Hid (∀ (j:Nat) (y:Ls),j < k→L[j]?=some y→p y=false)∧Hid (Below w.heap.size w wr)) (fun _ i _ => n - (intOf i).toNat)
 case atStart => exact ⟨0,Nat.zero_le _,rfl,Lib.hid fun j y hj => absurd hj (Nat.not_lt_zero _),Lib.hid (Below.refl _ _)⟩
 case round =>
  obtain ⟨k,hk,rfl,HN,HB⟩:=hrel
  by_cases hlt:k < n
  ·have hS:k < L.length:=by rw [Hn.out];exact hlt
   obtain ⟨x,hx⟩:∃ x,L[k]?=some x:=⟨_,List.getElem?_eq_getElem hS⟩
   obtain ⟨gb,o,had,hg,hcell⟩:=(H0.out.below HB.out) k x hx
   have HR:Hid (wr.rangeAt gb (o + k * 5) (layLs.enc x)):=Lib.hid fun j v hv => by
    have:=hcell j v hv
    rwa [← Nat.add_assoc] at this
   have HCx:=Lib.hid (HC.out x (List.mem_of_getElem? hx) wr HB.out)
   have Hx:=Lib.hid hx
   subst had
   clear hx hS hg hcell
   go_wp2_with (refine wpList_loadn rfl 67 (.tmp 14) rfl gb (o + k * 5) rfl (layLs.enc x) _ HR.out under_ls rfl 5 size_ls (layLs.len x) ?_)
   refine HCx.out.mono ?_
   rintro e w3 ⟨rfl,hb⟩
   have HB3:=Lib.hid (HB.out.trans (hb.mono HB.out.size))
   clear hb HCx HR
   cases hR:p x
   ·have HN2:Hid (∀ (j:Nat) (y:Ls),j < k + 1→L[j]?=some y→p y=false):=Lib.hid fun j y hj hy => by
     rcases Nat.lt_or_ge j k with h1 | h1
     ·exact HN.out j y h1 hy
     ·obtain rfl:j=k:=by omega
      rw [Hx.out] at hy
      exact (Option.some.inj hy) ▸ hR
    clear hR
    go_wp2_with fail
    exact ⟨⟨k + 1,by omega,by go_num,HN2,HB3⟩,by simp [intOf];omega⟩
   ·have HP:=Lib.hid hR
    clear hR
    go_wp2_with fail
    go_ret
    exact ⟨(k:Int),rfl, .inr ⟨k,x,rfl,Hx.out,HP.out,HN.out⟩,HB3.out⟩
  ·obtain rfl:k=n:=by omega
   go_wp2_with fail
   go_ret
   refine ⟨-1,rfl, .inl ⟨rfl,fun x hx => ?_⟩,HB.out⟩
   obtain ⟨j,hj,rfl⟩:=List.getElem_of_mem hx
   exact HN.out j _ (by rw [← Hn.out];exact hj) (List.getElem?_eq_getElem hj)
theorem containsLs_any (g:Nat) (cb:Array Value) (p:Ls→Bool) (ad:Option Addr) (n c:Nat) (L:List Ls) (w:World) (h:RdK layLs w ad L) (hn:L.length=n) (hs:n≤1000000)
  (eg:∀ args w,(callFunc g args).run Tryz.prog w=.ok (.enter g args) w) (hc:∀ x ∈ L, ∀ wx,Below w.heap.size w wx→Calls Tryz.prog g (#[.agg (layLs.enc x).toArray] ++ cb) wx (Ret (.bool (p x)) wx)) :
  Calls Tryz.prog 44 #[.slice ad n c, .func (.func g) #[] cb] w (Ret (.bool (L.any p)) w):=by
 have HI:=Lib.hid (indexLs_any g cb p ad n c L w h hn hs eg hc)
 have HT:Hid ((∀ x ∈ L,p x=false)→L.any p=false):=Lib.hid fun h => by
  rw [List.any_eq_false]
  intro x hx
  simp [h x hx]
 have HF:Hid (∀ (i:Nat) (x:Ls),L[i]?=some x→p x=true→L.any p=true):=Lib.hid fun i x hx hp => List.any_eq_true.2 ⟨x,List.mem_of_getElem? hx,hp⟩
 obtain ⟨R,hR⟩:∃ R,L.any p=R:=⟨_,rfl⟩
 rw [hR] at HT HF ⊢
 clear hR h hn hc eg
 go_enter Tryz.func44,Tryz.ntmps44
 go_wp2_with fail
 refine HI.out.mono ?_
 rintro e w1 ⟨k,rfl,hk,hb⟩
 have HB1:=Lib.hid hb
 clear hb HI
 rcases hk with ⟨rfl,hk⟩ | ⟨i0,x0,rfl,hi0,hx0, -⟩
 ·have hR:=HT.out hk
  clear hk HT HF
  subst hR
  go_wp2_with fail
  go_ret
  exact ⟨rfl,HB1.out⟩
 ·have hR:=HF.out i0 x0 hi0 hx0
  have e1:(0:Int)≤(i0:Int):=by omega
  clear HT HF hi0 hx0
  subst hR
  go_wp2_with fail
  go_ret
  exact ⟨rfl,HB1.out⟩
theorem nilLs (w:World) (a:Option Addr) (l c:Nat):(binOp .eql 32 (.slice a l c) (.slice none 0 0)).run Tryz.prog w=.ok (.bool a.isNone) w :=
 Lib.run_eql_slice_nil (h:=Tryz.underlying32) ..
theorem cloneLs_any (ad:Option Addr) (n c:Nat) (L:List Ls) (w:World) (h:RdK layLs w ad L) (hn:L.length=n) (hs:n≤1000000) :
  Calls Tryz.prog 32 #[.slice ad n c] w fun e w' => ∃ v,e=.returned v∧OwnK layLs w' w.heap.size v L∧Below w.heap.size w w':=by
 cases ad with
 | none =>
   have en:=fun w => nilLs w none n c
   simp only [Option.isNone_none] at en
   have hL:Hid (L=[]):=Lib.hid h.none_
   clear h hn hs
   go_enter Tryz.func32,Tryz.ntmps32
   go_wp2
   go_ret
   exact ⟨_,rfl,by rw [hL.out];exact OwnK.nil _ _ _,Below.refl _ _⟩
 | some a =>
   have en:=fun w => nilLs w (some a) n c
   simp only [Option.isNone_some] at en
   subst hn
   have HS:=Lib.hid h.src
   have hB:Hid (Below w.heap.size w (w.alloc (.cells #[] layLs.ty (0,0)))):=Lib.hid (below_alloc (Below.refl _ _) _)
   clear h
   go_enter Tryz.func32,Tryz.ntmps32
   go_wp2_with (at_builtin;refine wpList_app lsE rfl (.tmp 5) (.tmp 6) rfl rfl (ownK_empty layLs w) rfl (src_later HS.out hB.out) (layLs.all_one L) ?c2 ?c3 ?c4 ?_)
   case c2 => unfold maxLen;simp only [List.length_nil];omega
   case c3 => simp only [List.length_nil];omega
   case c4 => simp
   intro v' w' hO hG
   have HO:Hid (OwnK layLs w' w.heap.size v' L):=Lib.hid hO
   have HG:=Lib.hid hG
   clear hO hG
   go_wp2
   go_ret
   exact ⟨_,rfl,HO.out,HG.out.below (u:=.slice (some ⟨w.heap.size,0,none⟩) 0 0) (by simp) (by intro k hk;simp [Value.ownBlock] at hk;omega) |> (below_alloc (Below.refl _ _) _).trans⟩
end Go.Proofs.YteldaicgaeooiaaGreatDoor
