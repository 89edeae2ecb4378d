/-
  How many blocks a span has at most, plain.
  Spans.Prefixes: the greedy blocks of ranges.
  slices.Equal at rows of prefixes and of ranges.
  addr.set, checkPrefixes, Least of the program.
  addr.Least, CheckSet, Ranges of the program.
  Sets as spans of numbers: the spans of their prefixes, gaps, what two have in common, and how many prefixes these need.
  The reference's HasOf: whether an address is in one of some prefixes.
  The fault of a list of reports, in plain words.
-/
import Derived.Test.YteldaicgaeooiaaGreatDoorPK7
import Derived.Deep.CutBlock
import Derived.Test.YteldaicgaeooiaaGreatDoorPK3
import Derived.Test.YteldaicgaeooiaaGreatDoorPK4
import Derived.Test.YteldaicgaeooiaaGreatDoorPK6
set_option linter.unusedVariables false
set_option maxRecDepth 100000
set_option maxHeartbeats 4000000
namespace Go.Proofs.YteldaicgaeooiaaGreatDoor
open Go
theorem blks_down {L y:Nat}:∀ j x,j≤L→2 ^ j ∣ x→y + 1 - x < 2 ^ j→(blks L x y).length≤j
 | 0,x,_,_,h => by
   rw [blks_stop (by simp at h;omega)]
   exact Nat.le_refl _
 | j + 1,x,hj,hd,h => by
   have hd':2 ^ j ∣ x:=Nat.dvd_trans (Nat.pow_dvd_pow 2 (Nat.le_succ j)) hd
   rcases Nat.lt_or_ge (y + 1 - x) (2 ^ j) with hlt | hge
   ·exact Nat.le_succ_of_le (blks_down j x (by omega) hd' hlt)
   ·have hp:=two_pos j
    have hxy:x≤y:=by omega
    have hg:=gB_ok (L:=L) hxy
    have h1:=gB_top (L:=L) (x:=x) (y:=y) (j:=j) (by omega) hd' (by omega)
    have h2:L - gB L x y < j + 1:=by
     rcases Nat.lt_or_ge (L - gB L x y) (j + 1) with h3 | h3
     ·exact h3
     ·have:=Nat.pow_le_pow_right (n:=2) (by decide) h3
      have:=hg.fits
      omega
    have hk:L - gB L x y=j:=by omega
    rw [blks_step hxy,hk,List.length_cons]
    rw [Nat.pow_succ] at h
    exact Nat.succ_le_succ (blks_down j (x + 2 ^ j) (by omega) (Nat.dvd_add hd' (Nat.dvd_refl _)) (by omega))
theorem blks_up {L y F:Nat} (hF:y < F + 2 ^ L):∀ m j x,L - j=m→j≤L→F≤x→2 ^ j ∣ x→(blks L x y).length≤(L - j) + L + 1:=by
 intro m
 induction m using Nat.strongRecOn with
 | _ m ih =>
   intro j x hm hj hx hd
   rcases Nat.lt_or_ge (y + 1 - x) (2 ^ j) with hlt | hge
   ·have:=blks_down j x hj hd hlt;omega
   ·have hp:=two_pos j
    have hxy:x≤y:=by omega
    have hg:=gB_ok (L:=L) hxy
    have h1:=gB_top (L:=L) (x:=x) (y:=y) (j:=j) hj hd (by omega)
    have hd1:=hg.dvd
    have hf1:=hg.fits
    rw [blks_step hxy,List.length_cons]
    generalize hk:L - gB L x y=k at *
    have hkL:k≤L:=by omega
    have hp2:=two_pos k
    rcases Nat.lt_or_ge k L with hkl | hkl
    ·by_cases ha:2 ^ (k + 1) ∣ x
     ·have hnf:¬ x + (2 ^ (k + 1) - 1)≤y:=fun h => by
       have:=gB_top (L:=L) (x:=x) (y:=y) (j:=k + 1) (by omega) ha h
       omega
      rw [Nat.pow_succ] at hnf
      have:=blks_down (L:=L) (y:=y) k (x + 2 ^ k) hkL (Nat.dvd_add hd1 (Nat.dvd_refl _)) (by omega)
      omega
     ·have hd2:2 ^ (k + 1) ∣ x + 2 ^ k:=by
       obtain ⟨a,rfl⟩:=hd1
       rcases Nat.mod_two_eq_zero_or_one a with h0 | h0
       ·exfalso
        obtain ⟨b,rfl⟩:=Nat.dvd_of_mod_eq_zero h0
        exact ha ⟨b,by rw [Nat.pow_succ,Nat.mul_assoc]⟩
       ·refine ⟨(a + 1) / 2,?_⟩
        have:a + 1=2 * ((a + 1) / 2):=by omega
        rw [Nat.pow_succ,Nat.mul_assoc, ← this,Nat.mul_add,Nat.mul_one]
      have:=ih (L - (k + 1)) (by omega) (k + 1) (x + 2 ^ k) rfl (by omega) (by omega) hd2
      omega
    ·obtain rfl:k=L:=by omega
     rw [blks_stop (by omega)]
     simp
theorem blks_len {p:Sp} (h:VR p):(blks (LN p.1) p.1 p.2).length≤257:=by
 have key:∀ L F,L≤128→p.2 < F + 2 ^ L→F≤p.1→(blks L p.1 p.2).length≤257:=fun L F hL h1 h2 => by
  have:=blks_up h1 L 0 p.1 rfl (Nat.zero_le _) h2 (by rw [Nat.pow_zero];exact Nat.one_dvd _)
  omega
 unfold LN
 rcases h.a.cases with ⟨a,_,_,d⟩ | ⟨a,b,_⟩
 ·have hn:¬ 2 ^ 128≤p.1:=of_decide_eq_false a
  rw [if_neg hn]
  refine key 32 0 (by decide) ?_ (Nat.zero_le _)
  rcases h.b.cases with ⟨a',_,_,d'⟩ | ⟨a',_⟩
  ·omega
  ·rw [h.s,a'] at a;cases a
 ·have hn:2 ^ 128≤p.1:=of_decide_eq_true a
  rw [if_pos hn]
  refine key 128 (2 ^ 128) (by decide) ?_ hn
  rcases h.b with hb | ⟨_,hb⟩
  ·have:=h.le
   have:(2:Nat) ^ 32≤2 ^ 128:=by decide
   omega
  ·have:(2:Nat) ^ 129=2 ^ 128 + 2 ^ 128:=by decide
   omega
theorem allB_crude:∀ {S:List Sp},(∀ p ∈ S,VR p)→(allB S).length≤257 * S.length
 | [],_ => Nat.zero_le _
 | p :: S,h => by
   have h1:=blks_len (h p (List.mem_cons_self ..))
   have h2:=allB_crude (S:=S) fun q hq => h q (List.mem_cons_of_mem _ hq)
   unfold allB at h2 ⊢
   rw [List.flatMap_cons,List.length_append,List.length_cons]
   omega
theorem blk_vn {p:Sp} (h:VR p) {x:Nat} (h1:p.1≤x) (h2:x≤p.2):VN x∧LN x=LN p.1∧sixN x=sixN p.1:=by
 have e32:(2:Nat) ^ 32≤2 ^ 128:=by decide
 rcases h.a.cases with ⟨a,_,_,d⟩ | ⟨a,b,_⟩
 ·have hn:¬ 2 ^ 128≤p.1:=of_decide_eq_false a
  rcases h.b.cases with ⟨a',_,_,d'⟩ | ⟨a',_⟩
  ·have hx:¬ 2 ^ 128≤x:=by omega
   refine ⟨.inl (by omega),?_,?_⟩
   ·unfold LN;rw [if_neg hx,if_neg hn]
   ·rw [a];exact decide_eq_false hx
  ·rw [h.s,a'] at a;cases a
 ·have hn:2 ^ 128≤p.1:=of_decide_eq_true a
  have hx:2 ^ 128≤x:=by omega
  refine ⟨.inr ⟨hx,?_⟩,?_,?_⟩
  ·rcases h.b with hb | ⟨_,hb⟩ <;> omega
  ·unfold LN;rw [if_pos hx,if_pos hn]
  ·rw [a];exact decide_eq_true hx
open Go.RowKit Go
def pfOf (c:Nat × Nat):Pf:=(sixN c.1,hiN c.1,loN c.1,(c.2:Int))
def pfs (S:List Sp):List Pf:=(allB S).map pfOf
def vlen:Value→Nat
 | .slice _ n _ => n
 | _ => 0
theorem OwnK.vlen {α:Type} {E:Lay α} {w:World} {B:Nat} {v:Value} {L:List α} (h:OwnK E w B v L):vlen v=L.length:=by
 obtain ⟨ad,c,rfl,_⟩:=h.form
 rfl
theorem own_far {w:World} {base:Nat} {e:TypeId} {size:Nat} {v:Value} {n:Nat} {xs:List Value} {b:Nat} {t:TypeId} {cs:Array Value} (h:w.ownsRow base e size v n xs) (hb:Blk w b t cs) (hne:e ≠ t) (i:Nat) (u:Value):(w.setCell ⟨b,i,none⟩ u).ownsRow base e size v n xs:=by
 rcases h with ⟨hl,hv | ⟨g,c,cur,rfl,hbase,hg,hc,hm,hs,ht⟩⟩
 ·exact ⟨hl, .inl hv⟩
 ·refine ⟨hl, .inr ⟨g,c,cur,rfl,hbase,?_,hc,hm,hs,ht⟩⟩
  rw [Below.heap_setCell w ⟨b,i,none⟩ u g (by
   rintro rfl
   unfold Blk at hb
   rw [hg] at hb
   injection hb with hb
   injection hb with _ hb
   exact hne hb)]
  exact hg
theorem OwnK.far {α:Type} {E:Lay α} {w:World} {B:Nat} {v:Value} {L:List α} {b:Nat} {t:TypeId} {cs:Array Value} (h:OwnK E w B v L) (hb:Blk w b t cs) (hne:E.ty ≠ t) (i:Nat) (u:Value):OwnK E (w.setCell ⟨b,i,none⟩ u) B v L:=own_far h hb hne i u
theorem Blk.grew {w w':World} {b:Nat} {t:TypeId} {cs:Array Value} {base:Nat} {e:TypeId} {size:Nat} {v v':Value} {n:Nat} {xs:List Value} (hb:Blk w b t cs) (h:w.ownsRow base e size v n xs) (hne:e ≠ t) (hG:Grew w w' v v'):Blk w' b t cs:=by
 refine (hG.g.block b hb.lt ?_).trans hb
 rcases h with ⟨hl,⟨rfl,_⟩ | ⟨g,c,cur,rfl,hbase,hg,hc,hm,hs,ht⟩⟩
 ·simp [Value.ownBlock]
 ·intro he
  have:b=g:=by simpa [Value.ownBlock] using he
  subst this
  unfold Blk at hb
  rw [hg] at hb
  injection hb with hb
  injection hb with _ hb
  exact hne hb
theorem allB_take {S:List Sp} {k:Nat} {p:Sp} (hp:S[k]?=some p):allB (S.take (k + 1))=allB (S.take k) ++ blks (LN p.1) p.1 p.2:=by
 have hlt:=(List.getElem?_eq_some_iff.1 hp).1
 have e:S[k]=p:=by rw [List.getElem?_eq_getElem hlt] at hp;injection hp
 unfold allB
 rw [List.take_succ_eq_append_getElem hlt,List.flatMap_append,e]
 simp
def remB (left:Bool) (L x y:Nat):List (Nat × Nat):=if left=true then blks L x y else []
theorem remB_stop {left:Bool} {L x y:Nat} (h:left=true→y < x):remB left L x y=[]:=by
 unfold remB
 cases left
 ·rfl
 ·rw [if_pos rfl];exact blks_stop (h rfl)
theorem remB_step {p:Sp} (h:VR p) {x:Nat} (h1:p.1≤x) (h2:x≤p.2) (F N:Nat) (hN:N=gB (LN p.1) x p.2) (hF:F=fil x (LN x - N)) :
  VN F∧N≤LN x∧remB true (LN p.1) x p.2=(x,N) :: remB (!decide (F=topN F)) (LN p.1) (if F=topN F then F else F + 1) p.2∧VN (if F=topN F then F else F + 1)∧p.1≤(if F=topN F then F else F + 1):=by
 obtain ⟨hv,hl,hsx⟩:=blk_vn h h1 h2
 have hg:=gB_ok (L:=LN p.1) h2
 rw [← hN] at hg
 have hle:N≤LN x:=by rw [hl];exact hg.le
 have hFv:VN F:=by rw [hF];exact VN_fil hv hle
 have hFx:F=x + (2 ^ (LN p.1 - N) - 1):=by rw [hF,hl];exact hg.fil
 have hp:=two_pos (LN p.1 - N)
 have hst:remB true (LN p.1) x p.2=(x,N) :: blks (LN p.1) (F + 1) p.2:=by
  show (if true=true then _ else _)=_
  rw [if_pos rfl,blks_step h2, ← hN,show x + 2 ^ (LN p.1 - N)=F + 1 by omega]
 refine ⟨hFv,hle,?_,?_,?_⟩
 ·rw [hst]
  by_cases ht:F=topN F
  ·rw [if_pos ht,decide_eq_true ht]
   have hy:p.2≤F:=by
    have h6:sixN p.2=sixN F:=by
     rw [← h.s, ← hsx,hF]
     exact (fil_six hv hle).symm
    have:=le_top h.b
    rw [six_of_le h.b hFv h6, ← ht] at this
    exact this
   rw [blks_stop (by omega)]
   rfl
  ·rw [if_neg ht,decide_eq_false ht]
   rfl
 ·by_cases ht:F=topN F
  ·rw [if_pos ht];exact hFv
  ·rw [if_neg ht];exact (next_num hFv ht).1
 ·by_cases ht:F=topN F
  ·rw [if_pos ht];omega
  ·rw [if_neg ht];omega
theorem gN_hit {L x y n:Nat} (h:clr x (L - n)=x∧fil x (L - n)≤y):gN L x y (n + 1)=gN L x y n:=by
 rw [gN,if_pos h]
theorem gN_miss {L x y n:Nat} (h:¬ (clr x (L - n)=x∧fil x (L - n)≤y)):gN L x y (n + 1)=n + 1:=by
 rw [gN,if_neg h]
theorem prefixes_any (ad:Option Addr) (n c:Nat) (S:List Sp) (w:World) (h:RdK layRg w ad S) (hn:S.length=n) (hs:n≤100000) (hv:∀ p ∈ S,VR p) :
  Calls Tryz.prog 91 #[.slice ad n c] w fun e w' => ∃ v,e=.returned v∧OwnK layPf w' w.heap.size v (pfs S)∧Below w.heap.size w w':=by
 have Hv:=Lib.hid hv
 have H0:=Lib.hid h
 have Hn:=Lib.hid hn
 have HT:=Lib.hid (allB_crude hv)
 rw [hn] at HT
 clear h hn hv
 go_enter Tryz.func91,Tryz.ntmps91
 go_wp2_with fail
 go_loopw [3,5,6,7,8,11] (fun out s5 s6 s7 s8 i wr => ∃ k:Nat,k≤n∧i=.int .i64 (k:Int)∧Hid (OwnK layPf wr w.heap.size out (pfs (S.take k)))∧Hid (Below w.heap.size w wr)) (fun _ _ _ _ _ i _ => n - (intOf i).toNat)
 case atStart => exact ⟨0,Nat.zero_le _,rfl,Lib.hid (OwnK.nil _ _ _),Lib.hid (Below.refl _ _)⟩
 case round =>
  obtain ⟨k,hk,rfl,HO,HB⟩:=hrel
  by_cases hlt:k < n
  ·have hS:k < S.length:=by rw [Hn.out];exact hlt
   obtain ⟨p,hp⟩:∃ p,S[k]?=some p:=⟨_,List.getElem?_eq_getElem hS⟩
   obtain ⟨a1,a2,a3,a4,a5,a6,hpc,hp1,hp2,h1s,h2s⟩:=rg_cells p
   obtain ⟨g,o,had,hg,c0,c1,c2,c3,c4,c5⟩:=(H0.out.below HB.out).rg hp hpc
   subst had
   have HVp:=Lib.hid (Hv.out p (List.mem_of_getElem? hp))
   have HA1:Hid (allB (S.take (k + 1))=allB (S.take k) ++ blks (LN p.1) p.1 p.2):=Lib.hid (allB_take hp)
   have HP1:=Lib.hid hp1
   have HP2:=Lib.hid hp2
   have HLn:Hid ((allB (S.take k)).length≤257 * 100000):=Lib.hid (by
    have:=allB_crude (S:=S.take k) fun q hq => Hv.out q (List.mem_of_mem_take hq)
    have h2:(S.take k).length≤k:=List.length_take_le _ _
    omega)
   have HLb:Hid ((blks (LN p.1) p.1 p.2).length≤257):=Lib.hid (blks_len HVp.out)
   clear hp hS hpc hp1 hp2 h1s h2s
   have HBr1:Hid (Blk ((wr.alloc (.cells #[.bool a1, .int .u64 (a2:Int), .int .u64 (a3:Int), .bool a4, .int .u64 (a5:Int), .int .u64 (a6:Int)] 92 (0,0))).alloc (.cells #[.bool a1, .int .u64 (a2:Int), .int .u64 (a3:Int)] 28 (0,0))) wr.heap.size 92 #[.bool a1, .int .u64 (a2:Int), .int .u64 (a3:Int), .bool a4, .int .u64 (a5:Int), .int .u64 (a6:Int)]):=Lib.hid ((Blk.new wr _ _).alloc _)
   have HBa1:Hid (Blk ((wr.alloc (.cells #[.bool a1, .int .u64 (a2:Int), .int .u64 (a3:Int), .bool a4, .int .u64 (a5:Int), .int .u64 (a6:Int)] 92 (0,0))).alloc (.cells #[.bool a1, .int .u64 (a2:Int), .int .u64 (a3:Int)] 28 (0,0))) (wr.heap.size + 1) 28 #[.bool a1, .int .u64 (a2:Int), .int .u64 (a3:Int)]):=Lib.hid (by
    have this:=Blk.new (wr.alloc (.cells #[.bool a1, .int .u64 (a2:Int), .int .u64 (a3:Int), .bool a4, .int .u64 (a5:Int), .int .u64 (a6:Int)] 92 (0,0))) 28 #[.bool a1, .int .u64 (a2:Int), .int .u64 (a3:Int)]
    rw [World.size_alloc] at this
    exact this)
   have HB1:Hid (Below w.heap.size w ((wr.alloc (.cells #[.bool a1, .int .u64 (a2:Int), .int .u64 (a3:Int), .bool a4, .int .u64 (a5:Int), .int .u64 (a6:Int)] 92 (0,0))).alloc (.cells #[.bool a1, .int .u64 (a2:Int), .int .u64 (a3:Int)] 28 (0,0)))):=Lib.hid (Below.alloc (Below.alloc HB.out HB.out.size _) (by have:=HB.out.size;simp;omega) _)
   have HO1:Hid (OwnK layPf ((wr.alloc (.cells #[.bool a1, .int .u64 (a2:Int), .int .u64 (a3:Int), .bool a4, .int .u64 (a5:Int), .int .u64 (a6:Int)] 92 (0,0))).alloc (.cells #[.bool a1, .int .u64 (a2:Int), .int .u64 (a3:Int)] 28 (0,0))) w.heap.size u3 ((allB (S.take k) ++ []).map pfOf)):=Lib.hid (by rw [List.append_nil];exact (HO.out.alloc _).alloc _)
   have hba:w.heap.size≤wr.heap.size:=HB.out.size
   go_upto_block 2 with fail
   generalize ((wr.alloc (.cells #[.bool a1, .int .u64 (a2:Int), .int .u64 (a3:Int), .bool a4, .int .u64 (a5:Int), .int .u64 (a6:Int)] 92 (0,0))).alloc (.cells #[.bool a1, .int .u64 (a2:Int), .int .u64 (a3:Int)] 28 (0,0)))=w3 at *
   generalize wr.heap.size=br at *
   clear HB HO c0 c1 c2 c3 c4 c5 hg
   go_wp2_with fail
   go_loopw [3,7,8] (fun out lf nn wx => ∃ (x:Nat) (left:Bool) (D:List (Nat × Nat)),lf=.bool left∧Hid (VN x)∧Hid (p.1≤x)∧Hid (OwnK layPf wx w.heap.size out ((allB (S.take k) ++ D).map pfOf))∧Hid (D ++ remB left (LN p.1) x p.2=blks (LN p.1) p.1 p.2)∧Hid (Blk wx br 92 #[.bool a1, .int .u64 (a2:Int), .int .u64 (a3:Int), .bool a4, .int .u64 (a5:Int), .int .u64 (a6:Int)])∧Hid (Blk wx (br + 1) 28 (aN x))∧Hid (Below w.heap.size w wx)) (fun out _ _ _ => (allB (S.take k)).length + 257 - vlen out)
   case atStart => exact ⟨p.1,true, [],rfl,Lib.hid HVp.out.a,Lib.hid (Nat.le_refl _),HO1,Lib.hid rfl,HBr1,Lib.hid (by rw [HP1.out];exact HBa1.out),HB1⟩
   case round =>
    clear HO1 HBr1 HBa1 HB1
    obtain ⟨x,left,D,rfl,HVx,Hx1,HO,HD,HBr,HBa,HB⟩:=hrel
    have HC:=Lib.hid fun wx => spanCompareN wx HVx.out HVp.out.b
    have HCl:=Lib.hid (cN_le x p.2)
    have HLe:=Lib.hid fun wx => lengthN x wx
    have HE:Hid (aN x=#[.bool (sixN x), .int .u64 ((hiN x:Nat):Int), .int .u64 ((loN x:Nat):Int)]):=Lib.hid rfl
    generalize sixN x=x1 at *
    generalize hiN x=x2 at *
    generalize loN x=x3 at *
    rw [HE.out] at HC HLe HBa
    rw [HP2.out] at HC
    have hFin:∀ out wx,OwnK layPf wx w.heap.size out ((allB (S.take k) ++ D).map pfOf)→remB left (LN p.1) x p.2=[]→OwnK layPf wx w.heap.size out (pfs (S.take (k + 1))):=fun out wx h1 h2 => by
     have e:=HD.out
     rw [h2,List.append_nil] at e
     unfold pfs
     rw [HA1.out, ← e]
     exact h1
    have HFin:=Lib.hid hFin
    clear hFin
    have p0:=HBa.out.cell 0
    have p1:=HBa.out.cell 1
    have p2:=HBa.out.cell 2
    simp at p0 p1 p2
    have r3:=HBr.out.cell 3
    have r4:=HBr.out.cell 4
    have r5:=HBr.out.cell 5
    simp at r3 r4 r5
    cases left
    ·have HO2:=Lib.hid (HFin.out _ _ HO.out rfl)
     clear HFin HC HCl HLe HE
     go_wp2_with fail
     exact ⟨⟨k + 1,by omega,by go_num,HO2,HB⟩,by simp [intOf];omega⟩
    ·generalize cN x p.2=C at *
     go_wp2_with fail
     refine (HC.out _).mono ?_
     rintro e w4 ⟨rfl,hb⟩
     have HBr4:=Lib.hid (HBr.out.below hb.b HBr.out.lt)
     have HBa4:=Lib.hid (HBa.out.below hb.b HBa.out.lt)
     have HO4:=Lib.hid (HO.out.later hb.b)
     have HB4:=Lib.hid (HB.out.trans (hb.b.mono HB.out.size))
     clear hb HC HBr HBa HO HB p0 p1 p2 r3 r4 r5
     by_cases hle:x≤p.2
     ·have hC0:C≤0:=HCl.out.2 hle
      have HLen:=Lib.hid (blk_vn HVp.out Hx1.out hle).2.1
      have HM:=Lib.hid fun m wx (hm:m≤LN x) => maskedN (n:=m) wx HVx.out hm
      have HF:=Lib.hid fun m wx (hm:m≤LN x) => filledN (n:=m) wx HVx.out hm
      have HEq:=Lib.hid fun m (hm:m≤LN x) wx => aN_eql (VN_clr HVx.out hm) HVx.out wx
      have HCF:=Lib.hid fun m wx (hm:m≤LN x) => spanCompareN wx (VN_fil HVx.out hm) HVp.out.b
      rw [HE.out] at HM HF HEq
      rw [HP2.out] at HCF
      have q0:=HBa4.out.cell 0
      have q1:=HBa4.out.cell 1
      have q2:=HBa4.out.cell 2
      simp at q0 q1 q2
      go_upto_region 7 with fail
      go_wp2_with fail
      refine (HLe.out _).mono ?_
      rintro e w5 ⟨rfl,hb⟩
      have HBr5:=Lib.hid (HBr4.out.below hb HBr4.out.lt)
      have HBa5:=Lib.hid (HBa4.out.below hb HBa4.out.lt)
      have HO5:=Lib.hid (HO4.out.later hb)
      have HB5:=Lib.hid (HB4.out.trans (hb.mono HB4.out.size))
      clear hb HBr4 HBa4 HO4 HB4 q0 q1 q2 HLe
      go_upto_block 4 with fail
      go_cut [8] (fun nn wx => nn=.int .i64 ((gB (LN x) x p.2:Nat):Int)∧Below w5.heap.size w5 wx)
      case first =>
       as_aux_lemma =>
        clear HFin HO5 HB5 HD HLb HLn HT
        go_wp2_with fail
        go_loopw [8] (fun nn wx => ∃ m:Nat,m≤LN x∧nn=.int .i64 (m:Int)∧Hid (gN (LN x) x p.2 m=gB (LN x) x p.2)∧Hid (Below w5.heap.size w5 wx)) (fun nn _ => (intOf nn).toNat)
        case atStart => exact ⟨LN x,Nat.le_refl _,rfl,Lib.hid rfl,Lib.hid (Below.refl _ _)⟩
        case round =>
         obtain ⟨m,hm,rfl,HG,HBx⟩:=hrel
         have HBr6:=Lib.hid (HBr5.out.below HBx.out HBr5.out.lt)
         have HBa6:=Lib.hid (HBa5.out.below HBx.out HBa5.out.lt)
         have q0:=HBa6.out.cell 0
         have q1:=HBa6.out.cell 1
         have q2:=HBa6.out.cell 2
         simp at q0 q1 q2
         have r3:=HBr6.out.cell 3
         have r4:=HBr6.out.cell 4
         have r5:=HBr6.out.cell 5
         simp at r3 r4 r5
         have l0:=Later.cell_of q0
         have l1:=Later.cell_of q1
         have l2:=Later.cell_of q2
         have l3:=Later.cell_of r3
         have l4:=Later.cell_of r4
         have l5:=Later.cell_of r5
         by_cases hm0:m=0
         ·subst hm0
          have HG2:Hid (0=gB (LN x) x p.2):=Lib.hid HG.out
          have z0:((0:Nat):Int)=0:=rfl
          rw [z0]
          go_wp2_with fail
          refine wp_region_later (by kernel_rfl) (by kernel_rfl) ?_
          repeat (go_big_quiet_step (fail))
          refine wpQuiet_nil ?_
          rintro w6 ⟨n6,hn6⟩
          have hb:Below wr.heap.size wr w6:=by rw [hn6];exact n6.2
          clear hn6 n6
          have HBy:=Lib.hid (HBx.out.trans (hb.mono HBx.out.size))
          clear hb
          go_wp2_with fail
          go_meet
          case rel => exact ⟨by rw [← HG2.out];rfl,HBy.out⟩
         ·obtain ⟨j,hj⟩:∃ j,m=j + 1:=⟨m - 1,by omega⟩
          have hjL:j≤LN x:=by omega
          have e1:(m:Int) - 1=(j:Int):=by omega
          have g1:decide (0 < m)=true:=decide_eq_true (by omega)
          have g2:(m:Int)≤128:=by
           have:LN x≤128:=by rw [LN_six];exact lenN_le _
           omega
          have HGm:Hid (gN (LN x) x p.2 (j + 1)=gB (LN x) x p.2):=Lib.hid (by rw [← hj];exact HG.out)
          have HJm:=Lib.hid hj
          have hM:=fun X:Later wr => Calls.later X (HM.out j X.1 hjL)
          have hEq:=HEq.out j hjL
          have hF:=fun X:Later wr => Calls.later X (HF.out j X.1 hjL)
          have hCF:=fun X:Later wr => Calls.later X ((HCF.out j X.1 hjL).mono fun _ _ h => h.ret)
          have HCl2:=Lib.hid (cN_le (fil x (LN x - j)) p.2)
          clear hj HG hm0 hm
          by_cases hc1:clr x (LN x - j)=x
          ·have Hc1:=Lib.hid hc1
           rw [decide_eq_true hc1] at hEq
           clear hc1
           generalize aN (clr x (LN x - j))=CV at *
           by_cases hc2:fil x (LN x - j)≤p.2
           ·have hC2:cN (fil x (LN x - j)) p.2≤0:=HCl2.out.2 hc2
            have HG2:Hid (gN (LN x) x p.2 j=gB (LN x) x p.2):=Lib.hid (by rw [← HGm.out,gN_hit ⟨Hc1.out,hc2⟩])
            clear hc2 HCl2 HGm Hc1
            generalize cN (fil x (LN x - j)) p.2=C2 at *
            generalize aN (fil x (LN x - j))=FW at *
            go_wp2_with fail
            refine wp_region_later (by kernel_rfl) (by kernel_rfl) ?_
            repeat (go_big_quiet_step (first | (go_at_call 104;exact hM _) | (go_at_call 127;exact hF _) | (go_at_call 116;exact hCF _)))
            refine wpQuiet_nil ?_
            rintro w6 ⟨n6,hn6⟩
            have hb:Below wr.heap.size wr w6:=by rw [hn6];exact n6.2
            clear hn6 n6
            have HBy:=Lib.hid (HBx.out.trans (hb.mono HBx.out.size))
            clear hb
            clear hM hEq hF hCF l0 l1 l2 l3 l4 l5 q0 q1 q2 r3 r4 r5
            go_wp2_with fail
            exact ⟨⟨j,hjL,rfl,HG2,HBy⟩,by simp [intOf];omega⟩
           ·have hC2:¬ cN (fil x (LN x - j)) p.2≤0:=fun h => hc2 (HCl2.out.1 h)
            have HG2:Hid (m=gB (LN x) x p.2):=Lib.hid (by rw [← HGm.out,gN_miss (fun h => hc2 h.2),HJm.out])
            clear hc2 HCl2 HGm Hc1
            generalize cN (fil x (LN x - j)) p.2=C2 at *
            generalize aN (fil x (LN x - j))=FW at *
            go_wp2_with fail
            refine wp_region_later (by kernel_rfl) (by kernel_rfl) ?_
            repeat (go_big_quiet_step (first | (go_at_call 104;exact hM _) | (go_at_call 127;exact hF _) | (go_at_call 116;exact hCF _)))
            refine wpQuiet_nil ?_
            rintro w6 ⟨n6,hn6⟩
            have hb:Below wr.heap.size wr w6:=by rw [hn6];exact n6.2
            clear hn6 n6
            have HBy:=Lib.hid (HBx.out.trans (hb.mono HBx.out.size))
            clear hb
            clear hM hEq hF hCF l0 l1 l2 l3 l4 l5 q0 q1 q2 r3 r4 r5
            go_wp2_with fail
            go_meet
            case rel => exact ⟨by rw [← HG2.out],HBy.out⟩
          ·have HG2:Hid (m=gB (LN x) x p.2):=Lib.hid (by rw [← HGm.out,gN_miss (fun h => hc1 h.1),HJm.out])
           rw [decide_eq_false hc1] at hEq
           clear hc1 HGm HCl2
           generalize aN (clr x (LN x - j))=CV at *
           go_wp2_with fail
           refine wp_region_later (by kernel_rfl) (by kernel_rfl) ?_
           repeat (go_big_quiet_step (first | (go_at_call 104;exact hM _) | (go_at_call 127;exact hF _) | (go_at_call 116;exact hCF _)))
           refine wpQuiet_nil ?_
           rintro w6 ⟨n6,hn6⟩
           have hb:Below wr.heap.size wr w6:=by rw [hn6];exact n6.2
           clear hn6 n6
           have HBy:=Lib.hid (HBx.out.trans (hb.mono HBx.out.size))
           clear hb
           clear hM hEq hF hCF l0 l1 l2 l3 l4 l5 q0 q1 q2 r3 r4 r5
           go_wp2_with fail
           go_meet
           case rel => exact ⟨by rw [← HG2.out],HBy.out⟩
      case rest =>
       as_aux_lemma =>
        obtain ⟨rfl,hb⟩:=hcut
        have HBr6:=Lib.hid (HBr5.out.below hb HBr5.out.lt)
        have HBa6:=Lib.hid (HBa5.out.below hb HBa5.out.lt)
        have HO6:=Lib.hid (HO5.out.later hb)
        have HB6:=Lib.hid (HB5.out.trans (hb.mono HB5.out.size))
        clear hb HBr5 HBa5 HO5 HB5 HM HEq HCF HFin HCl hC0
        obtain ⟨N,hN⟩:∃ N,gB (LN x) x p.2=N:=⟨_,rfl⟩
        have hst:=remB_step HVp.out Hx1.out hle (fil x (LN x - N)) N (by rw [← hN,HLen.out]) rfl
        rw [hN]
        clear hN
        obtain ⟨hFv,hNl,hRm,hV',hx'⟩:=hst
        have HFi:=Lib.hid fun wx => HF.out N wx hNl
        have HNx:=Lib.hid fun wx => nextN wx hFv
        obtain ⟨x',hxe⟩:∃ x',(if fil x (LN x - N)=topN (fil x (LN x - N)) then fil x (LN x - N) else fil x (LN x - N) + 1)=x':=⟨_,rfl⟩
        rw [hxe] at HNx hRm hV' hx'
        obtain ⟨left',hle'⟩:∃ left',(!decide (fil x (LN x - N)=topN (fil x (LN x - N))))=left':=⟨_,rfl⟩
        rw [hle'] at HNx hRm
        have HRm:=Lib.hid hRm
        have HV':=Lib.hid hV'
        have Hx':=Lib.hid hx'
        have HE':Hid (aN x'=#[.bool (sixN x'), .int .u64 ((hiN x':Nat):Int), .int .u64 ((loN x':Nat):Int)]):=Lib.hid rfl
        generalize aN (fil x (LN x - N))=FA at *
        have hNb:N≤128:=Nat.le_trans hNl (by rw [LN_six];exact lenN_le _)
        clear hFv hNl hRm hV' hx' hxe hle' HF hle
        generalize sixN x'=v1 at *
        generalize hiN x'=v2 at *
        generalize loN x'=v3 at *
        rw [HE'.out] at HNx
        have HDl:Hid (D.length + 1≤257):=Lib.hid (by
         have e:=congrArg List.length HD.out
         rw [HRm.out,List.length_append,List.length_cons] at e
         have:=HLb.out
         omega)
        obtain ⟨LL,hLL⟩:∃ LL,(allB (S.take k) ++ D).map pfOf=LL:=⟨_,rfl⟩
        have hLn:LL.length=(allB (S.take k)).length + D.length:=by rw [← hLL,List.length_map,List.length_append]
        rw [hLL] at HO6
        have HLL:=Lib.hid hLL
        have HLn2:=Lib.hid hLn
        have HOl:=Lib.hid HO6.out.vlen
        clear hLL hLn
        have q0:=HBa6.out.cell 0
        have q1:=HBa6.out.cell 1
        have q2:=HBa6.out.cell 2
        simp at q0 q1 q2
        go_wp2_with (at_builtin;refine wpList_app pfE rfl (.tmp 49) (.tmp 53) rfl rfl (World.ownsRow.alloc HO6.out _) rfl (src_new layPf _ (pfOf (x,N)) _ _ ?c0) ?c1 ?c2 ?c3 ?c4 ?_)
        case c0 =>
         show _=((aN x).toList ++ [Value.int .i64 (N:Int)]).toArray
         rw [HE.out]
         rfl
        case c1 => exact layPf.one _
        case c2 => unfold maxLen;have:=HLn.out;have:=HDl.out;rw [HLn2.out];omega
        case c3 => have:=HLn.out;have:=HDl.out;rw [HLn2.out];omega
        case c4 => have:=HB6.out.size;simp;omega
        intro v' w7 hO hG
        have HO7:Hid (OwnK layPf w7 w.heap.size v' ((allB (S.take k) ++ (D ++ [(x,N)])).map pfOf)):=Lib.hid (by
         have:=OwnK.snoc hO
         rw [show (allB (S.take k) ++ (D ++ [(x,N)])).map pfOf=(allB (S.take k) ++ D).map pfOf ++ [pfOf (x,N)] by simp,HLL.out]
         exact this)
        have HBr7:=Lib.hid ((HBr6.out.alloc (.cells #[.bool x1, .int .u64 (x2:Int), .int .u64 (x3:Int), .int .i64 (N:Int)] 30 (0,0))).grew (World.ownsRow.alloc HO6.out _) (by decide) hG)
        have HBa7:=Lib.hid ((HBa6.out.alloc (.cells #[.bool x1, .int .u64 (x2:Int), .int .u64 (x3:Int), .int .i64 (N:Int)] 30 (0,0))).grew (World.ownsRow.alloc HO6.out _) (by decide) hG)
        have HB7:Hid (Below w.heap.size w w7):=Lib.hid ((Below.alloc HB6.out HB6.out.size _).trans (hG.below (by have:=HB6.out.size;simp;omega) (own_base HO6.out)))
        clear hO hG HO6 HBr6 HBa6 HB6 q0 q1 q2
        have q0:=HBa7.out.cell 0
        have q1:=HBa7.out.cell 1
        have q2:=HBa7.out.cell 2
        simp at q0 q1 q2
        go_wp2_with fail
        refine (HFi.out _).mono ?_
        rintro e w8 ⟨rfl,hb⟩
        have HBr8:=Lib.hid (HBr7.out.below hb HBr7.out.lt)
        have HBa8:=Lib.hid (HBa7.out.below hb HBa7.out.lt)
        have HO8:=Lib.hid (HO7.out.later hb)
        have HB8:=Lib.hid (HB7.out.trans (hb.mono HB7.out.size))
        clear hb HO7 HBr7 HBa7 HB7 q0 q1 q2 HFi
        go_wp2_with fail
        refine (HNx.out _).mono ?_
        rintro e w9 ⟨rfl,hb⟩
        have HBr9:=Lib.hid (HBr8.out.below hb HBr8.out.lt)
        have HBa9:=Lib.hid (HBa8.out.below hb HBa8.out.lt)
        have HO9:=Lib.hid (HO8.out.later hb)
        have HB9:=Lib.hid (HB8.out.trans (hb.mono HB8.out.size))
        clear hb HO8 HBr8 HBa8 HB8 HNx
        have q0:=HBa9.out.cell 0
        have q1:=HBa9.out.cell 1
        have q2:=HBa9.out.cell 2
        simp at q0 q1 q2
        have qf:=HBa9.out.free
        have HS:=Lib.hid (And.intro (((HBr9.out.far (show br ≠ br + 1 by omega) 0 (.bool v1)).far (show br ≠ br + 1 by omega) 1 (.int .u64 (v2:Int))).far (show br ≠ br + 1 by omega) 2 (.int .u64 (v3:Int))) (And.intro (((HBa9.out.set 0 (.bool v1)).set 1 (.int .u64 (v2:Int))).set 2 (.int .u64 (v3:Int))) (And.intro (((HO9.out.far HBa9.out (by decide) 0 (.bool v1)).far (HBa9.out.set 0 (.bool v1)) (by decide) 1 (.int .u64 (v2:Int))).far ((HBa9.out.set 0 (.bool v1)).set 1 (.int .u64 (v2:Int))) (by decide) 2 (.int .u64 (v3:Int))) (((HB9.out.setCell (p:=⟨br + 1,0,none⟩) (by simp only;omega) (.bool v1)).setCell (p:=⟨br + 1,1,none⟩) (by simp only;omega) (.int .u64 (v2:Int))).setCell (p:=⟨br + 1,2,none⟩) (by simp only;omega) (.int .u64 (v3:Int))))))
        have HD':Hid ((D ++ [(x,N)]) ++ remB left' (LN p.1) x' p.2=blks (LN p.1) p.1 p.2):=Lib.hid (by
         rw [List.append_assoc, ← HD.out,HRm.out]
         rfl)
        have HVl:=Lib.hid HO9.out.vlen
        clear HBr9 HBa9 HO9 HB9 HD HRm
        go_wp2_with fail
        refine ⟨⟨x',left',D ++ [(x,N)],rfl,HV',Hx',Lib.hid HS.out.2.2.1,HD',Lib.hid HS.out.1,Lib.hid (by rw [HE'.out];exact HS.out.2.1),Lib.hid HS.out.2.2.2⟩,?_⟩
        have m1:=HVl.out
        rw [List.length_map,List.length_append,List.length_append,List.length_singleton] at m1
        have m2:=HOl.out
        rw [HLn2.out] at m2
        have m3:=HDl.out
        simp
        omega
     ·have hC0:¬ C≤0:=fun h => hle (HCl.out.1 h)
      have HO5:=Lib.hid (HFin.out _ _ HO4.out (remB_stop fun _ => by omega))
      clear HFin HCl HLe HE
      go_wp2_with fail
      exact ⟨⟨k + 1,by omega,by go_num,HO5,HB4⟩,by simp [intOf];omega⟩
  ·obtain rfl:k=n:=by omega
   have hT:S.take k=S:=List.take_of_length_le (by rw [Hn.out];exact Nat.le_refl _)
   have HO2:Hid (OwnK layPf wr w.heap.size u3 (pfs S)):=Lib.hid (by have:=HO.out;rw [hT] at this;exact this)
   clear hT HO
   go_wp2_with fail
   go_ret
   exact ⟨_,rfl,HO2.out,HB.out⟩
theorem pf_ext (x y:Pf):(((x.1,((x.2.1:Nat):Int),((x.2.2.1:Nat):Int),x.2.2.2):Bool × Int × Int × Int)=(y.1,((y.2.1:Nat):Int),((y.2.2.1:Nat):Int),y.2.2.2)) ↔ x=y:=by
 constructor
 ·intro h
  have h1:=congrArg (·.1) h
  have h2:((x.2.1:Nat):Int)=((y.2.1:Nat):Int):=congrArg (·.2.1) h
  have h3:((x.2.2.1:Nat):Int)=((y.2.2.1:Nat):Int):=congrArg (·.2.2.1) h
  have h4:=congrArg (·.2.2.2) h
  exact Prod.ext h1 (Prod.ext (by show x.2.1=y.2.1;omega) (Prod.ext (by show x.2.2.1=y.2.2.1;omega) h4))
 ·rintro rfl;rfl
theorem pf_neq (x y:Pf) (w:World):(binOp .neq 30 (.agg #[.bool x.1, .int .u64 ((x.2.1:Nat):Int), .int .u64 ((x.2.2.1:Nat):Int), .int .i64 x.2.2.2]) (.agg #[.bool y.1, .int .u64 ((y.2.1:Nat):Int), .int .u64 ((y.2.2.1:Nat):Int), .int .i64 y.2.2.2])).run Tryz.prog w=.ok (.bool (!decide (x=y))) w:=by
 rw [pfx_neq,decide_eq_decide.2 (pf_ext x y)]
theorem equal_pf (a1 a2:Option Addr) (c1 c2:Nat) (xs ys:List Pf) (w:World) (h1:RdK layPf w a1 xs) (h2:RdK layPf w a2 ys) (hs1:xs.length≤1000000000) :
  Calls Tryz.prog 13 #[.slice a1 xs.length c1, .slice a2 ys.length c2] w fun e w' => e=.returned (.bool (decide (xs=ys)))∧∃ n,w'=w.drewN n:=by
 generalize hn:xs.length=n
 rw [hn] at hs1
 have H1:=Lib.hid h1
 have H2:=Lib.hid h2
 clear h1 h2
 by_cases hl:xs.length=ys.length
 ·rw [← hl,hn]
  have Hn:=Lib.hid hn
  have Hl:=Lib.hid hl
  clear hn hl
  go_enter Tryz.func13,Tryz.ntmps13
  go_wp2
  go_loopw [13] (fun i wr => ∃ (k q:Nat),k≤n∧i=.int .i64 k∧Hid (xs.take k=ys.take k)∧wr=w.drewN q) (fun i _ => n - (intOf i).toNat)
  case atStart => exact ⟨0,0,Nat.zero_le _,rfl,Lib.hid rfl,rfl⟩
  case round =>
   obtain ⟨k,q,hk,rfl,Heq,rfl⟩:=hrel
   by_cases hlt:k < n
   ·have hkx:k < xs.length:=by rw [Hn.out];exact hlt
    have hky:k < ys.length:=by rw [← Hl.out];exact hkx
    obtain ⟨x,hxk⟩:∃ x,xs[k]?=some x:=⟨_,List.getElem?_eq_getElem hkx⟩
    obtain ⟨y,hyk⟩:∃ y,ys[k]?=some y:=⟨_,List.getElem?_eq_getElem hky⟩
    have hx:xs.take (k + 1)=xs.take k ++ [x]:=by
     have e:xs[k]=x:=by rw [List.getElem?_eq_getElem hkx] at hxk;injection hxk
     rw [List.take_succ_eq_append_getElem hkx,e]
    have hy:ys.take (k + 1)=ys.take k ++ [y]:=by
     have e:ys[k]=y:=by rw [List.getElem?_eq_getElem hky] at hyk;injection hyk
     rw [List.take_succ_eq_append_getElem hky,e]
    have hne:xs=ys→x=y:=by
     rintro rfl
     rw [hxk] at hyk
     injection hyk
    have Hx:=Lib.hid hx
    have Hy:=Lib.hid hy
    have Hne:=Lib.hid hne
    obtain ⟨g1,o1,e1,hg1,c10,c11,c12,c13⟩:=H1.out.pf hxk rfl
    obtain ⟨g2,o2,e2,hg2,c20,c21,c22,c23⟩:=H2.out.pf hyk rfl
    have np:=fun w => pf_neq x y w
    subst e1 e2
    clear hx hy hne hkx hky hxk hyk hg1 hg2
    generalize x.1=x0 at *
    generalize x.2.1=x1 at *
    generalize x.2.2.1=x2 at *
    generalize x.2.2.2=x3 at *
    generalize y.1=y0 at *
    generalize y.2.1=y1 at *
    generalize y.2.2.1=y2 at *
    generalize y.2.2.2=y3 at *
    by_cases hxy:x=y
    ·rw [decide_eq_true hxy] at np
     have Hxy:=Lib.hid hxy
     clear hxy
     go_wp2_with fail
     go_quiet (fail)
     go_wp2_with fail
     refine ⟨⟨k + 1,_,by omega,by go_num,Lib.hid ?_,rfl⟩,by simp [intOf];omega⟩
     rw [Hx.out,Hy.out,Heq.out,Hxy.out]
    ·rw [decide_eq_false hxy] at np
     have Hxy:Hid (decide (xs=ys)=false):=Lib.hid (decide_eq_false fun e => hxy (Hne.out e))
     clear hxy
     go_wp2_with fail
     go_quiet (fail)
     go_wp2_with fail
     go_ret
     exact ⟨by rw [Hxy.out];rfl,q + nq,by rw [World.drewN_drewN]⟩
   ·obtain rfl:k=n:=by omega
    have hxy:xs=ys:=by
     have:=Heq.out
     rwa [List.take_of_length_le (by rw [Hn.out];exact Nat.le_refl _),List.take_of_length_le (by rw [← Hl.out,Hn.out];exact Nat.le_refl _)] at this
    have Hxy:=Lib.hid hxy
    clear hxy
    go_wp2
    go_ret
    exact ⟨by simp [Hxy.out],_,rfl⟩
 ·have hxy:xs ≠ ys:=fun e => hl (by rw [e])
  have Hxy:=Lib.hid hxy
  have hnb:((n:Int) != (ys.length:Int))=true:=by rw [bne_iff_ne];omega
  have hnb2:n ≠ ys.length:=by omega
  clear hxy hn hl
  go_enter Tryz.func13,Tryz.ntmps13
  go_wp2
  go_ret
  exact ⟨by simp [Hxy.out],0,rfl⟩
def firstN (f:Nat→Int) (n:Nat):Int:=(((List.range n).map f).find? (· != 0)).getD 0
theorem firstN_hit (f:Nat→Int):∀ (n k:Nat),k < n→(∀ j,j < k→f j=0)→f k ≠ 0→firstN f n=f k:=by
 intro n
 induction n with
 | zero => intro k hk;omega
 | succ n ih =>
   intro k hk h0 hne
   unfold firstN at ih ⊢
   rw [List.range_succ,List.map_append,List.find?_append]
   rcases Nat.lt_or_ge k n with hlt | hge
   ·have:=ih k hlt h0 hne
    cases hf:((List.range n).map f).find? (· != 0) with
    | none => rw [hf] at this;exact absurd this.symm hne
    | some x => rw [hf] at this;simpa using this
   ·obtain rfl:k=n:=by omega
    have hf:((List.range k).map f).find? (· != 0)=none:=by
     rw [List.find?_eq_none]
     intro x hx
     obtain ⟨j,hj,rfl⟩:=List.mem_map.1 hx
     simp [h0 j (List.mem_range.1 hj)]
    rw [hf]
    simp [hne]
theorem firstN_none (f:Nat→Int) (n:Nat) (h0:∀ j,j < n→f j=0):firstN f n=0:=by
 unfold firstN
 have hf:((List.range n).map f).find? (· != 0)=none:=by
  rw [List.find?_eq_none]
  intro x hx
  obtain ⟨j,hj,rfl⟩:=List.mem_map.1 hx
  simp [h0 j (List.mem_range.1 hj)]
 rw [hf]
 rfl
theorem firstN_zero {f:Nat→Int} {n:Nat} (h:firstN f n=0):∀ j,j < n→f j=0:=by
 intro j
 induction j using Nat.strongRecOn with
 | _ j ih =>
   intro hj
   rcases Classical.em (f j=0) with h0 | h0
   ·exact h0
   ·rw [firstN_hit f n j hj (fun i hi => ih i hi (by omega)) h0] at h
    exact absurd h h0
def pfF (p:Pf):Int:=pFault p.1 p.2.1 p.2.2.1 p.2.2.2
def zPf:Pf:=(false,0,0,0)
def U4 (L:List Pf):Prop:=∀ p ∈ L,U64N p.2.1∧U64N p.2.2.1
def lst (L:List Pf):List Pf:=pfs (jn (L.map spP))
theorem jn_vr {L:List Sp} (hv:∀ p ∈ L,VR p):∀ p ∈ jn L,VR p:=by
 have hs:=jn_srt L
 have hp:=jn_perm L
 have:=(vr_take hs (fun p h => hv p (hp.mem_iff.1 h)) _ (Nat.le_refl _)).1
 rw [List.take_length] at this
 exact this
theorem sps_vr {L:List Pf} (hv:∀ p ∈ L,OkPf p):∀ p ∈ jn (L.map spP),VR p:=jn_vr fun p hp => by
 obtain ⟨q,hq,rfl⟩:=List.mem_map.1 hp
 exact (hv q hq).vr
theorem jn_len (L:List Sp):(jn L).length≤L.length:=by
 unfold jn joinL
 have:=fold_len (L.mergeSort fun p q => decide (p.1≤q.1)) []
 rw [(jn_perm L).length_eq] at this
 simpa using this
theorem lst_len {L:List Pf} (hv:∀ p ∈ L,OkPf p):(lst L).length≤L.length:=by
 have hvr:∀ p ∈ L.map spP,VR p:=fun p hp => by
  obtain ⟨q,hq,rfl⟩:=List.mem_map.1 hp
  exact (hv q hq).vr
 have:=allB_len (jn_joined fun p hp => (hvr p hp).le) (fun p hp => by
  obtain ⟨q,hq,rfl⟩:=List.mem_map.1 hp
  exact ⟨_,(hv q hq).sp⟩) (fun c hc => by
  have:=jn_vr hvr c hc
  rw [LN_six,LN_six,this.s])
 rw [List.length_map] at this
 unfold lst pfs
 rw [List.length_map]
 exact this
theorem ok_block {x n:Nat} (hv:VN x) (hn:n≤LN x) (hd:2 ^ (LN x - n) ∣ x):OkPf (pfOf (x,n))∧nuP (pfOf (x,n))=x∧spP (pfOf (x,n))=(x,x + (2 ^ (LN x - n) - 1)):=by
 have ha:=ok_aN hv
 have hln:n≤lenN (sixN x):=by rw [← LN_six];exact hn
 have hc:clr x (LN x - n)=x:=clr_dvd.2 hd
 have hm:=mask_num (n:=n) ha
 rw [num_aN hv, ← LN_six,hc] at hm
 have h1:=aN_num (mask_aok ha hln)
 rw [hm] at h1
 have hnu:nuP (pfOf (x,n))=x:=num_aN hv
 have hP:POK (sixN x) (hiN x) (loN x) n:=⟨ha,hln,h1.2.2.1.symm,h1.2.2.2.symm⟩
 refine ⟨⟨rfl,hP⟩,hnu,?_⟩
 unfold spP
 rw [hnu]
 show (x,fil x (LN x - n))=_
 rw [fil_of hd]
theorem mem_allB {S:List Sp} (hv:∀ p ∈ S,VR p) {c:Nat × Nat} (hc:c ∈ allB S):VN c.1∧c.2≤LN c.1∧2 ^ (LN c.1 - c.2) ∣ c.1∧∃ p ∈ S,LN c.1=LN p.1∧p.1≤c.1∧c.1 + (2 ^ (LN c.1 - c.2) - 1)≤p.2:=by
 obtain ⟨p,hp,hc⟩:=List.mem_flatMap.1 hc
 obtain ⟨h1,h2,h3⟩:=(blks_ok (LN p.1) p.1 p.2).each c hc
 obtain ⟨v,l,s⟩:=blk_vn (hv p hp) h1 h2
 refine ⟨v,?_,?_,p,hp,l,h1,?_⟩
 ·rw [l];exact h3.le
 ·rw [l];exact h3.dvd
 ·rw [l];exact h3.fits
theorem okPf_pfs {S:List Sp} (hv:∀ p ∈ S,VR p):∀ q ∈ pfs S,OkPf q:=fun q hq => by
 obtain ⟨c,hc,rfl⟩:=List.mem_map.1 hq
 obtain ⟨a,b,d,_⟩:=mem_allB hv hc
 exact (ok_block a b d).1
theorem inS_pfs {S:List Sp} (hv:∀ p ∈ S,VR p) (x:Nat):InS ((pfs S).map spP) x ↔ InS S x:=by
 constructor
 ·rintro ⟨q,hq,h1,h2⟩
  obtain ⟨r,hr,rfl⟩:=List.mem_map.1 hq
  obtain ⟨c,hc,rfl⟩:=List.mem_map.1 hr
  obtain ⟨a,b,d,p,hp,_,l1,l2⟩:=mem_allB hv hc
  rw [show c=(c.1,c.2) from rfl,(ok_block a b d).2.2] at h1 h2
  simp only at h1 h2
  exact ⟨p,hp,by omega,by omega⟩
 ·rintro ⟨p,hp,h1,h2⟩
  obtain ⟨q,hq,l1,l2⟩:=((blks_ok (LN p.1) p.1 p.2).mem x).2 ⟨h1,h2⟩
  obtain ⟨c,hc,rfl⟩:=List.mem_map.1 hq
  have hca:c ∈ allB S:=List.mem_flatMap.2 ⟨p,hp,hc⟩
  obtain ⟨a,b,d,_⟩:=mem_allB hv hca
  have hl:=(blk_vn (hv p hp) ((blks_ok (LN p.1) p.1 p.2).each c hc).1 ((blks_ok (LN p.1) p.1 p.2).each c hc).2.1).2.1
  refine ⟨spP (pfOf (c.1,c.2)),List.mem_map.2 ⟨_,List.mem_map.2 ⟨c,hca,rfl⟩,rfl⟩,?_⟩
  rw [(ok_block a b d).2.2]
  unfold spB at l1 l2
  simp only at l1 l2 ⊢
  rw [← hl] at l2
  exact ⟨l1,l2⟩
def spn (L:List Pf):List Sp:=jn (L.map spP)
theorem spn_vr {L:List Pf} (hv:∀ p ∈ L,OkPf p):∀ p ∈ spn L,VR p:=sps_vr hv
theorem sps_le {L:List Pf} (hv:∀ p ∈ L,OkPf p):∀ p ∈ L.map spP,p.1≤p.2:=fun p hp => by
 obtain ⟨q,hq,rfl⟩:=List.mem_map.1 hp
 exact (hv q hq).vr.le
theorem spn_can {L:List Pf} (hv:∀ p ∈ L,OkPf p):Can (spn L):=(jn_joined (sps_le hv)).can
theorem inS_spn {L:List Pf} (hv:∀ p ∈ L,OkPf p) (x:Nat):InS (spn L) x ↔ InS (L.map spP) x:=(jn_joined (sps_le hv)).mem x
theorem spn_len (L:List Pf):(spn L).length≤L.length:=by
 have:=jn_len (L.map spP)
 rw [List.length_map] at this
 exact this
theorem spn_pfs {S:List Sp} (hc:Can S) (hv:∀ p ∈ S,VR p):spn (pfs S)=S :=
 can_unique (spn_can (okPf_pfs hv)) hc fun x => (inS_spn (okPf_pfs hv) x).trans (inS_pfs hv x)
theorem jn_can {L:List Sp} (hv:∀ p ∈ L,VR p):Can (jn L)∧(∀ x,InS (jn L) x ↔ InS L x)∧∀ p ∈ jn L,VR p :=
 ⟨(jn_joined fun p hp => (hv p hp).le).can,(jn_joined fun p hp => (hv p hp).le).mem,jn_vr hv⟩
theorem ok_append {A B:List Pf} (hA:∀ p ∈ A,OkPf p) (hB:∀ p ∈ B,OkPf p):∀ p ∈ A ++ B,OkPf p:=fun p hp => (List.mem_append.1 hp).elim (hA p) (hB p)
theorem vr_vn {S:List Sp} (hv:∀ p ∈ S,VR p) {x:Nat} (h:InS S x):VN x:=by
 obtain ⟨p,hp,h1,h2⟩:=h
 exact (blk_vn (hv p hp) h1 h2).1
def gapsF (top:Nat):List Sp→Nat→List Sp
 | [],x => if x≤top then [(x,top)] else []
 | r :: S,x => (if x < r.1 then [(x,r.1 - 1)] else []) ++ gapsF top S (r.2 + 1)
def fam (six:Bool) (S:List Sp):List Sp:=S.filter fun p => sixN p.1 == six
def loF (six:Bool):Nat:=if six=true then 2 ^ 128 else 0
def topF (six:Bool):Nat:=if six=true then 2 ^ 129 - 1 else 2 ^ 32 - 1
def gapsOf (six:Bool) (S:List Sp):List Sp:=gapsF (topF six) (fam six S) (loF six)
def gaps (S:List Sp):List Sp:=gapsOf false S ++ gapsOf true S
theorem gapsF_ok (top:Nat):∀ (S:List Sp) (x:Nat),Can S→(∀ p ∈ S,x≤p.1∧p.2≤top) →
  (∀ t,InS (gapsF top S x) t ↔ x≤t∧t≤top∧¬ InS S t)∧Can (gapsF top S x)∧∀ p ∈ gapsF top S x,x≤p.1∧p.2≤top
 | [],x,_,_ => by
   unfold gapsF
   by_cases h:x≤top
   ·rw [if_pos h]
    refine ⟨fun t => ?_,⟨List.pairwise_singleton _ _,fun p hp => ?_⟩,fun p hp => ?_⟩
    ·rw [inS_cons]
     simp [inS_nil]
    ·rw [List.mem_singleton.1 hp];exact h
    ·rw [List.mem_singleton.1 hp];exact ⟨Nat.le_refl _,Nat.le_refl _⟩
   ·rw [if_neg h]
    refine ⟨fun t => ⟨fun h2 => absurd h2 (inS_nil _),fun h2 => by omega⟩,⟨List.Pairwise.nil,by simp⟩,by simp⟩
 | r :: S,x,hc,hb => by
   have hr:=hb r (List.mem_cons_self ..)
   obtain ⟨r1,r2⟩:=hc.head
   have hn:∀ p ∈ S,r.2 + 1≤p.1∧p.2≤top:=fun p hp => by
    have:=(List.pairwise_cons.1 hc.1).1 p hp
    exact ⟨by omega,(hb p (List.mem_cons_of_mem _ hp)).2⟩
   obtain ⟨i1,i2,i3⟩:=gapsF_ok top S (r.2 + 1) hc.tail hn
   have hA:∀ t,InS S t→r.2 + 1 < t:=r2
   unfold gapsF
   refine ⟨fun t => ?_,?_,fun p hp => ?_⟩
   ·rw [inS_append,i1,inS_cons]
    by_cases h:x < r.1
    ·rw [if_pos h,inS_cons]
     simp only [inS_nil,or_false]
     constructor
     ·rintro (h1 | h1)
      ·refine ⟨by omega,by omega,?_⟩
       rintro (h2 | h2)
       ·omega
       ·have:=hA t h2;omega
      ·refine ⟨by omega,by omega,?_⟩
       rintro (h2 | h2)
       ·omega
       ·exact h1.2.2 h2
     ·rintro ⟨h1,h2,h3⟩
      rcases Nat.lt_or_ge t r.1 with h4 | h4
      ·exact .inl ⟨h1,by omega⟩
      ·refine .inr ⟨?_,h2,fun h5 => h3 (.inr h5)⟩
       rcases Nat.lt_or_ge r.2 t with h6 | h6
       ·exact h6
       ·exact absurd (.inl ⟨h4,h6⟩) h3
    ·rw [if_neg h]
     simp only [inS_nil,false_or]
     constructor
     ·rintro ⟨h1,h2,h3⟩
      refine ⟨by omega,h2,?_⟩
      rintro (h4 | h4)
      ·omega
      ·exact h3 h4
     ·rintro ⟨h1,h2,h3⟩
      refine ⟨?_,h2,fun h5 => h3 (.inr h5)⟩
      rcases Nat.lt_or_ge r.2 t with h6 | h6
      ·exact h6
      ·exact absurd (.inl ⟨by omega,h6⟩) h3
   ·by_cases h:x < r.1
    ·rw [if_pos h]
     refine ⟨List.pairwise_cons.2 ⟨fun q hq => ?_,i2.1⟩,fun p hp => ?_⟩
     ·have:=(i3 q hq).1
      show r.1 - 1 + 1 < q.1
      omega
     ·rcases List.mem_cons.1 hp with rfl | hp
      ·show x≤r.1 - 1
       omega
      ·exact i2.2 p hp
    ·rw [if_neg h]
     exact i2
   ·rcases List.mem_append.1 hp with hp | hp
    ·by_cases h:x < r.1
     ·rw [if_pos h] at hp
      rw [List.mem_singleton.1 hp]
      show x≤x∧r.1 - 1≤top
      omega
     ·rw [if_neg h] at hp;cases hp
    ·have:=i3 p hp
     omega
theorem vn_fam {x:Nat} (h:VN x):loF (sixN x)≤x∧x≤topF (sixN x):=by
 unfold loF topF
 rcases h.cases with ⟨a,_,_,d⟩ | ⟨a,b,c,d⟩
 ·rw [a];simp;omega
 ·rw [a]
  rcases h with h | h
  ·simp;omega
  ·simp;omega
theorem fam_vn {six:Bool} {x:Nat} (h1:loF six≤x) (h2:x≤topF six):VN x∧sixN x=six:=by
 unfold loF topF at *
 cases six
 ·simp at h1 h2
  exact ⟨.inl (by omega),decide_eq_false (by omega)⟩
 ·simp at h1 h2
  exact ⟨.inr ⟨by omega,by omega⟩,decide_eq_true (by omega)⟩
theorem can_filter {S:List Sp} (h:Can S) (f:Sp→Bool):Can (S.filter f) :=
 ⟨h.1.sublist List.filter_sublist,fun p hp => h.2 p (List.mem_filter.1 hp).1⟩
theorem fam_bd {S:List Sp} (hv:∀ p ∈ S,VR p) (six:Bool):∀ p ∈ fam six S,loF six≤p.1∧p.2≤topF six:=fun p hp => by
 obtain ⟨h1,h2⟩:=List.mem_filter.1 hp
 have h2:sixN p.1=six:=by simpa using h2
 have hp:=hv p h1
 have a:=vn_fam hp.a
 have b:=vn_fam hp.b
 rw [← hp.s,h2] at b
 rw [h2] at a
 exact ⟨a.1,b.2⟩
theorem gapsOf_ok {S:List Sp} (hc:Can S) (hv:∀ p ∈ S,VR p) (six:Bool) :
  (∀ t,InS (gapsOf six S) t ↔ VN t∧sixN t=six∧¬ InS S t)∧Can (gapsOf six S)∧∀ p ∈ gapsOf six S,loF six≤p.1∧p.2≤topF six:=by
 obtain ⟨h1,h2,h3⟩:=gapsF_ok (topF six) (fam six S) (loF six) (can_filter hc _) (fam_bd hv six)
 refine ⟨fun t => (h1 t).trans ?_,h2,h3⟩
 constructor
 ·rintro ⟨a,b,c⟩
  obtain ⟨v,s⟩:=fam_vn a b
  refine ⟨v,s,?_⟩
  rintro ⟨p,hp,l1,l2⟩
  refine c ⟨p,List.mem_filter.2 ⟨hp,?_⟩,l1,l2⟩
  have:=(blk_vn (hv p hp) l1 l2).2.2
  rw [← this,s]
  simp
 ·rintro ⟨v,s,c⟩
  have:=vn_fam v
  rw [s] at this
  refine ⟨this.1,this.2,?_⟩
  rintro ⟨p,hp,l1,l2⟩
  exact c ⟨p,(List.mem_filter.1 hp).1,l1,l2⟩
theorem vr_fam {six:Bool} {p:Sp} (h:loF six≤p.1∧p.2≤topF six) (hle:p.1≤p.2):VR p:=by
 obtain ⟨a,b⟩:=fam_vn h.1 (Nat.le_trans hle h.2)
 obtain ⟨c,d⟩:=fam_vn (Nat.le_trans h.1 hle) h.2
 exact ⟨a,c,b.trans d.symm,hle⟩
theorem gaps_ok {S:List Sp} (hc:Can S) (hv:∀ p ∈ S,VR p):Can (gaps S)∧(∀ t,InS (gaps S) t ↔ VN t∧¬ InS S t)∧∀ p ∈ gaps S,VR p:=by
 obtain ⟨a1,a2,a3⟩:=gapsOf_ok hc hv false
 obtain ⟨b1,b2,b3⟩:=gapsOf_ok hc hv true
 unfold gaps
 refine ⟨⟨List.pairwise_append.2 ⟨a2.1,b2.1,fun p hp q hq => ?_⟩,fun p hp => (List.mem_append.1 hp).elim (a2.2 p) (b2.2 p)⟩,fun t => ?_,fun p hp => ?_⟩
 ·have h1:=(a3 p hp).2
  have h2:=(b3 q hq).1
  unfold topF at h1
  unfold loF at h2
  simp at h1 h2
  omega
 ·rw [inS_append,a1,b1]
  cases sixN t <;> simp
 ·rcases List.mem_append.1 hp with hp | hp
  ·exact vr_fam (a3 p hp) (a2.2 p hp)
  ·exact vr_fam (b3 p hp) (b2.2 p hp)
theorem gapsF_len (top:Nat):∀ (S:List Sp) (x:Nat),(gapsF top S x).length≤S.length + 1
 | [],x => by unfold gapsF;split <;> simp
 | r :: S,x => by
   have:=gapsF_len top S (r.2 + 1)
   unfold gapsF
   rw [List.length_append]
   split <;> simp <;> omega
theorem gaps_len (S:List Sp):(gaps S).length≤2 * S.length + 2:=by
 have h1:=gapsF_len (topF false) (fam false S) (loF false)
 have h2:=gapsF_len (topF true) (fam true S) (loF true)
 have h3:(fam false S).length≤S.length:=List.length_filter_le _ _
 have h4:(fam true S).length≤S.length:=List.length_filter_le _ _
 unfold gaps gapsOf
 rw [List.length_append]
 omega
def both:List Sp→List Sp→List Sp
 | [],_ => []
 | _ :: _, [] => []
 | p :: A,q :: B => (if max p.1 q.1≤min p.2 q.2 then [(max p.1 q.1,min p.2 q.2)] else []) ++ if p.2 < q.2 then both A (q :: B) else both (p :: A) B
termination_by A B => A.length + B.length
theorem both_nil (A:List Sp):both A []=[]:=by cases A <;> simp [both]
theorem both_nil' (A:List Sp):both [] A=[]:=by simp [both]
theorem both_cons (p q:Sp) (A B:List Sp):both (p :: A) (q :: B)=(if max p.1 q.1≤min p.2 q.2 then [(max p.1 q.1,min p.2 q.2)] else []) ++ if p.2 < q.2 then both A (q :: B) else both (p :: A) B:=by rw [both]
theorem both_mem (n:Nat):∀ (A B:List Sp),A.length + B.length≤n→Can A→Can B→∀ x,InS (both A B) x ↔ InS A x∧InS B x:=by
 induction n with
 | zero =>
   intro A B h hA hB x
   have:A=[]:=by cases A with | nil => rfl | cons => simp at h
   subst this
   rw [both_nil']
   simp [inS_nil]
 | succ n ih =>
   intro A B h hA hB x
   cases A with
   | nil => rw [both_nil'];simp [inS_nil]
   | cons p A =>
     cases B with
     | nil => rw [both_nil];simp [inS_nil]
     | cons q B =>
       simp only [List.length_cons] at h
       have hp:=hA.head
       have hq:=hB.head
       rw [both_cons,inS_append]
       have e1:InS (if max p.1 q.1≤min p.2 q.2 then [(max p.1 q.1,min p.2 q.2)] else []) x ↔ (p.1≤x∧x≤p.2)∧(q.1≤x∧x≤q.2):=by
        by_cases hc:max p.1 q.1≤min p.2 q.2
        ·rw [if_pos hc,inS_cons]
         simp only [inS_nil,or_false]
         omega
        ·rw [if_neg hc]
         simp only [inS_nil,false_iff]
         omega
       rw [e1]
       by_cases hlt:p.2 < q.2
       ·rw [if_pos hlt,ih A (q :: B) (by simp only [List.length_cons];omega) hA.tail hB,inS_cons,inS_cons]
        constructor
        ·rintro (h1 | h1)
         ·exact ⟨.inl h1.1, .inl h1.2⟩
         ·exact ⟨.inr h1.1,h1.2⟩
        ·rintro ⟨h1 | h1,h2⟩
         ·rcases h2 with h2 | h2
          ·exact .inl ⟨h1,h2⟩
          ·have:=hq.2 x h2;omega
         ·exact .inr ⟨h1,h2⟩
       ·rw [if_neg hlt,ih (p :: A) B (by simp only [List.length_cons];omega) hA hB.tail,inS_cons,inS_cons]
        constructor
        ·rintro (h1 | h1)
         ·exact ⟨.inl h1.1, .inl h1.2⟩
         ·exact ⟨h1.1, .inr h1.2⟩
        ·rintro ⟨h1,h2 | h2⟩
         ·rcases h1 with h1 | h1
          ·exact .inl ⟨h1,h2⟩
          ·have:=hp.2 x h1;omega
         ·exact .inr ⟨h1,h2⟩
theorem both_vr (n:Nat):∀ (A B:List Sp),A.length + B.length≤n→(∀ p ∈ A,VR p)→(∀ p ∈ B,VR p)→(∀ p ∈ both A B,VR p)∧(both A B).length≤A.length + B.length:=by
 induction n with
 | zero =>
   intro A B h hA hB
   have:A=[]:=by cases A with | nil => rfl | cons => simp at h
   subst this
   rw [both_nil']
   simp
 | succ n ih =>
   intro A B h hA hB
   cases A with
   | nil => rw [both_nil'];simp
   | cons p A =>
     cases B with
     | nil => rw [both_nil];simp
     | cons q B =>
       simp only [List.length_cons] at h
       have hp:=hA p (List.mem_cons_self ..)
       have hq:=hB q (List.mem_cons_self ..)
       have hA':∀ p ∈ A,VR p:=fun r hr => hA r (List.mem_cons_of_mem _ hr)
       have hB':∀ p ∈ B,VR p:=fun r hr => hB r (List.mem_cons_of_mem _ hr)
       rw [both_cons]
       have e1:(∀ r ∈ (if max p.1 q.1≤min p.2 q.2 then [(max p.1 q.1,min p.2 q.2)] else []),VR r)∧(if max p.1 q.1≤min p.2 q.2 then [(max p.1 q.1,min p.2 q.2)] else []).length≤1:=by
        by_cases hc:max p.1 q.1≤min p.2 q.2
        ·rw [if_pos hc]
         refine ⟨fun r hr => ?_,Nat.le_refl _⟩
         rw [List.mem_singleton.1 hr]
         have a:=blk_vn hp (x:=max p.1 q.1) (by omega) (by omega)
         have b:=blk_vn hp (x:=min p.2 q.2) (by omega) (by omega)
         exact ⟨a.1,b.1,a.2.2.trans b.2.2.symm,hc⟩
        ·rw [if_neg hc]
         exact ⟨by simp,by simp⟩
       generalize (if max p.1 q.1≤min p.2 q.2 then [(max p.1 q.1,min p.2 q.2)] else []:List Sp)=E at *
       by_cases hlt:p.2 < q.2
       ·rw [if_pos hlt]
        obtain ⟨i1,i2⟩:=ih A (q :: B) (by simp only [List.length_cons];omega) hA' hB
        refine ⟨fun r hr => (List.mem_append.1 hr).elim (e1.1 r) (i1 r),?_⟩
        have:=e1.2
        simp only [List.length_append,List.length_cons] at i2 ⊢
        omega
       ·rw [if_neg hlt]
        obtain ⟨i1,i2⟩:=ih (p :: A) B (by simp only [List.length_cons];omega) hA hB'
        refine ⟨fun r hr => (List.mem_append.1 hr).elim (e1.1 r) (i1 r),?_⟩
        have:=e1.2
        simp only [List.length_append,List.length_cons] at i2 ⊢
        omega
def restR (a:List Pf):List Pf:=pfs (gaps (spn a))
def unionR (a b:List Pf):List Pf:=lst (a ++ b)
def bothR (a b:List Pf):List Pf:=restR (unionR (restR a) (restR b))
def withoutR (a b:List Pf):List Pf:=bothR a (restR b)
theorem ok_restR {a:List Pf} (ha:∀ p ∈ a,OkPf p):∀ p ∈ restR a,OkPf p:=okPf_pfs (gaps_ok (spn_can ha) (spn_vr ha)).2.2
theorem ok_lst {a:List Pf} (ha:∀ p ∈ a,OkPf p):∀ p ∈ lst a,OkPf p:=okPf_pfs (spn_vr ha)
theorem ok_unionR {a b:List Pf} (ha:∀ p ∈ a,OkPf p) (hb:∀ p ∈ b,OkPf p):∀ p ∈ unionR a b,OkPf p:=ok_lst (ok_append ha hb)
theorem spn_restR {a:List Pf} (ha:∀ p ∈ a,OkPf p):spn (restR a)=gaps (spn a) :=
 spn_pfs (gaps_ok (spn_can ha) (spn_vr ha)).1 (gaps_ok (spn_can ha) (spn_vr ha)).2.2
theorem spn_lst {a:List Pf} (ha:∀ p ∈ a,OkPf p):spn (lst a)=spn a:=spn_pfs (spn_can ha) (spn_vr ha)
theorem both_ok {A B:List Sp} (hA:Can A) (hB:Can B) (vA:∀ p ∈ A,VR p) (vB:∀ p ∈ B,VR p) :
  Can (jn (both A B))∧(∀ x,InS (jn (both A B)) x ↔ InS A x∧InS B x)∧∀ p ∈ jn (both A B),VR p:=by
 obtain ⟨h1,h2,h3⟩:=jn_can (both_vr _ A B (Nat.le_refl _) vA vB).1
 exact ⟨h1,fun x => (h2 x).trans (both_mem _ A B (Nat.le_refl _) hA hB x),h3⟩
theorem both_eq {a b:List Pf} (ha:∀ p ∈ a,OkPf p) (hb:∀ p ∈ b,OkPf p):bothR a b=pfs (jn (both (spn a) (spn b))):=by
 have hu:=ok_unionR (ok_restR ha) (ok_restR hb)
 have ga:=gaps_ok (spn_can ha) (spn_vr ha)
 have gb:=gaps_ok (spn_can hb) (spn_vr hb)
 have gu:=gaps_ok (spn_can hu) (spn_vr hu)
 obtain ⟨h1,h2,h3⟩:=both_ok (spn_can ha) (spn_can hb) (spn_vr ha) (spn_vr hb)
 unfold bothR
 rw [show restR (unionR (restR a) (restR b))=pfs (gaps (spn (unionR (restR a) (restR b)))) from rfl]
 congr 1
 refine can_unique gu.1 h1 fun x => ?_
 have hr:=ok_append (ok_restR ha) (ok_restR hb)
 rw [gu.2.1,h2]
 unfold unionR
 rw [spn_lst hr,inS_spn hr,List.map_append,inS_append, ← inS_spn (ok_restR ha), ← inS_spn (ok_restR hb),spn_restR ha,spn_restR hb,ga.2.1,gb.2.1]
 constructor
 ·rintro ⟨v,h⟩
  constructor
  ·exact Classical.byContradiction fun h4 => h (.inl ⟨v,h4⟩)
  ·exact Classical.byContradiction fun h4 => h (.inr ⟨v,h4⟩)
 ·rintro ⟨h4,h5⟩
  refine ⟨vr_vn (spn_vr ha) h4,?_⟩
  rintro (h | h)
  ·exact h.2 h4
  ·exact h.2 h5
theorem without_eq {a b:List Pf} (ha:∀ p ∈ a,OkPf p) (hb:∀ p ∈ b,OkPf p):withoutR a b=pfs (jn (both (spn a) (gaps (spn b)))):=by
 unfold withoutR
 rw [both_eq ha (ok_restR hb),spn_restR hb]
def sib (i a:Nat):Nat:=if a / 2 ^ i % 2=0 then (a / 2 ^ i + 1) * 2 ^ i else (a / 2 ^ i - 1) * 2 ^ i
theorem blks_gb {L y:Nat} (x:Nat):∀ c ∈ blks L x y,c.2=gB L c.1 y:=by
 refine blks_ind (fun x l => ∀ c ∈ l,c.2=gB L c.1 y) (fun x h c hc => by cases hc) (fun x h hg ih c hc => ?_) x
 rcases List.mem_cons.1 hc with rfl | hc
 ·rfl
 ·exact ih c hc
theorem can_out {S:List Sp} (hc:Can S) {s:Sp} (hs:s ∈ S):¬ InS S (s.2 + 1)∧(0 < s.1→¬ InS S (s.1 - 1)):=by
 have hle:=hc.2 s hs
 have key:∀ s' ∈ S,s'=s ∨ s.2 + 1 < s'.1 ∨ s'.2 + 1 < s.1:=fun s' hs' => by
  rcases List.mem_iff_getElem.1 hs with ⟨i,hi,rfl⟩
  rcases List.mem_iff_getElem.1 hs' with ⟨k,hk,rfl⟩
  have hpw:=List.pairwise_iff_getElem.1 hc.1
  rcases Nat.lt_trichotomy i k with hik | hik | hik
  ·exact .inr (.inl (hpw i k hi hk hik))
  ·subst hik;exact .inl rfl
  ·exact .inr (.inr (hpw k i hk hi hik))
 constructor
 ·rintro ⟨s',hs',h1,h2⟩
  rcases key s' hs' with rfl | h | h <;> omega
 ·rintro h0 ⟨s',hs',h1,h2⟩
  rcases key s' hs' with rfl | h | h <;> omega
theorem sib_hit {i P k' x:Nat} (hx:x=2 * k' * 2 ^ i ∨ x=(2 * k' + 1) * 2 ^ i) (h1:2 * k' * 2 ^ i≤P) (h2:P < (2 * k' + 2) * 2 ^ i) (h3:¬ (x≤P∧P < x + 2 ^ i)):sib i P=x:=by
 have hp:=two_pos i
 unfold sib
 generalize 2 ^ i=Q at *
 have e1:(2 * k' + 1) * Q=2 * k' * Q + Q:=by rw [Nat.add_mul,Nat.one_mul]
 have e2:(2 * k' + 2) * Q=2 * k' * Q + 2 * Q:=by rw [Nat.add_mul]
 rcases hx with rfl | rfl
 ·have:P / Q=2 * k' + 1:=by
   rw [Nat.div_eq_iff (by omega)]
   omega
  rw [this,if_neg (by omega),Nat.add_sub_cancel]
 ·have:P / Q=2 * k':=by
   rw [Nat.div_eq_iff (by omega)]
   omega
  rw [this,if_pos (by omega)]
theorem sibs_len (B:List Sp):(B.flatMap fun (p:Sp) => (List.range 128).map fun i => sib i p.1).length=128 * B.length:=by
 induction B with
 | nil => rfl
 | cons b B ih =>
   rw [List.flatMap_cons,List.length_append,ih]
   simp
   omega
theorem cover_len {S:List Sp} (hS:Can S) (hv:∀ p ∈ S,VR p) {A C B:List Sp} (hA:∀ p ∈ A, ∃ j,PfxSp p j) (hC:∀ p ∈ C, ∃ j,PfxSp p j) (hB:∀ p ∈ B, ∃ j,PfxSp p j)
  (h:∀ x,InS S x ↔ InS A x∧InS C x∧¬ InS B x):(allB S).length≤A.length + C.length + 128 * B.length + 2:=by
 have hlen:(A.map Prod.fst ++ C.map Prod.fst ++ B.flatMap (fun (p:Sp) => (List.range 128).map fun i => sib i p.1) ++ [0,2 ^ 128]).length=A.length + C.length + 128 * B.length + 2:=by
  have:=sibs_len B
  rw [List.length_append,List.length_append,List.length_append,this]
  simp
 rw [← hlen]
 have:=nodup_le (l:=(allB S).map Prod.fst) (m:=A.map Prod.fst ++ C.map Prod.fst ++ B.flatMap (fun (p:Sp) => (List.range 128).map fun i => sib i p.1) ++ [0,2 ^ 128]) (by rw [List.pairwise_map];exact allB_first hS) fun x hx => by
  obtain ⟨c,hc,rfl⟩:=List.mem_map.1 hx
  obtain ⟨vc,lc,dc,_⟩:=mem_allB hv hc
  obtain ⟨s,hs,hc⟩:=List.mem_flatMap.1 hc
  have hL:=(blk_vn (hv s hs) ((blks_ok (LN s.1) s.1 s.2).each c hc).1 ((blks_ok (LN s.1) s.1 s.2).each c hc).2.1).2.1
  obtain ⟨b1,b2,hg⟩:=(blks_ok (LN s.1) s.1 s.2).each c hc
  have hgb:=blks_gb s.1 c hc
  rw [List.mem_append,List.mem_append,List.mem_append]
  obtain ⟨i,hi⟩:∃ i,LN s.1 - c.2=i:=⟨_,rfl⟩
  have hdv:=hg.dvd
  have hft:=hg.fits
  rw [hi] at hdv hft
  have hLb:LN s.1≤128:=by unfold LN;split <;> omega
  have hxS:∀ t,c.1≤t→t < c.1 + 2 ^ i→InS S t:=fun t h1 h2 => ⟨s,hs,by omega,by omega⟩
  have hpi:=two_pos i
  rcases Nat.lt_or_ge i (LN s.1) with hiL | hiL
  ·obtain ⟨k,hk⟩:=hdv
   obtain ⟨k',hk'⟩:∃ k',k=2 * k' ∨ k=2 * k' + 1:=⟨k / 2,by omega⟩
   have hx2:c.1=2 * k' * 2 ^ i ∨ c.1=(2 * k' + 1) * 2 ^ i:=by
    rcases hk' with rfl | rfl
    ·exact .inl (by rw [hk,Nat.mul_comm])
    ·exact .inr (by rw [hk,Nat.mul_comm])
   have hps:2 ^ (i + 1)=2 * 2 ^ i:=by rw [Nat.pow_succ,Nat.mul_comm]
   have e1:(2 * k' + 1) * 2 ^ i=2 * k' * 2 ^ i + 2 ^ i:=by rw [Nat.add_mul,Nat.one_mul]
   have e2:(2 * k' + 2) * 2 ^ i=2 * k' * 2 ^ i + 2 * 2 ^ i:=by rw [Nat.add_mul]
   obtain ⟨z,hz⟩:∃ z,2 * k' * 2 ^ i=z:=⟨_,rfl⟩
   have hzd:2 ^ (i + 1) ∣ z:=⟨k',by rw [hps, ← hz];rw [Nat.mul_comm 2 k',Nat.mul_assoc,Nat.mul_comm]⟩
   -- a number of the next longer block that is not in the set
   have hout:∃ t,z≤t∧t < z + 2 ^ (i + 1)∧¬ InS S t:=by
    have ho:=can_out hS hs
    rcases Nat.lt_or_ge z s.1 with h1 | h1
    ·exact ⟨s.1 - 1,by omega,by omega,ho.2 (by omega)⟩
    ·rcases Nat.lt_or_ge s.2 (z + 2 ^ (i + 1) - 1) with h2 | h2
     ·exact ⟨s.2 + 1,by omega,by omega,ho.1⟩
     ·exfalso
      have hzc:=blks_top (L:=LN s.1) (a:=s.1) (y:=s.2) s.1 (Nat.le_refl _) (fun z j _ _ h3 h4 => by omega) c hc z (i + 1) (by omega) hzd h1 (by omega) (by omega) (by omega)
      have:=gB_top (L:=LN s.1) (x:=c.1) (y:=s.2) (j:=i + 1) (by omega) (by rw [← hzc];exact hzd) (by rw [← hzc];omega)
      rw [← hgb,hi] at this
      omega
   obtain ⟨t,t1,t2,tS⟩:=hout
   have hxin:=(h c.1).1 (hxS c.1 (Nat.le_refl _) (by omega))
   have side:∀ D:List Sp,(∀ p ∈ D, ∃ j,PfxSp p j)→InS D c.1→¬ InS D t→c.1 ∈ D.map Prod.fst:=fun D hD h1 h2 => by
    obtain ⟨p,hp,l1,l2⟩:=h1
    obtain ⟨j,hj⟩:=hD p hp
    have hpj:=two_pos j
    rw [hj.snd] at l2
    rcases Nat.lt_or_ge i j with hij | hij
    ·exfalso
     have:=nest (t:=c.1) hzd hj.dvd hij (by omega) (by omega) l1 (by omega)
     exact h2 ⟨p,hp,by omega,by rw [hj.snd];omega⟩
    ·have:=nest (t:=c.1) hj.dvd (by rw [hk];exact Nat.dvd_mul_right _ _:2 ^ i ∣ c.1) hij l1 (by omega) (Nat.le_refl _) (by omega)
     exact List.mem_map.2 ⟨p,hp,by omega⟩
   by_cases hBt:InS B t
   ·obtain ⟨p,hp,l1,l2⟩:=hBt
    obtain ⟨j,hj⟩:=hB p hp
    have hpj:=two_pos j
    rw [hj.snd] at l2
    have hij:j≤i:=by
     rcases Nat.lt_or_ge i j with hij | hij
     ·exfalso
      have:=nest (t:=t) hzd hj.dvd hij t1 t2 l1 (by omega)
      exact hxin.2.2 ⟨p,hp,by omega,by rw [hj.snd];omega⟩
     ·exact hij
    have hn:=nest (t:=t) hj.dvd hzd (by omega) l1 (by omega) t1 t2
    have hno:¬ (c.1≤p.1∧p.1 < c.1 + 2 ^ i):=fun hh => by
     have:=(h p.1).1 (hxS p.1 hh.1 hh.2)
     exact this.2.2 ⟨p,hp,Nat.le_refl _,by rw [hj.snd];omega⟩
    have hsb:sib i p.1=c.1:=sib_hit hx2 (by omega) (by omega) hno
    exact .inl (.inr (List.mem_flatMap.2 ⟨p,hp,List.mem_map.2 ⟨i,List.mem_range.2 (by omega),hsb⟩⟩))
   ·by_cases hAt:InS A t
    ·have hCt:¬ InS C t:=fun hct => tS ((h t).2 ⟨hAt,hct,hBt⟩)
     exact .inl (.inl (.inr (side C hC hxin.2.1 hCt)))
    ·exact .inl (.inl (.inl (side A hA hxin.1 hAt)))
  ·refine .inr ?_
   obtain rfl:i=LN s.1:=by omega
   rw [← hL] at hdv
   obtain ⟨k,hk⟩:=hdv
   rcases vc.cases with ⟨a,_,_,d⟩ | ⟨a,b,b',b''⟩
   ·have hl:LN c.1=32:=by rw [LN_six,a];rfl
    rw [hl] at hk
    have:k=0:=by omega
    rw [hk,this]
    simp
   ·have hl:LN c.1=128:=by rw [LN_six,a];rfl
    rw [hl] at hk
    have hb:2 ^ 128≤c.1∧c.1 < 2 ^ 129:=by
     rcases vc with h | h
     ·have:=of_decide_eq_true a;omega
     ·exact h
    have:k=1:=by omega
    rw [hk,this]
    simp
 rw [List.length_map] at this
 exact this
def inP (p:Pf) (x:Nat):Bool:=decide ((spP p).1≤x) && decide (x≤(spP p).2)
theorem any_inP (L:List Pf) (x:Nat):(L.any fun p => inP p x)=true ↔ InS (L.map spP) x:=by
 rw [List.any_eq_true]
 unfold InS inP
 constructor
 ·rintro ⟨p,hp,h⟩
  simp at h
  exact ⟨spP p,List.mem_map.2 ⟨p,hp,rfl⟩,h⟩
 ·rintro ⟨q,hq,h⟩
  obtain ⟨p,hp,rfl⟩:=List.mem_map.1 hq
  exact ⟨p,hp,by simpa using h⟩
theorem holdsN {p:Pf} {x:Nat} (w:World) (hp:OkPf p) (hx:VN x):Calls Tryz.prog 98 #[.agg (pfC p).toArray, .agg (aN x)] w (Ret (.bool (inP p x)) w):=by
 have h:=holds_any p.1 p.2.1 p.2.2.1 p.2.2.2.toNat (sixN x) (hiN x) (loN x) w hp.ok.1.1 hp.ok.1.2.1 (hiN_u x) (loN_u x) hp.ok.2.1
 have e:holdsB p.1 p.2.1 p.2.2.1 p.2.2.2.toNat (sixN x) (hiN x) (loN x)=inP p x:=by
  unfold holdsB inP spP
  rw [num_aN hx,fill_num hp.ok.1,LN_six,hp.num.2.1]
  rfl
 rw [e] at h
 have ec:(pfC p).toArray=#[.bool p.1, .int .u64 ((p.2.1:Nat):Int), .int .u64 ((p.2.2.1:Nat):Int), .int .i64 ((p.2.2.2.toNat:Nat):Int)]:=by
  unfold pfC
  rw [← hp.nn]
 rw [ec]
 exact h
theorem hasOf1_any {p:Pf} {x:Nat} (bx:Nat) (w:World) (hp:OkPf p) (hx:VN x) (hb:Blk w bx 28 (aN x)):Calls Tryz.prog 120 #[.agg (pfC p).toArray, .pointer (some ⟨bx,0,none⟩)] w (Ret (.bool (inP p x)) w):=by
 have HH:=Lib.hid fun wx => holdsN wx hp hx
 obtain ⟨p1,p2,p3,p4,hpc, -, -⟩:=pf_cells hp
 rw [hpc] at HH ⊢
 have HX:=Lib.hid hb
 clear hb hx hpc hp
 unfold aN at HX HH
 generalize inP p x=R at *
 generalize sixN x=x1 at *
 generalize hiN x=x2 at *
 generalize loN x=x3 at *
 have HP1:Hid (Blk (w.alloc (.cells #[.bool p1, .int .u64 (p2:Int), .int .u64 (p3:Int), .int .i64 (p4:Int)] 30 (0,0))) w.heap.size 30 #[.bool p1, .int .u64 (p2:Int), .int .u64 (p3:Int), .int .i64 (p4:Int)]):=Lib.hid (Blk.new w _ _)
 have HX1:Hid (Blk (w.alloc (.cells #[.bool p1, .int .u64 (p2:Int), .int .u64 (p3:Int), .int .i64 (p4:Int)] 30 (0,0))) bx 28 #[.bool x1, .int .u64 (x2:Int), .int .u64 (x3:Int)]):=Lib.hid (HX.out.alloc _)
 have HB1:Hid (Below w.heap.size w (w.alloc (.cells #[.bool p1, .int .u64 (p2:Int), .int .u64 (p3:Int), .int .i64 (p4:Int)] 30 (0,0)))):=Lib.hid (below_alloc (Below.refl _ _) _)
 go_enter Tryz.func120,Tryz.ntmps120
 go_upto_region 1 with fail
 generalize (w.alloc (.cells #[.bool p1, .int .u64 (p2:Int), .int .u64 (p3:Int), .int .i64 (p4:Int)] 30 (0,0)))=w2 at *
 have c0:=HP1.out.cell 0
 have c1:=HP1.out.cell 1
 have c2:=HP1.out.cell 2
 have c3:=HP1.out.cell 3
 simp at c0 c1 c2 c3
 have d0:=HX1.out.cell 0
 have d1:=HX1.out.cell 1
 have d2:=HX1.out.cell 2
 simp at d0 d1 d2
 go_wp2_with fail
 refine (HH.out _).mono ?_
 rintro e w3 ⟨rfl,hb⟩
 have HB3:=Lib.hid (HB1.out.trans (hb.mono HB1.out.size))
 clear hb c0 c1 c2 c3 d0 d1 d2
 go_wp2_with fail
 go_ret
 exact ⟨rfl,HB3.out⟩
theorem indexHas_any (ad:Option Addr) (n c bx:Nat) (L:List Pf) (x:Nat) (w:World) (h:RdK layPf w ad L) (hn:L.length=n) (hs:n≤1000000) (hv:∀ p ∈ L,OkPf p) (hx:VN x) (hb:Blk w bx 28 (aN x)) :
  Calls Tryz.prog 101 #[.slice ad n c, .func (.func 120) #[] #[.pointer (some ⟨bx,0,none⟩)]] w fun e w' => ∃ k:Int,e=.returned (.int .i64 k)∧decide (0≤k)=(L.any fun p => inP p x)∧Below w.heap.size w w':=by
 have H0:=Lib.hid h
 have Hn:=Lib.hid hn
 have Hv:=Lib.hid hv
 have HX:=Lib.hid hb
 have Hx:=Lib.hid hx
 clear h hn hv hb hx
 go_enter Tryz.func101,Tryz.ntmps101
 go_wp2_with fail
 go_loopw [5,8] (fun s5 i wr => ∃ k:Nat,k≤n∧i=.int .i64 (k:Int)∧Hid (∀ j p,j < k→L[j]?=some p→inP p x=false)∧Hid (Below w.heap.size w wr)) (fun _ i _ => n - (intOf i).toNat)
 case atStart => exact ⟨0,Nat.zero_le _,rfl,Lib.hid fun j p hj => absurd hj (Nat.not_lt_zero _),Lib.hid (Below.refl _ _)⟩
 case round =>
  obtain ⟨k,hk,rfl,HN,HB⟩:=hrel
  by_cases hlt:k < n
  ·have hS:k < L.length:=by rw [Hn.out];exact hlt
   obtain ⟨p,hp⟩:∃ p,L[k]?=some p:=⟨_,List.getElem?_eq_getElem hS⟩
   have hok:=Hv.out p (List.mem_of_getElem? hp)
   have HC:=Lib.hid fun wx (hb:Blk wx bx 28 (aN x)) => hasOf1_any bx wx hok Hx.out hb
   obtain ⟨p1,p2,p3,p4,hpc, -, -⟩:=pf_cells hok
   obtain ⟨g,o,had,hg,c0,c1,c2,c3⟩:=(H0.out.below HB.out).pf hp hpc
   rw [hpc] at HC
   have Hp:=Lib.hid hp
   have Hpm:=Lib.hid (List.mem_of_getElem? hp)
   have HXr:=Lib.hid (HX.out.below HB.out HX.out.lt)
   subst had
   clear hp hS hok hpc hg
   go_wp2_with fail
   refine (HC.out _ HXr.out).mono ?_
   rintro e w3 ⟨rfl,hb⟩
   have HB3:=Lib.hid (HB.out.trans (hb.mono HB.out.size))
   clear hb HC HXr c0 c1 c2 c3
   cases hR:inP p x
   ·have HN2:Hid (∀ j q,j < k + 1→L[j]?=some q→inP q x=false):=Lib.hid fun j q hj hq => by
     rcases Nat.lt_or_ge j k with h1 | h1
     ·exact HN.out j q h1 hq
     ·obtain rfl:j=k:=by omega
      rw [Hp.out] at hq
      exact (Option.some.inj hq) ▸ hR
    clear hR
    go_wp2_with fail
    exact ⟨⟨k + 1,by omega,by go_num,HN2,HB3⟩,by simp [intOf];omega⟩
   ·have HT:Hid ((L.any fun p => inP p x)=true):=Lib.hid (List.any_eq_true.2 ⟨p,Hpm.out,hR⟩)
    clear hR
    go_wp2_with fail
    go_ret
    exact ⟨(k:Int),rfl,by rw [HT.out];exact decide_eq_true (by omega),HB3.out⟩
  ·obtain rfl:k=n:=by omega
   have HT:Hid ((L.any fun p => inP p x)=false):=Lib.hid (by
    rw [Bool.eq_false_iff]
    intro h
    obtain ⟨p,hp,hR⟩:=List.any_eq_true.1 h
    obtain ⟨j,hj,rfl⟩:=List.getElem_of_mem hp
    have:=HN.out j _ (by rw [← Hn.out];exact hj) (List.getElem?_eq_getElem hj)
    rw [this] at hR;cases hR)
   go_wp2_with fail
   go_ret
   exact ⟨-1,rfl,by rw [HT.out];rfl,HB.out⟩
theorem containsHas_any (ad:Option Addr) (n c bx:Nat) (L:List Pf) (x:Nat) (w:World) (h:RdK layPf w ad L) (hn:L.length=n) (hs:n≤1000000) (hv:∀ p ∈ L,OkPf p) (hx:VN x) (hb:Blk w bx 28 (aN x)) :
  Calls Tryz.prog 41 #[.slice ad n c, .func (.func 120) #[] #[.pointer (some ⟨bx,0,none⟩)]] w (Ret (.bool (L.any fun p => inP p x)) w):=by
 have HI:=Lib.hid (indexHas_any ad n c bx L x w h hn hs hv hx hb)
 clear h hn hs hv hx hb
 generalize (L.any fun p => inP p x)=R at *
 go_enter Tryz.func41,Tryz.ntmps41
 go_wp2_with fail
 refine HI.out.mono ?_
 rintro e w3 ⟨k,rfl,hk,hb⟩
 have HB:=Lib.hid hb
 clear hb HI
 cases R
 ·have hk0:¬ 0≤k:=of_decide_eq_false hk
  have hk1:¬ k ≥ 0:=hk0
  go_wp2_with fail
  go_ret
  exact ⟨rfl,HB.out⟩
 ·have hk0:0≤k:=of_decide_eq_true hk
  have hk1:k ≥ 0:=hk0
  go_wp2_with fail
  go_ret
  exact ⟨rfl,HB.out⟩
theorem hasOf_any (ad:Option Addr) (n c:Nat) (L:List Pf) (x:Nat) (w:World) (h:RdK layPf w ad L) (hn:L.length=n) (hs:n≤1000000) (hv:∀ p ∈ L,OkPf p) (hx:VN x) :
  Calls Tryz.prog 75 #[.slice ad n c, .agg (aN x)] w (Ret (.bool (L.any fun p => inP p x)) w):=by
 have hb0:Below w.heap.size w (w.alloc (.cells (aN x) 28 (0,0))):=below_alloc (Below.refl _ _) _
 have HC:=Lib.hid (containsHas_any ad n c w.heap.size L x (w.alloc (.cells (aN x) 28 (0,0))) (h.below hb0) hn hs hv hx (Blk.new w _ _))
 have HB0:=Lib.hid hb0
 clear h hn hs hv hx hb0
 generalize (L.any fun p => inP p x)=R at *
 unfold aN at HC HB0 ⊢
 generalize sixN x=x1 at *
 generalize hiN x=x2 at *
 generalize loN x=x3 at *
 go_enter Tryz.func75,Tryz.ntmps75
 go_wp2_with fail
 refine HC.out.mono ?_
 rintro e w3 ⟨rfl,hb⟩
 have HB3:=Lib.hid (HB0.out.trans (hb.mono HB0.out.size))
 clear hb HC HB0
 go_wp2_with fail
 go_ret
 exact ⟨rfl,HB3.out⟩
def smallC (c:UInt8):Bool:=97≤c && c≤122
def digitC (c:UInt8):Bool:=48≤c && c≤57
def keyC (c:UInt8):Bool:=smallC c || digitC c || c == 45 || c == 95
def keyB (l:List UInt8):Bool:=decide (1≤l.length∧l.length≤40) && (l.take 1).all smallC && l.all keyC
end Go.Proofs.YteldaicgaeooiaaGreatDoor
