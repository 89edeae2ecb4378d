/-
  A span of two wide numbers, built; a row of one such span.
  The reference's prefixes: the greedy blocks of spans of wide numbers.
  Spans.Rest: the gaps between ranges, of all addresses.
  Spans.Both.
  The reference's spansOf: the spans of prefixes, joined.
  The reference's LeastOf and SpanOf.
  wide.plus of the reference, at -1: the number before.
  The reference's RangesOf.
-/
import Derived.Test.YteldaicgaeooiaaGreatDoorPK11
import Derived.Test.YteldaicgaeooiaaGreatDoorPK8
set_option linter.unusedVariables false
set_option maxRecDepth 100000
set_option maxHeartbeats 16000000
namespace Go.Proofs.YteldaicgaeooiaaGreatDoor
open Go.RowKit Go
theorem run_build1 {P:Program} (w:World) (t e:TypeId) (X:Array Value) (m:Nat) (hu:P.underlying t=some (.slice e)) (hi:(P.info? e).map (fun i => (i.size,i.zero.map (fun z => z.cells.size)))=some (m,some m)) (hX:X.size=m) (hpos:0 < m) (hsmall:m≤2 ^ 24) :
  (Instr.buildSlice t 1 #[(0, .agg X)]).run P w=.ok (.slice (some ⟨w.heap.size,0,none⟩) 1 1) (w.alloc (.cells X e (0,0))):=by
 cases hie:P.info? e with
 | none => rw [hie] at hi;cases hi
 | some ie =>
   rw [hie] at hi
   simp only [Option.map_some,Option.some.injEq,Prod.mk.injEq] at hi
   obtain ⟨h1,h2⟩:=hi
   cases hz:ie.zero with
   | none => rw [hz] at h2;cases h2
   | some z =>
     rw [hz] at h2
     simp only [Option.map_some,Option.some.injEq] at h2
     have hf:=Go.Great.fill_whole (s:=m) hpos [Value.agg X] ((Array.range (1 * m)).map (z.cells[· % z.cells.size]!)) (fun v hv => by rw [List.mem_singleton] at hv;subst hv;exact hX) (by simp)
     have e2:(([Value.agg X]:List Value).flatMap fun v => v.cells.toList).toArray=X:=by simp [Value.cells]
     rw [e2] at hf
     refine run_buildSlice w t e 1 #[(0, .agg X)] X ie z hu hie hz (by rw [h1];omega) (by rw [h1];omega) ?_
     rw [h1]
     simpa using hf
theorem row_qs (x y:Nat) (w:World):(Instr.buildSlice 134 1 #[(0, .agg (wN x ++ wN y))]).run Tryz.prog w=.ok (.slice (some ⟨w.heap.size,0,none⟩) 1 1) (w.alloc (.cells (wN x ++ wN y) 156 (0,0))) :=
 run_build1 w _ _ _ 18 Tryz.underlying134 zero_qs (by rw [Array.size_append];rfl) (by decide) (by decide)
theorem built_qs (f g:Nat→Nat):Tryz.prog.built 156 [(0, .agg (wd f)),(1, .agg (wd g))]=some (wd f ++ wd g):=by
 kernel_rfl
theorem build_qs (x y:Nat) (w:World):(Instr.build 156 #[(0, .agg (wN x)),(1, .agg (wN y))]).run Tryz.prog w=.ok (.agg (wN x ++ wN y)) w :=
 run_build w _ _ _ (built_qs _ _)
theorem exec_build {P:Program} {ρ:Operand→Value} {o:Oper} {w w':World} {v:Value} (t:TypeId) (parts:Array (Nat × Operand)) (ho:o.op=.build t parts) (q:Array (Nat × Value)) (hq:(parts.map fun (i,x) => (i,ρ x))=q) (hr:(Instr.build t q).run P w=.ok v w'):(execOp ρ o).run P w=.ok (.value v) w':=by
 subst hq
 unfold execOp
 simp only [ho,Sem.run_bind,hr,Result.andThen_ok,Sem.run_pure]
theorem exec_row {P:Program} {ρ:Operand→Value} {o:Oper} {w w':World} {v:Value} (t:TypeId) (n:Nat) (parts:Array (Nat × Operand)) (ho:o.op=.buildSlice t n parts) (q:Array (Nat × Value)) (hq:(parts.map fun (i,x) => (i,ρ x))=q) (hr:(Instr.buildSlice t n q).run P w=.ok v w'):(execOp ρ o).run P w=.ok (.value v) w':=by
 subst hq
 unfold execOp
 simp only [ho,Sem.run_bind,hr,Result.andThen_ok,Sem.run_pure]
theorem Blk.rangeA {w:World} {B:Nat} {t:TypeId} {X:Array Value} (h:Blk w B t X):w.rangeAt B 0 X.toList:=fun j v hv => by
 rw [Nat.zero_add,h.cell j]
 simpa using hv
theorem own_farRow {w:World} {base:Nat} {e:TypeId} {size:Nat} {v:Value} {n:Nat} {xs:List Value} {b:Nat} {t:TypeId} {cs:Array Value} (h:w.ownsRow base e size v n xs) (hb:Blk w b t cs) (hne:e ≠ t) (c2:Array Value):(w.setRow b c2).ownsRow base e size v n xs:=by
 rcases h with ⟨hl,hv | ⟨g,c,cur,rfl,hbase,hg,hc,hm,hs,ht⟩⟩
 ·exact ⟨hl, .inl hv⟩
 ·refine ⟨hl, .inr ⟨g,c,cur,rfl,hbase,?_,hc,hm,hs,ht⟩⟩
  rw [setRow_other w b g c2 (by
   rintro rfl
   unfold Blk at hb
   rw [hg] at hb
   injection hb with hb
   injection hb with _ hb
   exact hne hb)]
  exact hg
theorem Blk.setRow {w:World} {b:Nat} {t:TypeId} {cs:Array Value} (h:Blk w b t cs) (c2:Array Value):Blk (w.setRow b c2) b t c2:=setRow_heap w b cs c2 t (0,0) h
theorem Blk.farRow {w:World} {b b':Nat} {t:TypeId} {cs:Array Value} (h:Blk w b t cs) (hne:b ≠ b') (c2:Array Value):Blk (w.setRow b' c2) b t cs:=(setRow_other w b' b c2 hne).trans h
theorem below_setRow {B:Nat} {u w:World} (h:Below B u w) {b:Nat} (hb:B≤b) (c2:Array Value):Below B u (w.setRow b c2) :=
 h.trans ((Below.refl B w).trans ⟨rfl,rfl,rfl,by rw [setRow_size];exact Nat.le_refl _,fun j hj => setRow_other w b j c2 (by omega)⟩)
theorem blks_next {p:Sp} (h:VR p) {x:Nat} (h1:p.1≤x) (h2:x≤p.2) (N F:Nat) (hN:N=gB (LN x) x p.2) (hF:F=fil x (LN x - N)) :
  N≤LN x∧VN F∧F≤p.2∧x≤F∧blks (LN p.1) x p.2=(x,N) :: (if F=p.2 then [] else blks (LN p.1) (F + 1) p.2):=by
 obtain ⟨hv,hl,hs⟩:=blk_vn h h1 h2
 have hg:=gB_ok (L:=LN x) h2
 rw [← hN] at hg
 have hp:=two_pos (LN x - N)
 have hFe:F=x + (2 ^ (LN x - N) - 1):=by rw [hF];exact hg.fil
 have hfit:=hg.fits
 refine ⟨hg.le,(blk_vn h (x:=F) (by omega) (by omega)).1,by omega,by omega,?_⟩
 rw [blks_step h2, ← hl, ← hN]
 congr 1
 rw [show x + 2 ^ (LN x - N)=F + 1 by omega]
 by_cases he:F=p.2
 ·rw [if_pos he];exact blks_stop (by omega)
 ·rw [if_neg he]
theorem Blk.grew_ne {w w':World} {b:Nat} {t:TypeId} {cs:Array Value} {v v':Value} (hb:Blk w b t cs) (hne:v.ownBlock ≠ some b) (hG:Grew w w' v v'):Blk w' b t cs :=
 (hG.g.block b hb.lt (Ne.symm hne)).trans hb
theorem qprefixes_any (ad:Option Addr) (n c:Nat) (S:List Sp) (w:World) (h:RdK layQs w ad S) (hn:S.length=n) (hs:n≤100000) (hv:∀ p ∈ S,VR p) :
  Calls Tryz.prog 109 #[.slice ad n c] w fun e w' => ∃ v,e=.returned v∧OwnK layPf w' w.heap.size v (pfs S)∧Below w.heap.size w w':=by
 have Hv:=Lib.hid hv
 have H0:=Lib.hid h
 have Hn:=Lib.hid hn
 clear h hn hv
 go_enter Tryz.func109,Tryz.ntmps109
 go_wp2_with fail
 go_loopw [3,5,6,7,8,9,10,13] (fun out s5 s6 s7 s8 s9 s10 i wr => ∃ k:Nat,k≤n∧i=.int .i64 (k:Int)∧Hid (OwnK layPf wr w.heap.size out (pfs (S.take k)))∧Hid (Below w.heap.size w wr)) (fun _ _ _ _ _ _ _ i _ => n - (intOf i).toNat)
 case atStart => exact ⟨0,Nat.zero_le _,rfl,Lib.hid (OwnK.nil _ _ _),Lib.hid (Below.refl _ _)⟩
 case round =>
  obtain ⟨k,hk,rfl,HO,HB⟩:=hrel
  by_cases hlt:k < n
  ·have hS:k < S.length:=by rw [Hn.out];exact hlt
   obtain ⟨p,hp⟩:∃ p,S[k]?=some p:=⟨_,List.getElem?_eq_getElem hS⟩
   obtain ⟨g,o,had,hg,hcs⟩:=(H0.out.below HB.out).qs hp
   subst had
   have HVp:=Lib.hid (Hv.out p (List.mem_of_getElem? hp))
   have HA1:Hid (allB (S.take (k + 1))=allB (S.take k) ++ blks (LN p.1) p.1 p.2):=Lib.hid (allB_take hp)
   have HLn:Hid ((allB (S.take k)).length≤257 * 100000):=Lib.hid (by
    have:=allB_crude (S:=S.take k) fun q hq => Hv.out q (List.mem_of_mem_take hq)
    have h2:(S.take k).length≤k:=List.length_take_le _ _
    omega)
   have HLb:Hid ((blks (LN p.1) p.1 p.2).length≤257):=Lib.hid (blks_len HVp.out)
   have hXs:=qs_split p
   obtain ⟨X,hX⟩:∃ X,layQs.enc p=X:=⟨_,rfl⟩
   obtain ⟨P1,hP1⟩:∃ P1,wN p.1=P1:=⟨_,rfl⟩
   obtain ⟨P2,hP2⟩:∃ P2,wN p.2=P2:=⟨_,rfl⟩
   have HX1:Hid (X.toArray.size=18):=Lib.hid (by rw [List.size_toArray, ← hX];rfl)
   have HX2:Hid (X.toArray.all (·.oneCell')=true):=Lib.hid (all_oneCell_toArray (by rw [← hX];exact layQs.one p))
   have HS1:Hid (P1.size=9):=Lib.hid (by rw [← hP1];rfl)
   have HS2:Hid (P2.size=9):=Lib.hid (by rw [← hP2];rfl)
   have HN1:Hid (P1.all (·.oneCell')=true):=Lib.hid (by rw [← hP1];exact wd_one _)
   rw [hX] at hcs
   rw [hX,hP1,hP2] at hXs
   have HXs:=Lib.hid hXs
   have HP1:=Lib.hid hP1
   have HP2:=Lib.hid hP2
   have HRA:Hid (wr.rangeAt g (o + k * 18) X):=Lib.hid hcs
   clear hp hS hcs hX hXs hP1 hP2
   have HBr0:Hid (Blk (wr.alloc (.cells X.toArray 156 (0,0))) wr.heap.size 156 X.toArray):=Lib.hid (Blk.new wr _ _)
   have HR1:Hid ((wr.alloc (.cells X.toArray 156 (0,0))).rangeAt wr.heap.size 0 P1.toList):=Lib.hid (range_left (by rw [← HXs.out];exact HBr0.out.range))
   have HBr1:Hid (Blk ((wr.alloc (.cells X.toArray 156 (0,0))).alloc (.cells P1 101 (0,0))) wr.heap.size 156 X.toArray):=Lib.hid (HBr0.out.alloc _)
   have HBx1:Hid (Blk ((wr.alloc (.cells X.toArray 156 (0,0))).alloc (.cells P1 101 (0,0))) (wr.heap.size + 1) 101 P1):=Lib.hid (by
    have this:=Blk.new (wr.alloc (.cells X.toArray 156 (0,0))) 101 P1
    rw [World.size_alloc] at this
    exact this)
   have HB1:Hid (Below w.heap.size w ((wr.alloc (.cells X.toArray 156 (0,0))).alloc (.cells P1 101 (0,0)))):=Lib.hid (Below.alloc (Below.alloc HB.out HB.out.size _) (by have:=HB.out.size;simp;omega) _)
   have HO1:Hid (OwnK layPf ((wr.alloc (.cells X.toArray 156 (0,0))).alloc (.cells P1 101 (0,0))) w.heap.size u3 ((allB (S.take k) ++ []).map pfOf)):=Lib.hid (by rw [List.append_nil];exact (HO.out.alloc _).alloc _)
   have hba:w.heap.size≤wr.heap.size:=HB.out.size
   go_upto_region 5 with (first | (refine wpList_loadn rfl 156 _ rfl g (o + k * 18) rfl _ _ HRA.out Tryz.underlying156 rfl 18 size_qs (by simpa using HX1.out) ?_;go_simp) | (refine wpList_var X.toArray 156 Tryz.zeroValue156 rfl rfl rfl _ _ rfl _ rfl ?_ ?_ 18 size_qs HX1.out ?_ HX2.out ?_;all_goals (try rfl);try go_simp))
   go_upto_block 2 with (first | (refine wpList_loadn rfl 101 _ rfl wr.heap.size 0 rfl _ _ HR1.out Tryz.underlying101 rfl 9 size_wide (by simpa using HS1.out) ?_) | (refine wpList_var P1 101 Tryz.zeroValue101 rfl rfl rfl _ _ rfl _ rfl ?_ ?_ 9 size_wide HS1.out ?_ HN1.out ?_;all_goals (try rfl);try go_simp))
   generalize ((wr.alloc (.cells X.toArray 156 (0,0))).alloc (.cells P1 101 (0,0)))=w3 at *
   generalize wr.heap.size=bs at *
   clear HB HO HRA HR1 HBr0 hg
   go_wp2_with fail
   go_loopw [3,7,8,9,10] (fun out s7 s8 s9 s10 wx => ∃ (x:Nat) (D:List (Nat × Nat)),Hid (VN x)∧Hid (p.1≤x∧x≤p.2)∧Hid (OwnK layPf wx w.heap.size out ((allB (S.take k) ++ D).map pfOf))∧Hid (D ++ blks (LN p.1) x p.2=blks (LN p.1) p.1 p.2)∧Hid (Blk wx bs 156 X.toArray)∧Hid (Blk wx (bs + 1) 101 (wN x))∧Hid (Below w.heap.size w wx)) (fun out _ _ _ _ _ => (allB (S.take k)).length + 257 - vlen out)
   case atStart => exact ⟨p.1, [],Lib.hid HVp.out.a,Lib.hid ⟨Nat.le_refl _,HVp.out.le⟩,HO1,Lib.hid rfl,HBr1,Lib.hid (by rw [HP1.out];exact HBx1.out),HB1⟩
   case round =>
    clear HO1 HBr1 HBx1 HB1
    obtain ⟨x,D,HVx,Hx1,HO,HD,HBr,HBx,HB⟩:=hrel
    have HLen:=Lib.hid (blk_vn HVp.out Hx1.out.1 Hx1.out.2).2.1
    have HAd:=Lib.hid fun wx => wideAddrN wx HVx.out
    have HLe:=Lib.hid fun wx => lengthQN x wx
    have HFi:=Lib.hid fun m wx (hm:m≤LN x) => firstOfN (n:=m) wx HVx.out hm
    have HLa:=Lib.hid fun m wx (hm:m≤LN x) => lastOfN (n:=m) wx HVx.out hm
    have HNe:=Lib.hid fun m (hm:m≤LN x) wx => wN_neq (VN_clr HVx.out hm).lt10.1 HVx.out.lt10.1 wx
    have HEq:=Lib.hid fun m (hm:m≤LN x) wx => wN_eql (VN_fil HVx.out hm).lt10.1 HVp.out.b.lt10.1 wx
    have HCm:=Lib.hid fun m wx (hm:m≤LN x) => wideCmpN wx (VN_fil HVx.out hm).lt10.1 HVp.out.b.lt10.1
    have HWs:Hid ((wN x).size=9):=Lib.hid (wN_size x)
    have HE:Hid (aN x=#[.bool (sixN x), .int .u64 ((hiN x:Nat):Int), .int .u64 ((loN x:Nat):Int)]):=Lib.hid rfl
    have HEp:Hid (∀ m:Int,pN x m=#[.bool (sixN x), .int .u64 ((hiN x:Nat):Int), .int .u64 ((loN x:Nat):Int), .int .i64 m]):=Lib.hid fun _ => rfl
    generalize sixN x=x1 at *
    generalize hiN x=x2 at *
    generalize loN x=x3 at *
    rw [HE.out] at HAd HLe HFi
    rw [HP2.out] at HEq HCm
    have HLa2:Hid (∀ (m:Nat) (wx:World),m≤LN x→Calls Tryz.prog 134 #[.agg #[.bool x1, .int .u64 (x2:Int), .int .u64 (x3:Int), .int .i64 (m:Int)]] wx (Ret (.agg (wN (fil x (LN x - m)))) wx)):=Lib.hid fun m wx hm => by
     have:=HLa.out m wx hm
     rw [HEp.out] at this
     exact this
    clear HLa HEp
    generalize wN x=WX at *
    have HRx:Hid (wr.rangeAt (bs + 1) 0 WX.toList):=Lib.hid HBx.out.rangeA
    go_wp2_with (refine wpList_loadn rfl 101 _ rfl (bs + 1) 0 rfl _ _ HRx.out Tryz.underlying101 rfl 9 size_wide (by simpa using HWs.out) ?_;go_simp)
    refine (HAd.out _).mono ?_
    rintro e w4 ⟨rfl,hb⟩
    have HBa5:Hid (Blk (w4.alloc (.cells #[.bool x1, .int .u64 (x2:Int), .int .u64 (x3:Int)] 28 (0,0))) w4.heap.size 28 #[.bool x1, .int .u64 (x2:Int), .int .u64 (x3:Int)]):=Lib.hid (Blk.new w4 _ _)
    have HBr5:Hid (Blk (w4.alloc (.cells #[.bool x1, .int .u64 (x2:Int), .int .u64 (x3:Int)] 28 (0,0))) bs 156 X.toArray):=Lib.hid ((HBr.out.below hb HBr.out.lt).alloc _)
    have HBx5:Hid (Blk (w4.alloc (.cells #[.bool x1, .int .u64 (x2:Int), .int .u64 (x3:Int)] 28 (0,0))) (bs + 1) 101 WX):=Lib.hid ((HBx.out.below hb HBx.out.lt).alloc _)
    have HO5:Hid (OwnK layPf (w4.alloc (.cells #[.bool x1, .int .u64 (x2:Int), .int .u64 (x3:Int)] 28 (0,0))) w.heap.size u3 ((allB (S.take k) ++ D).map pfOf)):=Lib.hid ((HO.out.later hb).alloc _)
    have hB4:=HB.out.trans (hb.mono HB.out.size)
    have HB5:Hid (Below w.heap.size w (w4.alloc (.cells #[.bool x1, .int .u64 (x2:Int), .int .u64 (x3:Int)] 28 (0,0)))):=Lib.hid (Below.alloc hB4 hB4.size _)
    clear hb hB4 HBr HBx HO HB HRx HAd
    go_upto_region 7 with fail
    generalize (w4.alloc (.cells #[.bool x1, .int .u64 (x2:Int), .int .u64 (x3:Int)] 28 (0,0)))=w5 at *
    generalize w4.heap.size=ba at *
    clear w4
    have q0:=HBa5.out.cell 0
    have q1:=HBa5.out.cell 1
    have q2:=HBa5.out.cell 2
    simp at q0 q1 q2
    go_wp2_with fail
    refine (HLe.out _).mono ?_
    rintro e w6 ⟨rfl,hb⟩
    have HBa6:=Lib.hid (HBa5.out.below hb HBa5.out.lt)
    have HBr6:=Lib.hid (HBr5.out.below hb HBr5.out.lt)
    have HBx6:=Lib.hid (HBx5.out.below hb HBx5.out.lt)
    have HO6:=Lib.hid (HO5.out.later hb)
    have HB6:=Lib.hid (HB5.out.trans (hb.mono HB5.out.size))
    clear hb HBa5 HBr5 HBx5 HO5 HB5 q0 q1 q2 HLe
    go_upto_block 4 with fail
    go_cut [8,9] (fun nn s9 wx => nn=.int .i64 ((gB (LN x) x p.2:Nat):Int)∧Below w6.heap.size w6 wx)
    case first =>
     as_aux_lemma =>
      clear HO6 HB6 HD HLb HLn HEq
      go_wp2_with fail
      go_loopw [8,9] (fun nn s9 wx => ∃ m:Nat,m≤LN x∧nn=.int .i64 (m:Int)∧Hid (gN (LN x) x p.2 m=gB (LN x) x p.2)∧Hid (Below w6.heap.size w6 wx)) (fun nn _ _ => (intOf nn).toNat)
      case atStart => exact ⟨LN x,Nat.le_refl _,rfl,Lib.hid rfl,Lib.hid (Below.refl _ _)⟩
      case round =>
       obtain ⟨m,hm,rfl,HG,HBx⟩:=hrel
       by_cases hm0:m=0
       ·subst hm0
        have HG2:Hid (0=gB (LN x) x p.2):=Lib.hid HG.out
        have z0:((0:Nat):Int)=0:=rfl
        rw [z0]
        go_wp2_with fail
        go_meet
        case rel => exact ⟨by rw [← HG2.out];rfl,HBx.out⟩
       ·obtain ⟨j,hj⟩:∃ j,m=j + 1:=⟨m - 1,by omega⟩
        have hjL:j≤LN x:=by omega
        have e1:(m:Int) - 1=(j:Int):=by omega
        have g1:decide (0 < m)=true:=decide_eq_true (by omega)
        have g2:(m:Int)≤128:=by
         have:LN x≤128:=by rw [LN_six];exact lenN_le _
         omega
        have HGm:Hid (gN (LN x) x p.2 (j + 1)=gB (LN x) x p.2):=Lib.hid (by rw [← hj];exact HG.out)
        have HJm:=Lib.hid hj
        have HBa7:=Lib.hid (HBa6.out.below HBx.out HBa6.out.lt)
        have q0:=HBa7.out.cell 0
        have q1:=HBa7.out.cell 1
        have q2:=HBa7.out.cell 2
        simp at q0 q1 q2
        have HBq8:Hid (Blk (wr.alloc (.cells #[.bool x1, .int .u64 (x2:Int), .int .u64 (x3:Int), .int .i64 (j:Int)] 30 (0,0))) wr.heap.size 30 #[.bool x1, .int .u64 (x2:Int), .int .u64 (x3:Int), .int .i64 (j:Int)]):=Lib.hid (Blk.new wr _ _)
        have HBa8:Hid (Blk (wr.alloc (.cells #[.bool x1, .int .u64 (x2:Int), .int .u64 (x3:Int), .int .i64 (j:Int)] 30 (0,0))) ba 28 #[.bool x1, .int .u64 (x2:Int), .int .u64 (x3:Int)]):=Lib.hid (HBa7.out.alloc _)
        have HBr8:Hid (Blk (wr.alloc (.cells #[.bool x1, .int .u64 (x2:Int), .int .u64 (x3:Int), .int .i64 (j:Int)] 30 (0,0))) bs 156 X.toArray):=Lib.hid ((HBr6.out.below HBx.out HBr6.out.lt).alloc _)
        have HBx8:Hid (Blk (wr.alloc (.cells #[.bool x1, .int .u64 (x2:Int), .int .u64 (x3:Int), .int .i64 (j:Int)] 30 (0,0))) (bs + 1) 101 WX):=Lib.hid ((HBx6.out.below HBx.out HBx6.out.lt).alloc _)
        have HB8:Hid (Below w6.heap.size w6 (wr.alloc (.cells #[.bool x1, .int .u64 (x2:Int), .int .u64 (x3:Int), .int .i64 (j:Int)] 30 (0,0)))):=Lib.hid (Below.alloc HBx.out HBx.out.size _)
        clear HBx HBa7 HBa6 HBr6 HBx6
        go_upto_region 10 with fail
        generalize (wr.alloc (.cells #[.bool x1, .int .u64 (x2:Int), .int .u64 (x3:Int), .int .i64 (j:Int)] 30 (0,0)))=w8 at *
        generalize wr.heap.size=bq at *
        clear q0 q1 q2
        have q0:=HBa8.out.cell 0
        have q1:=HBa8.out.cell 1
        have q2:=HBa8.out.cell 2
        simp at q0 q1 q2
        have r0:=HBq8.out.cell 0
        have r1:=HBq8.out.cell 1
        have r2:=HBq8.out.cell 2
        have r3:=HBq8.out.cell 3
        simp at r0 r1 r2 r3
        have l0:=Later.cell_of q0
        have l1:=Later.cell_of q1
        have l2:=Later.cell_of q2
        have k0:=Later.cell_of r0
        have k1:=Later.cell_of r1
        have k2:=Later.cell_of r2
        have k3:=Later.cell_of r3
        have HTx:Hid (∀ wx,(∃ x:Later w8,wx=x.1)→wx.rangeAt (bs + 1) 0 WX.toList):=Lib.hid (by rintro wx ⟨x,rfl⟩;exact range_below HBx8.out.rangeA x.2 HBx8.out.lt)
        have HTp:Hid (∀ wx,(∃ x:Later w8,wx=x.1)→wx.rangeAt bs 9 P2.toList):=Lib.hid (by
         rintro wx ⟨x,rfl⟩
         have:=HBr8.out.range
         rw [HXs.out] at this
         have:=range_right this
         rw [Array.length_toList,HS1.out] at this
         exact range_below this x.2 HBr8.out.lt)
        have hM:=fun X:Later w8 => Calls.later X (HFi.out j X.1 hjL)
        have hF:=fun X:Later w8 => Calls.later X (HLa2.out j X.1 hjL)
        have hC:=fun X:Later w8 => Calls.later X (HCm.out j X.1 hjL)
        have hNe:=HNe.out j hjL
        have hGd:=wide_guard .neq
        have HCl:=Lib.hid (cN_pos (fil x (LN x - j)) p.2)
        clear hj HG hm0 hm HBa8 HBq8 HBr8 HBx8 q0 q1 q2 r0 r1 r2 r3
        have HArm:Hid (∀ b:Bool,True):=Lib.hid fun _ => trivial
        by_cases hc1:clr x (LN x - j)=x
        ·have Hc1:=Lib.hid hc1
         rw [decide_eq_true hc1] at hNe
         clear hc1
         generalize wN (clr x (LN x - j))=CV at *
         by_cases hc2:fil x (LN x - j)≤p.2
         ·have hC2:¬ cN (fil x (LN x - j)) p.2 > 0:=fun h => absurd (HCl.out.1 h) (by omega)
          have HG2:Hid (gN (LN x) x p.2 j=gB (LN x) x p.2):=Lib.hid (by rw [← HGm.out,gN_hit ⟨Hc1.out,hc2⟩])
          clear hc2 HCl HGm Hc1
          generalize cN (fil x (LN x - j)) p.2=C2 at *
          generalize wN (fil x (LN x - j))=FW at *
          refine wp_region_later (by kernel_rfl) (by kernel_rfl) ?_
          repeat (first | go_big_quiet_step (first | (go_at_call 97;exact hM _) | (go_at_call 134;exact hF _) | (go_at_call 133;exact hC _)) | (refine wpQuiet_loadn rfl 101 _ rfl _ rfl (bs + 1) 0 rfl WX HTx.out _ Tryz.underlying101 rfl 9 size_wide HWs.out ?_;go_simp) | (refine wpQuiet_loadn rfl 101 _ rfl _ rfl bs 9 rfl P2 HTp.out _ Tryz.underlying101 rfl 9 size_wide HS2.out ?_;go_simp))
          refine wpQuiet_nil ?_
          rintro ⟨w9,hb⟩
          dsimp only
          have HBy:=Lib.hid (HB8.out.trans (hb.mono HB8.out.size))
          clear hb hM hF hC hNe hGd l0 l1 l2 k0 k1 k2 k3
          go_wp2_with fail
          exact ⟨⟨j,hjL,rfl,HG2,HBy⟩,by simp [intOf];omega⟩
         ·have hC2:cN (fil x (LN x - j)) p.2 > 0:=HCl.out.2 (by omega)
          have HG2:Hid (m=gB (LN x) x p.2):=Lib.hid (by rw [← HGm.out,gN_miss (fun h => hc2 h.2),HJm.out])
          clear hc2 HCl HGm Hc1
          generalize cN (fil x (LN x - j)) p.2=C2 at *
          generalize wN (fil x (LN x - j))=FW at *
          refine wp_region_later (by kernel_rfl) (by kernel_rfl) ?_
          repeat (first | go_big_quiet_step (first | (go_at_call 97;exact hM _) | (go_at_call 134;exact hF _) | (go_at_call 133;exact hC _)) | (refine wpQuiet_loadn rfl 101 _ rfl _ rfl (bs + 1) 0 rfl WX HTx.out _ Tryz.underlying101 rfl 9 size_wide HWs.out ?_;go_simp) | (refine wpQuiet_loadn rfl 101 _ rfl _ rfl bs 9 rfl P2 HTp.out _ Tryz.underlying101 rfl 9 size_wide HS2.out ?_;go_simp))
          refine wpQuiet_nil ?_
          rintro ⟨w9,hb⟩
          dsimp only
          have HBy:=Lib.hid (HB8.out.trans (hb.mono HB8.out.size))
          clear hb hM hF hC hNe hGd l0 l1 l2 k0 k1 k2 k3
          go_wp2_with fail
          go_meet
          case rel => exact ⟨by rw [← HG2.out],HBy.out⟩
        ·have HG2:Hid (m=gB (LN x) x p.2):=Lib.hid (by rw [← HGm.out,gN_miss (fun h => hc1 h.1),HJm.out])
         rw [decide_eq_false hc1] at hNe
         clear hc1 HGm HCl
         generalize wN (clr x (LN x - j))=CV at *
         refine wp_region_later (by kernel_rfl) (by kernel_rfl) ?_
         repeat (first | go_big_quiet_step (first | (go_at_call 97;exact hM _) | (go_at_call 134;exact hF _) | (go_at_call 133;exact hC _)) | (refine wpQuiet_loadn rfl 101 _ rfl _ rfl (bs + 1) 0 rfl WX HTx.out _ Tryz.underlying101 rfl 9 size_wide HWs.out ?_;go_simp) | (refine wpQuiet_loadn rfl 101 _ rfl _ rfl bs 9 rfl P2 HTp.out _ Tryz.underlying101 rfl 9 size_wide HS2.out ?_;go_simp))
         refine wpQuiet_nil ?_
         rintro ⟨w9,hb⟩
         dsimp only
         have HBy:=Lib.hid (HB8.out.trans (hb.mono HB8.out.size))
         clear hb hM hF hC hNe hGd l0 l1 l2 k0 k1 k2 k3
         go_wp2_with fail
         go_meet
         case rel => exact ⟨by rw [← HG2.out],HBy.out⟩
    case rest =>
     as_aux_lemma =>
      obtain ⟨rfl,hb⟩:=hcut
      have HBa7:=Lib.hid (HBa6.out.below hb HBa6.out.lt)
      have HBr7:=Lib.hid (HBr6.out.below hb HBr6.out.lt)
      have HBx7:=Lib.hid (HBx6.out.below hb HBx6.out.lt)
      have HO7:=Lib.hid (HO6.out.later hb)
      have HB7:=Lib.hid (HB6.out.trans (hb.mono HB6.out.size))
      clear hb HBa6 HBr6 HBx6 HO6 HB6 HNe HFi HCm
      obtain ⟨N,hN⟩:∃ N,gB (LN x) x p.2=N:=⟨_,rfl⟩
      obtain ⟨hNl,hVF,hFle,hFge,hstep⟩:=blks_next HVp.out Hx1.out.1 Hx1.out.2 N (fil x (LN x - N)) hN.symm rfl
      rw [hN]
      clear hN
      have HLa:=Lib.hid fun wx => HLa2.out N wx hNl
      have hEq:=HEq.out N hNl
      have HPl:=Lib.hid fun wx => plusN (fil x (LN x - N)) wx
      have HNs:Hid ((wN (fil x (LN x - N) + 1)).size=9):=Lib.hid (wN_size _)
      have HNo:Hid ((wN (fil x (LN x - N) + 1)).all (·.oneCell')=true):=Lib.hid (wd_one _)
      have HFb:=Lib.hid (And.intro hVF (And.intro hFle hFge))
      have HSt:=Lib.hid hstep
      have hNb:N≤128:=Nat.le_trans hNl (by rw [LN_six];exact lenN_le _)
      clear hNl hVF hFle hFge hstep HLa2 HEq
      generalize fil x (LN x - N)=F at *
      have HDl:Hid (D.length + 1≤257):=Lib.hid (by
       have e:=congrArg List.length HD.out
       rw [HSt.out,List.length_append,List.length_cons] at e
       have:=HLb.out
       omega)
      have HD2:Hid (D ++ [(x,N)] ++ (if F=p.2 then [] else blks (LN p.1) (F + 1) p.2)=blks (LN p.1) p.1 p.2):=Lib.hid (by
       rw [← HD.out,HSt.out,List.append_assoc]
       rfl)
      clear HD HSt
      obtain ⟨LL,hLL⟩:∃ LL,(allB (S.take k) ++ D).map pfOf=LL:=⟨_,rfl⟩
      have hLn:LL.length=(allB (S.take k)).length + D.length:=by rw [← hLL,List.length_map,List.length_append]
      rw [hLL] at HO7
      have HLL:=Lib.hid hLL
      have HLn2:=Lib.hid hLn
      have HOl:=Lib.hid HO7.out.vlen
      clear hLL hLn
      have q0:=HBa7.out.cell 0
      have q1:=HBa7.out.cell 1
      have q2:=HBa7.out.cell 2
      simp at q0 q1 q2
      have HBp8:Hid (Blk (wc.alloc (.cells #[.bool x1, .int .u64 (x2:Int), .int .u64 (x3:Int), .int .i64 (N:Int)] 30 (0,0))) wc.heap.size 30 #[.bool x1, .int .u64 (x2:Int), .int .u64 (x3:Int), .int .i64 (N:Int)]):=Lib.hid (Blk.new wc _ _)
      have HBr8:Hid (Blk (wc.alloc (.cells #[.bool x1, .int .u64 (x2:Int), .int .u64 (x3:Int), .int .i64 (N:Int)] 30 (0,0))) bs 156 X.toArray):=Lib.hid (HBr7.out.alloc _)
      have HBx8:Hid (Blk (wc.alloc (.cells #[.bool x1, .int .u64 (x2:Int), .int .u64 (x3:Int), .int .i64 (N:Int)] 30 (0,0))) (bs + 1) 101 WX):=Lib.hid (HBx7.out.alloc _)
      have HO8:Hid (OwnK layPf (wc.alloc (.cells #[.bool x1, .int .u64 (x2:Int), .int .u64 (x3:Int), .int .i64 (N:Int)] 30 (0,0))) w.heap.size u3 LL):=Lib.hid (HO7.out.alloc _)
      have HB8:Hid (Below w.heap.size w (wc.alloc (.cells #[.bool x1, .int .u64 (x2:Int), .int .u64 (x3:Int), .int .i64 (N:Int)] 30 (0,0)))):=Lib.hid (Below.alloc HB7.out HB7.out.size _)
      have HLt:Hid (u3.ownBlock ≠ some wc.heap.size):=Lib.hid fun e => absurd (own_lt HO7.out _ e) (Nat.lt_irrefl _)
      clear HBa7 HBr7 HBx7 HO7 HB7
      go_upto_region 13 with fail
      generalize (wc.alloc (.cells #[.bool x1, .int .u64 (x2:Int), .int .u64 (x3:Int), .int .i64 (N:Int)] 30 (0,0)))=w8 at *
      generalize wc.heap.size=bp at *
      clear q0 q1 q2
      have r0:=HBp8.out.cell 0
      have r1:=HBp8.out.cell 1
      have r2:=HBp8.out.cell 2
      have r3:=HBp8.out.cell 3
      simp at r0 r1 r2 r3
      go_upto_region 14 with (at_builtin;refine wpList_app pfE rfl (.tmp 48) (.tmp 50) rfl rfl (World.ownsRow.alloc HO8.out _) rfl (src_new layPf _ (pfOf (x,N)) _ _ ?c0) ?c1 ?c2 ?c3 ?c4 ?_)
      case c0 =>
       show _=((aN x).toList ++ [Value.int .i64 (N:Int)]).toArray
       rw [HE.out]
       rfl
      case c1 => exact layPf.one _
      case c2 => unfold maxLen;have:=HLn.out;have:=HDl.out;rw [HLn2.out];omega
      case c3 => have:=HLn.out;have:=HDl.out;rw [HLn2.out];omega
      case c4 => have:=HB8.out.size;simp;omega
      intro v' w9 hO hG
      have HO9:Hid (OwnK layPf w9 w.heap.size v' ((allB (S.take k) ++ (D ++ [(x,N)])).map pfOf)):=Lib.hid (by
       have:=OwnK.snoc hO
       rw [show (allB (S.take k) ++ (D ++ [(x,N)])).map pfOf=(allB (S.take k) ++ D).map pfOf ++ [pfOf (x,N)] by simp,HLL.out]
       exact this)
      have HBr9:=Lib.hid ((HBr8.out.alloc (.cells #[.bool x1, .int .u64 (x2:Int), .int .u64 (x3:Int), .int .i64 (N:Int)] 30 (0,0))).grew (World.ownsRow.alloc HO8.out _) (by decide) hG)
      have HBp9:=Lib.hid ((HBp8.out.alloc (.cells #[.bool x1, .int .u64 (x2:Int), .int .u64 (x3:Int), .int .i64 (N:Int)] 30 (0,0))).grew_ne HLt.out hG)
      have HBx9:=Lib.hid ((HBx8.out.alloc (.cells #[.bool x1, .int .u64 (x2:Int), .int .u64 (x3:Int), .int .i64 (N:Int)] 30 (0,0))).grew (World.ownsRow.alloc HO8.out _) (by decide) hG)
      have HB9:Hid (Below w.heap.size w w9):=Lib.hid ((Below.alloc HB8.out HB8.out.size _).trans (hG.below (by have:=HB8.out.size;simp;omega) (own_base HO8.out)))
      have HVl:=Lib.hid HO9.out.vlen
      clear hO hG HO8 HBp8 HBr8 HBx8 HB8 r0 r1 r2 r3 HLt
      go_upto_region 14 with fail
      have r0:=HBp9.out.cell 0
      have r1:=HBp9.out.cell 1
      have r2:=HBp9.out.cell 2
      have r3:=HBp9.out.cell 3
      simp at r0 r1 r2 r3
      have l0:=Later.cell_of r0
      have l1:=Later.cell_of r1
      have l2:=Later.cell_of r2
      have l3:=Later.cell_of r3
      have HTp:Hid (∀ wx,(∃ x:Later w9,wx=x.1)→wx.rangeAt bs 9 P2.toList):=Lib.hid (by
       rintro wx ⟨x,rfl⟩
       have:=HBr9.out.range
       rw [HXs.out] at this
       have:=range_right this
       rw [Array.length_toList,HS1.out] at this
       exact range_below this x.2 HBr9.out.lt)
      have hF:=fun X:Later w9 => Calls.later X (HLa.out X.1)
      have hGd:=wide_guard .eql
      generalize hNW:wN (F + 1)=NW at *
      have HNW:=Lib.hid hNW
      clear hNW
      generalize wN F=FW at *
      by_cases hFe:F=p.2
      ·rw [decide_eq_true hFe] at hEq
       have HO':Hid (OwnK layPf w9 w.heap.size v' (pfs (S.take (k + 1)))):=Lib.hid (by
        have e:=HD2.out
        rw [if_pos hFe,List.append_nil] at e
        unfold pfs
        rw [HA1.out, ← e]
        exact HO9.out)
       clear HO9 HD2
       refine wp_region_later (by kernel_rfl) (by kernel_rfl) ?_
       repeat (first | go_big_quiet_step ((go_at_call 134;exact hF _)) | (refine wpQuiet_loadn rfl 101 _ rfl _ rfl bs 9 rfl P2 HTp.out _ Tryz.underlying101 rfl 9 size_wide HS2.out ?_;go_simp))
       refine wpQuiet_nil ?_
       rintro ⟨w10,hb⟩
       dsimp only
       have HO10:=Lib.hid (HO'.out.later hb)
       have HB10:=Lib.hid (HB9.out.trans (hb.mono HB9.out.size))
       clear hb hF hEq hGd HB9 HO' l0 l1 l2 l3 HTp r0 r1 r2 r3
       go_wp2_with fail
       exact ⟨⟨k + 1,by omega,by go_num,HO10,HB10⟩,by simp [intOf];omega⟩
      ·rw [decide_eq_false hFe] at hEq
       have HD3:Hid (D ++ [(x,N)] ++ blks (LN p.1) (F + 1) p.2=blks (LN p.1) p.1 p.2):=Lib.hid (by
        have e:=HD2.out
        rw [if_neg hFe] at e
        exact e)
       have hF1:p.1≤F + 1∧F + 1≤p.2:=by have:=HFb.out.2;have:=Hx1.out.1;omega
       have HF1:=Lib.hid hF1
       have HVF1:=Lib.hid (blk_vn HVp.out hF1.1 hF1.2).1
       clear HD2 hF1
       refine wp_region_later (by kernel_rfl) (by kernel_rfl) ?_
       repeat (first | go_big_quiet_step ((go_at_call 134;exact hF _)) | (refine wpQuiet_loadn rfl 101 _ rfl _ rfl bs 9 rfl P2 HTp.out _ Tryz.underlying101 rfl 9 size_wide HS2.out ?_;go_simp))
       refine wpQuiet_nil ?_
       rintro ⟨w10,hb⟩
       dsimp only
       have HO10:=Lib.hid (HO9.out.later hb)
       have HB10:=Lib.hid (HB9.out.trans (hb.mono HB9.out.size))
       have HBp10:=Lib.hid (HBp9.out.below hb HBp9.out.lt)
       have HBr10:=Lib.hid (HBr9.out.below hb HBr9.out.lt)
       have HBx10:=Lib.hid (HBx9.out.below hb HBx9.out.lt)
       clear hb hF hEq hGd HB9 HO9 HBp9 HBr9 HBx9 l0 l1 l2 l3 HTp r0 r1 r2 r3
       have r0:=HBp10.out.cell 0
       have r1:=HBp10.out.cell 1
       have r2:=HBp10.out.cell 2
       have r3:=HBp10.out.cell 3
       simp at r0 r1 r2 r3
       go_wp2_with fail
       refine (HLa.out _).mono ?_
       rintro e w11 ⟨rfl,hb⟩
       have HO11:=Lib.hid (HO10.out.later hb)
       have HB11:=Lib.hid (HB10.out.trans (hb.mono HB10.out.size))
       have HBr11:=Lib.hid (HBr10.out.below hb HBr10.out.lt)
       have HBx11:=Lib.hid (HBx10.out.below hb HBx10.out.lt)
       clear hb HO10 HB10 HBp10 HBr10 HBx10 r0 r1 r2 r3
       go_wp2_with fail
       refine (HPl.out _).mono ?_
       rintro e w12 ⟨rfl,hb⟩
       have HO12:=Lib.hid (HO11.out.later hb)
       have HB12:=Lib.hid (HB11.out.trans (hb.mono HB11.out.size))
       have HBr12:=Lib.hid (HBr11.out.below hb HBr11.out.lt)
       have HBx12:=Lib.hid (HBx11.out.below hb HBx11.out.lt)
       clear hb HO11 HB11 HBr11 HBx11
       have hba3:w.heap.size≤bs + 1:=by omega
       have HS:=Lib.hid (And.intro (own_farRow HO12.out HBx12.out (by decide) NW) (And.intro (HBr12.out.farRow (by omega:bs ≠ bs + 1) NW) (And.intro (HBx12.out.setRow NW) (below_setRow HB12.out hba3 NW))))
       have HXc:=Lib.hid (show w12.heap[bs + 1]?=some (.cells WX 101 (0,0)) from HBx12.out)
       clear HO12 HB12 HBr12 HBx12
       go_wp2_with (refine wpList_store_row rfl 101 (.tmp 6) (.tmp 59) rfl (bs + 1) NW rfl rfl 101 WX HXc.out (by rw [HNs.out];exact size_wide) (by rw [HWs.out,HNs.out]) HNo.out ?_;dsimp only [Act.put])
       refine ⟨?rel,?measure⟩
       case rel => exact ⟨F + 1,D ++ [(x,N)],HVF1,HF1,Lib.hid HS.out.1,HD3,Lib.hid HS.out.2.1,Lib.hid (by rw [HNW.out];exact HS.out.2.2.1),Lib.hid HS.out.2.2.2⟩
       case measure =>
        have m1:=HVl.out
        rw [List.length_map,List.length_append,List.length_append,List.length_singleton] at m1
        have m2:=HOl.out
        rw [HLn2.out] at m2
        have m3:=HDl.out
        simp
        omega
  ·obtain rfl:k=n:=by omega
   have hT:S.take k=S:=List.take_of_length_le (by rw [Hn.out];exact Nat.le_refl _)
   have HO2:Hid (OwnK layPf wr w.heap.size u3 (pfs S)):=Lib.hid (by have:=HO.out;rw [hT] at this;exact this)
   clear hT HO
   go_wp2_with fail
   go_ret
   exact ⟨_,rfl,HO2.out,HB.out⟩
def gapsTo (S:List Sp):Nat→List Sp
 | 0 => []
 | 1 => gapsOf false S
 | _ => gaps S
theorem gapsTo_succ (S:List Sp) (i:Nat) (h:i < 2):gapsTo S (i + 1)=gapsTo S i ++ gapsOf (decide (i=1)) S:=by
 have:i=0 ∨ i=1:=by omega
 rcases this with rfl | rfl
 ·rfl
 ·rfl
theorem aN_lo (six:Bool):aN (loF six)=#[.bool six, .int .u64 0, .int .u64 0]:=by
 cases six <;> rfl
theorem lo_vn (six:Bool):VN (loF six)∧sixN (loF six)=six:=by
 have h:loF six≤topF six:=by cases six <;> decide
 exact fam_vn (Nat.le_refl _) h
theorem top_fam {x:Nat} {six:Bool} (h:VN x) (hs:sixN x=six):topN x=topF six:=by
 rw [top_val h,hs];rfl
theorem fam_drop {S:List Sp} {k:Nat} {r:Sp} (hr:S[k]?=some r) (six:Bool):fam six (S.drop k)=if sixN r.1=six then r :: fam six (S.drop (k + 1)) else fam six (S.drop (k + 1)):=by
 have hk:=(List.getElem?_eq_some_iff.1 hr).1
 have e:S[k]=r:=by rw [List.getElem?_eq_getElem hk] at hr;injection hr
 rw [List.drop_eq_getElem_cons hk,e]
 unfold fam
 by_cases h:sixN r.1=six
 ·rw [if_pos h,List.filter_cons_of_pos (by simpa using h)]
 ·rw [if_neg h,List.filter_cons_of_neg (by simpa using h)]
structure GapSt (S:List Sp) (six left:Bool) (k x:Nat) (D:List Sp):Prop where
 vx:VN x
 sx:sixN x=six
 eq:D ++ (if left=true then gapsF (topF six) (fam six (S.drop k)) x else [])=gapsOf six S
 up:left=true→∀ p ∈ fam six (S.drop k),x≤p.1
 no:left=false→fam six (S.drop k)=[]
theorem gapSt_zero {S:List Sp} (hv:∀ p ∈ S,VR p) (six:Bool):GapSt S six true 0 (loF six) [] :=
 ⟨(lo_vn six).1,(lo_vn six).2,rfl,fun _ p hp => (fam_bd hv six p hp).1,fun h => by cases h⟩
theorem GapSt.skip {S:List Sp} {six left:Bool} {k x:Nat} {D:List Sp} (h:GapSt S six left k x D) {r:Sp} (hr:S[k]?=some r) (hs:sixN r.1 ≠ six):GapSt S six left (k + 1) x D:=by
 have e:=fam_drop hr six
 rw [if_neg hs] at e
 exact ⟨h.vx,h.sx,by rw [← e];exact h.eq,by rw [← e];exact h.up,by rw [← e];exact h.no⟩
theorem GapSt.hit {S:List Sp} (hc:Can S) (hv:∀ p ∈ S,VR p) {six left:Bool} {k x:Nat} {D:List Sp} (h:GapSt S six left k x D) {r:Sp} (hr:S[k]?=some r) (hs:sixN r.1=six) :
  left=true∧x≤r.1∧(x < r.1→VN (r.1 - 1)∧sixN (r.1 - 1)=sixN r.1∧0 < r.1)∧GapSt S six (!decide (r.2=topN r.2)) (k + 1) (if r.2=topN r.2 then r.2 else r.2 + 1) (D ++ if x < r.1 then [(x,r.1 - 1)] else []):=by
 have e:=fam_drop hr six
 rw [if_pos hs] at e
 have hrv:=hv r (List.mem_of_getElem? hr)
 have hl:left=true:=by
  cases left
  ·have:=h.no rfl
   rw [e] at this;cases this
  ·rfl
 subst hl
 have hxr:=h.up rfl r (by rw [e];exact List.mem_cons_self ..)
 have hs2:sixN r.2=six:=hrv.s.symm.trans hs
 have ht:=top_fam hrv.b hs2
 have hq:∀ p ∈ fam six (S.drop (k + 1)),r.2 + 1 < p.1∧p.1≤p.2∧p.2≤topF six:=fun p hp => by
  have hpS:p ∈ S.drop (k + 1):=(List.mem_filter.1 hp).1
  have hk:=(List.getElem?_eq_some_iff.1 hr).1
  have ek:S[k]=r:=by rw [List.getElem?_eq_getElem hk] at hr;injection hr
  have hcd:Can (S.drop k):=⟨hc.1.sublist (List.drop_sublist _ _),fun q hq => hc.2 q (List.mem_of_mem_drop hq)⟩
  rw [List.drop_eq_getElem_cons hk,ek] at hcd
  have h1:=(List.pairwise_cons.1 hcd.1).1 p hpS
  have hpm:p ∈ S:=List.mem_of_mem_drop hpS
  exact ⟨h1,(hv p hpm).le,(fam_bd hv six p (List.mem_filter.2 ⟨hpm,(List.mem_filter.1 hp).2⟩)).2⟩
 have heq:=h.eq
 rw [if_pos rfl,e] at heq
 unfold gapsF at heq
 refine ⟨rfl,hxr,fun hlt => ?_,?_⟩
 ·have h1:VN (r.1 - 1)∧sixN (r.1 - 1)=six:=by
   have a:=vn_fam h.vx
   have b:=vn_fam hrv.a
   rw [h.sx] at a
   rw [hs] at b
   exact fam_vn (by omega) (by omega)
  exact ⟨h1.1,h1.2.trans hs.symm,by omega⟩
 ·by_cases h2:r.2=topN r.2
  ·have hnil:fam six (S.drop (k + 1))=[]:=by
    cases hf:fam six (S.drop (k + 1)) with
    | nil => rfl
    | cons q Q =>
      have:=hq q (by rw [hf];exact List.mem_cons_self ..)
      rw [ht] at h2
      omega
   rw [if_pos h2,decide_eq_true h2]
   refine ⟨hrv.b,hs2,?_,fun h => by simp at h,fun _ => hnil⟩
   rw [hnil] at heq
   unfold gapsF at heq
   rw [ht] at h2
   rw [if_neg (by omega:¬ r.2 + 1≤topF six),List.append_nil] at heq
   simpa using heq
  ·have hn:=next_num hrv.b h2
   rw [if_neg h2,decide_eq_false h2]
   refine ⟨hn.1,hn.2.1.trans hs2,?_,fun _ p hp => ?_,fun h => by simp at h⟩
   ·rw [if_pos (by rfl:(!false)=true),List.append_assoc]
    exact heq
   ·have:=hq p hp;omega
theorem GapSt.done {S:List Sp} {six left:Bool} {k x:Nat} {D:List Sp} (h:GapSt S six left k x D) (hk:S.length≤k):D ++ (if left=true then [(x,topN x)] else [])=gapsOf six S:=by
 have he:=h.eq
 rw [List.drop_eq_nil_of_le hk] at he
 have:fam six ([]:List Sp)=[]:=rfl
 rw [this] at he
 unfold gapsF at he
 have hx:=(vn_fam h.vx).2
 rw [h.sx] at hx
 rw [if_pos hx, ← top_fam h.vx h.sx] at he
 exact he
theorem GapSt.len {S:List Sp} {six left:Bool} {k x:Nat} {D:List Sp} (h:GapSt S six left k x D):D.length≤S.length + 1:=by
 have e:=congrArg List.length h.eq
 rw [List.length_append] at e
 have:=gapsF_len (topF six) (fam six S) (loF six)
 have h2:(fam six S).length≤S.length:=List.length_filter_le _ _
 unfold gapsOf at e
 omega
theorem gapsTo_len (S:List Sp) (i:Nat):(gapsTo S i).length≤2 * S.length + 2:=by
 have h:=gaps_len S
 rcases i with _ | _ | i
 ·simp [gapsTo]
 ·have:(gaps S).length=(gapsOf false S).length + (gapsOf true S).length:=by unfold gaps;rw [List.length_append]
  show (gapsOf false S).length≤_
  omega
 ·exact h
def reR (br:Nat) (out:Value) (xa ra pa v6:Array Value):Nat→Value→World→Prop
 | 0,v,_ => v=out
 | 1,v,_ => v=.agg xa
 | 2,v,_ => v=.pointer (some ⟨br,0,none⟩)
 | 3,v,_ => v=.agg ra
 | 4,v,_ => v=.agg pa
 | 5,v,_ => v=.agg v6
 | _,v,w => ∃ B,v=.slice (some ⟨B,0,none⟩) 1 1∧Blk w B 92 v6
theorem reR_keep {br:Nat} {out:Value} {xa ra pa v6:Array Value} (p:Nat) (v:Value) (u w:World) (h:reR br out xa ra pa v6 p v u) (hb:Below u.heap.size u w):reR br out xa ra pa v6 p v w:=by
 rcases p with _ | _ | _ | _ | _ | _ | p
 all_goals first | exact h | (obtain ⟨B,h1,h2⟩:=h;exact ⟨B,h1,h2.below hb h2.lt⟩)
def rfR (out:Value) (xa pa v6:Array Value):Nat→Value→World→Prop
 | 0,v,_ => v=out
 | 1,v,_ => v=.agg xa
 | 2,v,_ => v=.agg xa
 | 3,v,_ => v=.agg pa
 | 4,v,_ => v=.agg v6
 | _,v,w => ∃ B,v=.slice (some ⟨B,0,none⟩) 1 1∧Blk w B 92 v6
theorem rfR_keep {out:Value} {xa pa v6:Array Value} (p:Nat) (v:Value) (u w:World) (h:rfR out xa pa v6 p v u) (hb:Below u.heap.size u w):rfR out xa pa v6 p v w:=by
 rcases p with _ | _ | _ | _ | _ | p
 all_goals first | exact h | (obtain ⟨B,h1,h2⟩:=h;exact ⟨B,h1,h2.below hb h2.lt⟩)
theorem rest_any (ad:Option Addr) (n c:Nat) (S:List Sp) (w:World) (h:RdK layRg w ad S) (hn:S.length=n) (hs:n≤10000) (hc:Can S) (hv:∀ p ∈ S,VR p) :
  Calls Tryz.prog 94 #[.slice ad n c] w fun e w' => ∃ v,e=.returned v∧OwnK layRg w' w.heap.size v (gaps S)∧Below w.heap.size w w':=by
 have Hv:=Lib.hid hv
 have Hc:=Lib.hid hc
 have H0:=Lib.hid h
 have Hn:=Lib.hid hn
 clear h hn hv hc
 have HB0:Hid (Below w.heap.size w (w.alloc (.cells #[.bool false, .bool true] 4 (0,0)))):=Lib.hid (below_alloc (Below.refl _ _) _)
 have HW0:Hid (Blk (w.alloc (.cells #[.bool false, .bool true] 4 (0,0))) w.heap.size 4 #[.bool false, .bool true]):=Lib.hid (Blk.new w _ _)
 go_enter Tryz.func94,Tryz.ntmps94
 go_upto_block 0 with fail
 generalize (w.alloc (.cells #[.bool false, .bool true] 4 (0,0)))=w1 at *
 generalize hbb:w.heap.size=bb at *
 have Hbb:=Lib.hid hbb
 clear hbb
 have HS1:Hid (RdK layRg w1 ad S):=Lib.hid (H0.out.below (by rw [Hbb.out];exact HB0.out))
 clear H0
 go_wp2_with fail
 go_loopw [3,5,6,7,9,12] (fun out s5 s6 s7 s9 i wr => ∃ j:Nat,j≤2∧i=.int .i64 (j:Int)∧Hid (OwnK layRg wr w1.heap.size out (gapsTo S j))∧Hid (Below w1.heap.size w1 wr)) (fun _ _ _ _ _ i _ => 2 - (intOf i).toNat)
 case atStart => exact ⟨0,by omega,rfl,Lib.hid (OwnK.nil _ _ _),Lib.hid (Below.refl _ _)⟩
 case round =>
  obtain ⟨j,hj,rfl,HO,HB⟩:=hrel
  by_cases hlt:j < 2
  ·obtain ⟨six,hsix⟩:∃ b:Bool,decide (j=1)=b:=⟨_,rfl⟩
   have hcell:wr.cell? ⟨bb,j,none⟩=some (.bool six):=by
    rw [(HW0.out.below HB.out HW0.out.lt).cell j, ← hsix]
    have:j=0 ∨ j=1:=by omega
    rcases this with rfl | rfl <;> rfl
   have HGs:Hid (gapsTo S (j + 1)=gapsTo S j ++ gapsOf six S):=Lib.hid (by rw [gapsTo_succ S j hlt,hsix])
   have HGl:Hid ((gapsTo S j).length≤2 * 10000 + 2):=Lib.hid (by have:=gapsTo_len S j;rw [Hn.out] at this;omega)
   have hAx:Blk (wr.alloc (.cells #[.bool six, .int .u64 0, .int .u64 0] 28 (0,0))) wr.heap.size 28 #[.bool six, .int .u64 0, .int .u64 0]:=Blk.new wr _ _
   have HA1:Hid (Blk (wr.alloc (.cells #[.bool six, .int .u64 0, .int .u64 0] 28 (0,0))) wr.heap.size 28 (aN (loF six))):=Lib.hid (by rw [aN_lo];exact hAx)
   have HB1:Hid (Below w1.heap.size w1 (wr.alloc (.cells #[.bool six, .int .u64 0, .int .u64 0] 28 (0,0)))):=Lib.hid (Below.alloc HB.out HB.out.size _)
   have HO1:Hid (OwnK layRg (wr.alloc (.cells #[.bool six, .int .u64 0, .int .u64 0] 28 (0,0))) w1.heap.size u3 (gapsTo S j ++ [])):=Lib.hid (by rw [List.append_nil];exact HO.out.alloc _)
   have hwA:w1.heap.size≤wr.heap.size:=HB.out.size
   have HG0:=Lib.hid (gapSt_zero Hv.out six)
   clear hsix hAx
   have hj2:(j:Int) < 2:=by omega
   have hj3:decide ((j:Int) < 2)=true:=decide_eq_true hj2
   go_upto_block 2 with fail
   generalize (wr.alloc (.cells #[.bool six, .int .u64 0, .int .u64 0] 28 (0,0)))=w3 at *
   generalize wr.heap.size=ba at *
   clear HB HO hcell
   go_wp2_with fail
   go_loopw [3,7,9,20] (fun out lf s9 i wx => ∃ (k x:Nat) (left:Bool) (D:List Sp),k≤n∧i=.int .i64 (k:Int)∧lf=.bool left∧Hid (GapSt S six left k x D)∧Hid (OwnK layRg wx w1.heap.size out (gapsTo S j ++ D))∧Hid (Blk wx ba 28 (aN x))∧Hid (Below w1.heap.size w1 wx)) (fun _ _ _ i _ => n - (intOf i).toNat)
   case atStart => exact ⟨0,loF six,true, [],Nat.zero_le _,rfl,rfl,HG0,HO1,HA1,HB1⟩
   case round =>
    clear HO1 HA1 HB1 HG0
    obtain ⟨k,x,left,D,hk,rfl,rfl,HG,HO,HA,HB⟩:=hrel
    have HE:Hid (aN x=#[.bool (sixN x), .int .u64 ((hiN x:Nat):Int), .int .u64 ((loN x:Nat):Int)]):=Lib.hid rfl
    have HDl:Hid (D.length≤10001):=Lib.hid (by have:=HG.out.len;rw [Hn.out] at this;omega)
    by_cases hlt2:k < n
    ·have hS:k < S.length:=by rw [Hn.out];exact hlt2
     obtain ⟨r,hr⟩:∃ r,S[k]?=some r:=⟨_,List.getElem?_eq_getElem hS⟩
     obtain ⟨a1,a2,a3,a4,a5,a6,hpc,hp1,hp2,h1s,h2s⟩:=rg_cells r
     obtain ⟨g,o,had,hg,c0,c1,c2,c3,c4,c5⟩:=(HS1.out.below HB.out).rg hr hpc
     subst had
     have HVr:=Lib.hid (Hv.out r (List.mem_of_getElem? hr))
     have HEr:Hid (layRg.enc r=[.bool a1, .int .u64 (a2:Int), .int .u64 (a3:Int), .bool a4, .int .u64 (a5:Int), .int .u64 (a6:Int)]):=Lib.hid hpc
     have HNx:=Lib.hid fun wx => nextN wx HVr.out.b
     have HCm:=Lib.hid fun wx => spanCompareN wx HG.out.vx HVr.out.a
     have HCl:=Lib.hid (cN_lt_iff x r.1)
     rw [hp2] at HNx
     rw [hp1] at HCm
     have Ha1:=Lib.hid h1s
     have Hp1:=Lib.hid hp1
     have HBr1:Hid (Blk (wr.alloc (.cells #[.bool a1, .int .u64 (a2:Int), .int .u64 (a3:Int), .bool a4, .int .u64 (a5:Int), .int .u64 (a6:Int)] 92 (0,0))) wr.heap.size 92 #[.bool a1, .int .u64 (a2:Int), .int .u64 (a3:Int), .bool a4, .int .u64 (a5:Int), .int .u64 (a6:Int)]):=Lib.hid (Blk.new wr _ _)
     have HA1:Hid (Blk (wr.alloc (.cells #[.bool a1, .int .u64 (a2:Int), .int .u64 (a3:Int), .bool a4, .int .u64 (a5:Int), .int .u64 (a6:Int)] 92 (0,0))) ba 28 (aN x)):=Lib.hid (HA.out.alloc _)
     have HB1:Hid (Below w1.heap.size w1 (wr.alloc (.cells #[.bool a1, .int .u64 (a2:Int), .int .u64 (a3:Int), .bool a4, .int .u64 (a5:Int), .int .u64 (a6:Int)] 92 (0,0)))):=Lib.hid (Below.alloc HB.out HB.out.size _)
     have HO1:Hid (OwnK layRg (wr.alloc (.cells #[.bool a1, .int .u64 (a2:Int), .int .u64 (a3:Int), .bool a4, .int .u64 (a5:Int), .int .u64 (a6:Int)] 92 (0,0))) w1.heap.size u3 (gapsTo S j ++ D)):=Lib.hid (HO.out.alloc _)
     have HLt:Hid (u3.ownBlock ≠ some wr.heap.size):=Lib.hid fun e => absurd (own_lt HO.out _ e) (Nat.lt_irrefl _)
     have HLa:Hid (ba < wr.heap.size):=Lib.hid HA.out.lt
     clear hS hpc hp1 hp2 h1s h2s
     go_upto_region 9 with fail
     generalize (wr.alloc (.cells #[.bool a1, .int .u64 (a2:Int), .int .u64 (a3:Int), .bool a4, .int .u64 (a5:Int), .int .u64 (a6:Int)] 92 (0,0)))=w4 at *
     generalize wr.heap.size=br at *
     clear HB HO HA c0 c1 c2 c3 c4 c5 hg
     have e0:=HBr1.out.cell 0
     have e1:=HBr1.out.cell 1
     have e2:=HBr1.out.cell 2
     have e3:=HBr1.out.cell 3
     have e4:=HBr1.out.cell 4
     have e5:=HBr1.out.cell 5
     simp at e0 e1 e2 e3 e4 e5
     by_cases hf:sixN r.1=six
     ·obtain ⟨hl,hxr,hpv,hg2⟩:=HG.out.hit Hc.out Hv.out hr hf
      have HG2:=Lib.hid hg2
      have HPv:=Lib.hid hpv
      subst hl
      have hn:(a1 != six)=false:=by rw [Ha1.out,hf];simp
      have hn1:a1=six:=by rw [Ha1.out,hf]
      subst hn1
      obtain ⟨x',hx'⟩:∃ x',(if r.2=topN r.2 then r.2 else r.2 + 1)=x':=⟨_,rfl⟩
      obtain ⟨left',hl'⟩:∃ l,(!decide (r.2=topN r.2))=l:=⟨_,rfl⟩
      rw [hx',hl'] at HNx HG2
      have HE':Hid (aN x'=#[.bool (sixN x'), .int .u64 ((hiN x':Nat):Int), .int .u64 ((loN x':Nat):Int)]):=Lib.hid rfl
      rw [HE'.out] at HNx
      clear hx' hl' hg2 hpv hr HG hn hf
      rw [HE.out] at HA1 HCm
      generalize sixN x=x1 at *
      generalize hiN x=x2 at *
      generalize loN x=x3 at *
      generalize sixN x'=v1 at *
      generalize hiN x'=v2 at *
      generalize loN x'=v3 at *
      have f0:=HA1.out.cell 0
      have f1:=HA1.out.cell 1
      have f2:=HA1.out.cell 2
      simp at f0 f1 f2
      generalize cN x r.1=C at *
      go_upto_region 10 with fail
      go_wp2_with fail
      refine (HCm.out _).mono ?_
      rintro e w5 ⟨rfl,hb⟩
      have HBr5:=Lib.hid (HBr1.out.below hb.b HBr1.out.lt)
      have HA5:=Lib.hid (HA1.out.below hb.b HA1.out.lt)
      have HO5:=Lib.hid (HO1.out.later hb.b)
      have HB5:=Lib.hid (HB1.out.trans (hb.b.mono HB1.out.size))
      clear hb HBr1 HA1 HO1 HB1 e0 e1 e2 e3 e4 e5 f0 f1 f2 HCm
      by_cases hxl:x < r.1
      ·have hC:C < 0:=HCl.out.2 hxl
       rw [if_pos hxl] at HG2
       obtain ⟨q1,q2,q3⟩:=HPv.out hxl
       have HBf:=Lib.hid fun wx => beforeN wx HVr.out.a q1 q2 q3
       rw [Hp1.out] at HBf
       have HEp:Hid (aN (r.1 - 1)=#[.bool (sixN (r.1 - 1)), .int .u64 ((hiN (r.1 - 1):Nat):Int), .int .u64 ((loN (r.1 - 1):Nat):Int)]):=Lib.hid rfl
       rw [HEp.out] at HBf
       have HEn:Hid (layRg.enc (x,r.1 - 1)=(aN x).toList ++ (aN (r.1 - 1)).toList):=Lib.hid rfl
       rw [HE.out,HEp.out] at HEn
       generalize sixN (r.1 - 1)=p1 at *
       generalize hiN (r.1 - 1)=p2 at *
       generalize loN (r.1 - 1)=p3 at *
       clear q1 q2 q3 hxl hxr HCl HPv
       go_upto_region 11 with fail
       have f0:=HA5.out.cell 0
       have f1:=HA5.out.cell 1
       have f2:=HA5.out.cell 2
       simp at f0 f1 f2
       have e0:=HBr5.out.cell 0
       have e1:=HBr5.out.cell 1
       have e2:=HBr5.out.cell 2
       have e3:=HBr5.out.cell 3
       have e4:=HBr5.out.cell 4
       have e5:=HBr5.out.cell 5
       simp at e0 e1 e2 e3 e4 e5
       have l0:=Later.cell_of f0
       have l1:=Later.cell_of f1
       have l2:=Later.cell_of f2
       have k0:=Later.cell_of e0
       have k1:=Later.cell_of e1
       have k2:=Later.cell_of e2
       generalize hLL:gapsTo S j ++ D=LL at *
       have HLL:Hid (LL.length≤40000):=Lib.hid (by rw [← hLL,List.length_append];have:=HGl.out;have:=HDl.out;omega)
       have HLe:=Lib.hid hLL
       clear hLL
       refine wp_region_inv 7 0 (reR br u3 #[.bool x1, .int .u64 (x2:Int), .int .u64 (x3:Int)] #[.bool a1, .int .u64 (a2:Int), .int .u64 (a3:Int)] #[.bool p1, .int .u64 (p2:Int), .int .u64 (p3:Int)] #[.bool x1, .int .u64 (x2:Int), .int .u64 (x3:Int), .bool p1, .int .u64 (p2:Int), .int .u64 (p3:Int)]) (fun _ w' => Below w5.heap.size w5 w') (fun u v => Below u.heap.size u v) (fun _ => 0)
        (by kernel_rfl) (by kernel_rfl) (by decide) reR_keep (below_drew (Below.refl _ _)) ?hX
       case' hX => (apply Exists.intro;refine ⟨fun T => ?hA,?hob,?hend⟩)
       case hA =>
        simp only [setAll,List.take_succ_cons,List.take_zero,Act.put,List.setIfInBounds_toArray,List.set_cons_succ,List.set_cons_zero,Nat.reduceAdd]
        exact rfl
       case hob =>
        clear HBr5 HA5 HO5 HB5 e0 e1 e2 e3 e4 e5 f0 f1 f2 HEn HNx HLe
        go_light
        refine ⟨?_,?_,?_,?_,?_,?_,?_,trivial⟩
        all_goals (intro T wx n0 hC2 hn hp;dsimp only at hn ⊢;unfold Op1)
        ·go_simp
         exact ⟨rfl,Below.refl _ _⟩
        ·have z0:=l0 ⟨wx,hC2⟩
         have z1:=l1 ⟨wx,hC2⟩
         have z2:=l2 ⟨wx,hC2⟩
         simp only at z0 z1 z2
         go_simp
         exact ⟨rfl,Below.refl _ _⟩
        ·go_simp
         exact ⟨rfl,Below.refl _ _⟩
        ·obtain ⟨h0, -⟩:=hp
         have h0:T 2=.pointer (some ⟨br,0,none⟩):=h0
         have z0:=k0 ⟨wx,hC2⟩
         have z1:=k1 ⟨wx,hC2⟩
         have z2:=k2 ⟨wx,hC2⟩
         simp only at z0 z1 z2
         go_simp
         exact ⟨rfl,Below.refl _ _⟩
        ·obtain ⟨h0, -⟩:=hp
         have h0:T 3=.agg #[.bool a1, .int .u64 (a2:Int), .int .u64 (a3:Int)]:=h0
         go_simp
         refine (HBf.out wx).mono ?_
         rintro e w6 ⟨rfl,hb⟩
         exact ⟨_,rfl,rfl,hC2.trans (hb.mono hC2.size),hb⟩
        ·obtain ⟨h0,h1, -⟩:=hp
         have h0:T 1=.agg #[.bool x1, .int .u64 (x2:Int), .int .u64 (x3:Int)]:=h0
         have h1:T 4=.agg #[.bool p1, .int .u64 (p2:Int), .int .u64 (p3:Int)]:=h1
         go_simp
         exact ⟨rfl,Below.refl _ _⟩
        ·obtain ⟨h0, -⟩:=hp
         have h0:T 5=.agg #[.bool x1, .int .u64 (x2:Int), .int .u64 (x3:Int), .bool p1, .int .u64 (p2:Int), .int .u64 (p3:Int)]:=h0
         go_simp
         exact ⟨⟨wx.heap.size,rfl,Blk.new wx _ _⟩,below_alloc hC2 _,below_alloc (Below.refl _ _) _⟩
       case hend =>
        intro T w6 ⟨n0,hn0,hb⟩ hR
        have hT0:T 0=u3:=hR 0 (by omega)
        obtain ⟨B,hT6,hBl⟩:=hR 6 (by omega)
        have HO6:=Lib.hid (HO5.out.later hb)
        have HB6:=Lib.hid (HB5.out.trans (hb.mono HB5.out.size))
        have HBr6:=Lib.hid (HBr5.out.below hb HBr5.out.lt)
        have HA6:=Lib.hid (HA5.out.below hb HA5.out.lt)
        have HBl:=Lib.hid hBl
        clear hR hb hBl HO5 HB5 HBr5 HA5 e0 e1 e2 e3 e4 e5 f0 f1 f2 l0 l1 l2 k0 k1 k2 HBf
        simp only [List.drop_succ_cons,List.drop_zero]
        refine wpList_app (c:=1) rgE rfl (.tmp 34) (.tmp 40) rfl ?hs HO6.out ?hx (src_blk layRg (x,r.1 - 1) HBl.out ?c0) ?c1 ?c2 ?c3 ?c4 ?_
        case hs => exact hT0
        case hx => exact hT6
        case c0 => exact (congrArg List.toArray HEn.out).symm
        case c1 => exact layRg.one _
        case c2 => unfold maxLen;have:=HLL.out;omega
        case c3 => have:=HLL.out;omega
        case c4 => exact HB6.out.size
        intro v' w7 hO hG
        have HO7:Hid (OwnK layRg w7 w1.heap.size v' (gapsTo S j ++ (D ++ [(x,r.1 - 1)]))):=Lib.hid (by rw [← List.append_assoc,HLe.out];exact OwnK.snoc hO)
        have HB7:=Lib.hid (HB6.out.trans (hG.below HB6.out.size (own_base HO6.out)))
        have HBr7:=Lib.hid (HBr6.out.grew_ne HLt.out hG)
        have HA7:=Lib.hid (HA6.out.grew HO6.out (by decide) hG)
        clear hO hG HO6 HB6 HBr6 HA6 HBl hT0 hT6
        generalize hDD:D ++ [(x,r.1 - 1)]=DD at *
        clear hDD
        have e0:=HBr7.out.cell 0
        have e1:=HBr7.out.cell 1
        have e2:=HBr7.out.cell 2
        have e3:=HBr7.out.cell 3
        have e4:=HBr7.out.cell 4
        have e5:=HBr7.out.cell 5
        simp at e0 e1 e2 e3 e4 e5
        have f0:=HA7.out.cell 0
        have f1:=HA7.out.cell 1
        have f2:=HA7.out.cell 2
        simp at f0 f1 f2
        have ff:=HA7.out.free
        go_wp2_with fail
        refine (HNx.out _).mono ?_
        rintro e w8 ⟨rfl,hb⟩
        have HA8:=Lib.hid (HA7.out.below hb HA7.out.lt)
        have HO8:=Lib.hid (HO7.out.later hb)
        have HB8:=Lib.hid (HB7.out.trans (hb.mono HB7.out.size))
        clear hb HA7 HO7 HB7 HBr7 e0 e1 e2 e3 e4 e5 f0 f1 f2 ff HNx
        have f0:=HA8.out.cell 0
        have f1:=HA8.out.cell 1
        have f2:=HA8.out.cell 2
        simp at f0 f1 f2
        have ff:=HA8.out.free
        have HSt:=Lib.hid (And.intro (((HA8.out.set 0 (.bool v1)).set 1 (.int .u64 (v2:Int))).set 2 (.int .u64 (v3:Int))) (And.intro (((HO8.out.far HA8.out (by decide) 0 (.bool v1)).far (HA8.out.set 0 (.bool v1)) (by decide) 1 (.int .u64 (v2:Int))).far ((HA8.out.set 0 (.bool v1)).set 1 (.int .u64 (v2:Int))) (by decide) 2 (.int .u64 (v3:Int))) (((HB8.out.setCell (p:=⟨ba,0,none⟩) (by simp only;omega) (.bool v1)).setCell (p:=⟨ba,1,none⟩) (by simp only;omega) (.int .u64 (v2:Int))).setCell (p:=⟨ba,2,none⟩) (by simp only;omega) (.int .u64 (v3:Int)))))
        clear HA8 HO8 HB8
        go_wp2_with fail
        exact ⟨⟨k + 1,x',left',DD,by omega,by go_num,rfl,HG2,Lib.hid HSt.out.2.1,Lib.hid (by rw [HE'.out];exact HSt.out.1),Lib.hid HSt.out.2.2⟩,by simp [intOf];omega⟩
      ·have hC:¬ C < 0:=fun h => hxl (HCl.out.1 h)
       rw [if_neg hxl,List.append_nil] at HG2
       have HO7:=HO5
       have HB7:=HB5
       have HBr7:=HBr5
       have HA7:=HA5
       clear HO5 HB5 HBr5 HA5 hxl hxr HCl HPv
       generalize hDD:D=DD at *
       clear hDD
       have e0:=HBr7.out.cell 0
       have e1:=HBr7.out.cell 1
       have e2:=HBr7.out.cell 2
       have e3:=HBr7.out.cell 3
       have e4:=HBr7.out.cell 4
       have e5:=HBr7.out.cell 5
       simp at e0 e1 e2 e3 e4 e5
       have f0:=HA7.out.cell 0
       have f1:=HA7.out.cell 1
       have f2:=HA7.out.cell 2
       simp at f0 f1 f2
       have ff:=HA7.out.free
       go_wp2_with fail
       refine (HNx.out _).mono ?_
       rintro e w8 ⟨rfl,hb⟩
       have HA8:=Lib.hid (HA7.out.below hb HA7.out.lt)
       have HO8:=Lib.hid (HO7.out.later hb)
       have HB8:=Lib.hid (HB7.out.trans (hb.mono HB7.out.size))
       clear hb HA7 HO7 HB7 HBr7 e0 e1 e2 e3 e4 e5 f0 f1 f2 ff HNx
       have f0:=HA8.out.cell 0
       have f1:=HA8.out.cell 1
       have f2:=HA8.out.cell 2
       simp at f0 f1 f2
       have ff:=HA8.out.free
       have HSt:=Lib.hid (And.intro (((HA8.out.set 0 (.bool v1)).set 1 (.int .u64 (v2:Int))).set 2 (.int .u64 (v3:Int))) (And.intro (((HO8.out.far HA8.out (by decide) 0 (.bool v1)).far (HA8.out.set 0 (.bool v1)) (by decide) 1 (.int .u64 (v2:Int))).far ((HA8.out.set 0 (.bool v1)).set 1 (.int .u64 (v2:Int))) (by decide) 2 (.int .u64 (v3:Int))) (((HB8.out.setCell (p:=⟨ba,0,none⟩) (by simp only;omega) (.bool v1)).setCell (p:=⟨ba,1,none⟩) (by simp only;omega) (.int .u64 (v2:Int))).setCell (p:=⟨ba,2,none⟩) (by simp only;omega) (.int .u64 (v3:Int)))))
       clear HA8 HO8 HB8
       go_wp2_with fail
       exact ⟨⟨k + 1,x',left',DD,by omega,by go_num,rfl,HG2,Lib.hid HSt.out.2.1,Lib.hid (by rw [HE'.out];exact HSt.out.1),Lib.hid HSt.out.2.2⟩,by simp [intOf];omega⟩
     ·have HG2:=Lib.hid (HG.out.skip hr hf)
      have hns:six=!a1:=by rw [Ha1.out];revert hf;cases sixN r.1 <;> cases six <;> simp
      subst hns
      clear hr HG hf HNx HCm HCl Ha1 Hp1
      cases a1
      ·go_wp2_with fail
       exact ⟨⟨k + 1,x,left,D,by omega,by go_num,rfl,HG2,HO1,HA1,HB1⟩,by simp [intOf];omega⟩
      ·go_wp2_with fail
       exact ⟨⟨k + 1,x,left,D,by omega,by go_num,rfl,HG2,HO1,HA1,HB1⟩,by simp [intOf];omega⟩
    ·obtain rfl:k=n:=by omega
     have hdn:=HG.out.done (by rw [Hn.out];exact Nat.le_refl _)
     cases left
     ·have HO2:Hid (OwnK layRg wr w1.heap.size u3 (gapsTo S (j + 1))):=Lib.hid (by
       rw [if_neg (by decide),List.append_nil] at hdn
       rw [HGs.out, ← hdn];exact HO.out)
      clear hdn HG HO
      go_wp2_with fail
      exact ⟨⟨j + 1,by omega,by go_num,HO2,HB⟩,by simp [intOf];omega⟩
     ·have HDn:Hid (gapsTo S (j + 1)=gapsTo S j ++ D ++ [(x,topN x)]):=Lib.hid (by
       rw [if_pos rfl] at hdn
       rw [HGs.out, ← hdn,List.append_assoc])
      have HFi:=Lib.hid fun wx => filledN (n:=0) wx HG.out.vx (Nat.zero_le _)
      rw [Nat.sub_zero] at HFi
      have HTp:Hid (fil x (LN x)=topN x):=Lib.hid rfl
      rw [HTp.out] at HFi
      have HEp:Hid (aN (topN x)=#[.bool (sixN (topN x)), .int .u64 ((hiN (topN x):Nat):Int), .int .u64 ((loN (topN x):Nat):Int)]):=Lib.hid rfl
      have HEn:Hid (layRg.enc (x,topN x)=(aN x).toList ++ (aN (topN x)).toList):=Lib.hid rfl
      rw [HE.out,HEp.out] at HEn
      rw [HE.out,HEp.out] at HFi
      rw [HE.out] at HA
      clear hdn HG HGs
      generalize topN x=tx at *
      generalize sixN x=x1 at *
      generalize hiN x=x2 at *
      generalize loN x=x3 at *
      generalize sixN tx=p1 at *
      generalize hiN tx=p2 at *
      generalize loN tx=p3 at *
      have f0:=HA.out.cell 0
      have f1:=HA.out.cell 1
      have f2:=HA.out.cell 2
      simp at f0 f1 f2
      go_upto_region 15 with fail
      have l0:=Later.cell_of f0
      have l1:=Later.cell_of f1
      have l2:=Later.cell_of f2
      generalize hLL:gapsTo S j ++ D=LL at *
      have HLL:Hid (LL.length≤40000):=Lib.hid (by rw [← hLL,List.length_append];have:=HGl.out;have:=HDl.out;omega)
      clear hLL
      refine wp_region_inv 6 0 (rfR u3 #[.bool x1, .int .u64 (x2:Int), .int .u64 (x3:Int)] #[.bool p1, .int .u64 (p2:Int), .int .u64 (p3:Int)] #[.bool x1, .int .u64 (x2:Int), .int .u64 (x3:Int), .bool p1, .int .u64 (p2:Int), .int .u64 (p3:Int)]) (fun _ w' => Below wr.heap.size wr w') (fun u v => Below u.heap.size u v) (fun _ => 0)
       (by kernel_rfl) (by kernel_rfl) (by decide) rfR_keep (below_drew (Below.refl _ _)) ?hXB
      case' hXB => (apply Exists.intro;refine ⟨fun T => ?hAB,?hobB,?hendB⟩)
      case hAB =>
       simp only [setAll,List.take_succ_cons,List.take_zero,Act.put,List.setIfInBounds_toArray,List.set_cons_succ,List.set_cons_zero,Nat.reduceAdd]
       exact rfl
      case hobB =>
       clear HA HO HB f0 f1 f2 HEn HDn
       go_light
       refine ⟨?_,?_,?_,?_,?_,?_,trivial⟩
       all_goals (intro T wx n0 hC2 hn hp;dsimp only at hn ⊢;unfold Op1)
       ·go_simp
        exact ⟨rfl,Below.refl _ _⟩
       ·have z0:=l0 ⟨wx,hC2⟩
        have z1:=l1 ⟨wx,hC2⟩
        have z2:=l2 ⟨wx,hC2⟩
        simp only at z0 z1 z2
        go_simp
        exact ⟨rfl,Below.refl _ _⟩
       ·have z0:=l0 ⟨wx,hC2⟩
        have z1:=l1 ⟨wx,hC2⟩
        have z2:=l2 ⟨wx,hC2⟩
        simp only at z0 z1 z2
        go_simp
        exact ⟨rfl,Below.refl _ _⟩
       ·obtain ⟨h0, -⟩:=hp
        have h0:T 2=.agg #[.bool x1, .int .u64 (x2:Int), .int .u64 (x3:Int)]:=h0
        go_simp
        refine (HFi.out wx).mono ?_
        rintro e w6 ⟨rfl,hb⟩
        exact ⟨_,rfl,rfl,hC2.trans (hb.mono hC2.size),hb⟩
       ·obtain ⟨h0,h1, -⟩:=hp
        have h0:T 1=.agg #[.bool x1, .int .u64 (x2:Int), .int .u64 (x3:Int)]:=h0
        have h1:T 3=.agg #[.bool p1, .int .u64 (p2:Int), .int .u64 (p3:Int)]:=h1
        go_simp
        exact ⟨rfl,Below.refl _ _⟩
       ·obtain ⟨h0, -⟩:=hp
        have h0:T 4=.agg #[.bool x1, .int .u64 (x2:Int), .int .u64 (x3:Int), .bool p1, .int .u64 (p2:Int), .int .u64 (p3:Int)]:=h0
        go_simp
        exact ⟨⟨wx.heap.size,rfl,Blk.new wx _ _⟩,below_alloc hC2 _,below_alloc (Below.refl _ _) _⟩
      case hendB =>
       intro T w6 ⟨n0,hn0,hb⟩ hR
       have hT0:T 0=u3:=hR 0 (by omega)
       obtain ⟨B,hT5,hBl⟩:=hR 5 (by omega)
       have HO6:=Lib.hid (HO.out.later hb)
       have HB6:=Lib.hid (HB.out.trans (hb.mono HB.out.size))
       have HBl:=Lib.hid hBl
       clear hR hb hBl HO HB HA f0 f1 f2 l0 l1 l2 HFi
       simp only [List.drop_succ_cons,List.drop_zero]
       refine wpList_app (c:=1) rgE rfl (.tmp 50) (.tmp 55) rfl ?hsB HO6.out ?hxB (src_blk layRg (x,tx) HBl.out ?c0B) ?c1B ?c2B ?c3B ?c4B ?_
       case hsB => exact hT0
       case hxB => exact hT5
       case c0B => exact (congrArg List.toArray HEn.out).symm
       case c1B => exact layRg.one _
       case c2B => unfold maxLen;have:=HLL.out;omega
       case c3B => have:=HLL.out;omega
       case c4B => exact HB6.out.size
       intro v' w7 hO hG
       have HO7:Hid (OwnK layRg w7 w1.heap.size v' (gapsTo S (j + 1))):=Lib.hid (by rw [HDn.out];exact OwnK.snoc hO)
       have HB7:=Lib.hid (HB6.out.trans (hG.below HB6.out.size (own_base HO6.out)))
       clear hO hG HO6 HB6 HBl hT0 hT5
       go_wp2
       exact ⟨⟨j + 1,by omega,by go_num,HO7,HB7⟩,by simp [intOf];omega⟩
  ·obtain rfl:j=2:=by omega
   have hw0:=HB0.out.size
   have hw1:w.heap.size≤w1.heap.size:=by rw [Hbb.out] at hw0 ⊢;exact hw0
   have HBf:Hid (Below w.heap.size w wr):=Lib.hid (Below.trans (by rw [Hbb.out];exact HB0.out) (HB.out.mono hw1))
   have HOf:Hid (OwnK layRg wr w.heap.size u3 (gaps S)):=Lib.hid (HO.out.weak hw1)
   go_wp2_with fail
   go_ret
   exact ⟨_,rfl,HOf.out,HBf.out⟩
def boR (ga oa na ca gb ob nb cb i k w0:Nat) (a1:Bool) (a2 a3:Nat) (a4:Bool) (a5 a6:Nat) (b1:Bool) (b2 b3:Nat) (b4:Bool) (b5 b6:Nat) (v1:Bool) (v2 v3:Nat) (v4:Bool) (v5 v6:Nat):Nat→Value→World→Prop
 | 0,v,_ => v=.slice (some ⟨ga,oa,none⟩) na ca
 | 1,v,_ => v=.int .i64 (i:Int)
 | 2,v,_ => v=.pointer (some ⟨ga,oa + i * 6,none⟩)
 | 3,v,_ => v=.pointer (some ⟨ga,oa + i * 6,none⟩)
 | 4,v,_ => v=.agg #[.bool a1, .int .u64 (a2:Int), .int .u64 (a3:Int)]
 | 5,v,_ => v=.slice (some ⟨gb,ob,none⟩) nb cb
 | 6,v,_ => v=.int .i64 (k:Int)
 | 7,v,_ => v=.pointer (some ⟨gb,ob + k * 6,none⟩)
 | 8,v,_ => v=.pointer (some ⟨gb,ob + k * 6,none⟩)
 | 9,v,_ => v=.agg #[.bool b1, .int .u64 (b2:Int), .int .u64 (b3:Int)]
 | 10,v,_ => v=.agg #[.bool v1, .int .u64 (v2:Int), .int .u64 (v3:Int)]
 | 11,v,_ => v=.slice (some ⟨ga,oa,none⟩) na ca
 | 12,v,_ => v=.int .i64 (i:Int)
 | 13,v,_ => v=.pointer (some ⟨ga,oa + i * 6,none⟩)
 | 14,v,_ => v=.pointer (some ⟨ga,oa + i * 6 + 3,none⟩)
 | 15,v,_ => v=.agg #[.bool a4, .int .u64 (a5:Int), .int .u64 (a6:Int)]
 | 16,v,_ => v=.slice (some ⟨gb,ob,none⟩) nb cb
 | 17,v,_ => v=.int .i64 (k:Int)
 | 18,v,_ => v=.pointer (some ⟨gb,ob + k * 6,none⟩)
 | 19,v,_ => v=.pointer (some ⟨gb,ob + k * 6 + 3,none⟩)
 | 20,v,_ => v=.agg #[.bool b4, .int .u64 (b5:Int), .int .u64 (b6:Int)]
 | 21,v,_ => v=.agg #[.bool v4, .int .u64 (v5:Int), .int .u64 (v6:Int)]
 | 22,v,_ => v=.agg #[.bool v1, .int .u64 (v2:Int), .int .u64 (v3:Int), .bool v4, .int .u64 (v5:Int), .int .u64 (v6:Int)]
 | _,v,w => ∃ B,v=.pointer (some ⟨B,0,none⟩)∧w0≤B∧Blk w B 92 #[.bool false, .int .u64 0, .int .u64 0, .bool false, .int .u64 0, .int .u64 0]
theorem boR_keep (ga oa na ca gb ob nb cb i k w0:Nat) (a1:Bool) (a2 a3:Nat) (a4:Bool) (a5 a6:Nat) (b1:Bool) (b2 b3:Nat) (b4:Bool) (b5 b6:Nat) (v1:Bool) (v2 v3:Nat) (v4:Bool) (v5 v6:Nat) (p:Nat) (v:Value) (u w:World) (h:boR ga oa na ca gb ob nb cb i k w0 a1 a2 a3 a4 a5 a6 b1 b2 b3 b4 b5 b6 v1 v2 v3 v4 v5 v6 p v u) (hb:Below u.heap.size u w):boR ga oa na ca gb ob nb cb i k w0 a1 a2 a3 a4 a5 a6 b1 b2 b3 b4 b5 b6 v1 v2 v3 v4 v5 v6 p v w:=by
 rcases p with _ | _ | _ | _ | _ | _ | _ | _ | _ | _ | _ | _ | _ | _ | _ | _ | _ | _ | _ | _ | _ | _ | _ | p
 all_goals first | exact h | (obtain ⟨B,h1,h2,h3⟩:=h;exact ⟨B,h1,h2,h3.below hb h3.lt⟩)
theorem zero_rg:(Tryz.prog.info? 92).map (fun i => (i.size,i.zero.map (fun z => z.cells.size)))=some (6,some 6):=by kernel_rfl
theorem drop_cons {α:Type} {l:List α} {i:Nat} {x:α} (h:l[i]?=some x):l.drop i=x :: l.drop (i + 1):=by
 have hi:=(List.getElem?_eq_some_iff.1 h).1
 have e:l[i]=x:=by rw [List.getElem?_eq_getElem hi] at h;injection h
 rw [List.drop_eq_getElem_cons hi,e]
theorem sboth_any (ad1 ad2:Option Addr) (na ca nb cb:Nat) (LA LB:List Sp) (w:World) (h1:RdK layRg w ad1 LA) (h2:RdK layRg w ad2 LB) (hn1:LA.length=na) (hn2:LB.length=nb) (hs1:na≤10000) (hs2:nb≤10000) (hv1:∀ p ∈ LA,VR p) (hv2:∀ p ∈ LB,VR p) :
  Calls Tryz.prog 93 #[.slice ad1 na ca, .slice ad2 nb cb] w fun e w' => ∃ v,e=.returned v∧OwnK layRg w' w.heap.size v (jn (both LA LB))∧Below w.heap.size w w':=by
 have H1:=Lib.hid h1
 have H2:=Lib.hid h2
 have Hn1:=Lib.hid hn1
 have Hn2:=Lib.hid hn2
 have Hv1:=Lib.hid hv1
 have Hv2:=Lib.hid hv2
 have HBv:=Lib.hid (both_vr _ LA LB (Nat.le_refl _) hv1 hv2)
 clear h1 h2 hn1 hn2 hv1 hv2
 obtain ⟨BB,hBB⟩:∃ BB,both LA LB=BB:=⟨_,rfl⟩
 rw [hBB] at HBv ⊢
 have HBl:Hid (BB.length≤na + nb):=Lib.hid (by have:=HBv.out.2;rw [Hn1.out,Hn2.out] at this;exact this)
 have H00:Hid ([] ++ both (LA.drop 0) (LB.drop 0)=BB):=Lib.hid (by rw [List.drop_zero,List.drop_zero];exact hBB)
 clear hBB
 go_enter Tryz.func93,Tryz.ntmps93
 go_wp2_with fail
 go_loopw [5,6,7,8] (fun out iv kv s8 wr => ∃ (i k:Nat) (D:List Sp),i≤na∧k≤nb∧iv=.int .i64 (i:Int)∧kv=.int .i64 (k:Int)∧Hid (D ++ both (LA.drop i) (LB.drop k)=BB)∧Hid (OwnK layRg wr w.heap.size out D)∧Hid (Below w.heap.size w wr)) (fun _ iv kv _ _ => (na - (intOf iv).toNat) + (nb - (intOf kv).toNat))
 case atStart => exact ⟨0,0, [],Nat.zero_le _,Nat.zero_le _,rfl,rfl,H00,Lib.hid (OwnK.nil _ _ _),Lib.hid (Below.refl _ _)⟩
 case round =>
  obtain ⟨i,k,D,hi,hk,rfl,rfl,HD,HO,HB⟩:=hrel
  have HDl:Hid (D.length≤na + nb):=Lib.hid (by have e:=congrArg List.length HD.out;rw [List.length_append] at e;have:=HBl.out;omega)
  have HFin:Hid (i=na ∨ k=nb→D=BB):=Lib.hid fun h => by
   have e:=HD.out
   rcases h with h | h
   ·rw [List.drop_eq_nil_of_le (show LA.length≤i by rw [Hn1.out];omega),both_nil',List.append_nil] at e;exact e
   ·rw [List.drop_eq_nil_of_le (show LB.length≤k by rw [Hn2.out];omega),both_nil,List.append_nil] at e;exact e
  by_cases hlt1:i < na
  ·by_cases hlt2:k < nb
   ·have hS1:i < LA.length:=by rw [Hn1.out];exact hlt1
    have hS2:k < LB.length:=by rw [Hn2.out];exact hlt2
    obtain ⟨p,hp⟩:∃ p,LA[i]?=some p:=⟨_,List.getElem?_eq_getElem hS1⟩
    obtain ⟨q,hq⟩:∃ q,LB[k]?=some q:=⟨_,List.getElem?_eq_getElem hS2⟩
    have hVp:=Hv1.out p (List.mem_of_getElem? hp)
    have hVq:=Hv2.out q (List.mem_of_getElem? hq)
    obtain ⟨a1,a2,a3,a4,a5,a6,hpc,hp1,hp2, -, -⟩:=rg_cells p
    obtain ⟨b1,b2,b3,b4,b5,b6,hqc,hq1,hq2, -, -⟩:=rg_cells q
    obtain ⟨ga,oa,had,hga,c0,c1,c2,c3,c4,c5⟩:=(H1.out.below HB.out).rg hp hpc
    subst had
    obtain ⟨gb,ob,had,hgb,d0,d1,d2,d3,d4,d5⟩:=(H2.out.below HB.out).rg hq hqc
    subst had
    have hD:=HD.out
    rw [drop_cons hp,drop_cons hq,both_cons] at hD
    have HLa:=Lib.hid fun wx => laterN wx hVp.a hVq.a
    have HEa:=Lib.hid fun wx => earlierN wx hVp.b hVq.b
    have hvm:VN (max p.1 q.1):=(Nat.le_total p.1 q.1).elim (fun h => by rw [Nat.max_eq_right h];exact hVq.a) (fun h => by rw [Nat.max_eq_left h];exact hVp.a)
    have hvn:VN (min p.2 q.2):=(Nat.le_total p.2 q.2).elim (fun h => by rw [Nat.min_eq_left h];exact hVp.b) (fun h => by rw [Nat.min_eq_right h];exact hVq.b)
    have HC1:=Lib.hid fun wx => spanCompareN wx hvm hvn
    have HC2:=Lib.hid fun wx => spanCompareN wx hVp.b hVq.b
    have HEn:Hid (layRg.enc (max p.1 q.1,min p.2 q.2)=(aN (max p.1 q.1)).toList ++ (aN (min p.2 q.2)).toList):=Lib.hid rfl
    have HM1:Hid (aN (max p.1 q.1)=#[.bool (sixN (max p.1 q.1)), .int .u64 ((hiN (max p.1 q.1):Nat):Int), .int .u64 ((loN (max p.1 q.1):Nat):Int)]):=Lib.hid rfl
    have HM2:Hid (aN (min p.2 q.2)=#[.bool (sixN (min p.2 q.2)), .int .u64 ((hiN (min p.2 q.2):Nat):Int), .int .u64 ((loN (min p.2 q.2):Nat):Int)]):=Lib.hid rfl
    have HCl1:=Lib.hid (cN_le (max p.1 q.1) (min p.2 q.2))
    have HCl2:=Lib.hid (cN_lt_iff p.2 q.2)
    have HD1:=Lib.hid hD
    rw [hp1,hq1] at HLa
    rw [hp2,hq2] at HEa HC2
    rw [HM1.out] at HLa HC1 HEn
    rw [HM2.out] at HEa HC1 HEn
    have Hpd:=Lib.hid (drop_cons hp)
    have Hqd:=Lib.hid (drop_cons hq)
    generalize hMx:max p.1 q.1=mx at *
    generalize hMn:min p.2 q.2=mn at *
    have HCA:Hid (∀ wx:World,Below w.heap.size w wx→wx.cell? ⟨ga,oa + i * 6 + 3,none⟩=some (.bool a4)∧wx.cell? ⟨ga,oa + i * 6 + 4,none⟩=some (.int .u64 (a5:Int))∧wx.cell? ⟨ga,oa + i * 6 + 5,none⟩=some (.int .u64 (a6:Int))):=Lib.hid fun wx hb => by
     obtain ⟨g',o',had,_,_,_,_,z3,z4,z5⟩:=(H1.out.below hb).rg hp hpc
     injection had with had
     injection had with e1 e2
     subst e1 e2
     exact ⟨z3,z4,z5⟩
    have HCB:Hid (∀ wx:World,Below w.heap.size w wx→wx.cell? ⟨gb,ob + k * 6 + 3,none⟩=some (.bool b4)∧wx.cell? ⟨gb,ob + k * 6 + 4,none⟩=some (.int .u64 (b5:Int))∧wx.cell? ⟨gb,ob + k * 6 + 5,none⟩=some (.int .u64 (b6:Int))):=Lib.hid fun wx hb => by
     obtain ⟨g',o',had,_,_,_,_,z3,z4,z5⟩:=(H2.out.below hb).rg hq hqc
     injection had with had
     injection had with e1 e2
     subst e1 e2
     exact ⟨z3,z4,z5⟩
    clear hMx hMn hD hVp hVq hpc hqc hp1 hp2 hq1 hq2 hvm hvn hS1 hS2 HM1 HM2 hp hq
    generalize sixN mx=v1 at *
    generalize hiN mx=v2 at *
    generalize loN mx=v3 at *
    generalize sixN mn=v4 at *
    generalize hiN mn=v5 at *
    generalize loN mn=v6 at *
    generalize cN mx mn=C1 at *
    generalize cN p.2 q.2=C2 at *
    go_upto_region 4 with fail
    have k0:=Later.cell_of c0
    have k1:=Later.cell_of c1
    have k2:=Later.cell_of c2
    have k3:=Later.cell_of c3
    have k4:=Later.cell_of c4
    have k5:=Later.cell_of c5
    have l0:=Later.cell_of d0
    have l1:=Later.cell_of d1
    have l2:=Later.cell_of d2
    have l3:=Later.cell_of d3
    have l4:=Later.cell_of d4
    have l5:=Later.cell_of d5
    have HO0:=HO
    refine wp_region_inv 24 0 (boR ga oa na ca gb ob nb cb i k wr.heap.size a1 a2 a3 a4 a5 a6 b1 b2 b3 b4 b5 b6 v1 v2 v3 v4 v5 v6) (fun _ w' => Below wr.heap.size wr w') (fun u v => Below u.heap.size u v) (fun _ => 0)
     (by kernel_rfl) (by kernel_rfl) (by decide) (boR_keep ga oa na ca gb ob nb cb i k wr.heap.size a1 a2 a3 a4 a5 a6 b1 b2 b3 b4 b5 b6 v1 v2 v3 v4 v5 v6) (below_drew (Below.refl _ _)) ?hX
    case' hX => (apply Exists.intro;refine ⟨fun T => ?hA,?hob,?hend⟩)
    case hA =>
     simp only [setAll,List.take_succ_cons,List.take_zero,Act.put,List.setIfInBounds_toArray,List.set_cons_succ,List.set_cons_zero,Nat.reduceAdd]
     exact rfl
    case hob =>
     have i1:(i:Int) < (na:Int):=by omega
     have i2:(k:Int) < (nb:Int):=by omega
     have i3:(0:Int)≤(i:Int):=by omega
     have i4:(0:Int)≤(k:Int):=by omega
     clear HCA HCB Hpd Hqd HC2 Hn1 Hn2 HO HO0 HB HD HD1 HDl HFin HC1 HEn HCl1 HCl2 H1 H2 Hv1 Hv2 HBv HBl H00 c0 c1 c2 c3 c4 c5 d0 d1 d2 d3 d4 d5
     go_light
     refine ⟨?_,?_,?_,?_,?_,?_,?_,?_,?_,?_,?_,?_,?_,?_,?_,?_,?_,?_,?_,?_,?_,?_,?_,?_,trivial⟩
     all_goals (intro T wx n0 hC hn hp;dsimp only at hn ⊢;unfold Op1)
     ·clear k0 k1 k2 k3 k4 k5 l0 l1 l2 l3 l4 l5
      go_simp
      exact ⟨rfl,Below.refl _ _⟩
     ·clear k0 k1 k2 k3 k4 k5 l0 l1 l2 l3 l4 l5
      go_simp
      exact ⟨rfl,Below.refl _ _⟩
     ·obtain ⟨q0,q1, -⟩:=hp
      have q0:T 0=.slice (some ⟨ga,oa,none⟩) na ca:=q0
      have q1:T 1=.int .i64 (i:Int):=q1
      clear k0 k1 k2 k3 k4 k5 l0 l1 l2 l3 l4 l5
      go_simp
      exact ⟨rfl,Below.refl _ _⟩
     ·obtain ⟨q2, -⟩:=hp
      have q2:T 2=.pointer (some ⟨ga,oa + i * 6,none⟩):=q2
      clear k0 k1 k2 k3 k4 k5 l0 l1 l2 l3 l4 l5
      go_simp
      exact ⟨rfl,Below.refl _ _⟩
     ·obtain ⟨q3, -⟩:=hp
      have q3:T 3=.pointer (some ⟨ga,oa + i * 6,none⟩):=q3
      have e0:=k0 ⟨wx,hC⟩
      have e1:=k1 ⟨wx,hC⟩
      have e2:=k2 ⟨wx,hC⟩
      simp only at e0 e1 e2
      clear k0 k1 k2 k3 k4 k5 l0 l1 l2 l3 l4 l5
      go_simp
      exact ⟨rfl,Below.refl _ _⟩
     ·clear k0 k1 k2 k3 k4 k5 l0 l1 l2 l3 l4 l5
      go_simp
      exact ⟨rfl,Below.refl _ _⟩
     ·clear k0 k1 k2 k3 k4 k5 l0 l1 l2 l3 l4 l5
      go_simp
      exact ⟨rfl,Below.refl _ _⟩
     ·obtain ⟨q5,q6, -⟩:=hp
      have q5:T 5=.slice (some ⟨gb,ob,none⟩) nb cb:=q5
      have q6:T 6=.int .i64 (k:Int):=q6
      clear k0 k1 k2 k3 k4 k5 l0 l1 l2 l3 l4 l5
      go_simp
      exact ⟨rfl,Below.refl _ _⟩
     ·obtain ⟨q7, -⟩:=hp
      have q7:T 7=.pointer (some ⟨gb,ob + k * 6,none⟩):=q7
      clear k0 k1 k2 k3 k4 k5 l0 l1 l2 l3 l4 l5
      go_simp
      exact ⟨rfl,Below.refl _ _⟩
     ·obtain ⟨q8, -⟩:=hp
      have q8:T 8=.pointer (some ⟨gb,ob + k * 6,none⟩):=q8
      have e0:=l0 ⟨wx,hC⟩
      have e1:=l1 ⟨wx,hC⟩
      have e2:=l2 ⟨wx,hC⟩
      simp only at e0 e1 e2
      clear k0 k1 k2 k3 k4 k5 l0 l1 l2 l3 l4 l5
      go_simp
      exact ⟨rfl,Below.refl _ _⟩
     ·obtain ⟨q4,q9, -⟩:=hp
      have q4:T 4=.agg #[.bool a1, .int .u64 (a2:Int), .int .u64 (a3:Int)]:=q4
      have q9:T 9=.agg #[.bool b1, .int .u64 (b2:Int), .int .u64 (b3:Int)]:=q9
      clear k0 k1 k2 k3 k4 k5 l0 l1 l2 l3 l4 l5
      go_simp
      refine (HLa.out wx).mono ?_
      rintro e w5 ⟨rfl,hb⟩
      exact ⟨_,rfl,rfl,hC.trans (hb.mono hC.size),hb⟩
     ·clear k0 k1 k2 k3 k4 k5 l0 l1 l2 l3 l4 l5
      go_simp
      exact ⟨rfl,Below.refl _ _⟩
     ·clear k0 k1 k2 k3 k4 k5 l0 l1 l2 l3 l4 l5
      go_simp
      exact ⟨rfl,Below.refl _ _⟩
     ·obtain ⟨q11,q12, -⟩:=hp
      have q11:T 11=.slice (some ⟨ga,oa,none⟩) na ca:=q11
      have q12:T 12=.int .i64 (i:Int):=q12
      clear k0 k1 k2 k3 k4 k5 l0 l1 l2 l3 l4 l5
      go_simp
      exact ⟨rfl,Below.refl _ _⟩
     ·obtain ⟨q13, -⟩:=hp
      have q13:T 13=.pointer (some ⟨ga,oa + i * 6,none⟩):=q13
      clear k0 k1 k2 k3 k4 k5 l0 l1 l2 l3 l4 l5
      go_simp
      exact ⟨rfl,Below.refl _ _⟩
     ·obtain ⟨q14, -⟩:=hp
      have q14:T 14=.pointer (some ⟨ga,oa + i * 6 + 3,none⟩):=q14
      have e0:=k3 ⟨wx,hC⟩
      have e1:=k4 ⟨wx,hC⟩
      have e2:=k5 ⟨wx,hC⟩
      simp only at e0 e1 e2
      clear k0 k1 k2 k3 k4 k5 l0 l1 l2 l3 l4 l5
      go_simp
      exact ⟨rfl,Below.refl _ _⟩
     ·clear k0 k1 k2 k3 k4 k5 l0 l1 l2 l3 l4 l5
      go_simp
      exact ⟨rfl,Below.refl _ _⟩
     ·clear k0 k1 k2 k3 k4 k5 l0 l1 l2 l3 l4 l5
      go_simp
      exact ⟨rfl,Below.refl _ _⟩
     ·obtain ⟨q16,q17, -⟩:=hp
      have q16:T 16=.slice (some ⟨gb,ob,none⟩) nb cb:=q16
      have q17:T 17=.int .i64 (k:Int):=q17
      clear k0 k1 k2 k3 k4 k5 l0 l1 l2 l3 l4 l5
      go_simp
      exact ⟨rfl,Below.refl _ _⟩
     ·obtain ⟨q18, -⟩:=hp
      have q18:T 18=.pointer (some ⟨gb,ob + k * 6,none⟩):=q18
      clear k0 k1 k2 k3 k4 k5 l0 l1 l2 l3 l4 l5
      go_simp
      exact ⟨rfl,Below.refl _ _⟩
     ·obtain ⟨q19, -⟩:=hp
      have q19:T 19=.pointer (some ⟨gb,ob + k * 6 + 3,none⟩):=q19
      have e0:=l3 ⟨wx,hC⟩
      have e1:=l4 ⟨wx,hC⟩
      have e2:=l5 ⟨wx,hC⟩
      simp only at e0 e1 e2
      clear k0 k1 k2 k3 k4 k5 l0 l1 l2 l3 l4 l5
      go_simp
      exact ⟨rfl,Below.refl _ _⟩
     ·obtain ⟨q15,q20,q10, -⟩:=hp
      have q15:T 15=.agg #[.bool a4, .int .u64 (a5:Int), .int .u64 (a6:Int)]:=q15
      have q20:T 20=.agg #[.bool b4, .int .u64 (b5:Int), .int .u64 (b6:Int)]:=q20
      have q10:T 10=.agg #[.bool v1, .int .u64 (v2:Int), .int .u64 (v3:Int)]:=q10
      clear k0 k1 k2 k3 k4 k5 l0 l1 l2 l3 l4 l5
      go_simp
      refine (HEa.out wx).mono ?_
      rintro e w5 ⟨rfl,hb⟩
      exact ⟨_,rfl,rfl,hC.trans (hb.mono hC.size),hb⟩
     ·obtain ⟨q10,q21, -⟩:=hp
      have q10:T 10=.agg #[.bool v1, .int .u64 (v2:Int), .int .u64 (v3:Int)]:=q10
      have q21:T 21=.agg #[.bool v4, .int .u64 (v5:Int), .int .u64 (v6:Int)]:=q21
      clear k0 k1 k2 k3 k4 k5 l0 l1 l2 l3 l4 l5
      go_simp
      exact ⟨rfl,Below.refl _ _⟩
     ·clear k0 k1 k2 k3 k4 k5 l0 l1 l2 l3 l4 l5
      go_simp
      exact ⟨⟨wx.heap.size,rfl,hC.size,Blk.new wx _ _⟩,below_alloc hC _,below_alloc (Below.refl _ _) _⟩
    case hend =>
     intro T w4 ⟨n0,hn0,hb⟩ hR
     have hT22:T 22=.agg #[.bool v1, .int .u64 (v2:Int), .int .u64 (v3:Int), .bool v4, .int .u64 (v5:Int), .int .u64 (v6:Int)]:=hR 22 (by omega)
     obtain ⟨B,hT23,hwB,hBl⟩:=hR 23 (by omega)
     have hBw:w.heap.size≤B:=Nat.le_trans HB.out.size hwB
     have HO4:=Lib.hid (HO.out.later hb)
     have HB4:=Lib.hid (HB.out.trans (hb.mono HB.out.size))
     have hne:u5.ownBlock ≠ some B:=fun e => by have:=own_lt HO.out _ e;omega
     have HNe:=Lib.hid hne
     have HHp:=Lib.hid (show w4.heap[B]?=some (.cells #[.bool false, .int .u64 0, .int .u64 0, .bool false, .int .u64 0, .int .u64 0] 92 (0,0)) from hBl)
     have HBs:Hid (Blk (w4.setRow B #[.bool v1, .int .u64 (v2:Int), .int .u64 (v3:Int), .bool v4, .int .u64 (v5:Int), .int .u64 (v6:Int)]) B 92 #[.bool v1, .int .u64 (v2:Int), .int .u64 (v3:Int), .bool v4, .int .u64 (v5:Int), .int .u64 (v6:Int)]):=Lib.hid (hBl.setRow _)
     have HBx:Hid (Below w.heap.size w (w4.setRow B #[.bool v1, .int .u64 (v2:Int), .int .u64 (v3:Int), .bool v4, .int .u64 (v5:Int), .int .u64 (v6:Int)])):=Lib.hid (below_setRow HB4.out hBw _)
     have HOs:Hid (OwnK layRg (w4.setRow B #[.bool v1, .int .u64 (v2:Int), .int .u64 (v3:Int), .bool v4, .int .u64 (v5:Int), .int .u64 (v6:Int)]) w.heap.size u5 D):=Lib.hid (by
      refine World.ownsRow.kept HO4.out ⟨rfl,rfl,rfl,by rw [setRow_size];exact Nat.le_refl _,fun j hj hne2 => setRow_other w4 B j _ (by intro e;subst e;exact hne2 rfl)⟩ ?_ (row:=some B)
      exact .inr hne)
     clear hR hb hBl HO HO0 HB HO4 HB4 hne HLa HEa hwB c0 c1 c2 c3 c4 c5 d0 d1 d2 d3 d4 d5 k0 k1 k2 k3 k4 k5 l0 l1 l2 l3 l4 l5
     simp only [List.drop_succ_cons,List.drop_zero]
     rw [hT22,hT23]
     clear hT22 hT23
     generalize T 0=t0 at *
     generalize T 1=t1 at *
     generalize T 2=t2 at *
     generalize T 3=t3 at *
     generalize T 4=t4 at *
     generalize T 5=t5 at *
     generalize T 6=t6 at *
     generalize T 7=t7 at *
     generalize T 8=t8 at *
     generalize T 9=t9 at *
     generalize T 10=t10 at *
     generalize T 11=t11 at *
     generalize T 12=t12 at *
     generalize T 13=t13 at *
     generalize T 14=t14 at *
     generalize T 15=t15 at *
     generalize T 16=t16 at *
     generalize T 17=t17 at *
     generalize T 18=t18 at *
     generalize T 19=t19 at *
     generalize T 20=t20 at *
     generalize T 21=t21 at *
     go_upto_region 5 with (refine wpList_store_row rfl 92 (.tmp 8) (.tmp 41) rfl B #[.bool v1, .int .u64 (v2:Int), .int .u64 (v3:Int), .bool v4, .int .u64 (v5:Int), .int .u64 (v6:Int)] rfl rfl 92 #[.bool false, .int .u64 0, .int .u64 0, .bool false, .int .u64 0, .int .u64 0] HHp.out (by kernel_rfl) rfl (by simp [Value.oneCell']) ?_;dsimp only [Act.put])
     generalize (w4.setRow B #[.bool v1, .int .u64 (v2:Int), .int .u64 (v3:Int), .bool v4, .int .u64 (v5:Int), .int .u64 (v6:Int)])=w5 at *
     clear HHp
     have e0:=HBs.out.cell 0
     have e1:=HBs.out.cell 1
     have e2:=HBs.out.cell 2
     have e3:=HBs.out.cell 3
     have e4:=HBs.out.cell 4
     have e5:=HBs.out.cell 5
     simp at e0 e1 e2 e3 e4 e5
     go_wp2_with fail
     refine (HC1.out _).mono ?_
     rintro e w6 ⟨rfl,hb⟩
     have HB6:=Lib.hid (HBx.out.trans (hb.b.mono HBx.out.size))
     have HO6:=Lib.hid (HOs.out.later hb.b)
     have HBs6:=Lib.hid (HBs.out.below hb.b HBs.out.lt)
     clear hb HBx HOs HBs e0 e1 e2 e3 e4 e5 HC1
     go_upto_if 47 with fail
     go_cut [5] (fun out wx => ∃ D':List Sp,D'=D ++ (if mx≤mn then [(mx,mn)] else [])∧OwnK layRg wx w.heap.size out D'∧Below w.heap.size w wx)
     case first =>
      as_aux_lemma =>
       by_cases hc:mx≤mn
       ·have hC0:C1≤0:=HCl1.out.2 hc
        clear HCl1
        have e0:=HBs6.out.cell 0
        have e1:=HBs6.out.cell 1
        have e2:=HBs6.out.cell 2
        have e3:=HBs6.out.cell 3
        have e4:=HBs6.out.cell 4
        have e5:=HBs6.out.cell 5
        simp at e0 e1 e2 e3 e4 e5
        go_wp2_with (first | (refine wpList_build1 rfl 72 92 _ rfl #[.bool v1, .int .u64 (v2:Int), .int .u64 (v3:Int), .bool v4, .int .u64 (v5:Int), .int .u64 (v6:Int)] rfl 6 Tryz.underlying72 zero_rg rfl (by decide) (by decide) ?_;go_simp) | (at_builtin;refine wpList_app rgE rfl (.tmp 48) (.tmp 50) rfl rfl (World.ownsRow.alloc HO6.out _) rfl (src_new layRg _ (mx,mn) _ _ ?c0) ?c1 ?c2 ?c3 ?c4 ?_))
        case c0 => first | exact (congrArg List.toArray HEn.out).symm | (rw [HEn.out];rfl)
        case c1 => exact layRg.one _
        case c2 => unfold maxLen;have:=HDl.out;omega
        case c3 => have:=HDl.out;omega
        case c4 => have:=HB6.out.size;simp;omega
        intro v' w7 hO hG
        have HO7:Hid (OwnK layRg w7 w.heap.size v' (D ++ [(mx,mn)])):=Lib.hid (OwnK.snoc hO)
        have HB7:Hid (Below w.heap.size w w7):=Lib.hid ((Below.alloc HB6.out HB6.out.size _).trans (hG.below (by have:=HB6.out.size;simp;omega) (own_base HO6.out)))
        clear hO hG
        go_wp2_with fail
        go_meet
        case rel => exact ⟨D ++ [(mx,mn)],by rw [if_pos hc],HO7.out,HB7.out⟩
       ·have hC0:¬ C1≤0:=fun h => hc (HCl1.out.1 h)
        clear HCl1
        go_wp2_with fail
        go_meet
        case rel => exact ⟨D,by rw [if_neg hc,List.append_nil],HO6.out,HB6.out⟩
     case rest =>
      as_aux_lemma =>
       obtain ⟨D',hD',hO,hB⟩:=hcut
       have HO7:=Lib.hid hO
       have HB7:=Lib.hid hB
       have HD2:Hid (D' ++ (if p.2 < q.2 then both (LA.drop (i + 1)) (q :: LB.drop (k + 1)) else both (p :: LA.drop (i + 1)) (LB.drop (k + 1)))=BB):=Lib.hid (by rw [hD',List.append_assoc];exact HD1.out)
       have HRa:=(H1.out.below hB)
       have HRb:=(H2.out.below hB)
       clear hO hB hD' HO6 HB6 HBs6 HD1 HEn HCl1
       have hcA:=HCA.out _ HB7.out
       have hcB:=HCB.out _ HB7.out
       obtain ⟨c3,c4,c5⟩:=hcA
       obtain ⟨d3,d4,d5⟩:=hcB
       have l3:=Later.cell_of c3
       have l4:=Later.cell_of c4
       have l5:=Later.cell_of c5
       have m3:=Later.cell_of d3
       have m4:=Later.cell_of d4
       have m5:=Later.cell_of d5
       have hC:=fun X:Later wc => Calls.later X ((HC2.out X.1).mono fun _ _ h => h.ret)
       have i1:(i:Int) < (na:Int):=by omega
       have i2:(k:Int) < (nb:Int):=by omega
       go_upto_region 7 with fail
       refine wp_region_later (by kernel_rfl) (by kernel_rfl) ?_
       repeat (go_big_quiet_step ((go_at_call 116;exact hC _)))
       refine wpQuiet_nil ?_
       rintro w8 ⟨n8,hn8⟩
       have hb:Below wc.heap.size wc w8:=by rw [hn8];exact n8.2
       clear hn8 n8
       have HO8:=Lib.hid (HO7.out.later hb)
       have HB8:=Lib.hid (HB7.out.trans (hb.mono HB7.out.size))
       clear hb hC l3 l4 l5 m3 m4 m5 c3 c4 c5 d3 d4 d5 HO7 HB7 HRa HRb
       by_cases hpq:p.2 < q.2
       ·have hC0:C2 < 0:=HCl2.out.2 hpq
        have HD3:Hid (D' ++ both (LA.drop (i + 1)) (LB.drop k)=BB):=Lib.hid (by rw [Hqd.out];have:=HD2.out;rw [if_pos hpq] at this;exact this)
        clear HD2 HCl2
        go_wp2_with fail
        exact ⟨⟨i + 1,k,D',by omega,by omega,by go_num,rfl,HD3,HO8,HB8⟩,by simp [intOf];omega⟩
       ·have hC0:¬ C2 < 0:=fun h => hpq (HCl2.out.1 h)
        have HD3:Hid (D' ++ both (LA.drop i) (LB.drop (k + 1))=BB):=Lib.hid (by rw [Hpd.out];have:=HD2.out;rw [if_neg hpq] at this;exact this)
        clear HD2 HCl2
        go_wp2_with fail
        exact ⟨⟨i,k + 1,D',by omega,by omega,rfl,by go_num,HD3,HO8,HB8⟩,by simp [intOf];omega⟩
   ·have hkn:k=nb:=by omega
    have hDB:=HFin.out (.inr hkn)
    subst hDB
    obtain ⟨ad3,c3,hv3,_⟩:=HO.out.form
    subst hv3
    have HJ:=Lib.hid (joined_any ad3 D.length c3 D wr HO.out.rd rfl (by have:=HDl.out;omega) HBv.out.1)
    clear HFin HD HO HBv HBl H00
    go_wp2_with fail
    refine HJ.out.mono ?_
    rintro e w2 ⟨v,rfl,hO,hb⟩
    go_wp2_with fail
    go_ret
    exact ⟨_,rfl,hO.weak HB.out.size,HB.out.trans (hb.mono HB.out.size)⟩
  ·have hin:i=na:=by omega
   have hDB:=HFin.out (.inl hin)
   subst hDB
   obtain ⟨ad3,c3,hv3,_⟩:=HO.out.form
   subst hv3
   have HJ:=Lib.hid (joined_any ad3 D.length c3 D wr HO.out.rd rfl (by have:=HDl.out;omega) HBv.out.1)
   clear HFin HD HO HBv HBl H00
   go_wp2_with fail
   refine HJ.out.mono ?_
   rintro e w2 ⟨v,rfl,hO,hb⟩
   go_wp2_with fail
   go_ret
   exact ⟨_,rfl,hO.weak HB.out.size,HB.out.trans (hb.mono HB.out.size)⟩
def spQ (bx:Nat) (out:Value) (pa P1 pf P2:Array Value):Nat→Value→World→Prop
 | 0,v,_ => v=out
 | 1,v,_ => v=.pointer (some ⟨bx,0,none⟩)
 | 2,v,_ => v=.agg pa
 | 3,v,_ => v=.agg P1
 | 4,v,_ => v=.agg pf
 | 5,v,_ => v=.agg P2
 | 6,v,_ => v=.agg (P1 ++ P2)
 | _,v,w => ∃ B,v=.slice (some ⟨B,0,none⟩) 1 1∧Blk w B 156 (P1 ++ P2)
theorem spQ_keep {bx:Nat} {out:Value} {pa P1 pf P2:Array Value} (p:Nat) (v:Value) (u w:World) (h:spQ bx out pa P1 pf P2 p v u) (hb:Below u.heap.size u w):spQ bx out pa P1 pf P2 p v w:=by
 rcases p with _ | _ | _ | _ | _ | _ | _ | p
 all_goals first | exact h | (obtain ⟨B,h1,h2⟩:=h;exact ⟨B,h1,h2.below hb h2.lt⟩)
theorem spansOf_any (ad:Option Addr) (n c:Nat) (L:List Pf) (w:World) (h:RdK layPf w ad L) (hn:L.length=n) (hs:n≤100000) (hv:∀ p ∈ L,OkPf p) :
  Calls Tryz.prog 110 #[.slice ad n c] w fun e w' => ∃ v,e=.returned v∧OwnK layQs w' w.heap.size v (jn (L.map spP))∧Below w.heap.size w w':=by
 have Hv:=Lib.hid hv
 have H0:=Lib.hid h
 have Hn:=Lib.hid hn
 clear h hn hv
 go_enter Tryz.func110,Tryz.ntmps110
 go_wp2_with fail
 go_loopw [3,5,8] (fun out bx i wr => ∃ k:Nat,k≤n∧i=.int .i64 (k:Int)∧Hid (OwnK layQs wr w.heap.size out ((L.take k).map spP))∧Hid (Below w.heap.size w wr)) (fun _ _ i _ => n - (intOf i).toNat)
 case atStart => exact ⟨0,Nat.zero_le _,rfl,Lib.hid (OwnK.nil _ _ _),Lib.hid (Below.refl _ _)⟩
 case round =>
  obtain ⟨k,hk,rfl,HO,HB⟩:=hrel
  by_cases hlt:k < n
  ·have hS:k < L.length:=by rw [Hn.out];exact hlt
   obtain ⟨p,hp⟩:∃ p,L[k]?=some p:=⟨_,List.getElem?_eq_getElem hS⟩
   have hok:=Hv.out p (List.mem_of_getElem? hp)
   obtain ⟨a1,a2,a3,a4,hpc,hpn,hpa⟩:=pf_cells hok
   obtain ⟨g,o,had,hg,c0,c1,c2,c3⟩:=(H0.out.below HB.out).pf hp hpc
   subst had
   have HT1:Hid ((L.take (k + 1)).map spP=(L.take k).map spP ++ [spP p]):=Lib.hid (by
    have:L[k]=p:=by rw [List.getElem?_eq_getElem hS] at hp;injection hp
    rw [List.take_succ_eq_append_getElem hS,List.map_append,this];rfl)
   have HL:=Lib.hid fun wx => lastOfN (n:=p.2.2.2.toNat) wx hok.num.1 hok.bits
   rw [hpn] at HL
   have HF:=Lib.hid fun wx => ofN wx hok.num.1
   rw [hpa] at HF
   have HE:Hid (layQs.enc (spP p)=(wN (nuP p) ++ wN (fil (nuP p) (LN (nuP p) - p.2.2.2.toNat))).toList):=Lib.hid rfl
   have HBd:=Lib.hid fun wx => build_qs (nuP p) (fil (nuP p) (LN (nuP p) - p.2.2.2.toNat)) wx
   have HRw:=Lib.hid fun wx => row_qs (nuP p) (fil (nuP p) (LN (nuP p) - p.2.2.2.toNat)) wx
   generalize spP p=sp at *
   have hlen:((L.take k).map spP).length=k:=by rw [List.length_map,List.length_take];omega
   have HLn:=Lib.hid hlen
   generalize wN (nuP p)=P1 at *
   generalize wN (fil (nuP p) (LN (nuP p) - p.2.2.2.toNat))=P2 at *
   clear hp hS hok hpc hpn hpa hlen
   have HB1:Hid (Below w.heap.size w (wr.alloc (.cells #[.bool a1, .int .u64 (a2:Int), .int .u64 (a3:Int), .int .i64 (a4:Int)] 30 (0,0)))):=Lib.hid (Below.alloc HB.out HB.out.size _)
   have HP1:Hid (Blk (wr.alloc (.cells #[.bool a1, .int .u64 (a2:Int), .int .u64 (a3:Int), .int .i64 (a4:Int)] 30 (0,0))) wr.heap.size 30 #[.bool a1, .int .u64 (a2:Int), .int .u64 (a3:Int), .int .i64 (a4:Int)]):=Lib.hid (Blk.new wr _ _)
   have HO1:Hid (OwnK layQs (wr.alloc (.cells #[.bool a1, .int .u64 (a2:Int), .int .u64 (a3:Int), .int .i64 (a4:Int)] 30 (0,0))) w.heap.size u3 ((L.take k).map spP)):=Lib.hid (HO.out.alloc _)
   go_upto_region 5 with fail
   generalize wr.alloc (.cells #[.bool a1, .int .u64 (a2:Int), .int .u64 (a3:Int), .int .i64 (a4:Int)] 30 (0,0))=w3 at *
   generalize wr.heap.size=bx at *
   clear HB HO c0 c1 c2 c3 hg
   have d0:=HP1.out.cell 0
   have d1:=HP1.out.cell 1
   have d2:=HP1.out.cell 2
   have d3:=HP1.out.cell 3
   simp at d0 d1 d2 d3
   have l0:=Later.cell_of d0
   have l1:=Later.cell_of d1
   have l2:=Later.cell_of d2
   have l3:=Later.cell_of d3
   have HO6:=HO1
   generalize hLL:(L.take k).map spP=LL at *
   clear hLL
   refine wp_region_inv 8 0 (spQ bx u3 #[.bool a1, .int .u64 (a2:Int), .int .u64 (a3:Int)] P1 #[.bool a1, .int .u64 (a2:Int), .int .u64 (a3:Int), .int .i64 (a4:Int)] P2) (fun _ w' => Below w3.heap.size w3 w') (fun u v => Below u.heap.size u v) (fun _ => 0)
    (by kernel_rfl) (by kernel_rfl) (by decide) spQ_keep (below_drew (Below.refl _ _)) ?hX
   case' hX => (apply Exists.intro;refine ⟨fun T => ?hA,?hob,?hend⟩)
   case hA =>
    simp only [setAll,List.take_succ_cons,List.take_zero,Act.put,List.setIfInBounds_toArray,List.set_cons_succ,List.set_cons_zero,Nat.reduceAdd]
    exact rfl
   case hob =>
    clear HO1 HB1 HP1 HO6 d0 d1 d2 d3 HT1 HE HLn
    go_light
    refine ⟨?_,?_,?_,?_,?_,?_,?_,?_,trivial⟩
    all_goals (intro T wx n0 hC hn hp;dsimp only at hn ⊢;unfold Op1)
    ·go_simp
     exact ⟨rfl,Below.refl _ _⟩
    ·go_simp
     exact ⟨rfl,Below.refl _ _⟩
    ·obtain ⟨h0, -⟩:=hp
     have h0:T 1=.pointer (some ⟨bx,0,none⟩):=h0
     have e0:=l0 ⟨wx,hC⟩
     have e1:=l1 ⟨wx,hC⟩
     have e2:=l2 ⟨wx,hC⟩
     simp only at e0 e1 e2
     go_simp
     exact ⟨rfl,Below.refl _ _⟩
    ·obtain ⟨h0, -⟩:=hp
     have h0:T 2=.agg #[.bool a1, .int .u64 (a2:Int), .int .u64 (a3:Int)]:=h0
     go_simp
     refine (HF.out wx).mono ?_
     rintro e w5 ⟨rfl,hb⟩
     exact ⟨_,rfl,rfl,hC.trans (hb.mono hC.size),hb⟩
    ·have e0:=l0 ⟨wx,hC⟩
     have e1:=l1 ⟨wx,hC⟩
     have e2:=l2 ⟨wx,hC⟩
     have e3:=l3 ⟨wx,hC⟩
     simp only at e0 e1 e2 e3
     go_simp
     exact ⟨rfl,Below.refl _ _⟩
    ·obtain ⟨h0, -⟩:=hp
     have h0:T 4=.agg #[.bool a1, .int .u64 (a2:Int), .int .u64 (a3:Int), .int .i64 (a4:Int)]:=h0
     go_simp
     refine (HL.out wx).mono ?_
     rintro e w5 ⟨rfl,hb⟩
     exact ⟨_,rfl,rfl,hC.trans (hb.mono hC.size),hb⟩
    ·obtain ⟨h0,h1, -⟩:=hp
     have h0:T 3=.agg P1:=h0
     have h1:T 5=.agg P2:=h1
     rw [exec_build _ _ rfl #[(0, .agg P1),(1, .agg P2)] (by rw [← h0, ← h1];simp [Act.eval]) (HBd.out wx)]
     exact ⟨rfl,hC,Below.refl _ _⟩
    ·obtain ⟨h0, -⟩:=hp
     have h0:T 6=.agg (P1 ++ P2):=h0
     rw [exec_row _ _ _ rfl #[(0, .agg (P1 ++ P2))] (by rw [← h0];simp [Act.eval]) (HRw.out wx)]
     exact ⟨⟨wx.heap.size,rfl,Blk.new wx _ _⟩,below_alloc hC _,below_alloc (Below.refl _ _) _⟩
   case hend =>
    intro T w4 ⟨n0,hn0,hb⟩ hR
    have hT0:T 0=u3:=hR 0 (by omega)
    obtain ⟨B,hT6,hBl⟩:=hR 7 (by omega)
    have HO4:=Lib.hid (HO1.out.later hb)
    have HB4:=Lib.hid (HB1.out.trans (hb.mono HB1.out.size))
    have HBl:=Lib.hid hBl
    clear hR hb hBl HO1 HB1 HP1 HO6 d0 d1 d2 d3 l0 l1 l2 l3
    simp only [List.drop_succ_cons,List.drop_zero]
    refine wpList_app (c:=1) qsE rfl (.tmp 12) (.tmp 19) rfl ?hs HO4.out ?hx (src_blk layQs sp HBl.out ?c0) ?c1 ?c2 ?c3 ?c4 ?_
    case hs => exact hT0
    case hx => exact hT6
    case c0 => exact (by rw [HE.out])
    case c1 => exact layQs.one sp
    case c2 => unfold maxLen;rw [HLn.out];omega
    case c3 => rw [HLn.out];omega
    case c4 => exact HB4.out.size
    intro v' w' hO hG
    have HO':Hid (OwnK layQs w' w.heap.size v' ((L.take (k + 1)).map spP)):=Lib.hid (by rw [HT1.out];exact OwnK.snoc hO)
    have HB':Hid (Below w.heap.size w w'):=Lib.hid (HB4.out.trans (hG.below HB4.out.size (own_base HO4.out)))
    clear hO hG
    go_wp2
    exact ⟨⟨k + 1,by omega,by go_num,HO',HB'⟩,by simp [intOf];omega⟩
  ·obtain rfl:k=n:=by omega
   have hT:L.take k=L:=List.take_of_length_le (by rw [Hn.out];exact Nat.le_refl _)
   have HO2:Hid (OwnK layQs wr w.heap.size u3 (L.map spP)):=Lib.hid (by have:=HO.out;rw [hT] at this;exact this)
   obtain ⟨ad2,c2,hv2,_,_,_⟩:=HO2.out.form
   rw [List.length_map,Hn.out] at hv2
   subst hv2
   have HJ:=Lib.hid (qjoined_any ad2 k c2 (L.map spP) wr HO2.out.rd (by rw [List.length_map,Hn.out]) (by omega) (fun p hp => by
    obtain ⟨q,hq,rfl⟩:=List.mem_map.1 hp
    exact (Hv.out q hq).vr))
   clear hT HO HO2
   go_wp2_with fail
   refine HJ.out.mono ?_
   rintro e w2 ⟨v,rfl,hO,hb⟩
   go_wp2_with fail
   go_ret
   exact ⟨_,rfl,hO.weak HB.out.size,HB.out.trans (hb.mono HB.out.size)⟩
theorem leastOf_any (ad:Option Addr) (n c:Nat) (L:List Pf) (w:World) (h:RdK layPf w ad L) (hn:L.length=n) (hs:n≤100000) (hv:∀ p ∈ L,OkPf p) :
  Calls Tryz.prog 53 #[.slice ad n c] w fun e w' => ∃ v,e=.returned v∧OwnK layPf w' w.heap.size v (lst L)∧Below w.heap.size w w':=by
 have HS:=Lib.hid (spansOf_any ad n c L w h hn hs hv)
 have HJv:=Lib.hid (sps_vr hv)
 have HJl:=Lib.hid (jn_len (L.map spP))
 have Hlst:Hid (pfs (jn (L.map spP))=lst L):=Lib.hid rfl
 have Hn:=Lib.hid hn
 clear h hn hv
 generalize jn (L.map spP)=J at *
 go_enter Tryz.func53,Tryz.ntmps53
 go_wp2_with fail
 refine HS.out.mono ?_
 rintro e w3 ⟨v,rfl,hO,hB⟩
 obtain ⟨ad3,c3,rfl,_⟩:=hO.form
 have HT:=Lib.hid (qprefixes_any ad3 J.length c3 J w3 hO.rd rfl (by have:=HJl.out;rw [List.length_map,Hn.out] at this;omega) HJv.out)
 rw [Hlst.out] at HT
 have HB3:=Lib.hid hB
 clear hO hB HS HJl HJv Hlst
 generalize J.length=jl at *
 go_wp2_with fail
 refine HT.out.mono ?_
 rintro e w4 ⟨v,rfl,hO,hB⟩
 have HO4:=Lib.hid (hO.weak HB3.out.size)
 have HB4:=Lib.hid (HB3.out.trans (hB.mono HB3.out.size))
 clear hO hB
 go_wp2_with fail
 go_ret
 exact ⟨_,rfl,HO4.out,HB4.out⟩
theorem RdK.blk {α:Type} (E:Lay α) {w:World} {B:Nat} {t:TypeId} {cs:Array Value} {x:α} (hb:Blk w B t cs) (h:cs=(E.enc x).toArray):RdK E w (some ⟨B,0,none⟩) [x]:=by
 subst h
 intro i y hy
 cases i with
 | zero =>
   simp at hy
   subst hy
   refine ⟨B,0,rfl,hb.lt,fun j v hv => ?_⟩
   rw [show 0 + (0 * E.K + j)=j by omega,hb.cell j]
   simpa using hv
 | succ i => simp at hy
def borN (x k:Nat):Nat:=if x % 65536 ^ k=0 then 1 else 0
theorem borN_zero (x:Nat):borN x 0=1:=by simp [borN,Nat.mod_one]
theorem borN_le (x k:Nat):borN x k≤1:=by unfold borN;split <;> omega
theorem borN_dig (x k:Nat) (h:0 < x):digN (x - 1) k=(digN x k + 65536 - borN x k) % 65536:=by
 have hp:0 < 65536 ^ k:=Nat.pow_pos (by decide)
 unfold digN borN
 obtain ⟨P,hP⟩:∃ P,65536 ^ k=P:=⟨_,rfl⟩
 rw [hP] at hp ⊢
 have hm:=Nat.mod_add_div x P
 have hl:=Nat.mod_lt x hp
 obtain ⟨q,hq⟩:∃ q,x / P=q:=⟨_,rfl⟩
 obtain ⟨r,hr⟩:∃ r,x % P=r:=⟨_,rfl⟩
 rw [hq,hr] at hm
 rw [hr] at hl
 rw [hq,hr]
 by_cases h0:r=0
 ·subst h0
  rw [if_pos rfl]
  have hq1:1≤q:=by
   rcases Nat.eq_zero_or_pos q with h1 | h1
   ·subst h1;omega
   ·exact h1
  obtain ⟨q',rfl⟩:∃ q',q=q' + 1:=⟨q - 1,by omega⟩
  have e:x - 1=(P - 1) + P * q':=by rw [Nat.mul_add] at hm;omega
  rw [e,Nat.add_mul_div_left _ _ hp,Nat.div_eq_of_lt (by omega)]
  omega
 ·rw [if_neg h0]
  have e:x - 1=(r - 1) + P * q:=by omega
  rw [e,Nat.add_mul_div_left _ _ hp,Nat.div_eq_of_lt (by omega)]
  omega
theorem borN_succ (x k:Nat):borN x (k + 1)=if digN x k < borN x k then 1 else 0:=by
 have hp:0 < 65536 ^ k:=Nat.pow_pos (by decide)
 unfold digN borN
 rw [Nat.mod_pow_succ]
 obtain ⟨P,hP⟩:∃ P,65536 ^ k=P:=⟨_,rfl⟩
 rw [hP] at hp ⊢
 obtain ⟨r,hr⟩:∃ r,x % P=r:=⟨_,rfl⟩
 obtain ⟨d,hd⟩:∃ d,x / P % 65536=d:=⟨_,rfl⟩
 rw [hr,hd]
 by_cases h0:r=0
 ·subst h0
  rw [if_pos rfl]
  by_cases h1:d=0
  ·subst h1;simp
  ·have:0 < P * d:=Nat.mul_pos hp (by omega)
   rw [if_neg (by omega),if_neg (by omega)]
 ·rw [if_neg h0,if_neg (by omega),if_neg (by omega)]
def mixM (x k:Nat) (j:Nat):Nat:=if j < k then digN (x - 1) j else digN x j
theorem mixM_step (x k:Nat) (h:k < 9) (hx:0 < x):(wd (mixM x k)).setIfInBounds k (.int .i64 (((digN x k + 65536 - borN x k) % 65536:Nat):Int))=wd (mixM x (k + 1)):=by
 rw [wd_set _ _ h]
 refine wd_congr fun d _ => ?_
 unfold mixM
 by_cases h1:d=k
 ·subst h1;rw [if_pos rfl,if_pos (by omega),borN_dig _ _ hx]
 ·rw [if_neg h1]
  by_cases h2:d < k
  ·rw [if_pos h2,if_pos (by omega)]
  ·rw [if_neg h2,if_neg (by omega)]
theorem minusN (x:Nat) (w:World) (hx0:0 < x):Calls Tryz.prog 73 #[.agg (wN x), .int .i64 (-1)] w (Ret (.agg (wN (x - 1))) w):=by
 have HZ:Hid (mixM x 9=mixM x 9∧wd (mixM x 9)=wN (x - 1)):=Lib.hid ⟨rfl,wd_congr fun d hd => by unfold mixM;rw [if_pos hd]⟩
 have H0:Hid (wN x=wd (mixM x 0)):=Lib.hid (wd_congr fun d _ => by unfold mixM;rw [if_neg (by omega)])
 rw [H0.out]
 have HP':Blk ((w.alloc (.cells (wd (mixM x 0)) 101 (0,0))).alloc (.cells #[.int .i64 0, .int .i64 0, .int .i64 0, .int .i64 0, .int .i64 0, .int .i64 0, .int .i64 0, .int .i64 0, .int .i64 0] 101 (0,0))) (w.heap.size) 101 (wd (mixM x 0)):=(Blk.new w _ _).alloc _
 have HR':Blk ((w.alloc (.cells (wd (mixM x 0)) 101 (0,0))).alloc (.cells #[.int .i64 0, .int .i64 0, .int .i64 0, .int .i64 0, .int .i64 0, .int .i64 0, .int .i64 0, .int .i64 0, .int .i64 0] 101 (0,0))) (w.heap.size + 1) 101 #[.int .i64 0, .int .i64 0, .int .i64 0, .int .i64 0, .int .i64 0, .int .i64 0, .int .i64 0, .int .i64 0, .int .i64 0]:=by
  have this:=Blk.new (w.alloc (.cells (wd (mixM x 0)) 101 (0,0))) 101 #[.int .i64 0, .int .i64 0, .int .i64 0, .int .i64 0, .int .i64 0, .int .i64 0, .int .i64 0, .int .i64 0, .int .i64 0]
  rw [World.size_alloc] at this
  exact this
 have HP:=Lib.hid HP'
 have HR:=Lib.hid HR'
 have HB:Hid (Below w.heap.size w ((w.alloc (.cells (wd (mixM x 0)) 101 (0,0))).alloc (.cells #[.int .i64 0, .int .i64 0, .int .i64 0, .int .i64 0, .int .i64 0, .int .i64 0, .int .i64 0, .int .i64 0, .int .i64 0] 101 (0,0)))):=Lib.hid (below_alloc (below_alloc (Below.refl _ _) _) _)
 clear HP' HR'
 have hsz:=Tryz.sizeOf101
 have Hc0:=Lib.hid (borN_zero x)
 have Hx0:=Lib.hid hx0
 clear hx0
 go_enter Tryz.func73,Tryz.ntmps73
 go_upto_region 1 with fail
 generalize ((w.alloc (.cells (wd (mixM x 0)) 101 (0,0))).alloc (.cells #[.int .i64 0, .int .i64 0, .int .i64 0, .int .i64 0, .int .i64 0, .int .i64 0, .int .i64 0, .int .i64 0, .int .i64 0] 101 (0,0)))=w1 at *
 go_wp2_with fail
 go_loopw [1,5,6] (fun nv iv i wr => ∃ k:Nat,k≤9∧i=.int .i64 (k:Int)∧nv=.int .i64 (-((borN x k:Nat):Int))∧Hid (Blk wr w.heap.size 101 (wd (mixM x k)))∧Hid (Blk wr (w.heap.size + 1) 101 #[.int .i64 0, .int .i64 0, .int .i64 0, .int .i64 0, .int .i64 0, .int .i64 0, .int .i64 0, .int .i64 0, .int .i64 0])∧Hid (Below w.heap.size w wr)) (fun _ _ i _ => 9 - (intOf i).toNat)
 case atStart => exact ⟨0,by omega,rfl,by rw [Hc0.out];rfl,HP,HR,HB⟩
 case round =>
  clear HP HR HB
  obtain ⟨k,hk,rfl,rfl,HP,HR,HB⟩:=hrel
  by_cases hlt:k < 9
  ·have hc:=borN_le x k
   have hd:=digN_lt x k
   have hcell:wr.cell? ⟨w.heap.size,k,none⟩=some (.int .i64 ((digN x k:Nat):Int)):=by
    rw [HP.out.cell k,wd_get _ _ hlt]
    unfold mixM
    rw [if_neg (Nat.lt_irrefl k)]
   have hfr:=HP.out.free k
   obtain ⟨v,hv⟩:∃ v,(digN x k + 65536 - borN x k) % 65536=v:=⟨_,rfl⟩
   have HP2:Hid (Blk (wr.setCell ⟨w.heap.size,k,none⟩ (.int .i64 (v:Int))) w.heap.size 101 (wd (mixM x (k + 1)))):=Lib.hid (by
    rw [← mixM_step x k hlt Hx0.out,hv]
    exact HP.out.set k _)
   have HR2:Hid (Blk (wr.setCell ⟨w.heap.size,k,none⟩ (.int .i64 (v:Int))) (w.heap.size + 1) 101 #[.int .i64 0, .int .i64 0, .int .i64 0, .int .i64 0, .int .i64 0, .int .i64 0, .int .i64 0, .int .i64 0, .int .i64 0]):=Lib.hid (HR.out.far (by omega) _ _)
   have HB2:Hid (Below w.heap.size w (wr.setCell ⟨w.heap.size,k,none⟩ (.int .i64 (v:Int)))):=Lib.hid (below_set HB.out (Nat.le_refl _) _ _)
   have Hs:=Lib.hid (borN_succ x k)
   clear HP HR HB
   generalize borN x k=c1 at *
   generalize digN x k=d1 at *
   have b1:(0:Int)≤(k:Int):=by omega
   have b2:(k:Int) < 9:=by omega
   rcases Nat.lt_or_ge d1 c1 with hdc | hdc
   ·obtain rfl:c1=1:=by omega
    obtain rfl:d1=0:=by omega
    obtain rfl:v=65535:=by omega
    have ha:bits .and .i64 (-1) 65535=65535:=by decide
    clear hc hd hv
    simp only [Int.cast_ofNat_Int] at *
    go_wp2_with fail
    exact ⟨⟨k + 1,by omega,by go_num,by rw [Hs.out];rfl,HP2,HR2,HB2⟩,by simp [intOf];omega⟩
   ·obtain ⟨s,hs⟩:∃ s,d1 - c1=s:=⟨_,rfl⟩
    have hs2:-(c1:Int) + (d1:Int)=(s:Int):=by omega
    obtain rfl:v=s:=by omega
    have ha:=i64_and65535 v
    have hm:v % 65536=v:=by omega
    rw [hm] at ha
    have hv1:v < 65536:=by omega
    have hv2:((v:Int) / 65536)=0:=by omega
    have Hz:Hid (borN x (k + 1)=0):=Lib.hid (by rw [Hs.out,if_neg (by omega)])
    clear hc hd hv hs hm hdc Hs
    go_wp2_with fail
    exact ⟨⟨k + 1,by omega,by go_num,by rw [Hz.out];first | rfl | simp,HP2,HR2,HB2⟩,by simp [intOf];omega⟩
  ·obtain rfl:k=9:=by omega
   rw [← HZ.out.2]
   go_wp2_with (first | refine wpList_load_row rfl 101 (.tmp 2) rfl w.heap.size rfl 101 (wd (mixM x 9)) (0,0) _ HP.out Tryz.underlying101 rfl (by kernel_rfl) ?_ | refine wpList_store_row rfl 101 (.tmp 4) (.tmp 21) rfl (w.heap.size + 1) (wd (mixM x 9)) rfl rfl 101 #[.int .i64 0, .int .i64 0, .int .i64 0, .int .i64 0, .int .i64 0, .int .i64 0, .int .i64 0, .int .i64 0, .int .i64 0] HR.out (by kernel_rfl) rfl (wd_one _) ?_)
   refine bodyPost_ret (v:=.agg (wd (mixM x 9))) (results_cell_row Tryz.results73 _ _ (w.heap.size + 1) 101 (wd (mixM x 9)) (0,0) _ rfl (HR.out.row _) Tryz.underlying101 rfl (by kernel_rfl)) rfl ⟨by rw [HZ.out.2],belowRow HB.out (by omega) _⟩
theorem exec_loadn {P:Program} {ρ:Operand→Value} {o:Oper} {w:World} (ty:TypeId) (x:Operand) (ho:o.op=.load ty x) (b off:Nat) (hx:ρ x=.pointer (some ⟨b,off,none⟩)) (X:Array Value) (hc:w.rangeAt b off X.toList) (d:TypeDesc) (hu:P.underlying ty=some d) (hd:d.isRow=true) (m:Nat) (hi:(P.info? ty).map (·.size)=some m) (hm:X.size=m):(execOp ρ o).run P w=.ok (.value (.agg X)) w:=by
 subst hm
 have:=run_loadAt_mid w b off ty X.toList d hc hu hd (by simpa using hi)
 unfold execOp
 simp only [ho,hx,Sem.run_bind,this,Result.andThen_ok,Sem.run_pure]
end Go.Proofs.YteldaicgaeooiaaGreatDoor
