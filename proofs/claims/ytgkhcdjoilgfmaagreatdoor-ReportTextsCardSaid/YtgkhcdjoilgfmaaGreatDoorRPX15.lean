/-
  The reference's order of flows and of reports; the count of draws never goes down.
  The contract of slices.SortFunc at a slice of structs over this program, as the kit's lay-plain.mjs prints it. Condition: the slice has no element, or its cells are known, fewer than 2^62 of them.
  The stable sort of reports by their order: program and reference (at most twenty).
  What the generator of reports calls: Some, the closure that compares; the state in a round.
  Strings that a generator makes: Changed, AddrString.
  The text of a prefix: prefixText and PrefixText of the program, PrefixLine of the reference.
  Plain law: a prefix read. What the program asks (a number of at most three digits) and what the reference asks (its line is the string again) are the same.
  Plain law: the text of reports, written and read.
-/
import Derived.Test.YtgkhcdjoilgfmaaGreatDoorRPX14
import Derived.Shelf.SlSortCmp.NoneTotal
import Derived.Test.YtgkhcdjoilgfmaaGreatDoorProg
import Derived.Test.YtgkhcdjoilgfmaaGreatDoorRPX12
import Derived.Test.YtgkhcdjoilgfmaaGreatDoorRPX8
import Derived.Test.YtgkhcdjoilgfmaaGreatDoorRPX7
import Derived.Test.YtgkhcdjoilgfmaaGreatDoorRPX2
import Derived.Test.YtgkhcdjoilgfmaaGreatDoorRPX5
import Derived.Test.YtgkhcdjoilgfmaaGreatDoorRPX3
import Derived.Test.YtgkhcdjoilgfmaaGreatDoorRPX11
set_option linter.unusedVariables false
set_option maxRecDepth 100000
set_option maxHeartbeats 8000000
namespace Go.Proofs.YtgkhcdjoilgfmaaGreatDoor
open Go.RowKit Go
theorem cN_zero {a b:Nat} (h:cN a b=0):a=b:=by
 unfold cN at h
 split at h
 ·cases h
 ·split at h
  ·cases h
  ·omega
theorem cA_zero {s s':Bool} {h l h' l':Nat} (u1:U64N h) (u2:U64N l) (v1:U64N h') (v2:U64N l') (hz:cN (numA s h l) (numA s' h' l')=0):s=s'∧h=h'∧l=l':=by
 cases s <;> cases s'
 ·rw [cN_num u2 v2] at hz
  unfold orI at hz
  split at hz
  ·rename_i h0;exact ⟨rfl,cN_zero h0,cN_zero hz⟩
  ·exact absurd hz (by assumption)
 ·rw [cN_six u1 u2] at hz;cases hz
 ·rw [cN_six' v1 v2] at hz;cases hz
 ·rw [cN_num u2 v2] at hz
  unfold orI at hz
  split at hz
  ·rename_i h0;exact ⟨rfl,cN_zero h0,cN_zero hz⟩
  ·exact absurd hz (by assumption)
theorem sgn_sub {a b:Int} (h:a ≠ b) (ha:-1152921504606846976≤a∧a≤1152921504606846976) (hb:-1152921504606846976≤b∧b≤1152921504606846976):sgn (wrap64 (a - b))=Lib.compareInt a b∧Lib.compareInt a b ≠ 0:=by
 have e:wrap64 (a - b)=a - b:=by unfold wrap64;omega
 rw [e]
 unfold sgn Lib.compareInt
 rcases Int.lt_trichotomy a b with h1 | h1 | h1
 ·rw [if_pos (by omega),if_pos h1];exact ⟨rfl,by decide⟩
 ·exact absurd h1 h
 ·rw [if_neg (by omega),if_pos (by omega),if_neg (by omega),if_pos (by omega)];exact ⟨rfl,by decide⟩
theorem rdInts_allocR {w:World} {g o n:Nat} {zs:List Int} (h:RdInts w g o n zs) (ob:Obj):RdInts (w.alloc ob) g o n zs :=
 ⟨h.1,by have:=h.2.1;simp;omega,fun i hi => ((below_alloc (Below.refl _ _) ob).cell (p:=⟨g,o + i,none⟩) h.2.1).trans (h.2.2 i hi)⟩
theorem compareInt_self (a:Int):Lib.compareInt a a=0:=by unfold Lib.compareInt;rw [if_neg (Int.lt_irrefl a),if_neg (Int.lt_irrefl a)]
theorem orI_zero (x:Int):orI 0 x=x:=rfl
theorem orI_hit {x y:Int} (h:x ≠ 0):orI x y=x:=if_neg h
theorem addr_neqR (s1 s2:Bool) (h1 h2 l1 l2:Int) (w:World):(binOp .neq 28 (.agg #[.bool s1, .int .u64 h1, .int .u64 l1]) (.agg #[.bool s2, .int .u64 h2, .int .u64 l2])).run Tryz.prog w=.ok (.bool (!(s1 == s2 && (h1 == h2 && l1 == l2)))) w:=by
 rw [run_neq_struct,show (10000:Nat)=9998 + 2 from rfl,equalIn_addrR]
 rfl
theorem addr_guardR (x y:Operand) (s1 s2:Bool) (h1 h2 l1 l2:Int) (w:World):(eqGuard .neq 28 x y (.agg #[.bool s1, .int .u64 h1, .int .u64 l1]) (.agg #[.bool s2, .int .u64 h2, .int .u64 l2])).run Tryz.prog w=.ok () w :=
 run_eqGuard_agg w _ _ _ _ _ _ (by kernel_rfl)
theorem flowOrder_any (f g:FV) (w:World) (hf:f.ok) (hg:g.ok):Calls Tryz.prog 152 #[.agg f.cells, .agg g.cells] w (RetD (.int .i64 (cF f g)) w):=by
 obtain ⟨p,s1,h1,l1,s2,h2,l2,fp,tp⟩:=f
 obtain ⟨p',s1',h1',l1',s2',h2',l2',fp',tp'⟩:=g
 simp only [FV.ok] at hf hg
 obtain ⟨i1,u1,u2,u3,u4,i2,i3⟩:=hf
 obtain ⟨j1,v1,v2,v3,v4,j2,j3⟩:=hg
 obtain ⟨h1,rfl,a1⟩:=nat_of_U64 u1
 obtain ⟨l1,rfl,a2⟩:=nat_of_U64 u2
 obtain ⟨h2,rfl,a3⟩:=nat_of_U64 u3
 obtain ⟨l2,rfl,a4⟩:=nat_of_U64 u4
 obtain ⟨h1',rfl,b1⟩:=nat_of_U64 v1
 obtain ⟨l1',rfl,b2⟩:=nat_of_U64 v2
 obtain ⟨h2',rfl,b3⟩:=nat_of_U64 v3
 obtain ⟨l2',rfl,b4⟩:=nat_of_U64 v4
 clear u1 u2 u3 u4 v1 v2 v3 v4
 unfold cF cA
 simp only [Int.toNat_natCast,FV.cells]
 have HO1:=Lib.hid fun wx => orderD_any s1 h1 l1 s1' h1' l1' wx a1 a2 b1 b2
 have HO2:=Lib.hid fun wx => orderD_any s2 h2 l2 s2' h2' l2' wx a3 a4 b3 b4
 have HZ1:=Lib.hid (cA_zero (s:=s1) (s':=s1') a1 a2 b1 b2)
 have HZ2:=Lib.hid (cA_zero (s:=s2) (s':=s2') a3 a4 b3 b4)
 have HSl:=Lib.hid fun wx g1 g2 => cmpSlI_any g1 g2 2 2 fp tp fp' tp' wx
 have HP0:Hid (p ≠ p'→sgn (wrap64 (p - p'))=Lib.compareInt p p'∧Lib.compareInt p p' ≠ 0):=Lib.hid fun h => sgn_sub h (by unfold I41 at i1;omega) (by unfold I41 at j1;omega)
 have HE1:Hid (s1=s1'∧h1=h1'∧l1=l1'→cN (numA s1 h1 l1) (numA s1' h1' l1')=0):=Lib.hid fun ⟨a,b,c⟩ => by subst a b c;exact cN_same _
 have HE2:Hid (s2=s2'∧h2=h2'∧l2=l2'→cN (numA s2 h2 l2) (numA s2' h2' l2')=0):=Lib.hid fun ⟨a,b,c⟩ => by subst a b c;exact cN_same _
 clear a1 a2 a3 a4 b1 b2 b3 b4 i1 i2 i3 j1 j2 j3
 generalize cN (numA s1 h1 l1) (numA s1' h1' l1')=C2 at *
 generalize cN (numA s2 h2 l2) (numA s2' h2' l2')=C3 at *
 obtain ⟨C4,hC4⟩:∃ C,orI (Lib.compareInt fp fp') (Lib.compareInt tp tp')=C:=⟨_,rfl⟩
 rw [hC4] at HSl ⊢
 clear hC4
 obtain ⟨R,hR⟩:∃ R,orI (Lib.compareInt p p') (orI C2 (orI C3 C4))=R:=⟨_,rfl⟩
 have HR:=Lib.hid hR
 rw [hR]
 clear hR
 have HN1:=Lib.hid fun wx => addr_neqR s1 s1' (h1:Int) (h1':Int) (l1:Int) (l1':Int) wx
 have HN2:=Lib.hid fun wx => addr_neqR s2 s2' (h2:Int) (h2':Int) (l2:Int) (l2':Int) wx
 obtain ⟨N1,hN1⟩:∃ N,(!(s1 == s1' && ((h1:Int) == (h1':Int) && (l1:Int) == (l1':Int))))=N:=⟨_,rfl⟩
 obtain ⟨N2,hN2⟩:∃ N,(!(s2 == s2' && ((h2:Int) == (h2':Int) && (l2:Int) == (l2':Int))))=N:=⟨_,rfl⟩
 rw [hN1] at HN1
 rw [hN2] at HN2
 have HX1:Hid (N1=false→C2=0):=Lib.hid fun h => HE1.out (by rw [← hN1] at h;simp at h;obtain ⟨a,b,c⟩:=h;exact ⟨a,by omega,by omega⟩)
 have HX2:Hid (N2=false→C3=0):=Lib.hid fun h => HE2.out (by rw [← hN2] at h;simp at h;obtain ⟨a,b,c⟩:=h;exact ⟨a,by omega,by omega⟩)
 have HY1:Hid (N1=true→C2 ≠ 0):=Lib.hid fun h e => by
  obtain ⟨a,b,c⟩:=HZ1.out e
  subst a b c
  rw [← hN1] at h;simp at h
 have HY2:Hid (N2=true→C3 ≠ 0):=Lib.hid fun h e => by
  obtain ⟨a,b,c⟩:=HZ2.out e
  subst a b c
  rw [← hN2] at h;simp at h
 clear HE1 HE2 HZ1 HZ2 hN1 hN2
 have HP:Hid (Blk ((w.alloc (.cells #[.int .i64 p, .bool s1, .int .u64 (h1:Int), .int .u64 (l1:Int), .bool s2, .int .u64 (h2:Int), .int .u64 (l2:Int), .int .i64 fp, .int .i64 tp] 72 (0,0))).alloc (.cells #[.int .i64 p', .bool s1', .int .u64 (h1':Int), .int .u64 (l1':Int), .bool s2', .int .u64 (h2':Int), .int .u64 (l2':Int), .int .i64 fp', .int .i64 tp'] 72 (0,0))) w.heap.size 72 #[.int .i64 p, .bool s1, .int .u64 (h1:Int), .int .u64 (l1:Int), .bool s2, .int .u64 (h2:Int), .int .u64 (l2:Int), .int .i64 fp, .int .i64 tp]):=Lib.hid ((Blk.new w _ _).alloc _)
 have HQ:Hid (Blk ((w.alloc (.cells #[.int .i64 p, .bool s1, .int .u64 (h1:Int), .int .u64 (l1:Int), .bool s2, .int .u64 (h2:Int), .int .u64 (l2:Int), .int .i64 fp, .int .i64 tp] 72 (0,0))).alloc (.cells #[.int .i64 p', .bool s1', .int .u64 (h1':Int), .int .u64 (l1':Int), .bool s2', .int .u64 (h2':Int), .int .u64 (l2':Int), .int .i64 fp', .int .i64 tp'] 72 (0,0))) (w.heap.size + 1) 72 #[.int .i64 p', .bool s1', .int .u64 (h1':Int), .int .u64 (l1':Int), .bool s2', .int .u64 (h2':Int), .int .u64 (l2':Int), .int .i64 fp', .int .i64 tp']):=Lib.hid (by
  have this:=Blk.new (w.alloc (.cells #[.int .i64 p, .bool s1, .int .u64 (h1:Int), .int .u64 (l1:Int), .bool s2, .int .u64 (h2:Int), .int .u64 (l2:Int), .int .i64 fp, .int .i64 tp] 72 (0,0))) 72 #[.int .i64 p', .bool s1', .int .u64 (h1':Int), .int .u64 (l1':Int), .bool s2', .int .u64 (h2':Int), .int .u64 (l2':Int), .int .i64 fp', .int .i64 tp']
  rw [World.size_alloc] at this
  exact this)
 have HB:Hid (BelD w ((w.alloc (.cells #[.int .i64 p, .bool s1, .int .u64 (h1:Int), .int .u64 (l1:Int), .bool s2, .int .u64 (h2:Int), .int .u64 (l2:Int), .int .i64 fp, .int .i64 tp] 72 (0,0))).alloc (.cells #[.int .i64 p', .bool s1', .int .u64 (h1':Int), .int .u64 (l1':Int), .bool s2', .int .u64 (h2':Int), .int .u64 (l2':Int), .int .i64 fp', .int .i64 tp'] 72 (0,0)))):=Lib.hid (((BelD.refl _).alloc _).alloc _)
 go_enter Tryz.func152,Tryz.ntmps152
 go_upto_region 1 with fail
 generalize ((w.alloc (.cells #[.int .i64 p, .bool s1, .int .u64 (h1:Int), .int .u64 (l1:Int), .bool s2, .int .u64 (h2:Int), .int .u64 (l2:Int), .int .i64 fp, .int .i64 tp] 72 (0,0))).alloc (.cells #[.int .i64 p', .bool s1', .int .u64 (h1':Int), .int .u64 (l1':Int), .bool s2', .int .u64 (h2':Int), .int .u64 (l2':Int), .int .i64 fp', .int .i64 tp'] 72 (0,0)))=w1 at *
 generalize w.heap.size=b at HP HQ ⊢
 have a0:=HP.out.cell 0
 have a1:=HP.out.cell 1
 have a2:=HP.out.cell 2
 have a3:=HP.out.cell 3
 have a4:=HP.out.cell 4
 have a5:=HP.out.cell 5
 have a6:=HP.out.cell 6
 have a7:=HP.out.cell 7
 have a8:=HP.out.cell 8
 simp at a0 a1 a2 a3 a4 a5 a6 a7 a8
 have b0:=HQ.out.cell 0
 have b1:=HQ.out.cell 1
 have b2:=HQ.out.cell 2
 have b3:=HQ.out.cell 3
 have b4:=HQ.out.cell 4
 have b5:=HQ.out.cell 5
 have b6:=HQ.out.cell 6
 have b7:=HQ.out.cell 7
 have b8:=HQ.out.cell 8
 simp at b0 b1 b2 b3 b4 b5 b6 b7 b8
 have gN1:=fun (x y:Operand) wx => addr_guardR x y s1 s1' (h1:Int) (h1':Int) (l1:Int) (l1':Int) wx
 have gN2:=fun (x y:Operand) wx => addr_guardR x y s2 s2' (h2:Int) (h2':Int) (l2:Int) (l2':Int) wx
 have n1:=HN1.out
 have n2:=HN2.out
 have b7':=(HQ.out.alloc (.cells #[.int .i64 fp, .int .i64 tp] 3 (0,0))).cell 7
 have b8':=(HQ.out.alloc (.cells #[.int .i64 fp, .int .i64 tp] 3 (0,0))).cell 8
 simp at b7' b8'
 by_cases hp:p=p'
 ·subst hp
  cases N1
  ·cases N2
   ·have hR:=HR.out
    rw [compareInt_self,orI_zero,HX1.out rfl,orI_zero,HX2.out rfl,orI_zero] at hR
    subst hR
    go_wp2_with fail
    refine (HSl.out _ _ _ (rdInts_allocR (rdInts_new w1 3 [fp,tp] _ rfl) _) (by
     have:=rdInts_new (w1.alloc (.cells #[.int .i64 fp, .int .i64 tp] 3 (0,0))) 3 [fp',tp'] _ rfl
     rw [World.size_alloc] at this
     exact this)).mono ?_
    rintro e w3 ⟨rfl,rfl⟩
    go_wp2_with fail
    go_ret
    exact ⟨rfl,(HB.out.alloc _).alloc _⟩
   ·have hR:=HR.out
    rw [compareInt_self,orI_zero,HX1.out rfl,orI_zero,orI_hit (HY2.out rfl)] at hR
    subst hR
    go_wp2_with fail
    refine (HO2.out _).mono ?_
    rintro e w3 ⟨rfl,hb⟩
    have HB3:=Lib.hid (HB.out.trans hb)
    clear hb
    go_wp2_with fail
    go_ret
    exact ⟨rfl,HB3.out⟩
  ·have hR:=HR.out
   rw [compareInt_self,orI_zero,orI_hit (HY1.out rfl)] at hR
   subst hR
   go_wp2_with fail
   refine (HO1.out _).mono ?_
   rintro e w3 ⟨rfl,hb⟩
   have HB3:=Lib.hid (HB.out.trans hb)
   clear hb
   go_wp2_with fail
   go_ret
   exact ⟨rfl,HB3.out⟩
 ·obtain ⟨e1,e2⟩:=HP0.out hp
  have hR:=HR.out
  rw [orI_hit e2, ← e1] at hR
  subst hR
  have hne:(p != p')=true:=by simpa using hp
  clear e1 e2
  go_wp2_with fail
  refine (signD_any _ _).mono ?_
  rintro e w3 ⟨rfl,hb⟩
  have HB3:=Lib.hid (HB.out.trans hb)
  clear hb
  go_wp2_with fail
  go_ret
  exact ⟨rfl,HB3.out⟩
theorem cS_zero:∀ {a b:List UInt8},Lib.compareBytes a b=0→a=b
 | [], [],_ => rfl
 | [],_ :: _,h => by cases h
 | _ :: _, [],h => by cases h
 | a :: xs,b :: ys,h => by
   unfold Lib.compareBytes at h
   split at h
   ·cases h
   ·split at h
    ·cases h
    ·have h1:a=b:=UInt8.le_antisymm (UInt8.not_lt.1 (by assumption)) (UInt8.not_lt.1 (by assumption))
     rw [h1,cS_zero h]
theorem cS_self:∀ (a:List UInt8),Lib.compareBytes a a=0
 | [] => rfl
 | a :: xs => by
   unfold Lib.compareBytes
   rw [if_neg (UInt8.lt_irrefl a),if_neg (UInt8.lt_irrefl a)]
   exact cS_self xs
theorem reportOrder_any (x y:RB) (w:World):Calls Tryz.prog 91 #[.agg (layRb.enc x).toArray, .agg (layRb.enc y).toArray] w (RetD (.int .i64 (cR x y)) w):=by
 obtain ⟨⟨nd,hr,ou,f,pk,sz⟩,hx⟩:=x
 obtain ⟨⟨nd',hr',ou',g,pk',sz'⟩,hy⟩:=y
 unfold cR
 show Calls Tryz.prog 91 #[.agg (rpC ⟨nd,hr,ou,f,pk,sz⟩).toArray, .agg (rpC ⟨nd',hr',ou',g,pk',sz'⟩).toArray] w (RetD (.int .i64 (orI (Lib.compareInt hr hr') (orI (cS nd nd') (orI (cBo ou ou') (cF f g))))) w)
 have HP0:Hid (hr ≠ hr'→sgn (wrap64 (hr - hr'))=Lib.compareInt hr hr'∧Lib.compareInt hr hr' ≠ 0):=Lib.hid fun h => sgn_sub h (by have:=hx.2;simp only at this;omega) (by have:=hy.2;simp only at this;omega)
 have HC2:=Lib.hid fun wx => Tryz.strings_Compare nd nd' wx
 have HC4:=Lib.hid fun wx => flowOrder_any f g wx hx.1 hy.1
 have HS:Hid (cS nd nd'=Lib.compareBytes nd.data.toList nd'.data.toList):=Lib.hid rfl
 rw [← HS.out] at HC2
 have HS0:Hid (nd ≠ nd'→cS nd nd' ≠ 0):=Lib.hid fun h e => h (by
  have:=cS_zero e
  rcases nd with ⟨⟨a⟩⟩
  rcases nd' with ⟨⟨b⟩⟩
  simp at this
  rw [this])
 have HS1:Hid (nd=nd'→cS nd nd'=0):=Lib.hid fun h => by subst h;exact cS_self _
 clear HS
 generalize cS nd nd'=C2 at *
 generalize cF f g=C4 at *
 obtain ⟨R,hR⟩:∃ R,orI (Lib.compareInt hr hr') (orI C2 (orI (cBo ou ou') C4))=R:=⟨_,rfl⟩
 have HR:=Lib.hid hR
 rw [hR]
 clear hR
 obtain ⟨XA,hXA⟩:∃ X,(rpC ⟨nd,hr,ou,f,pk,sz⟩).toArray=X:=⟨_,rfl⟩
 obtain ⟨XB,hXB⟩:∃ X,(rpC ⟨nd',hr',ou',g,pk',sz'⟩).toArray=X:=⟨_,rfl⟩
 have s1:XA.size=14:=by rw [← hXA];rfl
 have s2:XB.size=14:=by rw [← hXB];rfl
 have o1:XA.all (·.oneCell')=true:=by rw [← hXA];exact all_oneCell_toArray (layRb.one ⟨_,hx⟩)
 have o2:XB.all (·.oneCell')=true:=by rw [← hXB];exact all_oneCell_toArray (layRb.one ⟨_,hy⟩)
 have HP:Hid (Blk ((w.alloc (.cells XA 74 (0,0))).alloc (.cells XB 74 (0,0))) w.heap.size 74 XA):=Lib.hid ((Blk.new w _ _).alloc _)
 have HQ:Hid (Blk ((w.alloc (.cells XA 74 (0,0))).alloc (.cells XB 74 (0,0))) (w.heap.size + 1) 74 XB):=Lib.hid (by
  have this:=Blk.new (w.alloc (.cells XA 74 (0,0))) 74 XB
  rw [World.size_alloc] at this
  exact this)
 have HB:Hid (BelD w ((w.alloc (.cells XA 74 (0,0))).alloc (.cells XB 74 (0,0)))):=Lib.hid (((BelD.refl _).alloc _).alloc _)
 rw [hXA,hXB]
 go_enter Tryz.func91,Tryz.ntmps91
 go_upto_region 1 with (first | (refine wpList_var XA 74 Tryz.zeroValue74 rfl rfl rfl _ _ rfl _ rfl ?_ ?_ 14 size_rb s1 ?_ o1 ?_;all_goals (try rfl);try go_simp) | (refine wpList_var XB 74 Tryz.zeroValue74 rfl rfl rfl _ _ rfl _ rfl ?_ ?_ 14 size_rb s2 ?_ o2 ?_;all_goals (try rfl);try go_simp))
 generalize (w.alloc (.cells XA 74 (0,0))).alloc (.cells XB 74 (0,0))=w1 at *
 generalize w.heap.size=b at HP HQ ⊢
 subst hXA hXB
 have a0:w1.cell? ⟨b,0,none⟩=some (.string nd):=HP.out.cell 0
 have a1:w1.cell? ⟨b,1,none⟩=some (.int .i64 hr):=HP.out.cell 1
 have a2:w1.cell? ⟨b,2,none⟩=some (.bool ou):=HP.out.cell 2
 have b0:w1.cell? ⟨b + 1,0,none⟩=some (.string nd'):=HQ.out.cell 0
 have b1:w1.cell? ⟨b + 1,1,none⟩=some (.int .i64 hr'):=HQ.out.cell 1
 have b2:w1.cell? ⟨b + 1,2,none⟩=some (.bool ou'):=HQ.out.cell 2
 have HR1:Hid (w1.rangeAt b 3 f.cells.toList):=Lib.hid (rbFlow (x:=⟨nd,hr,ou,f,pk,sz⟩) HP.out)
 have HR2:Hid (w1.rangeAt (b + 1) 3 g.cells.toList):=Lib.hid (rbFlow (x:=⟨nd',hr',ou',g,pk',sz'⟩) HQ.out)
 have S1:Hid (f.cells.toList.length=9):=Lib.hid rfl
 have S2:Hid (g.cells.toList.length=9):=Lib.hid rfl
 generalize f.cells=F1 at *
 generalize g.cells=F2 at *
 clear HP HQ s1 s2 o1 o2 hx hy
 by_cases h1:hr=hr'
 ·subst h1
  by_cases h2:nd=nd'
  ·have hR:=HR.out
   rw [compareInt_self,orI_zero,HS1.out h2,orI_zero] at hR
   subst h2
   by_cases h3:ou=ou'
   ·subst h3
    rw [show cBo ou ou=0 from if_pos rfl,orI_zero] at hR
    subst hR
    go_wp2_with (first | (refine wpList_loadn rfl 72 _ rfl b 3 rfl F1.toList _ HR1.out under_flow rfl 9 size_flow S1.out ?_;go_simp) | (refine wpList_loadn rfl 72 _ rfl (b + 1) 3 rfl F2.toList _ HR2.out under_flow rfl 9 size_flow S2.out ?_;go_simp))
    refine (HC4.out _).mono ?_
    rintro e w3 ⟨rfl,hb⟩
    have HB3:=Lib.hid (HB.out.trans hb)
    clear hb
    go_wp2_with fail
    go_ret
    exact ⟨rfl,HB3.out⟩
   ·cases ou <;> cases ou'
    ·exact absurd rfl h3
    ·rw [show cBo false true=-1 from rfl,orI_hit (by decide)] at hR
     subst hR
     go_wp2_with fail
     go_ret
     exact ⟨rfl,HB.out⟩
    ·rw [show cBo true false=1 from rfl,orI_hit (by decide)] at hR
     subst hR
     go_wp2_with fail
     go_ret
     exact ⟨rfl,HB.out⟩
    ·exact absurd rfl h3
  ·have hR:=HR.out
   rw [compareInt_self,orI_zero,orI_hit (HS0.out h2)] at hR
   subst hR
   have hne:(nd.toList == nd'.toList)=false:=by
    rw [ByteArray.toList_eq,ByteArray.toList_eq]
    refine beq_eq_false_iff_ne.2 fun e => h2 ?_
    rcases nd with ⟨⟨a⟩⟩
    rcases nd' with ⟨⟨b⟩⟩
    simp at e
    rw [e]
   go_wp2_with fail
   refine (HC2.out _).mono ?_
   rintro e w3 ⟨rfl,rfl⟩
   go_wp2_with fail
   go_ret
   exact ⟨rfl,HB.out⟩
 ·obtain ⟨e1,e2⟩:=HP0.out h1
  have hR:=HR.out
  rw [orI_hit e2, ← e1] at hR
  subst hR
  have hne:(hr != hr')=true:=by simpa using h1
  clear e1 e2
  go_wp2_with fail
  refine (signD_any _ _).mono ?_
  rintro e w3 ⟨rfl,hb⟩
  have HB3:=Lib.hid (HB.out.trans hb)
  clear hb
  go_wp2_with fail
  go_ret
  exact ⟨rfl,HB3.out⟩
end Go.Proofs.YtgkhcdjoilgfmaaGreatDoor
namespace Go.Proofs
open Go.Shelf
def Tryz.insRb_ren:Go.Shelf.Ren:=⟨fun | 20 => 202 | n => n,fun | 24 => 74 | 22 => 61 | 3 => 3 | 25 => 121 | 4 => 4 | 0 => 0 | n => n,fun | n => n⟩
theorem Tryz.insRb:Go.Proofs.SlLaysF0.n20 Tryz.prog Tryz.insRb_ren:={
 mixed:=by kernel_rfl
 f20:=⟨Tryz.f202.name,by decide,Tryz.func202.trans (congrArg some (by kernel_rfl))⟩
 t0:=Tryz.underlying0
 a0:=Tryz.isAgg0
 z0:=Tryz.sizeOf0
 v0:=Tryz.zeroValue0
 t3:=Tryz.underlying3
 a3:=Tryz.isAgg3
 z3:=Tryz.sizeOf3
 v3:=Tryz.zeroValue3
 t4:=Tryz.underlying4
 a4:=Tryz.isAgg4
 z4:=Tryz.sizeOf4
 v4:=Tryz.zeroValue4
 t22:=Tryz.underlying61
 a22:=Tryz.isAgg61
 z22:=Tryz.sizeOf61
 v22:=Tryz.zeroValue61
 t25:=Tryz.underlying121
 a25:=Tryz.isAgg121
 z25:=Tryz.sizeOf121
 v25:=Tryz.zeroValue121 }
open Go.Sort Go.RowKit in
theorem Tryz.slices_ins_Rb {α:Type} [Inhabited α] (enc:α→List Value) (hk:∀ x,(enc x).length=14) (h1:∀ x, ∀ v ∈ enc x,v.oneCell'=true) (cf:α→α→Int) (g:Nat) (cb:Array Value) (blk off cap a b:Nat) (d:Array α) (w:World)
  (eg:∀ args w,(callFunc g args).run Tryz.prog w=.ok (.enter g args) w) (hcmp:CmpLays Tryz.prog g cb enc 14 cf blk off d.size w) (hH:HoldsK enc 14 w blk off d) (hblk:blk < w.heap.size) (hab:a≤b) (hb:b≤d.size) (hsz:d.size < 4611686018427387904) :
  Calls Tryz.prog 202 #[.slice (some ⟨blk,off,none⟩) d.size cap, .int .i64 a, .int .i64 b, .func (.func g) #[] cb] w fun e w' =>
   e=.returned (.tuple #[])∧∃ n os,w'=sortWorldK enc 14 w blk off n (Go.Sort.insertionSort (ltOf cf) d a b) os :=
 AnyQ.insertionSortCmpFunc Tryz.insRb 14 Tryz.isAgg74 Tryz.sizeOf74 enc hk h1 cf g cb blk off cap a b d w eg hcmp hH hblk hab hb hsz
open Go.Sort Go.RowKit in
theorem Tryz.slices_ins_Rb_none (p:Option Addr) (cap:Nat) (fv:Value) (w:World) :
  Calls Tryz.prog 202 #[.slice p 0 cap, .int .i64 0, .int .i64 0,fv] w fun e w' => e=.returned (.tuple #[])∧w'=w :=
 AnyF.insertionSortCmpFunc_none Tryz.insRb p cap fv w
end Go.Proofs
namespace Go.Proofs.YtgkhcdjoilgfmaaGreatDoor
open Go.RowKit Go Go.Sort
theorem size_insInnerR {α:Type} [Inhabited α] (lt:α→α→Bool) (a:Nat):∀ (j:Nat) (d:Array α),(Go.Sort.insInner lt a j d).size=d.size
 | 0,d => rfl
 | j + 1,d => by
   unfold Go.Sort.insInner
   split
   ·rw [size_insInnerR lt a j,Go.Sort.size_swp]
   ·rfl
theorem size_insOuterR {α:Type} [Inhabited α] (lt:α→α→Bool) (a b:Nat):∀ (n i:Nat) (d:Array α),b - i=n→(Go.Sort.insOuter lt a b i d).size=d.size
 | 0,i,d,h => by rw [Go.Sort.insOuter,if_neg (by omega)]
 | n + 1,i,d,h => by rw [Go.Sort.insOuter,if_pos (by omega),size_insOuterR lt a b n (i + 1) _ (by omega),size_insInnerR]
theorem size_insR {α:Type} [Inhabited α] (lt:α→α→Bool) (d:Array α) (a b:Nat):(Go.Sort.insertionSort lt d a b).size=d.size:=size_insOuterR lt a b _ _ d rfl
theorem insR_none {α:Type} [Inhabited α] (lt:α→α→Bool) (d:Array α) (a:Nat):Go.Sort.insertionSort lt d a a=d:=by
 unfold Go.Sort.insertionSort
 rw [Go.Sort.insOuter,if_neg (by omega)]
def stabR (L:List RB):List RB:=(Go.Sort.insertionSort (Go.Proofs.ltOf cR) L.toArray 0 L.length).toList
theorem stabR_len (L:List RB):(stabR L).length=L.length:=by
 unfold stabR
 rw [Array.length_toList,size_insR]
 rfl
section
variable {α:Type} [Inhabited α] {E:Lay α}
theorem cmpLaysR {P:Program} {g blk off size:Nat} {w:World} {cf:α→α→Int} (h:∀ x y W,Calls P g #[.agg (E.enc x).toArray, .agg (E.enc y).toArray] W (RetD (.int .i64 (cf x y)) W)):Go.Proofs.CmpLays P g #[] E.enc E.K cf blk off size w :=
 fun m os dk _ x y => by
  rw [Array.append_empty]
  exact (h x y _).mono fun _ _ ⟨he,hb⟩ => ⟨he,hb.grow⟩
theorem OwnK.sortWorldR {w w':World} {B g n c:Nat} {M:List α} (h:OwnK E w B (.slice (some ⟨g,0,none⟩) n c) M) {d':Array α} {q:Nat} {os:Array Obj}
  (hds':d'.size=M.length) (hw:w'=sortWorldK E.enc E.K w g 0 q d' os) :
  OwnK E w' B (.slice (some ⟨g,0,none⟩) n c) d'.toList∧w.grownBy w' (some g):=by
 subst hw
 obtain ⟨hn,hb,hc,hm,cur,hg,hs,ht⟩:=h.block
 have hlt:=lt_of_block hg
 have hF':=flat_all E d'
 have hfs':(flatK E.enc E.K d').size=M.length * E.K:=by rw [size_flatK,hds']
 show OwnK E (grow (putRow id (Sort.ahead w q) g 0 (flatK E.enc E.K d')) os) B _ _∧w.grownBy (grow (putRow id (Sort.ahead w q) g 0 (flatK E.enc E.K d')) os) (some g)
 generalize flatK E.enc E.K d'=F at hF' hfs' ⊢
 have hlen:d'.toList.length=M.length:=by simp [hds']
 generalize d'.toList=L at hF' hlen ⊢
 have hheap:∀ i,i < w.heap.size→(grow (putRow id (Sort.ahead w q) g 0 F) os).heap[i]?=if g=i then some (.cells (putCells id 0 F cur) E.ty (0,0)) else w.heap[i]?:=by
  intro i hi
  simp only [grow,putRow,mapBlock,Sort.ahead]
  rw [Array.getElem?_append_left (by simpa using hi),Array.getElem?_modify]
  by_cases e:g=i
  ·subst e
   rw [if_pos rfl,if_pos rfl,hg]
   rfl
  ·rw [if_neg e,if_neg e]
 have hFc:F.size≤cur.size:=by
  rw [hfs',hs]
  exact Nat.mul_le_mul_right _ (by omega)
 obtain ⟨p1,p2⟩:=putK_take F cur hFc
 refine ⟨⟨by rw [E.all_len], .inr ⟨g,c,_,by rw [hlen,hn],hb,by rw [hheap g hlt,if_pos rfl],by omega,hm,by omega,by rw [hlen, ← hfs',p2];exact hF'⟩⟩,?_⟩
 refine ⟨rfl,rfl,rfl,by simp [grow,putRow,mapBlock,Sort.ahead],fun i hi hne => ?_⟩
 rw [hheap i hi,if_neg (fun e => hne (by rw [e]))]
end
theorem insRb_any (gc:Nat) (eg:∀ args w,(callFunc gc args).run Tryz.prog w=.ok (.enter gc args) w)
  (hc:∀ x y W,Calls Tryz.prog gc #[.agg (layRb.enc x).toArray, .agg (layRb.enc y).toArray] W (RetD (.int .i64 (cR x y)) W)) (B n c a b:Nat) (ad:Option Addr) (M:List RB) (w:World) (h:OwnK layRb w B (.slice ad n c) M) (hs:n≤20) (hn:0 < n) (hab:a≤b) (hb:b≤n) :
  Calls Tryz.prog 202 #[.slice ad n c, .int .i64 (a:Int), .int .i64 (b:Int), .func (.func gc) #[] #[]] w fun e w' => e=.returned (.tuple #[])∧OwnK layRb w' B (.slice ad n c) (Go.Sort.insertionSort (Go.Proofs.ltOf cR) M.toArray a b).toList∧Grew w w' (.slice ad n c) (.slice ad n c):=by
 have hl:M.length=n:=by
  obtain ⟨_,_,hv,_⟩:=h.form
  injection hv with _ e _
  exact e.symm
 obtain ⟨g,c',hv2, -⟩:=h.one (by omega)
 injection hv2 with hv2 q1 q2
 subst hv2
 clear q1 q2
 obtain ⟨hH,hlt⟩:=h.holds
 have hp:=Tryz.slices_ins_Rb layRb.enc layRb.len layRb.one cR gc #[] g 0 c a b M.toArray w eg (cmpLaysR hc) hH hlt hab (by show b≤M.length;omega) (by show M.length < _;omega)
 have hsz:M.toArray.size=n:=hl
 rw [hsz] at hp
 refine hp.mono ?_
 rintro e w' ⟨rfl,q,os,hw⟩
 obtain ⟨k1,k2⟩:=h.sortWorldR (d':=Go.Sort.insertionSort (Go.Proofs.ltOf cR) M.toArray a b) (by rw [size_insR];rfl) hw
 exact ⟨rfl,k1,⟨k2, .inl rfl⟩⟩
theorem sortStableRb_any (gc:Nat) (eg:∀ args w,(callFunc gc args).run Tryz.prog w=.ok (.enter gc args) w)
  (hc:∀ x y W,Calls Tryz.prog gc #[.agg (layRb.enc x).toArray, .agg (layRb.enc y).toArray] W (RetD (.int .i64 (cR x y)) W)) (B n c:Nat) (ad:Option Addr) (M:List RB) (w:World) (h:OwnK layRb w B (.slice ad n c) M) (hs:n≤20) :
  Calls Tryz.prog 90 #[.slice ad n c, .func (.func gc) #[] #[]] w fun e w' => e=.returned (.tuple #[])∧OwnK layRb w' B (.slice ad n c) (stabR M)∧Grew w w' (.slice ad n c) (.slice ad n c):=by
 have hl:M.length=n:=by
  obtain ⟨_,_,hv,_⟩:=h.form
  injection hv with _ e _
  exact e.symm
 have hst:Calls Tryz.prog 151 #[.slice ad n c, .int .i64 (n:Int), .func (.func gc) #[] #[]] w fun e w' => e=.returned (.tuple #[])∧OwnK layRb w' B (.slice ad n c) (stabR M)∧Grew w w' (.slice ad n c) (.slice ad n c):=by
  have b2:¬ (20:Int) < (n:Int):=by omega
  have HO:=Lib.hid h
  rcases Nat.eq_zero_or_pos n with h0 | h0
  ·subst h0
   have hM:M=[]:=List.eq_nil_of_length_eq_zero hl
   subst hM
   have HI:=Lib.hid (Tryz.slices_ins_Rb_none ad c (.func (.func gc) #[] #[]) w)
   have e0:stabR []=[]:=List.eq_nil_of_length_eq_zero (by rw [stabR_len];rfl)
   rw [e0]
   clear eg hc h hl e0
   go_enter Tryz.func151,Tryz.ntmps151
   go_wp2_with fail
   refine wp_loop_rounds 1 ?_
   rw [rounds_succ]
   go_wp2_with fail
   refine HI.out.mono ?_
   rintro e w2 ⟨rfl,rfl⟩
   go_wp2_with fail
   refine wp_loop_rounds 1 ?_
   rw [rounds_succ]
   go_wp2_with fail
   go_end0
   exact ⟨rfl,HO.out,Grew.refl _ _⟩
  ·by_cases h20:n=20
   ·subst h20
    have HI:=Lib.hid (insRb_any gc eg hc B 20 c 0 20 ad M w h hs h0 (by omega) (by omega))
    have HJ:=Lib.hid fun wx hx => insRb_any gc eg hc B 20 c 20 20 ad (stabR M) wx hx hs h0 (by omega) (by omega)
    have HS:Hid ((Go.Sort.insertionSort (Go.Proofs.ltOf cR) M.toArray 0 20).toList=stabR M):=Lib.hid (by unfold stabR;rw [hl])
    have HT:Hid ((Go.Sort.insertionSort (Go.Proofs.ltOf cR) (stabR M).toArray 20 20).toList=stabR M):=Lib.hid (by rw [insR_none])
    rw [HS.out] at HI
    simp only [HT.out] at HJ
    clear eg hc h hl HS HT
    generalize stabR M=SM at *
    go_enter Tryz.func151,Tryz.ntmps151
    go_wp2_with fail
    refine wp_loop_rounds 2 ?_
    rw [rounds_succ]
    go_wp2_with fail
    refine HI.out.mono ?_
    rintro e w2 ⟨rfl,h1,h2⟩
    have H1:=Lib.hid h1
    have H2:=Lib.hid h2
    clear h1 h2
    go_wp2_with fail
    rw [rounds_succ]
    go_wp2_with fail
    refine (HJ.out _ H1.out).mono ?_
    rintro e w3 ⟨rfl,h1,h2⟩
    have H3:=Lib.hid h1
    have H4:=Lib.hid (H2.out.trans h2)
    clear h1 h2
    go_wp2_with fail
    refine wp_loop_rounds 1 ?_
    rw [rounds_succ]
    go_wp2_with fail
    go_end0
    exact ⟨rfl,H3.out,H4.out⟩
   ·have b1:¬ (20:Int)≤(n:Int):=by omega
    have HI:=Lib.hid (insRb_any gc eg hc B n c 0 n ad M w h hs h0 (by omega) (by omega))
    have HS:Hid ((Go.Sort.insertionSort (Go.Proofs.ltOf cR) M.toArray 0 n).toList=stabR M):=Lib.hid (by unfold stabR;rw [hl])
    rw [HS.out] at HI
    clear eg hc h hl HS
    generalize stabR M=SM at *
    go_enter Tryz.func151,Tryz.ntmps151
    go_wp2_with fail
    refine wp_loop_rounds 1 ?_
    rw [rounds_succ]
    go_wp2_with fail
    refine HI.out.mono ?_
    rintro e w2 ⟨rfl,h1,h2⟩
    have H1:=Lib.hid h1
    have H2:=Lib.hid h2
    clear h1 h2
    go_wp2_with fail
    refine wp_loop_rounds 1 ?_
    rw [rounds_succ]
    go_wp2_with fail
    go_end0
    exact ⟨rfl,H1.out,H2.out⟩
 have HS:=Lib.hid hst
 clear hst eg hc h hl
 go_enter Tryz.func90,Tryz.ntmps90
 go_wp2_with fail
 refine HS.out.mono ?_
 rintro e w2 ⟨rfl,h1,h2⟩
 have H1:=Lib.hid h1
 have H2:=Lib.hid h2
 clear h1 h2
 go_wp2_with fail
 go_end0
 exact ⟨rfl,H1.out,H2.out⟩
open Go.RowKit Go
def RdStr (w:World) (g:Nat) (ss:List ByteArray):Prop:=g < w.heap.size∧∀ (i:Nat) s,ss[i]?=some s→w.cell? ⟨g,i,none⟩=some (.string s)
theorem RdStr.grown {w w':World} {g b:Nat} {ss:List ByteArray} (h:RdStr w g ss) (hg:w.grownBy w' (some b)) (hne:g ≠ b):RdStr w' g ss :=
 ⟨Nat.lt_of_lt_of_le h.1 hg.size,fun i s hi => (World.cell?_of_block (hg.block g h.1 (by simpa using hne))).trans (h.2 i s hi)⟩
theorem rdStr_new (w:World) (t:TypeId) (ss:List ByteArray) (vs:Array Value) (hv:vs=(ss.map Value.string).toArray):RdStr (w.alloc (.cells vs t)) w.heap.size ss:=by
 subst hv
 refine ⟨by simp,fun i s hi => ?_⟩
 rw [cell_of_row _ w.heap.size i _ _ _ (heap_alloc_new w _)]
 simp [hi]
theorem some_gen (b m g n:Nat) (ss:List ByteArray) (w:World) (h:Strm w b m) (hm:m < 1099511627776) (hn:ss.length=n) (hn1:1≤n∧n≤1000) (hs:RdStr w g ss) (hgb:g ≠ b) :
  Calls Tryz.prog 44 #[.pointer (some ⟨b,0,none⟩), .slice (some ⟨g,0,none⟩) n n] w fun e w' => ∃ s:ByteArray,e=.returned (.string s)∧s ∈ ss∧Gen b w w' (m + 1):=by
 have Hs:=Lib.hid hs
 have HS:=Lib.hid h
 have Hn:=Lib.hid hn
 clear hs h hn
 go_enter Tryz.func44,Tryz.ntmps44
 go_wp2_with fail
 refine (next_gen b m _ _ HS.out hm (by omega)).mono ?_
 rintro e w1 ⟨k,rfl,⟨hk0,hk1⟩,hg⟩
 obtain ⟨j,rfl⟩:=Int.eq_ofNat_of_zero_le hk0
 have hj:j < n:=by omega
 obtain ⟨s,hs⟩:∃ s,ss[j]?=some s:=⟨_,List.getElem?_eq_getElem (by rw [Hn.out];exact hj)⟩
 have hc:=(Hs.out.grown hg.g hgb).2 j s hs
 have HG:=Lib.hid hg
 have hmem:=List.mem_of_getElem? hs
 have HM:=Lib.hid hmem
 clear hg hs hmem
 have b1:(0:Int)≤(j:Int):=by omega
 have b2:(j:Int) < (n:Int):=by omega
 go_wp2_with fail
 go_ret
 exact ⟨s,rfl,HM.out,HG.out⟩
def sameR (x y:RB):Bool:=decide (cR x y=0)
theorem reports1_any (x y:RB) (w:World):Calls Tryz.prog 93 #[.agg (layRb.enc x).toArray, .agg (layRb.enc y).toArray] w (Ret (.bool (sameR x y)) w):=by
 have HC:=Lib.hid fun wx => (reportOrder_any x y wx)
 have HE:Hid (sameR x y=decide (cR x y=0)):=Lib.hid rfl
 rw [HE.out]
 generalize cR x y=C at *
 have s1:(layRb.enc x).toArray.size=14:=by rw [List.size_toArray,layRb.len];rfl
 have s2:(layRb.enc y).toArray.size=14:=by rw [List.size_toArray,layRb.len];rfl
 have o1:(layRb.enc x).toArray.all (·.oneCell')=true:=all_oneCell_toArray (layRb.one x)
 have o2:(layRb.enc y).toArray.all (·.oneCell')=true:=all_oneCell_toArray (layRb.one y)
 clear HE
 generalize (layRb.enc x).toArray=XA at *
 generalize (layRb.enc y).toArray=XB at *
 have HP:Hid (Blk ((w.alloc (.cells XA 74 (0,0))).alloc (.cells XB 74 (0,0))) w.heap.size 74 XA):=Lib.hid ((Blk.new w _ _).alloc _)
 have HQ:Hid (Blk ((w.alloc (.cells XA 74 (0,0))).alloc (.cells XB 74 (0,0))) (w.heap.size + 1) 74 XB):=Lib.hid (by
  have this:=Blk.new (w.alloc (.cells XA 74 (0,0))) 74 XB
  rw [World.size_alloc] at this
  exact this)
 have HB:Hid (Below w.heap.size w ((w.alloc (.cells XA 74 (0,0))).alloc (.cells XB 74 (0,0)))):=Lib.hid (below_alloc (below_alloc (Below.refl _ _) _) _)
 go_enter Tryz.func93,Tryz.ntmps93
 go_upto_region 1 with (first | (refine wpList_var XA 74 Tryz.zeroValue74 rfl rfl rfl _ _ rfl _ rfl ?_ ?_ 14 size_rb s1 ?_ o1 ?_;all_goals (try rfl);try go_simp) | (refine wpList_var XB 74 Tryz.zeroValue74 rfl rfl rfl _ _ rfl _ rfl ?_ ?_ 14 size_rb s2 ?_ o2 ?_;all_goals (try rfl);try go_simp))
 generalize (w.alloc (.cells XA 74 (0,0))).alloc (.cells XB 74 (0,0))=w1 at *
 generalize w.heap.size=bb at HP HQ ⊢
 have hXl:XA.toList.length=14:=by simpa using s1
 have hYl:XB.toList.length=14:=by simpa using s2
 go_wp2_with (first | (refine wpList_loadn rfl 74 _ rfl bb 0 rfl XA.toList _ HP.out.range under_rb rfl 14 size_rb hXl ?_;go_simp) | (refine wpList_loadn rfl 74 _ rfl (bb + 1) 0 rfl XB.toList _ HQ.out.range under_rb rfl 14 size_rb hYl ?_;go_simp))
 refine (HC.out _).mono ?_
 rintro e w2 ⟨rfl,hb⟩
 have HB2:=Lib.hid (HB.out.trans (hb.b.mono HB.out.size))
 clear hb HC HP HQ
 go_wp2_with fail
 go_ret
 exact ⟨by simp [Bool.beq_eq_decide_eq],HB2.out⟩
def I64b (x:Int):Prop:=-9223372036854775808≤x∧x≤9223372036854775807
theorem i64b_wrap (x:Int):I64b (IntKind.i64.wrap x):=by rw [IntKind.wrap_i64];unfold I64b;omega
def RP.Gm (r:RP):Prop:=r.Sm∧r.node.size≤1000∧I64b r.pk∧I64b r.sz
structure RpS (b m:Nat) (wr w:World) (F R:Nat) (f:FV) (r:RP):Prop where
 g:Gen b wr w m
 fb:FBlk w F f
 rb:Blk w R 74 (rpC r).toArray
 fo:f.ok
 ro:r.Gm
 hF:wr.heap.size≤F
 hR:wr.heap.size≤R
 hne:F ≠ R
 hb:b < wr.heap.size
theorem RpS.step {b m m':Nat} {wr w w':World} {F R:Nat} {f:FV} {r:RP} (h:RpS b m wr w F R f r) (hg:Gen b w w' m'):RpS b m' wr w' F R f r :=
 ⟨h.g.trans hg,h.fb.keep hg.g (by have:=h.hb;have:=h.hF;omega),h.rb.keep hg.g (by have:=h.hb;have:=h.hR;omega),h.fo,h.ro,h.hF,h.hR,h.hne,h.hb⟩
theorem RpS.alloc {b m:Nat} {wr w:World} {F R:Nat} {f:FV} {r:RP} (h:RpS b m wr w F R f r) (o:Obj):RpS b m wr (w.alloc o) F R f r:=h.step ((Gen.start h.g.s).alloc o)
theorem RpS.setR {b m:Nat} {wr w:World} {F R:Nat} {f:FV} {r:RP} (h:RpS b m wr w F R f r) (i:Nat) (x:Value) (r':RP) (hr:((rpC r).toArray.setIfInBounds i x)=(rpC r').toArray) (ho:r'.Gm):RpS b m wr (w.setCell ⟨R,i,none⟩ x) F R f r' :=
 ⟨h.g.setCell _ _ h.hR (by have:=h.hb;have:=h.hR;show b < R;omega),Blk.far h.fb h.hne i x,by have:=Blk.set h.rb i x;rwa [hr] at this,h.fo,ho,h.hF,h.hR,h.hne,h.hb⟩
theorem Gen.setCells {b m B:Nat} {u:World} (hB:u.heap.size≤B) (hb:b < B):∀ (vs:List Value) (o:Nat) (v:World),Gen b u v m→Gen b u (v.setCells B o vs) m
 | [],_,v,h => h
 | x :: l,o,v,h => Gen.setCells hB hb l (o + 1) _ (h.setCell ⟨B,o,none⟩ x hB hb)
theorem Blk.farCells {w:World} {B R:Nat} {t:TypeId} {cs:Array Value} (h:Blk w B t cs) (hne:B ≠ R) (o:Nat) (vs:List Value):Blk (w.setCells R o vs) B t cs :=
 (heap_setCells_other hne vs o w).trans h
theorem Blk.fill {w:World} {B:Nat} {t:TypeId} {cs:Array Value} (h:Blk w B t cs) (vs:List Value) (hl:vs.length=cs.size):Blk (w.setCells B 0 vs) B t vs.toArray:=by
 obtain ⟨cur',h1,h2⟩:=heap_setCells_same vs 0 w cs h
 have hth:w.there B 0 vs.length:=fun j hj => by
  refine ⟨?_,h.free _⟩
  rw [Nat.zero_add,h.cell j,Array.getElem?_eq_getElem (by omega)]
  rfl
 have hr:=World.rangeAt_setCells_same w B 0 vs hth
 have e:cur'=vs.toArray:=by
  apply Array.ext_getElem?
  intro j
  rcases Nat.lt_or_ge j vs.length with hj | hj
  ·have:=hr j _ (List.getElem?_eq_getElem hj)
   rw [Nat.zero_add,cell_of_row _ B j _ _ _ h1] at this
   rw [this,List.getElem?_toArray,List.getElem?_eq_getElem hj]
  ·rw [Array.getElem?_eq_none (by omega),Array.getElem?_eq_none (by simpa using hj)]
 rw [← e]
 exact h1
def rpgR (b B0:Nat) (f:FV):Nat→Value→World→Prop
 | 1,v,w => ∃ g,v=.slice (some ⟨g,0,none⟩) 4 4∧g ≠ b∧RdStr w g [⟨#[110,97]⟩,⟨#[110,98]⟩,⟨#[110,99]⟩,⟨#[110,100]⟩]
 | 2,v,_ => ∃ s:ByteArray,v=.string s∧s.size≤1000
 | 4,v,w => ∃ g,v=.slice (some ⟨g,0,none⟩) 11 11∧g ≠ b∧RdInts w g 0 11 [0,0,1,1,2,5,23,24,30,50,720]
 | 5,v,_ => ∃ k:Int,v=.int .i64 k∧0≤k∧k≤720
 | 7,v,_ => ∃ o:Bool,v=.bool o
 | 8,v,_ => v=.agg #[.int .i64 f.p, .bool f.s1, .int .u64 f.h1, .int .u64 f.l1, .bool f.s2, .int .u64 f.h2, .int .u64 f.l2, .int .i64 f.fp, .int .i64 f.tp]
 | 10,v,w => ∃ g,v=.slice (some ⟨g,0,none⟩) 4 4∧g ≠ b∧RdInts w g 0 4 [1,2,10,100]
 | 11,v,_ => ∃ k:Int,v=.int .i64 k∧I64b k
 | 13,v,w => ∃ g,v=.slice (some ⟨g,0,none⟩) 7 7∧g ≠ b∧RdInts w g 0 7 [0,50,100,110,1000,1000000000,1000000001]
 | 14,v,_ => ∃ k:Int,v=.int .i64 k∧I64b k
 | 15,v,_ => ∃ r:RP,v=.agg (rpC r).toArray∧r.Gm
 | 16,v,w => ∃ R,v=.pointer (some ⟨R,0,none⟩)∧B0≤R∧R ≠ b∧∃ cs,cs.size=14∧Blk w R 74 cs
 | _,v,_ => v=.pointer (some ⟨b,0,none⟩)
theorem rpgR_keep {b B0:Nat} {f:FV} (p:Nat) (v:Value) (u w:World) (h:rpgR b B0 f p v u) (hg:u.grownBy w (some b)):rpgR b B0 f p v w:=by
 rcases p with _ | _ | _ | _ | _ | _ | _ | _ | _ | _ | _ | _ | _ | _ | _ | _ | _ | p
 all_goals first
  | exact h
  | (obtain ⟨g,h1,h2,h3⟩:=h;exact ⟨g,h1,h2,RdStr.grown h3 hg h2⟩)
  | (obtain ⟨g,h1,h2,h3⟩:=h;exact ⟨g,h1,h2,RdInts.grown h3 hg h2⟩)
  | (obtain ⟨R,h1,h2,h3,cs,h4,h5⟩:=h;exact ⟨R,h1,h2,h3,cs,h4,Blk.keep h5 hg h3⟩)
structure RpT (b m:Nat) (w2 w:World) (F R O:Nat) (f:FV) (r o:RP):Prop where
 g:Gen b w2 w m
 fb:FBlk w F f
 rb:Blk w R 74 (rpC r).toArray
 ob:Blk w O 74 (rpC o).toArray
 oo:o.Gm
 hF:F ≠ b
 hR:R ≠ b
 hO:w2.heap.size≤O
 hFO:F ≠ O
 hRO:R ≠ O
 hb:b < w2.heap.size
theorem RpT.step {b m m':Nat} {w2 w w':World} {F R O:Nat} {f:FV} {r o:RP} (h:RpT b m w2 w F R O f r o) (hg:Gen b w w' m'):RpT b m' w2 w' F R O f r o :=
 ⟨h.g.trans hg,h.fb.keep hg.g h.hF,h.rb.keep hg.g h.hR,h.ob.keep hg.g (by have:=h.hb;have:=h.hO;omega),h.oo,h.hF,h.hR,h.hO,h.hFO,h.hRO,h.hb⟩
theorem RpT.alloc {b m:Nat} {w2 w:World} {F R O:Nat} {f:FV} {r o:RP} (h:RpT b m w2 w F R O f r o) (x:Obj):RpT b m w2 (w.alloc x) F R O f r o:=h.step ((Gen.start h.g.s).alloc x)
theorem RpT.setO {b m:Nat} {w2 w:World} {F R O:Nat} {f:FV} {r o:RP} (h:RpT b m w2 w F R O f r o) (i:Nat) (x:Value) (o':RP) (hr:((rpC o).toArray.setIfInBounds i x)=(rpC o').toArray) (ho:o'.Gm):RpT b m w2 (w.setCell ⟨O,i,none⟩ x) F R O f r o' :=
 ⟨h.g.setCell _ _ h.hO (by have:=h.hb;have:=h.hO;show b < O;omega),Blk.far h.fb h.hFO i x,Blk.far h.rb h.hRO i x,by have:=Blk.set h.ob i x;rwa [hr] at this,ho,h.hF,h.hR,h.hO,h.hFO,h.hRO,h.hb⟩
theorem RpS.far {b m:Nat} {wr w:World} {F R:Nat} {f:FV} {r:RP} (h:RpS b m wr w F R f r) {A:Nat} (hA:wr.heap.size≤A) (h1:F ≠ A) (h2:R ≠ A) (i:Nat) (x:Value):RpS b m wr (w.setCell ⟨A,i,none⟩ x) F R f r :=
 ⟨h.g.setCell _ _ hA (by have:=h.hb;show b < A;omega),Blk.far h.fb h1 i x,Blk.far h.rb h2 i x,h.fo,h.ro,h.hF,h.hR,h.hne,h.hb⟩
theorem RpT.far {b m:Nat} {w2 w:World} {F R O:Nat} {f:FV} {r o:RP} (h:RpT b m w2 w F R O f r o) {A:Nat} (hA:w2.heap.size≤A) (h1:F ≠ A) (h2:R ≠ A) (h3:O ≠ A) (i:Nat) (x:Value):RpT b m w2 (w.setCell ⟨A,i,none⟩ x) F R O f r o :=
 ⟨h.g.setCell _ _ hA (by have:=h.hb;show b < A;omega),Blk.far h.fb h1 i x,Blk.far h.rb h2 i x,Blk.far h.ob h3 i x,h.oo,h.hF,h.hR,h.hO,h.hFO,h.hRO,h.hb⟩
theorem Sm_node {r:RP} (h:r.Sm) {s:ByteArray} (hs:s.size≤1000):RP.Sm { r with node:=s }:=⟨h.1,h.2.1,h.2.2.1,Nat.le_trans hs (by decide)⟩
theorem Gm_node {r:RP} (h:r.Gm) {s:ByteArray} (hs:s.size≤1000):RP.Gm { r with node:=s }:=⟨Sm_node h.1 hs,hs,h.2.2⟩
def rqgR (b R O i n:Nat) (zs:List Int) (x:Int):Nat→Value→World→Prop
 | 0,v,_ => v=.pointer (some ⟨R,i,none⟩)
 | 1,v,_ => v=.int .i64 x
 | 2,v,_ => v=.pointer (some ⟨b,0,none⟩)
 | 3,v,w => ∃ g,v=.slice (some ⟨g,0,none⟩) n n∧g ≠ b∧RdInts w g 0 n zs
 | 7,v,_ => v=.pointer (some ⟨O,i,none⟩)
 | _,v,_ => ∃ k:Int,v=.int .i64 k∧I64b k
theorem rqgR_keep {b R O i n:Nat} {zs:List Int} {x:Int} (p:Nat) (v:Value) (u w:World) (h:rqgR b R O i n zs x p v u) (hg:u.grownBy w (some b)):rqgR b R O i n zs x p v w:=by
 rcases p with _ | _ | _ | _ | _ | _ | _ | _ | p
 all_goals first
  | exact h
  | (obtain ⟨g,h1,h2,h3⟩:=h;exact ⟨g,h1,h2,RdInts.grown h3 hg h2⟩)
theorem rangeAt_one {w:World} {b o:Nat} {v:Value} (h:w.cell? ⟨b,o,none⟩=some v):w.rangeAt b o [v]:=fun j x hx => by
 cases j with
 | zero =>
   have:v=x:=by simpa using hx
   rw [← this];exact h
 | succ j => simp at hx
theorem OwnK.setPart {α:Type} {E:Lay α} {w:World} {B g n c:Nat} {L:List α} (h:OwnK E w B (.slice (some ⟨g,0,none⟩) n c) L) {i j:Nat} {x y:α} {vs:List Value} (hx:L[i]?=some x) (hj:j + vs.length≤E.K)
  (h1:∀ t,t < j→(E.enc y)[t]?=(E.enc x)[t]?) (h2:∀ t,t < vs.length→(E.enc y)[j + t]?=vs[t]?) (h3:∀ t,j + vs.length≤t→(E.enc y)[t]?=(E.enc x)[t]?) :
  OwnK E (w.setCells g (i * E.K + j) vs) B (.slice (some ⟨g,0,none⟩) n c) (L.set i y):=by
 have hi:i < n:=by rw [h.block.1];exact (List.getElem?_eq_some_iff.1 hx).1
 have hth:=h.there (o:=i * E.K + j) (m:=vs.length) (by have:=Nat.mul_le_mul_right E.K (show i + 1≤n by omega);rw [Nat.add_mul] at this;omega)
 obtain ⟨hn,hB,hc,hm,cur,hg,hs,ht⟩:=h.block
 obtain ⟨cur',q1,q2⟩:=heap_setCells_same vs (i * E.K + j) w cur hg
 refine OwnK.of_cells (by rw [List.length_set];exact hn.symm) hB hc hm q1 (by rw [q2,hs]) fun k z hz t v hv => ?_
 by_cases e:k=i
 ·subst e
  rw [List.getElem?_set_self (by rw [← hn];exact hi)] at hz
  injection hz with hz
  subst hz
  rcases Nat.lt_or_ge t j with k1 | k1
  ·rw [h1 t k1] at hv
   have:=World.rangeAt_setCells_apart (rangeAt_one (h.get hx hv)) g (k * E.K + j) vs (.inr (.inl (by rw [List.length_singleton];omega)))
   exact this 0 v rfl
  ·rcases Nat.lt_or_ge t (j + vs.length) with k2 | k2
   ·have e2:t=j + (t - j):=by omega
    rw [e2,h2 (t - j) (by omega)] at hv
    have:=World.rangeAt_setCells_same w g (k * E.K + j) vs hth (t - j) v hv
    rw [show k * E.K + j + (t - j)=k * E.K + t by omega] at this
    exact this
   ·rw [h3 t k2] at hv
    have:=World.rangeAt_setCells_apart (rangeAt_one (h.get hx hv)) g (k * E.K + j) vs (.inr (.inr (by omega)))
    exact this 0 v rfl
 ·rw [List.getElem?_set_ne (fun h => e h.symm)] at hz
  have htk:t < E.K:=by rw [← E.len z];exact (List.getElem?_eq_some_iff.1 hv).1
  have:=World.rangeAt_setCells_apart (rangeAt_one (h.get hz hv)) g (i * E.K + j) vs (.inr (by
   have h:=mul_apart (K:=E.K) e
   rw [List.length_singleton]
   omega))
  exact this 0 v rfl
theorem zero_rb:(Tryz.prog.info? 74).map (fun i => (i.size,i.zero.map (fun z => z.cells.size)))=some (14,some 14):=by kernel_rfl
theorem enc_size {c:Nat} (h:c < 128):(Utf8.encode (c:Int)).size≤4:=by
 have key:∀ n:Nat,n < 128→(Utf8.encode (n:Int)).size≤4:=by decide +kernel
 exact key c h
theorem i1_facts {i:Nat} (h:i < 1000000):wrap64 ((i:Int) + 1)=(i:Int) + 1∧IntKind.i64.wrap ((i:Int) + 1)=(i:Int) + 1∧((i:Int) + 1).toNat=i + 1:=by
 refine ⟨by unfold wrap64;omega,by rw [IntKind.wrap_i64];omega,by omega⟩
theorem joinS_four_size (lo:Nat):(joinS (fourL lo) ⟨#[46]⟩).size≤800:=by
 have:=joinS_size (L:=fourL lo) (fourL_short lo) 46
 omega
theorem txtA_size (six:Bool) (hi lo:Nat):(txtA six hi lo).size≤800:=by
 cases six
 ·exact joinS_four_size lo
 ·show (sixT (dg hi lo)).size≤800
  unfold sixT
  split
  ·have:=joinS_size (sixL_short (dg hi lo)) 58
   omega
  ·unfold gapS
   have h1:=joinS_size ((sixL_short (dg hi lo)).take (zF (zB (dg hi lo)) 8 0 0 0).1) 58
   have h2:=joinS_size ((sixL_short (dg hi lo)).drop ((zF (zB (dg hi lo)) 8 0 0 0).1 + (zF (zB (dg hi lo)) 8 0 0 0).2)) 58
   rw [ByteArray.size_append,ByteArray.size_append]
   have:(⟨#[58,58]⟩:ByteArray).size=2:=rfl
   omega
theorem changed_gen (b m:Nat) (T W:ByteArray) (w:World) (h:Strm w b m) (hm:m + 3 < 1099511627776) (hT:T.size≤400000) (hW:W.size≤100) (hWa:∀ (j:Nat) (h:j < W.size),(W[j]'h).toNat < 128) :
  Calls Tryz.prog 104 #[.pointer (some ⟨b,0,none⟩), .string T, .string W] w fun e w' => ∃ S:ByteArray,e=.returned (.string S)∧S.size≤T.size + 100∧Gen b w w' (m + 3):=by
 have HS:=Lib.hid h
 have HWa:=Lib.hid hWa
 have hTe:T.size=0 ↔ T.toList=[]:=by
  rw [ByteArray.toList_eq]
  show T.data.size=0 ↔ T.data.toList=[]
  rw [← Array.length_toList,List.length_eq_zero_iff]
 have hWe:W.size=0 ↔ W.toList=[]:=by
  rw [ByteArray.toList_eq]
  show W.data.size=0 ↔ W.data.toList=[]
  rw [← Array.length_toList,List.length_eq_zero_iff]
 have HTe:=Lib.hid hTe
 have HWe:=Lib.hid hWe
 obtain ⟨tl,htl⟩:∃ q,T.toList=q:=⟨_,rfl⟩
 obtain ⟨wl,hwl⟩:∃ q,W.toList=q:=⟨_,rfl⟩
 rw [htl] at HTe
 rw [hwl] at HWe
 clear h hWa hTe hWe
 go_enter Tryz.func104,Tryz.ntmps104
 by_cases hw0:W.size=0
 ·have hwn:wl=[]:=HWe.out.1 hw0
  have hwe:wl.isEmpty=true:=by rw [hwn];rfl
  by_cases ht0:T.size=0
  ·have htn:tl=[]:=HTe.out.1 ht0
   have hte:tl.isEmpty=true:=by rw [htn];rfl
   go_wp2_with fail
   go_ret
   exact ⟨W,rfl,by omega,(Gen.start HS.out).mono (by omega)⟩
  ·have htn:¬ tl=[]:=fun e => ht0 (HTe.out.2 e)
   have hte:tl.isEmpty=false:=by cases tl with
    | nil => exact absurd rfl htn
    | cons _ _ => rfl
   go_wp2_with fail
   go_ret
   exact ⟨W,rfl,by omega,(Gen.start HS.out).mono (by omega)⟩
 ·have hwn:¬ wl=[]:=fun e => hw0 (HWe.out.2 e)
  have hwe:wl.isEmpty=false:=by cases wl with
   | nil => exact absurd rfl hwn
   | cons _ _ => rfl
  by_cases ht0:T.size=0
  ·have htn:tl=[]:=HTe.out.1 ht0
   have hte:tl.isEmpty=true:=by rw [htn];rfl
   go_wp2_with fail
   go_ret
   exact ⟨W,rfl,by omega,(Gen.start HS.out).mono (by omega)⟩
  ·have htn:¬ tl=[]:=fun e => ht0 (HTe.out.2 e)
   have hte:tl.isEmpty=false:=by cases tl with
    | nil => exact absurd rfl htn
    | cons _ _ => rfl
   go_wp2_with fail
   refine (next_gen b m _ _ HS.out (by omega) (by omega)).mono ?_
   rintro e w1 ⟨k,rfl,⟨hk0,hk1⟩,hg⟩
   have HG1:=Lib.hid hg
   obtain ⟨i,rfl⟩:=Int.eq_ofNat_of_zero_le hk0
   have hi:i < T.size:=by omega
   clear hg hk0 hk1 HS
   go_wp2_with fail
   refine (next_gen b (m + 1) _ _ HG1.out.s (by omega) (by omega)).mono ?_
   rintro e w2 ⟨k,rfl,⟨hk0,hk1⟩,hg⟩
   have HG2:=Lib.hid (HG1.out.trans hg)
   obtain ⟨j,rfl⟩:=Int.eq_ofNat_of_zero_le hk0
   have hj:j < W.size:=by omega
   obtain ⟨c,hc⟩:∃ q:Nat,(W[j]'hj).toNat=q:=⟨_,rfl⟩
   have hix:∀ h:j < W.size,((W[j]'h).toNat:Int)=(c:Int):=fun h => by rw [← hc]
   have hc128:c < 128:=by rw [← hc];exact HWa.out j hj
   clear hg hk0 hk1 HG1 hc
   go_wp2_with fail
   refine (next_gen b (m + 2) _ _ HG2.out.s (by omega) (by omega)).mono ?_
   rintro e w3 ⟨k,rfl,⟨hk0,hk1⟩,hg⟩
   have HG3:=Lib.hid (HG2.out.trans hg)
   clear hg HG2
   have hes:=enc_size hc128
   obtain ⟨E,hE⟩:∃ q,Utf8.encode (c:Int)=q:=⟨_,rfl⟩
   rw [hE] at hes
   have hx1:(T.extract 0 i).size=i:=by rw [ByteArray.size_extract];omega
   have hx2:(T.extract (i + 1) T.size).size≤T.size - i:=by rw [ByteArray.size_extract];omega
   have hx3:(T.extract i T.size).size≤T.size - i:=by rw [ByteArray.size_extract];omega
   have ad1:=fun wx => add_str (T.extract 0 i) E (by omega) (by omega) wx
   have hs1:(T.extract 0 i ++ E).size≤i + 4:=by rw [ByteArray.size_append];omega
   have ad2:=fun wx => add_str (T.extract 0 i ++ E) (T.extract (i + 1) T.size) (by omega) (by omega) wx
   have ad3:=fun wx => add_str (T.extract 0 i ++ E) (T.extract i T.size) (by omega) (by omega) wx
   have ad4:=fun wx => add_str (T.extract 0 i) (T.extract (i + 1) T.size) (by omega) (by omega) wx
   have hf2:(T.extract 0 i ++ E ++ T.extract (i + 1) T.size).size≤T.size + 100:=by rw [ByteArray.size_append];omega
   have hf3:(T.extract 0 i ++ E ++ T.extract i T.size).size≤T.size + 100:=by rw [ByteArray.size_append];omega
   have hf4:(T.extract 0 i ++ T.extract (i + 1) T.size).size≤T.size + 100:=by rw [ByteArray.size_append];omega
   have Hf2:=Lib.hid hf2
   have Hf3:=Lib.hid hf3
   have Hf4:=Lib.hid hf4
   have hi1:(i:Int)≤(T.size:Int):=by omega
   have hi2:(i:Int) + 1≤(T.size:Int):=by omega
   obtain ⟨e1,e2,e3⟩:=i1_facts (show i < 1000000 by omega)
   clear hf2 hf3 hf4 hs1 hx1 hx2 hx3
   have hcase:k=0 ∨ k=1 ∨ k=2:=by omega
   clear hk0 hk1
   rcases hcase with rfl | rfl | rfl
   ·go_upto_region 7 with fail
    refine wp_region_later (by kernel_rfl) (by kernel_rfl) ?_
    repeat (go_big_quiet_step (fail))
    refine wpQuiet_nil ?_
    rintro w4 ⟨m4,hm4⟩
    have hb4:Below w3.heap.size w3 w4:=by rw [hm4];exact m4.2
    have HG4:=Lib.hid (HG3.out.below hb4 HG3.out.g.size HG3.out.s.lt)
    clear hm4 m4 hb4 HG3
    go_wp2_with fail
    go_ret
    exact ⟨_,rfl,Hf2.out,HG4.out⟩
   ·go_upto_region 9 with fail
    refine wp_region_later (by kernel_rfl) (by kernel_rfl) ?_
    repeat (go_big_quiet_step (fail))
    refine wpQuiet_nil ?_
    rintro w4 ⟨m4,hm4⟩
    have hb4:Below w3.heap.size w3 w4:=by rw [hm4];exact m4.2
    have HG4:=Lib.hid (HG3.out.below hb4 HG3.out.g.size HG3.out.s.lt)
    clear hm4 m4 hb4 HG3
    go_wp2_with fail
    go_ret
    exact ⟨_,rfl,Hf3.out,HG4.out⟩
   ·go_upto_region 10 with fail
    refine wp_region_later (by kernel_rfl) (by kernel_rfl) ?_
    repeat (go_big_quiet_step (fail))
    refine wpQuiet_nil ?_
    rintro w4 ⟨m4,hm4⟩
    have hb4:Below w3.heap.size w3 w4:=by rw [hm4];exact m4.2
    have HG4:=Lib.hid (HG3.out.below hb4 HG3.out.g.size HG3.out.s.lt)
    clear hm4 m4 hb4 HG3
    go_wp2_with fail
    go_ret
    exact ⟨_,rfl,Hf4.out,HG4.out⟩
theorem strL_app (a b:List UInt8):strL (a ++ b)=strL a ++ strL b:=by
 apply ByteArray.ext
 rw [ByteArray.data_append]
 simp [strL]
theorem parseF_ok {s:List UInt8} {six:Bool} {hi lo:Nat} (hs:s.length≤1000000) (h:parseF s=some (six,hi,lo)):U64N hi∧U64N lo∧aFault six (hi:Int) (lo:Int)=0:=by
 unfold parseF at h
 cases hl:looseF s with
 | none => rw [hl] at h;cases h
 | some a =>
   obtain ⟨x,y,z⟩:=a
   rw [hl] at h
   simp only at h
   split at h
   ·injection h with h
    injection h with h1 h
    injection h with h2 h3
    subst h1 h2 h3
    exact looseF_ok hs hl
   ·cases h
def wayB (o:Bool):ByteArray:=if o=true then ⟨#[111,117,116]⟩ else ⟨#[105,110]⟩
def rpW (x:RP):List ByteArray:=[itB x.hour,x.node,wayB x.out,itB x.f.p,txtA x.f.s1 x.f.h1.toNat x.f.l1.toNat,txtA x.f.s2 x.f.h2.toNat x.f.l2.toNat,itB x.f.fp,itB x.f.tp,itB x.pk,itB x.sz]
def rpB (x:RP):ByteArray:=joinS (rpW x) ⟨#[32]⟩
def repsT (L:List RB):List UInt8:=L.flatMap fun x => (rpB x.1).data.toList ++ [10]
theorem repsT_take {L:List RB} {k:Nat} {x:RB} (h:L[k]?=some x):repsT (L.take (k + 1))=repsT (L.take k) ++ ((rpB x.1).data.toList ++ [10]):=by
 unfold repsT
 rw [List.take_add_one,h,List.flatMap_append]
 simp
theorem joinS_size1 (L:List ByteArray) (b:UInt8) (m:Nat) (h:∀ x ∈ L,x.size≤m):(joinS L ⟨#[b]⟩).size≤(m + 1) * L.length:=by
 unfold joinS
 show (Lib.join (L.map (·.data.toList)) [b]).toArray.size≤_
 rw [List.size_toArray]
 cases L with
 | nil => exact Nat.zero_le _
 | cons x r =>
   rw [List.map_cons,Lib.join_length]
   have key:∀ L:List ByteArray,(∀ x ∈ L,x.size≤m)→Lib.lens (L.map (·.data.toList))≤m * L.length:=fun L => by
    induction L with
    | nil => intro _;exact Nat.zero_le _
    | cons y L ih =>
      intro h
      have h1:=ih fun z hz => h z (List.mem_cons_of_mem _ hz)
      have h2:=h y (List.mem_cons_self ..)
      have h3:y.data.toList.length=y.size:=by rw [Array.length_toList];rfl
      rw [List.map_cons,List.length_cons,Nat.mul_succ]
      simp only [Lib.lens] at h1 ⊢
      rw [List.map_cons,List.sum_cons,h3]
      omega
   have h1:=key (x :: r) h
   rw [List.map_cons] at h1
   have h2:(m + 1) * (x :: r).length=m * (x :: r).length + (x :: r).length:=by rw [Nat.add_mul,Nat.one_mul]
   rw [h2,List.length_map]
   have h3:([b]:List UInt8).length=1:=rfl
   rw [h3,List.length_cons] at *
   omega
theorem OwnS.new (w:World) (L:List ByteArray) (hl:L.length≤1000000):OwnS (w.alloc (.cells (encSs L).toArray 9 (0,0))) w.heap.size (.slice (some ⟨w.heap.size,0,none⟩) L.length L.length) L:=by
 have hz:(encSs L).length=L.length:=by unfold encSs;rw [List.length_map]
 refine ⟨by rw [hz,Nat.mul_one], .inr ⟨_,_,_,rfl,Nat.le_refl _,heap_alloc_new w _,Nat.le_refl _,by unfold maxLen;omega,by rw [List.size_toArray,hz,Nat.mul_one],?_⟩⟩
 rw [Nat.mul_one, ← hz]
 exact List.take_length
theorem rpW_short {x:RP} (h:x.Gm):∀ b ∈ rpW x,b.size≤1000:=fun b hb => by
 obtain ⟨⟨hf,h0,h1, -⟩,hn,⟨p0,p1⟩,s0,s1⟩:=h
 obtain ⟨⟨f0,f1⟩, -, -, -, -,⟨g0,g1⟩,t0,t1⟩:=hf
 unfold rpW at hb
 simp only [List.mem_cons,List.not_mem_nil,or_false] at hb
 rcases hb with rfl | rfl | rfl | rfl | rfl | rfl | rfl | rfl | rfl | rfl
 ·exact Nat.le_trans (itB_size (by omega) (by omega)) (by decide)
 ·exact hn
 ·unfold wayB
  split <;> decide
 ·exact Nat.le_trans (itB_size (by omega) (by omega)) (by decide)
 ·exact Nat.le_trans (txtA_size _ _ _) (by decide)
 ·exact Nat.le_trans (txtA_size _ _ _) (by decide)
 ·exact Nat.le_trans (itB_size (by omega) (by omega)) (by decide)
 ·exact Nat.le_trans (itB_size (by omega) (by omega)) (by decide)
 ·exact Nat.le_trans (itB_size (by omega) (by omega)) (by decide)
 ·exact Nat.le_trans (itB_size (by omega) (by omega)) (by decide)
theorem rpB_size {x:RP} (h:x.Gm):(rpB x).size≤10010:=by
 have:=joinS_size1 (rpW x) 32 1000 (rpW_short h)
 have hl:(rpW x).length=10:=rfl
 unfold rpB
 omega
theorem scanRF_addr:∀ (p:Option RB) (L:List RB),scanRF p L=0→∀ x ∈ L,aFault x.1.f.s1 x.1.f.h1 x.1.f.l1=0∧aFault x.1.f.s2 x.1.f.h2 x.1.f.l2=0
 | _, [],_,x,hx => absurd hx (List.not_mem_nil)
 | p,r :: l,h,x,hx => by
   unfold scanRF at h
   by_cases h0:afterRF p r=0
   ·rw [if_neg (by simp [h0])] at h
    rcases List.mem_cons.1 hx with rfl | hm
    ·unfold afterRF at h0
     by_cases h1:rowRF x.1=0
     ·unfold rowRF at h1
      split at h1
      ·cases h1
      ·split at h1
       ·cases h1
       ·by_cases h2:flowFault x.1.f=0
        ·unfold flowFault at h2
         split at h2
         ·cases h2
         ·by_cases a1:aFault x.1.f.s1 x.1.f.h1 x.1.f.l1=0
          ·by_cases a2:aFault x.1.f.s2 x.1.f.h2 x.1.f.l2=0
           ·exact ⟨a1,a2⟩
           ·rw [if_neg (by simp [a1]),if_pos a2] at h2
            exact absurd h2 a2
          ·rw [if_pos a1] at h2
           exact absurd h2 a1
        ·rw [if_pos h2] at h1
         exact absurd h1 h2
     ·rw [if_pos h1] at h0
      exact absurd h0 h1
    ·exact scanRF_addr (some r) l h x hm
   ·rw [if_pos h0] at h
    exact absurd h h0
theorem repF_addr {L:List RB} (h:repF L=0):∀ x ∈ L,aFault x.1.f.s1 x.1.f.h1 x.1.f.l1=0∧aFault x.1.f.s2 x.1.f.h2 x.1.f.l2=0:=by
 unfold repF at h
 split at h
 ·cases h
 ·exact scanRF_addr none L h
end Go.Proofs.YtgkhcdjoilgfmaaGreatDoor
