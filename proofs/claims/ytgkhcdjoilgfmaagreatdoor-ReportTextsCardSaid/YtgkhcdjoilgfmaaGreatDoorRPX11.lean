/-
  What functions of strings and numbers read of the library's variables; their contracts in the words of lists of bytes.
  kit.Number: a numeral of at most so many digits, with a sign.
  The walk of kit.Number.
  Four numbers with points between, read: the program's four and the reference's.
  strconv.ParseUint at base 16 and at most four digits.
  strings.Trim of bytes of a set, as far as the reference's only asks; Key.
  Groups of an address, read: in plain words. A row of uint64.
  Groups of an address, read by the program. Condition: at most a million bytes.
-/
import Derived.Test.YtgkhcdjoilgfmaaGreatDoorRPX5
import Derived.Test.YtgkhcdjoilgfmaaGreatDoorRPX10
import Derived.Test.YtgkhcdjoilgfmaaGreatDoorRPX1
import Derived.Test.YtgkhcdjoilgfmaaGreatDoorRPX4
import Derived.Test.YtgkhcdjoilgfmaaGreatDoorRPX2
import Derived.Laws.Bits64b
import Derived.Lib.ConvBytes
import Derived.Laws.Closers25
import Derived.Laws.Closers25b
import Derived.Test.YtgkhcdjoilgfmaaGreatDoorRPX7
set_option linter.unusedVariables false
set_option maxRecDepth 100000
set_option maxHeartbeats 32000000
namespace Go.Proofs.YtgkhcdjoilgfmaaGreatDoor
open Go.RowKit Go Go.Sort
structure Vr (w:World):Prop where
 mx:∃ m,w.cell? ⟨0,0,none⟩=some (.int .i64 m)
 es:∃ ev,w.cell? ⟨2,0,none⟩=some ev∧(ev=.nilIface ∨ ∃ te pe,ev=.iface te pe)
 er:∃ ev,w.cell? ⟨3,0,none⟩=some ev∧(ev=.nilIface ∨ ∃ te pe,ev=.iface te pe)
 tb:Tabs w
theorem cell_below {w w':World} {g:Nat} {v:Value} (h:w.cell? ⟨g,0,none⟩=some v) (hb:Below w.heap.size w w'):w'.cell? ⟨g,0,none⟩=some v :=
 (hb.cell (World.block_lt_of_cell? _ _ h)).trans h
theorem Vr.below {w w':World} (h:Vr w) (hb:Below w.heap.size w w'):Vr w':=by
 obtain ⟨⟨m,h1⟩,⟨e,h2,h3⟩,⟨f,h4,h5⟩,h6⟩:=h
 exact ⟨⟨m,cell_below h1 hb⟩,⟨e,cell_below h2 hb,h3⟩,⟨f,cell_below h4 hb,h5⟩,h6.below hb⟩
def RdS (w:World) (g:Nat) (ss:List (List UInt8)):Prop:=g < w.heap.size∧∀ (i:Nat) s,ss[i]?=some s→w.cell? ⟨g,i,none⟩=some (.string (strL s))
theorem RdS.below {w w':World} {g:Nat} {ss:List (List UInt8)} (h:RdS w g ss) (hb:Below w.heap.size w w'):RdS w' g ss :=
 ⟨Nat.lt_of_lt_of_le h.1 hb.size,fun i s hs => (hb.cell (p:=⟨g,i,none⟩) h.1).trans (h.2 i s hs)⟩
theorem split_any (s:List UInt8) (c:UInt8) (w:World) (hv:Vr w) (hs:s.length≤1000000) :
  Calls Tryz.prog 162 #[.string (strL s), .string ⟨#[c]⟩] w fun e w' => ∃ g,e=.returned (.slice (some ⟨g,0,none⟩) (spl c s).length (spl c s).length)∧RdS w' g (spl c s)∧Below w.heap.size w w':=by
 obtain ⟨m,hm⟩:=hv.mx
 refine (Tryz.strings_Split (strL s) ⟨#[c]⟩ m w (by rw [strL_size];omega) hm (by show 1≤1;exact Nat.le_refl _)).mono ?_
 rintro e w' ⟨rfl,rfl⟩
 refine ⟨w.heap.size,by rw [countB_one];rfl,⟨by simp,fun i p hp => ?_⟩,below_alloc (Below.refl _ _) _⟩
 rw [cell_of_row _ w.heap.size i _ _ _ (heap_alloc_new w _),splitB_one']
 rw [List.getElem?_toArray,List.getElem?_map,List.getElem?_map]
 show (Option.map _ (Option.map _ ((spl c s)[i]?)))=_
 rw [hp]
 rfl
theorem indexByte_mem (s:List UInt8) (c:UInt8):decide (0≤Lib.indexByte s c)=s.contains c:=by
 induction s with
 | nil => rfl
 | cons b l ih =>
   by_cases h:b=c
   ·subst h
    simp [Lib.indexByte]
   ·have h2:(c == b)=false:=beq_eq_false_iff_ne.2 (fun e => h e.symm)
    have h3:(b == c)=false:=beq_eq_false_iff_ne.2 h
    rw [List.contains_cons,h2,Bool.false_or, ← ih]
    have e:Lib.indexByte (b :: l) c=if Lib.indexByte l c == -1 then -1 else Lib.indexByte l c + 1:=by rw [Lib.indexByte,if_neg (by simp [h3])]
    have hge:=Lib.indexByte_ge l c
    rw [e]
    clear e ih
    generalize Lib.indexByte l c=I at *
    by_cases q:I=-1
    ·rw [if_pos (beq_iff_eq.2 q),q]
    ·rw [if_neg (fun e => q (beq_iff_eq.1 e))]
     apply decide_eq_decide.2
     omega
theorem contains_any (s:List UInt8) (c:UInt8) (w:World):Calls Tryz.prog 266 #[.string (strL s), .string ⟨#[c]⟩] w (Ret (.bool (s.contains c)) w):=by
 refine (Tryz.strings_Contains_one (strL s) c w).mono ?_
 rintro e w' ⟨rfl,rfl⟩
 refine ⟨?_,Below.refl _ _⟩
 rw [indexByte_mem]
 rfl
theorem cut_any (s sep:List UInt8) (w:World) (hv:Vr w) (hs:s.length≤1000000) :
  Calls Tryz.prog 166 #[.string (strL s), .string (strL sep)] w (Ret (.tuple #[.string (strL (Lib.cut s sep).1), .string (strL (Lib.cut s sep).2.1), .bool (Lib.cut s sep).2.2]) w):=by
 obtain ⟨m,hm⟩:=hv.mx
 refine (Tryz.strings_Cut (strL s) (strL sep) m w (by rw [strL_size];omega) hm).mono ?_
 rintro e w' ⟨rfl,n,rfl⟩
 exact ⟨rfl,Go.Proofs.YtgkhcdjoilgfmaaGreatDoor.below_drewN (Below.refl _ _) n⟩
theorem trimPrefix_any (s p:List UInt8) (w:World):Calls Tryz.prog 168 #[.string (strL s), .string (strL p)] w (Ret (.string (strL (Lib.trimPrefix s p))) w):=by
 refine (Tryz.strings_TrimPrefix (strL s) (strL p) w).mono ?_
 rintro e w' ⟨rfl,rfl⟩
 exact ⟨rfl,Below.refl _ _⟩
theorem atoi_any (s:List UInt8) (w:World) (hv:Vr w) (hs:s.length≤1000000) :
  Calls Tryz.prog 169 #[.string (strL s)] w fun e w' => (∃ n ev,e=.returned (.tuple #[.int .i64 n,ev])∧(match Lib.atoiAll s with | .ok v => n=v∧ev=.nilIface | _ => ∃ t p,ev=.iface t p))∧Below w.heap.size w w':=by
 have hz:(strL s).size=s.length:=strL_size s
 cases h:Lib.atoiAll s with
 | ok v =>
   refine (Tryz.strconv_Atoi_ok (strL s) (by omega) v h w).mono ?_
   rintro e w' ⟨rfl,hw⟩
   refine ⟨⟨v, .nilIface,rfl,rfl,rfl⟩,?_⟩
   rcases hw with rfl | ⟨t,rfl⟩
   ·exact Below.refl _ _
   ·exact Lib.bytesWorld_below w _ _
 | range =>
   obtain ⟨ev,h1,h2⟩:=hv.er
   refine (Tryz.strconv_Atoi_range (strL s) (by omega) h ev w h1 h2).mono ?_
   rintro e w' ⟨N,rfl, -, -,hb⟩
   exact ⟨⟨_,_,rfl,_,_,rfl⟩,hb⟩
 | _ =>
   obtain ⟨ev,h1,h2⟩:=hv.es
   refine (Tryz.strconv_Atoi_syntax (strL s) (by omega) h ev w h1 h2).mono ?_
   rintro e w' ⟨N,rfl, -, -,hb⟩
   exact ⟨⟨0,_,rfl,_,_,rfl⟩,hb⟩
def sgnD (s:List UInt8):List UInt8:=Lib.trimPrefix s [45]
def numOk (s:List UInt8) (most:Nat):Bool:=!(sgnD s).isEmpty && decide ((sgnD s).length≤most) && ((sgnD s).head? != some 48 || s == [48]) && (sgnD s).all isDg
def numV (s:List UInt8):Int:=if s.head?=some 45 then -(decV (sgnD s):Int) else (decV (sgnD s):Int)
theorem sgnD_neg (r:List UInt8):sgnD (45 :: r)=r:=by simp [sgnD,Lib.trimPrefix,Lib.hasPrefix,List.isPrefixOf]
theorem sgnD_pos {s:List UInt8} (h:s.head? ≠ some 45):sgnD s=s:=by
 unfold sgnD Lib.trimPrefix Lib.hasPrefix
 cases s with
 | nil => rfl
 | cons b l =>
   rw [if_neg]
   simp [List.isPrefixOf]
   intro e
   exact h (by rw [← e];rfl)
theorem sgnD_len (s:List UInt8):s.length≤(sgnD s).length + 1:=by
 by_cases h:s.head?=some 45
 ·cases s with
  | nil => simp
  | cons b r =>
    have:b=45:=by simpa using h
    subst this
    rw [sgnD_neg];simp
 ·rw [sgnD_pos h];omega
theorem numOk_atoi {s:List UInt8} {most:Nat} (h:numOk s most=true):Lib.atoi s=some (numV s):=by
 unfold numOk at h
 rw [Bool.and_eq_true,Bool.and_eq_true,Bool.and_eq_true] at h
 obtain ⟨⟨⟨h1,h2⟩,h3⟩,h4⟩:=h
 by_cases hh:s.head?=some 45
 ·cases s with
  | nil => simp at hh
  | cons b r =>
    have:b=45:=by simpa using hh
    subst this
    unfold numV
    rw [if_pos hh]
    rw [sgnD_neg] at *
    show Option.map (fun (m:Nat) => -(m:Int)) (Lib.decNat r)=_
    unfold Lib.decNat
    rw [if_neg (by simpa using h1),decFrom_all _ _ h4]
    rfl
 ·unfold numV
  rw [if_neg hh]
  rw [sgnD_pos hh] at *
  refine atoi_num ?_
  unfold numL
  rw [h1,h4,Bool.true_and,Bool.true_and]
  exact h3
theorem numL_ne45 {s:List UInt8} (h:numL s=true):s.head? ≠ some 45:=fun e => by
 unfold numL at h
 rw [Bool.and_eq_true,Bool.and_eq_true] at h
 cases s with
 | nil => simp at e
 | cons b r =>
   have:b=45:=by simpa using e
   subst this
   have:=h.1.2
   rw [List.all_cons,Bool.and_eq_true] at this
   have h2:=this.1
   unfold isDg at h2
   simp at h2
def d255 (s:List UInt8):Option Nat:=if numL s=true∧decV s≤255 then some (decV s) else none
theorem numOk_255 (s:List UInt8):(numOk s 3 && decide (0≤numV s) && decide (numV s≤255))=(d255 s).isSome∧(∀ n,d255 s=some n→numV s=(n:Int)):=by
 by_cases hh:s.head?=some 45
 ·have hn:¬ numL s=true:=fun h => numL_ne45 h hh
  have hd:d255 s=none:=if_neg fun h => hn h.1
  rw [hd]
  refine ⟨?_,fun n h => by cases h⟩
  by_cases ho:numOk s 3=true
  ·rw [ho,Bool.true_and]
   have hneg:¬ 0≤numV s:=fun h0 => by
    unfold numOk at ho
    rw [Bool.and_eq_true,Bool.and_eq_true,Bool.and_eq_true] at ho
    obtain ⟨⟨⟨h1,h2⟩,h3⟩,h4⟩:=ho
    cases s with
    | nil => simp at hh
    | cons b r =>
      have:b=45:=by simpa using hh
      subst this
      unfold numV at h0
      rw [if_pos hh] at h0
      rw [sgnD_neg] at *
      cases r with
      | nil => simp at h1
      | cons c r =>
        rw [List.all_cons,Bool.and_eq_true] at h4
        have hc:c ≠ 48:=by simpa using h3
        have:=decV_lead (d:=r) h4.1 hc
        have:=Nat.pow_pos (n:=r.length) (show 0 < 10 by decide)
        omega
   rw [decide_eq_false hneg];rfl
  ·rw [eq_false_of_ne_true ho];rfl
 ·have hs:=sgnD_pos hh
  have hv:numV s=(decV s:Int):=by unfold numV;rw [if_neg hh,hs]
  rw [hv]
  have ho:numOk s 3=(numL s && decide (s.length≤3)):=by
   unfold numOk numL
   rw [hs]
   cases s.isEmpty <;> cases (decide (s.length≤3)) <;> cases (s.head? != some 48 || s == [48]) <;> cases (s.all isDg) <;> rfl
  rw [ho]
  unfold d255
  by_cases hn:numL s=true
  ·by_cases h2:decV s≤255
   ·rw [if_pos ⟨hn,h2⟩]
    have h3:s.length≤3:=by
     have:=congrArg List.length (numL_dec hn)
     rw [Lib.decDigits_length] at this
     have:=nDigits_lt (x:=decV s) (n:=3) (by decide) (by omega)
     omega
    refine ⟨?_,fun n h => by injection h with h;rw [h]⟩
    rw [hn,decide_eq_true h3,decide_eq_true (by omega:(0:Int)≤(decV s:Int)),decide_eq_true (by omega:(decV s:Int)≤255)]
    rfl
   ·rw [if_neg fun h => h2 h.2]
    refine ⟨?_,fun n h => by cases h⟩
    rw [decide_eq_false (by omega:¬ (decV s:Int)≤255),Bool.and_false];rfl
  ·rw [if_neg fun h => hn h.1,eq_false_of_ne_true hn]
   exact ⟨rfl,fun n h => by cases h⟩
theorem parseUint_all:∀ (l:List UInt8) (acc:Nat),l.all isDg=true→l.foldl (fun a b => a * 10 + (b.toNat - 48)) acc < 1000000000000000000→Lib.parseUint10 acc l=.ok (l.foldl (fun a b => a * 10 + (b.toNat - 48)) acc)
 | [],acc,_,_ => rfl
 | b :: l,acc,h,hb => by
   have key:∀ (d:List UInt8) (acc:Nat),acc≤d.foldl (fun a b => a * 10 + (b.toNat - 48)) acc:=by
    intro d
    induction d with
    | nil => intro acc;exact Nat.le_refl _
    | cons x d ih =>
      intro acc
      rw [List.foldl_cons]
      have:=ih (acc * 10 + (x.toNat - 48))
      omega
   rw [List.all_cons,Bool.and_eq_true] at h
   have hd:=h.1
   unfold isDg at hd
   have hd:48≤b.toNat∧b.toNat≤57:=by simpa using hd
   rw [List.foldl_cons] at hb ⊢
   have:=key l (acc * 10 + (b.toNat - 48))
   unfold Lib.parseUint10
   rw [if_pos hd,if_neg (by omega),if_neg (by omega)]
   exact parseUint_all l _ h.2 hb
theorem atoiAll_num {s:List UInt8} (h:numL s=true) (hs:decV s < 1000000000000000000):Lib.atoiAll s=.ok (decV s:Int):=by
 have h45:=numL_ne45 h
 have hh:=h
 unfold numL at h
 rw [Bool.and_eq_true,Bool.and_eq_true] at h
 obtain ⟨⟨h1,h2⟩,h3⟩:=h
 cases s with
 | nil => simp at h1
 | cons b r =>
   have hb:isDg b=true:=by rw [List.all_cons,Bool.and_eq_true] at h2;exact h2.1
   unfold isDg at hb
   have hb:48≤b.toNat∧b.toNat≤57:=by simpa using hb
   have hp:=parseUint_all (b :: r) 0 h2 hs
   unfold Lib.atoiAll
   simp only
   rw [if_neg (by omega:¬ (b.toNat=43 ∨ b.toNat=45))]
   unfold Lib.parseMag
   rw [if_neg (by simp),hp]
   show (if _ then _ else if _ then _ else _)=_
   have hs':(b :: r).foldl (fun a b => a * 10 + (b.toNat - 48)) 0 < 1000000000000000000:=hs
   rw [if_neg (by omega),if_neg (by omega),if_neg (by omega)]
   rfl
theorem atoi_255 (s:List UInt8):(∀ n,d255 s=some n→Lib.atoiAll s=.ok (n:Int)∧Lib.decDigits n=s∧n≤255)∧(d255 s=none→∀ v,Lib.atoiAll s=.ok v→0≤v→v≤255→Lib.decDigits v.toNat ≠ s):=by
 unfold d255
 refine ⟨fun n h => ?_,fun h v hv h0 h1 e => ?_⟩
 ·by_cases hc:numL s=true∧decV s≤255
  ·rw [if_pos hc] at h
   injection h with h
   subst h
   exact ⟨atoiAll_num hc.1 (by omega),numL_dec hc.1,hc.2⟩
  ·rw [if_neg hc] at h;cases h
 ·by_cases hc:numL s=true∧decV s≤255
  ·rw [if_pos hc] at h;cases h
  ·refine hc ⟨by rw [← e];exact dec_numL _,?_⟩
   rw [← e,dec_decV];omega
theorem strL_list (L:List UInt8):(strL L).toList=L:=by rw [ByteArray.toList_eq];rfl
theorem number_any (s:List UInt8) (most:Nat) (w:World) (hs:s.length≤1000000) (hm:most≤17) :
  Calls Tryz.prog 164 #[.string (strL s), .int .i64 (most:Int)] w (Ret (.tuple #[.int .i64 (if numOk s most=true then numV s else 0), .bool (numOk s most)]) w):=by
 have HT:=Lib.hid fun wx => trimPrefix_any s [45] wx
 have HL:=Lib.hid (sgnD_len s)
 have HAt:=Lib.hid (@numOk_atoi s most)
 have hdl:(sgnD s).length≤s.length:=by
  by_cases h:s.head?=some 45
  ·cases s with
   | nil => simp at h
   | cons b r =>
     have:b=45:=by simpa using h
     subst this
     rw [sgnD_neg];simp
  ·rw [sgnD_pos h];omega
 have HO:Hid (numOk s most=(!(sgnD s).isEmpty && decide ((sgnD s).length≤most) && ((sgnD s).head? != some 48 || s == [48]) && (sgnD s).all isDg)):=Lib.hid rfl
 obtain ⟨D,hD⟩:∃ q,sgnD s=q:=⟨_,rfl⟩
 have hD':Lib.trimPrefix s [45]=D:=hD
 rw [hD] at HL HO hdl
 simp only [hD'] at HT
 clear hD hD'
 generalize numV s=V at *
 generalize numOk s most=OK at *
 obtain ⟨RV,hRV⟩:∃ q,(if OK=true then V else 0)=q:=⟨_,rfl⟩
 have HR1:Hid (OK=true→RV=V):=Lib.hid fun h => by rw [← hRV,if_pos h]
 have HR0:Hid (OK=false→RV=0):=Lib.hid fun h => by rw [← hRV,if_neg (by simp [h])]
 rw [hRV]
 clear hRV
 have HC:Hid (∀ wx,Lib.atoi s=some V→s.length≤18→Calls Tryz.prog 169 #[.string (strL s)] wx (Ret (.tuple #[.int .i64 V, .nilIface]) wx)):=Lib.hid fun wx h1 h2 => by
  refine (Tryz.strconv_Atoi (strL s) V (by rw [strL_size];exact h2) h1 wx).mono ?_
  rintro e w' ⟨rfl,t,rfl⟩
  exact ⟨rfl,Lib.bytesWorld_below wx _ _⟩
 have hse:=strL_list s
 have hde:=strL_list D
 have hsz:(strL D).size=D.length:=strL_size D
 have HIx:Hid (∀ (i:Nat) (x:UInt8),D[i]?=some x→∀ h:i < (strL D).size,(((strL D)[i]'h).toNat:Int)=((x.toNat:Nat):Int)):=Lib.hid fun i x hx h => by rw [strL_get D i x hx h]
 obtain ⟨SS,hSS⟩:∃ q,strL s=q:=⟨_,rfl⟩
 obtain ⟨DD,hDD⟩:∃ q,strL D=q:=⟨_,rfl⟩
 have HS:=Lib.hid hSS
 rw [hSS] at HT HC hse ⊢
 simp only [hDD] at HT
 rw [hDD] at hde hsz HIx
 have e45:strL [45]=⟨#[45]⟩:=rfl
 rw [e45] at HT
 clear hSS hDD e45
 go_enter Tryz.func164,Tryz.ntmps164
 go_wp2_with fail
 refine (HT.out _).mono ?_
 rintro e w1 ⟨rfl,hb⟩
 have HB1:=Lib.hid hb
 clear hb HT
 obtain ⟨PRE,hPRE⟩:∃ q,(D.isEmpty || decide (most < D.length) || (D.head? == some 48 && !(s == [48])))=q:=⟨_,rfl⟩
 have HPRE:=Lib.hid hPRE
 clear hPRE
 go_upto_region 2 with fail
 go_cut [28] (fun v wx => v=.bool PRE∧Below w.heap.size w wx)
 case first =>
  rcases D with _ | ⟨x,D'⟩
  ·have hP:PRE=true:=by rw [← HPRE.out];rfl
   subst hP
   clear HL HAt HO
   go_wp2_with fail
   go_meet
   case rel => exact ⟨rfl,HB1.out⟩
  ·have hix:=HIx.out 0 x rfl
   have hl0:0 < (x :: D').length:=by simp
   have hemp:(x :: D').isEmpty=false:=rfl
   have hP:PRE=(decide (most < (x :: D').length) || ((x == 48) && !(s == [48]))):=by rw [← HPRE.out];simp
   have hne:¬ (x :: D'=[]):=by simp
   clear HL HAt HO HPRE
   generalize x :: D'=DL at *
   by_cases hx:x=48
   ·subst hx
    have hix2:∀ h:0 < DD.size,((DD[0]'h).toNat:Int)=48:=hix
    have hP2:PRE=(decide (most < DL.length) || !(s == [48])):=by rw [hP];simp
    clear hix hP
    go_wp2_with fail
    all_goals (go_meet)
    all_goals (case rel => exact ⟨by rw [hP2] <;> simp_all,HB1.out⟩)
   ·have hix2:∀ h:0 < DD.size,((DD[0]'h).toNat:Int)=((x.toNat:Nat):Int):=hix
    have hx48:¬ ((x.toNat:Int)=48):=fun e => hx (UInt8.toNat.inj (by have:(48:UInt8).toNat=48:=rfl;omega))
    have hP2:PRE=decide (most < DL.length):=by rw [hP,show (x == 48)=false from beq_eq_false_iff_ne.2 hx];simp
    clear hix hP
    go_wp2_with fail
    all_goals (go_meet)
    all_goals (case rel => exact ⟨by rw [hP2] <;> simp_all,HB1.out⟩)
 case rest =>
  clear HB1
  obtain ⟨rfl,hb⟩:=hcut
  have HB1:=Lib.hid hb
  clear hb
  cases PRE
  ·have HQ:Hid (D.isEmpty=false∧D.length≤most∧(D.head? != some 48 || s == [48])=true):=Lib.hid (by
    have:=HPRE.out
    rw [Bool.or_eq_false_iff,Bool.or_eq_false_iff] at this
    obtain ⟨⟨h1,h2⟩,h3⟩:=this
    refine ⟨h1,by simpa using h2,?_⟩
    rw [Bool.and_eq_false_iff] at h3
    rcases h3 with h3 | h3
    ·have:(D.head? != some 48)=true:=by rw [bne,h3];rfl
     rw [this];rfl
    ·have:(s == [48])=true:=by simpa using h3
     rw [this,Bool.or_true])
   clear HPRE
   have HOk:Hid (D.all isDg=true→OK=true):=Lib.hid fun h => by
    obtain ⟨h1,h2,h3⟩:=HQ.out
    rw [HO.out,h1,decide_eq_true h2,h3,h];rfl
   have HNo:Hid (D.all isDg=false→OK=false):=Lib.hid fun h => by
    rw [HO.out,h,Bool.and_false]
   have hl18:s.length≤18:=by have:=HL.out;have:=HQ.out.2.1;omega
   clear HO HQ HL
   go_wp2_with fail
   go_loop [7] (fun v => ∃ i:Nat,i≤D.length∧v=.int .i64 (i:Int)∧Hid ((D.take i).all isDg=true)) (fun v => D.length - (intOf v).toNat)
   case atStart => exact ⟨0,Nat.zero_le _,rfl,Lib.hid rfl⟩
   case round =>
    obtain ⟨i,hi,rfl,HA⟩:=hrel
    by_cases hlt:i < D.length
    ·obtain ⟨x,hx⟩:∃ x,D[i]?=some x:=⟨_,List.getElem?_eq_getElem hlt⟩
     have hix:=HIx.out i x hx
     have Hx:=Lib.hid hx
     clear hx
     by_cases h1:isDg x=true
     ·have h2:48≤x.toNat∧x.toNat≤57:=by unfold isDg at h1;simpa using h1
      have h3:=h2.1
      have h4:=h2.2
      have HA2:Hid ((D.take (i + 1)).all isDg=true):=Lib.hid (by
       obtain ⟨hk,hxe⟩:=List.getElem?_eq_some_iff.1 Hx.out
       rw [List.take_succ_eq_append_getElem hk,List.all_append,HA.out,hxe]
       simp [h1])
      clear h1 h2
      go_wp2_with fail
      all_goals first
       | exact ⟨⟨i + 1,by omega,by go_num,HA2⟩,by simp [intOf];omega⟩
       | (exfalso;omega)
     ·have h2:x.toNat < 48 ∨ 57 < x.toNat:=by
       unfold isDg at h1
       have:¬ (48≤x.toNat∧x.toNat≤57):=by simpa using h1
       omega
      have hN:=HNo.out (by
       rw [← Bool.not_eq_true]
       intro ha
       have:=List.all_eq_true.1 ha x (List.mem_of_getElem? Hx.out)
       exact h1 this)
      have hR:=HR0.out hN
      subst hN
      subst hR
      clear h1 HR0 HR1
      rcases h2 with h2 | h2
      ·go_wp2_with fail
       all_goals first
        | (go_ret2;exact ⟨rfl,HB1.out⟩)
        | (exfalso;omega)
      ·have h5:¬ x.toNat < 48:=by omega
       go_wp2_with fail
       all_goals first
        | (go_ret2;exact ⟨rfl,HB1.out⟩)
        | (exfalso;omega)
    ·obtain rfl:i=D.length:=by omega
     have hall:D.all isDg=true:=by have:=HA.out;rwa [List.take_of_length_le (Nat.le_refl _)] at this
     have hO:=HOk.out hall
     have hR:=HR1.out hO
     subst hO
     subst hR
     clear HR0 HR1
     have HCx:=Lib.hid fun wx => HC.out wx (HAt.out rfl) hl18
     clear HC HAt HNo HOk HA
     go_wp2_with fail
     refine (HCx.out _).mono ?_
     rintro e w2 ⟨rfl,hb⟩
     have HB2:=Lib.hid (HB1.out.trans (hb.mono HB1.out.size))
     clear hb HB1 HCx
     go_upto_region 10 with fail
     refine wp_region_later (by kernel_rfl) (by kernel_rfl) ?_
     repeat (go_big_quiet_step (fail))
     refine wpQuiet_nil ?_
     rintro w3 ⟨m3,hm3⟩
     have hb3:Below w2.heap.size w2 w3:=by rw [hm3];exact m3.2
     have HB3:=Lib.hid (HB2.out.trans (hb3.mono HB2.out.size))
     clear hm3 m3 hb3 HB2
     go_wp2_with fail
     go_ret2
     exact ⟨rfl,HB3.out⟩
  ·have hN:OK=false:=by
    rw [HO.out]
    have:=HPRE.out
    rw [Bool.or_eq_true,Bool.or_eq_true] at this
    rcases this with (h | h) | h
    ·rw [h];rfl
    ·have:¬ D.length≤most:=by have:=of_decide_eq_true h;omega
     rw [decide_eq_false this,Bool.and_false];rfl
    ·rw [Bool.and_eq_true] at h
     have h1:(D.head? != some 48)=false:=by rw [bne,h.1];rfl
     have h2:(s == [48])=false:=by simpa using h.2
     rw [h1,h2,Bool.or_false,Bool.and_false];rfl
   have hR:=HR0.out hN
   subst hN
   subst hR
   clear HO HPRE HAt HR0 HR1
   go_wp2_with fail
   go_ret2
   exact ⟨rfl,HB1.out⟩
def fouL:List (List UInt8)→Nat→Option Nat
 | [],acc => some acc
 | x :: xs,acc => match d255 x with
  | some n => fouL xs (acc * 256 + n)
  | none => none
def fourF (s:List UInt8):Option Nat:=if (spl 46 s).length=4 then fouL (spl 46 s) 0 else none
theorem d255_le {x:List UInt8} {n:Nat} (h:d255 x=some n):n≤255:=by
 unfold d255 at h
 by_cases hc:numL x=true∧decV x≤255
 ·rw [if_pos hc] at h
  injection h with h
  omega
 ·rw [if_neg hc] at h;cases h
theorem fouL_step {L:List (List UInt8)} {k acc:Nat} {x:List UInt8} (h:L[k]?=some x):fouL (L.drop k) acc=match d255 x with
  | some n => fouL (L.drop (k + 1)) (acc * 256 + n)
  | none => none:=by
 obtain ⟨hk,rfl⟩:=List.getElem?_eq_some_iff.1 h
 rw [List.drop_eq_getElem_cons hk]
 rfl
theorem shl_or (a n:Nat) (ha:a < 16777216) (hn:n≤255):(a * 256 ||| n)=a * 256 + n:=by
 have:=Nat.shiftLeft_add_eq_or_of_lt (b:=n) (i:=8) (by omega) a
 rw [Nat.shiftLeft_eq] at this
 exact this.symm
theorem aFour_any (s:List UInt8) (w:World) (hv:Vr w) (hs:s.length≤1000000) :
  Calls Tryz.prog 267 #[.string (strL s)] w (Ret (.tuple #[.int .u64 ((fourF s).getD 0:Nat), .bool (fourF s).isSome]) w):=by
 have HSp:=Lib.hid (split_any s 46 w hv hs)
 have HNm:=Lib.hid fun (x:List UInt8) wx (h:x ∈ spl 46 s) => number_any x 3 wx (Nat.le_trans (spl_mem 46 s x h).2.2 hs) (by omega)
 have HF:Hid (fourF s=if (spl 46 s).length=4 then fouL (spl 46 s) 0 else none):=Lib.hid rfl
 obtain ⟨R,hR⟩:∃ q,fourF s=q:=⟨_,rfl⟩
 rw [hR] at HF ⊢
 obtain ⟨RN,hRN⟩:∃ q:Nat,R.getD 0=q:=⟨_,rfl⟩
 obtain ⟨RBx,hRB⟩:∃ q,R.isSome=q:=⟨_,rfl⟩
 have HRN:=Lib.hid hRN
 have HRB:=Lib.hid hRB
 rw [hRN,hRB]
 clear hR hRN hRB hv
 generalize spl 46 s=L at *
 obtain ⟨n,hn⟩:∃ q,L.length=q:=⟨_,rfl⟩
 have Hn:=Lib.hid hn
 rw [hn] at HSp HF
 clear hn
 go_enter Tryz.func267,Tryz.ntmps267
 go_wp2_with fail
 refine HSp.out.mono ?_
 rintro e w1 ⟨g,rfl,hr,hb⟩
 have HR1:=Lib.hid hr
 have HB1:=Lib.hid hb
 clear hr hb HSp
 by_cases h4:n=4
 ·subst h4
  have hF:=HF.out
  rw [if_pos rfl] at hF
  have HF2:=Lib.hid hF.symm
  clear hF HF
  go_wp2_with fail
  go_loopw [5,17] (fun u i wr => ∃ k acc:Nat,k≤4∧acc < 256 ^ k∧i=.int .i64 (k:Int)∧u=.int .u64 (acc:Int)∧Hid (fouL (L.drop k) acc=R)∧Hid (Below w.heap.size w wr)∧Hid (RdS wr g L)) (fun _ i _ => 4 - (intOf i).toNat)
  case atStart => exact ⟨0,0,by omega,by decide,rfl,rfl,HF2,HB1,HR1⟩
  case round =>
   clear HR1 HB1 HF2
   obtain ⟨k,acc,hk,hacc,rfl,rfl,HA,HB,HR⟩:=hrel
   by_cases hlt:k < 4
   ·obtain ⟨x,hx⟩:∃ x,L[k]?=some x:=⟨_,List.getElem?_eq_getElem (by rw [Hn.out];exact hlt)⟩
    have HSt:=Lib.hid (fouL_step (acc:=acc) hx)
    have hc:=HR.out.2 k x hx
    have hgl:=HR.out.1
    have HNx:=Lib.hid (HNm.out x wr (List.mem_of_getElem? hx))
    have H255:=Lib.hid (numOk_255 x)
    have hle:=@d255_le x
    have hac:acc < 16777216:=Nat.lt_of_lt_of_le hacc (Nat.le_trans (Nat.pow_le_pow_right (by decide) (show k≤3 by omega)) (by decide))
    generalize numOk x 3=OK at *
    generalize numV x=V at *
    obtain ⟨NV,hNV⟩:∃ q,(if OK=true then V else 0)=q:=⟨_,rfl⟩
    have HNV:=Lib.hid hNV
    rw [hNV] at HNx
    clear hx hNV
    generalize d255 x=D at *
    go_wp2_with fail
    refine HNx.out.mono ?_
    rintro e w2 ⟨rfl,hb⟩
    have HB2:=Lib.hid (HB.out.trans (hb.mono HB.out.size))
    have HR2:=Lib.hid (HR.out.below hb)
    clear hb HB HR HNx hc hgl
    cases D with
    | none =>
      have hN:R=none:=by rw [← HA.out,HSt.out]
      subst hN
      have hq:=H255.out.1
      have e1:=HRN.out
      have e2:=HRB.out
      simp at e1 e2
      subst e1 e2
      have hcase:OK=false ∨ (OK=true∧NV < 0) ∨ (OK=true∧¬ NV < 0∧255 < NV):=by
       cases OK
       ·exact .inl rfl
       ·right
        have hnv:V=NV:=by have:=HNV.out;rwa [if_pos rfl] at this
        subst hnv
        simp at hq
        rcases (show V < 0 ∨ 0≤V by omega) with h0 | h0
        ·exact .inl ⟨rfl,h0⟩
        ·exact .inr ⟨rfl,by omega,hq h0⟩
      clear HSt HA H255 HNV hle hq
      rcases hcase with hc | ⟨hc,h1⟩ | ⟨hc,h1,h2⟩
      ·subst hc
       go_wp2_with fail
       go_ret2
       exact ⟨rfl,HB2.out⟩
      ·subst hc
       go_wp2_with fail
       go_ret2
       exact ⟨rfl,HB2.out⟩
      ·subst hc
       go_wp2_with fail
       go_ret2
       exact ⟨rfl,HB2.out⟩
    | some m =>
      have hq:=H255.out.1
      have hm:=H255.out.2 m rfl
      have hok:OK=true:=by cases OK <;> simp at hq ⊢
      subst hok
      have hnv:V=NV:=by have:=HNV.out;rwa [if_pos rfl] at this
      subst hnv
      subst hm
      have hm255:=hle rfl
      have HA2:Hid (fouL (L.drop (k + 1)) (acc * 256 + m)=R):=Lib.hid (by rw [← HA.out,HSt.out])
      have hac2:acc * 256 + m < 256 ^ (k + 1):=by
       rw [Nat.pow_succ]
       generalize 256 ^ k=P at *
       omega
      have hso:bits .or .u64 ((acc:Int) * 256) (m:Int)=((acc * 256 + m:Nat):Int):=by
       rw [show ((acc:Int) * 256)=((acc * 256:Nat):Int) by omega,bits_or_u64_nat _ _ (by omega) (by omega),shl_or acc m hac hm255]
      have g1:¬ ((m:Int) < 0):=by omega
      have g2:¬ ((255:Int) < (m:Int)):=by omega
      clear HSt HA H255 HNV hle hq
      go_wp2_with fail
      exact ⟨⟨k + 1,acc * 256 + m,by omega,hac2,by go_num,by go_num,HA2,HB2,HR2⟩,by simp [intOf];omega⟩
   ·obtain rfl:k=4:=by omega
    have hR:R=some acc:=by
     rw [← HA.out,List.drop_of_length_le (by rw [Hn.out];exact Nat.le_refl _)]
     rfl
    subst hR
    have e1:=HRN.out
    have e2:=HRB.out
    simp at e1 e2
    subst e1 e2
    go_wp2_with fail
    go_ret2
    exact ⟨rfl,HB.out⟩
 ·have hF:=HF.out
  rw [if_neg h4] at hF
  subst hF
  have e1:=HRN.out
  have e2:=HRB.out
  simp at e1 e2
  subst e1 e2
  have h4':¬ ((n:Int)=4):=by omega
  have h4b:((n:Int) == 4)=false:=beq_eq_false_iff_ne.2 h4'
  clear HF
  go_wp2_with fail
  go_ret2
  exact ⟨rfl,HB1.out⟩
theorem qFour_any (s:List UInt8) (w:World) (hv:Vr w) (hs:s.length≤1000000) :
  Calls Tryz.prog 220 #[.string (strL s)] w (Ret (.tuple #[.int .u64 ((fourF s).getD 0:Nat), .bool (fourF s).isSome]) w):=by
 have HSp:=Lib.hid (split_any s 46 w hv hs)
 have HNm:=Lib.hid fun (x:List UInt8) wx (h:x ∈ spl 46 s) (hv:Vr wx) => atoi_any x wx hv (Nat.le_trans (spl_mem 46 s x h).2.2 hs)
 have HV0:=Lib.hid hv
 have HF:Hid (fourF s=if (spl 46 s).length=4 then fouL (spl 46 s) 0 else none):=Lib.hid rfl
 obtain ⟨R,hR⟩:∃ q,fourF s=q:=⟨_,rfl⟩
 rw [hR] at HF ⊢
 obtain ⟨RN,hRN⟩:∃ q:Nat,R.getD 0=q:=⟨_,rfl⟩
 obtain ⟨RBx,hRB⟩:∃ q,R.isSome=q:=⟨_,rfl⟩
 have HRN:=Lib.hid hRN
 have HRB:=Lib.hid hRB
 rw [hRN,hRB]
 clear hR hRN hRB hv
 generalize spl 46 s=L at *
 obtain ⟨n,hn⟩:∃ q,L.length=q:=⟨_,rfl⟩
 have Hn:=Lib.hid hn
 rw [hn] at HSp HF
 clear hn
 go_enter Tryz.func220,Tryz.ntmps220
 go_wp2_with fail
 refine HSp.out.mono ?_
 rintro e w1 ⟨g,rfl,hr,hb⟩
 have HR1:=Lib.hid hr
 have HB1:=Lib.hid hb
 have HV1:=Lib.hid (HV0.out.below hb)
 clear hr hb HSp HV0
 by_cases h4:n=4
 ·subst h4
  have hF:=HF.out
  rw [if_pos rfl] at hF
  have HF2:=Lib.hid hF.symm
  clear hF HF
  go_wp2_with fail
  go_loopw [5,17] (fun u i wr => ∃ k acc:Nat,k≤4∧acc < 256 ^ k∧i=.int .i64 (k:Int)∧u=.int .u64 (acc:Int)∧Hid (fouL (L.drop k) acc=R)∧Hid (Below w.heap.size w wr)∧Hid (RdS wr g L)∧Hid (Vr wr)) (fun _ i _ => 4 - (intOf i).toNat)
  case atStart => exact ⟨0,0,by omega,by decide,rfl,rfl,HF2,HB1,HR1,HV1⟩
  case round =>
   clear HR1 HB1 HF2 HV1
   obtain ⟨k,acc,hk,hacc,rfl,rfl,HA,HB,HR,HV⟩:=hrel
   by_cases hlt:k < 4
   ·obtain ⟨x,hx⟩:∃ x,L[k]?=some x:=⟨_,List.getElem?_eq_getElem (by rw [Hn.out];exact hlt)⟩
    have HSt:=Lib.hid (fouL_step (acc:=acc) hx)
    have hc:=HR.out.2 k x hx
    have hgl:=HR.out.1
    have HNx:=Lib.hid (HNm.out x wr (List.mem_of_getElem? hx) HV.out)
    have HSm:Hid ((∀ n,d255 x=some n→Lib.atoiAll x=.ok (n:Int)∧Lib.decDigits n=x∧n≤255)∧(d255 x=none→∀ v,Lib.atoiAll x=.ok v→0≤v→v≤255→Lib.decDigits v.toNat ≠ x)):=Lib.hid (atoi_255 x)
    have hac:acc < 16777216:=Nat.lt_of_lt_of_le hacc (Nat.le_trans (Nat.pow_le_pow_right (by decide) (show k≤3 by omega)) (by decide))
    have hxl:=strL_list x
    clear hx
    generalize d255 x=D at *
    obtain ⟨SX,hSX⟩:∃ q,strL x=q:=⟨_,rfl⟩
    have HSX:=Lib.hid hSX
    rw [hSX] at hc HNx hxl
    clear hSX
    go_wp2_with fail
    refine HNx.out.mono ?_
    rintro e w2 ⟨⟨v,ev,rfl,hcs⟩,hb⟩
    have HB2:=Lib.hid (HB.out.trans (hb.mono HB.out.size))
    have HR2:=Lib.hid (HR.out.below hb)
    have HV2:=Lib.hid (HV.out.below hb)
    have HCs:=Lib.hid hcs
    clear hb HB HR HNx hc hgl HV hcs
    cases D with
    | none =>
      have hN:R=none:=by rw [← HA.out,HSt.out]
      subst hN
      have hq:=HSm.out.2 rfl
      have e1:=HRN.out
      have e2:=HRB.out
      simp at e1 e2
      subst e1 e2
      cases hA:Lib.atoiAll x with
      | ok u =>
        have hcs:=HCs.out
        rw [hA] at hcs
        obtain ⟨rfl,rfl⟩:=hcs
        have hq2:=hq v hA
        clear HSt HA HSm HCs hq hA
        go_wp2_with fail
        refine (in_any _ _ _ _).mono ?_
        rintro e w3 ⟨rfl,rfl⟩
        by_cases h0:0≤v∧v≤255
        ·obtain ⟨u,rfl⟩:=Int.eq_ofNat_of_zero_le h0.1
         have hib:inB (u:Int) 0 255=true:=by unfold inB;simp;omega
         have hne:=hq2 h0.1 h0.2
         have HIt:=Lib.hid (itoa_any u (by omega) w2 HV2.out.tb.1)
         have hnl:(strL (Lib.decDigits u)).toList=Lib.decDigits u:=strL_list _
         have e3:(⟨(Lib.decDigits u).toArray⟩:ByteArray)=strL (Lib.decDigits u):=rfl
         rw [e3] at HIt
         have hcmp:((strL (Lib.decDigits u)).toList == x)=false:=by rw [hnl];exact beq_eq_false_iff_ne.2 hne
         rw [hib]
         generalize strL (Lib.decDigits u)=SI at *
         clear hnl hq2 hne e3 hib
         go_wp2_with fail
         refine HIt.out.mono ?_
         rintro e w3 ⟨rfl,hb⟩
         have HB3:=Lib.hid (HB2.out.trans (hb.mono HB2.out.size))
         clear hb HB2
         go_wp2_with fail
         go_ret2
         exact ⟨rfl,HB3.out⟩
        ·have hib:inB v 0 255=false:=by unfold inB;simp;omega
         rw [hib]
         go_wp2_with fail
         go_ret2
         exact ⟨rfl,HB2.out⟩
      | range =>
        have hcs:=HCs.out
        rw [hA] at hcs
        obtain ⟨t,p,rfl⟩:=hcs
        clear HSt HA HSm HCs hq hA
        go_wp2_with fail
        go_ret2
        exact ⟨rfl,HB2.out⟩
      | _ =>
        have hcs:=HCs.out
        rw [hA] at hcs
        obtain ⟨t,p,rfl⟩:=hcs
        clear HSt HA HSm HCs hq hA
        go_wp2_with fail
        go_ret2
        exact ⟨rfl,HB2.out⟩
    | some m =>
      obtain ⟨hA,hdx,hm255⟩:=HSm.out.1 m rfl
      have hcs:=HCs.out
      rw [hA] at hcs
      obtain ⟨rfl,rfl⟩:=hcs
      have HA2:Hid (fouL (L.drop (k + 1)) (acc * 256 + m)=R):=Lib.hid (by rw [← HA.out,HSt.out])
      have hac2:acc * 256 + m < 256 ^ (k + 1):=by
       rw [Nat.pow_succ]
       generalize 256 ^ k=P at *
       omega
      have HIt:=Lib.hid (itoa_any m (by omega) w2 HV2.out.tb.1)
      have e3:(⟨(Lib.decDigits m).toArray⟩:ByteArray)=SX:=by rw [hdx];exact HSX.out
      rw [e3] at HIt
      have hib:inB (m:Int) 0 255=true:=by unfold inB;simp;omega
      clear HSt HA HSm HCs hA hdx e3
      go_wp2_with fail
      refine (in_any _ _ _ _).mono ?_
      rintro e w3 ⟨rfl,rfl⟩
      rw [hib]
      go_wp2_with fail
      refine HIt.out.mono ?_
      rintro e w3 ⟨rfl,hb⟩
      have HB3:=Lib.hid (HB2.out.trans (hb.mono HB2.out.size))
      have HR3:=Lib.hid (HR2.out.below hb)
      have HV3:=Lib.hid (HV2.out.below hb)
      clear hb HB2 HR2 HV2
      go_wp2_with fail
      exact ⟨⟨k + 1,acc * 256 + m,by omega,hac2,by go_num,by go_num,HA2,HB3,HR3,HV3⟩,by simp [intOf];omega⟩
   ·obtain rfl:k=4:=by omega
    have hR:R=some acc:=by
     rw [← HA.out,List.drop_of_length_le (by rw [Hn.out];exact Nat.le_refl _)]
     rfl
    subst hR
    have e1:=HRN.out
    have e2:=HRB.out
    simp at e1 e2
    subst e1 e2
    go_wp2_with fail
    go_ret2
    exact ⟨rfl,HB.out⟩
 ·have hF:=HF.out
  rw [if_neg h4] at hF
  subst hF
  have e1:=HRN.out
  have e2:=HRB.out
  simp at e1 e2
  subst e1 e2
  have h4':¬ ((n:Int)=4):=by omega
  have h4b:((n:Int) == 4)=false:=beq_eq_false_iff_ne.2 h4'
  clear HF
  go_wp2_with fail
  go_ret2
  exact ⟨rfl,HB1.out⟩
def isHx (b:UInt8):Bool:=decide ((48≤b.toNat∧b.toNat≤57) ∨ (97≤b.toNat∧b.toNat≤102) ∨ (65≤b.toNat∧b.toNat≤70))
def hxD (b:UInt8):Nat:=if b.toNat≤57 then b.toNat - 48 else if b.toNat≤70 then b.toNat - 55 else b.toNat - 87
def hxV (x:List UInt8):Nat:=x.foldl (fun a b => a * 16 + hxD b) 0
theorem hxD_lt {b:UInt8} (h:isHx b=true):hxD b < 16:=by
 unfold isHx at h
 have h:(48≤b.toNat∧b.toNat≤57) ∨ (97≤b.toNat∧b.toNat≤102) ∨ (65≤b.toNat∧b.toNat≤70):=by simpa using h
 unfold hxD
 split
 ·omega
 ·split <;> omega
theorem hxF_lt:∀ (x:List UInt8) (acc k:Nat),x.all isHx=true→acc < 16 ^ k→x.foldl (fun a b => a * 16 + hxD b) acc < 16 ^ (k + x.length)
 | [],acc,k,_,h => h
 | b :: x,acc,k,hx,h => by
   rw [List.all_cons,Bool.and_eq_true] at hx
   rw [List.foldl_cons,List.length_cons,show k + (x.length + 1)=(k + 1) + x.length by omega]
   refine hxF_lt x _ (k + 1) hx.2 ?_
   have:=hxD_lt hx.1
   rw [Nat.pow_succ]
   omega
theorem hxV_lt {x:List UInt8} (h:x.all isHx=true) (hl:x.length≤4):hxV x < 65536:=by
 have:=hxF_lt x 0 0 h (by decide)
 rw [Nat.zero_add] at this
 exact Nat.lt_of_lt_of_le this (Nat.le_trans (Nat.pow_le_pow_right (by decide) hl) (by decide))
theorem low_letter {c:Nat} (h:(97≤c∧c≤102) ∨ (65≤c∧c≤70)):bits .or .u8 (c:Int) 32=((if c≤70 then c + 32 else c:Nat):Int):=by
 have:c=97 ∨ c=98 ∨ c=99 ∨ c=100 ∨ c=101 ∨ c=102 ∨ c=65 ∨ c=66 ∨ c=67 ∨ c=68 ∨ c=69 ∨ c=70:=by omega
 rcases this with rfl | rfl | rfl | rfl | rfl | rfl | rfl | rfl | rfl | rfl | rfl | rfl <;> rfl
theorem lower_any (c:Int) (w:World):Calls Tryz.prog 338 #[.int .u8 c] w fun e w' => e=.returned (.int .u8 (bits .or .u8 c 32))∧w=w':=by
 go_enter Tryz.func338,Tryz.ntmps338
 go_wp2
 all_goals (go_ret;exact ⟨rfl,rfl⟩)
theorem iPu16_any (x:List UInt8) (bs:Int) (w:World) (hbs:bs=64 ∨ bs=32) (hx:x.all isHx=true) (h1:1≤x.length) (h4:x.length≤4) :
  Calls Tryz.prog 302 #[.string (strL x), .int .i64 16, .int .i64 bs] w (Ret (.tuple #[.int .u64 (hxV x:Int), .nilIface]) w):=by
 have hcv:=Lib.run_convert_string_bytes (P:=Tryz.prog) w 9 127 5 (strL x) (u:=.string) Tryz.underlying9 Tryz.underlying127 Tryz.underlying5
 have hB:∀ j,j < x.length→(Lib.bytesWorld w 5 (strL x)).cell? ⟨w.heap.size,j,none⟩=some (.int .u8 (x.getD j 0).toNat):=fun j hj => Lib.bytesWorld_cell w 5 (strL x) j (by rw [strL_size];exact hj)
 have HBl:=Lib.hid (Lib.bytesWorld_below w 5 (strL x))
 obtain ⟨W1,hW1⟩:∃ W1,W1=Lib.bytesWorld w 5 (strL x):=⟨_,rfl⟩
 rw [← hW1] at hcv hB HBl
 have hsz:(strL x).size=x.length:=strL_size x
 have hls:(strL x).toList=x:=strL_list x
 have hemp:((strL x).toList == [])=false:=by
  rw [hls]
  cases x with
  | nil => simp at h1
  | cons a l => rfl
 have hne:¬ x=[]:=by
  cases x with
  | nil => simp at h1
  | cons a l => simp
 have hem2:x.isEmpty=false:=by
  cases x with
  | nil => simp at h1
  | cons a l => rfl
 have Hx:=Lib.hid hx
 have HV:Hid (hxV x=x.foldl (fun a b => a * 16 + hxD b) 0):=Lib.hid rfl
 generalize hxV x=V at *
 obtain ⟨SS,hSS⟩:∃ q,strL x=q:=⟨_,rfl⟩
 rw [hSS] at hcv hsz hls hemp ⊢
 clear hW1 hSS hx
 obtain ⟨n,hn⟩:∃ q,x.length=q:=⟨_,rfl⟩
 have Hn:=Lib.hid hn
 rw [hn] at hsz h1 h4 hB
 clear hn
 have hmv:IntKind.u64.wrap (IntKind.u64.wrap 18446744073709551616 - 1)=18446744073709551615:=by
  rw [IntKind.wrap_u64,IntKind.wrap_u64]
  decide
 go_enter Tryz.func302,Tryz.ntmps302
 rcases hbs with rfl | rfl
 all_goals
  go_wp2_with fail
  go_loop [12,13,101] (fun vu vn vi => ∃ (k acc:Nat) (a:Int),vu=.bool false∧vn=.int .u64 a∧vi=.int .i64 (k:Int)∧k≤n∧Hid (a=(acc:Int)∧acc < 16 ^ k∧V=(x.drop k).foldl (fun a b => a * 16 + hxD b) acc))
   (fun _ _ vi => n - (intOf vi).toNat)
  case atStart => exact ⟨0,0,0,rfl,rfl,rfl,by omega,Lib.hid ⟨rfl,by decide,HV.out⟩⟩
  case round =>
   obtain ⟨k,acc,a,rfl,rfl,rfl,hk,hh⟩:=hrel
   obtain ⟨ha,hacc,hdec⟩:=hh.out
   clear hh
   have a0:0≤a:=by omega
   by_cases hkn:k < n
   ·have a1:a < 4096:=by
     have:=Nat.lt_of_lt_of_le hacc (Nat.pow_le_pow_right (by decide) (show k≤3 by omega))
     omega
    have hc:=hB k hkn
    have hkl:k < x.length:=by rw [Hn.out];exact hkn
    have hdrop:x.drop k=x[k]'hkl :: x.drop (k + 1):=List.drop_eq_getElem_cons hkl
    have hget:x.getD k 0=x[k]'hkl:=by simp [List.getD,List.getElem?_eq_getElem hkl]
    have hxk:isHx (x[k]'hkl)=true:=List.all_eq_true.1 Hx.out _ (List.getElem_mem hkl)
    rw [hdrop,List.foldl_cons] at hdec
    rw [hget] at hc
    generalize x[k]'hkl=c at hc hdec hxk
    have hdl:=hxD_lt hxk
    unfold isHx at hxk
    have hxk:(48≤c.toNat∧c.toNat≤57) ∨ (97≤c.toNat∧c.toNat≤102) ∨ (65≤c.toNat∧c.toNat≤70):=by simpa using hxk
    have HN:Hid (a * 16 + (hxD c:Int)=((acc * 16 + hxD c:Nat):Int)∧acc * 16 + hxD c < 16 ^ (k + 1)∧V=(x.drop (k + 1)).foldl (fun a b => a * 16 + hxD b) (acc * 16 + hxD c)):=Lib.hid ⟨by omega,by
     rw [Nat.pow_succ]
     generalize 16 ^ k=P at *
     omega,hdec⟩
    clear hB hdrop hget hacc hdec ha
    by_cases hdig:48≤c.toNat∧c.toNat≤57
    ·obtain ⟨hd0,hd1⟩:=hdig
     have hD:(hxD c:Int)=(c.toNat:Int) - 48:=by unfold hxD;rw [if_pos hd1];omega
     rw [hD] at HN
     clear hD hdl hxk
     go_wp2_with fail
     exact ⟨⟨k + 1,acc * 16 + hxD c,a * 16 + ((c.toNat:Int) - 48),rfl,(by first | rfl | (congr 1;omega)),(by first | rfl | (congr 1;omega)),by omega,HN⟩,by simp [intOf];omega⟩
    ·have hlet:(97≤c.toNat∧c.toNat≤102) ∨ (65≤c.toNat∧c.toNat≤70):=by omega
     have hlow:=low_letter hlet
     obtain ⟨lc,hlc⟩:∃ q,(if c.toNat≤70 then c.toNat + 32 else c.toNat)=q:=⟨_,rfl⟩
     rw [hlc] at hlow
     have hl1:97≤lc∧lc≤102:=by rw [← hlc];split <;> omega
     have hD:(hxD c:Int)=(lc:Int) - 97 + 10:=by
      unfold hxD
      rw [← hlc,if_neg (by omega:¬ c.toNat≤57)]
      split <;> omega
     rw [hD] at HN
     have hl2:=hl1.1
     have hl3:=hl1.2
     have hd57:¬ c.toNat≤57:=by omega
     have hd48:48≤c.toNat:=by omega
     have hd95:¬ (c.toNat:Int)=95:=by omega
     clear hD hdl hxk hlet hlc hl1 hdig
     go_wp2_with (go_at_call 338;refine (lower_any _ _).mono ?_;rintro e w' ⟨rfl,rfl⟩;rw [hlow])
     exact ⟨⟨k + 1,acc * 16 + hxD c,a * 16 + ((lc:Int) - 97 + 10),rfl,(by first | rfl | (congr 1;omega)),(by first | rfl | (congr 1;omega)),by omega,HN⟩,by simp [intOf];omega⟩
   ·obtain rfl:k=n:=by omega
    have hF:V=acc:=by rw [hdec,List.drop_of_length_le (by rw [Hn.out];exact Nat.le_refl _)];rfl
    subst ha
    subst hF
    clear hacc hdec a0
    go_wp2_with fail
    go_ret2
    exact ⟨rfl,HBl.out⟩
theorem pu16_any (x:List UInt8) (bs:Int) (w:World) (hbs:bs=64 ∨ bs=32) (hx:x.all isHx=true) (h1:1≤x.length) (h4:x.length≤4) :
  Calls Tryz.prog 275 #[.string (strL x), .int .i64 16, .int .i64 bs] w (Ret (.tuple #[.int .u64 (hxV x:Int), .nilIface]) w):=by
 have H:=Lib.hid (iPu16_any x bs w hbs hx h1 h4)
 generalize hxV x=V at *
 generalize strL x=SX at *
 clear hbs hx h1 h4
 go_enter Tryz.func275,Tryz.ntmps275
 go_wp2_with fail
 refine H.out.mono ?_
 rintro e w2 ⟨rfl,hb⟩
 have HB:=Lib.hid hb
 clear hb H
 go_wp2_with fail
 go_ret2
 exact ⟨rfl,HB.out⟩
open Go.RowKit Go
theorem size_ascii:(Tryz.prog.info? 241).map (·.size)=some 256:=by kernel_rfl
theorem zero_ascii (w:World):(zeroValue 241).run Tryz.prog w=.ok (.agg (Array.replicate 256 (.bool false))) w:=by kernel_rfl
theorem trimRA_any (L:List UInt8) (b:Nat) (q:UInt8→Bool) (w:World) (hL:L.length≤1000000) (hb:∀ x:UInt8,w.cell? ⟨b,x.toNat,none⟩=some (.bool (q x))) :
  Calls Tryz.prog 238 #[.string (strL L), .pointer (some ⟨b,0,none⟩)] w fun e w' => w'=w∧∃ n,n≤L.length∧e=.returned (.string (strL (L.take n)))∧(∀ (j:Nat) (x:UInt8),n≤j→L[j]?=some x→q x=true)∧(∀ x,L[n - 1]?=some x→1≤n→q x=false):=by
 have HC:=Lib.hid fun x => Tryz.asciiSet_contains b x (q x) w (hb x)
 clear hb
 obtain ⟨N,hN⟩:∃ n,L.length=n:=⟨_,rfl⟩
 have HN:=Lib.hid hN
 rw [hN] at hL ⊢
 clear hN
 go_enter Tryz.func238,Tryz.ntmps238
 go_wp2_with fail
 go_loop [0] (fun s => ∃ n:Nat,n≤N∧s=.string (strL (L.take n))∧Hid (∀ (j:Nat) (x:UInt8),n≤j→L[j]?=some x→q x=true)) (fun s => match s with | .string c => c.size | _ => 0)
 case atStart => exact ⟨N,Nat.le_refl _,by rw [List.take_of_length_le (by rw [HN.out];exact Nat.le_refl _)],Lib.hid fun j x h1 h2 => by have:=(List.getElem?_eq_some_iff.1 h2).1;rw [HN.out] at this;omega⟩
 case round =>
  obtain ⟨n,hn,rfl,HA⟩:=hrel
  have hsz:(strL (L.take n)).size=n:=by rw [strL_size,List.length_take,HN.out];omega
  rcases Nat.eq_zero_or_pos n with h0 | h0
  ·subst h0
   obtain ⟨S,hS⟩:∃ S,strL (L.take 0)=S:=⟨_,rfl⟩
   have HS:=Lib.hid hS
   rw [hS] at hsz ⊢
   clear hS
   go_wp2_with fail
   go_ret
   exact ⟨rfl,0,Nat.zero_le _,by rw [HS.out];rfl,HA.out,fun x _ h => absurd h (by omega)⟩
  ·obtain ⟨m,rfl⟩:∃ m,n=m + 1:=⟨n - 1,by omega⟩
   obtain ⟨x,hx⟩:∃ x,L[m]?=some x:=⟨_,List.getElem?_eq_getElem (by rw [HN.out];omega)⟩
   have hix:∀ h:m < (strL (L.take (m + 1))).size,(((strL (L.take (m + 1)))[m]'h).toNat:Int)=((x.toNat:Nat):Int):=fun h => by rw [strL_get (L.take (m + 1)) m x (by rw [List.getElem?_take,if_pos (by omega)];exact hx) h]
   have hcut:(strL (L.take (m + 1))).extract 0 m=strL (L.take m):=by rw [strL_take,List.take_take,Nat.min_eq_left (by omega)]
   have hsz2:(strL (L.take m)).size=m:=by rw [strL_size,List.length_take,HN.out];omega
   have HCx:=Lib.hid (HC.out x)
   obtain ⟨S,hS⟩:∃ S,strL (L.take (m + 1))=S:=⟨_,rfl⟩
   have HS:=Lib.hid hS
   obtain ⟨S2,hS2⟩:∃ S,strL (L.take m)=S:=⟨_,rfl⟩
   have HS2:=Lib.hid hS2
   have Hx:=Lib.hid hx
   rw [hS] at hsz hix hcut ⊢
   rw [hS2] at hcut hsz2
   clear hS hS2 hx
   have e1:(((m + 1:Nat):Int) - 1)=(m:Int):=by omega
   have e2:IntKind.i64.wrap (m:Int)=(m:Int):=wrap_i64R m (by omega)
   have e3:wrap64 (((m + 1:Nat):Int) - 1)=(m:Int):=by unfold wrap64;omega
   cases hq:q x
   ·have HQ:=Lib.hid hq
    rw [hq] at HCx
    clear hq
    go_wp2_with fail
    refine HCx.out.mono ?_
    rintro e w2 ⟨rfl,rfl⟩
    go_wp2_with fail
    go_ret
    exact ⟨rfl,m + 1,hn,by rw [HS.out];rfl,HA.out,fun y hy _ => by
     rw [show m + 1 - 1=m from rfl,Hx.out] at hy
     injection hy with hy
     rw [← hy];exact HQ.out⟩
   ·have HQ:=Lib.hid hq
    rw [hq] at HCx
    clear hq
    go_wp2_with fail
    refine HCx.out.mono ?_
    rintro e w2 ⟨rfl,rfl⟩
    go_wp2_with fail
    refine ⟨⟨m,by omega,by first | rfl | rw [HS2.out],Lib.hid fun j y h1 h2 => ?_⟩,by simp [hsz,hsz2]⟩
    rcases Nat.eq_or_lt_of_le h1 with h | h
    ·subst h
     rw [Hx.out] at h2
     injection h2 with h2
     rw [← h2];exact HQ.out
    ·exact HA.out j y h h2
theorem trimLA_any (L:List UInt8) (b:Nat) (q:UInt8→Bool) (w:World) (hL:L.length≤1000000) (hb:∀ x:UInt8,w.cell? ⟨b,x.toNat,none⟩=some (.bool (q x))) :
  Calls Tryz.prog 237 #[.string (strL L), .pointer (some ⟨b,0,none⟩)] w fun e w' => w'=w∧∃ n,e=.returned (.string (strL (L.drop n)))∧(∀ (j:Nat) (x:UInt8),j < n→L[j]?=some x→q x=true):=by
 have HC:=Lib.hid fun x => Tryz.asciiSet_contains b x (q x) w (hb x)
 clear hb
 obtain ⟨N,hN⟩:∃ n,L.length=n:=⟨_,rfl⟩
 have HN:=Lib.hid hN
 rw [hN] at hL
 clear hN
 go_enter Tryz.func237,Tryz.ntmps237
 go_wp2_with fail
 go_loop [0] (fun s => ∃ n:Nat,n≤N∧s=.string (strL (L.drop n))∧Hid (∀ (j:Nat) (x:UInt8),j < n→L[j]?=some x→q x=true)) (fun s => match s with | .string c => c.size | _ => 0)
 case atStart => exact ⟨0,Nat.zero_le _,rfl,Lib.hid fun j x h1 => absurd h1 (Nat.not_lt_zero _)⟩
 case round =>
  obtain ⟨n,hn,rfl,HA⟩:=hrel
  have hsz:(strL (L.drop n)).size=N - n:=by rw [strL_size,List.length_drop,HN.out]
  by_cases h0:n < N
  ·obtain ⟨x,hx⟩:∃ x,L[n]?=some x:=⟨_,List.getElem?_eq_getElem (by rw [HN.out];exact h0)⟩
   have hix:∀ h:0 < (strL (L.drop n)).size,(((strL (L.drop n))[0]'h).toNat:Int)=((x.toNat:Nat):Int):=fun h => by rw [strL_get (L.drop n) 0 x (by rw [List.getElem?_drop];exact hx) h]
   have hcut:(strL (L.drop n)).extract 1 (N - n)=strL (L.drop (n + 1)):=by rw [← hsz,strL_drop,List.drop_drop]
   have hsz2:(strL (L.drop (n + 1))).size=N - (n + 1):=by rw [strL_size,List.length_drop,HN.out]
   have HCx:=Lib.hid (HC.out x)
   obtain ⟨S,hS⟩:∃ S,strL (L.drop n)=S:=⟨_,rfl⟩
   have HS:=Lib.hid hS
   obtain ⟨S2,hS2⟩:∃ S,strL (L.drop (n + 1))=S:=⟨_,rfl⟩
   have HS2:=Lib.hid hS2
   have Hx:=Lib.hid hx
   rw [hS] at hsz hix hcut ⊢
   rw [hS2] at hcut hsz2
   clear hS hS2 hx
   have b1:(0:Int) < ((N - n:Nat):Int):=by omega
   have b2:(1:Int)≤((N - n:Nat):Int):=by omega
   cases hq:q x
   ·have HQ:=Lib.hid hq
    rw [hq] at HCx
    clear hq
    go_wp2_with fail
    refine HCx.out.mono ?_
    rintro e w2 ⟨rfl,rfl⟩
    go_wp2_with fail
    go_ret
    exact ⟨rfl,n,by rw [HS.out];rfl,HA.out⟩
   ·have HQ:=Lib.hid hq
    rw [hq] at HCx
    clear hq
    go_wp2_with fail
    refine HCx.out.mono ?_
    rintro e w2 ⟨rfl,rfl⟩
    go_wp2_with fail
    refine ⟨⟨n + 1,by omega,by first | rfl | rw [HS2.out],Lib.hid fun j y h1 h2 => ?_⟩,by simp [hsz,hsz2];omega⟩
    rcases Nat.lt_or_ge j n with h | h
    ·exact HA.out j y h h2
    ·obtain rfl:j=n:=by omega
     rw [Hx.out] at h2
     injection h2 with h2
     rw [← h2];exact HQ.out
  ·obtain rfl:n=N:=by omega
   rw [Nat.sub_self] at hsz
   obtain ⟨S,hS⟩:∃ S,strL (L.drop n)=S:=⟨_,rfl⟩
   have HS:=Lib.hid hS
   rw [hS] at hsz ⊢
   clear hS
   go_wp2_with fail
   go_ret
   exact ⟨rfl,n,by rw [HS.out];rfl,HA.out⟩
theorem trim_empty {L:List UInt8} {q:UInt8→Bool} {n m:Nat} (hn:n≤L.length) (h1:∀ (j:Nat) (x:UInt8),n≤j→L[j]?=some x→q x=true) (h2:∀ x,L[n - 1]?=some x→1≤n→q x=false)
  (h3:∀ (j:Nat) (x:UInt8),j < m→(L.take n)[j]?=some x→q x=true):((L.take n).drop m=[]) ↔ (L.all q=true):=by
 constructor
 ·intro h
  rw [List.all_eq_true]
  intro c hc
  obtain ⟨j,hj,rfl⟩:=List.getElem_of_mem hc
  rcases Nat.lt_or_ge j n with h4 | h4
  ·have hl:((L.take n).drop m).length=0:=by rw [h];rfl
   rw [List.length_drop,List.length_take] at hl
   exact h3 j _ (by omega) (by rw [List.getElem?_take,if_pos h4];exact List.getElem?_eq_getElem hj)
  ·exact h1 j _ h4 (List.getElem?_eq_getElem hj)
 ·intro h
  rw [List.all_eq_true] at h
  have h0:n=0:=by
   rcases Nat.eq_zero_or_pos n with h4 | h4
   ·exact h4
   ·have hx:=List.getElem?_eq_getElem (l:=L) (i:=n - 1) (by omega)
    have:=h2 _ hx h4
    rw [h _ (List.getElem_mem _)] at this
    cases this
  subst h0
  simp
theorem strL_nil {L:List UInt8}:(strL L).toList=[] ↔ L=[]:=by
 rw [ByteArray.toList_eq]
 exact Iff.rfl
def asciiB (S:List UInt8):Prop:=∀ (j:Nat) b,S[j]?=some b→b.toNat < 128
theorem trim_any (L S:List UInt8) (w:World) (hL:L.length≤1000000) (hS:2≤S.length∧S.length≤1000) (ha:asciiB S) (B:Bool) (hB:L.all S.contains=B) :
  Calls Tryz.prog 187 #[.string (strL L), .string (strL S)] w fun e w' => ∃ M:List UInt8,e=.returned (.string (strL M))∧(M=[] ↔ B=true)∧Below w.heap.size w w':=by
 have HM:=Lib.hid (Tryz.strings_makeASCIISet zero_ascii (strL S) w (by rw [strL_size];omega) ha)
 have hsS:(strL S).size=S.length:=strL_size S
 have hSd:(strL S).data.toList=S:=rfl
 rw [hSd] at HM
 have HSz:Hid ((Lib.setCells S).size=256):=Lib.hid (Lib.setCells_size S)
 have HSo:Hid ((Lib.setCells S).all (·.oneCell')=true):=Lib.hid (by rw [Lib.setCells_eq,Array.all_eq_true];intro i hi;simp [Value.oneCell'])
 have HAt:Hid (∀ x:UInt8,(Lib.setCells S)[x.toNat]?=some (.bool (S.contains x))):=Lib.hid (Lib.setCells_at S)
 have hne:((strL S).toList == [])=false:=by
  rw [ByteArray.toList_eq]
  show (S == [])=false
  cases S with
  | nil => simp at hS
  | cons a l => rfl
 have h2:((S.length:Int) == 1)=false:=beq_eq_false_iff_ne.2 (by omega)
 have HB:=Lib.hid hB
 generalize Lib.setCells S=X at *
 obtain ⟨SS,hSS⟩:∃ x,strL S=x:=⟨_,rfl⟩
 rw [hSS] at hne hsS HM ⊢
 by_cases hL0:L=[]
 ·subst hL0
  have hB1:B=true:=HB.out.symm
  go_enter Tryz.func187,Tryz.ntmps187
  have e:(strL []).toList=[]:=by rw [ByteArray.toList_eq];rfl
  go_wp2_with fail
  go_ret
  exact ⟨[],rfl,by simp [hB1],Below.refl _ _⟩
 ·have hLn:((strL L).toList == [])=false:=by
   rw [ByteArray.toList_eq]
   show (L == [])=false
   cases L with
   | nil => exact absurd rfl hL0
   | cons a l => rfl
  have HR:=Lib.hid fun b wx h => trimRA_any L b S.contains wx hL h
  have HL:=Lib.hid fun n b wx h => trimLA_any (L.take n) b S.contains wx (by rw [List.length_take];omega) h
  have HE:=Lib.hid fun n m h1 h2 h3 h4 => trim_empty (L:=L) (q:=S.contains) (n:=n) (m:=m) h1 h2 h3 h4
  obtain ⟨LL,hLL⟩:∃ x,strL L=x:=⟨_,rfl⟩
  rw [hLL] at hLn HR ⊢
  clear hLL hSS hSd hL0 hB
  go_enter Tryz.func187,Tryz.ntmps187
  go_wp2_with fail
  refine HM.out.mono ?_
  rintro e w1 ⟨rfl,rfl⟩
  have HB1:Hid (Below w.heap.size w ((w.alloc (.cells X 241)).alloc (.cells X 241 (0,0)))):=Lib.hid (below_alloc (below_alloc (Below.refl _ _) _) _)
  have HP1:Hid (Blk ((w.alloc (.cells X 241)).alloc (.cells X 241 (0,0))) (w.heap.size + 1) 241 X):=Lib.hid (by
   have:=Blk.new (w.alloc (.cells X 241)) 241 X
   rw [World.size_alloc] at this
   exact this)
  go_upto_region 6 with (refine wpList_var X 241 zero_ascii rfl rfl rfl _ _ rfl _ rfl ?_ ?_ 256 size_ascii HSz.out ?_ HSo.out ?_;all_goals (try rfl);try go_simp)
  generalize (w.alloc (.cells X 241)).alloc (.cells X 241 (0,0))=w2 at *
  generalize w.heap.size + 1=bx at HP1 ⊢
  have hcell:∀ x:UInt8,w2.cell? ⟨bx,x.toNat,none⟩=some (.bool (S.contains x)):=fun x => (HP1.out.cell x.toNat).trans (HAt.out x)
  have HR2:=Lib.hid (HR.out bx w2 hcell)
  have HL2:=Lib.hid fun n => HL.out n bx w2 hcell
  clear hcell HR HL HM HAt HP1 HSz HSo
  go_wp2_with fail
  refine HR2.out.mono ?_
  rintro e w3 ⟨rfl,n,hn,rfl,k1,k2⟩
  have HK:=Lib.hid (And.intro hn (And.intro k1 k2))
  clear hn k1 k2 HR2
  go_wp2_with fail
  refine (HL2.out n).mono ?_
  rintro e w3 ⟨rfl,m,rfl,k3⟩
  have HI:=Lib.hid (HE.out n m HK.out.1 HK.out.2.1 HK.out.2.2 k3)
  clear k3 HK HE HL2
  go_wp2_with fail
  go_ret
  exact ⟨_,rfl,by rw [HI.out,HB.out],HB1.out⟩
theorem only_any (L S:List UInt8) (w:World) (hL:L.length≤1000000) (hS:2≤S.length∧S.length≤1000) (ha:asciiB S) :
  Calls Tryz.prog 130 #[.string (strL L), .string (strL S)] w (Ret (.bool (L.all S.contains)) w):=by
 obtain ⟨B,hB⟩:∃ B,L.all S.contains=B:=⟨_,rfl⟩
 rw [hB]
 have hT:=trim_any L S w hL hS ha B hB
 have HT:=Lib.hid hT
 clear hT hB hS hL ha
 go_enter Tryz.func130,Tryz.ntmps130
 go_wp2_with fail
 refine HT.out.mono ?_
 rintro e w2 ⟨M,rfl,hM,hb⟩
 have HB2:=Lib.hid hb
 clear hb
 have hE:((strL M).toList == [])=B:=by
  rw [Bool.eq_iff_iff, ← hM]
  simp [strL_nil]
 generalize strL M=SM at *
 clear hM
 go_wp2_with fail
 go_ret
 exact ⟨rfl,HB2.out⟩
def hexSet:List UInt8:=[48,49,50,51,52,53,54,55,56,57,97,98,99,100,101,102,65,66,67,68,69,70]
theorem hexSet_ascii:asciiB hexSet:=fun j b h => by
 have:=List.mem_of_getElem? h
 simp [hexSet] at this
 rcases this with rfl | rfl | rfl | rfl | rfl | rfl | rfl | rfl | rfl | rfl | rfl | rfl | rfl | rfl | rfl | rfl | rfl | rfl | rfl | rfl | rfl | rfl <;> decide
theorem hexSet_has (b:UInt8):hexSet.contains b=isHx b:=by
 have key:∀ n,n < 256→hexSet.contains (UInt8.ofNat n)=isHx (UInt8.ofNat n):=by decide +kernel
 have:=key b.toNat b.toNat_lt
 rwa [UInt8.ofNat_toNat] at this
theorem hexSet_all (x:List UInt8):x.all hexSet.contains=x.all isHx:=by
 congr 1
 funext b
 exact hexSet_has b
def hexOk (x:List UInt8):Bool:=!x.isEmpty && decide (x.length≤4) && x.all isHx
def grpL (last:Bool):List (List UInt8)→List Nat→Option (List Nat)
 | [],out => some out
 | x :: xs,out => if (last && xs.isEmpty && x.contains 46)=true then (match fourF x with
   | some n => some (out ++ [n / 65536,n % 65536])
   | none => none)
  else if hexOk x=true then grpL last xs (out ++ [hxV x]) else none
def grpF (s:List UInt8) (last:Bool):Option (List Nat):=if s=[] then some [] else grpL last (spl 58 s) []
theorem grpL_step {L:List (List UInt8)} {k n:Nat} {x:List UInt8} {last:Bool} {G:List Nat} (h:L[k]?=some x) (hn:L.length=n) :
  grpL last (L.drop k) G=if (last && decide (k + 1=n) && x.contains 46)=true then (match fourF x with
   | some m => some (G ++ [m / 65536,m % 65536])
   | none => none)
  else if hexOk x=true then grpL last (L.drop (k + 1)) (G ++ [hxV x]) else none:=by
 obtain ⟨hk,rfl⟩:=List.getElem?_eq_some_iff.1 h
 rw [List.drop_eq_getElem_cons hk]
 have e:(L.drop (k + 1)).isEmpty=decide (k + 1=n):=by
  by_cases hd:k + 1=n
  ·rw [List.drop_of_length_le (by omega),decide_eq_true hd];rfl
  ·rw [decide_eq_false hd,List.isEmpty_eq_false_iff]
   intro e
   have:=congrArg List.length e
   rw [List.length_drop] at this
   simp at this
   omega
 show (if (last && (L.drop (k + 1)).isEmpty && _)=true then _ else _)=_
 rw [e]
theorem four_dot {x:List UInt8} (h:x.contains 46=false):fourF x=none:=by
 unfold fourF
 rw [if_neg]
 rw [spl_len]
 have:List.count 46 x=0:=List.count_eq_zero.2 (fun hm => by
  have:x.contains 46=true:=by simpa using hm
  rw [h] at this;cases this)
 omega
theorem hex_dot {x:List UInt8} (h:x.contains 46=true):hexOk x=false:=by
 unfold hexOk
 have hm:(46:UInt8) ∈ x:=by simpa using h
 have:x.all isHx=false:=by
  rw [← Bool.not_eq_true]
  intro ha
  have:=List.all_eq_true.1 ha _ hm
  revert this
  decide
 rw [this,Bool.and_false]
theorem grpL_stepQ {L:List (List UInt8)} {k n:Nat} {x:List UInt8} {last:Bool} {G:List Nat} (h:L[k]?=some x) (hn:L.length=n) :
  grpL last (L.drop k) G=if ((fourF x).isSome && last && decide (k + 1=n))=true then some (G ++ [(fourF x).getD 0 / 65536,(fourF x).getD 0 % 65536])
  else if hexOk x=true then grpL last (L.drop (k + 1)) (G ++ [hxV x]) else none:=by
 rw [grpL_step h hn]
 by_cases hd:x.contains 46=true
 ·rw [hd,Bool.and_true,hex_dot hd]
  cases hf:fourF x with
  | none => cases last <;> cases (decide (k + 1=n)) <;> rfl
  | some m => cases last <;> cases (decide (k + 1=n)) <;> rfl
 ·have hd:x.contains 46=false:=eq_false_of_ne_true hd
  rw [hd,Bool.and_false,four_dot hd]
  rfl
/-! ### rows of uint64 -/
def layU:Lay Nat:=⟨fun n => [.int .u64 (n:Int)],1,26,by decide,fun _ => rfl,fun x v hv => by
 have:v=.int .u64 (x:Int):=by simpa using hv
 subst this;rfl⟩
theorem uE:EI Tryz.prog 190 26 1 8:=EI.mk' (z:=.int .u64 0) Tryz.underlying190 (by kernel_rfl) rfl (by decide)
theorem src_two (w:World) (x y:Value) (t:TypeId):Src (w.alloc (.cells #[x,y] t)) (some ⟨w.heap.size,0,none⟩) 2 1 [x,y] :=
 ⟨rfl,fun j u hu => ⟨_,rfl,by simp,by
  show (w.alloc (.cells #[x,y] t)).cell? ((⟨w.heap.size,0,none⟩:Addr).add j)=some u
  have e:(⟨w.heap.size,0,none⟩:Addr).add j=⟨w.heap.size,j,none⟩:=by unfold Addr.add;simp;intro h;exact h.symm
  rw [e,cell_of_row _ w.heap.size j _ _ _ (heap_alloc_new w _)]
  rcases j with _ | _ | j
  ·simpa using hu
  ·simpa using hu
  ·simp at hu⟩⟩
theorem OwnK.snoc2 {w:World} {B:Nat} {v:Value} {L:List Nat} {x y:Nat} (h:w.ownsRow B 26 1 v (L.length + 2) (layU.all L ++ [.int .u64 (x:Int), .int .u64 (y:Int)])):OwnK layU w B v (L ++ [x,y]):=by
 refine OwnK.app (M:=[x,y]) ?_
 exact h
theorem grp_mask (m:Nat) (h:m < 18446744073709551616):bits .and .u64 (m:Int) 65535=((m % 65536:Nat):Int):=by
 rw [show (65535:Int)=((65535:Nat):Int) from rfl,bits_and_u64_nat _ _ h (by omega),show (65535:Nat)=2 ^ 16 - 1 from rfl,Nat.and_two_pow_sub_one_eq_mod]
theorem fouL_lt:∀ (L:List (List UInt8)) (acc k n:Nat),acc < 256 ^ k→fouL L acc=some n→n < 256 ^ (k + L.length)
 | [],acc,k,n,h,hf => by
   have:acc=n:=by simpa [fouL] using hf
   rw [← this];exact h
 | x :: xs,acc,k,n,h,hf => by
   unfold fouL at hf
   cases hd:d255 x with
   | none => rw [hd] at hf;cases hf
   | some m =>
     rw [hd] at hf
     have:=d255_le hd
     have:=fouL_lt xs (acc * 256 + m) (k + 1) n (by rw [Nat.pow_succ];generalize 256 ^ k=P at *;omega) hf
     rwa [List.length_cons,show k + (xs.length + 1)=k + 1 + xs.length by omega]
theorem fourF_lt {x:List UInt8} {n:Nat} (h:fourF x=some n):n < 4294967296:=by
 unfold fourF at h
 by_cases hc:(spl 46 x).length=4
 ·rw [if_pos hc] at h
  have:=fouL_lt _ 0 0 n (by decide) h
  rw [hc] at this
  exact this
 ·rw [if_neg hc] at h;cases h
def GrpPost (w:World) (R:Option (List Nat)) (e:Ending) (w':World):Prop :=
 ∃ ad m c,e=.returned (.tuple #[.slice ad m c, .bool R.isSome])∧(∀ G,R=some G→OwnK layU w' w.heap.size (.slice ad m c) G)∧Below w.heap.size w w'
theorem aGroups_any (s:List UInt8) (last:Bool) (w:World) (hv:Vr w) (hs:s.length≤1000000) :
  Calls Tryz.prog 268 #[.string (strL s), .bool last] w (GrpPost w (grpF s last)):=by
 have HSp:=Lib.hid (split_any s 58 w hv hs)
 have HV0:=Lib.hid hv
 have hxs:∀ x ∈ spl 58 s,x.length≤1000000:=fun x h => Nat.le_trans (spl_mem 58 s x h).2.2 hs
 have Hxs:=Lib.hid hxs
 have hnl:(spl 58 s).length≤1000001:=by
  rw [spl_len]
  have:=List.count_le_length (a:=(58:UInt8)) (l:=s)
  omega
 have HF:Hid (grpF s last=if s=[] then some [] else grpL last (spl 58 s) []):=Lib.hid rfl
 have hse:=strL_list s
 obtain ⟨R,hR⟩:∃ q,grpF s last=q:=⟨_,rfl⟩
 rw [hR] at HF ⊢
 clear hR hv hxs
 generalize spl 58 s=L at *
 obtain ⟨n,hn⟩:∃ q,L.length=q:=⟨_,rfl⟩
 have Hn:=Lib.hid hn
 rw [hn] at HSp hnl
 clear hn
 obtain ⟨SS,hSS⟩:∃ q,strL s=q:=⟨_,rfl⟩
 rw [hSS] at HSp hse ⊢
 clear hSS
 go_enter Tryz.func268,Tryz.ntmps268
 by_cases h0:s=[]
 ·subst h0
  have hF:=HF.out
  rw [if_pos rfl] at hF
  subst hF
  clear HF HSp
  go_wp2_with fail
  go_ret2
  exact ⟨none,0,0,rfl,fun G hG => (by injection hG with hG;subst hG;exact OwnK.nil _ _ _),Below.refl _ _⟩
 ·have hF:=HF.out
  rw [if_neg h0] at hF
  have HF2:=Lib.hid hF.symm
  have hem:s.isEmpty=false:=by cases s with
   | nil => exact absurd rfl h0
   | cons _ _ => rfl
  clear HF hF
  go_wp2_with fail
  refine HSp.out.mono ?_
  rintro e w1 ⟨g,rfl,hr,hb⟩
  have HR1:=Lib.hid hr
  have HB1:=Lib.hid hb
  have HV1:=Lib.hid (HV0.out.below hb)
  clear hr hb HSp HV0 hse
  go_wp2_with fail
  go_loopw [6,20] (fun u i wr => ∃ (k:Nat) (G:List Nat),k≤n∧i=.int .i64 (k:Int)∧Hid (OwnK layU wr w1.heap.size u G)∧Hid (G.length≤k)∧Hid (grpL last (L.drop k) G=R)∧Hid (Below w1.heap.size w1 wr)) (fun _ i _ => n - (intOf i).toNat)
  case atStart => exact ⟨0, [],Nat.zero_le _,rfl,Lib.hid (OwnK.nil _ _ _),Lib.hid (Nat.le_refl _),HF2,Lib.hid (Below.refl _ _)⟩
  case round =>
   clear HF2
   obtain ⟨k,G,hk,rfl,HO,HL,HA,HB⟩:=hrel
   have HR:=Lib.hid (HR1.out.below HB.out)
   have HV:=Lib.hid (HV1.out.below HB.out)
   obtain ⟨ao,co,hvo, -⟩:=HO.out.form
   subst hvo
   obtain ⟨d,hd⟩:∃ q,G.length=q:=⟨_,rfl⟩
   have Hd:=Lib.hid hd
   rw [hd] at HO HL ⊢
   have hdk:=HL.out
   clear hd
   by_cases hlt:k < n
   ·obtain ⟨x,hx⟩:∃ x,L[k]?=some x:=⟨_,List.getElem?_eq_getElem (by rw [Hn.out];exact hlt)⟩
    have HSt:=Lib.hid (grpL_step (last:=last) (G:=G) hx Hn.out)
    have hc:=HR.out.2 k x hx
    have hgl:=HR.out.1
    have hxl:=Hxs.out x (List.mem_of_getElem? hx)
    have HCo:=Lib.hid fun wx => contains_any x 46 wx
    have HFr:=Lib.hid fun wx (hv:Vr wx) => aFour_any x wx hv hxl
    have HTr:=Lib.hid fun wx => trim_any x hexSet wx hxl (by decide) hexSet_ascii (x.all isHx) (hexSet_all x)
    have HPu:=Lib.hid fun wx (h1:x.all isHx=true) (h2:1≤x.length) (h3:x.length≤4) => pu16_any x 64 wx (.inl rfl) h1 h2 h3
    have HFl:Hid (∀ m,fourF x=some m→m < 4294967296):=Lib.hid fun m h => fourF_lt h
    have HHx:Hid (hexOk x=(!x.isEmpty && decide (x.length≤4) && x.all isHx)):=Lib.hid rfl
    have hsz:(strL x).size=x.length:=strL_size x
    have hls:(strL x).toList=x:=strL_list x
    have e46:strL hexSet=⟨#[48,49,50,51,52,53,54,55,56,57,97,98,99,100,101,102,65,66,67,68,69,70]⟩:=rfl
    have hHv:x.all isHx=true→x.length≤4→hxV x < 65536:=fun h1 h2 => hxV_lt h1 h2
    have HHv:=Lib.hid hHv
    rw [e46] at HTr
    obtain ⟨SX,hSX⟩:∃ q,strL x=q:=⟨_,rfl⟩
    rw [hSX] at hc hsz hls HCo HFr HTr HPu
    clear hx e46 hSX hHv
    generalize x.contains 46=C at *
    generalize fourF x=FX at *
    generalize hxV x=XV at *
    generalize x.all isHx=AH at *
    generalize hexOk x=HK at *
    obtain ⟨q,hq⟩:∃ q,(last && decide (k + 1=n) && C)=q:=⟨_,rfl⟩
    rw [hq] at HSt
    have Hq:=Lib.hid hq
    clear hq
    go_upto_region 8 with fail
    go_cut [36] (fun v wx => v=.bool q∧OwnK layU wx w1.heap.size (.slice ao d co) G∧Below w1.heap.size w1 wx)
    case first =>
     have hqq:=Hq.out
     clear HSt HA HFr HTr HPu HFl HHx HHv
     cases last
     ·have hq0:q=false:=by rw [← hqq];rfl
      subst hq0
      go_wp2_with fail
      go_meet
      case rel => exact ⟨rfl,HO.out,HB.out⟩
     ·by_cases hkn:k + 1=n
      ·have hq0:q=C:=by rw [← hqq,decide_eq_true hkn];simp
       subst hq0
       have hkn':((k:Int)=(n:Int) - 1)=True:=eq_true (by omega)
       have hkn2:((k:Int) == (n:Int) - 1)=true:=beq_iff_eq.2 (by omega)
       go_wp2_with fail
       all_goals first
        | (refine (HCo.out _).mono ?_
           rintro e w2 ⟨rfl,hb⟩
           have HO2:=Lib.hid (HO.out.later hb)
           have HB2:=Lib.hid (HB.out.trans (hb.mono HB.out.size))
           clear hb
           go_wp2_with fail
           go_meet
           case rel => exact ⟨rfl,HO2.out,HB2.out⟩)
        | (exfalso;omega)
      ·have hq0:q=false:=by rw [← hqq,decide_eq_false hkn];simp
       subst hq0
       have hkn':((k:Int)=(n:Int) - 1)=False:=eq_false (by omega)
       have hkn2:((k:Int) == (n:Int) - 1)=false:=beq_eq_false_iff_ne.2 (by omega)
       go_wp2_with fail
       all_goals first
        | (go_meet
           case rel => exact ⟨rfl,HO.out,HB.out⟩)
        | (exfalso;omega)
    case rest =>
     clear HO HB HR HV Hq HCo
     obtain ⟨rfl,hO,hb⟩:=hcut
     have HO:=Lib.hid hO
     have HB:=Lib.hid hb
     have HV:=Lib.hid (HV1.out.below hb)
     clear hO hb
     cases q
     ·have hS:=HSt.out
      rw [if_neg (by decide)] at hS
      have HS:=Lib.hid hS
      clear hS HSt HFr HFl
      by_cases hK:HK=true
      ·have hh:=HHx.out
       rw [hK] at hh
       have hh1:x.isEmpty=false∧x.length≤4∧AH=true:=by
        have:=hh.symm
        simp at this
        refine ⟨?_,this.1.2,this.2⟩
        cases x with
        | nil => simp at this
        | cons _ _ => rfl
       obtain ⟨hxe,hx4,hA⟩:=hh1
       have hx1:1≤x.length:=by cases x with
        | nil => simp at hxe
        | cons _ _ => simp
       have hne:¬ x=[]:=fun e => by subst e;simp at hxe
       have HS2:Hid (grpL last (L.drop (k + 1)) (G ++ [XV])=R):=Lib.hid (by rw [← HA.out,HS.out,if_pos hK])
       have HPx:=Lib.hid fun wx => HPu.out wx hA hx1 hx4
       have hXV:=HHv.out hA hx4
       clear HS HPu HHx hh HHv HA
       go_wp2_with fail
       refine (HTr.out _).mono ?_
       rintro e w2 ⟨M,rfl,hM,hb⟩
       have hM0:M=[]:=hM.2 hA
       subst hM0
       rw [show strL []=(⟨#[]⟩:ByteArray) from rfl]
       have HO2:=Lib.hid (HO.out.later hb)
       have HB2:=Lib.hid (HB.out.trans (hb.mono HB.out.size))
       clear hb hM HO HB HV HTr
       go_wp2_with fail
       refine (HPx.out _).mono ?_
       rintro e w3 ⟨rfl,hb⟩
       have HO3:=Lib.hid (HO2.out.later hb)
       have HB3:=Lib.hid (HB2.out.trans (hb.mono HB2.out.size))
       clear hb HO2 HB2 HPx
       have HOr:Hid (w3.ownsRow w1.heap.size 26 1 (.slice ao d co) d (layU.all G)):=Lib.hid (by
        have this:w3.ownsRow w1.heap.size 26 1 (.slice ao d co) G.length (layU.all G):=HO3.out
        rw [Hd.out] at this
        exact this)
       go_wp2_with (at_builtin;refine wpList_app uE rfl (.tmp 69) (.tmp 71) rfl rfl (World.ownsRow.alloc HOr.out _) rfl (src_one_new _ _ _) ?c1 ?c2 ?c3 ?c4 ?_)
       case c1 => (intro u hu;have:u=.int .u64 (XV:Int):=(by simpa using hu);subst this;rfl)
       case c2 => unfold maxLen;omega
       case c3 => omega
       case c4 => have:=HB3.out.size;simp;omega
       intro v5 w5 hO5 hG5
       have hbz:w1.heap.size≤(w3.alloc (.cells #[.int .u64 (XV:Int)] 26 (0,0))).heap.size:=by have:=HB3.out.size;simp;omega
       have HE1:Hid (OwnK layU w5 w1.heap.size v5 (G ++ [XV])):=Lib.hid (OwnK.snoc (by rw [Hd.out];exact hO5))
       have HE2:Hid (Below w1.heap.size w1 w5):=Lib.hid ((Below.alloc HB3.out HB3.out.size _).trans (hG5.below hbz (own_base HOr.out)))
       have HE3:Hid ((G ++ [XV]).length≤k + 1):=Lib.hid (by rw [List.length_append,Hd.out];simp;omega)
       clear hO5 hG5 hbz HOr
       go_wp2_with fail
       exact ⟨⟨k + 1,G ++ [XV],by omega,by go_num,HE1,HE3,HS2,HE2⟩,by simp [intOf];omega⟩
      ·have hK0:HK=false:=eq_false_of_ne_true hK
       have hRn:R=none:=by rw [← HA.out,HS.out,if_neg hK]
       subst hRn
       have hh:=HHx.out
       rw [hK0] at hh
       clear HS HPu HHx HHv HA hK
       by_cases hxe:x.isEmpty=true
       ·have hx0:x=[]:=by simpa using hxe
        clear hh
        go_wp2_with fail
        go_ret2
        exact ⟨none,0,0,rfl,fun G' hG => (by cases hG),HB1.out.trans (HB.out.mono HB1.out.size)⟩
       ·have hxe':x.isEmpty=false:=eq_false_of_ne_true hxe
        have hx0:¬ x=[]:=fun e => by subst e;simp at hxe'
        by_cases hx4:x.length≤4
        ·have hA:AH=false:=by
          rw [hxe',decide_eq_true hx4] at hh
          simpa using hh.symm
         clear hh hxe
         go_wp2_with fail
         refine (HTr.out _).mono ?_
         rintro e w2 ⟨M,rfl,hM,hb⟩
         have hM0:¬ M=[]:=fun e => by have:=hM.1 e;rw [hA] at this;cases this
         have hMl:(strL M).toList=M:=strL_list M
         have hMe:M.isEmpty=false:=by cases M with
          | nil => exact absurd rfl hM0
          | cons _ _ => rfl
         have HB2:=Lib.hid (HB.out.trans (hb.mono HB.out.size))
         generalize strL M=SM at *
         clear hb hM HTr
         go_wp2_with fail
         go_ret2
         exact ⟨none,0,0,rfl,fun G' hG => (by cases hG),HB1.out.trans (HB2.out.mono HB1.out.size)⟩
        ·have hx5:(4:Int) < (x.length:Int):=by omega
         clear hh hxe
         go_wp2_with fail
         go_ret2
         exact ⟨none,0,0,rfl,fun G' hG => (by cases hG),HB1.out.trans (HB.out.mono HB1.out.size)⟩
     ·have hS:=HSt.out
      rw [if_pos rfl] at hS
      have HS:=Lib.hid hS
      have HFx:=Lib.hid (HFr.out _ HV.out)
      clear hS HSt HPu HHx HHv HTr HFr
      go_wp2_with fail
      refine HFx.out.mono ?_
      rintro e w2 ⟨rfl,hb⟩
      have HO2:=Lib.hid (HO.out.later hb)
      have HB2:=Lib.hid (HB.out.trans (hb.mono HB.out.size))
      clear hb HO HB HV HFx
      obtain ⟨m,hm⟩:∃ q:Nat,FX.getD 0=q:=⟨_,rfl⟩
      have hm4:m < 4294967296:=by
       cases FX with
       | none =>
         have:0=m:=hm
         omega
       | some u =>
         have:u=m:=hm
         subst this;exact HFl.out u rfl
      have HRx:Hid (R.isSome=FX.isSome∧∀ G',R=some G'→G'=G ++ [m / 65536,m % 65536]):=Lib.hid (by
       rw [← HA.out,HS.out]
       cases FX with
       | none => exact ⟨rfl,fun G' h => by cases h⟩
       | some u =>
         have:u=m:=hm
         subst this
         exact ⟨rfl,fun G' h => by injection h with h;exact h.symm⟩)
      have hms:=grp_mask m (by omega)
      have hRs:=HRx.out.1
      rw [hm]
      obtain ⟨FB,hFB⟩:∃ q,FX.isSome=q:=⟨_,rfl⟩
      rw [hFB] at hRs ⊢
      clear hm HS HA HFl hFB
      have HOr:Hid (w2.ownsRow w1.heap.size 26 1 (.slice ao d co) d (layU.all G)):=Lib.hid (by
       have this:w2.ownsRow w1.heap.size 26 1 (.slice ao d co) G.length (layU.all G):=HO2.out
       rw [Hd.out] at this
       exact this)
      go_wp2_with (at_builtin;refine wpList_app uE rfl (.tmp 42) (.tmp 47) rfl rfl (World.ownsRow.alloc HOr.out _) rfl (src_two _ _ _ _) ?d1 ?d2 ?d3 ?d4 ?_)
      case d1 => intro u hu;simp at hu;rcases hu with rfl | rfl <;> rfl
      case d2 => unfold maxLen;omega
      case d3 => omega
      case d4 => have:=HB2.out.size;simp;omega
      intro v5 w5 hO5 hG5
      have hbz:w1.heap.size≤(w2.alloc (.cells #[.int .u64 ((m:Int) / 65536), .int .u64 ((m:Int) % 65536)] 26 (0,0))).heap.size:=by have:=HB2.out.size;simp;omega
      have HE1:Hid (OwnK layU w5 w1.heap.size v5 (G ++ [m / 65536,m % 65536])):=Lib.hid (OwnK.snoc2 (by
       rw [Hd.out,show ((m / 65536:Nat):Int)=(m:Int) / 65536 by omega,show ((m % 65536:Nat):Int)=(m:Int) % 65536 by omega]
       exact hO5))
      have HE2:Hid (Below w1.heap.size w1 w5):=Lib.hid ((Below.alloc HB2.out HB2.out.size _).trans (hG5.below hbz (own_base HOr.out)))
      obtain ⟨a5,c5,hv5, -⟩:=HE1.out.form
      subst hv5
      clear hO5 hG5 hbz HOr hms
      go_wp2_with fail
      go_ret2
      exact ⟨a5,(G ++ [m / 65536,m % 65536]).length,c5,(by rw [hRs];rfl),fun G' hG => (by rw [HRx.out.2 G' hG];exact HE1.out.weak HB1.out.size),HB1.out.trans (HE2.out.mono HB1.out.size)⟩
   ·obtain rfl:k=n:=by omega
    have hR:R=some G:=by
     rw [← HA.out,List.drop_of_length_le (by rw [Hn.out];exact Nat.le_refl _)]
     rfl
    subst hR
    go_wp2_with fail
    go_ret2
    exact ⟨ao,d,co,rfl,fun G' hG => (by injection hG with hG;subst hG;exact HO.out.weak HB1.out.size),HB1.out.trans (HB.out.mono HB1.out.size)⟩
end Go.Proofs.YtgkhcdjoilgfmaaGreatDoor
