/-
  flow.readReport. Condition: at most two hundred thousand bytes.
  laneref2.ReportsRead's closure: a line, read and gathered. Condition: at most two hundred thousand bytes.
  A line of a report, as the readers use it: in reports whose numbers are not too far off.
  Plain law: bytes of lines; what a reader of sets answers.
  Sets as spans of numbers: the spans of their prefixes, gaps, what two have in common, and how many prefixes these need.
  The reference's HasOf: whether an address is in one of some prefixes.
  Spans.Has: binary search in spans.
  Whether a number is in one of some ports: the program's inPorts and the reference's closure of lets.
-/
import Derived.Test.YtgkhcdjoilgfmaaGreatDoorRPX18
import Derived.Test.YtgkhcdjoilgfmaaGreatDoorRPX11
import Derived.Test.YtgkhcdjoilgfmaaGreatDoorRPX14
import Derived.Test.YtgkhcdjoilgfmaaGreatDoorRPX12
import Derived.Test.YtgkhcdjoilgfmaaGreatDoorRPX16
import Derived.Test.YtgkhcdjoilgfmaaGreatDoorRPX9
import Derived.Test.YtgkhcdjoilgfmaaGreatDoorRPX10
import Derived.Test.YtgkhcdjoilgfmaaGreatDoorRPX6
import Derived.Test.YtgkhcdjoilgfmaaGreatDoorRPX7
set_option linter.unusedVariables false
set_option maxRecDepth 100000
set_option maxHeartbeats 16000000
namespace Go.Proofs.YtgkhcdjoilgfmaaGreatDoor
open Go.RowKit Go Go.Sort
theorem repO_none {A:List (List UInt8)} (h:A.contains []=true ∨ A.length ≠ 10 ∨ ¬ (wAt A 2=[105,110] ∨ wAt A 2=[111,117,116]) ∨ numsOk A 6=false ∨ parseF (wAt A 4)=none ∨ parseF (wAt A 5)=none):repO A=none:=by
 unfold repO
 rw [if_pos h]
theorem repO_some {A:List (List UInt8)} (h1:A.contains []=false) (h2:A.length=10) (h3:wAt A 2=[105,110] ∨ wAt A 2=[111,117,116]) (h4:numsOk A 6=true) (h5:parseF (wAt A 4) ≠ none) (h6:parseF (wAt A 5) ≠ none):repO A=some (repV A):=by
 unfold repO
 rw [if_neg]
 rintro (h | h | h | h | h | h)
 ·rw [h1] at h;cases h
 ·exact h h2
 ·exact h h3
 ·rw [h4] at h;cases h
 ·exact h5 h
 ·exact h6 h
def rmR (lo:Nat) (V:List Value) (p:Nat) (v:Value) (w:World):Prop:=if p=12 then ∃ B,v=.pointer (some ⟨B,0,none⟩)∧lo≤B∧Blk w B 72 #[.int .i64 0, .bool false, .int .u64 0, .int .u64 0, .bool false, .int .u64 0, .int .u64 0, .int .i64 0, .int .i64 0] else v=V.getD p undef
theorem rmR_keep {lo:Nat} {V:List Value} (p:Nat) (v:Value) (u w:World) (h:rmR lo V p v u) (hb:Below u.heap.size u w):rmR lo V p v w:=by
 unfold rmR at h ⊢
 by_cases hp:p=12
 ·rw [if_pos hp] at h ⊢
  obtain ⟨B,h1,h2,h3⟩:=h
  exact ⟨B,h1,h2,h3.below hb h3.lt⟩
 ·rw [if_neg hp] at h ⊢
  exact h
def rnR (V:List Value) (p:Nat) (v:Value) (n:Nat) (_:World):Prop:=if p=24 then n=1 else v=V.getD p undef
theorem rnR_keep {V:List Value} (p:Nat) (v:Value) (n:Nat) (u:World) (m:Nat) (w:World) (h:rnR V p v n u) (hb:hqS n u m w):rnR V p v m w:=by
 unfold rnR at h ⊢
 by_cases hp:p=24
 ·rw [if_pos hp] at h ⊢
  have h1:=hb.1
  have h2:=hb.2
  omega
 ·rw [if_neg hp] at h ⊢
  exact h
theorem Op1.store_rowR {P:Program} {o:Oper} {ρ:Operand→Value} {w:World} {post:Value→World→Prop} (ty:TypeId) (x y:Operand) (ho:o.op=.store ty x y)
  (g:Nat) (cells:Array Value) (hx:ρ x=.pointer (some ⟨g,0,none⟩)) (hy:ρ y=.agg cells) (t:TypeId) (old:Array Value) (hg:w.heap[g]?=some (.cells old t (0,0))) (hi:(P.info? ty).map (·.size)=some cells.size)
  (hold:old.size=cells.size) (h1:cells.all (·.oneCell')=true) (h:post undef (w.setRow g cells)):Op1 P o ρ w post:=by
 unfold Op1 execOp
 simp only [ho,hx,hy,Instr.storeAt,Instr.sureAddr,Sem.run_bind,Sem.run_pure,Result.andThen_ok,run_storeVar_row w g t ty old cells hg hi hold h1]
 exact h
theorem lsV_eq (o:Option (Bool × Nat × Nat)):lsV o=.tuple #[.agg #[.bool (adO o).1, .int .u64 ((adO o).2.1:Int), .int .u64 ((adO o).2.2:Int)], .int .i64 (if o.isSome=true then 0 else 9)]:=by
 rcases o with _ | ⟨x,h,l⟩
 ·rfl
 ·rfl
theorem numIx_lt:∀ i ∈ numIx,i < 10:=by decide
theorem numIx_getD {k i:Nat} (h:numIx[k]?=some i):([0,3,6,7,8,9]:List Int).getD k 0=(i:Int):=by
 have hk:k < 6:=(List.getElem?_eq_some_iff.1 h).1
 have key:∀ k < 6,numIx[k]?.map (fun i => ((i:Nat):Int))=some (([0,3,6,7,8,9]:List Int).getD k 0):=by decide
 have:=key k hk
 rw [h] at this
 exact (Option.some.inj this).symm
theorem numsV_len {A:List (List UInt8)} {k:Nat} (h:k≤6):(numsV A k).length=k:=by
 unfold numsV
 rw [List.length_map,List.length_take]
 show min k 6=k
 omega
theorem ownI_snoc {w:World} {B:Nat} {v:Value} {zs:List Int} {x:Int} (h:w.ownsRow B 3 1 v (zs.length + 1) (encIs zs ++ [.int .i64 x])):OwnI w B v (zs ++ [x]):=by
 show w.ownsRow _ _ _ _ _ _
 rw [List.length_append,encIs,List.map_append]
 exact h
theorem wAt_get {A:List (List UInt8)} {i:Nat} (h:i < A.length):A[i]?=some (wAt A i):=by
 unfold wAt
 rw [List.getD_eq_getElem?_getD,List.getElem?_eq_getElem h]
 rfl
theorem rp0_one:(#[.string ⟨#[]⟩, .int .i64 0, .bool false, .int .i64 0, .bool false, .int .u64 0, .int .u64 0, .bool false, .int .u64 0, .int .u64 0, .int .i64 0, .int .i64 0, .int .i64 0, .int .i64 0]:Array Value).all (·.oneCell')=true:=by simp [Value.oneCell']
def rp0:RP:=⟨⟨#[]⟩,0,false,FV.zero,0,0⟩
def RepA (PP:Option RP) (bx:Nat) (w:World) (e:Ending) (w':World):Prop:=∃ r:RP,e=.returned (.tuple #[.agg (rpC r).toArray, .bool PP.isSome])∧(∀ x,PP=some x→r=x)∧Below bx w w'
theorem readReport_any (s:List UInt8) (w:World) (hv:Vr w) (hs:s.length≤200000) :
  Calls Tryz.prog 106 #[.string (strL s)] w (RepA (repO (spl 32 s)) w.heap.size w):=by
 have HP:Hid (Blk (w.alloc (.cells #[.string ⟨#[]⟩, .int .i64 0, .bool false, .int .i64 0, .bool false, .int .u64 0, .int .u64 0, .bool false, .int .u64 0, .int .u64 0, .int .i64 0, .int .i64 0, .int .i64 0, .int .i64 0] 74 (0,0))) w.heap.size 74 #[.string ⟨#[]⟩, .int .i64 0, .bool false, .int .i64 0, .bool false, .int .u64 0, .int .u64 0, .bool false, .int .u64 0, .int .u64 0, .int .i64 0, .int .i64 0, .int .i64 0, .int .i64 0]):=Lib.hid (Blk.new w _ _)
 have HB:Hid (Below w.heap.size w (w.alloc (.cells #[.string ⟨#[]⟩, .int .i64 0, .bool false, .int .i64 0, .bool false, .int .u64 0, .int .u64 0, .bool false, .int .u64 0, .int .u64 0, .int .i64 0, .int .i64 0, .int .i64 0, .int .i64 0] 74 (0,0)))):=Lib.hid (below_alloc (Below.refl _ _) _)
 have HV:=Lib.hid (hv.below (below_alloc (Below.refl _ _) (.cells #[.string ⟨#[]⟩, .int .i64 0, .bool false, .int .i64 0, .bool false, .int .u64 0, .int .u64 0, .bool false, .int .u64 0, .int .u64 0, .int .i64 0, .int .i64 0, .int .i64 0, .int .i64 0] 74 (0,0))))
 have HW:=Lib.hid fun wx (hv:Vr wx) => kWords_any s wx hv (by omega)
 have Hxs:Hid (∀ i,(wAt (spl 32 s) i).length≤200000):=Lib.hid (wAt_len hs)
 have HNo:=Lib.hid (@repO_none (spl 32 s))
 have HSo:=Lib.hid (@repO_some (spl 32 s))
 generalize repO (spl 32 s)=PP at *
 generalize (spl 32 s).contains []=CT at *
 generalize spl 32 s=A at *
 generalize strL s=SS at *
 obtain ⟨n,hn⟩:∃ n,A.length=n:=⟨_,rfl⟩
 have Hn:=Lib.hid hn
 simp only [hn] at HW HNo HSo
 clear hv hs hn
 go_enter Tryz.func106,Tryz.ntmps106
 go_upto_region 1 with fail
 generalize w.alloc (.cells #[.string ⟨#[]⟩, .int .i64 0, .bool false, .int .i64 0, .bool false, .int .u64 0, .int .u64 0, .bool false, .int .u64 0, .int .u64 0, .int .i64 0, .int .i64 0, .int .i64 0, .int .i64 0] 74 (0,0))=w1 at *
 obtain ⟨bx,hbx⟩:∃ q,w.heap.size=q:=⟨_,rfl⟩
 have Hbx:=Lib.hid hbx
 rw [hbx] at HP HB ⊢
 clear hbx
 have HRet:Hid (∀ wx,Blk wx bx 74 #[.string ⟨#[]⟩, .int .i64 0, .bool false, .int .i64 0, .bool false, .int .u64 0, .int .u64 0, .bool false, .int .u64 0, .int .u64 0, .int .i64 0, .int .i64 0, .int .i64 0, .int .i64 0]→Below bx w wx→∀ vs:Array Value,Below bx w (wx.setRow bx vs)):=Lib.hid fun wx hp hb vs => by have h:=Hbx.out;subst h;exact belowRow hb (Nat.le_refl _) _
 have HWx:=Lib.hid (HW.out w1 HV.out)
 clear HW
 go_wp2_with fail
 refine HWx.out.mono ?_
 rintro e w2 ⟨g,rfl,hr,hb⟩
 have hgw:=hr.1
 have HR2:=Lib.hid hr
 have HP2:=Lib.hid (HP.out.below hb HP.out.lt)
 have HB2:=Lib.hid (HB.out.trans (hb.mono (Nat.le_of_lt HP.out.lt)))
 have HV2:=Lib.hid (HV.out.below hb)
 clear hb hr HP HB HV HWx
 have HEx:Hid (∀ wx,Blk wx bx 74 #[.string ⟨#[]⟩, .int .i64 0, .bool false, .int .i64 0, .bool false, .int .u64 0, .int .u64 0, .bool false, .int .u64 0, .int .u64 0, .int .i64 0, .int .i64 0, .int .i64 0, .int .i64 0]∧Below bx w wx→PP=none→RepA PP bx w (.returned (.tuple #[.agg #[.string ⟨#[]⟩, .int .i64 0, .bool false, .int .i64 0, .bool false, .int .u64 0, .int .u64 0, .bool false, .int .u64 0, .int .u64 0, .int .i64 0, .int .i64 0, .int .i64 0, .int .i64 0], .bool false])) (wx.setRow bx #[.string ⟨#[]⟩, .int .i64 0, .bool false, .int .i64 0, .bool false, .int .u64 0, .int .u64 0, .bool false, .int .u64 0, .int .u64 0, .int .i64 0, .int .i64 0, .int .i64 0, .int .i64 0])):=Lib.hid fun wx hk h => by
  subst h
  exact ⟨rp0,rfl,(fun x hx => by cases hx),HRet.out wx hk.1 hk.2 #[.string ⟨#[]⟩, .int .i64 0, .bool false, .int .i64 0, .bool false, .int .u64 0, .int .u64 0, .bool false, .int .u64 0, .int .u64 0, .int .i64 0, .int .i64 0, .int .i64 0, .int .i64 0]⟩
 have HK2:=Lib.hid (And.intro HP2.out HB2.out)
 clear HP2 HB2
 go_upto_region 2 with fail
 go_cut [39] (fun c wx => w2=wx∧∃ b:Bool,c=.bool b∧Hid (b=true→PP=none)∧Hid (b=false→n=10∧(wAt A 2=[105,110] ∨ wAt A 2=[111,117,116])∧CT=false))
 case first =>
  cases CT
  case true =>
   have HPP:=Lib.hid (HNo.out (.inl rfl))
   clear HNo HSo HEx HRet HK2
   go_wp2_with fail
   go_meet
   case rel => exact ⟨rfl,true,rfl,Lib.hid fun _ => HPP.out,Lib.hid fun h => by cases h⟩
  by_cases h10:n=10
  case neg =>
   have hn4:¬ ((n:Int)=10):=by omega
   have hn5:((n:Int) != 10)=true:=by simpa using hn4
   have HPP:=Lib.hid (HNo.out (.inr (.inl h10)))
   clear HNo HSo HEx HRet HK2 h10
   go_wp2_with fail
   go_meet
   case rel => exact ⟨rfl,true,rfl,Lib.hid fun _ => HPP.out,Lib.hid fun h => by cases h⟩
  subst h10
  have c2:=HR2.out.2 2 _ (wAt_get (by rw [Hn.out];decide))
  have hse2:=strL_list (wAt A 2)
  have HPW:Hid (¬ (wAt A 2=[105,110] ∨ wAt A 2=[111,117,116])→PP=none):=Lib.hid fun h => HNo.out (.inr (.inr (.inl h)))
  clear HNo HSo HEx HRet HK2
  obtain ⟨IN,hIN⟩:∃ b,(wAt A 2 == [105,110])=b:=⟨_,rfl⟩
  obtain ⟨OU,hOU⟩:∃ b,(wAt A 2 == [111,117,116])=b:=⟨_,rfl⟩
  have HIN:=Lib.hid hIN
  have HOU:=Lib.hid hOU
  generalize hY:wAt A 2=Y at c2 hse2 hIN hOU
  clear hY
  obtain ⟨SY,hSY⟩:∃ q,strL Y=q:=⟨_,rfl⟩
  rw [hSY] at c2 hse2
  clear hSY
  cases IN
  case true =>
   have HWY:Hid (wAt A 2=[105,110]):=Lib.hid (by simpa using HIN.out)
   go_wp2_with fail
   go_meet
   case rel => exact ⟨rfl,false,rfl,Lib.hid fun h => (by cases h),Lib.hid fun _ => ⟨by trivial, .inl HWY.out,by trivial⟩⟩
  cases OU
  case true =>
   have HWY:Hid (wAt A 2=[111,117,116]):=Lib.hid (by simpa using HOU.out)
   go_wp2_with fail
   go_meet
   case rel => exact ⟨rfl,false,rfl,Lib.hid fun h => (by cases h),Lib.hid fun _ => ⟨by trivial, .inr HWY.out,by trivial⟩⟩
  have HWY:Hid (PP=none):=Lib.hid (HPW.out (fun h => h.elim (by simpa using HIN.out) (by simpa using HOU.out)))
  go_wp2_with fail
  go_meet
  case rel => exact ⟨rfl,true,rfl,Lib.hid fun _ => HWY.out,Lib.hid fun h => by cases h⟩
 case rest =>
  obtain ⟨rfl,b,rfl,HBt,HBf⟩:=hcut
  cases b
  case true =>
   have HPP:=Lib.hid (HBt.out rfl)
   have HF:=Lib.hid (HEx.out _ HK2.out (HPP.out))
   have HS:=Lib.hid (HK2.out.1.row #[.string ⟨#[]⟩, .int .i64 0, .bool false, .int .i64 0, .bool false, .int .u64 0, .int .u64 0, .bool false, .int .u64 0, .int .u64 0, .int .i64 0, .int .i64 0, .int .i64 0, .int .i64 0])
   clear HNo HSo HEx HRet
   go_wp2_with (first | (refine wpList_store_row rfl 74 (.tmp 2) (.tmp 40) rfl bx #[.string ⟨#[]⟩, .int .i64 0, .bool false, .int .i64 0, .bool false, .int .u64 0, .int .u64 0, .bool false, .int .u64 0, .int .u64 0, .int .i64 0, .int .i64 0, .int .i64 0, .int .i64 0] rfl rfl 74 #[.string ⟨#[]⟩, .int .i64 0, .bool false, .int .i64 0, .bool false, .int .u64 0, .int .u64 0, .bool false, .int .u64 0, .int .u64 0, .int .i64 0, .int .i64 0, .int .i64 0, .int .i64 0] HK2.out.1 (by kernel_rfl) rfl rp0_one ?_
                         obtain ⟨WZ,hWZ⟩:∃ q,w2.setRow bx #[.string ⟨#[]⟩, .int .i64 0, .bool false, .int .i64 0, .bool false, .int .u64 0, .int .u64 0, .bool false, .int .u64 0, .int .u64 0, .int .i64 0, .int .i64 0, .int .i64 0, .int .i64 0]=q:=⟨_,rfl⟩
                         rw [hWZ] at HF HS ⊢
                         clear hWZ
                         have d0:=HS.out.cell 0
                         have d1:=HS.out.cell 1
                         have d2:=HS.out.cell 2
                         have d3:=HS.out.cell 3
                         have d4:=HS.out.cell 4
                         have d5:=HS.out.cell 5
                         have d6:=HS.out.cell 6
                         have d7:=HS.out.cell 7
                         have d8:=HS.out.cell 8
                         have d9:=HS.out.cell 9
                         have d10:=HS.out.cell 10
                         have d11:=HS.out.cell 11
                         have d12:=HS.out.cell 12
                         have d13:=HS.out.cell 13
                         simp at d0 d1 d2 d3 d4 d5 d6 d7 d8 d9 d10 d11 d12 d13))
   refine bodyPost_ret (v:=.tuple #[.agg #[.string ⟨#[]⟩, .int .i64 0, .bool false, .int .i64 0, .bool false, .int .u64 0, .int .u64 0, .bool false, .int .u64 0, .int .u64 0, .int .i64 0, .int .i64 0, .int .i64 0, .int .i64 0], .bool false]) (by simp [results,Tryz.results106,go_sem, *]) rfl (by rw [Hbx.out];exact HF.out)
  obtain ⟨h10,hway,hct⟩:=HBf.out rfl
  subst h10 hct
  have HWay:=Lib.hid hway
  clear HBt HBf hway
  have HI3:Hid (RdInts (w2.alloc (.cells #[.int .i64 0, .int .i64 3, .int .i64 6, .int .i64 7, .int .i64 8, .int .i64 9] 3 (0,0))) w2.heap.size 0 6 [0,3,6,7,8,9]):=Lib.hid (rdInts_new w2 _ [0,3,6,7,8,9] _ rfl)
  have HA3:Hid (Below w2.heap.size w2 (w2.alloc (.cells #[.int .i64 0, .int .i64 3, .int .i64 6, .int .i64 7, .int .i64 8, .int .i64 9] 3 (0,0)))):=Lib.hid (below_alloc (Below.refl _ _) _)
  go_wp2_with fail
  generalize w2.alloc (.cells #[.int .i64 0, .int .i64 3, .int .i64 6, .int .i64 7, .int .i64 8, .int .i64 9] 3 (0,0))=w3 at *
  have HV3:=Lib.hid (HV2.out.below HA3.out)
  have HR3:=Lib.hid (HR2.out.below HA3.out)
  have HK3:Hid (Blk w3 bx 74 #[.string ⟨#[]⟩, .int .i64 0, .bool false, .int .i64 0, .bool false, .int .u64 0, .int .u64 0, .bool false, .int .u64 0, .int .u64 0, .int .i64 0, .int .i64 0, .int .i64 0, .int .i64 0]∧Below bx w w3):=Lib.hid ⟨HK2.out.1.below HA3.out HK2.out.1.lt,HK2.out.2.trans (HA3.out.mono (Nat.le_of_lt HK2.out.1.lt))⟩
  obtain ⟨gi,hgi⟩:∃ q,w2.heap.size=q:=⟨_,rfl⟩
  rw [hgi] at HI3 ⊢
  clear HV2 HR2 HK2 HA3 hgi hgw
  have hg3:=HR3.out.1
  go_loopw [6,43] (fun nv i wr => ∃ k:Nat,k≤6∧i=.int .i64 (k:Int)∧Hid (OwnI wr w3.heap.size nv (numsV A k))∧Hid (numsOk A k=true)∧Hid (Below w3.heap.size w3 wr)) (fun _ i _ => 6 - (intOf i).toNat)
  case atStart => exact ⟨0,Nat.zero_le _,rfl,Lib.hid (OwnI.nil _ _),Lib.hid rfl,Lib.hid (Below.refl _ _)⟩
  case round =>
   obtain ⟨k,hk,rfl,HO,HNk,HB⟩:=hrel
   by_cases hlt:k < 6
   ·obtain ⟨ix,hix⟩:∃ ix,numIx[k]?=some ix:=⟨_,List.getElem?_eq_getElem hlt⟩
    have hix10:ix < 10:=numIx_lt ix (List.mem_of_getElem? hix)
    have q1:=(HI3.out.later HB.out).2.2 k hlt
    have q2:=(HR3.out.below HB.out).2 ix _ (wAt_get (by rw [Hn.out];exact hix10))
    rw [numIx_getD hix,Nat.zero_add] at q1
    have HNu:=Lib.hid (number_any (wAt A ix) 13 wr (by have:=Hxs.out ix;omega) (by decide))
    have HS1:=Lib.hid (numsOk_succ (A:=A) hix)
    have HS2:=Lib.hid (numsV_succ (A:=A) hix)
    have Hl6:Hid ((numsV A k).length=k):=Lib.hid (numsV_len (by omega))
    generalize numOk (wAt A ix) 13=OK at *
    obtain ⟨VV,hVV⟩:∃ q,(if OK=true then numV (wAt A ix) else 0)=q:=⟨_,rfl⟩
    rw [hVV] at HNu
    have HVV:=Lib.hid hVV
    clear hVV hix
    generalize strL (wAt A ix)=SX at *
    go_wp2_with fail
    refine HNu.out.mono ?_
    rintro e w4 ⟨rfl,hb⟩
    have HB4:=Lib.hid (HB.out.trans (hb.mono HB.out.size))
    have HO4:=Lib.hid (HO.out.later hb)
    clear hb HNu q1 q2 HB HO
    cases OK
    ·have HPP:=Lib.hid (HNo.out (.inr (.inr (.inr (.inl (numsOk_mono (k:=k + 1) (by omega) (by rw [HS1.out];simp)))))))
     have HK4:Hid (Blk w4 bx 74 #[.string ⟨#[]⟩, .int .i64 0, .bool false, .int .i64 0, .bool false, .int .u64 0, .int .u64 0, .bool false, .int .u64 0, .int .u64 0, .int .i64 0, .int .i64 0, .int .i64 0, .int .i64 0]∧Below bx w w4):=Lib.hid ⟨HK3.out.1.below HB4.out HK3.out.1.lt,HK3.out.2.trans (HB4.out.mono (Nat.le_of_lt HK3.out.1.lt))⟩
     clear HO4 HS1 HS2 HVV HNk HI3 HR3 HV3 HB4 HK3
     have HF:=Lib.hid (HEx.out _ HK4.out (HPP.out))
     have HS:=Lib.hid (HK4.out.1.row #[.string ⟨#[]⟩, .int .i64 0, .bool false, .int .i64 0, .bool false, .int .u64 0, .int .u64 0, .bool false, .int .u64 0, .int .u64 0, .int .i64 0, .int .i64 0, .int .i64 0, .int .i64 0])
     clear HNo HSo HEx HRet
     go_wp2_with (first | (refine wpList_store_row rfl 74 (.tmp 2) (.tmp 57) rfl bx #[.string ⟨#[]⟩, .int .i64 0, .bool false, .int .i64 0, .bool false, .int .u64 0, .int .u64 0, .bool false, .int .u64 0, .int .u64 0, .int .i64 0, .int .i64 0, .int .i64 0, .int .i64 0] rfl rfl 74 #[.string ⟨#[]⟩, .int .i64 0, .bool false, .int .i64 0, .bool false, .int .u64 0, .int .u64 0, .bool false, .int .u64 0, .int .u64 0, .int .i64 0, .int .i64 0, .int .i64 0, .int .i64 0] HK4.out.1 (by kernel_rfl) rfl rp0_one ?_
                           obtain ⟨WZ,hWZ⟩:∃ q,w4.setRow bx #[.string ⟨#[]⟩, .int .i64 0, .bool false, .int .i64 0, .bool false, .int .u64 0, .int .u64 0, .bool false, .int .u64 0, .int .u64 0, .int .i64 0, .int .i64 0, .int .i64 0, .int .i64 0]=q:=⟨_,rfl⟩
                           rw [hWZ] at HF HS ⊢
                           clear hWZ
                           have d0:=HS.out.cell 0
                           have d1:=HS.out.cell 1
                           have d2:=HS.out.cell 2
                           have d3:=HS.out.cell 3
                           have d4:=HS.out.cell 4
                           have d5:=HS.out.cell 5
                           have d6:=HS.out.cell 6
                           have d7:=HS.out.cell 7
                           have d8:=HS.out.cell 8
                           have d9:=HS.out.cell 9
                           have d10:=HS.out.cell 10
                           have d11:=HS.out.cell 11
                           have d12:=HS.out.cell 12
                           have d13:=HS.out.cell 13
                           simp at d0 d1 d2 d3 d4 d5 d6 d7 d8 d9 d10 d11 d12 d13))
     refine bodyPost_ret (v:=.tuple #[.agg #[.string ⟨#[]⟩, .int .i64 0, .bool false, .int .i64 0, .bool false, .int .u64 0, .int .u64 0, .bool false, .int .u64 0, .int .u64 0, .int .i64 0, .int .i64 0, .int .i64 0, .int .i64 0], .bool false]) (by simp [results,Tryz.results106,go_sem, *]) rfl (by rw [Hbx.out];exact HF.out)
    ·have hV:numV (wAt A ix)=VV:=by have:=HVV.out;rwa [if_pos rfl] at this
     rw [hV] at HS2
     have HOr:Hid (w4.ownsRow w3.heap.size 3 1 u6 k (encIs (numsV A k))):=Lib.hid (by
      have h:=HO4.out
      unfold OwnI at h
      rwa [Hl6.out] at h)
     clear hV HVV HO4
     go_wp2_with (at_builtin;refine wpList_app intE rfl (.tmp 58) (.tmp 60) rfl rfl (World.ownsRow.alloc HOr.out _) rfl (src_one_new _ _ _) ?c1 ?c2 ?c3 ?c4 ?_)
     case c1 => first | rfl | (intro u hu;simp at hu;subst hu;rfl)
     case c2 => unfold maxLen;omega
     case c3 => omega
     case c4 => have:=HB4.out.size;simp;omega
     intro v5 w5 hO5 hG5
     have HO5:Hid (OwnI w5 w3.heap.size v5 (numsV A (k + 1))):=Lib.hid (by rw [HS2.out];exact ownI_snoc (by rw [Hl6.out];exact hO5))
     have HB5:Hid (Below w3.heap.size w3 w5):=Lib.hid ((Below.alloc HB4.out HB4.out.size _).trans (hG5.below (by have:=HB4.out.size;simp;omega) (own_base HOr.out)))
     have HN5:Hid (numsOk A (k + 1)=true):=Lib.hid (by rw [HS1.out,HNk.out];rfl)
     clear hO5 hG5 HOr HB4 HNk HS1 HS2 Hl6
     go_wp2_with fail
     exact ⟨⟨k + 1,by omega,by go_num,HO5,HN5,HB5⟩,by simp [intOf];omega⟩
   ·obtain rfl:k=6:=by omega
    have hl6:(numsV A 6).length=6:=numsV_len (Nat.le_refl _)
    obtain ⟨gn,cn,cur,hv6,hbn,hgn,hri,hcn,hmn⟩:=HO.out.slice (by rw [hl6];decide)
    rw [hl6] at hv6 hri hcn
    subst hv6
    have hNV:numsV A 6=[numV (wAt A 0),numV (wAt A 3),numV (wAt A 6),numV (wAt A 7),numV (wAt A 8),numV (wAt A 9)]:=rfl
    rw [hNV] at hri
    have HNN:=Lib.hid hri
    have HRr:=Lib.hid (HR3.out.below HB.out)
    have HVr:=Lib.hid (HV3.out.below HB.out)
    have HKr:Hid (Blk wr bx 74 #[.string ⟨#[]⟩, .int .i64 0, .bool false, .int .i64 0, .bool false, .int .u64 0, .int .u64 0, .bool false, .int .u64 0, .int .u64 0, .int .i64 0, .int .i64 0, .int .i64 0, .int .i64 0]∧Below bx w wr):=Lib.hid ⟨HK3.out.1.below HB.out HK3.out.1.lt,HK3.out.2.trans (HB.out.mono (Nat.le_of_lt HK3.out.1.lt))⟩
    have HP4:Hid ((parseF (wAt A 4)).isSome=false→PP=none):=Lib.hid fun h => HNo.out (.inr (.inr (.inr (.inr (.inl (by simpa using h))))))
    have HP5:Hid ((parseF (wAt A 5)).isSome=false→PP=none):=Lib.hid fun h => HNo.out (.inr (.inr (.inr (.inr (.inr (by simpa using h))))))
    have HOk:Hid ((parseF (wAt A 4)).isSome=true→(parseF (wAt A 5)).isSome=true→PP=some (repV A)):=Lib.hid fun h h' => HSo.out (by trivial) (by trivial) HWay.out HNk.out (fun e => by rw [e] at h;cases h) (fun e => by rw [e] at h';cases h')
    have HRV:Hid (rpC (repV A)=[.string (strL (wAt A 1)), .int .i64 (numV (wAt A 0)), .bool (wAt A 2 == [111,117,116]), .int .i64 (numV (wAt A 3)), .bool (adO (parseF (wAt A 4))).1, .int .u64 ((adO (parseF (wAt A 4))).2.1:Int), .int .u64 ((adO (parseF (wAt A 4))).2.2:Int), .bool (adO (parseF (wAt A 5))).1, .int .u64 ((adO (parseF (wAt A 5))).2.1:Int), .int .u64 ((adO (parseF (wAt A 5))).2.2:Int), .int .i64 (numV (wAt A 6)), .int .i64 (numV (wAt A 7)), .int .i64 (numV (wAt A 8)), .int .i64 (numV (wAt A 9))]):=Lib.hid rfl
    have HL4:=Lib.hid fun wx (hv:Vr wx) => parse_any (wAt A 4) wx hv (by have:=Hxs.out 4;omega)
    have HL5:=Lib.hid fun wx (hv:Vr wx) => parse_any (wAt A 5) wx hv (by have:=Hxs.out 5;omega)
    simp only [lsV_eq] at HL4 HL5
    clear HNo HSo HWay HNk HI3 hl6 hNV hri hgn hbn HO HB HR3 HV3 HK3 HEx
    generalize (parseF (wAt A 4)).isSome=S4 at *
    generalize (parseF (wAt A 5)).isSome=S5 at *
    generalize adO (parseF (wAt A 4))=q4 at *
    generalize adO (parseF (wAt A 5))=q5 at *
    obtain ⟨x4,h4,l4⟩:=q4
    obtain ⟨x5,h5,l5⟩:=q5
    simp only at HL4 HL5 HRV
    obtain ⟨e4,he4⟩:∃ q:Int,(if S4=true then 0 else 9)=q:=⟨_,rfl⟩
    obtain ⟨e5,he5⟩:∃ q:Int,(if S5=true then 0 else 9)=q:=⟨_,rfl⟩
    rw [he4] at HL4
    rw [he5] at HL5
    have HE4:Hid ((S4=true∧e4=0) ∨ (S4=false∧e4=9)):=Lib.hid (by cases S4 <;> simp at he4 <;> simp [← he4])
    have HE5:Hid ((S5=true∧e5=0) ∨ (S5=false∧e5=9)):=Lib.hid (by cases S5 <;> simp at he5 <;> simp [← he5])
    clear he4 he5
    generalize numV (wAt A 0)=n0 at *
    generalize numV (wAt A 3)=n3 at *
    generalize numV (wAt A 6)=n6 at *
    generalize numV (wAt A 7)=n7 at *
    generalize numV (wAt A 8)=n8 at *
    generalize numV (wAt A 9)=n9 at *
    have c4:=HRr.out.2 4 _ (wAt_get (by rw [Hn.out];decide))
    generalize strL (wAt A 4)=T4 at *
    go_wp2_with fail
    refine (HL4.out _ HVr.out).mono ?_
    rintro e w4 ⟨rfl,hb⟩
    have hb5:Below wr.heap.size wr (w4.alloc (.cells #[.bool x4, .int .u64 h4, .int .u64 l4] 28 (0,0))):=below_alloc hb _
    have HX4:Hid (Blk (w4.alloc (.cells #[.bool x4, .int .u64 h4, .int .u64 l4] 28 (0,0))) w4.heap.size 28 #[.bool x4, .int .u64 h4, .int .u64 l4]):=Lib.hid (Blk.new w4 _ _)
    have HA5:=Lib.hid hb5
    clear hb hb5 c4 HL4
    go_upto_region 14 with fail
    generalize w4.alloc (.cells #[.bool x4, .int .u64 h4, .int .u64 l4] 28 (0,0))=w5 at *
    obtain ⟨b4,hb4⟩:∃ q,w4.heap.size=q:=⟨_,rfl⟩
    rw [hb4] at HX4 ⊢
    clear hb4
    have c5:=(HRr.out.below HA5.out).2 5 _ (wAt_get (by rw [Hn.out];decide))
    generalize strL (wAt A 5)=T5 at *
    go_wp2_with fail
    refine (HL5.out _ (HVr.out.below HA5.out)).mono ?_
    rintro e w6 ⟨rfl,hb⟩
    have hb7:Below w5.heap.size w5 (w6.alloc (.cells #[.bool x5, .int .u64 h5, .int .u64 l5] 28 (0,0))):=below_alloc hb _
    have HX5:Hid (Blk (w6.alloc (.cells #[.bool x5, .int .u64 h5, .int .u64 l5] 28 (0,0))) w6.heap.size 28 #[.bool x5, .int .u64 h5, .int .u64 l5]):=Lib.hid (Blk.new w6 _ _)
    have HA7:=Lib.hid hb7
    clear hb hb7 c5 HL5
    go_upto_region 15 with fail
    generalize w6.alloc (.cells #[.bool x5, .int .u64 h5, .int .u64 l5] 28 (0,0))=w7 at *
    obtain ⟨b5,hb5⟩:∃ q,w6.heap.size=q:=⟨_,rfl⟩
    rw [hb5] at HX5 ⊢
    clear hb5
    have HK7:Hid (Blk w7 bx 74 #[.string ⟨#[]⟩, .int .i64 0, .bool false, .int .i64 0, .bool false, .int .u64 0, .int .u64 0, .bool false, .int .u64 0, .int .u64 0, .int .i64 0, .int .i64 0, .int .i64 0, .int .i64 0]∧Below bx w w7):=Lib.hid ⟨(HKr.out.1.below HA5.out HKr.out.1.lt).below HA7.out (HKr.out.1.below HA5.out HKr.out.1.lt).lt,HKr.out.2.trans ((HA5.out.trans (HA7.out.mono HA5.out.size)).mono (Nat.le_of_lt HKr.out.1.lt))⟩
    have HR7:=Lib.hid ((HRr.out.below HA5.out).below HA7.out)
    have HN7:=Lib.hid ((HNN.out.later HA5.out).later HA7.out)
    have HX7:=Lib.hid (HX4.out.below HA7.out HX4.out.lt)
    clear HKr HRr HNN HX4 HA5 HA7 HVr
    have HD:Hid (∀ wx,Below w7.heap.size w7 wx→wx.cell? ⟨gn,1,none⟩=some (.int .i64 n3)∧wx.cell? ⟨gn,2,none⟩=some (.int .i64 n6)∧wx.cell? ⟨gn,3,none⟩=some (.int .i64 n7)):=Lib.hid fun wx hb => by
     have q:=(HN7.out.later hb).2.2
     have a1:=q 1 (by decide)
     have a2:=q 2 (by decide)
     have a3:=q 3 (by decide)
     rw [Nat.zero_add] at a1 a2 a3
     exact ⟨a1,a2,a3⟩
    have HG:Hid (∀ wx,Below w7.heap.size w7 wx→(wx.cell? ⟨b4,0,none⟩=some (.bool x4)∧wx.cell? ⟨b4,1,none⟩=some (.int .u64 h4)∧wx.cell? ⟨b4,2,none⟩=some (.int .u64 l4))∧wx.cell? ⟨b5,0,none⟩=some (.bool x5)∧wx.cell? ⟨b5,1,none⟩=some (.int .u64 h5)∧wx.cell? ⟨b5,2,none⟩=some (.int .u64 l5)):=Lib.hid fun wx hb => by
     have q:=HX7.out.below hb HX7.out.lt
     have q':=HX5.out.below hb HX5.out.lt
     exact ⟨⟨q.cell 0,q.cell 1,q.cell 2⟩,q'.cell 0,q'.cell 1,q'.cell 2⟩
    refine wp_region_inv 13 0 (rmR w7.heap.size [.slice (some ⟨gn,0,none⟩) 6 cn, .pointer (some ⟨gn,1,none⟩), .int .i64 n3, .agg #[.bool x4, .int .u64 h4, .int .u64 l4], .agg #[.bool x5, .int .u64 h5, .int .u64 l5], .slice (some ⟨gn,0,none⟩) 6 cn, .pointer (some ⟨gn,2,none⟩), .int .i64 n6, .slice (some ⟨gn,0,none⟩) 6 cn, .pointer (some ⟨gn,3,none⟩), .int .i64 n7, .agg #[.int .i64 n3, .bool x4, .int .u64 h4, .int .u64 l4, .bool x5, .int .u64 h5, .int .u64 l5, .int .i64 n6, .int .i64 n7]]) (fun _ wx => Below w7.heap.size w7 wx) (fun u v => Below u.heap.size u v) (fun _ => 0)
     (by kernel_rfl) (by kernel_rfl) (by decide) rmR_keep (below_drew (Below.refl _ _)) ?_
    apply Exists.intro
    refine ⟨fun T => ?_,?_,?_⟩
    ·simp only [setAll,List.take_succ_cons,List.take_zero,Act.put,List.setIfInBounds_toArray,List.set_cons_succ,List.set_cons_zero,Nat.reduceAdd]
     exact rfl
    ·clear HR7 HN7 HX7 HX5 HK7 HRet HOk HP4 HP5 HRV HE4 HE5
     go_light
     refine ⟨?_,?_,?_,?_,?_,?_,?_,?_,?_,?_,?_,?_,?_,trivial⟩
     all_goals (intro T wx m hC hn hp;dsimp only at hn ⊢;unfold Op1)
     all_goals try simp only [AfterAll,Region.binds,rmR,Nat.reduceEqDiff,if_false,List.getD_cons_zero,List.getD_cons_succ,and_true] at hp
     all_goals obtain ⟨a1,a2,a3⟩:=HD.out wx hC
     all_goals obtain ⟨⟨z1,z2,z3⟩,z4,z5,z6⟩:=HG.out wx hC
     iterate 12
      ·try simp only [hp]
       go_simp
       first
        | exact ⟨rfl,hC,Below.refl _ _⟩
        | exact ⟨rfl,Below.refl _ _⟩
     ·go_simp
      exact ⟨⟨wx.heap.size,rfl,hC.size,Blk.new wx _ _⟩,below_alloc hC _,below_alloc (Below.refl _ _) _⟩
    ·intro T w8 ⟨m,hm,hC⟩ hR
     have e11:T 11=.agg #[.int .i64 n3, .bool x4, .int .u64 h4, .int .u64 l4, .bool x5, .int .u64 h5, .int .u64 l5, .int .i64 n6, .int .i64 n7]:=hR 11 (by omega)
     obtain ⟨B,e12,hlo,hBk⟩:∃ B,T 12=.pointer (some ⟨B,0,none⟩)∧w7.heap.size≤B∧Blk w8 B 72 #[.int .i64 0, .bool false, .int .u64 0, .int .u64 0, .bool false, .int .u64 0, .int .u64 0, .int .i64 0, .int .i64 0]:=hR 12 (by omega)
     simp only [List.drop_succ_cons,List.drop_zero]
     rw [e11,e12]
     have HC8:=Lib.hid hC
     have HBk:=Lib.hid hBk
     have HB9:Hid (Blk (w8.setRow B #[.int .i64 n3, .bool x4, .int .u64 h4, .int .u64 l4, .bool x5, .int .u64 h5, .int .u64 l5, .int .i64 n6, .int .i64 n7]) B 72 #[.int .i64 n3, .bool x4, .int .u64 h4, .int .u64 l4, .bool x5, .int .u64 h5, .int .u64 l5, .int .i64 n6, .int .i64 n7]):=Lib.hid (hBk.row _)
     have HC9:Hid (Below w7.heap.size w7 (w8.setRow B #[.int .i64 n3, .bool x4, .int .u64 h4, .int .u64 l4, .bool x5, .int .u64 h5, .int .u64 l5, .int .i64 n6, .int .i64 n7])):=Lib.hid (belowRow hC hlo _)
     clear hR e11 e12 hC hBk HD HG
     go_upto_region 16 with (refine wpList_store_row rfl 72 (.tmp 15) (.tmp 88) rfl B #[.int .i64 n3, .bool x4, .int .u64 h4, .int .u64 l4, .bool x5, .int .u64 h5, .int .u64 l5, .int .i64 n6, .int .i64 n7] rfl rfl 72 #[.int .i64 0, .bool false, .int .u64 0, .int .u64 0, .bool false, .int .u64 0, .int .u64 0, .int .i64 0, .int .i64 0] HBk.out (by kernel_rfl) rfl (by simp [Value.oneCell']) ?_)
     clear HBk HC8
     generalize w8.setRow B #[.int .i64 n3, .bool x4, .int .u64 h4, .int .u64 l4, .bool x5, .int .u64 h5, .int .u64 l5, .int .i64 n6, .int .i64 n7]=w9 at *
     have HK9:Hid (Blk w9 bx 74 #[.string ⟨#[]⟩, .int .i64 0, .bool false, .int .i64 0, .bool false, .int .u64 0, .int .u64 0, .bool false, .int .u64 0, .int .u64 0, .int .i64 0, .int .i64 0, .int .i64 0, .int .i64 0]∧Below bx w w9):=Lib.hid ⟨HK7.out.1.below HC9.out HK7.out.1.lt,HK7.out.2.trans (HC9.out.mono (Nat.le_of_lt HK7.out.1.lt))⟩
     have HR9:=Lib.hid (HR7.out.below HC9.out)
     have HN9:=Lib.hid (HN7.out.later HC9.out)
     have w1e:=wAt_get (A:=A) (i:=1) (by rw [Hn.out];decide)
     have w2e:=wAt_get (A:=A) (i:=2) (by rw [Hn.out];decide)
     have HD:Hid (∀ wx,Below w9.heap.size w9 wx→wx.cell? ⟨gn,0,none⟩=some (.int .i64 n0)∧wx.cell? ⟨gn,4,none⟩=some (.int .i64 n8)∧wx.cell? ⟨gn,5,none⟩=some (.int .i64 n9)∧wx.cell? ⟨g,1,none⟩=some (.string (strL (wAt A 1)))∧wx.cell? ⟨g,2,none⟩=some (.string (strL (wAt A 2)))):=Lib.hid fun wx hb => by
      have q:=(HN9.out.later hb).2.2
      have a0:=q 0 (by decide)
      have a4:=q 4 (by decide)
      have a5:=q 5 (by decide)
      rw [Nat.zero_add] at a0 a4 a5
      have q':=(HR9.out.below hb).2
      exact ⟨a0,a4,a5,q' 1 _ w1e,q' 2 _ w2e⟩
     have HG:Hid (∀ wx,Below w9.heap.size w9 wx→wx.cell? ⟨B,0,none⟩=some (.int .i64 n3)∧wx.cell? ⟨B,1,none⟩=some (.bool x4)∧wx.cell? ⟨B,2,none⟩=some (.int .u64 h4)∧wx.cell? ⟨B,3,none⟩=some (.int .u64 l4)∧wx.cell? ⟨B,4,none⟩=some (.bool x5)∧wx.cell? ⟨B,5,none⟩=some (.int .u64 h5)∧wx.cell? ⟨B,6,none⟩=some (.int .u64 l5)∧wx.cell? ⟨B,7,none⟩=some (.int .i64 n6)∧wx.cell? ⟨B,8,none⟩=some (.int .i64 n7)):=Lib.hid fun wx hb => by
      have q:=HB9.out.below hb HB9.out.lt
      exact ⟨q.cell 0,q.cell 1,q.cell 2,q.cell 3,q.cell 4,q.cell 5,q.cell 6,q.cell 7,q.cell 8⟩
     have hse2:=strL_list (wAt A 2)
     obtain ⟨OB,hOB⟩:∃ q,(wAt A 2 == [111,117,116])=q:=⟨_,rfl⟩
     rw [hOB] at HRV
     have hE4:(e4 == 0)=S4:=by rcases HE4.out with ⟨a,b⟩ | ⟨a,b⟩ <;> (rw [a,b];rfl)
     have hE5:(e5 == 0)=S5:=by rcases HE5.out with ⟨a,b⟩ | ⟨a,b⟩ <;> (rw [a,b];rfl)
     have HSs:Hid ((strL (wAt A 2)).toList=wAt A 2∧(wAt A 2 == [111,117,116])=OB∧(e4 == 0)=S4∧(e5 == 0)=S5):=Lib.hid ⟨hse2,hOB,hE4,hE5⟩
     clear w1e w2e hse2 hOB hE4 hE5 HE4 HE5 HN7 HR7 HX7 HX5 HK7 HB9 HC9 HN9 HR9 Hxs
     generalize strL (wAt A 1)=T1 at *
     generalize strL (wAt A 2)=T2 at *
     generalize wAt A 2=Y2 at *
     have HAns:Hid (∀ wx,Below bx w wx→RepA PP bx w (.returned (.tuple #[.agg #[.string T1, .int .i64 n0, .bool OB, .int .i64 n3, .bool x4, .int .u64 h4, .int .u64 l4, .bool x5, .int .u64 h5, .int .u64 l5, .int .i64 n6, .int .i64 n7, .int .i64 n8, .int .i64 n9], .bool (S4 && S5)])) wx):=Lib.hid fun wx hb => by
      have e:(rpC (repV A)).toArray=#[.string T1, .int .i64 n0, .bool OB, .int .i64 n3, .bool x4, .int .u64 h4, .int .u64 l4, .bool x5, .int .u64 h5, .int .u64 l5, .int .i64 n6, .int .i64 n7, .int .i64 n8, .int .i64 n9]:=by rw [HRV.out]
      cases S4
      ·have h:=HP4.out rfl
       subst h
       exact ⟨repV A,by rw [e];rfl,(fun x hx => by cases hx),hb⟩
      ·cases S5
       ·have h:=HP5.out rfl
        subst h
        exact ⟨repV A,by rw [e];rfl,(fun x hx => by cases hx),hb⟩
       ·have h:=HOk.out rfl rfl
        subst h
        exact ⟨repV A,by rw [e];rfl,(fun x hx => by injection hx with hx),hb⟩
     clear HP4 HP5 HOk HRV
     refine Lm.wp_region_lim 25 1 (rnR [.slice (some ⟨g,0,none⟩) 10 10, .pointer (some ⟨g,1,none⟩), .string T1, .slice (some ⟨gn,0,none⟩) 6 cn, .pointer (some ⟨gn,0,none⟩), .int .i64 n0, .slice (some ⟨g,0,none⟩) 10 10, .pointer (some ⟨g,2,none⟩), .string T2, .bool OB, .agg #[.int .i64 n3, .bool x4, .int .u64 h4, .int .u64 l4, .bool x5, .int .u64 h5, .int .u64 l5, .int .i64 n6, .int .i64 n7], .slice (some ⟨gn,0,none⟩) 6 cn, .pointer (some ⟨gn,4,none⟩), .int .i64 n8, .slice (some ⟨gn,0,none⟩) 6 cn, .pointer (some ⟨gn,5,none⟩), .int .i64 n9, .agg #[.string T1, .int .i64 n0, .bool OB, .int .i64 n3, .bool x4, .int .u64 h4, .int .u64 l4, .bool x5, .int .u64 h5, .int .u64 l5, .int .i64 n6, .int .i64 n7, .int .i64 n8, .int .i64 n9], .int .i64 e4, .bool S4, .bool S4,(if S4=true then .int .i64 e5 else undef),(if S4=true then .bool S5 else undef), .bool (S4 && S5)]) (fun n wx => if n=0 then Below w9.heap.size w9 wx else Blk wx bx 74 #[.string T1, .int .i64 n0, .bool OB, .int .i64 n3, .bool x4, .int .u64 h4, .int .u64 l4, .bool x5, .int .u64 h5, .int .u64 l5, .int .i64 n6, .int .i64 n7, .int .i64 n8, .int .i64 n9]∧Below bx w wx) hqS (fun i => if i=24 then 1 else 0) (fun i => if i < 18 ∨ i=24 then 0 else 1)
      (by kernel_rfl) (by kernel_rfl) (by decide) (by kernel_rfl) rnR_keep (below_drew (Below.refl _ _)) ?_
     apply Exists.intro
     refine ⟨fun T => ?_,?_,?_⟩
     ·simp only [setAll,List.take_succ_cons,List.take_zero,Act.put,List.setIfInBounds_toArray,List.set_cons_succ,List.set_cons_zero,Nat.reduceAdd]
      exact rfl
     ·go_light
      refine ⟨?_,?_,?_,?_,?_,?_,?_,?_,?_,?_,?_,?_,?_,?_,?_,?_,?_,?_,?_,?_,?_,?_,?_,?_,?_,trivial⟩
      all_goals (intro T wx n hC hn hp;dsimp only at hn ⊢;unfold Op1)
      all_goals try simp only [Lm.AfterAll,Region.binds,rnR,Nat.reduceEqDiff,if_false,if_true,List.getD_cons_zero,List.getD_cons_succ,and_true] at hp
      all_goals obtain ⟨hs1,hs2,hs3,hs4⟩:=HSs.out
      iterate 18
       ·have hn0:n=0:=by simpa using hn
        subst hn0
        have hC:Below w9.heap.size w9 wx:=hC
        obtain ⟨a0,a4,a5,t1,t2⟩:=HD.out wx hC
        obtain ⟨z0,z1,z2,z3,z4,z5,z6,z7,z8⟩:=HG.out wx hC
        clear HAns HK9 HRet HD HG
        try simp only [hp]
        go_simp
        first
         | exact ⟨rfl,hC,Nat.le_refl _,Nat.zero_le _⟩
         | exact ⟨rfl,Nat.le_refl _,Nat.zero_le _⟩
      iterate 3
       ·have hn1:n≤1:=by simp at hn;omega
        clear HAns HK9 HRet HD HG
        try simp only [hp]
        go_simp
        first
         | exact ⟨rfl,hC,Nat.le_refl _,hn1⟩
         | exact ⟨rfl,Nat.le_refl _,hn1⟩
         | exact ⟨by rw [hs3];rfl,hC,Nat.le_refl _,hn1⟩
      ·have hn1:n≤1:=by simp at hn;omega
       clear HAns HK9 HRet HD HG
       replace hp:=hp.1
       cases S4
       ·exact ⟨fun hg => absurd (hp.symm.trans hg) (by intro e;cases e),fun _ => ⟨rfl,hC,Nat.le_refl _,hn1⟩⟩
       ·refine ⟨fun _ => ?_,fun hg => absurd hp hg⟩
        go_simp
        first
         | exact ⟨rfl,hC,Nat.le_refl _,hn1⟩
         | exact ⟨rfl,Nat.le_refl _,hn1⟩
      ·have hn1:n≤1:=by simp at hn;omega
       clear HAns HK9 HRet HD HG
       obtain ⟨p1,p2⟩:=hp
       replace p2:=p2.1
       cases S4
       ·exact ⟨fun hg => absurd (p2.symm.trans hg) (by intro e;cases e),fun _ => ⟨rfl,hC,Nat.le_refl _,hn1⟩⟩
       ·refine ⟨fun _ => ?_,fun hg => absurd p2 hg⟩
        rw [if_pos rfl] at p1
        simp only [p1]
        go_simp
        first
         | exact ⟨rfl,hC,Nat.le_refl _,hn1⟩
         | exact ⟨rfl,Nat.le_refl _,hn1⟩
         | exact ⟨by rw [hs4];rfl,hC,Nat.le_refl _,hn1⟩
      ·have hn1:n≤1:=by simp at hn;omega
       clear HAns HK9 HRet HD HG
       obtain ⟨p1,p2⟩:=hp
       cases S4
       ·simp only [p1,p2]
        go_simp
        first
         | exact ⟨rfl,hC,Nat.le_refl _,hn1⟩
         | exact ⟨rfl,Nat.le_refl _,hn1⟩
       ·rw [if_pos rfl] at p2
        simp only [p1,p2]
        go_simp
        first
         | exact ⟨rfl,hC,Nat.le_refl _,hn1⟩
         | exact ⟨rfl,Nat.le_refl _,hn1⟩
      ·have hn0:n=0:=by simpa using hn
       subst hn0
       have hC:Below w9.heap.size w9 wx:=hC
       have hk:=HK9.out.1.below hC HK9.out.1.lt
       have hbl:=HK9.out.2.trans (hC.mono (Nat.le_of_lt HK9.out.1.lt))
       refine Op1.store_rowR 74 (.tmp 2) (.tmp 106) rfl bx #[.string T1, .int .i64 n0, .bool OB, .int .i64 n3, .bool x4, .int .u64 h4, .int .u64 l4, .bool x5, .int .u64 h5, .int .u64 l5, .int .i64 n6, .int .i64 n7, .int .i64 n8, .int .i64 n9] rfl hp.1 74 #[.string ⟨#[]⟩, .int .i64 0, .bool false, .int .i64 0, .bool false, .int .u64 0, .int .u64 0, .bool false, .int .u64 0, .int .u64 0, .int .i64 0, .int .i64 0, .int .i64 0, .int .i64 0] hk (by kernel_rfl) rfl (by simp [Value.oneCell']) ?_
       exact ⟨rfl,⟨hk.row _,HRet.out wx hk hbl _⟩,by decide,by decide⟩
     ·intro T w10 ⟨n0',hn0,hC,hR⟩
      have e24:n0'=1:=hR 24 (by omega)
      have e23:T 23=.bool (S4 && S5):=hR 23 (by omega)
      subst e24
      rw [if_neg (by decide)] at hC
      have HF:=Lib.hid (HAns.out _ hC.2)
      have HS:=Lib.hid hC.1
      simp only [List.drop_succ_cons,List.drop_zero]
      rw [e23]
      clear hR e23 hC HAns HK9 HRet HD HG
      have d0:=HS.out.cell 0
      have d1:=HS.out.cell 1
      have d2:=HS.out.cell 2
      have d3:=HS.out.cell 3
      have d4:=HS.out.cell 4
      have d5:=HS.out.cell 5
      have d6:=HS.out.cell 6
      have d7:=HS.out.cell 7
      have d8:=HS.out.cell 8
      have d9:=HS.out.cell 9
      have d10:=HS.out.cell 10
      have d11:=HS.out.cell 11
      have d12:=HS.out.cell 12
      have d13:=HS.out.cell 13
      simp at d0 d1 d2 d3 d4 d5 d6 d7 d8 d9 d10 d11 d12 d13
      go_wp2_with fail
      refine bodyPost_ret (v:=.tuple #[.agg #[.string T1, .int .i64 n0, .bool OB, .int .i64 n3, .bool x4, .int .u64 h4, .int .u64 l4, .bool x5, .int .u64 h5, .int .u64 l5, .int .i64 n6, .int .i64 n7, .int .i64 n8, .int .i64 n9], .bool (S4 && S5)]) (by simp [results,Tryz.results106,go_sem, *]) rfl (by rw [Hbx.out];exact HF.out)
def rtR (R:Array Value) (V:List Value) (p:Nat) (v:Value) (w:World):Prop:=if p=30 then ∃ G,v=.slice (some ⟨G,0,none⟩) 1 1∧Blk w G 74 R else v=V.getD p undef
theorem rtR_keep {R:Array Value} {V:List Value} (p:Nat) (v:Value) (u w:World) (h:rtR R V p v u) (hb:Below u.heap.size u w):rtR R V p v w:=by
 unfold rtR at h ⊢
 by_cases hp:p=30
 ·rw [if_pos hp] at h ⊢
  obtain ⟨G,h1,h2⟩:=h
  exact ⟨G,h1,h2.below hb h2.lt⟩
 ·rw [if_neg hp] at h ⊢
  exact h
theorem src_blkR {α:Type} (E:Lay α) (w:World) (x:α) (cs:Array Value) (t:TypeId) (h:cs=(E.enc x).toArray) {G:Nat} (hb:Blk w G t cs):Src w (some ⟨G,0,none⟩) 1 E.K (E.enc x):=by
 subst h
 refine ⟨by rw [E.len,Nat.one_mul],fun j u hu => ⟨_,rfl,hb.lt,?_⟩⟩
 have hadd:(⟨G,0,none⟩:Addr).add j=⟨G,j,none⟩:=by unfold Addr.add;split <;> simp_all
 rw [hadd,hb.cell j,List.getElem?_toArray]
 exact hu
def RpdA (PP:Option RP) (bx:Nat) (acc:List RB) (w:World) (e:Ending) (w':World):Prop:=e=.returned (.bool PP.isSome)∧(∀ r,PP=some r→∃ hm:r.Sm, ∃ v',Blk w' bx 61 #[v']∧OwnK layRb w' (bx + 1) v' (acc ++ [⟨r,hm⟩]))∧Below bx w w'∧bx < w'.heap.size
theorem rpd1_any (bx:Nat) (acc:List RB) (s:List UInt8) (v:Value) (w:World) (hbk:Blk w bx 61 #[v]) (hO:OwnK layRb w (bx + 1) v acc) (hv:Vr w) (hs:s.length≤200000) (hacc:acc.length≤1000000) :
  Calls Tryz.prog 108 #[.string (strL s), .pointer (some ⟨bx,0,none⟩)] w (RpdA (repO (spl 32 s)) bx acc w):=by
 have HBk:=Lib.hid hbk
 have HOw:=Lib.hid hO
 have HV:=Lib.hid hv
 have hbl:=hbk.lt
 have HW:=Lib.hid (qWords_any s w hv (by omega))
 have Hxs:Hid (∀ i,(wAt (spl 32 s) i).length≤200000):=Lib.hid (wAt_len hs)
 have HNo:=Lib.hid (@repO_none (spl 32 s))
 have HSo:=Lib.hid (@repO_some (spl 32 s))
 have HSm:Hid (numsOk (spl 32 s) 6=true→(repV (spl 32 s)).Sm):=Lib.hid (repV_sm hs)
 generalize repO (spl 32 s)=PP at *
 generalize (spl 32 s).contains []=CT at *
 generalize spl 32 s=A at *
 generalize strL s=SS at *
 obtain ⟨n,hn⟩:∃ n,A.length=n:=⟨_,rfl⟩
 have Hn:=Lib.hid hn
 simp only [hn] at HW HNo HSo
 clear hv hs hn hO hbk
 have HEx:Hid (∀ wx,Below w.heap.size w wx→PP=none→RpdA PP bx acc w (.returned (.bool false)) wx):=Lib.hid fun wx hb h => by
  subst h
  exact ⟨rfl,(fun r hr => by cases hr),hb.mono (Nat.le_of_lt hbl),Nat.lt_of_lt_of_le hbl hb.size⟩
 go_enter Tryz.func108,Tryz.ntmps108
 go_wp2_with fail
 refine HW.out.mono ?_
 rintro e w2 ⟨g,rfl,hr,hb⟩
 have hgw:=hr.1
 have HR2:=Lib.hid hr
 have HB2:=Lib.hid hb
 have HV2:=Lib.hid (HV.out.below hb)
 clear hb hr HW
 go_upto_region 2 with fail
 go_cut [38] (fun c wx => w2=wx∧∃ b:Bool,c=.bool b∧Hid (b=true→PP=none)∧Hid (b=false→n=10∧(wAt A 2=[105,110] ∨ wAt A 2=[111,117,116])∧CT=false))
 case first =>
  cases CT
  case true =>
   have HPP:=Lib.hid (HNo.out (.inl rfl))
   clear HNo HSo HEx
   go_wp2_with fail
   go_meet
   case rel => exact ⟨rfl,true,rfl,Lib.hid fun _ => HPP.out,Lib.hid fun h => by cases h⟩
  by_cases h10:n=10
  case neg =>
   have hn4:¬ ((n:Int)=10):=by omega
   have hn5:((n:Int) != 10)=true:=by simpa using hn4
   have HPP:=Lib.hid (HNo.out (.inr (.inl h10)))
   clear HNo HSo HEx h10
   go_wp2_with fail
   go_meet
   case rel => exact ⟨rfl,true,rfl,Lib.hid fun _ => HPP.out,Lib.hid fun h => by cases h⟩
  subst h10
  have c2:=HR2.out.2 2 _ (wAt_get (by rw [Hn.out];decide))
  have hse2:=strL_list (wAt A 2)
  have HPW:Hid (¬ (wAt A 2=[105,110] ∨ wAt A 2=[111,117,116])→PP=none):=Lib.hid fun h => HNo.out (.inr (.inr (.inl h)))
  clear HNo HSo HEx
  obtain ⟨IN,hIN⟩:∃ b,(wAt A 2 == [105,110])=b:=⟨_,rfl⟩
  obtain ⟨OU,hOU⟩:∃ b,(wAt A 2 == [111,117,116])=b:=⟨_,rfl⟩
  have HIN:=Lib.hid hIN
  have HOU:=Lib.hid hOU
  generalize hY:wAt A 2=Y at c2 hse2 hIN hOU
  clear hY
  obtain ⟨SY,hSY⟩:∃ q,strL Y=q:=⟨_,rfl⟩
  rw [hSY] at c2 hse2
  clear hSY
  cases IN
  case true =>
   have HWY:Hid (wAt A 2=[105,110]):=Lib.hid (by simpa using HIN.out)
   go_wp2_with fail
   go_meet
   case rel => exact ⟨rfl,false,rfl,Lib.hid fun h => (by cases h),Lib.hid fun _ => ⟨by trivial, .inl HWY.out,by trivial⟩⟩
  cases OU
  case true =>
   have HWY:Hid (wAt A 2=[111,117,116]):=Lib.hid (by simpa using HOU.out)
   go_wp2_with fail
   go_meet
   case rel => exact ⟨rfl,false,rfl,Lib.hid fun h => (by cases h),Lib.hid fun _ => ⟨by trivial, .inr HWY.out,by trivial⟩⟩
  have HWY:Hid (PP=none):=Lib.hid (HPW.out (fun h => h.elim (by simpa using HIN.out) (by simpa using HOU.out)))
  go_wp2_with fail
  go_meet
  case rel => exact ⟨rfl,true,rfl,Lib.hid fun _ => HWY.out,Lib.hid fun h => by cases h⟩
 case rest =>
  obtain ⟨rfl,b,rfl,HBt,HBf⟩:=hcut
  cases b
  case true =>
   have HPP:=Lib.hid (HBt.out rfl)
   have HF:=Lib.hid (HEx.out _ (HB2.out) (HPP.out))
   clear HNo HSo HEx
   go_wp2_with fail
   refine bodyPost_ret (v:=.bool false) (by simp [results,Tryz.results108,go_sem, *]) rfl (by exact HF.out)
  obtain ⟨h10,hway,hct⟩:=HBf.out rfl
  subst h10 hct
  have HWay:=Lib.hid hway
  clear HBt HBf hway
  have HI3:Hid (RdInts (w2.alloc (.cells #[.int .i64 0, .int .i64 3, .int .i64 6, .int .i64 7, .int .i64 8, .int .i64 9] 3 (0,0))) w2.heap.size 0 6 [0,3,6,7,8,9]):=Lib.hid (rdInts_new w2 _ [0,3,6,7,8,9] _ rfl)
  have HA3:Hid (Below w2.heap.size w2 (w2.alloc (.cells #[.int .i64 0, .int .i64 3, .int .i64 6, .int .i64 7, .int .i64 8, .int .i64 9] 3 (0,0)))):=Lib.hid (below_alloc (Below.refl _ _) _)
  go_wp2_with fail
  generalize w2.alloc (.cells #[.int .i64 0, .int .i64 3, .int .i64 6, .int .i64 7, .int .i64 8, .int .i64 9] 3 (0,0))=w3 at *
  have HV3:=Lib.hid (HV2.out.below HA3.out)
  have HR3:=Lib.hid (HR2.out.below HA3.out)
  have HK3:=Lib.hid (HB2.out.trans (HA3.out.mono HB2.out.size))
  obtain ⟨gi,hgi⟩:∃ q,w2.heap.size=q:=⟨_,rfl⟩
  rw [hgi] at HI3 ⊢
  clear HV2 HR2 HB2 HA3 hgi hgw
  have hg3:=HR3.out.1
  go_loopw [6,41] (fun nv i wr => ∃ k:Nat,k≤6∧i=.int .i64 (k:Int)∧Hid (OwnI wr w3.heap.size nv (numsV A k))∧Hid (numsOk A k=true)∧Hid (Below w3.heap.size w3 wr)) (fun _ i _ => 6 - (intOf i).toNat)
  case atStart => exact ⟨0,Nat.zero_le _,rfl,Lib.hid (OwnI.nil _ _),Lib.hid rfl,Lib.hid (Below.refl _ _)⟩
  case round =>
   obtain ⟨k,hk,rfl,HO,HNk,HB⟩:=hrel
   by_cases hlt:k < 6
   ·obtain ⟨ix,hix⟩:∃ ix,numIx[k]?=some ix:=⟨_,List.getElem?_eq_getElem hlt⟩
    have hix10:ix < 10:=numIx_lt ix (List.mem_of_getElem? hix)
    have q1:=(HI3.out.later HB.out).2.2 k hlt
    have q2:=(HR3.out.below HB.out).2 ix _ (wAt_get (by rw [Hn.out];exact hix10))
    rw [numIx_getD hix,Nat.zero_add] at q1
    have HNu:=Lib.hid (qNumber_any (wAt A ix) 13 wr (HV3.out.below HB.out) (by have:=Hxs.out ix;omega) (by decide))
    have HS1:=Lib.hid (numsOk_succ (A:=A) hix)
    have HS2:=Lib.hid (numsV_succ (A:=A) hix)
    have Hl6:Hid ((numsV A k).length=k):=Lib.hid (numsV_len (by omega))
    generalize numOk (wAt A ix) 13=OK at *
    clear hix
    generalize strL (wAt A ix)=SX at *
    go_wp2_with fail
    refine HNu.out.mono ?_
    rintro e w4 ⟨VV,rfl,hvv,hb⟩
    have HVV:=Lib.hid hvv
    have HB4:=Lib.hid (HB.out.trans (hb.mono HB.out.size))
    have HO4:=Lib.hid (HO.out.later hb)
    clear hb HNu q1 q2 HB HO hvv
    cases OK
    ·have HPP:=Lib.hid (HNo.out (.inr (.inr (.inr (.inl (numsOk_mono (k:=k + 1) (by omega) (by rw [HS1.out];simp)))))))
     have HK4:=Lib.hid (HK3.out.trans (HB4.out.mono HK3.out.size))
     clear HO4 HS1 HS2 HVV HNk HI3 HR3 HV3 HB4 HK3
     have HF:=Lib.hid (HEx.out _ (HK4.out) (HPP.out))
     clear HNo HSo HEx
     go_wp2_with fail
     refine bodyPost_ret (v:=.bool false) (by simp [results,Tryz.results108,go_sem, *]) rfl (by exact HF.out)
    ·have hV:numV (wAt A ix)=VV:=(HVV.out rfl).symm
     rw [hV] at HS2
     have HOr:Hid (w4.ownsRow w3.heap.size 3 1 u6 k (encIs (numsV A k))):=Lib.hid (by
      have h:=HO4.out
      unfold OwnI at h
      rwa [Hl6.out] at h)
     clear hV HVV HO4
     go_wp2_with (at_builtin;refine wpList_app intE rfl (.tmp 55) (.tmp 57) rfl rfl (World.ownsRow.alloc HOr.out _) rfl (src_one_new _ _ _) ?c1 ?c2 ?c3 ?c4 ?_)
     case c1 => first | rfl | (intro u hu;simp at hu;subst hu;rfl)
     case c2 => unfold maxLen;omega
     case c3 => omega
     case c4 => have:=HB4.out.size;simp;omega
     intro v5 w5 hO5 hG5
     have HO5:Hid (OwnI w5 w3.heap.size v5 (numsV A (k + 1))):=Lib.hid (by rw [HS2.out];exact ownI_snoc (by rw [Hl6.out];exact hO5))
     have HB5:Hid (Below w3.heap.size w3 w5):=Lib.hid ((Below.alloc HB4.out HB4.out.size _).trans (hG5.below (by have:=HB4.out.size;simp;omega) (own_base HOr.out)))
     have HN5:Hid (numsOk A (k + 1)=true):=Lib.hid (by rw [HS1.out,HNk.out];rfl)
     clear hO5 hG5 HOr HB4 HNk HS1 HS2 Hl6
     go_wp2_with fail
     exact ⟨⟨k + 1,by omega,by go_num,HO5,HN5,HB5⟩,by simp [intOf];omega⟩
   ·obtain rfl:k=6:=by omega
    have hl6:(numsV A 6).length=6:=numsV_len (Nat.le_refl _)
    obtain ⟨gn,cn,cur,hv6,hbn,hgn,hri,hcn,hmn⟩:=HO.out.slice (by rw [hl6];decide)
    rw [hl6] at hv6 hri hcn
    subst hv6
    have hNV:numsV A 6=[numV (wAt A 0),numV (wAt A 3),numV (wAt A 6),numV (wAt A 7),numV (wAt A 8),numV (wAt A 9)]:=rfl
    rw [hNV] at hri
    have HNN:=Lib.hid hri
    have HRr:=Lib.hid (HR3.out.below HB.out)
    have HVr:=Lib.hid (HV3.out.below HB.out)
    have HKr:=Lib.hid (HK3.out.trans (HB.out.mono HK3.out.size))
    have HSv:Hid ((repV A).Sm):=Lib.hid (HSm.out HNk.out)
    have HP4:Hid ((parseF (wAt A 4)).isSome=false→PP=none):=Lib.hid fun h => HNo.out (.inr (.inr (.inr (.inr (.inl (by simpa using h))))))
    have HP5:Hid ((parseF (wAt A 5)).isSome=false→PP=none):=Lib.hid fun h => HNo.out (.inr (.inr (.inr (.inr (.inr (by simpa using h))))))
    have HOk:Hid ((parseF (wAt A 4)).isSome=true→(parseF (wAt A 5)).isSome=true→PP=some (repV A)):=Lib.hid fun h h' => HSo.out (by trivial) (by trivial) HWay.out HNk.out (fun e => by rw [e] at h;cases h) (fun e => by rw [e] at h';cases h')
    have HRV:Hid (rpC (repV A)=[.string (strL (wAt A 1)), .int .i64 (numV (wAt A 0)), .bool (wAt A 2 == [111,117,116]), .int .i64 (numV (wAt A 3)), .bool (adO (parseF (wAt A 4))).1, .int .u64 ((adO (parseF (wAt A 4))).2.1:Int), .int .u64 ((adO (parseF (wAt A 4))).2.2:Int), .bool (adO (parseF (wAt A 5))).1, .int .u64 ((adO (parseF (wAt A 5))).2.1:Int), .int .u64 ((adO (parseF (wAt A 5))).2.2:Int), .int .i64 (numV (wAt A 6)), .int .i64 (numV (wAt A 7)), .int .i64 (numV (wAt A 8)), .int .i64 (numV (wAt A 9))]):=Lib.hid rfl
    have HL4:=Lib.hid fun wx (hv:Vr wx) => addrParse_any (wAt A 4) wx hv (by have:=Hxs.out 4;omega)
    have HL5:=Lib.hid fun wx (hv:Vr wx) => addrParse_any (wAt A 5) wx hv (by have:=Hxs.out 5;omega)
    simp only [lsV_eq] at HL4 HL5
    clear HNo HSo HSm HWay HNk HI3 hl6 hNV hri hgn hbn HO HB HR3 HV3 HK3 HEx
    generalize (parseF (wAt A 4)).isSome=S4 at *
    generalize (parseF (wAt A 5)).isSome=S5 at *
    generalize adO (parseF (wAt A 4))=q4 at *
    generalize adO (parseF (wAt A 5))=q5 at *
    obtain ⟨x4,h4,l4⟩:=q4
    obtain ⟨x5,h5,l5⟩:=q5
    simp only at HL4 HL5 HRV
    obtain ⟨e4,he4⟩:∃ q:Int,(if S4=true then 0 else 9)=q:=⟨_,rfl⟩
    obtain ⟨e5,he5⟩:∃ q:Int,(if S5=true then 0 else 9)=q:=⟨_,rfl⟩
    rw [he4] at HL4
    rw [he5] at HL5
    have HE4:Hid ((S4=true∧e4=0) ∨ (S4=false∧e4=9)):=Lib.hid (by cases S4 <;> simp at he4 <;> simp [← he4])
    have HE5:Hid ((S5=true∧e5=0) ∨ (S5=false∧e5=9)):=Lib.hid (by cases S5 <;> simp at he5 <;> simp [← he5])
    clear he4 he5
    generalize numV (wAt A 0)=n0 at *
    generalize numV (wAt A 3)=n3 at *
    generalize numV (wAt A 6)=n6 at *
    generalize numV (wAt A 7)=n7 at *
    generalize numV (wAt A 8)=n8 at *
    generalize numV (wAt A 9)=n9 at *
    have c4:=HRr.out.2 4 _ (wAt_get (by rw [Hn.out];decide))
    generalize strL (wAt A 4)=T4 at *
    go_wp2_with fail
    refine (HL4.out _ HVr.out).mono ?_
    rintro e w4 ⟨rfl,hb⟩
    have hb5:Below wr.heap.size wr (w4.alloc (.cells #[.bool x4, .int .u64 h4, .int .u64 l4] 28 (0,0))):=below_alloc hb _
    have HX4:Hid (Blk (w4.alloc (.cells #[.bool x4, .int .u64 h4, .int .u64 l4] 28 (0,0))) w4.heap.size 28 #[.bool x4, .int .u64 h4, .int .u64 l4]):=Lib.hid (Blk.new w4 _ _)
    have HA5:=Lib.hid hb5
    clear hb hb5 c4 HL4
    go_upto_region 14 with fail
    generalize w4.alloc (.cells #[.bool x4, .int .u64 h4, .int .u64 l4] 28 (0,0))=w5 at *
    obtain ⟨b4,hb4⟩:∃ q,w4.heap.size=q:=⟨_,rfl⟩
    rw [hb4] at HX4 ⊢
    clear hb4
    have c5:=(HRr.out.below HA5.out).2 5 _ (wAt_get (by rw [Hn.out];decide))
    generalize strL (wAt A 5)=T5 at *
    go_wp2_with fail
    refine (HL5.out _ (HVr.out.below HA5.out)).mono ?_
    rintro e w6 ⟨rfl,hb⟩
    have hb7:Below w5.heap.size w5 (w6.alloc (.cells #[.bool x5, .int .u64 h5, .int .u64 l5] 28 (0,0))):=below_alloc hb _
    have HX5:Hid (Blk (w6.alloc (.cells #[.bool x5, .int .u64 h5, .int .u64 l5] 28 (0,0))) w6.heap.size 28 #[.bool x5, .int .u64 h5, .int .u64 l5]):=Lib.hid (Blk.new w6 _ _)
    have HA7:=Lib.hid hb7
    clear hb hb7 c5 HL5
    go_upto_region 15 with fail
    generalize w6.alloc (.cells #[.bool x5, .int .u64 h5, .int .u64 l5] 28 (0,0))=w7 at *
    obtain ⟨b5,hb5⟩:∃ q,w6.heap.size=q:=⟨_,rfl⟩
    rw [hb5] at HX5 ⊢
    clear hb5
    have HK7:=Lib.hid (HKr.out.trans ((HA5.out.trans (HA7.out.mono HA5.out.size)).mono HKr.out.size))
    have HR7:=Lib.hid ((HRr.out.below HA5.out).below HA7.out)
    have HN7:=Lib.hid ((HNN.out.later HA5.out).later HA7.out)
    have HX7:=Lib.hid (HX4.out.below HA7.out HX4.out.lt)
    have HB7:=Lib.hid (HBk.out.below HK7.out HBk.out.lt)
    have HO7:=Lib.hid (HOw.out.later HK7.out)
    obtain ⟨ad,vc,hv, -⟩:=HO7.out.form
    subst hv
    have w1e:=wAt_get (A:=A) (i:=1) (by rw [Hn.out];decide)
    have w2e:=wAt_get (A:=A) (i:=2) (by rw [Hn.out];decide)
    clear HKr HRr HNN HX4 HA5 HA7 HBk HOw
    have HD:Hid (∀ wx,Below w7.heap.size w7 wx→wx.cell? ⟨g,1,none⟩=some (.string (strL (wAt A 1)))∧wx.cell? ⟨g,2,none⟩=some (.string (strL (wAt A 2)))∧wx.cell? ⟨bx,0,none⟩=some (.slice ad acc.length vc)):=Lib.hid fun wx hb => by
     have q':=(HR7.out.below hb).2
     exact ⟨q' 1 _ w1e,q' 2 _ w2e,(HB7.out.below hb HB7.out.lt).cell 0⟩
    have HI:Hid (∀ wx,Below w7.heap.size w7 wx→wx.cell? ⟨gn,0,none⟩=some (.int .i64 n0)∧wx.cell? ⟨gn,1,none⟩=some (.int .i64 n3)∧wx.cell? ⟨gn,2,none⟩=some (.int .i64 n6)∧wx.cell? ⟨gn,3,none⟩=some (.int .i64 n7)∧wx.cell? ⟨gn,4,none⟩=some (.int .i64 n8)∧wx.cell? ⟨gn,5,none⟩=some (.int .i64 n9)):=Lib.hid fun wx hb => by
     have q:=(HN7.out.later hb).2.2
     have a0:=q 0 (by decide)
     have a1:=q 1 (by decide)
     have a2:=q 2 (by decide)
     have a3:=q 3 (by decide)
     have a4:=q 4 (by decide)
     have a5:=q 5 (by decide)
     rw [Nat.zero_add] at a0 a1 a2 a3 a4 a5
     exact ⟨a0,a1,a2,a3,a4,a5⟩
    have HG:Hid (∀ wx,Below w7.heap.size w7 wx→(wx.cell? ⟨b4,0,none⟩=some (.bool x4)∧wx.cell? ⟨b4,1,none⟩=some (.int .u64 h4)∧wx.cell? ⟨b4,2,none⟩=some (.int .u64 l4))∧wx.cell? ⟨b5,0,none⟩=some (.bool x5)∧wx.cell? ⟨b5,1,none⟩=some (.int .u64 h5)∧wx.cell? ⟨b5,2,none⟩=some (.int .u64 l5)):=Lib.hid fun wx hb => by
     have q:=HX7.out.below hb HX7.out.lt
     have q':=HX5.out.below hb HX5.out.lt
     exact ⟨⟨q.cell 0,q.cell 1,q.cell 2⟩,q'.cell 0,q'.cell 1,q'.cell 2⟩
    have hse2:=strL_list (wAt A 2)
    obtain ⟨OB,hOB⟩:∃ q,(wAt A 2 == [111,117,116])=q:=⟨_,rfl⟩
    rw [hOB] at HRV
    have HSs:Hid ((strL (wAt A 2)).toList=wAt A 2∧(wAt A 2 == [111,117,116])=OB):=Lib.hid ⟨hse2,hOB⟩
    clear w1e w2e hse2 hOB HR7 HN7 HX7 HX5 Hxs
    generalize strL (wAt A 1)=T1 at *
    generalize strL (wAt A 2)=T2 at *
    generalize wAt A 2=Y2 at *
    refine wp_region_inv 31 0 (rtR #[.string T1, .int .i64 n0, .bool OB, .int .i64 n3, .bool x4, .int .u64 h4, .int .u64 l4, .bool x5, .int .u64 h5, .int .u64 l5, .int .i64 n6, .int .i64 n7, .int .i64 n8, .int .i64 n9] [.slice ad acc.length vc, .slice (some ⟨gn,0,none⟩) 6 cn, .pointer (some ⟨gn,0,none⟩), .int .i64 n0, .slice (some ⟨g,0,none⟩) 10 10, .pointer (some ⟨g,1,none⟩), .string T1, .slice (some ⟨g,0,none⟩) 10 10, .pointer (some ⟨g,2,none⟩), .string T2, .bool OB, .slice (some ⟨gn,0,none⟩) 6 cn, .pointer (some ⟨gn,1,none⟩), .int .i64 n3, .agg #[.bool x4, .int .u64 h4, .int .u64 l4], .agg #[.bool x5, .int .u64 h5, .int .u64 l5], .slice (some ⟨gn,0,none⟩) 6 cn, .pointer (some ⟨gn,2,none⟩), .int .i64 n6, .slice (some ⟨gn,0,none⟩) 6 cn, .pointer (some ⟨gn,3,none⟩), .int .i64 n7, .agg #[.int .i64 n3, .bool x4, .int .u64 h4, .int .u64 l4, .bool x5, .int .u64 h5, .int .u64 l5, .int .i64 n6, .int .i64 n7], .slice (some ⟨gn,0,none⟩) 6 cn, .pointer (some ⟨gn,4,none⟩), .int .i64 n8, .slice (some ⟨gn,0,none⟩) 6 cn, .pointer (some ⟨gn,5,none⟩), .int .i64 n9, .agg #[.string T1, .int .i64 n0, .bool OB, .int .i64 n3, .bool x4, .int .u64 h4, .int .u64 l4, .bool x5, .int .u64 h5, .int .u64 l5, .int .i64 n6, .int .i64 n7, .int .i64 n8, .int .i64 n9]]) (fun _ wx => Below w7.heap.size w7 wx) (fun u v => Below u.heap.size u v) (fun _ => 0)
     (by kernel_rfl) (by kernel_rfl) (by decide) rtR_keep (below_drew (Below.refl _ _)) ?_
    apply Exists.intro
    refine ⟨fun T => ?_,?_,?_⟩
    ·simp only [setAll,List.take_succ_cons,List.take_zero,Act.put,List.setIfInBounds_toArray,List.set_cons_succ,List.set_cons_zero,Nat.reduceAdd]
     exact rfl
    ·clear HOk HP4 HP5 HRV HE4 HE5 HB7 HO7 HSv HK7
     go_light
     refine ⟨?_,?_,?_,?_,?_,?_,?_,?_,?_,?_,?_,?_,?_,?_,?_,?_,?_,?_,?_,?_,?_,?_,?_,?_,?_,?_,?_,?_,?_,?_,?_,trivial⟩
     all_goals (intro T wx m hC hn hp;dsimp only at hn ⊢;unfold Op1)
     all_goals try simp only [AfterAll,Region.binds,rtR,Nat.reduceEqDiff,if_false,List.getD_cons_zero,List.getD_cons_succ,and_true] at hp
     all_goals obtain ⟨t1,t2,t3⟩:=HD.out wx hC
     all_goals obtain ⟨a0,a1,a2,a3,a4,a5⟩:=HI.out wx hC
     all_goals obtain ⟨⟨z1,z2,z3⟩,z4,z5,z6⟩:=HG.out wx hC
     all_goals obtain ⟨hs1,hs2⟩:=HSs.out
     iterate 30
      ·try simp only [hp]
       go_simp
       first
        | exact ⟨rfl,hC,Below.refl _ _⟩
        | exact ⟨rfl,Below.refl _ _⟩
     ·simp only [hp]
      go_simp
      exact ⟨⟨wx.heap.size,rfl,Blk.new wx _ _⟩,below_alloc hC _,below_alloc (Below.refl _ _) _⟩
    ·intro T w8 ⟨m,hm,hC⟩ hR
     have e0:T 0=.slice ad acc.length vc:=hR 0 (by omega)
     obtain ⟨G,e30,hG⟩:∃ G,T 30=.slice (some ⟨G,0,none⟩) 1 1∧Blk w8 G 74 #[.string T1, .int .i64 n0, .bool OB, .int .i64 n3, .bool x4, .int .u64 h4, .int .u64 l4, .bool x5, .int .u64 h5, .int .u64 l5, .int .i64 n6, .int .i64 n7, .int .i64 n8, .int .i64 n9]:=hR 30 (by omega)
     simp only [List.drop_succ_cons,List.drop_zero]
     rw [e0,e30]
     have HO8:=Lib.hid (HO7.out.later hC)
     have HB8:=Lib.hid (HB7.out.below hC HB7.out.lt)
     have HW8:=Lib.hid (HK7.out.trans (hC.mono HK7.out.size))
     have hbl8:bx < w8.heap.size:=HB8.out.lt
     obtain ⟨xr,hxr⟩:∃ x:RB,x=⟨repV A,HSv.out⟩:=⟨_,rfl⟩
     have hxe:#[.string T1, .int .i64 n0, .bool OB, .int .i64 n3, .bool x4, .int .u64 h4, .int .u64 l4, .bool x5, .int .u64 h5, .int .u64 l5, .int .i64 n6, .int .i64 n7, .int .i64 n8, .int .i64 n9]=(layRb.enc xr).toArray:=by rw [hxr];show #[.string T1, .int .i64 n0, .bool OB, .int .i64 n3, .bool x4, .int .u64 h4, .int .u64 l4, .bool x5, .int .u64 h5, .int .u64 l5, .int .i64 n6, .int .i64 n7, .int .i64 n8, .int .i64 n9]=(rpC (repV A)).toArray;rw [HRV.out]
     have HXr:=Lib.hid hxr
     have HSrc:Hid (Src w8 (some ⟨G,0,none⟩) 1 layRb.K (layRb.enc xr)):=Lib.hid (src_blkR layRb w8 xr _ _ hxe hG)
     clear hxr hxe
     clear hR e0 e30 hC hG HD HI HG HSs HO7 HB7 HK7
     go_wp2_with (at_builtin;refine wpList_app rbE rfl (.tmp 74) (.tmp 104) rfl rfl HO8.out rfl HSrc.out ?c1 ?c2 ?c3 ?c4 ?_)
     case c1 => exact layRb.one _
     case c2 => unfold maxLen;omega
     case c3 => omega
     case c4 => omega
     intro v' w9 hO hG
     have HO9:Hid (OwnK layRb w9 (bx + 1) v' (acc ++ [xr])):=Lib.hid (OwnK.snoc hO)
     have hb9:=hG.below (by omega) (own_base HO8.out)
     have HW9:Hid (Below bx w w9):=Lib.hid ((HW8.out.mono (Nat.le_of_lt hbl)).trans (hb9.mono (Nat.le_succ bx)))
     have HB9:=Lib.hid (HB8.out.below hb9 (Nat.lt_succ_self bx))
     clear hO hG HO8 HB8 HW8 hb9 HSrc
     have c0:=HB9.out.cell 0
     simp at c0
     have hfr:=HB9.out.free 0
     obtain ⟨ao,co,hvo, -⟩:=HO9.out.form
     generalize (acc ++ [xr]).length=nn at hvo
     subst hvo
     have HOs:Hid (OwnK layRb (w9.setCell ⟨bx,0,none⟩ (.slice ao nn co)) (bx + 1) (.slice ao nn co) (acc ++ [xr])):=Lib.hid (ownsRow_setCell_below HO9.out (Nat.lt_succ_self bx) _)
     have HBs:Hid (Blk (w9.setCell ⟨bx,0,none⟩ (.slice ao nn co)) bx 61 #[.slice ao nn co]):=Lib.hid (HB9.out.set 0 _)
     have HWs:Hid (Below bx w (w9.setCell ⟨bx,0,none⟩ (.slice ao nn co))):=Lib.hid (Below.setCell (p:=⟨bx,0,none⟩) HW9.out (Nat.le_refl _) _)
     have HAns:Hid (RpdA PP bx acc w (.returned (.bool (S4 && S5))) (w9.setCell ⟨bx,0,none⟩ (.slice ao nn co))):=Lib.hid (by
      cases S4
      ·have h:=HP4.out rfl
       subst h
       exact ⟨rfl,(fun r hr => by cases hr),HWs.out,HBs.out.lt⟩
      ·cases S5
       ·have h:=HP5.out rfl
        subst h
        exact ⟨rfl,(fun r hr => by cases hr),HWs.out,HBs.out.lt⟩
       ·have h:=HOk.out rfl rfl
        subst h
        exact ⟨rfl,(fun r hr => by injection hr with hr;subst hr;exact ⟨HSv.out,_,HBs.out,by rw [← HXr.out];exact HOs.out⟩),HWs.out,HBs.out.lt⟩)
     clear HP4 HP5 HOk HOs HBs HWs HO9 HW9
     go_upto_region 16 with fail
     rcases HE4.out with ⟨rfl,rfl⟩ | ⟨rfl,rfl⟩ <;> rcases HE5.out with ⟨rfl,rfl⟩ | ⟨rfl,rfl⟩
     all_goals
      clear HE4 HE5
      go_wp2_with fail
      first
       | (refine bodyPost_ret (v:=.bool true) (by simp [results,Tryz.results108,go_sem, *];done) rfl (by exact HAns.out))
       | (refine bodyPost_ret (v:=.bool false) (by simp [results,Tryz.results108,go_sem, *];done) rfl (by exact HAns.out))
theorem repP_is {s:List UInt8} (hs:s.length≤200000):(repP s).isSome=(repO (spl 32 s)).isSome∧∀ y,repP s=some y→repO (spl 32 s)=some y.1:=by
 cases h:repO (spl 32 s) with
 | none =>
   rw [repP_none h]
   exact ⟨rfl,fun y hy => by cases hy⟩
 | some r =>
   obtain ⟨hm,e⟩:=repP_of hs h
   rw [e]
   exact ⟨rfl,fun y hy => by rw [← Option.some.inj hy]⟩
theorem readRb_any (s:List UInt8) (w:World) (hv:Vr w) (hs:s.length≤200000) :
  Calls Tryz.prog 106 #[.string (strL s)] w fun e w' => ∃ r:RP,e=.returned (.tuple #[.agg (rpC r).toArray, .bool (repP s).isSome])∧(∀ y:RB,repP s=some y→r=y.1)∧Below w.heap.size w w':=by
 obtain ⟨h1,h2⟩:=repP_is hs
 refine (readReport_any s w hv hs).mono ?_
 rintro e w' ⟨r,rfl,hr,hb⟩
 exact ⟨r,by rw [h1],fun y hy => hr _ (h2 y hy),hb⟩
theorem rpdR_any (bx:Nat) (acc:List RB) (s:List UInt8) (v:Value) (w:World) (hbk:Blk w bx 61 #[v]) (hO:OwnK layRb w (bx + 1) v acc) (hv:Vr w) (hs:s.length≤200000) (hacc:acc.length≤1000000) :
  Calls Tryz.prog 108 #[.string (strL s), .pointer (some ⟨bx,0,none⟩)] w fun e w' => e=.returned (.bool (repP s).isSome)∧(∀ y:RB,repP s=some y→∃ v',Blk w' bx 61 #[v']∧OwnK layRb w' (bx + 1) v' (acc ++ [y]))∧Below bx w w'∧bx < w'.heap.size:=by
 obtain ⟨h1,h2⟩:=repP_is hs
 refine (rpd1_any bx acc s v w hbk hO hv hs hacc).mono ?_
 rintro e w' ⟨rfl,hr,hb,hl⟩
 refine ⟨by rw [h1],fun y hy => ?_,hb,hl⟩
 obtain ⟨hm,v',h3,h4⟩:=hr _ (h2 y hy)
 exact ⟨v',h3,h4⟩
theorem repP_pos {s:List UInt8} {y:RB} (h:repP s=some y):1≤s.length:=by
 cases s with
 | nil =>
   have e:repO (spl 32 [])=none:=repO_none (.inr (.inl (by decide)))
   rw [repP_none e] at h
   cases h
 | cons b r => rw [List.length_cons];omega
def sumL (A:List (List UInt8)):Nat:=(A.map fun l => l.length + 1).sum
theorem sumL_cons (l:List UInt8) (A:List (List UInt8)):sumL (l :: A)=l.length + 1 + sumL A:=by
 unfold sumL
 rw [List.map_cons,List.sum_cons]
theorem spl_sum (c:UInt8):∀ s,sumL (spl c s)=s.length + 1
 | [] => rfl
 | x :: l => by
   have ih:=spl_sum c l
   simp only [spl]
   by_cases h:x=c
   ·rw [if_pos h,sumL_cons,ih];simp;omega
   ·rw [if_neg h]
    cases e:spl c l with
    | nil => exact absurd e (spl_ne c l)
    | cons p ps =>
      rw [e,sumL_cons] at ih
      simp only
      rw [sumL_cons,List.length_cons,List.length_cons]
      omega
theorem sumL_drop {A:List (List UInt8)} {k:Nat} {x:List UInt8} (h:A[k]?=some x):sumL (A.drop k)=x.length + 1 + sumL (A.drop (k + 1)):=by
 obtain ⟨hk,rfl⟩:=List.getElem?_eq_some_iff.1 h
 rw [List.drop_eq_getElem_cons hk,sumL_cons]
open Go.RowKit Go
def gapsF (top:Nat):List Sp→Nat→List Sp
 | [],x => if x≤top then [(x,top)] else []
 | r :: S,x => (if x < r.1 then [(x,r.1 - 1)] else []) ++ gapsF top S (r.2 + 1)
def fam (six:Bool) (S:List Sp):List Sp:=S.filter fun p => sixN p.1 == six
def loF (six:Bool):Nat:=if six=true then 2 ^ 128 else 0
def topF (six:Bool):Nat:=if six=true then 2 ^ 129 - 1 else 2 ^ 32 - 1
def gapsOf (six:Bool) (S:List Sp):List Sp:=gapsF (topF six) (fam six S) (loF six)
def gaps (S:List Sp):List Sp:=gapsOf false S ++ gapsOf true S
def both:List Sp→List Sp→List Sp
 | [],_ => []
 | _ :: _, [] => []
 | p :: A,q :: B => (if max p.1 q.1≤min p.2 q.2 then [(max p.1 q.1,min p.2 q.2)] else []) ++ if p.2 < q.2 then both A (q :: B) else both (p :: A) B
termination_by A B => A.length + B.length
end Go.Proofs.YtgkhcdjoilgfmaaGreatDoor
