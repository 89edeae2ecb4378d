/-
  Plain law: numerals with a sign, read and written again.
  The reference's Key says keyB.
  Words and numbers, as the program and the reference read them. Condition: at most a million bytes.
  Ports, as the program and the reference read them. Condition: at most a million bytes.
  ParsePrefix and PrefixParse: a prefix read. Condition: at most a million bytes, and the variables that are read.
  SetRead of the reference: a set read line by line, its prefixes gathered in a captured row.
  Lists with commas between, as the program and the reference read them. Condition: at most a million bytes.
  Lines of the reference, with any taker of lines that keeps what it reads behind a pointer.
-/
import Derived.Test.YtdhldhkhpndpjaaGreatDoorRTX10
import Derived.Test.YtdhldhkhpndpjaaGreatDoorRTX1
import Derived.Test.YtdhldhkhpndpjaaGreatDoorRTX11
import Derived.Test.YtdhldhkhpndpjaaGreatDoorRTX2
import Derived.Test.YtdhldhkhpndpjaaGreatDoorRTX18
import Derived.Test.YtdhldhkhpndpjaaGreatDoorRTX12
import Derived.Test.YtdhldhkhpndpjaaGreatDoorRTX15
import Derived.Test.YtdhldhkhpndpjaaGreatDoorRTX6
import Derived.Test.YtdhldhkhpndpjaaGreatDoorRTX19
set_option linter.unusedVariables false
set_option maxRecDepth 100000
set_option maxHeartbeats 16000000
namespace Go.Proofs.YtdhldhkhpndpjaaGreatDoor
open Go.RowKit Go Go.Sort
theorem atoiAll_sg {s:List UInt8} (h1:sgnD s ≠ []) (h3:(sgnD s).all isDg=true) (hb:decV (sgnD s) < 1000000000000000000):Lib.atoiAll s=.ok (numV s):=by
 have hp:=parseUint_all (sgnD s) 0 h3 hb
 by_cases h45:s.head?=some 45
 ·cases s with
  | nil => simp at h45
  | cons b r =>
    have:b=45:=by simpa using h45
    subst this
    unfold numV
    rw [if_pos h45]
    rw [sgnD_neg] at *
    unfold Lib.atoiAll
    simp only
    rw [if_pos (by decide)]
    unfold Lib.parseMag
    rw [if_neg (by simpa using h1),hp]
    show (if _ then _ else if _ then _ else _)=_
    have hs':r.foldl (fun a b => a * 10 + (b.toNat - 48)) 0 < 1000000000000000000:=hb
    rw [if_neg (fun h => h.1 (by decide)),if_neg (by omega),if_pos (by decide)]
    rfl
 ·unfold numV
  rw [if_neg h45]
  rw [sgnD_pos h45] at *
  cases s with
  | nil => exact absurd rfl h1
  | cons b r =>
    have hd:isDg b=true:=by rw [List.all_cons,Bool.and_eq_true] at h3;exact h3.1
    unfold isDg at hd
    have hd:48≤b.toNat∧b.toNat≤57:=by simpa using hd
    unfold Lib.atoiAll
    simp only
    rw [if_neg (by omega:¬ (b.toNat=43 ∨ b.toNat=45))]
    unfold Lib.parseMag
    rw [if_neg (by simp),hp]
    show (if _ then _ else if _ then _ else _)=_
    have hs':(b :: r).foldl (fun a b => a * 10 + (b.toNat - 48)) 0 < 1000000000000000000:=hb
    rw [if_neg (by omega),if_neg (by omega),if_neg (by omega)]
    rfl
theorem decV_bd {d:List UInt8} (h:d.all isDg=true) (hl:d.length≤17):decV d < 100000000000000000:=by
 have h1:=(decV_dgs d.length d rfl h).1
 have h2:10 ^ d.length≤10 ^ 17:=Nat.pow_le_pow_right (by decide) hl
 have h3:(10:Nat) ^ 17=100000000000000000:=by decide
 omega
theorem numV_bd {s:List UInt8} (h:(sgnD s).all isDg=true) (hl:(sgnD s).length≤17):-100000000000000000 < numV s∧numV s < 100000000000000000:=by
 have:=decV_bd h hl
 unfold numV
 split <;> omega
theorem itoa_num {s:List UInt8} {most:Nat} (h1:sgnD s ≠ []) (h2:(sgnD s).length≤most) (h3:(sgnD s).all isDg=true):decide (Lib.itoa (numV s)=s)=numOk s most:=by
 have hO:numOk s most=((sgnD s).head? != some 48 || s == [48]):=by
  unfold numOk
  rw [decide_eq_true h2,h3,Bool.and_true,Bool.and_true]
  cases e:sgnD s with
  | nil => exact absurd e h1
  | cons _ _ => simp
 rw [hO]
 by_cases h45:s.head?=some 45
 ·cases s with
  | nil => simp at h45
  | cons b r =>
    have:b=45:=by simpa using h45
    subst this
    unfold numV
    rw [if_pos h45]
    rw [sgnD_neg] at *
    have e2:((45 :: r:List UInt8) == [48])=false:=by simp
    rw [e2,Bool.or_false]
    cases r with
    | nil => exact absurd rfl h1
    | cons c d =>
      have hd:isDg c=true:=by rw [List.all_cons,Bool.and_eq_true] at h3;exact h3.1
      by_cases hc:c=48
      ·subst hc
       have e3:((48 :: d:List UInt8).head? != some 48)=false:=by simp
       rw [e3,decide_eq_false_iff_not]
       intro e
       by_cases h0:decV (48 :: d)=0
       ·rw [h0] at e
        have:Lib.itoa (-((0:Nat):Int))=Lib.decDigits 0:=Lib.itoa_nonneg 0
        rw [this,Lib.decDigits_one (by decide)] at e
        simp at e
       ·rw [Lib.itoa_neg _ (by omega)] at e
        injection e with _ e
        have hn:=dec_numL (decV (48 :: d))
        rw [e] at hn
        unfold numL at hn
        simp at hn
        obtain ⟨-,hn⟩:=hn
        subst hn
        exact h0 rfl
      ·have e3:((c :: d:List UInt8).head? != some 48)=true:=by simpa using hc
       rw [e3,decide_eq_true_iff]
       have h0:1≤decV (c :: d):=Nat.le_trans (Nat.pow_pos (by decide)) (decV_lead hd hc)
       rw [Lib.itoa_neg _ h0,numL_dec]
       unfold numL
       rw [h3,e3];rfl
 ·unfold numV
  rw [if_neg h45]
  rw [sgnD_pos h45] at *
  rw [Lib.itoa_nonneg]
  have e4:(s.head? != some 48 || s == [48])=numL s:=by
   unfold numL
   rw [h3,Bool.and_true]
   cases s with
   | nil => exact absurd rfl h1
   | cons _ _ => simp
  rw [e4,Bool.eq_iff_iff,decide_eq_true_iff]
  exact ⟨fun h => h ▸ dec_numL _,fun h => numL_dec h⟩
theorem numV_nn {s:List UInt8} (h:(45:UInt8) ∉ s):0≤numV s:=by
 unfold numV
 rw [if_neg]
 ·exact Int.natCast_nonneg _
 ·intro e
  cases s with
  | nil => simp at e
  | cons b r =>
    have:b=45:=by simpa using e
    subst this
    exact h (List.mem_cons_self ..)
theorem cut_no (s:List UInt8) (c:UInt8):c ∉ (Lib.cut s [c]).1:=by
 have key:∀ (r:List UInt8) (a t:List UInt8),r=a ++ c :: t→c ∉ a→True:=fun _ _ _ _ _ => trivial
 unfold Lib.cut
 rcases Lib.index_spec s [c] with ⟨h1,h2⟩ | ⟨i,h1,h2,h3,h4⟩
 ·rw [h1]
  show c ∉ s
  intro hc
  obtain ⟨j,hj,e⟩:=List.getElem_of_mem hc
  have h5:=h2 j (Nat.le_of_lt hj)
  unfold Lib.occAt at h5
  rw [List.drop_eq_getElem_cons hj,e] at h5
  simp [List.isPrefixOf] at h5
 ·rw [h1,if_pos (by omega)]
  show c ∉ s.take ((i:Int)).toNat
  rw [Int.toNat_natCast]
  intro hc
  obtain ⟨j,hj,e⟩:=List.getElem_of_mem hc
  have hjl:j < i∧j < s.length:=by rw [List.length_take] at hj;omega
  have h5:=h4 j hjl.1
  unfold Lib.occAt at h5
  rw [List.getElem_take] at e
  rw [List.drop_eq_getElem_cons hjl.2,e] at h5
  simp [List.isPrefixOf] at h5
theorem poP_nn (s:List UInt8):0≤numV (Lib.cut s [45]).1:=numV_nn (cut_no s 45)
open Go.RowKit Go
theorem byte_all (p:UInt8→Bool) (h:∀ n:Fin 256,p (UInt8.ofNat n.val)=true) (c:UInt8):p c=true:=by
 have:=h ⟨c.toNat,c.toNat_lt⟩
 simpa using this
theorem indexE_any (g n c:Nat) (A:List (List UInt8)) (w:World) (h:RdS w g A) (hn:A.length=n) (hs:n≤2000000) :
  Calls Tryz.prog 267 #[.slice (some ⟨g,0,none⟩) n c, .string ⟨#[]⟩] w fun e w' => ∃ k:Int,e=.returned (.int .i64 k)∧decide (0≤k)=A.contains []∧w'=w:=by
 have H0:=Lib.hid h
 have Hn:=Lib.hid hn
 have hg:=h.1
 have HY:Hid (∀ (k:Nat),A[k]?=some []→A.contains []=true):=Lib.hid fun k hk => by
  rw [List.contains_iff_mem];exact List.mem_of_getElem? hk
 have HN:Hid ((∀ (j:Nat) y,A[j]?=some y→y ≠ [])→A.contains []=false):=Lib.hid fun hh => by
  rw [← Bool.not_eq_true,List.contains_iff_mem]
  intro hm
  obtain ⟨j,hj,e⟩:=List.getElem_of_mem hm
  exact hh j _ (List.getElem?_eq_getElem hj) e
 generalize A.contains []=CT at *
 clear h hn
 go_enter Tryz.func267,Tryz.ntmps267
 go_wp2_with fail
 go_loop [5,8] (fun s5 i => ∃ k:Nat,k≤n∧i=.int .i64 (k:Int)∧Hid (∀ (j:Nat) y,j < k→A[j]?=some y→y ≠ [])) (fun _ i => n - (intOf i).toNat)
 case atStart => exact ⟨0,Nat.zero_le _,rfl,Lib.hid fun j y hj => absurd hj (Nat.not_lt_zero _)⟩
 case round =>
  obtain ⟨k,hk,rfl,HK⟩:=hrel
  by_cases hlt:k < n
  ·obtain ⟨x,hx⟩:∃ x,A[k]?=some x:=⟨_,List.getElem?_eq_getElem (by rw [Hn.out];exact hlt)⟩
   have hc:=H0.out.2 k x hx
   have hse:=strL_list x
   have Hx:=Lib.hid hx
   obtain ⟨SX,hSX⟩:∃ q,strL x=q:=⟨_,rfl⟩
   rw [hSX] at hc hse
   have HSX:=Lib.hid hSX
   clear hx hSX
   by_cases h0:x=[]
   ·subst h0
    have he:SX=⟨#[]⟩:=by rw [← HSX.out];rfl
    subst he
    have hct:=HY.out k Hx.out
    clear HN HSX hse HY
    go_wp2_with fail
    go_ret
    exact ⟨(k:Int),rfl,by first | (rw [hct];simp;done) | (simp;done) | omega,rfl⟩
   ·have hne:¬ (⟨#[]⟩:ByteArray)=SX:=fun e => h0 (by rw [← hse, ← e];exact strL_list [])
    have hne3:¬ ([]:List UInt8)=SX.toList:=fun e => h0 (by rw [← hse, ← e])
    have HK2:Hid (∀ (j:Nat) y,j < k + 1→A[j]?=some y→y ≠ []):=Lib.hid fun j y hj hy => by
     rcases Nat.lt_or_ge j k with h1 | h1
     ·exact HK.out j y h1 hy
     ·obtain rfl:j=k:=by omega
      rw [Hx.out] at hy
      exact (Option.some.inj hy) ▸ h0
    have hem:x.isEmpty=false:=by cases x with
     | nil => exact absurd rfl h0
     | cons _ _ => rfl
    clear HSX HY HN
    go_wp2_with fail
    exact ⟨⟨k + 1,by omega,by go_num,HK2⟩,by simp [intOf];omega⟩
  ·obtain rfl:k=n:=by omega
   have hct:=HN.out fun j y hy => HK.out j y (by have:=(List.getElem?_eq_some_iff.1 hy).1;have:=Hn.out;omega) hy
   clear HN HY HK
   go_wp2_with fail
   go_ret
   exact ⟨-1,rfl,by first | (rw [hct];rfl) | rfl | (simp;done),rfl⟩
theorem containsE_any (g n c:Nat) (A:List (List UInt8)) (w:World) (h:RdS w g A) (hn:A.length=n) (hs:n≤2000000) :
  Calls Tryz.prog 212 #[.slice (some ⟨g,0,none⟩) n c, .string ⟨#[]⟩] w fun e w' => e=.returned (.bool (A.contains []))∧w'=w:=by
 have HC:=Lib.hid (indexE_any g n c A w h hn hs)
 generalize A.contains []=CT at *
 clear h hn
 go_enter Tryz.func212,Tryz.ntmps212
 go_wp2_with fail
 refine HC.out.mono ?_
 rintro e w1 ⟨k,rfl,hk,rfl⟩
 subst hk
 clear HC
 go_wp2_with fail
 go_ret
 exact ⟨by first | rfl | rw [← hk] | simp,rfl⟩
theorem kWords_any (s:List UInt8) (w:World) (hv:Vr w) (hs:s.length≤1000000) :
  Calls Tryz.prog 191 #[.string (strL s)] w fun e w' => ∃ g,e=.returned (.tuple #[.slice (some ⟨g,0,none⟩) (spl 32 s).length (spl 32 s).length, .bool (!(spl 32 s).contains [])])∧RdS w' g (spl 32 s)∧Below w.heap.size w w':=by
 have HSp:=Lib.hid (split_any s 32 w hv hs)
 have hnl:(spl 32 s).length≤1000001:=by
  rw [spl_len]
  have:=List.count_le_length (a:=(32:UInt8)) (l:=s)
  omega
 have HCt:=Lib.hid fun g wx (h:RdS wx g (spl 32 s)) => containsE_any g _ (spl 32 s).length (spl 32 s) wx h rfl (by omega)
 generalize (spl 32 s).contains []=CT at *
 obtain ⟨A,hA⟩:∃ q,spl 32 s=q:=⟨_,rfl⟩
 simp only [hA] at HSp hnl HCt ⊢
 generalize hm:A.length=n at *
 generalize strL s=SS at *
 clear hA hv hs hm
 go_enter Tryz.func191,Tryz.ntmps191
 go_wp2_with fail
 refine HSp.out.mono ?_
 rintro e w1 ⟨g,rfl,hr,hb⟩
 have HR1:=Lib.hid hr
 have HB1:=Lib.hid hb
 have HCx:=Lib.hid (HCt.out g w1 hr)
 clear hr hb HSp HCt
 go_wp2_with fail
 refine HCx.out.mono ?_
 rintro e w2 ⟨rfl,rfl⟩
 clear HCx
 go_wp2_with fail
 go_ret2
 exact ⟨g,rfl,HR1.out,HB1.out⟩
theorem qWords_any (s:List UInt8) (w:World) (hv:Vr w) (hs:s.length≤1000000) :
  Calls Tryz.prog 137 #[.string (strL s)] w fun e w' => ∃ g,e=.returned (.tuple #[.slice (some ⟨g,0,none⟩) (spl 32 s).length (spl 32 s).length, .bool (!(spl 32 s).contains [])])∧RdS w' g (spl 32 s)∧Below w.heap.size w w':=by
 have HSp:=Lib.hid (split_any s 32 w hv hs)
 have hnl:(spl 32 s).length≤1000001:=by
  rw [spl_len]
  have:=List.count_le_length (a:=(32:UInt8)) (l:=s)
  omega
 have HCt:=Lib.hid fun g wx (h:RdS wx g (spl 32 s)) => containsE_any g _ (spl 32 s).length (spl 32 s) wx h rfl (by omega)
 generalize (spl 32 s).contains []=CT at *
 obtain ⟨A,hA⟩:∃ q,spl 32 s=q:=⟨_,rfl⟩
 simp only [hA] at HSp hnl HCt ⊢
 generalize hm:A.length=n at *
 generalize strL s=SS at *
 clear hA hv hs hm
 go_enter Tryz.func137,Tryz.ntmps137
 go_wp2_with fail
 refine HSp.out.mono ?_
 rintro e w1 ⟨g,rfl,hr,hb⟩
 have HR1:=Lib.hid hr
 have HB1:=Lib.hid hb
 have HCx:=Lib.hid (HCt.out g w1 hr)
 clear hr hb HSp HCt
 go_wp2_with fail
 refine HCx.out.mono ?_
 rintro e w2 ⟨rfl,rfl⟩
 clear HCx
 go_wp2_with fail
 go_ret2
 exact ⟨g,rfl,HR1.out,HB1.out⟩
theorem small_any (s:List UInt8) (w:World) (hs:s.length≤1000000) :
  Calls Tryz.prog 192 #[.string (strL s)] w (Ret (.tuple #[.int .i64 (if numOk s 9=true then numV s else 0), .bool (numOk s 9)]) w):=by
 have HN:=Lib.hid (number_any s 9 w hs (by decide))
 generalize numOk s 9=OK at *
 obtain ⟨V,hV⟩:∃ q,(if OK=true then numV s else 0)=q:=⟨_,rfl⟩
 rw [hV] at HN ⊢
 generalize strL s=SS at *
 clear hV hs
 go_enter Tryz.func192,Tryz.ntmps192
 go_wp2_with fail
 refine HN.out.mono ?_
 rintro e w1 ⟨rfl,hb⟩
 have HB1:=Lib.hid hb
 clear hb HN
 go_wp2_with fail
 go_ret2
 exact ⟨rfl,HB1.out⟩
def digL:List UInt8:=[48,49,50,51,52,53,54,55,56,57]
theorem dig_set (c:UInt8):isDg c=digL.contains c:=by
 have:=byte_all (fun c => isDg c == digL.contains c) (by decide +kernel) c
 exact eq_of_beq this
theorem dig_ascii:asciiB digL:=fun j b h => (by decide +kernel:∀ b ∈ digL,b.toNat < 128) b (List.mem_of_getElem? h)
theorem qNumber_any (s:List UInt8) (most:Nat) (w:World) (hv:Vr w) (hs:s.length≤1000000) (hm:most≤17) :
  Calls Tryz.prog 138 #[.string (strL s), .int .i64 (most:Int)] w fun e w' => ∃ n:Int,e=.returned (.tuple #[.int .i64 n, .bool (numOk s most)])∧(numOk s most=true→n=numV s)∧Below w.heap.size w w':=by
 have HT:=Lib.hid fun wx => trimPrefix_any s [45] wx
 have hdl:(sgnD s).length≤s.length:=by
  by_cases h:s.head?=some 45
  ·cases s with
   | nil => simp at h
   | cons b r =>
     have:b=45:=by simpa using h
     subst this
     rw [sgnD_neg];simp
  ·rw [sgnD_pos h];omega
 have HOn:=Lib.hid fun wx => only_any (sgnD s) digL wx (by omega) (by decide) dig_ascii
 have e1:(sgnD s).all digL.contains=(sgnD s).all isDg:=by congr 1;funext c;exact (dig_set c).symm
 rw [e1] at HOn
 clear e1
 have HO:Hid (numOk s most=(!(sgnD s).isEmpty && decide ((sgnD s).length≤most) && ((sgnD s).head? != some 48 || s == [48]) && (sgnD s).all isDg)):=Lib.hid rfl
 have HI:=Lib.hid fun (h1:sgnD s ≠ []) (h2:(sgnD s).length≤most) (h3:(sgnD s).all isDg=true) => itoa_num h1 h2 h3
 have HV0:=Lib.hid hv
 have HAt:Hid (sgnD s ≠ []→(sgnD s).length≤most→(sgnD s).all isDg=true→∀ wx,Vr wx→Calls Tryz.prog 214 #[.string (strL s)] wx fun e w' => e=.returned (.tuple #[.int .i64 (numV s), .nilIface])∧Below wx.heap.size wx w'):=Lib.hid fun h1 h2 h3 wx hv => by
  have hb:=decV_bd h3 (by omega)
  have ha:=atoiAll_sg h1 h3 (by omega)
  refine (atoi_any s wx hv hs).mono ?_
  rintro e w' ⟨⟨n,ev,rfl,hh⟩,hb⟩
  rw [ha] at hh
  obtain ⟨rfl,rfl⟩:=hh
  exact ⟨rfl,hb⟩
 have HIt:Hid ((sgnD s).all isDg=true→(sgnD s).length≤most→∀ wx,Vr wx→Calls Tryz.prog 111 #[.int .i64 (numV s)] wx (Ret (.string (itB (numV s))) wx)):=Lib.hid fun h3 h2 wx hv => by
  have hb:=numV_bd h3 (by omega)
  exact itoaI_any _ (by omega) (by omega) wx hv.tb
 have hil:(itB (numV s)).toList=Lib.itoa (numV s):=by rw [ByteArray.toList_eq];rfl
 obtain ⟨D,hD⟩:∃ q,sgnD s=q:=⟨_,rfl⟩
 have hD':Lib.trimPrefix s [45]=D:=hD
 rw [hD] at HO hdl HOn HI HAt HIt
 simp only [hD'] at HT
 clear hD hD'
 generalize numV s=V at *
 generalize numOk s most=OK at *
 generalize Lib.itoa V=IV at *
 generalize itB V=IB at *
 have hse:=strL_list s
 have hde:=strL_list D
 have hsz:(strL D).size=D.length:=strL_size D
 obtain ⟨SS,hSS⟩:∃ q,strL s=q:=⟨_,rfl⟩
 obtain ⟨DD,hDD⟩:∃ q,strL D=q:=⟨_,rfl⟩
 rw [hSS] at HT HAt hse ⊢
 simp only [hDD] at HT
 rw [hDD] at hde hsz HOn
 have e45:strL [45]=⟨#[45]⟩:=rfl
 have edg:strL digL=⟨#[48,49,50,51,52,53,54,55,56,57]⟩:=rfl
 rw [e45] at HT
 rw [edg] at HOn
 clear hSS hDD e45 edg hv
 go_enter Tryz.func138,Tryz.ntmps138
 go_wp2_with fail
 refine (HT.out _).mono ?_
 rintro e w1 ⟨rfl,hb⟩
 have HB1:=Lib.hid hb
 clear hb HT
 obtain ⟨PRE,hPRE⟩:∃ q,(D.isEmpty || decide (most < D.length) || !(D.all isDg))=q:=⟨_,rfl⟩
 have HPRE:=Lib.hid hPRE
 clear hPRE
 go_upto_region 2 with fail
 go_cut [23] (fun v wx => v=.bool PRE∧Below w.heap.size w wx)
 case first =>
  clear HO HI HAt HIt
  rcases D with _ | ⟨x,D'⟩
  ·have hP:PRE=true:=by rw [← HPRE.out];rfl
   subst hP
   clear HOn
   go_wp2_with fail
   go_meet
   case rel => exact ⟨rfl,HB1.out⟩
  ·have hl0:0 < (x :: D').length:=by simp
   have hemp:(x :: D').isEmpty=false:=rfl
   have hP:PRE=(decide (most < (x :: D').length) || !((x :: D').all isDg)):=by rw [← HPRE.out];simp
   have hne:¬ (x :: D'=[]):=by simp
   clear HPRE
   generalize (x :: D').all isDg=AD at *
   generalize x :: D'=DL at *
   by_cases hlm:most < DL.length
   ·have hP2:PRE=true:=by rw [hP,decide_eq_true hlm];rfl
    have hlm2:(DL.length:Int) > (most:Int):=by omega
    subst hP2
    clear hP HOn
    go_wp2_with fail
    go_meet
    case rel => exact ⟨rfl,HB1.out⟩
   ·have hP2:PRE=!AD:=by rw [hP,decide_eq_false hlm];rfl
    have hlm2:¬ (DL.length:Int) > (most:Int):=by omega
    have HOx:=Lib.hid (HOn.out w1)
    subst hP2
    clear hP HOn
    go_wp2_with fail
    refine HOx.out.mono ?_
    rintro e w2 ⟨rfl,hb⟩
    have HB2:=Lib.hid (HB1.out.trans (hb.mono HB1.out.size))
    clear hb HOx
    go_wp2_with fail
    go_meet
    case rel => exact ⟨rfl,HB2.out⟩
 case rest =>
  clear HB1 HOn
  obtain ⟨rfl,hb⟩:=hcut
  have HB1:=Lib.hid hb
  clear hb
  cases PRE
  ·have HQ:Hid (D ≠ []∧D.length≤most∧D.all isDg=true):=Lib.hid (by
    have:=HPRE.out
    rw [Bool.or_eq_false_iff,Bool.or_eq_false_iff] at this
    obtain ⟨⟨h1,h2⟩,h3⟩:=this
    exact ⟨fun e => by rw [e] at h1;simp at h1,by simpa using h2,by simpa using h3⟩)
   have HIe:=Lib.hid (HI.out HQ.out.1 HQ.out.2.1 HQ.out.2.2)
   have HV1:=Lib.hid (HV0.out.below HB1.out)
   have HAx:=Lib.hid (HAt.out HQ.out.1 HQ.out.2.1 HQ.out.2.2 _ HV1.out)
   have HIx:=Lib.hid (HIt.out HQ.out.2.2 HQ.out.2.1)
   clear HPRE HQ HI HAt HIt HO
   go_wp2_with fail
   refine HAx.out.mono ?_
   rintro e w3 ⟨rfl,hb⟩
   have HB3:=Lib.hid (HB1.out.trans (hb.mono HB1.out.size))
   have HV3:=Lib.hid (HV1.out.below hb)
   have HIy:=Lib.hid (HIx.out _ HV3.out)
   clear hb HAx HB1 HV1 HIx
   go_wp2_with fail
   refine HIy.out.mono ?_
   rintro e w4 ⟨rfl,hb⟩
   have HB4:=Lib.hid (HB3.out.trans (hb.mono HB3.out.size))
   clear hb HIy HB3 HV3
   go_wp2_with fail
   go_ret2
   have he:(IV == s)=OK:=by rw [← HIe.out,Bool.eq_iff_iff];simp
   exact ⟨V,by rw [he];rfl,fun _ => rfl,HB4.out⟩
  ·have hO:OK=false:=by
    rw [HO.out]
    have:=HPRE.out
    rw [Bool.or_eq_true,Bool.or_eq_true] at this
    rcases this with (h1 | h2) | h3
    ·rw [h1];rfl
    ·rw [decide_eq_false (by simpa using h2)];simp
    ·rw [show D.all isDg=false by simpa using h3,Bool.and_false]
   subst hO
   clear HO HI HAt HIt HPRE
   go_wp2_with fail
   go_ret2
   exact ⟨0,rfl,fun h => (by cases h),HB1.out⟩
theorem Blk.set2p {w:World} {B:Nat} {t:TypeId} {x y x' y':Value} (h:Blk w B t #[x,y]):Blk ((w.setCell ⟨B,0,none⟩ x').setCell ⟨B,1,none⟩ y') B t #[x',y']:=(h.set 0 x').set 1 y'
theorem poP_none {s:List UInt8} (h:(Lib.cut s [45]).2.2=false):poP s=if numOk (Lib.cut s [45]).1 9=true then some (numV (Lib.cut s [45]).1,numV (Lib.cut s [45]).1) else none:=by
 unfold poP
 rw [h,if_neg (by decide)]
theorem poP_two {s:List UInt8} (h:(Lib.cut s [45]).2.2=true):poP s=if numOk (Lib.cut s [45]).1 9=true∧numOk (Lib.cut s [45]).2.1 9=true∧numV (Lib.cut s [45]).1 ≠ numV (Lib.cut s [45]).2.1∧0≤numV (Lib.cut s [45]).2.1 then some (numV (Lib.cut s [45]).1,numV (Lib.cut s [45]).2.1) else none:=by
 unfold poP
 rw [h,if_pos rfl]
theorem readPorts_any (s:List UInt8) (w:World) (hv:Vr w) (hs:s.length≤1000000) :
  Calls Tryz.prog 194 #[.string (strL s)] w fun e w' => ∃ p1 p2:Int,e=.returned (.tuple #[.agg #[.int .i64 p1, .int .i64 p2], .bool (poP s).isSome])∧(∀ p,poP s=some p→p=(p1,p2))∧Below w.heap.size w w':=by
 have HP:Hid (Blk (w.alloc (.cells #[.int .i64 0, .int .i64 0] 132 (0,0))) w.heap.size 132 #[.int .i64 0, .int .i64 0]):=Lib.hid (Blk.new w _ _)
 have HB:Hid (Below w.heap.size w (w.alloc (.cells #[.int .i64 0, .int .i64 0] 132 (0,0)))):=Lib.hid (below_alloc (Below.refl _ _) _)
 have HV:=Lib.hid (hv.below (below_alloc (Below.refl _ _) (.cells #[.int .i64 0, .int .i64 0] 132 (0,0))))
 have hl:=cut_le s [45]
 have HC:Hid (∀ wx,Vr wx→Calls Tryz.prog 195 #[.string (strL s), .string ⟨#[45]⟩] wx (Ret (.tuple #[.string (strL (Lib.cut s [45]).1), .string (strL (Lib.cut s [45]).2.1), .bool (Lib.cut s [45]).2.2]) wx)):=Lib.hid fun wx hv => cut_any s [45] wx hv hs
 have HNn:Hid ((Lib.cut s [45]).2.2=false→poP s=if numOk (Lib.cut s [45]).1 9=true then some (numV (Lib.cut s [45]).1,numV (Lib.cut s [45]).1) else none):=Lib.hid poP_none
 have HTw:Hid ((Lib.cut s [45]).2.2=true→poP s=if numOk (Lib.cut s [45]).1 9=true∧numOk (Lib.cut s [45]).2.1 9=true∧numV (Lib.cut s [45]).1 ≠ numV (Lib.cut s [45]).2.1∧0≤numV (Lib.cut s [45]).2.1 then some (numV (Lib.cut s [45]).1,numV (Lib.cut s [45]).2.1) else none):=Lib.hid poP_two
 have HNN:=Lib.hid (poP_nn s)
 have HA:=Lib.hid fun wx => small_any (Lib.cut s [45]).1 wx (Nat.le_trans hl.1 hs)
 have HD:=Lib.hid fun wx => small_any (Lib.cut s [45]).2.1 wx (Nat.le_trans hl.2 hs)
 generalize poP s=PP at *
 generalize numOk (Lib.cut s [45]).1 9=OA at *
 generalize numOk (Lib.cut s [45]).2.1 9=OB at *
 generalize numV (Lib.cut s [45]).1=VA at *
 generalize numV (Lib.cut s [45]).2.1=VB at *
 generalize strL (Lib.cut s [45]).1=SL at *
 generalize strL (Lib.cut s [45]).2.1=SR at *
 generalize (Lib.cut s [45]).2.2=CB at *
 generalize strL s=SS at *
 obtain ⟨NA,hNA⟩:∃ q,(if OA=true then VA else 0)=q:=⟨_,rfl⟩
 obtain ⟨NB,hNB⟩:∃ q,(if OB=true then VB else 0)=q:=⟨_,rfl⟩
 have HNA:Hid (OA=true→NA=VA):=Lib.hid fun h => by rw [← hNA,if_pos h]
 have HNB:Hid (OB=true→NB=VB):=Lib.hid fun h => by rw [← hNB,if_pos h]
 rw [hNA] at HA
 rw [hNB] at HD
 clear hNA hNB HNN
 clear hv hs hl
 go_enter Tryz.func194,Tryz.ntmps194
 go_upto_region 1 with fail
 generalize w.alloc (.cells #[.int .i64 0, .int .i64 0] 132 (0,0))=w1 at *
 obtain ⟨bx,hbx⟩:∃ q,w.heap.size=q:=⟨_,rfl⟩
 have Hbx:=Lib.hid hbx
 rw [hbx] at HP HB ⊢
 clear hbx
 have HRet:Hid (∀ wx (p1 p2:Int),Blk wx bx 132 #[.int .i64 0, .int .i64 0]→Below bx w wx→Below bx w ((wx.setCell ⟨bx,0,none⟩ (.int .i64 p1)).setCell ⟨bx,1,none⟩ (.int .i64 p2))):=Lib.hid fun wx p1 p2 hp hb => hb.grown (grown_setCells bx [.int .i64 p1, .int .i64 p2] 0 wx) (Nat.le_of_lt hp.lt) (fun k hk => by injection hk with hk;omega)
 go_wp2_with fail
 refine (HC.out _ HV.out).mono ?_
 rintro e w2 ⟨rfl,hb⟩
 have HP2:=Lib.hid (HP.out.below hb HP.out.lt)
 have HB2:=Lib.hid (HB.out.trans (hb.mono (Nat.le_of_lt HP.out.lt)))
 have HV2:=Lib.hid (HV.out.below hb)
 clear hb HP HB HV HC
 have HAx:=Lib.hid (HA.out w2)
 clear HA
 go_wp2_with fail
 refine HAx.out.mono ?_
 rintro e w3 ⟨rfl,hb⟩
 have HP3:=Lib.hid (HP2.out.below hb HP2.out.lt)
 have HB3:=Lib.hid (HB2.out.trans (hb.mono (Nat.le_of_lt HP2.out.lt)))
 clear hb HP2 HB2 HV2 HAx
 cases CB
 ·have hR:=HNn.out rfl
  clear HNn HTw HD HNB
  cases OA
  ·rw [if_neg (by decide)] at hR
   subst hR
   have q0:=HP3.out.cell 0
   have q1:=HP3.out.cell 1
   have qf:=HP3.out.free
   simp at q0 q1
   have c4:=(HP3.out.set2p (x':=.int .i64 (NA)) (y':=.int .i64 (NA)))
   have HBf:=Lib.hid (HRet.out _ (NA) (NA) HP3.out HB3.out)
   have d0:=c4.cell 0
   have d1:=c4.cell 1
   simp at d0 d1
   clear c4 HRet
   go_wp2_with fail
   refine bodyPost_ret (v:=.tuple #[.agg #[.int .i64 (NA), .int .i64 (NA)], .bool false]) (by simp [results,Tryz.results194,go_sem, *]) rfl ⟨NA,NA,rfl,(fun p hp => by cases hp),by rw [Hbx.out];exact HBf.out⟩
  ·rw [if_pos rfl] at hR
   obtain rfl:=HNA.out rfl
   subst hR
   have q0:=HP3.out.cell 0
   have q1:=HP3.out.cell 1
   have qf:=HP3.out.free
   simp at q0 q1
   have c4:=(HP3.out.set2p (x':=.int .i64 (NA)) (y':=.int .i64 (NA)))
   have HBf:=Lib.hid (HRet.out _ (NA) (NA) HP3.out HB3.out)
   have d0:=c4.cell 0
   have d1:=c4.cell 1
   simp at d0 d1
   clear c4 HRet
   go_wp2_with fail
   refine bodyPost_ret (v:=.tuple #[.agg #[.int .i64 (NA), .int .i64 (NA)], .bool true]) (by simp [results,Tryz.results194,go_sem, *]) rfl ⟨NA,NA,rfl,(fun p hp => by injection hp with hp;exact hp.symm),by rw [Hbx.out];exact HBf.out⟩
 ·have hR:=HTw.out rfl
  have HDx:=Lib.hid (HD.out w3)
  clear HNn HTw HD
  go_wp2_with fail
  refine HDx.out.mono ?_
  rintro e w4 ⟨rfl,hb⟩
  have HP4:=Lib.hid (HP3.out.below hb HP3.out.lt)
  have HB4:=Lib.hid (HB3.out.trans (hb.mono (Nat.le_of_lt HP3.out.lt)))
  clear hb HP3 HB3 HDx
  cases OA
  ·rw [if_neg (by simp)] at hR
   subst hR
   have q0:=HP4.out.cell 0
   have q1:=HP4.out.cell 1
   have qf:=HP4.out.free
   simp at q0 q1
   have c4:=(HP4.out.set2p (x':=.int .i64 (NA)) (y':=.int .i64 (NB)))
   have HBf:=Lib.hid (HRet.out _ (NA) (NB) HP4.out HB4.out)
   have d0:=c4.cell 0
   have d1:=c4.cell 1
   simp at d0 d1
   clear c4 HRet
   go_wp2_with fail
   refine bodyPost_ret (v:=.tuple #[.agg #[.int .i64 (NA), .int .i64 (NB)], .bool false]) (by simp [results,Tryz.results194,go_sem, *]) rfl ⟨NA,NB,rfl,(fun p hp => by cases hp),by rw [Hbx.out];exact HBf.out⟩
  cases OB
  ·rw [if_neg (by simp)] at hR
   subst hR
   have q0:=HP4.out.cell 0
   have q1:=HP4.out.cell 1
   have qf:=HP4.out.free
   simp at q0 q1
   have c4:=(HP4.out.set2p (x':=.int .i64 (NA)) (y':=.int .i64 (NB)))
   have HBf:=Lib.hid (HRet.out _ (NA) (NB) HP4.out HB4.out)
   have d0:=c4.cell 0
   have d1:=c4.cell 1
   simp at d0 d1
   clear c4 HRet
   go_wp2_with fail
   refine bodyPost_ret (v:=.tuple #[.agg #[.int .i64 (NA), .int .i64 (NB)], .bool false]) (by simp [results,Tryz.results194,go_sem, *]) rfl ⟨NA,NB,rfl,(fun p hp => by cases hp),by rw [Hbx.out];exact HBf.out⟩
  obtain rfl:=HNA.out rfl
  obtain rfl:=HNB.out rfl
  clear HNA HNB
  by_cases hne:NA=NB
  ·rw [if_neg (by simp [hne])] at hR
   subst hR
   subst hne
   have q0:=HP4.out.cell 0
   have q1:=HP4.out.cell 1
   have qf:=HP4.out.free
   simp at q0 q1
   have c4:=(HP4.out.set2p (x':=.int .i64 (NA)) (y':=.int .i64 (NA)))
   have HBf:=Lib.hid (HRet.out _ (NA) (NA) HP4.out HB4.out)
   have d0:=c4.cell 0
   have d1:=c4.cell 1
   simp at d0 d1
   clear c4 HRet
   go_wp2_with fail
   refine bodyPost_ret (v:=.tuple #[.agg #[.int .i64 (NA), .int .i64 (NA)], .bool false]) (by simp [results,Tryz.results194,go_sem, *]) rfl ⟨NA,NA,rfl,(fun p hp => by cases hp),by rw [Hbx.out];exact HBf.out⟩
  by_cases hge:0≤NB
  ·rw [if_pos ⟨rfl,rfl,hne,hge⟩] at hR
   subst hR
   have hne2:(NA != NB)=true:=by simpa using hne
   have q0:=HP4.out.cell 0
   have q1:=HP4.out.cell 1
   have qf:=HP4.out.free
   simp at q0 q1
   have c4:=(HP4.out.set2p (x':=.int .i64 (NA)) (y':=.int .i64 (NB)))
   have HBf:=Lib.hid (HRet.out _ (NA) (NB) HP4.out HB4.out)
   have d0:=c4.cell 0
   have d1:=c4.cell 1
   simp at d0 d1
   clear c4 HRet
   go_wp2_with fail
   refine bodyPost_ret (v:=.tuple #[.agg #[.int .i64 (NA), .int .i64 (NB)], .bool true]) (by simp [results,Tryz.results194,go_sem, *]) rfl ⟨NA,NB,rfl,(fun p hp => by injection hp with hp;exact hp.symm),by rw [Hbx.out];exact HBf.out⟩
  ·rw [if_neg (fun h => hge h.2.2.2)] at hR
   subst hR
   have hne2:(NA != NB)=true:=by simpa using hne
   have q0:=HP4.out.cell 0
   have q1:=HP4.out.cell 1
   have qf:=HP4.out.free
   simp at q0 q1
   have c4:=(HP4.out.set2p (x':=.int .i64 (NA)) (y':=.int .i64 (NB)))
   have HBf:=Lib.hid (HRet.out _ (NA) (NB) HP4.out HB4.out)
   have d0:=c4.cell 0
   have d1:=c4.cell 1
   simp at d0 d1
   clear c4 HRet
   go_wp2_with fail
   refine bodyPost_ret (v:=.tuple #[.agg #[.int .i64 (NA), .int .i64 (NB)], .bool false]) (by simp [results,Tryz.results194,go_sem, *]) rfl ⟨NA,NB,rfl,(fun p hp => by cases hp),by rw [Hbx.out];exact HBf.out⟩
theorem Blk.setOther {w:World} {A B:Nat} {t:TypeId} {cs:Array Value} (h:Blk w A t cs) (hne:B ≠ A) (o:Nat) (v:Value):Blk (w.setCell ⟨B,o,none⟩ v) A t cs :=
 Blk.far h (Ne.symm hne) o v
def rqC (w0:World) (bx px:Nat) (n1 p2:Int) (n:Nat) (w:World):Prop:=Blk w px 132 #[.int .i64 n1, .int .i64 p2]∧Blk w bx 132 (if n=0 then #[.int .i64 0, .int .i64 0] else #[.int .i64 n1, .int .i64 p2])∧Below bx w0 w
def pqR (V:List Value) (p:Nat) (v:Value) (n:Nat) (_:World):Prop:=if p=23 then n=1 else v=V.getD p undef
theorem pqR_keep {V:List Value} (p:Nat) (v:Value) (n:Nat) (u:World) (m:Nat) (w:World) (h:pqR V p v n u) (hb:hqS n u m w):pqR V p v m w:=by
 unfold pqR at h ⊢
 by_cases hp:p=23
 ·rw [if_pos hp] at h ⊢
  have h1:=hb.1
  have h2:=hb.2
  omega
 ·rw [if_neg hp] at h ⊢
  exact h
theorem qreadPorts_any (s:List UInt8) (w:World) (hv:Vr w) (hs:s.length≤1000000) :
  Calls Tryz.prog 200 #[.string (strL s)] w fun e w' => ∃ p1 p2:Int,e=.returned (.tuple #[.agg #[.int .i64 p1, .int .i64 p2], .bool (poP s).isSome])∧(∀ p,poP s=some p→p=(p1,p2))∧Below w.heap.size w w':=by
 have HP:Hid (Blk (w.alloc (.cells #[.int .i64 0, .int .i64 0] 132 (0,0))) w.heap.size 132 #[.int .i64 0, .int .i64 0]):=Lib.hid (Blk.new w _ _)
 have HB:Hid (Below w.heap.size w (w.alloc (.cells #[.int .i64 0, .int .i64 0] 132 (0,0)))):=Lib.hid (below_alloc (Below.refl _ _) _)
 have HV:=Lib.hid (hv.below (below_alloc (Below.refl _ _) (.cells #[.int .i64 0, .int .i64 0] 132 (0,0))))
 have hl:=cut_le s [45]
 have HC:Hid (∀ wx,Vr wx→Calls Tryz.prog 195 #[.string (strL s), .string ⟨#[45]⟩] wx (Ret (.tuple #[.string (strL (Lib.cut s [45]).1), .string (strL (Lib.cut s [45]).2.1), .bool (Lib.cut s [45]).2.2]) wx)):=Lib.hid fun wx hv => cut_any s [45] wx hv hs
 have HNn:Hid ((Lib.cut s [45]).2.2=false→poP s=if numOk (Lib.cut s [45]).1 9=true then some (numV (Lib.cut s [45]).1,numV (Lib.cut s [45]).1) else none):=Lib.hid poP_none
 have HTw:Hid ((Lib.cut s [45]).2.2=true→poP s=if numOk (Lib.cut s [45]).1 9=true∧numOk (Lib.cut s [45]).2.1 9=true∧numV (Lib.cut s [45]).1 ≠ numV (Lib.cut s [45]).2.1∧0≤numV (Lib.cut s [45]).2.1 then some (numV (Lib.cut s [45]).1,numV (Lib.cut s [45]).2.1) else none):=Lib.hid poP_two
 have HNN:=Lib.hid (poP_nn s)
 have HA:=Lib.hid fun wx (hv:Vr wx) => qNumber_any (Lib.cut s [45]).1 9 wx hv (Nat.le_trans hl.1 hs) (by decide)
 have HD:=Lib.hid fun wx (hv:Vr wx) => qNumber_any (Lib.cut s [45]).2.1 9 wx hv (Nat.le_trans hl.2 hs) (by decide)
 generalize poP s=PP at *
 generalize numOk (Lib.cut s [45]).1 9=OA at *
 generalize numOk (Lib.cut s [45]).2.1 9=OB at *
 generalize numV (Lib.cut s [45]).1=VA at *
 generalize numV (Lib.cut s [45]).2.1=VB at *
 generalize strL (Lib.cut s [45]).1=SL at *
 generalize strL (Lib.cut s [45]).2.1=SR at *
 generalize (Lib.cut s [45]).2.2=CB at *
 generalize strL s=SS at *
 clear hv hs hl
 go_enter Tryz.func200,Tryz.ntmps200
 go_upto_region 1 with fail
 generalize w.alloc (.cells #[.int .i64 0, .int .i64 0] 132 (0,0))=w1 at *
 obtain ⟨bx,hbx⟩:∃ q,w.heap.size=q:=⟨_,rfl⟩
 have Hbx:=Lib.hid hbx
 rw [hbx] at HP HB ⊢
 clear hbx
 have HRet:Hid (∀ wx (p1 p2:Int),Blk wx bx 132 #[.int .i64 0, .int .i64 0]→Below bx w wx→Below bx w ((wx.setCell ⟨bx,0,none⟩ (.int .i64 p1)).setCell ⟨bx,1,none⟩ (.int .i64 p2))):=Lib.hid fun wx p1 p2 hp hb => hb.grown (grown_setCells bx [.int .i64 p1, .int .i64 p2] 0 wx) (Nat.le_of_lt hp.lt) (fun k hk => by injection hk with hk;omega)
 go_wp2_with fail
 refine (HC.out _ HV.out).mono ?_
 rintro e w2 ⟨rfl,hb⟩
 have HP2:=Lib.hid (HP.out.below hb HP.out.lt)
 have HB2:=Lib.hid (HB.out.trans (hb.mono (Nat.le_of_lt HP.out.lt)))
 have HV2:=Lib.hid (HV.out.below hb)
 clear hb HP HB HV HC
 have HAx:=Lib.hid (HA.out w2 HV2.out)
 clear HA
 go_wp2_with fail
 refine HAx.out.mono ?_
 rintro e w3 ⟨n1,rfl,hna,hb⟩
 have HNA:=Lib.hid hna
 have HP3:=Lib.hid (HP2.out.below hb HP2.out.lt)
 have HB3:=Lib.hid (HB2.out.trans (hb.mono (Nat.le_of_lt HP2.out.lt)))
 have HV3:=Lib.hid (HV2.out.below hb)
 clear hb hna HP2 HB2 HV2 HAx
 have HDx:=Lib.hid (HD.out w3 HV3.out)
 clear HD
 go_wp2_with fail
 refine HDx.out.mono ?_
 rintro e w4 ⟨n2,rfl,hnb,hb⟩
 have HNB:=Lib.hid hnb
 have HP4:=Lib.hid (HP3.out.below hb HP3.out.lt)
 have HB4:=Lib.hid (HB3.out.trans (hb.mono (Nat.le_of_lt HP3.out.lt)))
 clear hb hnb HP3 HB3 HV3 HDx
 have hlt4:=HP4.out.lt
 obtain ⟨px,hpx⟩:∃ q,w4.heap.size=q:=⟨_,rfl⟩
 have HNe:Hid (bx ≠ px):=Lib.hid (by omega)
 have HLx:Hid (bx < px):=Lib.hid (by omega)
 have HP5:=Lib.hid (HP4.out.alloc (.cells #[.int .i64 n1, .int .i64 n1] 132 (0,0)))
 have HB5:=Lib.hid (HB4.out.alloc (Nat.le_of_lt HP4.out.lt) (.cells #[.int .i64 n1, .int .i64 n1] 132 (0,0)))
 have HX5:Hid (Blk (w4.alloc (.cells #[.int .i64 n1, .int .i64 n1] 132 (0,0))) w4.heap.size 132 #[.int .i64 n1, .int .i64 n1]):=Lib.hid (Blk.new w4 _ _)
 clear HP4 HB4 hlt4
 go_upto_region 5 with fail
 generalize w4.alloc (.cells #[.int .i64 n1, .int .i64 n1] 132 (0,0))=w5 at *
 rw [hpx] at HX5
 clear hpx
 cases CB
 ·have hR:=HNn.out rfl
  clear HNn HTw HNB
  cases OA
  ·rw [if_neg (by decide)] at hR
   subst hR
   clear HNA HNN
   go_upto_region 7 with fail
   refine Lm.wp_region_lim 24 1 (pqR [.agg #[.int .i64 n1, .int .i64 n1], .bool false, .bool false,undef,undef,undef,undef,undef,undef,undef,undef,undef,undef, .bool false, .bool false,undef,undef, .bool false, .bool false,undef,undef,undef, .bool false,undef]) (rqC w bx px n1 n1) hqS (fun i => if i=23 then 1 else 0) (fun i => if i=23 then 0 else 1)
    (by kernel_rfl) (by kernel_rfl) (by decide) (by kernel_rfl) pqR_keep ⟨HX5.out.below (below_drew (Below.refl _ _)) HX5.out.lt,HP5.out.below (below_drew (Below.refl _ _)) HP5.out.lt,HB5.out.trans ((below_drew (Below.refl _ _)).mono (Nat.le_of_lt HP5.out.lt))⟩ ?hXa0
   case' hXa0 => (apply Exists.intro;refine ⟨fun T => ?hAa0,?hoba0,?henda0⟩)
   case hAa0 =>
    simp only [setAll,List.take_succ_cons,List.take_zero,Act.put,List.setIfInBounds_toArray,List.set_cons_succ,List.set_cons_zero,Nat.reduceAdd]
    exact rfl
   case hoba0 =>
    go_light
    refine ⟨?_,?_,?_,?_,?_,?_,?_,?_,?_,?_,?_,?_,?_,?_,?_,?_,?_,?_,?_,?_,?_,?_,?_,?_,trivial⟩
    all_goals (intro TT wx n0 hC hn hp;dsimp only at hn ⊢;unfold Op1)
    all_goals try simp only [Lm.AfterAll,Region.binds,pqR,Nat.reduceEqDiff,if_false,if_true,List.getD_cons_zero,List.getD_cons_succ,and_true] at hp
    all_goals first
     | (have hn1:n0≤1:=by simp at hn;omega
        have hk1:=hC.1
        have c0:=hk1.cell 0
        have c1:=hk1.cell 1
        simp at c0 c1
        try simp only [hp]
        first
         | (refine ⟨fun hg => ?_,fun hg => ?_⟩
            all_goals first
             | (cases hg;done)
             | exact absurd rfl hg
             | exact ⟨rfl,hC,Nat.le_refl _,hn1⟩
             | (go_simp;first | exact ⟨rfl,hC,Nat.le_refl _,hn1⟩ | exact ⟨rfl,Nat.le_refl _,hn1⟩))
         | exact ⟨rfl,hC,Nat.le_refl _,hn1⟩
         | (go_simp;first | exact ⟨rfl,hC,Nat.le_refl _,hn1⟩ | exact ⟨rfl,Nat.le_refl _,hn1⟩))
     | (have hn0:n0=0:=by simpa using hn
        subst hn0
        obtain ⟨hk1,hk2,hk3⟩:=hC
        rw [if_pos rfl] at hk2
        have hfr:=hk2.free
        have q0:=hk2.cell 0
        have q1:=hk2.cell 1
        simp at q0 q1
        have hs2:=hk2.set2p (x':=.int .i64 n1) (y':=.int .i64 n1)
        have hbf:=HRet.out _ n1 n1 hk2 hk3
        have hs1:Blk ((wx.setCell ⟨bx,0,none⟩ (.int .i64 n1)).setCell ⟨bx,1,none⟩ (.int .i64 n1)) px 132 #[.int .i64 n1, .int .i64 n1]:=(Blk.setOther (Blk.setOther hk1 HNe.out _ _) HNe.out _ _)
        have HQ:Hid (rqC w bx px n1 n1 1 ((wx.setCell ⟨bx,0,none⟩ (.int .i64 n1)).setCell ⟨bx,1,none⟩ (.int .i64 n1))):=Lib.hid ⟨hs1,by rw [if_neg (by decide)];exact hs2,hbf⟩
        clear hs1 hs2 hbf hk1 hk2 hk3
        go_simp
        exact ⟨rfl,HQ.out,by omega,by omega⟩)
   case henda0 =>
    intro TT w6 ⟨n0,hn0,hC,hR⟩
    have e23:n0=1:=hR 23 (by omega)
    have e22:TT 22=.bool false:=hR 22 (by omega)
    subst e23
    obtain ⟨-,hk2,hk3⟩:=hC
    rw [if_neg (by decide)] at hk2
    have HBf:=Lib.hid hk3
    have d0:=hk2.cell 0
    have d1:=hk2.cell 1
    simp at d0 d1
    clear hk2 hk3 hR HX5 HP5 HB5 HRet
    simp only [List.drop_succ_cons,List.drop_zero]
    go_wp2_with fail
    refine bodyPost_ret (v:=.tuple #[.agg #[.int .i64 n1, .int .i64 n1], .bool false]) (by simp [results,Tryz.results200,go_sem, *]) rfl (by first | exact ⟨n1,n1,rfl,(fun p hp => by cases hp),by rw [Hbx.out];exact HBf.out⟩ | exact ⟨⟨n1,n1,rfl⟩,by rw [Hbx.out];exact HBf.out⟩)
  ·rw [if_pos rfl] at hR
   obtain rfl:=HNA.out rfl
   have hge1:=HNN.out
   subst hR
   clear HNA HNN
   go_upto_region 7 with fail
   refine Lm.wp_region_lim 24 1 (pqR [.agg #[.int .i64 n1, .int .i64 n1], .bool true, .bool true, .bool false, .bool true, .bool true,undef,undef,undef,undef,undef,undef, .bool true, .bool true, .bool true, .int .i64 n1, .bool true, .bool true, .bool true, .pointer (some ⟨px,1,none⟩), .int .i64 n1, .bool true, .bool true,undef]) (rqC w bx px n1 n1) hqS (fun i => if i=23 then 1 else 0) (fun i => if i=23 then 0 else 1)
    (by kernel_rfl) (by kernel_rfl) (by decide) (by kernel_rfl) pqR_keep ⟨HX5.out.below (below_drew (Below.refl _ _)) HX5.out.lt,HP5.out.below (below_drew (Below.refl _ _)) HP5.out.lt,HB5.out.trans ((below_drew (Below.refl _ _)).mono (Nat.le_of_lt HP5.out.lt))⟩ ?hXn
   case' hXn => (apply Exists.intro;refine ⟨fun T => ?hAn,?hobn,?hendn⟩)
   case hAn =>
    simp only [setAll,List.take_succ_cons,List.take_zero,Act.put,List.setIfInBounds_toArray,List.set_cons_succ,List.set_cons_zero,Nat.reduceAdd]
    exact rfl
   case hobn =>
    go_light
    refine ⟨?_,?_,?_,?_,?_,?_,?_,?_,?_,?_,?_,?_,?_,?_,?_,?_,?_,?_,?_,?_,?_,?_,?_,?_,trivial⟩
    all_goals (intro TT wx n0 hC hn hp;dsimp only at hn ⊢;unfold Op1)
    all_goals try simp only [Lm.AfterAll,Region.binds,pqR,Nat.reduceEqDiff,if_false,if_true,List.getD_cons_zero,List.getD_cons_succ,and_true] at hp
    all_goals first
     | (have hn1:n0≤1:=by simp at hn;omega
        have hk1:=hC.1
        have c0:=hk1.cell 0
        have c1:=hk1.cell 1
        simp at c0 c1
        try simp only [hp]
        first
         | (refine ⟨fun hg => ?_,fun hg => ?_⟩
            all_goals first
             | (cases hg;done)
             | exact absurd rfl hg
             | exact ⟨rfl,hC,Nat.le_refl _,hn1⟩
             | (go_simp;first | exact ⟨rfl,hC,Nat.le_refl _,hn1⟩ | exact ⟨rfl,Nat.le_refl _,hn1⟩))
         | exact ⟨rfl,hC,Nat.le_refl _,hn1⟩
         | (go_simp;first | exact ⟨rfl,hC,Nat.le_refl _,hn1⟩ | exact ⟨rfl,Nat.le_refl _,hn1⟩))
     | (have hn0:n0=0:=by simpa using hn
        subst hn0
        obtain ⟨hk1,hk2,hk3⟩:=hC
        rw [if_pos rfl] at hk2
        have hfr:=hk2.free
        have q0:=hk2.cell 0
        have q1:=hk2.cell 1
        simp at q0 q1
        have hs2:=hk2.set2p (x':=.int .i64 n1) (y':=.int .i64 n1)
        have hbf:=HRet.out _ n1 n1 hk2 hk3
        have hs1:Blk ((wx.setCell ⟨bx,0,none⟩ (.int .i64 n1)).setCell ⟨bx,1,none⟩ (.int .i64 n1)) px 132 #[.int .i64 n1, .int .i64 n1]:=(Blk.setOther (Blk.setOther hk1 HNe.out _ _) HNe.out _ _)
        have HQ:Hid (rqC w bx px n1 n1 1 ((wx.setCell ⟨bx,0,none⟩ (.int .i64 n1)).setCell ⟨bx,1,none⟩ (.int .i64 n1))):=Lib.hid ⟨hs1,by rw [if_neg (by decide)];exact hs2,hbf⟩
        clear hs1 hs2 hbf hk1 hk2 hk3
        go_simp
        exact ⟨rfl,HQ.out,by omega,by omega⟩)
   case hendn =>
    intro TT w6 ⟨n0,hn0,hC,hR⟩
    have e23:n0=1:=hR 23 (by omega)
    have e22:TT 22=.bool true:=hR 22 (by omega)
    subst e23
    obtain ⟨-,hk2,hk3⟩:=hC
    rw [if_neg (by decide)] at hk2
    have HBf:=Lib.hid hk3
    have d0:=hk2.cell 0
    have d1:=hk2.cell 1
    simp at d0 d1
    clear hk2 hk3 hR HX5 HP5 HB5 HRet
    simp only [List.drop_succ_cons,List.drop_zero]
    go_wp2_with fail
    refine bodyPost_ret (v:=.tuple #[.agg #[.int .i64 n1, .int .i64 n1], .bool true]) (by simp [results,Tryz.results200,go_sem, *]) rfl (by first | exact ⟨n1,n1,rfl,(fun p hp => by injection hp with hp;exact hp.symm),by rw [Hbx.out];exact HBf.out⟩ | exact ⟨⟨n1,n1,rfl⟩,by rw [Hbx.out];exact HBf.out⟩)
 ·have hR:=HTw.out rfl
  clear HNn HTw
  have HX6:Hid (Blk (w5.setCell ⟨px,1,none⟩ (.int .i64 n2)) px 132 #[.int .i64 n1, .int .i64 n2]):=Lib.hid (HX5.out.set 1 _)
  have HP6:Hid (Blk (w5.setCell ⟨px,1,none⟩ (.int .i64 n2)) bx 132 #[.int .i64 0, .int .i64 0]):=Lib.hid (HP5.out.setOther (Ne.symm HNe.out) _ _)
  have HB6:Hid (Below bx w (w5.setCell ⟨px,1,none⟩ (.int .i64 n2))):=Lib.hid (HB5.out.setCell (p:=⟨px,1,none⟩) (by have:=HNe.out;have:=HLx.out;show bx≤px;omega) _)
  have x0:=HX5.out.cell 0
  have x1:=HX5.out.cell 1
  have xf:=HX5.out.free
  simp at x0 x1
  go_upto_region 7 with fail
  clear x0 x1 xf HX5 HP5 HB5
  generalize w5.setCell ⟨px,1,none⟩ (.int .i64 n2)=w5 at *
  have HX5:=HX6
  have HP5:=HP6
  have HB5:=HB6
  clear HX6 HP6 HB6
  cases OA
  ·rw [if_neg (by simp)] at hR
   subst hR
   clear HNA HNB HNN
   refine Lm.wp_region_lim 24 1 (pqR [.agg #[.int .i64 n1, .int .i64 n2], .bool false, .bool false,undef,undef,undef,undef,undef,undef,undef,undef,undef,undef, .bool false, .bool false,undef,undef, .bool false, .bool false,undef,undef,undef, .bool false,undef]) (rqC w bx px n1 n2) hqS (fun i => if i=23 then 1 else 0) (fun i => if i=23 then 0 else 1)
    (by kernel_rfl) (by kernel_rfl) (by decide) (by kernel_rfl) pqR_keep ⟨HX5.out.below (below_drew (Below.refl _ _)) HX5.out.lt,HP5.out.below (below_drew (Below.refl _ _)) HP5.out.lt,HB5.out.trans ((below_drew (Below.refl _ _)).mono (Nat.le_of_lt HP5.out.lt))⟩ ?hXa1
   case' hXa1 => (apply Exists.intro;refine ⟨fun T => ?hAa1,?hoba1,?henda1⟩)
   case hAa1 =>
    simp only [setAll,List.take_succ_cons,List.take_zero,Act.put,List.setIfInBounds_toArray,List.set_cons_succ,List.set_cons_zero,Nat.reduceAdd]
    exact rfl
   case hoba1 =>
    go_light
    refine ⟨?_,?_,?_,?_,?_,?_,?_,?_,?_,?_,?_,?_,?_,?_,?_,?_,?_,?_,?_,?_,?_,?_,?_,?_,trivial⟩
    all_goals (intro TT wx n0 hC hn hp;dsimp only at hn ⊢;unfold Op1)
    all_goals try simp only [Lm.AfterAll,Region.binds,pqR,Nat.reduceEqDiff,if_false,if_true,List.getD_cons_zero,List.getD_cons_succ,and_true] at hp
    all_goals first
     | (have hn1:n0≤1:=by simp at hn;omega
        have hk1:=hC.1
        have c0:=hk1.cell 0
        have c1:=hk1.cell 1
        simp at c0 c1
        try simp only [hp]
        first
         | (refine ⟨fun hg => ?_,fun hg => ?_⟩
            all_goals first
             | (cases hg;done)
             | exact absurd rfl hg
             | exact ⟨rfl,hC,Nat.le_refl _,hn1⟩
             | (go_simp;first | exact ⟨rfl,hC,Nat.le_refl _,hn1⟩ | exact ⟨rfl,Nat.le_refl _,hn1⟩))
         | exact ⟨rfl,hC,Nat.le_refl _,hn1⟩
         | (go_simp;first | exact ⟨rfl,hC,Nat.le_refl _,hn1⟩ | exact ⟨rfl,Nat.le_refl _,hn1⟩))
     | (have hn0:n0=0:=by simpa using hn
        subst hn0
        obtain ⟨hk1,hk2,hk3⟩:=hC
        rw [if_pos rfl] at hk2
        have hfr:=hk2.free
        have q0:=hk2.cell 0
        have q1:=hk2.cell 1
        simp at q0 q1
        have hs2:=hk2.set2p (x':=.int .i64 n1) (y':=.int .i64 n2)
        have hbf:=HRet.out _ n1 n2 hk2 hk3
        have hs1:Blk ((wx.setCell ⟨bx,0,none⟩ (.int .i64 n1)).setCell ⟨bx,1,none⟩ (.int .i64 n2)) px 132 #[.int .i64 n1, .int .i64 n2]:=(Blk.setOther (Blk.setOther hk1 HNe.out _ _) HNe.out _ _)
        have HQ:Hid (rqC w bx px n1 n2 1 ((wx.setCell ⟨bx,0,none⟩ (.int .i64 n1)).setCell ⟨bx,1,none⟩ (.int .i64 n2))):=Lib.hid ⟨hs1,by rw [if_neg (by decide)];exact hs2,hbf⟩
        clear hs1 hs2 hbf hk1 hk2 hk3
        go_simp
        exact ⟨rfl,HQ.out,by omega,by omega⟩)
   case henda1 =>
    intro TT w6 ⟨n0,hn0,hC,hR⟩
    have e23:n0=1:=hR 23 (by omega)
    have e22:TT 22=.bool false:=hR 22 (by omega)
    subst e23
    obtain ⟨-,hk2,hk3⟩:=hC
    rw [if_neg (by decide)] at hk2
    have HBf:=Lib.hid hk3
    have d0:=hk2.cell 0
    have d1:=hk2.cell 1
    simp at d0 d1
    clear hk2 hk3 hR HX5 HP5 HB5 HRet
    simp only [List.drop_succ_cons,List.drop_zero]
    go_wp2_with fail
    refine bodyPost_ret (v:=.tuple #[.agg #[.int .i64 n1, .int .i64 n2], .bool false]) (by simp [results,Tryz.results200,go_sem, *]) rfl (by first | exact ⟨n1,n2,rfl,(fun p hp => by cases hp),by rw [Hbx.out];exact HBf.out⟩ | exact ⟨⟨n1,n2,rfl⟩,by rw [Hbx.out];exact HBf.out⟩)
  obtain rfl:=HNA.out rfl
  have hge1:=HNN.out
  cases OB
  ·rw [if_neg (by simp)] at hR
   subst hR
   clear HNA HNB HNN
   refine Lm.wp_region_lim 24 1 (pqR [.agg #[.int .i64 n1, .int .i64 n2], .bool true, .bool true, .bool true, .bool false, .bool false, .bool false, .bool false,undef,undef,undef, .bool false, .bool false, .bool false, .bool false,undef,undef, .bool false, .bool false,undef,undef,undef, .bool false,undef]) (rqC w bx px n1 n2) hqS (fun i => if i=23 then 1 else 0) (fun i => if i=23 then 0 else 1)
    (by kernel_rfl) (by kernel_rfl) (by decide) (by kernel_rfl) pqR_keep ⟨HX5.out.below (below_drew (Below.refl _ _)) HX5.out.lt,HP5.out.below (below_drew (Below.refl _ _)) HP5.out.lt,HB5.out.trans ((below_drew (Below.refl _ _)).mono (Nat.le_of_lt HP5.out.lt))⟩ ?hXb
   case' hXb => (apply Exists.intro;refine ⟨fun T => ?hAb,?hobb,?hendb⟩)
   case hAb =>
    simp only [setAll,List.take_succ_cons,List.take_zero,Act.put,List.setIfInBounds_toArray,List.set_cons_succ,List.set_cons_zero,Nat.reduceAdd]
    exact rfl
   case hobb =>
    go_light
    refine ⟨?_,?_,?_,?_,?_,?_,?_,?_,?_,?_,?_,?_,?_,?_,?_,?_,?_,?_,?_,?_,?_,?_,?_,?_,trivial⟩
    all_goals (intro TT wx n0 hC hn hp;dsimp only at hn ⊢;unfold Op1)
    all_goals try simp only [Lm.AfterAll,Region.binds,pqR,Nat.reduceEqDiff,if_false,if_true,List.getD_cons_zero,List.getD_cons_succ,and_true] at hp
    all_goals first
     | (have hn1:n0≤1:=by simp at hn;omega
        have hk1:=hC.1
        have c0:=hk1.cell 0
        have c1:=hk1.cell 1
        simp at c0 c1
        try simp only [hp]
        first
         | (refine ⟨fun hg => ?_,fun hg => ?_⟩
            all_goals first
             | (cases hg;done)
             | exact absurd rfl hg
             | exact ⟨rfl,hC,Nat.le_refl _,hn1⟩
             | (go_simp;first | exact ⟨rfl,hC,Nat.le_refl _,hn1⟩ | exact ⟨rfl,Nat.le_refl _,hn1⟩))
         | exact ⟨rfl,hC,Nat.le_refl _,hn1⟩
         | (go_simp;first | exact ⟨rfl,hC,Nat.le_refl _,hn1⟩ | exact ⟨rfl,Nat.le_refl _,hn1⟩))
     | (have hn0:n0=0:=by simpa using hn
        subst hn0
        obtain ⟨hk1,hk2,hk3⟩:=hC
        rw [if_pos rfl] at hk2
        have hfr:=hk2.free
        have q0:=hk2.cell 0
        have q1:=hk2.cell 1
        simp at q0 q1
        have hs2:=hk2.set2p (x':=.int .i64 n1) (y':=.int .i64 n2)
        have hbf:=HRet.out _ n1 n2 hk2 hk3
        have hs1:Blk ((wx.setCell ⟨bx,0,none⟩ (.int .i64 n1)).setCell ⟨bx,1,none⟩ (.int .i64 n2)) px 132 #[.int .i64 n1, .int .i64 n2]:=(Blk.setOther (Blk.setOther hk1 HNe.out _ _) HNe.out _ _)
        have HQ:Hid (rqC w bx px n1 n2 1 ((wx.setCell ⟨bx,0,none⟩ (.int .i64 n1)).setCell ⟨bx,1,none⟩ (.int .i64 n2))):=Lib.hid ⟨hs1,by rw [if_neg (by decide)];exact hs2,hbf⟩
        clear hs1 hs2 hbf hk1 hk2 hk3
        go_simp
        exact ⟨rfl,HQ.out,by omega,by omega⟩)
   case hendb =>
    intro TT w6 ⟨n0,hn0,hC,hR⟩
    have e23:n0=1:=hR 23 (by omega)
    have e22:TT 22=.bool false:=hR 22 (by omega)
    subst e23
    obtain ⟨-,hk2,hk3⟩:=hC
    rw [if_neg (by decide)] at hk2
    have HBf:=Lib.hid hk3
    have d0:=hk2.cell 0
    have d1:=hk2.cell 1
    simp at d0 d1
    clear hk2 hk3 hR HX5 HP5 HB5 HRet
    simp only [List.drop_succ_cons,List.drop_zero]
    go_wp2_with fail
    refine bodyPost_ret (v:=.tuple #[.agg #[.int .i64 n1, .int .i64 n2], .bool false]) (by simp [results,Tryz.results200,go_sem, *]) rfl (by first | exact ⟨n1,n2,rfl,(fun p hp => by cases hp),by rw [Hbx.out];exact HBf.out⟩ | exact ⟨⟨n1,n2,rfl⟩,by rw [Hbx.out];exact HBf.out⟩)
  obtain rfl:=HNB.out rfl
  clear HNA HNB HNN
  by_cases hne:n1=n2
  ·rw [if_neg (by simp [hne])] at hR
   subst hR
   subst hne
   refine Lm.wp_region_lim 24 1 (pqR [.agg #[.int .i64 n1, .int .i64 n1], .bool true, .bool true, .bool true, .bool false, .bool false, .bool true, .bool true, .int .i64 n1, .int .i64 n1, .bool false, .bool false, .bool false, .bool false, .bool false,undef,undef, .bool false, .bool false,undef,undef,undef, .bool false,undef]) (rqC w bx px n1 n1) hqS (fun i => if i=23 then 1 else 0) (fun i => if i=23 then 0 else 1)
    (by kernel_rfl) (by kernel_rfl) (by decide) (by kernel_rfl) pqR_keep ⟨HX5.out.below (below_drew (Below.refl _ _)) HX5.out.lt,HP5.out.below (below_drew (Below.refl _ _)) HP5.out.lt,HB5.out.trans ((below_drew (Below.refl _ _)).mono (Nat.le_of_lt HP5.out.lt))⟩ ?hXe
   case' hXe => (apply Exists.intro;refine ⟨fun T => ?hAe,?hobe,?hende⟩)
   case hAe =>
    simp only [setAll,List.take_succ_cons,List.take_zero,Act.put,List.setIfInBounds_toArray,List.set_cons_succ,List.set_cons_zero,Nat.reduceAdd]
    exact rfl
   case hobe =>
    go_light
    refine ⟨?_,?_,?_,?_,?_,?_,?_,?_,?_,?_,?_,?_,?_,?_,?_,?_,?_,?_,?_,?_,?_,?_,?_,?_,trivial⟩
    all_goals (intro TT wx n0 hC hn hp;dsimp only at hn ⊢;unfold Op1)
    all_goals try simp only [Lm.AfterAll,Region.binds,pqR,Nat.reduceEqDiff,if_false,if_true,List.getD_cons_zero,List.getD_cons_succ,and_true] at hp
    all_goals first
     | (have hn1:n0≤1:=by simp at hn;omega
        have hk1:=hC.1
        have c0:=hk1.cell 0
        have c1:=hk1.cell 1
        simp at c0 c1
        try simp only [hp]
        first
         | (refine ⟨fun hg => ?_,fun hg => ?_⟩
            all_goals first
             | (cases hg;done)
             | exact absurd rfl hg
             | exact ⟨rfl,hC,Nat.le_refl _,hn1⟩
             | (go_simp;first | exact ⟨rfl,hC,Nat.le_refl _,hn1⟩ | exact ⟨rfl,Nat.le_refl _,hn1⟩))
         | exact ⟨rfl,hC,Nat.le_refl _,hn1⟩
         | (go_simp;first | exact ⟨rfl,hC,Nat.le_refl _,hn1⟩ | exact ⟨rfl,Nat.le_refl _,hn1⟩))
     | (have hn0:n0=0:=by simpa using hn
        subst hn0
        obtain ⟨hk1,hk2,hk3⟩:=hC
        rw [if_pos rfl] at hk2
        have hfr:=hk2.free
        have q0:=hk2.cell 0
        have q1:=hk2.cell 1
        simp at q0 q1
        have hs2:=hk2.set2p (x':=.int .i64 n1) (y':=.int .i64 n1)
        have hbf:=HRet.out _ n1 n1 hk2 hk3
        have hs1:Blk ((wx.setCell ⟨bx,0,none⟩ (.int .i64 n1)).setCell ⟨bx,1,none⟩ (.int .i64 n1)) px 132 #[.int .i64 n1, .int .i64 n1]:=(Blk.setOther (Blk.setOther hk1 HNe.out _ _) HNe.out _ _)
        have HQ:Hid (rqC w bx px n1 n1 1 ((wx.setCell ⟨bx,0,none⟩ (.int .i64 n1)).setCell ⟨bx,1,none⟩ (.int .i64 n1))):=Lib.hid ⟨hs1,by rw [if_neg (by decide)];exact hs2,hbf⟩
        clear hs1 hs2 hbf hk1 hk2 hk3
        go_simp
        exact ⟨rfl,HQ.out,by omega,by omega⟩)
   case hende =>
    intro TT w6 ⟨n0,hn0,hC,hR⟩
    have e23:n0=1:=hR 23 (by omega)
    have e22:TT 22=.bool false:=hR 22 (by omega)
    subst e23
    obtain ⟨-,hk2,hk3⟩:=hC
    rw [if_neg (by decide)] at hk2
    have HBf:=Lib.hid hk3
    have d0:=hk2.cell 0
    have d1:=hk2.cell 1
    simp at d0 d1
    clear hk2 hk3 hR HX5 HP5 HB5 HRet
    simp only [List.drop_succ_cons,List.drop_zero]
    go_wp2_with fail
    refine bodyPost_ret (v:=.tuple #[.agg #[.int .i64 n1, .int .i64 n1], .bool false]) (by simp [results,Tryz.results200,go_sem, *]) rfl (by first | exact ⟨n1,n1,rfl,(fun p hp => by cases hp),by rw [Hbx.out];exact HBf.out⟩ | exact ⟨⟨n1,n1,rfl⟩,by rw [Hbx.out];exact HBf.out⟩)
  by_cases hge:0≤n2
  ·rw [if_pos ⟨rfl,rfl,hne,hge⟩] at hR
   subst hR
   have hne2:(n1 != n2)=true:=by simpa using hne
   refine Lm.wp_region_lim 24 1 (pqR [.agg #[.int .i64 n1, .int .i64 n2], .bool true, .bool true, .bool true, .bool false, .bool false, .bool true, .bool true, .int .i64 n1, .int .i64 n2, .bool true, .bool true, .bool true, .bool true, .bool true, .int .i64 n1, .bool true, .bool true, .bool true, .pointer (some ⟨px,1,none⟩), .int .i64 n2, .bool true, .bool true,undef]) (rqC w bx px n1 n2) hqS (fun i => if i=23 then 1 else 0) (fun i => if i=23 then 0 else 1)
    (by kernel_rfl) (by kernel_rfl) (by decide) (by kernel_rfl) pqR_keep ⟨HX5.out.below (below_drew (Below.refl _ _)) HX5.out.lt,HP5.out.below (below_drew (Below.refl _ _)) HP5.out.lt,HB5.out.trans ((below_drew (Below.refl _ _)).mono (Nat.le_of_lt HP5.out.lt))⟩ ?hXg
   case' hXg => (apply Exists.intro;refine ⟨fun T => ?hAg,?hobg,?hendg⟩)
   case hAg =>
    simp only [setAll,List.take_succ_cons,List.take_zero,Act.put,List.setIfInBounds_toArray,List.set_cons_succ,List.set_cons_zero,Nat.reduceAdd]
    exact rfl
   case hobg =>
    go_light
    refine ⟨?_,?_,?_,?_,?_,?_,?_,?_,?_,?_,?_,?_,?_,?_,?_,?_,?_,?_,?_,?_,?_,?_,?_,?_,trivial⟩
    all_goals (intro TT wx n0 hC hn hp;dsimp only at hn ⊢;unfold Op1)
    all_goals try simp only [Lm.AfterAll,Region.binds,pqR,Nat.reduceEqDiff,if_false,if_true,List.getD_cons_zero,List.getD_cons_succ,and_true] at hp
    all_goals first
     | (have hn1:n0≤1:=by simp at hn;omega
        have hk1:=hC.1
        have c0:=hk1.cell 0
        have c1:=hk1.cell 1
        simp at c0 c1
        try simp only [hp]
        first
         | (refine ⟨fun hg => ?_,fun hg => ?_⟩
            all_goals first
             | (cases hg;done)
             | exact absurd rfl hg
             | exact ⟨rfl,hC,Nat.le_refl _,hn1⟩
             | (go_simp;first | exact ⟨rfl,hC,Nat.le_refl _,hn1⟩ | exact ⟨rfl,Nat.le_refl _,hn1⟩))
         | exact ⟨rfl,hC,Nat.le_refl _,hn1⟩
         | (go_simp;first | exact ⟨rfl,hC,Nat.le_refl _,hn1⟩ | exact ⟨rfl,Nat.le_refl _,hn1⟩))
     | (have hn0:n0=0:=by simpa using hn
        subst hn0
        obtain ⟨hk1,hk2,hk3⟩:=hC
        rw [if_pos rfl] at hk2
        have hfr:=hk2.free
        have q0:=hk2.cell 0
        have q1:=hk2.cell 1
        simp at q0 q1
        have hs2:=hk2.set2p (x':=.int .i64 n1) (y':=.int .i64 n2)
        have hbf:=HRet.out _ n1 n2 hk2 hk3
        have hs1:Blk ((wx.setCell ⟨bx,0,none⟩ (.int .i64 n1)).setCell ⟨bx,1,none⟩ (.int .i64 n2)) px 132 #[.int .i64 n1, .int .i64 n2]:=(Blk.setOther (Blk.setOther hk1 HNe.out _ _) HNe.out _ _)
        have HQ:Hid (rqC w bx px n1 n2 1 ((wx.setCell ⟨bx,0,none⟩ (.int .i64 n1)).setCell ⟨bx,1,none⟩ (.int .i64 n2))):=Lib.hid ⟨hs1,by rw [if_neg (by decide)];exact hs2,hbf⟩
        clear hs1 hs2 hbf hk1 hk2 hk3
        go_simp
        exact ⟨rfl,HQ.out,by omega,by omega⟩)
   case hendg =>
    intro TT w6 ⟨n0,hn0,hC,hR⟩
    have e23:n0=1:=hR 23 (by omega)
    have e22:TT 22=.bool true:=hR 22 (by omega)
    subst e23
    obtain ⟨-,hk2,hk3⟩:=hC
    rw [if_neg (by decide)] at hk2
    have HBf:=Lib.hid hk3
    have d0:=hk2.cell 0
    have d1:=hk2.cell 1
    simp at d0 d1
    clear hk2 hk3 hR HX5 HP5 HB5 HRet
    simp only [List.drop_succ_cons,List.drop_zero]
    go_wp2_with fail
    refine bodyPost_ret (v:=.tuple #[.agg #[.int .i64 n1, .int .i64 n2], .bool true]) (by simp [results,Tryz.results200,go_sem, *]) rfl (by first | exact ⟨n1,n2,rfl,(fun p hp => by injection hp with hp;exact hp.symm),by rw [Hbx.out];exact HBf.out⟩ | exact ⟨⟨n1,n2,rfl⟩,by rw [Hbx.out];exact HBf.out⟩)
  ·rw [if_neg (fun h => hge h.2.2.2)] at hR
   subst hR
   have hne2:(n1 != n2)=true:=by simpa using hne
   refine Lm.wp_region_lim 24 1 (pqR [.agg #[.int .i64 n1, .int .i64 n2], .bool true, .bool true, .bool true, .bool false, .bool false, .bool true, .bool true, .int .i64 n1, .int .i64 n2, .bool true, .bool true, .bool true, .bool true, .bool true, .int .i64 n1, .bool true, .bool true, .bool true, .pointer (some ⟨px,1,none⟩), .int .i64 n2, .bool false, .bool false,undef]) (rqC w bx px n1 n2) hqS (fun i => if i=23 then 1 else 0) (fun i => if i=23 then 0 else 1)
    (by kernel_rfl) (by kernel_rfl) (by decide) (by kernel_rfl) pqR_keep ⟨HX5.out.below (below_drew (Below.refl _ _)) HX5.out.lt,HP5.out.below (below_drew (Below.refl _ _)) HP5.out.lt,HB5.out.trans ((below_drew (Below.refl _ _)).mono (Nat.le_of_lt HP5.out.lt))⟩ ?hXl
   case' hXl => (apply Exists.intro;refine ⟨fun T => ?hAl,?hobl,?hendl⟩)
   case hAl =>
    simp only [setAll,List.take_succ_cons,List.take_zero,Act.put,List.setIfInBounds_toArray,List.set_cons_succ,List.set_cons_zero,Nat.reduceAdd]
    exact rfl
   case hobl =>
    go_light
    refine ⟨?_,?_,?_,?_,?_,?_,?_,?_,?_,?_,?_,?_,?_,?_,?_,?_,?_,?_,?_,?_,?_,?_,?_,?_,trivial⟩
    all_goals (intro TT wx n0 hC hn hp;dsimp only at hn ⊢;unfold Op1)
    all_goals try simp only [Lm.AfterAll,Region.binds,pqR,Nat.reduceEqDiff,if_false,if_true,List.getD_cons_zero,List.getD_cons_succ,and_true] at hp
    all_goals first
     | (have hn1:n0≤1:=by simp at hn;omega
        have hk1:=hC.1
        have c0:=hk1.cell 0
        have c1:=hk1.cell 1
        simp at c0 c1
        try simp only [hp]
        first
         | (refine ⟨fun hg => ?_,fun hg => ?_⟩
            all_goals first
             | (cases hg;done)
             | exact absurd rfl hg
             | exact ⟨rfl,hC,Nat.le_refl _,hn1⟩
             | (go_simp;first | exact ⟨rfl,hC,Nat.le_refl _,hn1⟩ | exact ⟨rfl,Nat.le_refl _,hn1⟩))
         | exact ⟨rfl,hC,Nat.le_refl _,hn1⟩
         | (go_simp;first | exact ⟨rfl,hC,Nat.le_refl _,hn1⟩ | exact ⟨rfl,Nat.le_refl _,hn1⟩))
     | (have hn0:n0=0:=by simpa using hn
        subst hn0
        obtain ⟨hk1,hk2,hk3⟩:=hC
        rw [if_pos rfl] at hk2
        have hfr:=hk2.free
        have q0:=hk2.cell 0
        have q1:=hk2.cell 1
        simp at q0 q1
        have hs2:=hk2.set2p (x':=.int .i64 n1) (y':=.int .i64 n2)
        have hbf:=HRet.out _ n1 n2 hk2 hk3
        have hs1:Blk ((wx.setCell ⟨bx,0,none⟩ (.int .i64 n1)).setCell ⟨bx,1,none⟩ (.int .i64 n2)) px 132 #[.int .i64 n1, .int .i64 n2]:=(Blk.setOther (Blk.setOther hk1 HNe.out _ _) HNe.out _ _)
        have HQ:Hid (rqC w bx px n1 n2 1 ((wx.setCell ⟨bx,0,none⟩ (.int .i64 n1)).setCell ⟨bx,1,none⟩ (.int .i64 n2))):=Lib.hid ⟨hs1,by rw [if_neg (by decide)];exact hs2,hbf⟩
        clear hs1 hs2 hbf hk1 hk2 hk3
        go_simp
        exact ⟨rfl,HQ.out,by omega,by omega⟩)
   case hendl =>
    intro TT w6 ⟨n0,hn0,hC,hR⟩
    have e23:n0=1:=hR 23 (by omega)
    have e22:TT 22=.bool false:=hR 22 (by omega)
    subst e23
    obtain ⟨-,hk2,hk3⟩:=hC
    rw [if_neg (by decide)] at hk2
    have HBf:=Lib.hid hk3
    have d0:=hk2.cell 0
    have d1:=hk2.cell 1
    simp at d0 d1
    clear hk2 hk3 hR HX5 HP5 HB5 HRet
    simp only [List.drop_succ_cons,List.drop_zero]
    go_wp2_with fail
    refine bodyPost_ret (v:=.tuple #[.agg #[.int .i64 n1, .int .i64 n2], .bool false]) (by simp [results,Tryz.results200,go_sem, *]) rfl (by first | exact ⟨n1,n2,rfl,(fun p hp => by cases hp),by rw [Hbx.out];exact HBf.out⟩ | exact ⟨⟨n1,n2,rfl⟩,by rw [Hbx.out];exact HBf.out⟩)
theorem parsePrefix_any (s:List UInt8) (w:World) (hv:Vr w) (hs:s.length≤1000000) :
  Calls Tryz.prog 257 #[.string (strL s)] w (Ret (psV (parsePF s)) w):=by
 have HP:Hid (Blk (w.alloc (.cells #[.bool false, .int .u64 0, .int .u64 0, .int .i64 0] 30 (0,0))) w.heap.size 30 #[.bool false, .int .u64 0, .int .u64 0, .int .i64 0]):=Lib.hid (Blk.new w _ _)
 have HB:Hid (Below w.heap.size w (w.alloc (.cells #[.bool false, .int .u64 0, .int .u64 0, .int .i64 0] 30 (0,0)))):=Lib.hid (below_alloc (Below.refl _ _) _)
 have HV:=Lib.hid (hv.below (below_alloc (Below.refl _ _) (.cells #[.bool false, .int .u64 0, .int .u64 0, .int .i64 0] 30 (0,0))))
 have hl:=cut_le s [47]
 have HC:Hid (∀ wx,Vr wx→Calls Tryz.prog 195 #[.string (strL s), .string ⟨#[47]⟩] wx (Ret (.tuple #[.string (strL (Lib.cut s [47]).1), .string (strL (Lib.cut s [47]).2.1), .bool (Lib.cut s [47]).2.2]) wx)):=Lib.hid fun wx hv => cut_any s [47] wx hv hs
 have HL:=Lib.hid fun wx (hv:Vr wx) => parse_any (Lib.cut s [47]).1 wx hv (Nat.le_trans hl.1 hs)
 have HNone:Hid (parseF (Lib.cut s [47]).1=none→parsePF s=none):=Lib.hid parsePF_none
 have HK:Hid (∀ six hi lo,parseF (Lib.cut s [47]).1=some (six,hi,lo)→∀ bits wx,Calls Tryz.prog 67 #[.agg #[.bool six, .int .u64 (hi:Int), .int .u64 (lo:Int), .int .i64 bits]] wx (Ret (.int .i64 (pFault six hi lo bits)) wx)):=Lib.hid fun six hi lo h bits wx => by
  obtain ⟨h1,h2, -⟩:=parseF_ok (Nat.le_trans hl.1 hs) h
  exact checkPrefix_any six hi lo bits wx (by unfold U64N at h1;omega) (by unfold U64N at h2;omega)
 have HZ:Hid (∀ six hi lo bits,pFault six hi lo bits=0→((bits.toNat:Nat):Int)=bits):=Lib.hid fun six hi lo bits h => by
  obtain ⟨n, -,rfl⟩:=pFault_128 h
  rfl
 have HN:=Lib.hid fun wx => number_any (Lib.cut s [47]).2.1 3 wx (Nat.le_trans hl.2 hs) (by decide)
 have HSome:Hid (∀ x h l,parseF (Lib.cut s [47]).1=some (x,h,l)→parsePF s=if numOk (Lib.cut s [47]).2.1 3=true∧pFault x h l (numV (Lib.cut s [47]).2.1)=0 then some (x,h,l,(numV (Lib.cut s [47]).2.1).toNat) else none):=Lib.hid fun x h l e => parsePF_prog e
 obtain ⟨PR,hPR⟩:∃ q,parsePF s=q:=⟨_,rfl⟩
 rw [hPR] at HNone ⊢
 simp only [hPR] at HSome
 generalize parseF (Lib.cut s [47]).1=R at *
 obtain ⟨N,hN⟩:∃ q,(if numOk (Lib.cut s [47]).2.1 3=true then numV (Lib.cut s [47]).2.1 else 0)=q:=⟨_,rfl⟩
 have HNv:Hid (numOk (Lib.cut s [47]).2.1 3=true→N=numV (Lib.cut s [47]).2.1):=Lib.hid fun h => by rw [← hN,if_pos h]
 rw [hN] at HN
 generalize numOk (Lib.cut s [47]).2.1 3=ok at *
 generalize numV (Lib.cut s [47]).2.1=nv at *
 clear hN
 generalize strL (Lib.cut s [47]).1=SL at *
 generalize strL (Lib.cut s [47]).2.1=SR at *
 generalize (Lib.cut s [47]).2.2=CB at *
 generalize strL s=SS at *
 clear hv hs hl hPR
 go_enter Tryz.func257,Tryz.ntmps257
 go_upto_region 1 with fail
 generalize w.alloc (.cells #[.bool false, .int .u64 0, .int .u64 0, .int .i64 0] 30 (0,0))=w1 at *
 obtain ⟨bx,hbx⟩:∃ q,w.heap.size=q:=⟨_,rfl⟩
 have Hbx:=Lib.hid hbx
 rw [hbx] at HP HB ⊢
 clear hbx
 have HRet:Hid (∀ wx (sx:Bool) (h l n:Int),Blk wx bx 30 #[.bool false, .int .u64 0, .int .u64 0, .int .i64 0]→Below bx w wx→Below bx w ((((wx.setCell ⟨bx,0,none⟩ (.bool sx)).setCell ⟨bx,1,none⟩ (.int .u64 h)).setCell ⟨bx,2,none⟩ (.int .u64 l)).setCell ⟨bx,3,none⟩ (.int .i64 n))):=Lib.hid fun wx sx h l n hp hb => hb.grown (grown_setCells bx [.bool sx, .int .u64 h, .int .u64 l, .int .i64 n] 0 wx) (Nat.le_of_lt hp.lt) (fun k hk => by injection hk with hk;omega)
 go_wp2_with fail
 refine (HC.out _ HV.out).mono ?_
 rintro e w2 ⟨rfl,hb⟩
 have HP2:=Lib.hid (HP.out.below hb HP.out.lt)
 have HB2:=Lib.hid (HB.out.trans (hb.mono (Nat.le_of_lt HP.out.lt)))
 have HV2:=Lib.hid (HV.out.below hb)
 clear hb HP HB HV HC
 go_wp2_with fail
 refine (HL.out _ HV2.out).mono ?_
 rintro e w3 ⟨rfl,hb⟩
 have HP3:=Lib.hid (HP2.out.below hb HP2.out.lt)
 have HB3:=Lib.hid (HB2.out.trans (hb.mono (Nat.le_of_lt HP2.out.lt)))
 have HV3:=Lib.hid (HV2.out.below hb)
 clear hb HP2 HB2 HV2 HL
 rcases R with _ | ⟨six,hi,lo⟩
 ·have hR:PR=none:=HNone.out rfl
  subst hR
  clear HNone HSome HK HZ HNv
  rw [show lsV none=.tuple #[.agg #[.bool false, .int .u64 0, .int .u64 0], .int .i64 9] from rfl]
  rw [show psV none=.tuple #[.agg #[.bool false, .int .u64 0, .int .u64 0, .int .i64 0], .int .i64 9] from rfl]
  have HP4:=Lib.hid (HP3.out.alloc (.cells #[.bool false, .int .u64 0, .int .u64 0] 28 (0,0)))
  have HB4:=Lib.hid (HB3.out.alloc (Nat.le_of_lt HP3.out.lt) (.cells #[.bool false, .int .u64 0, .int .u64 0] 28 (0,0)))
  have HV4:=Lib.hid (HV3.out.below (below_alloc (Below.refl _ _) (.cells #[.bool false, .int .u64 0, .int .u64 0] 28 (0,0))))
  have HA4:Hid (Blk (w3.alloc (.cells #[.bool false, .int .u64 0, .int .u64 0] 28 (0,0))) w3.heap.size 28 #[.bool false, .int .u64 0, .int .u64 0]):=Lib.hid (Blk.new w3 _ _)
  clear HP3 HB3 HV3
  go_upto_region 3 with fail
  generalize w3.alloc (.cells #[.bool false, .int .u64 0, .int .u64 0] 28 (0,0))=w4 at *
  generalize w3.heap.size=ab at *
  have HNx:=Lib.hid (HN.out w4)
  clear HN
  go_wp2_with fail
  refine HNx.out.mono ?_
  rintro e w5 ⟨rfl,hb⟩
  have HP5:=Lib.hid (HP4.out.below hb HP4.out.lt)
  have HB5:=Lib.hid (HB4.out.trans (hb.mono (Nat.le_of_lt HP4.out.lt)))
  have HA5:=Lib.hid (HA4.out.below hb HA4.out.lt)
  have HV5:=Lib.hid (HV4.out.below hb)
  clear hb HP4 HB4 HA4 HV4 HNx
  have a0:=HA5.out.cell 0
  have a1:=HA5.out.cell 1
  have a2:=HA5.out.cell 2
  simp at a0 a1 a2
  have HP6:=Lib.hid (HP5.out.alloc (.cells #[.bool false, .int .u64 0, .int .u64 0, .int .i64 N] 30 (0,0)))
  have HB6:=Lib.hid (HB5.out.alloc (Nat.le_of_lt HP5.out.lt) (.cells #[.bool false, .int .u64 0, .int .u64 0, .int .i64 N] 30 (0,0)))
  have HV6:=Lib.hid (HV5.out.below (below_alloc (Below.refl _ _) (.cells #[.bool false, .int .u64 0, .int .u64 0, .int .i64 N] 30 (0,0))))
  have HQ6:Hid (Blk (w5.alloc (.cells #[.bool false, .int .u64 0, .int .u64 0, .int .i64 N] 30 (0,0))) w5.heap.size 30 #[.bool false, .int .u64 0, .int .u64 0, .int .i64 N]):=Lib.hid (Blk.new w5 _ _)
  clear HP5 HB5 HV5
  go_upto_region 5 with fail
  generalize w5.alloc (.cells #[.bool false, .int .u64 0, .int .u64 0, .int .i64 N] 30 (0,0))=w6 at *
  generalize w5.heap.size=pb at *
  clear a0 a1 a2 HA5
  have q0:=HP6.out.cell 0
  have q1:=HP6.out.cell 1
  have q2:=HP6.out.cell 2
  have q3:=HP6.out.cell 3
  have qf:=HP6.out.free
  simp at q0 q1 q2 q3
  have c4:=(HP6.out.set4p (x':=.bool false) (y':=.int .u64 0) (z':=.int .u64 0) (u':=.int .i64 0))
  have HBf:=Lib.hid (HRet.out w6 false 0 0 0 HP6.out HB6.out)
  have d0:=c4.cell 0
  have d1:=c4.cell 1
  have d2:=c4.cell 2
  have d3:=c4.cell 3
  simp at d0 d1 d2 d3
  clear c4
  go_wp2_with fail
  refine bodyPost_ret (v:=.tuple #[.agg #[.bool false, .int .u64 0, .int .u64 0, .int .i64 0], .int .i64 9]) (by simp [results,Tryz.results257,go_sem, *]) rfl ⟨by first | rfl | (rw [HPs.out]),by rw [Hbx.out];exact HBf.out⟩
 ·have HKx:=Lib.hid (HK.out six hi lo rfl)
  have HE:=Lib.hid (HSome.out six hi lo rfl)
  clear HNone HSome HK
  rw [show lsV (some (six,hi,lo))=.tuple #[.agg #[.bool six, .int .u64 (hi:Int), .int .u64 (lo:Int)], .int .i64 0] from rfl]
  have HP4:=Lib.hid (HP3.out.alloc (.cells #[.bool six, .int .u64 (hi:Int), .int .u64 (lo:Int)] 28 (0,0)))
  have HB4:=Lib.hid (HB3.out.alloc (Nat.le_of_lt HP3.out.lt) (.cells #[.bool six, .int .u64 (hi:Int), .int .u64 (lo:Int)] 28 (0,0)))
  have HV4:=Lib.hid (HV3.out.below (below_alloc (Below.refl _ _) (.cells #[.bool six, .int .u64 (hi:Int), .int .u64 (lo:Int)] 28 (0,0))))
  have HA4:Hid (Blk (w3.alloc (.cells #[.bool six, .int .u64 (hi:Int), .int .u64 (lo:Int)] 28 (0,0))) w3.heap.size 28 #[.bool six, .int .u64 (hi:Int), .int .u64 (lo:Int)]):=Lib.hid (Blk.new w3 _ _)
  clear HP3 HB3 HV3
  go_upto_region 3 with fail
  generalize w3.alloc (.cells #[.bool six, .int .u64 (hi:Int), .int .u64 (lo:Int)] 28 (0,0))=w4 at *
  generalize w3.heap.size=ab at *
  have HNx:=Lib.hid (HN.out w4)
  clear HN
  go_wp2_with fail
  refine HNx.out.mono ?_
  rintro e w5 ⟨rfl,hb⟩
  have HP5:=Lib.hid (HP4.out.below hb HP4.out.lt)
  have HB5:=Lib.hid (HB4.out.trans (hb.mono (Nat.le_of_lt HP4.out.lt)))
  have HA5:=Lib.hid (HA4.out.below hb HA4.out.lt)
  have HV5:=Lib.hid (HV4.out.below hb)
  clear hb HP4 HB4 HA4 HV4 HNx
  have a0:=HA5.out.cell 0
  have a1:=HA5.out.cell 1
  have a2:=HA5.out.cell 2
  simp at a0 a1 a2
  have HP6:=Lib.hid (HP5.out.alloc (.cells #[.bool six, .int .u64 (hi:Int), .int .u64 (lo:Int), .int .i64 N] 30 (0,0)))
  have HB6:=Lib.hid (HB5.out.alloc (Nat.le_of_lt HP5.out.lt) (.cells #[.bool six, .int .u64 (hi:Int), .int .u64 (lo:Int), .int .i64 N] 30 (0,0)))
  have HV6:=Lib.hid (HV5.out.below (below_alloc (Below.refl _ _) (.cells #[.bool six, .int .u64 (hi:Int), .int .u64 (lo:Int), .int .i64 N] 30 (0,0))))
  have HQ6:Hid (Blk (w5.alloc (.cells #[.bool six, .int .u64 (hi:Int), .int .u64 (lo:Int), .int .i64 N] 30 (0,0))) w5.heap.size 30 #[.bool six, .int .u64 (hi:Int), .int .u64 (lo:Int), .int .i64 N]):=Lib.hid (Blk.new w5 _ _)
  clear HP5 HB5 HV5
  go_upto_region 5 with fail
  generalize w5.alloc (.cells #[.bool six, .int .u64 (hi:Int), .int .u64 (lo:Int), .int .i64 N] 30 (0,0))=w6 at *
  generalize w5.heap.size=pb at *
  clear a0 a1 a2 HA5
  cases ok
  ·have hR:PR=none:=HE.out.trans (if_neg fun h => by cases h.1)
   subst hR
   clear HE HKx HZ HNv
   rw [show psV none=.tuple #[.agg #[.bool false, .int .u64 0, .int .u64 0, .int .i64 0], .int .i64 9] from rfl]
   have q0:=HP6.out.cell 0
   have q1:=HP6.out.cell 1
   have q2:=HP6.out.cell 2
   have q3:=HP6.out.cell 3
   have qf:=HP6.out.free
   simp at q0 q1 q2 q3
   have c4:=(HP6.out.set4p (x':=.bool false) (y':=.int .u64 0) (z':=.int .u64 0) (u':=.int .i64 0))
   have HBf:=Lib.hid (HRet.out w6 false 0 0 0 HP6.out HB6.out)
   have d0:=c4.cell 0
   have d1:=c4.cell 1
   have d2:=c4.cell 2
   have d3:=c4.cell 3
   simp at d0 d1 d2 d3
   clear c4
   go_wp2_with fail
   refine bodyPost_ret (v:=.tuple #[.agg #[.bool false, .int .u64 0, .int .u64 0, .int .i64 0], .int .i64 9]) (by simp [results,Tryz.results257,go_sem, *]) rfl ⟨by first | rfl | (rw [HPs.out]),by rw [Hbx.out];exact HBf.out⟩
  ·obtain rfl:N=nv:=HNv.out rfl
   have HZx:=Lib.hid (HZ.out six hi lo N)
   have HKy:=Lib.hid (HKx.out N w6)
   clear HZ HKx HNv
   generalize pFault six hi lo N=pf at *
   have p0:=HQ6.out.cell 0
   have p1:=HQ6.out.cell 1
   have p2:=HQ6.out.cell 2
   have p3:=HQ6.out.cell 3
   simp at p0 p1 p2 p3
   go_wp2_with fail
   refine HKy.out.mono ?_
   rintro e w7 ⟨rfl,hb⟩
   have HP7:=Lib.hid (HP6.out.below hb HP6.out.lt)
   have HQ7:=Lib.hid (HQ6.out.below hb HQ6.out.lt)
   have HB7:=Lib.hid (HB6.out.trans (hb.mono (Nat.le_of_lt HP6.out.lt)))
   clear hb HP6 HQ6 HB6 HV6 HKy p0 p1 p2 p3
   by_cases hz:pf=0
   ·have hR:PR=some (six,hi,lo,N.toNat):=HE.out.trans (if_pos (by simp [hz]))
    have hn:=HZx.out hz
    subst hR
    subst hz
    have HPs:Hid (psV (some (six,hi,lo,N.toNat))=.tuple #[.agg #[.bool six, .int .u64 (hi:Int), .int .u64 (lo:Int), .int .i64 N], .int .i64 0]):=Lib.hid (by show Value.tuple #[.agg #[.bool six, .int .u64 (hi:Int), .int .u64 (lo:Int), .int .i64 ((N.toNat:Nat):Int)], .int .i64 0]=_;rw [hn])
    clear HE HZx hn
    have p0:=HQ7.out.cell 0
    have p1:=HQ7.out.cell 1
    have p2:=HQ7.out.cell 2
    have p3:=HQ7.out.cell 3
    simp at p0 p1 p2 p3
    have q0:=HP7.out.cell 0
    have q1:=HP7.out.cell 1
    have q2:=HP7.out.cell 2
    have q3:=HP7.out.cell 3
    have qf:=HP7.out.free
    simp at q0 q1 q2 q3
    have c4:=(HP7.out.set4p (x':=.bool six) (y':=.int .u64 (hi:Int)) (z':=.int .u64 (lo:Int)) (u':=.int .i64 N))
    have HBf:=Lib.hid (HRet.out w7 six (hi:Int) (lo:Int) N HP7.out HB7.out)
    have d0:=c4.cell 0
    have d1:=c4.cell 1
    have d2:=c4.cell 2
    have d3:=c4.cell 3
    simp at d0 d1 d2 d3
    clear c4
    go_wp2_with fail
    refine bodyPost_ret (v:=.tuple #[.agg #[.bool six, .int .u64 (hi:Int), .int .u64 (lo:Int), .int .i64 N], .int .i64 0]) (by simp [results,Tryz.results257,go_sem, *]) rfl ⟨by first | rfl | (rw [HPs.out]),by rw [Hbx.out];exact HBf.out⟩
   ·have hR:PR=none:=HE.out.trans (if_neg fun h => hz h.2)
    have hb1:(pf != 0)=true:=by simpa using hz
    subst hR
    clear HE HZx
    rw [show psV none=.tuple #[.agg #[.bool false, .int .u64 0, .int .u64 0, .int .i64 0], .int .i64 9] from rfl]
    have q0:=HP7.out.cell 0
    have q1:=HP7.out.cell 1
    have q2:=HP7.out.cell 2
    have q3:=HP7.out.cell 3
    have qf:=HP7.out.free
    simp at q0 q1 q2 q3
    have c4:=(HP7.out.set4p (x':=.bool false) (y':=.int .u64 0) (z':=.int .u64 0) (u':=.int .i64 0))
    have HBf:=Lib.hid (HRet.out w7 false 0 0 0 HP7.out HB7.out)
    have d0:=c4.cell 0
    have d1:=c4.cell 1
    have d2:=c4.cell 2
    have d3:=c4.cell 3
    simp at d0 d1 d2 d3
    clear c4
    go_wp2_with fail
    refine bodyPost_ret (v:=.tuple #[.agg #[.bool false, .int .u64 0, .int .u64 0, .int .i64 0], .int .i64 9]) (by simp [results,Tryz.results257,go_sem, *]) rfl ⟨by first | rfl | (rw [HPs.out]),by rw [Hbx.out];exact HBf.out⟩
theorem prefixParse_any (s:List UInt8) (w:World) (hv:Vr w) (hs:s.length≤1000000) :
  Calls Tryz.prog 197 #[.string (strL s)] w (Ret (psV (parsePF s)) w):=by
 have HP:Hid (Blk (w.alloc (.cells #[.bool false, .int .u64 0, .int .u64 0, .int .i64 0] 30 (0,0))) w.heap.size 30 #[.bool false, .int .u64 0, .int .u64 0, .int .i64 0]):=Lib.hid (Blk.new w _ _)
 have HB:Hid (Below w.heap.size w (w.alloc (.cells #[.bool false, .int .u64 0, .int .u64 0, .int .i64 0] 30 (0,0)))):=Lib.hid (below_alloc (Below.refl _ _) _)
 have HV:=Lib.hid (hv.below (below_alloc (Below.refl _ _) (.cells #[.bool false, .int .u64 0, .int .u64 0, .int .i64 0] 30 (0,0))))
 have hl:=cut_le s [47]
 have HC:Hid (∀ wx,Vr wx→Calls Tryz.prog 195 #[.string (strL s), .string ⟨#[47]⟩] wx (Ret (.tuple #[.string (strL (Lib.cut s [47]).1), .string (strL (Lib.cut s [47]).2.1), .bool (Lib.cut s [47]).2.2]) wx)):=Lib.hid fun wx hv => cut_any s [47] wx hv hs
 have HL:=Lib.hid fun wx (hv:Vr wx) => addrParse_any (Lib.cut s [47]).1 wx hv (Nat.le_trans hl.1 hs)
 have HNone:Hid (parseF (Lib.cut s [47]).1=none→parsePF s=none):=Lib.hid parsePF_none
 have HK:Hid (∀ six hi lo,parseF (Lib.cut s [47]).1=some (six,hi,lo)→∀ bits wx,Calls Tryz.prog 59 #[.agg #[.bool six, .int .u64 (hi:Int), .int .u64 (lo:Int), .int .i64 bits]] wx (Ret (.int .i64 (pFault six hi lo bits)) wx)):=Lib.hid fun six hi lo h bits wx => by
  obtain ⟨h1,h2, -⟩:=parseF_ok (Nat.le_trans hl.1 hs) h
  exact prefixFault_any six hi lo bits wx h1 h2
 have HZ:Hid (∀ six hi lo bits,pFault six hi lo bits=0→((bits.toNat:Nat):Int)=bits):=Lib.hid fun six hi lo bits h => by
  obtain ⟨n, -,rfl⟩:=pFault_128 h
  rfl
 have HN:=Lib.hid fun wx (hv:Vr wx) => atoi_any (Lib.cut s [47]).2.1 wx hv (Nat.le_trans hl.2 hs)
 have HSome:Hid (∀ x h l v,parseF (Lib.cut s [47]).1=some (x,h,l)→Lib.atoiAll (Lib.cut s [47]).2.1=.ok v→pFault x h l v=0→parsePF s=if pfxT x h l v.toNat=strL s then some (x,h,l,v.toNat) else none):=Lib.hid fun x h l v e e2 e3 => parsePF_ref e e2 e3
 have HSno:Hid (∀ x h l,parseF (Lib.cut s [47]).1=some (x,h,l)→(∀ v,Lib.atoiAll (Lib.cut s [47]).2.1=.ok v→pFault x h l v ≠ 0)→parsePF s=none):=Lib.hid fun x h l e e2 => parsePF_ref_none e e2
 have HT:Hid (∀ six hi lo bits,parseF (Lib.cut s [47]).1=some (six,hi,lo)→pFault six hi lo bits=0→∀ wx,Vr wx→Calls Tryz.prog 113 #[.agg #[.bool six, .int .u64 (hi:Int), .int .u64 (lo:Int), .int .i64 bits]] wx (Ret (.string (pfxT six hi lo bits.toNat)) wx)):=Lib.hid fun six hi lo bits h hf wx hv => by
  obtain ⟨h1,h2,h3⟩:=parseF_ok (Nat.le_trans hl.1 hs) h
  obtain ⟨n,hn,rfl⟩:=pFault_128 hf
  exact prefixLine_any six hi lo n wx h1 h2 h3 (by omega) hv.tb
 obtain ⟨PR,hPR⟩:∃ q,parsePF s=q:=⟨_,rfl⟩
 rw [hPR] at HNone ⊢
 simp only [hPR] at HSome HSno
 generalize parseF (Lib.cut s [47]).1=R at *
 generalize Lib.atoiAll (Lib.cut s [47]).2.1=AT at *
 generalize strL (Lib.cut s [47]).1=SL at *
 generalize strL (Lib.cut s [47]).2.1=SR at *
 generalize (Lib.cut s [47]).2.2=CB at *
 generalize strL s=SS at *
 clear hv hs hl hPR
 go_enter Tryz.func197,Tryz.ntmps197
 go_upto_region 1 with fail
 generalize w.alloc (.cells #[.bool false, .int .u64 0, .int .u64 0, .int .i64 0] 30 (0,0))=w1 at *
 obtain ⟨bx,hbx⟩:∃ q,w.heap.size=q:=⟨_,rfl⟩
 have Hbx:=Lib.hid hbx
 rw [hbx] at HP HB ⊢
 clear hbx
 have HRet:Hid (∀ wx (sx:Bool) (h l n:Int),Blk wx bx 30 #[.bool false, .int .u64 0, .int .u64 0, .int .i64 0]→Below bx w wx→Below bx w ((((wx.setCell ⟨bx,0,none⟩ (.bool sx)).setCell ⟨bx,1,none⟩ (.int .u64 h)).setCell ⟨bx,2,none⟩ (.int .u64 l)).setCell ⟨bx,3,none⟩ (.int .i64 n))):=Lib.hid fun wx sx h l n hp hb => hb.grown (grown_setCells bx [.bool sx, .int .u64 h, .int .u64 l, .int .i64 n] 0 wx) (Nat.le_of_lt hp.lt) (fun k hk => by injection hk with hk;omega)
 go_wp2_with fail
 refine (HC.out _ HV.out).mono ?_
 rintro e w2 ⟨rfl,hb⟩
 have HP2:=Lib.hid (HP.out.below hb HP.out.lt)
 have HB2:=Lib.hid (HB.out.trans (hb.mono (Nat.le_of_lt HP.out.lt)))
 have HV2:=Lib.hid (HV.out.below hb)
 clear hb HP HB HV HC
 go_wp2_with fail
 refine (HL.out _ HV2.out).mono ?_
 rintro e w3 ⟨rfl,hb⟩
 have HP3:=Lib.hid (HP2.out.below hb HP2.out.lt)
 have HB3:=Lib.hid (HB2.out.trans (hb.mono (Nat.le_of_lt HP2.out.lt)))
 have HV3:=Lib.hid (HV2.out.below hb)
 clear hb HP2 HB2 HV2 HL
 rcases R with _ | ⟨six,hi,lo⟩
 ·have hR:PR=none:=HNone.out rfl
  subst hR
  clear HNone HSome HK HZ HSno HT
  rw [show lsV none=.tuple #[.agg #[.bool false, .int .u64 0, .int .u64 0], .int .i64 9] from rfl]
  rw [show psV none=.tuple #[.agg #[.bool false, .int .u64 0, .int .u64 0, .int .i64 0], .int .i64 9] from rfl]
  have HP4:=Lib.hid (HP3.out.alloc (.cells #[.bool false, .int .u64 0, .int .u64 0] 28 (0,0)))
  have HB4:=Lib.hid (HB3.out.alloc (Nat.le_of_lt HP3.out.lt) (.cells #[.bool false, .int .u64 0, .int .u64 0] 28 (0,0)))
  have HV4:=Lib.hid (HV3.out.below (below_alloc (Below.refl _ _) (.cells #[.bool false, .int .u64 0, .int .u64 0] 28 (0,0))))
  have HA4:Hid (Blk (w3.alloc (.cells #[.bool false, .int .u64 0, .int .u64 0] 28 (0,0))) w3.heap.size 28 #[.bool false, .int .u64 0, .int .u64 0]):=Lib.hid (Blk.new w3 _ _)
  clear HP3 HB3 HV3
  go_upto_region 3 with fail
  generalize w3.alloc (.cells #[.bool false, .int .u64 0, .int .u64 0] 28 (0,0))=w4 at *
  generalize w3.heap.size=ab at *
  have HNx:=Lib.hid (HN.out w4 HV4.out)
  clear HN
  go_wp2_with fail
  refine HNx.out.mono ?_
  rintro e w5 ⟨⟨v,ev,rfl,hcs⟩,hb⟩
  have HP5:=Lib.hid (HP4.out.below hb HP4.out.lt)
  have HB5:=Lib.hid (HB4.out.trans (hb.mono (Nat.le_of_lt HP4.out.lt)))
  have HA5:=Lib.hid (HA4.out.below hb HA4.out.lt)
  have HV5:=Lib.hid (HV4.out.below hb)
  have HCs:=Lib.hid hcs
  clear hcs
  clear hb HP4 HB4 HA4 HV4 HNx
  have a0:=HA5.out.cell 0
  have a1:=HA5.out.cell 1
  have a2:=HA5.out.cell 2
  simp at a0 a1 a2
  have HP6:=Lib.hid (HP5.out.alloc (.cells #[.bool false, .int .u64 0, .int .u64 0, .int .i64 v] 30 (0,0)))
  have HB6:=Lib.hid (HB5.out.alloc (Nat.le_of_lt HP5.out.lt) (.cells #[.bool false, .int .u64 0, .int .u64 0, .int .i64 v] 30 (0,0)))
  have HV6:=Lib.hid (HV5.out.below (below_alloc (Below.refl _ _) (.cells #[.bool false, .int .u64 0, .int .u64 0, .int .i64 v] 30 (0,0))))
  have HQ6:Hid (Blk (w5.alloc (.cells #[.bool false, .int .u64 0, .int .u64 0, .int .i64 v] 30 (0,0))) w5.heap.size 30 #[.bool false, .int .u64 0, .int .u64 0, .int .i64 v]):=Lib.hid (Blk.new w5 _ _)
  clear HP5 HB5 HV5
  go_upto_region 5 with fail
  generalize w5.alloc (.cells #[.bool false, .int .u64 0, .int .u64 0, .int .i64 v] 30 (0,0))=w6 at *
  generalize w5.heap.size=pb at *
  clear a0 a1 a2 HA5
  have q0:=HP6.out.cell 0
  have q1:=HP6.out.cell 1
  have q2:=HP6.out.cell 2
  have q3:=HP6.out.cell 3
  have qf:=HP6.out.free
  simp at q0 q1 q2 q3
  have c4:=(HP6.out.set4p (x':=.bool false) (y':=.int .u64 0) (z':=.int .u64 0) (u':=.int .i64 0))
  have HBf:=Lib.hid (HRet.out w6 false 0 0 0 HP6.out HB6.out)
  have d0:=c4.cell 0
  have d1:=c4.cell 1
  have d2:=c4.cell 2
  have d3:=c4.cell 3
  simp at d0 d1 d2 d3
  clear c4
  go_wp2_with fail
  refine bodyPost_ret (v:=.tuple #[.agg #[.bool false, .int .u64 0, .int .u64 0, .int .i64 0], .int .i64 9]) (by simp [results,Tryz.results197,go_sem, *]) rfl ⟨by first | rfl | (rw [HPs.out]),by rw [Hbx.out];exact HBf.out⟩
 ·have HKx:=Lib.hid (HK.out six hi lo rfl)
  have HE:=Lib.hid fun v => HSome.out six hi lo v rfl
  have HEn:=Lib.hid (HSno.out six hi lo rfl)
  have HTx:=Lib.hid fun bits => HT.out six hi lo bits rfl
  clear HNone HSome HK HSno HT
  rw [show lsV (some (six,hi,lo))=.tuple #[.agg #[.bool six, .int .u64 (hi:Int), .int .u64 (lo:Int)], .int .i64 0] from rfl]
  have HP4:=Lib.hid (HP3.out.alloc (.cells #[.bool six, .int .u64 (hi:Int), .int .u64 (lo:Int)] 28 (0,0)))
  have HB4:=Lib.hid (HB3.out.alloc (Nat.le_of_lt HP3.out.lt) (.cells #[.bool six, .int .u64 (hi:Int), .int .u64 (lo:Int)] 28 (0,0)))
  have HV4:=Lib.hid (HV3.out.below (below_alloc (Below.refl _ _) (.cells #[.bool six, .int .u64 (hi:Int), .int .u64 (lo:Int)] 28 (0,0))))
  have HA4:Hid (Blk (w3.alloc (.cells #[.bool six, .int .u64 (hi:Int), .int .u64 (lo:Int)] 28 (0,0))) w3.heap.size 28 #[.bool six, .int .u64 (hi:Int), .int .u64 (lo:Int)]):=Lib.hid (Blk.new w3 _ _)
  clear HP3 HB3 HV3
  go_upto_region 3 with fail
  generalize w3.alloc (.cells #[.bool six, .int .u64 (hi:Int), .int .u64 (lo:Int)] 28 (0,0))=w4 at *
  generalize w3.heap.size=ab at *
  have HNx:=Lib.hid (HN.out w4 HV4.out)
  clear HN
  go_wp2_with fail
  refine HNx.out.mono ?_
  rintro e w5 ⟨⟨v,ev,rfl,hcs⟩,hb⟩
  have HP5:=Lib.hid (HP4.out.below hb HP4.out.lt)
  have HB5:=Lib.hid (HB4.out.trans (hb.mono (Nat.le_of_lt HP4.out.lt)))
  have HA5:=Lib.hid (HA4.out.below hb HA4.out.lt)
  have HV5:=Lib.hid (HV4.out.below hb)
  have HCs:=Lib.hid hcs
  clear hcs
  clear hb HP4 HB4 HA4 HV4 HNx
  have a0:=HA5.out.cell 0
  have a1:=HA5.out.cell 1
  have a2:=HA5.out.cell 2
  simp at a0 a1 a2
  have HP6:=Lib.hid (HP5.out.alloc (.cells #[.bool six, .int .u64 (hi:Int), .int .u64 (lo:Int), .int .i64 v] 30 (0,0)))
  have HB6:=Lib.hid (HB5.out.alloc (Nat.le_of_lt HP5.out.lt) (.cells #[.bool six, .int .u64 (hi:Int), .int .u64 (lo:Int), .int .i64 v] 30 (0,0)))
  have HV6:=Lib.hid (HV5.out.below (below_alloc (Below.refl _ _) (.cells #[.bool six, .int .u64 (hi:Int), .int .u64 (lo:Int), .int .i64 v] 30 (0,0))))
  have HQ6:Hid (Blk (w5.alloc (.cells #[.bool six, .int .u64 (hi:Int), .int .u64 (lo:Int), .int .i64 v] 30 (0,0))) w5.heap.size 30 #[.bool six, .int .u64 (hi:Int), .int .u64 (lo:Int), .int .i64 v]):=Lib.hid (Blk.new w5 _ _)
  clear HP5 HB5 HV5
  go_upto_region 5 with fail
  generalize w5.alloc (.cells #[.bool six, .int .u64 (hi:Int), .int .u64 (lo:Int), .int .i64 v] 30 (0,0))=w6 at *
  generalize w5.heap.size=pb at *
  clear a0 a1 a2 HA5
  cases AT with
  | ok u =>
    have hcs:=HCs.out
    simp only at hcs
    obtain ⟨rfl,rfl⟩:=hcs
    clear HCs
    have HE2:=Lib.hid (HE.out v rfl)
    have HEn2:Hid (pFault six hi lo v ≠ 0→PR=none):=Lib.hid fun h => HEn.out fun u hu => by
     injection hu with hu
     subst hu
     exact h
    have HZx:=Lib.hid (HZ.out six hi lo v)
    have HKy:=Lib.hid (HKx.out v w6)
    have HTy:=Lib.hid (HTx.out v)
    clear HE HEn HZ HKx HTx
    generalize pFault six hi lo v=pf at *
    generalize pfxT six hi lo v.toNat=PT at *
    have p0:=HQ6.out.cell 0
    have p1:=HQ6.out.cell 1
    have p2:=HQ6.out.cell 2
    have p3:=HQ6.out.cell 3
    simp at p0 p1 p2 p3
    go_wp2_with fail
    refine HKy.out.mono ?_
    rintro e w7 ⟨rfl,hb⟩
    have HP7:=Lib.hid (HP6.out.below hb HP6.out.lt)
    have HQ7:=Lib.hid (HQ6.out.below hb HQ6.out.lt)
    have HB7:=Lib.hid (HB6.out.trans (hb.mono (Nat.le_of_lt HP6.out.lt)))
    have HV7:=Lib.hid (HV6.out.below hb)
    clear hb HP6 HQ6 HB6 HV6 HKy p0 p1 p2 p3
    by_cases hz:pf=0
    ·have HTz:=Lib.hid (HTy.out hz w7 HV7.out)
     have hR:=HE2.out hz
     have hn:=HZx.out hz
     subst hz
     have HR:=Lib.hid hR
     have Hn:=Lib.hid hn
     clear HE2 HEn2 HZx HTy hR hn
     have p0:=HQ7.out.cell 0
     have p1:=HQ7.out.cell 1
     have p2:=HQ7.out.cell 2
     have p3:=HQ7.out.cell 3
     simp at p0 p1 p2 p3
     go_wp2_with fail
     refine HTz.out.mono ?_
     rintro e w8 ⟨rfl,hb⟩
     have HP8:=Lib.hid (HP7.out.below hb HP7.out.lt)
     have HQ8:=Lib.hid (HQ7.out.below hb HQ7.out.lt)
     have HB8:=Lib.hid (HB7.out.trans (hb.mono (Nat.le_of_lt HP7.out.lt)))
     clear hb HP7 HQ7 HB7 HV7 HTz p0 p1 p2 p3
     have hcmp:(PT.toList == SS.toList)=decide (PT=SS):=by
      by_cases e:PT=SS
      ·rw [decide_eq_true e,e];exact beq_self_eq_true _
      ·rw [decide_eq_false e]
       exact beq_eq_false_iff_ne.2 fun h => e (by
        rw [ByteArray.toList_eq,ByteArray.toList_eq] at h
        exact ByteArray.ext (Array.toList_inj.1 h))
     by_cases he:PT=SS
     ·have hR:=HR.out
      rw [if_pos he] at hR
      subst hR
      rw [decide_eq_true he] at hcmp
      have hcmp2:PT.toList=SS.toList:=by rw [he]
      have HPs:Hid (psV (some (six,hi,lo,v.toNat))=.tuple #[.agg #[.bool six, .int .u64 (hi:Int), .int .u64 (lo:Int), .int .i64 v], .int .i64 0]):=Lib.hid (by show Value.tuple #[.agg #[.bool six, .int .u64 (hi:Int), .int .u64 (lo:Int), .int .i64 ((v.toNat:Nat):Int)], .int .i64 0]=_;rw [Hn.out])
      clear HR Hn he
      have p0:=HQ8.out.cell 0
      have p1:=HQ8.out.cell 1
      have p2:=HQ8.out.cell 2
      have p3:=HQ8.out.cell 3
      simp at p0 p1 p2 p3
      have q0:=HP8.out.cell 0
      have q1:=HP8.out.cell 1
      have q2:=HP8.out.cell 2
      have q3:=HP8.out.cell 3
      have qf:=HP8.out.free
      simp at q0 q1 q2 q3
      have c4:=(HP8.out.set4p (x':=.bool six) (y':=.int .u64 (hi:Int)) (z':=.int .u64 (lo:Int)) (u':=.int .i64 v))
      have HBf:=Lib.hid (HRet.out w8 six (hi:Int) (lo:Int) v HP8.out HB8.out)
      have d0:=c4.cell 0
      have d1:=c4.cell 1
      have d2:=c4.cell 2
      have d3:=c4.cell 3
      simp at d0 d1 d2 d3
      clear c4
      go_wp2_with fail
      refine bodyPost_ret (v:=.tuple #[.agg #[.bool six, .int .u64 (hi:Int), .int .u64 (lo:Int), .int .i64 v], .int .i64 0]) (by simp [results,Tryz.results197,go_sem, *]) rfl ⟨by first | rfl | (rw [HPs.out]),by rw [Hbx.out];exact HBf.out⟩
     ·have hR:=HR.out
      rw [if_neg he] at hR
      subst hR
      rw [decide_eq_false he] at hcmp
      have hcmp2:¬ PT.toList=SS.toList:=by
       intro h
       have:(PT.toList == SS.toList)=true:=by rw [h];exact beq_self_eq_true _
       rw [hcmp] at this
       cases this
      clear HR Hn he
      rw [show psV none=.tuple #[.agg #[.bool false, .int .u64 0, .int .u64 0, .int .i64 0], .int .i64 9] from rfl]
      have q0:=HP8.out.cell 0
      have q1:=HP8.out.cell 1
      have q2:=HP8.out.cell 2
      have q3:=HP8.out.cell 3
      have qf:=HP8.out.free
      simp at q0 q1 q2 q3
      have c4:=(HP8.out.set4p (x':=.bool false) (y':=.int .u64 0) (z':=.int .u64 0) (u':=.int .i64 0))
      have HBf:=Lib.hid (HRet.out w8 false 0 0 0 HP8.out HB8.out)
      have d0:=c4.cell 0
      have d1:=c4.cell 1
      have d2:=c4.cell 2
      have d3:=c4.cell 3
      simp at d0 d1 d2 d3
      clear c4
      go_wp2_with fail
      refine bodyPost_ret (v:=.tuple #[.agg #[.bool false, .int .u64 0, .int .u64 0, .int .i64 0], .int .i64 9]) (by simp [results,Tryz.results197,go_sem, *]) rfl ⟨by first | rfl | (rw [HPs.out]),by rw [Hbx.out];exact HBf.out⟩
    ·have hR:PR=none:=HEn2.out hz
     have hb1:(pf != 0)=true:=by simpa using hz
     subst hR
     clear HE2 HEn2 HZx HTy
     rw [show psV none=.tuple #[.agg #[.bool false, .int .u64 0, .int .u64 0, .int .i64 0], .int .i64 9] from rfl]
     have q0:=HP7.out.cell 0
     have q1:=HP7.out.cell 1
     have q2:=HP7.out.cell 2
     have q3:=HP7.out.cell 3
     have qf:=HP7.out.free
     simp at q0 q1 q2 q3
     have c4:=(HP7.out.set4p (x':=.bool false) (y':=.int .u64 0) (z':=.int .u64 0) (u':=.int .i64 0))
     have HBf:=Lib.hid (HRet.out w7 false 0 0 0 HP7.out HB7.out)
     have d0:=c4.cell 0
     have d1:=c4.cell 1
     have d2:=c4.cell 2
     have d3:=c4.cell 3
     simp at d0 d1 d2 d3
     clear c4
     go_wp2_with fail
     refine bodyPost_ret (v:=.tuple #[.agg #[.bool false, .int .u64 0, .int .u64 0, .int .i64 0], .int .i64 9]) (by simp [results,Tryz.results197,go_sem, *]) rfl ⟨by first | rfl | (rw [HPs.out]),by rw [Hbx.out];exact HBf.out⟩
  | range =>
    have hR:PR=none:=HEn.out fun v h => by cases h
    subst hR
    clear HE HEn HTx HZ HKx
    have hcs:=HCs.out
    simp only at hcs
    obtain ⟨tt,tp,rfl⟩:=hcs
    clear HCs
    rw [show psV none=.tuple #[.agg #[.bool false, .int .u64 0, .int .u64 0, .int .i64 0], .int .i64 9] from rfl]
    have q0:=HP6.out.cell 0
    have q1:=HP6.out.cell 1
    have q2:=HP6.out.cell 2
    have q3:=HP6.out.cell 3
    have qf:=HP6.out.free
    simp at q0 q1 q2 q3
    have c4:=(HP6.out.set4p (x':=.bool false) (y':=.int .u64 0) (z':=.int .u64 0) (u':=.int .i64 0))
    have HBf:=Lib.hid (HRet.out w6 false 0 0 0 HP6.out HB6.out)
    have d0:=c4.cell 0
    have d1:=c4.cell 1
    have d2:=c4.cell 2
    have d3:=c4.cell 3
    simp at d0 d1 d2 d3
    clear c4
    go_wp2_with fail
    refine bodyPost_ret (v:=.tuple #[.agg #[.bool false, .int .u64 0, .int .u64 0, .int .i64 0], .int .i64 9]) (by simp [results,Tryz.results197,go_sem, *]) rfl ⟨by first | rfl | (rw [HPs.out]),by rw [Hbx.out];exact HBf.out⟩
  | _ =>
    have hR:PR=none:=HEn.out fun v h => by cases h
    subst hR
    clear HE HEn HTx HZ HKx
    have hcs:=HCs.out
    simp only at hcs
    obtain ⟨tt,tp,rfl⟩:=hcs
    clear HCs
    rw [show psV none=.tuple #[.agg #[.bool false, .int .u64 0, .int .u64 0, .int .i64 0], .int .i64 9] from rfl]
    have q0:=HP6.out.cell 0
    have q1:=HP6.out.cell 1
    have q2:=HP6.out.cell 2
    have q3:=HP6.out.cell 3
    have qf:=HP6.out.free
    simp at q0 q1 q2 q3
    have c4:=(HP6.out.set4p (x':=.bool false) (y':=.int .u64 0) (z':=.int .u64 0) (u':=.int .i64 0))
    have HBf:=Lib.hid (HRet.out w6 false 0 0 0 HP6.out HB6.out)
    have d0:=c4.cell 0
    have d1:=c4.cell 1
    have d2:=c4.cell 2
    have d3:=c4.cell 3
    simp at d0 d1 d2 d3
    clear c4
    go_wp2_with fail
    refine bodyPost_ret (v:=.tuple #[.agg #[.bool false, .int .u64 0, .int .u64 0, .int .i64 0], .int .i64 9]) (by simp [results,Tryz.results197,go_sem, *]) rfl ⟨by first | rfl | (rw [HPs.out]),by rw [Hbx.out];exact HBf.out⟩
theorem psV_cells (o:Option (Bool × Nat × Nat × Nat)):∃ (a1:Bool) (a2 a3 a4:Nat) (f:Int),psV o=.tuple #[.agg #[.bool a1, .int .u64 (a2:Int), .int .u64 (a3:Int), .int .i64 (a4:Int)], .int .i64 f]∧(f=0 ∨ f=9)∧decide (f=0)=o.isSome∧(∀ q,o=some q→q=(a1,a2,a3,a4)):=by
 cases o with
 | none => exact ⟨false,0,0,0,9,rfl, .inr rfl,rfl,fun q h => (by cases h)⟩
 | some q =>
   obtain ⟨a1,a2,a3,a4⟩:=q
   exact ⟨a1,a2,a3,a4,0,rfl, .inl rfl,rfl,fun q h => (by injection h with h;exact h.symm)⟩
theorem poP_pos {x:List UInt8} {p:Int × Int} (h:poP x=some p):1≤x.length:=by
 cases x with
 | nil =>
   have e:(Lib.cut ([]:List UInt8) [45])=([], [],false):=rfl
   unfold poP at h
   rw [e] at h
   simp only at h
   have e2:numOk [] 9=false:=rfl
   rw [e2] at h
   simp at h
 | cons a l => simp
def PfA (PP:Option Pf) (bx:Nat) (w:World) (e:Ending) (w':World):Prop:=∃ (a1:Bool) (a2 a3 a4:Nat),e=.returned (.tuple #[.agg #[.bool a1, .int .u64 (a2:Int), .int .u64 (a3:Int), .int .i64 (a4:Int)], .bool PP.isSome])∧(∀ q,PP=some q→q=(a1,a2,a3,(a4:Int)))∧Below bx w w'
theorem rowRead1_any (s:List UInt8) (w:World) (hv:Vr w) (hs:s.length≤1000000) :
  Calls Tryz.prog 196 #[.string (strL s)] w (PfA (pP s) w.heap.size w):=by
 have HPr:=Lib.hid fun wx (hv:Vr wx) => prefixParse_any s wx hv hs
 have hp:∀ a1 a2 a3 a4,(∀ q,parsePF s=some q→q=(a1,a2,a3,a4))→∀ p,pP s=some p→p=(a1,a2,a3,((a4:Nat):Int)):=fun a1 a2 a3 a4 h p hp => by
  unfold pP at hp
  cases hq:parsePF s with
  | none => rw [hq] at hp;cases hp
  | some q =>
    have:=h q hq
    subst this
    rw [hq] at hp
    injection hp with hp
    exact hp.symm
 have hi:(pP s).isSome=(parsePF s).isSome:=by
  unfold pP
  cases parsePF s <;> rfl
 obtain ⟨a1,a2,a3,a4,f,hps,hf,hfi,hq⟩:=psV_cells (parsePF s)
 have Hpq:=Lib.hid (hp a1 a2 a3 a4 hq)
 rw [hps] at HPr
 have HI:Hid ((pP s).isSome=decide (f=0)):=Lib.hid (hi.trans hfi.symm)
 generalize pP s=PP at *
 have HP:Hid (Blk (w.alloc (.cells #[.bool false, .int .u64 0, .int .u64 0, .int .i64 0] 30 (0,0))) w.heap.size 30 #[.bool false, .int .u64 0, .int .u64 0, .int .i64 0]):=Lib.hid (Blk.new w _ _)
 have HB:Hid (Below w.heap.size w (w.alloc (.cells #[.bool false, .int .u64 0, .int .u64 0, .int .i64 0] 30 (0,0)))):=Lib.hid (below_alloc (Below.refl _ _) _)
 have HV:=Lib.hid (hv.below (below_alloc (Below.refl _ _) (.cells #[.bool false, .int .u64 0, .int .u64 0, .int .i64 0] 30 (0,0))))
 clear hps hq hfi hp hi hv hs
 generalize strL s=SS at *
 go_enter Tryz.func196,Tryz.ntmps196
 go_upto_region 1 with fail
 generalize w.alloc (.cells #[.bool false, .int .u64 0, .int .u64 0, .int .i64 0] 30 (0,0))=w1 at *
 obtain ⟨bx,hbx⟩:∃ q,w.heap.size=q:=⟨_,rfl⟩
 have Hbx:=Lib.hid hbx
 rw [hbx] at HP HB ⊢
 clear hbx
 have HPx:=Lib.hid (HPr.out w1 HV.out)
 clear HPr HV
 go_wp2_with fail
 refine HPx.out.mono ?_
 rintro e w2 ⟨rfl,hb⟩
 have HP2:=Lib.hid (HP.out.below hb HP.out.lt)
 have HB2:=Lib.hid (HB.out.trans (hb.mono (Nat.le_of_lt HP.out.lt)))
 clear hb HP HB HPx
 have HP3:=Lib.hid (HP2.out.alloc (.cells #[.bool a1, .int .u64 (a2:Int), .int .u64 (a3:Int), .int .i64 (a4:Int)] 30 (0,0)))
 have HB3:=Lib.hid (HB2.out.alloc (Nat.le_of_lt HP2.out.lt) (.cells #[.bool a1, .int .u64 (a2:Int), .int .u64 (a3:Int), .int .i64 (a4:Int)] 30 (0,0)))
 have HQ3:Hid (Blk (w2.alloc (.cells #[.bool a1, .int .u64 (a2:Int), .int .u64 (a3:Int), .int .i64 (a4:Int)] 30 (0,0))) w2.heap.size 30 #[.bool a1, .int .u64 (a2:Int), .int .u64 (a3:Int), .int .i64 (a4:Int)]):=Lib.hid (Blk.new w2 _ _)
 have HRet:Hid (∀ wx (sx:Bool) (h l n:Int),Blk wx bx 30 #[.bool false, .int .u64 0, .int .u64 0, .int .i64 0]→Below bx w wx→Below bx w ((((wx.setCell ⟨bx,0,none⟩ (.bool sx)).setCell ⟨bx,1,none⟩ (.int .u64 h)).setCell ⟨bx,2,none⟩ (.int .u64 l)).setCell ⟨bx,3,none⟩ (.int .i64 n))):=Lib.hid fun wx sx h l n hp hb => hb.grown (grown_setCells bx [.bool sx, .int .u64 h, .int .u64 l, .int .i64 n] 0 wx) (Nat.le_of_lt hp.lt) (fun k hk => by injection hk with hk;omega)
 clear HP2 HB2
 go_upto_region 2 with fail
 generalize w2.alloc (.cells #[.bool a1, .int .u64 (a2:Int), .int .u64 (a3:Int), .int .i64 (a4:Int)] 30 (0,0))=w3 at *
 generalize w2.heap.size=by_ at *
 have p0:=HQ3.out.cell 0
 have p1:=HQ3.out.cell 1
 have p2:=HQ3.out.cell 2
 have p3:=HQ3.out.cell 3
 simp at p0 p1 p2 p3
 have q0:=HP3.out.cell 0
 have q1:=HP3.out.cell 1
 have q2:=HP3.out.cell 2
 have q3:=HP3.out.cell 3
 have qf:=HP3.out.free
 simp at q0 q1 q2 q3
 have c4:=(HP3.out.set4p (x':=.bool a1) (y':=.int .u64 (a2:Int)) (z':=.int .u64 (a3:Int)) (u':=.int .i64 (a4:Int)))
 have HBf:=Lib.hid (HRet.out w3 a1 a2 a3 a4 HP3.out HB3.out)
 have d0:=c4.cell 0
 have d1:=c4.cell 1
 have d2:=c4.cell 2
 have d3:=c4.cell 3
 simp at d0 d1 d2 d3
 clear c4 HRet
 rcases hf with rfl | rfl
 ·go_wp2_with fail
  refine bodyPost_ret (v:=.tuple #[.agg #[.bool a1, .int .u64 (a2:Int), .int .u64 (a3:Int), .int .i64 (a4:Int)], .bool true]) (by simp [results,Tryz.results196,go_sem, *]) rfl (by unfold PfA;exact ⟨a1,a2,a3,a4,by rw [HI.out];rfl,Hpq.out,by first | exact HBf.out | (rw [Hbx.out];exact HBf.out)⟩)
 ·go_wp2_with fail
  refine bodyPost_ret (v:=.tuple #[.agg #[.bool a1, .int .u64 (a2:Int), .int .u64 (a3:Int), .int .i64 (a4:Int)], .bool false]) (by simp [results,Tryz.results196,go_sem, *]) rfl (by unfold PfA;exact ⟨a1,a2,a3,a4,by rw [HI.out];rfl,Hpq.out,by first | exact HBf.out | (rw [Hbx.out];exact HBf.out)⟩)
theorem rReadSet_any (s:List UInt8) (w:World) (hv:Vr w) (hs:s.length≤1000000) :
  Calls Tryz.prog 193 #[.string (strL s)] w fun e w' => ∃ v L ok,e=.returned (.tuple #[v, .bool ok])∧ok=(rdW pP (spl 44 s) []).isSome∧(∀ M,rdW pP (spl 44 s) []=some M→L=M)∧OwnK layPf w' w.heap.size v L∧U4 L∧2 * L.length≤s.length + 1∧Below w.heap.size w w':=by
 have HSp:=Lib.hid (split_any s 44 w hv hs)
 have HV0:=Lib.hid hv
 have Hxs:Hid (∀ x ∈ spl 44 s,x.length≤1000000):=Lib.hid fun x h => Nat.le_trans (spl_mem 44 s x h).2.2 hs
 have HSm:=Lib.hid (spl_sum 44 s)
 have hnl:(spl 44 s).length≤1000001:=by
  rw [spl_len]
  have:=List.count_le_length (a:=(44:UInt8)) (l:=s)
  omega
 have HR0:Hid (rdW pP (spl 44 s) []=rdW pP ((spl 44 s).drop 0) []):=Lib.hid rfl
 obtain ⟨sl,hsl⟩:∃ q,s.length=q:=⟨_,rfl⟩
 rw [hsl] at HSm hs ⊢
 obtain ⟨RR,hRR⟩:∃ q,rdW pP (spl 44 s) []=q:=⟨_,rfl⟩
 rw [hRR] at HR0
 simp only [hRR]
 generalize spl 44 s=A at *
 obtain ⟨n,hn⟩:∃ n,A.length=n:=⟨_,rfl⟩
 rw [hn] at HSp hnl
 have Hn:=Lib.hid hn
 generalize strL s=SS at *
 clear hv hs hsl hRR hn
 go_enter Tryz.func193,Tryz.ntmps193
 go_wp2_with fail
 refine HSp.out.mono ?_
 rintro e w1 ⟨g,rfl,hr,hb⟩
 have HR1:=Lib.hid hr
 have HB1:=Lib.hid hb
 have HV1:=Lib.hid (HV0.out.below hb)
 clear hr hb HSp HV0
 go_wp2_with fail
 go_loopw [4,6,7,8,12] (fun s4 s6 s7 s8 s12 wr => ∃ (k:Nat) (acc:List Pf),k≤n∧s12=.int .i64 (k:Int)∧Hid (OwnK layPf wr w1.heap.size s4 acc)∧Hid (acc.length=k)∧Hid (RR=rdW pP (A.drop k) acc)∧Hid (U4 acc)∧Hid (2 * k + sumL (A.drop k)≤sl + 1)∧Hid (Below w1.heap.size w1 wr)) (fun _ _ _ _ i _ => n - (intOf i).toNat)
 case atStart => exact ⟨0, [],Nat.zero_le _,rfl,Lib.hid (OwnK.nil _ _ _),Lib.hid rfl,HR0,Lib.hid (fun p hp => by cases hp),Lib.hid (by rw [List.drop_zero,HSm.out];omega),Lib.hid (Below.refl _ _)⟩
 case round =>
  clear HR0 HSm
  obtain ⟨k,acc,hkn,rfl,HO,HAl,HA,HU,HS,HB⟩:=hrel
  have HRx:=Lib.hid (HR1.out.below HB.out)
  have HV:=Lib.hid (HV1.out.below HB.out)
  by_cases hlt:k < n
  ·obtain ⟨x,hx⟩:∃ x,A[k]?=some x:=⟨_,List.getElem?_eq_getElem (by rw [Hn.out];exact hlt)⟩
   have Hx:=Lib.hid hx
   have hc:=HRx.out.2 k x hx
   have hgl:=HRx.out.1
   have hxl:=Hxs.out x (List.mem_of_getElem? hx)
   have HPs:Hid (∀ p,pP x=some p→1≤x.length):=Lib.hid fun p h => pP_pos h
   have HUx:Hid (∀ p,pP x=some p→U64N p.2.1∧U64N p.2.2.1):=Lib.hid fun p h => pP_u hxl h
   have HSd:=Lib.hid (sumL_drop hx)
   have HPa:=Lib.hid fun wx (hv:Vr wx) => parsePrefix_any x wx hv hxl
   obtain ⟨a1,a2,a3,a4,f,hps,hf,hfi,hq⟩:=psV_cells (parsePF x)
   have HpC:Hid ((pP x).isSome=decide (f=0)∧∀ p,pP x=some p→p=(a1,a2,a3,((a4:Nat):Int))):=Lib.hid ⟨(by
    rw [hfi];unfold pP
    cases parsePF x <;> rfl),fun p hp => by
    unfold pP at hp
    cases hq2:parsePF x with
    | none => rw [hq2] at hp;cases hp
    | some q =>
      have:=hq q hq2
      subst this
      rw [hq2] at hp
      injection hp with hp
      exact hp.symm⟩
   rw [hps] at HPa
   clear hps hfi hq
   obtain ⟨SX,hSX⟩:∃ q,strL x=q:=⟨_,rfl⟩
   rw [hSX] at hc HPa
   clear hx hSX
   go_upto_region 5 with fail
   have HPx:=Lib.hid (HPa.out _ HV.out)
   clear HPa hc hgl HRx HV
   go_wp2_with fail
   refine HPx.out.mono ?_
   rintro e w3 ⟨rfl,hb⟩
   have HpD:=HpC
   clear HpC
   have HB3:=Lib.hid (HB.out.trans (hb.mono HB.out.size))
   have HO3:=Lib.hid (HO.out.later hb)
   clear hb HB HPx
   have HP4:Hid (Blk (w3.alloc (.cells #[.bool a1, .int .u64 (a2:Int), .int .u64 (a3:Int), .int .i64 (a4:Int)] 30 (0,0))) w3.heap.size 30 #[.bool a1, .int .u64 (a2:Int), .int .u64 (a3:Int), .int .i64 (a4:Int)]):=Lib.hid (Blk.new w3 _ _)
   have HB4:Hid (Below w1.heap.size w1 (w3.alloc (.cells #[.bool a1, .int .u64 (a2:Int), .int .u64 (a3:Int), .int .i64 (a4:Int)] 30 (0,0)))):=Lib.hid (Below.alloc HB3.out HB3.out.size _)
   have HO4:Hid (OwnK layPf (w3.alloc (.cells #[.bool a1, .int .u64 (a2:Int), .int .u64 (a3:Int), .int .i64 (a4:Int)] 30 (0,0))) w1.heap.size u4 acc):=Lib.hid (HO3.out.alloc _)
   clear HB3
   go_upto_region 6 with fail
   generalize w3.alloc (.cells #[.bool a1, .int .u64 (a2:Int), .int .u64 (a3:Int), .int .i64 (a4:Int)] 30 (0,0))=w4 at *
   generalize w3.heap.size=bx at *
   by_cases hF:f=0
   ·skip
    have HpS:Hid (pP x=some (a1,a2,a3,(a4:Int))):=Lib.hid (by
     have h1:=HpD.out.1
     rw [decide_eq_true hF] at h1
     cases e:pP x with
     | none => rw [e] at h1;cases h1
     | some q => rw [HpD.out.2 q e])
    have HA2:Hid (RR=rdW pP (A.drop (k + 1)) (acc ++ [(a1,a2,a3,(a4:Int))])):=Lib.hid (by rw [HA.out,rdW_step Hx.out,HpS.out])
    have HUy:=Lib.hid (HUx.out _ HpS.out)
    have HU2:Hid (U4 (acc ++ [(a1,a2,a3,(a4:Int))])):=Lib.hid (fun p hp => (List.mem_append.1 hp).elim (HU.out p) (fun h => by rw [List.mem_singleton.1 h];exact HUy.out))
    clear HUx HUy HU
    have HPy:=Lib.hid (HPs.out _ HpS.out)
    have HS2:Hid (2 * (k + 1) + sumL (A.drop (k + 1))≤sl + 1):=Lib.hid (by have h1:=HS.out;have h2:=HSd.out;have h3:=HPy.out;omega)
    subst hF
    clear HpS HpD HA HS HSd Hx HPs HPy
    have d0:=HP4.out.cell 0
    have d1:=HP4.out.cell 1
    have d2:=HP4.out.cell 2
    have d3:=HP4.out.cell 3
    simp at d0 d1 d2 d3
    have hAlk:=HAl.out
    go_upto_region 8 with fail
    go_wp2_with (at_builtin;refine wpList_app pfE rfl (.tmp 23) (.tmp 25) rfl rfl (World.ownsRow.alloc HO4.out _) rfl (src_new layPf _ (a1,a2,a3,(a4:Int)) _ _ ?c0) ?c1 ?c2 ?c3 ?c4 ?_)
    case c0 => rfl
    case c1 => exact layPf.one _
    case c2 => unfold maxLen;omega
    case c3 => omega
    case c4 => have:=HB4.out.size;simp;omega
    intro v' w' hO hG
    have HO':Hid (OwnK layPf w' w1.heap.size v' (acc ++ [(a1,a2,a3,(a4:Int))])):=Lib.hid (OwnK.snoc (by rw [HAl.out];exact hO))
    have HB':Hid (Below w1.heap.size w1 w'):=Lib.hid ((below_alloc HB4.out _).trans (hG.below (by have:=HB4.out.size;simp;omega) (own_base HO4.out)))
    clear hO hG HO4 HB4
    go_wp2_with fail
    exact ⟨⟨k + 1,acc ++ [(a1,a2,a3,(a4:Int))],by omega,by go_num,HO',Lib.hid (by rw [List.length_append,HAl.out];rfl),HA2,HU2,HS2,HB'⟩,by simp [intOf];omega⟩
   ·skip
    have HpN:Hid (pP x=none):=Lib.hid (by
     have h1:=HpD.out.1
     rw [decide_eq_false hF] at h1
     cases e:pP x with
     | none => rfl
     | some q => rw [e] at h1;cases h1)
    have HEnd:Hid (RR=none):=Lib.hid (by rw [HA.out,rdW_step Hx.out,HpN.out])
    have hb1:(f != 0)=true:=by simpa using hF
    clear HpN HpD HA HS HAl HSd Hx HPs HO HO3 HO4 HP4
    go_wp2_with fail
    go_ret2
    exact ⟨.slice none 0 0, [],false,rfl,by rw [HEnd.out];rfl,(fun M h => by rw [HEnd.out] at h;cases h),OwnK.nil _ _ _,(fun p hp => by cases hp),by simp,HB1.out.trans (HB4.out.mono HB1.out.size)⟩
  ·obtain rfl:k=n:=by omega
   have hRF:RR=some acc:=by
    rw [HA.out]
    have:=@rdW_end _ pP A acc
    rwa [Hn.out] at this
   have HRF:=Lib.hid hRF
   have h2:=HS.out
   have hlen:2 * acc.length≤sl + 1:=by rw [HAl.out];omega
   have Hlen:=Lib.hid hlen
   clear hRF h2 hlen HA HS
   go_wp2_with fail
   go_ret2
   exact ⟨_,acc,true,rfl,by rw [HRF.out];rfl,(fun M h => by rw [HRF.out] at h;injection h),HO.out.weak HB1.out.size,HU.out,Hlen.out,HB1.out.trans (HB.out.mono HB1.out.size)⟩
theorem qreadListPf_any (s:List UInt8) (w:World) (hv:Vr w) (hs:s.length≤1000000) :
  Calls Tryz.prog 198 #[.string (strL s), .func (.func 196) #[] #[]] w fun e w' => ∃ v L ok,e=.returned (.tuple #[v, .bool ok])∧ok=(rdW pP (spl 44 s) []).isSome∧(∀ M,rdW pP (spl 44 s) []=some M→L=M)∧OwnK layPf w' w.heap.size v L∧U4 L∧2 * L.length≤s.length + 1∧Below w.heap.size w w':=by
 have HSp:=Lib.hid (split_any s 44 w hv hs)
 have HV0:=Lib.hid hv
 have Hxs:Hid (∀ x ∈ spl 44 s,x.length≤1000000):=Lib.hid fun x h => Nat.le_trans (spl_mem 44 s x h).2.2 hs
 have HSm:=Lib.hid (spl_sum 44 s)
 have hnl:(spl 44 s).length≤1000001:=by
  rw [spl_len]
  have:=List.count_le_length (a:=(44:UInt8)) (l:=s)
  omega
 have HR0:Hid (rdW pP (spl 44 s) []=rdW pP ((spl 44 s).drop 0) []):=Lib.hid rfl
 obtain ⟨sl,hsl⟩:∃ q,s.length=q:=⟨_,rfl⟩
 rw [hsl] at HSm hs ⊢
 obtain ⟨RR,hRR⟩:∃ q,rdW pP (spl 44 s) []=q:=⟨_,rfl⟩
 rw [hRR] at HR0
 simp only [hRR]
 generalize spl 44 s=A at *
 obtain ⟨n,hn⟩:∃ n,A.length=n:=⟨_,rfl⟩
 rw [hn] at HSp hnl
 have Hn:=Lib.hid hn
 generalize strL s=SS at *
 clear hv hs hsl hRR hn
 go_enter Tryz.func198,Tryz.ntmps198
 go_wp2_with fail
 refine HSp.out.mono ?_
 rintro e w1 ⟨g,rfl,hr,hb⟩
 have HR1:=Lib.hid hr
 have HB1:=Lib.hid hb
 have HV1:=Lib.hid (HV0.out.below hb)
 clear hr hb HSp HV0
 go_wp2_with fail
 go_loopw [6,8,9,10,14] (fun s6 s8 s9 s10 s14 wr => ∃ (k:Nat) (acc:List Pf),k≤n∧s14=.int .i64 (k:Int)∧Hid (OwnK layPf wr w1.heap.size s6 acc)∧Hid (acc.length=k)∧Hid (RR=rdW pP (A.drop k) acc)∧Hid (U4 acc)∧Hid (2 * k + sumL (A.drop k)≤sl + 1)∧Hid (Below w1.heap.size w1 wr)) (fun _ _ _ _ i _ => n - (intOf i).toNat)
 case atStart => exact ⟨0, [],Nat.zero_le _,rfl,Lib.hid (OwnK.nil _ _ _),Lib.hid rfl,HR0,Lib.hid (fun p hp => by cases hp),Lib.hid (by rw [List.drop_zero,HSm.out];omega),Lib.hid (Below.refl _ _)⟩
 case round =>
  clear HR0 HSm
  obtain ⟨k,acc,hkn,rfl,HO,HAl,HA,HU,HS,HB⟩:=hrel
  have HRx:=Lib.hid (HR1.out.below HB.out)
  have HV:=Lib.hid (HV1.out.below HB.out)
  by_cases hlt:k < n
  ·obtain ⟨x,hx⟩:∃ x,A[k]?=some x:=⟨_,List.getElem?_eq_getElem (by rw [Hn.out];exact hlt)⟩
   have Hx:=Lib.hid hx
   have hc:=HRx.out.2 k x hx
   have hgl:=HRx.out.1
   have hxl:=Hxs.out x (List.mem_of_getElem? hx)
   have HPs:Hid (∀ p,pP x=some p→1≤x.length):=Lib.hid fun p h => pP_pos h
   have HUx:Hid (∀ p,pP x=some p→U64N p.2.1∧U64N p.2.2.1):=Lib.hid fun p h => pP_u hxl h
   have HSd:=Lib.hid (sumL_drop hx)
   have HPa:=Lib.hid fun wx (hv:Vr wx) => rowRead1_any x wx hv hxl
   unfold PfA at HPa
   obtain ⟨SX,hSX⟩:∃ q,strL x=q:=⟨_,rfl⟩
   rw [hSX] at hc HPa
   clear hx hSX
   go_upto_region 5 with fail
   have HPx:=Lib.hid (HPa.out _ HV.out)
   clear HPa hc hgl HRx HV
   go_wp2_with fail
   refine HPx.out.mono ?_
   rintro e w3 ⟨a1,a2,a3,a4,rfl,hpd,hb⟩
   have HpD:=Lib.hid hpd
   clear hpd
   have HB3:=Lib.hid (HB.out.trans (hb.mono HB.out.size))
   have HO3:=Lib.hid (HO.out.later hb)
   clear hb HB HPx
   have HP4:Hid (Blk (w3.alloc (.cells #[.bool a1, .int .u64 (a2:Int), .int .u64 (a3:Int), .int .i64 (a4:Int)] 30 (0,0))) w3.heap.size 30 #[.bool a1, .int .u64 (a2:Int), .int .u64 (a3:Int), .int .i64 (a4:Int)]):=Lib.hid (Blk.new w3 _ _)
   have HB4:Hid (Below w1.heap.size w1 (w3.alloc (.cells #[.bool a1, .int .u64 (a2:Int), .int .u64 (a3:Int), .int .i64 (a4:Int)] 30 (0,0)))):=Lib.hid (Below.alloc HB3.out HB3.out.size _)
   have HO4:Hid (OwnK layPf (w3.alloc (.cells #[.bool a1, .int .u64 (a2:Int), .int .u64 (a3:Int), .int .i64 (a4:Int)] 30 (0,0))) w1.heap.size u6 acc):=Lib.hid (HO3.out.alloc _)
   clear HB3
   go_upto_region 6 with fail
   generalize w3.alloc (.cells #[.bool a1, .int .u64 (a2:Int), .int .u64 (a3:Int), .int .i64 (a4:Int)] 30 (0,0))=w4 at *
   generalize w3.heap.size=bx at *
   cases hF:(pP x).isSome
   ·skip
    have HpN:Hid (pP x=none):=Lib.hid (by
     cases e:pP x with
     | none => rfl
     | some q => rw [e] at hF;cases hF)
    have HEnd:Hid (RR=none):=Lib.hid (by rw [HA.out,rdW_step Hx.out,HpN.out])
    clear HpN HpD HA HS HAl HSd Hx HPs HO HO3 HO4 HP4
    go_wp2_with fail
    go_ret2
    exact ⟨.slice none 0 0, [],false,rfl,by rw [HEnd.out];rfl,(fun M h => by rw [HEnd.out] at h;cases h),OwnK.nil _ _ _,(fun p hp => by cases hp),by simp,HB1.out.trans (HB4.out.mono HB1.out.size)⟩
   ·skip
    have HpS:Hid (pP x=some (a1,a2,a3,(a4:Int))):=Lib.hid (by
     cases e:pP x with
     | none => rw [e] at hF;cases hF
     | some q => rw [HpD.out q e])
    have HA2:Hid (RR=rdW pP (A.drop (k + 1)) (acc ++ [(a1,a2,a3,(a4:Int))])):=Lib.hid (by rw [HA.out,rdW_step Hx.out,HpS.out])
    have HUy:=Lib.hid (HUx.out _ HpS.out)
    have HU2:Hid (U4 (acc ++ [(a1,a2,a3,(a4:Int))])):=Lib.hid (fun p hp => (List.mem_append.1 hp).elim (HU.out p) (fun h => by rw [List.mem_singleton.1 h];exact HUy.out))
    clear HUx HUy HU
    have HPy:=Lib.hid (HPs.out _ HpS.out)
    have HS2:Hid (2 * (k + 1) + sumL (A.drop (k + 1))≤sl + 1):=Lib.hid (by have h1:=HS.out;have h2:=HSd.out;have h3:=HPy.out;omega)
    clear HpS HpD HA HS HSd Hx HPs HPy
    have d0:=HP4.out.cell 0
    have d1:=HP4.out.cell 1
    have d2:=HP4.out.cell 2
    have d3:=HP4.out.cell 3
    simp at d0 d1 d2 d3
    have hAlk:=HAl.out
    go_upto_region 8 with fail
    go_wp2_with (at_builtin;refine wpList_app pfE rfl (.tmp 26) (.tmp 28) rfl rfl (World.ownsRow.alloc HO4.out _) rfl (src_new layPf _ (a1,a2,a3,(a4:Int)) _ _ ?c0) ?c1 ?c2 ?c3 ?c4 ?_)
    case c0 => rfl
    case c1 => exact layPf.one _
    case c2 => unfold maxLen;omega
    case c3 => omega
    case c4 => have:=HB4.out.size;simp;omega
    intro v' w' hO hG
    have HO':Hid (OwnK layPf w' w1.heap.size v' (acc ++ [(a1,a2,a3,(a4:Int))])):=Lib.hid (OwnK.snoc (by rw [HAl.out];exact hO))
    have HB':Hid (Below w1.heap.size w1 w'):=Lib.hid ((below_alloc HB4.out _).trans (hG.below (by have:=HB4.out.size;simp;omega) (own_base HO4.out)))
    clear hO hG HO4 HB4
    go_wp2_with fail
    exact ⟨⟨k + 1,acc ++ [(a1,a2,a3,(a4:Int))],by omega,by go_num,HO',Lib.hid (by rw [List.length_append,HAl.out];rfl),HA2,HU2,HS2,HB'⟩,by simp [intOf];omega⟩
  ·obtain rfl:k=n:=by omega
   have hRF:RR=some acc:=by
    rw [HA.out]
    have:=@rdW_end _ pP A acc
    rwa [Hn.out] at this
   have HRF:=Lib.hid hRF
   have h2:=HS.out
   have hlen:2 * acc.length≤sl + 1:=by rw [HAl.out];omega
   have Hlen:=Lib.hid hlen
   clear hRF h2 hlen HA HS
   go_wp2_with fail
   go_ret2
   exact ⟨_,acc,true,rfl,by rw [HRF.out];rfl,(fun M h => by rw [HRF.out] at h;injection h),HO.out.weak HB1.out.size,HU.out,Hlen.out,HB1.out.trans (HB.out.mono HB1.out.size)⟩
theorem qreadListPo_any (s:List UInt8) (w:World) (hv:Vr w) (hs:s.length≤1000000) :
  Calls Tryz.prog 199 #[.string (strL s), .func (.func 200) #[] #[]] w fun e w' => ∃ v L ok,e=.returned (.tuple #[v, .bool ok])∧ok=(rdW poP (spl 44 s) []).isSome∧(∀ M,rdW poP (spl 44 s) []=some M→L=M)∧OwnK layPo w' w.heap.size v L∧2 * L.length≤s.length + 1∧Below w.heap.size w w':=by
 have HSp:=Lib.hid (split_any s 44 w hv hs)
 have HV0:=Lib.hid hv
 have Hxs:Hid (∀ x ∈ spl 44 s,x.length≤1000000):=Lib.hid fun x h => Nat.le_trans (spl_mem 44 s x h).2.2 hs
 have HSm:=Lib.hid (spl_sum 44 s)
 have hnl:(spl 44 s).length≤1000001:=by
  rw [spl_len]
  have:=List.count_le_length (a:=(44:UInt8)) (l:=s)
  omega
 have HR0:Hid (rdW poP (spl 44 s) []=rdW poP ((spl 44 s).drop 0) []):=Lib.hid rfl
 obtain ⟨sl,hsl⟩:∃ q,s.length=q:=⟨_,rfl⟩
 rw [hsl] at HSm hs ⊢
 obtain ⟨RR,hRR⟩:∃ q,rdW poP (spl 44 s) []=q:=⟨_,rfl⟩
 rw [hRR] at HR0
 simp only [hRR]
 generalize spl 44 s=A at *
 obtain ⟨n,hn⟩:∃ n,A.length=n:=⟨_,rfl⟩
 rw [hn] at HSp hnl
 have Hn:=Lib.hid hn
 generalize strL s=SS at *
 clear hv hs hsl hRR hn
 go_enter Tryz.func199,Tryz.ntmps199
 go_wp2_with fail
 refine HSp.out.mono ?_
 rintro e w1 ⟨g,rfl,hr,hb⟩
 have HR1:=Lib.hid hr
 have HB1:=Lib.hid hb
 have HV1:=Lib.hid (HV0.out.below hb)
 clear hr hb HSp HV0
 go_wp2_with fail
 go_loopw [6,8,9,10,14] (fun s6 s8 s9 s10 s14 wr => ∃ (k:Nat) (acc:List (Int × Int)),k≤n∧s14=.int .i64 (k:Int)∧Hid (OwnK layPo wr w1.heap.size s6 acc)∧Hid (acc.length=k)∧Hid (RR=rdW poP (A.drop k) acc)∧Hid (2 * k + sumL (A.drop k)≤sl + 1)∧Hid (Below w1.heap.size w1 wr)) (fun _ _ _ _ i _ => n - (intOf i).toNat)
 case atStart => exact ⟨0, [],Nat.zero_le _,rfl,Lib.hid (OwnK.nil _ _ _),Lib.hid rfl,HR0,Lib.hid (by rw [List.drop_zero,HSm.out];omega),Lib.hid (Below.refl _ _)⟩
 case round =>
  clear HR0 HSm
  obtain ⟨k,acc,hkn,rfl,HO,HAl,HA,HS,HB⟩:=hrel
  have HRx:=Lib.hid (HR1.out.below HB.out)
  have HV:=Lib.hid (HV1.out.below HB.out)
  by_cases hlt:k < n
  ·obtain ⟨x,hx⟩:∃ x,A[k]?=some x:=⟨_,List.getElem?_eq_getElem (by rw [Hn.out];exact hlt)⟩
   have Hx:=Lib.hid hx
   have hc:=HRx.out.2 k x hx
   have hgl:=HRx.out.1
   have hxl:=Hxs.out x (List.mem_of_getElem? hx)
   have HPs:Hid (∀ p,poP x=some p→1≤x.length):=Lib.hid fun p h => poP_pos h
   have HSd:=Lib.hid (sumL_drop hx)
   have HPa:=Lib.hid fun wx (hv:Vr wx) => qreadPorts_any x wx hv hxl
   obtain ⟨SX,hSX⟩:∃ q,strL x=q:=⟨_,rfl⟩
   rw [hSX] at hc HPa
   clear hx hSX
   go_upto_region 5 with fail
   have HPx:=Lib.hid (HPa.out _ HV.out)
   clear HPa hc hgl HRx HV
   go_wp2_with fail
   refine HPx.out.mono ?_
   rintro e w3 ⟨p1,p2,rfl,hpd,hb⟩
   have HpD:=Lib.hid hpd
   clear hpd
   have HB3:=Lib.hid (HB.out.trans (hb.mono HB.out.size))
   have HO3:=Lib.hid (HO.out.later hb)
   clear hb HB HPx
   have HP4:Hid (Blk (w3.alloc (.cells #[.int .i64 p1, .int .i64 p2] 132 (0,0))) w3.heap.size 132 #[.int .i64 p1, .int .i64 p2]):=Lib.hid (Blk.new w3 _ _)
   have HB4:Hid (Below w1.heap.size w1 (w3.alloc (.cells #[.int .i64 p1, .int .i64 p2] 132 (0,0)))):=Lib.hid (Below.alloc HB3.out HB3.out.size _)
   have HO4:Hid (OwnK layPo (w3.alloc (.cells #[.int .i64 p1, .int .i64 p2] 132 (0,0))) w1.heap.size u6 acc):=Lib.hid (HO3.out.alloc _)
   clear HB3
   go_upto_region 6 with fail
   generalize w3.alloc (.cells #[.int .i64 p1, .int .i64 p2] 132 (0,0))=w4 at *
   generalize w3.heap.size=bx at *
   cases hF:(poP x).isSome
   ·skip
    have HpN:Hid (poP x=none):=Lib.hid (by
     cases e:poP x with
     | none => rfl
     | some q => rw [e] at hF;cases hF)
    have HEnd:Hid (RR=none):=Lib.hid (by rw [HA.out,rdW_step Hx.out,HpN.out])
    clear HpN HpD HA HS HAl HSd Hx HPs HO HO3 HO4 HP4
    go_wp2_with fail
    go_ret2
    exact ⟨.slice none 0 0, [],false,rfl,by rw [HEnd.out];rfl,(fun M h => by rw [HEnd.out] at h;cases h),OwnK.nil _ _ _,by simp,HB1.out.trans (HB4.out.mono HB1.out.size)⟩
   ·skip
    have HpS:Hid (poP x=some (p1,p2)):=Lib.hid (by
     cases e:poP x with
     | none => rw [e] at hF;cases hF
     | some q => rw [HpD.out q e])
    have HA2:Hid (RR=rdW poP (A.drop (k + 1)) (acc ++ [(p1,p2)])):=Lib.hid (by rw [HA.out,rdW_step Hx.out,HpS.out])
    have HPy:=Lib.hid (HPs.out _ HpS.out)
    have HS2:Hid (2 * (k + 1) + sumL (A.drop (k + 1))≤sl + 1):=Lib.hid (by have h1:=HS.out;have h2:=HSd.out;have h3:=HPy.out;omega)
    clear HpS HpD HA HS HSd Hx HPs HPy
    have d0:=HP4.out.cell 0
    have d1:=HP4.out.cell 1
    simp at d0 d1
    have hAlk:=HAl.out
    go_upto_region 8 with fail
    go_wp2_with (at_builtin;refine wpList_app poE rfl (.tmp 26) (.tmp 28) rfl rfl (World.ownsRow.alloc HO4.out _) rfl (src_new layPo _ (p1,p2) _ _ ?c0) ?c1 ?c2 ?c3 ?c4 ?_)
    case c0 => rfl
    case c1 => exact layPo.one _
    case c2 => unfold maxLen;omega
    case c3 => omega
    case c4 => have:=HB4.out.size;simp;omega
    intro v' w' hO hG
    have HO':Hid (OwnK layPo w' w1.heap.size v' (acc ++ [(p1,p2)])):=Lib.hid (OwnK.snoc (by rw [HAl.out];exact hO))
    have HB':Hid (Below w1.heap.size w1 w'):=Lib.hid ((below_alloc HB4.out _).trans (hG.below (by have:=HB4.out.size;simp;omega) (own_base HO4.out)))
    clear hO hG HO4 HB4
    go_wp2_with fail
    exact ⟨⟨k + 1,acc ++ [(p1,p2)],by omega,by go_num,HO',Lib.hid (by rw [List.length_append,HAl.out];rfl),HA2,HS2,HB'⟩,by simp [intOf];omega⟩
  ·obtain rfl:k=n:=by omega
   have hRF:RR=some acc:=by
    rw [HA.out]
    have:=@rdW_end _ poP A acc
    rwa [Hn.out] at this
   have HRF:=Lib.hid hRF
   have h2:=HS.out
   have hlen:2 * acc.length≤sl + 1:=by rw [HAl.out];omega
   have Hlen:=Lib.hid hlen
   clear hRF h2 hlen HA HS
   go_wp2_with fail
   go_ret2
   exact ⟨_,acc,true,rfl,by rw [HRF.out];rfl,(fun M h => by rw [HRF.out] at h;injection h),HO.out.weak HB1.out.size,Hlen.out,HB1.out.trans (HB.out.mono HB1.out.size)⟩
theorem qLinesG {α:Type} (f:List UInt8→Option α) (g bx:Nat) (I:World→List α→Prop) (s:List UInt8) (w0 w:World) (hbx:w0.heap.size=bx) (hv:Vr w0) (hb:Below bx w0 w) (hlt:bx < w.heap.size) (hI:I w []) (hs:s.length≤200000)
  (eg:∀ args w,(callFunc g args).run Tryz.prog w=.ok (.enter g args) w)
  (hK:∀ acc u v,I u acc→Below u.heap.size u v→I v acc) (hp:∀ x p,f x=some p→1≤x.length)
  (hC:∀ acc x u,acc.length≤1000000→x.length≤200000→Vr u→bx < u.heap.size→I u acc→Calls Tryz.prog g #[.string (strL x), .pointer (some ⟨bx,0,none⟩)] u fun e u' => e=.returned (.bool (f x).isSome)∧(∀ p,f x=some p→I u' (acc ++ [p]))∧Below bx u u'∧bx < u'.heap.size) :
  Calls Tryz.prog 119 #[.string (strL s), .func (.func g) #[] #[.pointer (some ⟨bx,0,none⟩)]] w fun e w' => ∃ (i:Nat) (ok:Bool) (L:List α),e=.returned (.tuple #[.int .i64 (i:Int), .bool ok])∧Below bx w0 w'∧bx < w'.heap.size∧(ok=false→rdG f 0 (spl 10 s) []=.inl i)∧(ok=true→rdG f 0 (spl 10 s) []=.inr L∧I w' L∧L.length≤100000):=by
 have HV0:=Lib.hid hv
 have HW0:=Lib.hid hb
 have HI0:=Lib.hid hI
 have HL0:=Lib.hid hlt
 have Hbx:=Lib.hid hbx
 have HK:=Lib.hid hK
 have HPp:=Lib.hid hp
 have HCl:=Lib.hid hC
 obtain ⟨R,hR⟩:∃ q,rdG f 0 (spl 10 s) []=q:=⟨_,rfl⟩
 have HR:=Lib.hid hR
 rw [hR]
 obtain ⟨SS,hSS⟩:∃ q,strL s=q:=⟨_,rfl⟩
 have HSS:=Lib.hid hSS
 rw [hSS]
 clear hv hb hI hbx hR hSS hK hp hC hlt
 go_enter Tryz.func119,Tryz.ntmps119
 go_wp2_with fail
 go_loopw [0,6,7,8,9] (fun sr i s7 s8 s9 wr => ∃ (k:Nat) (r:List UInt8) (acc:List α),i=.int .i64 (k:Int)∧sr=.string (strL r)∧r.length + 2 * k≤s.length∧Hid (rdG f k (spl 10 r) acc=R)∧Hid (acc.length=k)∧Hid (I wr acc)∧Hid (Below bx w0 wr)∧Hid (bx < wr.heap.size)) (fun _ i _ _ _ _ => s.length - (intOf i).toNat)
 case atStart => exact ⟨0,s, [],rfl,by rw [HSS.out],Nat.le_refl _,HR,Lib.hid rfl,HI0,HW0,HL0⟩
 case round =>
  clear HW0 HI0 HR HL0
  obtain ⟨k,r,acc,rfl,rfl,hlen,HA,HAl,HO,HW,HLt⟩:=hrel
  have HV:Hid (Vr wr):=Lib.hid (HV0.out.below (by rw [Hbx.out];exact HW.out))
  have hse:=strL_list r
  have hrl:r.length≤1000000:=by omega
  have HC:Hid (∀ wx,Vr wx→Calls Tryz.prog 195 #[.string (strL r), .string ⟨#[10]⟩] wx (Ret (.tuple #[.string (strL (Lib.cut r [10]).1), .string (strL (Lib.cut r [10]).2.1), .bool (Lib.cut r [10]).2.2]) wx)):=Lib.hid fun wx hv => cut_any r [10] wx hv hrl
  have hcs:=cut_spl r 10
  by_cases h0:r=[]
  ·have hem:r.isEmpty=true:=by rw [h0];rfl
   have HE:Hid (R=.inr acc):=Lib.hid (by rw [← HA.out,h0];exact rdG_last _ _ _)
   clear hcs HC
   obtain ⟨SR,hSR⟩:∃ q,strL r=q:=⟨_,rfl⟩
   rw [hSR] at hse ⊢
   clear hSR
   go_wp2_with fail
   go_ret2
   exact ⟨0,true,acc,rfl,HW.out,HLt.out,fun h => (by cases h),fun _ => ⟨HE.out,HO.out,by rw [HAl.out];omega⟩⟩
  ·have hem:r.isEmpty=false:=by cases r with
    | nil => exact absurd rfl h0
    | cons _ _ => rfl
   rcases hcs with ⟨-,hcut,hspl⟩ | ⟨l,r2,hr,hcut,hspl⟩
   ·rw [hcut] at HC
    have HE:Hid (R=.inl k):=Lib.hid (by rw [← HA.out,hspl];exact rdG_open h0)
    have HCx:=Lib.hid (HC.out _ HV.out)
    simp only at HCx
    clear hcut hspl HC
    obtain ⟨SR,hSR⟩:∃ q,strL r=q:=⟨_,rfl⟩
    rw [hSR] at hse HCx ⊢
    clear hSR
    obtain ⟨SE,hSE⟩:∃ q,strL []=q:=⟨_,rfl⟩
    rw [hSE] at HCx
    clear hSE
    go_wp2_with fail
    refine HCx.out.mono ?_
    rintro e w3 ⟨rfl,hb⟩
    have HW3:=Lib.hid (HW.out.trans (hb.mono (Nat.le_of_lt HLt.out)))
    have HLt3:Hid (bx < w3.heap.size):=Lib.hid (Nat.lt_of_lt_of_le HLt.out hb.size)
    clear hb HCx
    go_wp2_with fail
    go_ret2
    exact ⟨k,false,acc,rfl,HW3.out,HLt3.out,fun _ => HE.out,fun h => (by cases h)⟩
   ·rw [hcut] at HC
    have HCx:=Lib.hid (HC.out _ HV.out)
    simp only at HCx
    have hll:l.length + r2.length + 1=r.length:=by rw [hr,List.length_append,List.length_cons];omega
    have hkl:acc.length≤1000000:=by rw [HAl.out];omega
    have HSr:=Lib.hid fun wx (h1:I wx acc) (h2:bx < wx.heap.size) (h3:Vr wx) => HCl.out acc l wx hkl (by omega) h3 h2 h1
    have HN:Hid (f l=none→R=.inl k):=Lib.hid fun h => by rw [← HA.out,hspl];exact rdG_bad (spl_ne _ _) h
    have HY:Hid (∀ p,f l=some p→rdG f (k + 1) (spl 10 r2) (acc ++ [p])=R):=Lib.hid fun p h => by rw [← HA.out,hspl];exact (rdG_good (spl_ne _ _) h).symm
    have HPs:Hid (∀ p,f l=some p→1≤l.length):=Lib.hid fun p h => HPp.out l p h
    clear hcut hspl HC HA hr hkl
    obtain ⟨SR,hSR⟩:∃ q,strL r=q:=⟨_,rfl⟩
    rw [hSR] at hse HCx ⊢
    clear hSR
    obtain ⟨SLl,hSL⟩:∃ q,strL l=q:=⟨_,rfl⟩
    rw [hSL] at HCx HSr
    clear hSL
    go_wp2_with fail
    refine HCx.out.mono ?_
    rintro e w3 ⟨rfl,hb⟩
    have HO3:=Lib.hid (HK.out acc _ _ HO.out hb)
    have HW3:=Lib.hid (HW.out.trans (hb.mono (Nat.le_of_lt HLt.out)))
    have HLt3:Hid (bx < w3.heap.size):=Lib.hid (Nat.lt_of_lt_of_le HLt.out hb.size)
    have HV3:Hid (Vr w3):=Lib.hid (HV0.out.below (by rw [Hbx.out];exact HW3.out))
    have HSx:=Lib.hid (HSr.out w3 HO3.out HLt3.out HV3.out)
    clear hb HCx HO HW HV HSr HV3 HLt
    go_wp2_with fail
    refine HSx.out.mono ?_
    rintro e w4 ⟨rfl,hI4,hb4,hlt4⟩
    have HI4:=Lib.hid hI4
    have HW4:=Lib.hid (HW3.out.trans hb4)
    have HLt4:=Lib.hid hlt4
    clear hI4 hb4 hlt4 HSx HO3 HW3 HLt3
    cases hp:f l with
    | none =>
      have HE:=Lib.hid (HN.out hp)
      clear HN HY HPs HI4 hp
      simp only [Option.isSome_none]
      go_wp2_with fail
      go_ret2
      exact ⟨k,false,acc,rfl,HW4.out,HLt4.out,fun _ => HE.out,fun h => (by cases h)⟩
    | some p =>
      have HI5:=Lib.hid (HI4.out p hp)
      have HE:=Lib.hid (HY.out _ hp)
      have hl1:=HPs.out _ hp
      clear HN HY HPs HI4 hp
      simp only [Option.isSome_some]
      go_wp2_with fail
      exact ⟨⟨k + 1,r2,acc ++ [p],by go_num,rfl,by omega,HE,Lib.hid (by rw [List.length_append,HAl.out];rfl),HI5,HW4,HLt4⟩,by simp [intOf];omega⟩
end Go.Proofs.YtdhldhkhpndpjaaGreatDoor
