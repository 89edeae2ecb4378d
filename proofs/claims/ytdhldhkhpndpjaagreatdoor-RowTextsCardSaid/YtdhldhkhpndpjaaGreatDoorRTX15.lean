/-
  What the generator of reports calls: Some, the closure that compares; the state in a round.
  Strings that a generator makes: Changed, AddrString.
  The text of a prefix: prefixText and PrefixText of the program, PrefixLine of the reference.
  Plain law: a prefix read. What the program asks (a number of at most three digits) and what the reference asks (its line is the string again) are the same.
  Plain law: the text of a set, written and read line by line.
  Plain law: bytes of lines; what a reader of sets answers.
  Sets as spans of numbers: the spans of their prefixes, gaps, what two have in common, and how many prefixes these need.
  The reference's HasOf: whether an address is in one of some prefixes.
-/
import Derived.Test.YtdhldhkhpndpjaaGreatDoorRTX14
import Derived.Test.YtdhldhkhpndpjaaGreatDoorRTX7
import Derived.Test.YtdhldhkhpndpjaaGreatDoorRTX12
import Derived.Test.YtdhldhkhpndpjaaGreatDoorRTX13
import Derived.Test.YtdhldhkhpndpjaaGreatDoorRTX2
import Derived.Test.YtdhldhkhpndpjaaGreatDoorRTX5
import Derived.Test.YtdhldhkhpndpjaaGreatDoorRTX3
import Derived.Test.YtdhldhkhpndpjaaGreatDoorRTX9
import Derived.Test.YtdhldhkhpndpjaaGreatDoorRTX1
import Derived.Test.YtdhldhkhpndpjaaGreatDoorRTX11
set_option linter.unusedVariables false
set_option maxRecDepth 100000
set_option maxHeartbeats 4000000
namespace Go.Proofs.YtdhldhkhpndpjaaGreatDoor
open Go.RowKit Go
open Go.RowKit Go Go.Sort
theorem enc_size {c:Nat} (h:c < 128):(Utf8.encode (c:Int)).size≤4:=by
 have key:∀ n:Nat,n < 128→(Utf8.encode (n:Int)).size≤4:=by decide +kernel
 exact key c h
theorem i1_facts {i:Nat} (h:i < 1000000):wrap64 ((i:Int) + 1)=(i:Int) + 1∧IntKind.i64.wrap ((i:Int) + 1)=(i:Int) + 1∧((i:Int) + 1).toNat=i + 1:=by
 refine ⟨by unfold wrap64;omega,by rw [IntKind.wrap_i64];omega,by omega⟩
theorem joinS_four_size (lo:Nat):(joinS (fourL lo) ⟨#[46]⟩).size≤800:=by
 have:=joinS_size (L:=fourL lo) (fourL_short lo) 46
 omega
theorem txtA_size (six:Bool) (hi lo:Nat):(txtA six hi lo).size≤800:=by
 cases six
 ·exact joinS_four_size lo
 ·show (sixT (dg hi lo)).size≤800
  unfold sixT
  split
  ·have:=joinS_size (sixL_short (dg hi lo)) 58
   omega
  ·unfold gapS
   have h1:=joinS_size ((sixL_short (dg hi lo)).take (zF (zB (dg hi lo)) 8 0 0 0).1) 58
   have h2:=joinS_size ((sixL_short (dg hi lo)).drop ((zF (zB (dg hi lo)) 8 0 0 0).1 + (zF (zB (dg hi lo)) 8 0 0 0).2)) 58
   rw [ByteArray.size_append,ByteArray.size_append]
   have:(⟨#[58,58]⟩:ByteArray).size=2:=rfl
   omega
theorem changed_gen (b m:Nat) (T W:ByteArray) (w:World) (h:Strm w b m) (hm:m + 3 < 1099511627776) (hT:T.size≤400000) (hW:W.size≤100) (hWa:∀ (j:Nat) (h:j < W.size),(W[j]'h).toNat < 128) :
  Calls Tryz.prog 116 #[.pointer (some ⟨b,0,none⟩), .string T, .string W] w fun e w' => ∃ S:ByteArray,e=.returned (.string S)∧S.size≤T.size + 100∧Gen b w w' (m + 3):=by
 have HS:=Lib.hid h
 have HWa:=Lib.hid hWa
 have hTe:T.size=0 ↔ T.toList=[]:=by
  rw [ByteArray.toList_eq]
  show T.data.size=0 ↔ T.data.toList=[]
  rw [← Array.length_toList,List.length_eq_zero_iff]
 have hWe:W.size=0 ↔ W.toList=[]:=by
  rw [ByteArray.toList_eq]
  show W.data.size=0 ↔ W.data.toList=[]
  rw [← Array.length_toList,List.length_eq_zero_iff]
 have HTe:=Lib.hid hTe
 have HWe:=Lib.hid hWe
 obtain ⟨tl,htl⟩:∃ q,T.toList=q:=⟨_,rfl⟩
 obtain ⟨wl,hwl⟩:∃ q,W.toList=q:=⟨_,rfl⟩
 rw [htl] at HTe
 rw [hwl] at HWe
 clear h hWa hTe hWe
 go_enter Tryz.func116,Tryz.ntmps116
 by_cases hw0:W.size=0
 ·have hwn:wl=[]:=HWe.out.1 hw0
  have hwe:wl.isEmpty=true:=by rw [hwn];rfl
  by_cases ht0:T.size=0
  ·have htn:tl=[]:=HTe.out.1 ht0
   have hte:tl.isEmpty=true:=by rw [htn];rfl
   go_wp2_with fail
   go_ret
   exact ⟨W,rfl,by omega,(Gen.start HS.out).mono (by omega)⟩
  ·have htn:¬ tl=[]:=fun e => ht0 (HTe.out.2 e)
   have hte:tl.isEmpty=false:=by cases tl with
    | nil => exact absurd rfl htn
    | cons _ _ => rfl
   go_wp2_with fail
   go_ret
   exact ⟨W,rfl,by omega,(Gen.start HS.out).mono (by omega)⟩
 ·have hwn:¬ wl=[]:=fun e => hw0 (HWe.out.2 e)
  have hwe:wl.isEmpty=false:=by cases wl with
   | nil => exact absurd rfl hwn
   | cons _ _ => rfl
  by_cases ht0:T.size=0
  ·have htn:tl=[]:=HTe.out.1 ht0
   have hte:tl.isEmpty=true:=by rw [htn];rfl
   go_wp2_with fail
   go_ret
   exact ⟨W,rfl,by omega,(Gen.start HS.out).mono (by omega)⟩
  ·have htn:¬ tl=[]:=fun e => ht0 (HTe.out.2 e)
   have hte:tl.isEmpty=false:=by cases tl with
    | nil => exact absurd rfl htn
    | cons _ _ => rfl
   go_wp2_with fail
   refine (next_gen b m _ _ HS.out (by omega) (by omega)).mono ?_
   rintro e w1 ⟨k,rfl,⟨hk0,hk1⟩,hg⟩
   have HG1:=Lib.hid hg
   obtain ⟨i,rfl⟩:=Int.eq_ofNat_of_zero_le hk0
   have hi:i < T.size:=by omega
   clear hg hk0 hk1 HS
   go_wp2_with fail
   refine (next_gen b (m + 1) _ _ HG1.out.s (by omega) (by omega)).mono ?_
   rintro e w2 ⟨k,rfl,⟨hk0,hk1⟩,hg⟩
   have HG2:=Lib.hid (HG1.out.trans hg)
   obtain ⟨j,rfl⟩:=Int.eq_ofNat_of_zero_le hk0
   have hj:j < W.size:=by omega
   obtain ⟨c,hc⟩:∃ q:Nat,(W[j]'hj).toNat=q:=⟨_,rfl⟩
   have hix:∀ h:j < W.size,((W[j]'h).toNat:Int)=(c:Int):=fun h => by rw [← hc]
   have hc128:c < 128:=by rw [← hc];exact HWa.out j hj
   clear hg hk0 hk1 HG1 hc
   go_wp2_with fail
   refine (next_gen b (m + 2) _ _ HG2.out.s (by omega) (by omega)).mono ?_
   rintro e w3 ⟨k,rfl,⟨hk0,hk1⟩,hg⟩
   have HG3:=Lib.hid (HG2.out.trans hg)
   clear hg HG2
   have hes:=enc_size hc128
   obtain ⟨E,hE⟩:∃ q,Utf8.encode (c:Int)=q:=⟨_,rfl⟩
   rw [hE] at hes
   have hx1:(T.extract 0 i).size=i:=by rw [ByteArray.size_extract];omega
   have hx2:(T.extract (i + 1) T.size).size≤T.size - i:=by rw [ByteArray.size_extract];omega
   have hx3:(T.extract i T.size).size≤T.size - i:=by rw [ByteArray.size_extract];omega
   have ad1:=fun wx => add_str (T.extract 0 i) E (by omega) (by omega) wx
   have hs1:(T.extract 0 i ++ E).size≤i + 4:=by rw [ByteArray.size_append];omega
   have ad2:=fun wx => add_str (T.extract 0 i ++ E) (T.extract (i + 1) T.size) (by omega) (by omega) wx
   have ad3:=fun wx => add_str (T.extract 0 i ++ E) (T.extract i T.size) (by omega) (by omega) wx
   have ad4:=fun wx => add_str (T.extract 0 i) (T.extract (i + 1) T.size) (by omega) (by omega) wx
   have hf2:(T.extract 0 i ++ E ++ T.extract (i + 1) T.size).size≤T.size + 100:=by rw [ByteArray.size_append];omega
   have hf3:(T.extract 0 i ++ E ++ T.extract i T.size).size≤T.size + 100:=by rw [ByteArray.size_append];omega
   have hf4:(T.extract 0 i ++ T.extract (i + 1) T.size).size≤T.size + 100:=by rw [ByteArray.size_append];omega
   have Hf2:=Lib.hid hf2
   have Hf3:=Lib.hid hf3
   have Hf4:=Lib.hid hf4
   have hi1:(i:Int)≤(T.size:Int):=by omega
   have hi2:(i:Int) + 1≤(T.size:Int):=by omega
   obtain ⟨e1,e2,e3⟩:=i1_facts (show i < 1000000 by omega)
   clear hf2 hf3 hf4 hs1 hx1 hx2 hx3
   have hcase:k=0 ∨ k=1 ∨ k=2:=by omega
   clear hk0 hk1
   rcases hcase with rfl | rfl | rfl
   ·go_upto_region 7 with fail
    refine wp_region_later (by kernel_rfl) (by kernel_rfl) ?_
    repeat (go_big_quiet_step (fail))
    refine wpQuiet_nil ?_
    rintro w4 ⟨m4,hm4⟩
    have hb4:Below w3.heap.size w3 w4:=by rw [hm4];exact m4.2
    have HG4:=Lib.hid (HG3.out.below hb4 HG3.out.g.size HG3.out.s.lt)
    clear hm4 m4 hb4 HG3
    go_wp2_with fail
    go_ret
    exact ⟨_,rfl,Hf2.out,HG4.out⟩
   ·go_upto_region 9 with fail
    refine wp_region_later (by kernel_rfl) (by kernel_rfl) ?_
    repeat (go_big_quiet_step (fail))
    refine wpQuiet_nil ?_
    rintro w4 ⟨m4,hm4⟩
    have hb4:Below w3.heap.size w3 w4:=by rw [hm4];exact m4.2
    have HG4:=Lib.hid (HG3.out.below hb4 HG3.out.g.size HG3.out.s.lt)
    clear hm4 m4 hb4 HG3
    go_wp2_with fail
    go_ret
    exact ⟨_,rfl,Hf3.out,HG4.out⟩
   ·go_upto_region 10 with fail
    refine wp_region_later (by kernel_rfl) (by kernel_rfl) ?_
    repeat (go_big_quiet_step (fail))
    refine wpQuiet_nil ?_
    rintro w4 ⟨m4,hm4⟩
    have hb4:Below w3.heap.size w3 w4:=by rw [hm4];exact m4.2
    have HG4:=Lib.hid (HG3.out.below hb4 HG3.out.g.size HG3.out.s.lt)
    clear hm4 m4 hb4 HG3
    go_wp2_with fail
    go_ret
    exact ⟨_,rfl,Hf4.out,HG4.out⟩
def pfxT (six:Bool) (hi lo n:Nat):ByteArray:=txtA six hi lo ++ ⟨#[47]⟩ ++ ⟨(Lib.decDigits n).toArray⟩
theorem dec_size {n:Nat} (h:n < 1000):(⟨(Lib.decDigits n).toArray⟩:ByteArray).size≤3:=by
 show (Lib.decDigits n).toArray.size≤3
 rw [List.size_toArray,Lib.decDigits_length]
 exact nDigits_lt (by decide) h
theorem pfxT_size {six:Bool} {hi lo n:Nat} (h:n < 1000):(pfxT six hi lo n).size≤804:=by
 unfold pfxT
 have h1:=txtA_size six hi lo
 have h2:=dec_size h
 rw [ByteArray.size_append,ByteArray.size_append]
 have:(⟨#[47]⟩:ByteArray).size=1:=rfl
 omega
theorem prefixText_any (six:Bool) (hi lo n:Nat) (w:World) (h1:U64N hi) (h2:U64N lo) (hf:aFault six (hi:Int) (lo:Int)=0) (hn:n < 1000) (ht:Tabs w) :
  Calls Tryz.prog 309 #[.agg #[.bool six, .int .u64 (hi:Int), .int .u64 (lo:Int), .int .i64 (n:Int)]] w (Ret (.string (pfxT six hi lo n)) w):=by
 have HP:Hid (Blk (w.alloc (.cells #[.bool six, .int .u64 (hi:Int), .int .u64 (lo:Int), .int .i64 (n:Int)] 30 (0,0))) w.heap.size 30 #[.bool six, .int .u64 (hi:Int), .int .u64 (lo:Int), .int .i64 (n:Int)]):=Lib.hid (Blk.new w _ _)
 have HB:Hid (Below w.heap.size w (w.alloc (.cells #[.bool six, .int .u64 (hi:Int), .int .u64 (lo:Int), .int .i64 (n:Int)] 30 (0,0)))):=Lib.hid (below_alloc (Below.refl _ _) _)
 have HV:=Lib.hid (ht.below (below_alloc (Below.refl _ _) (.cells #[.bool six, .int .u64 (hi:Int), .int .u64 (lo:Int), .int .i64 (n:Int)] 30 (0,0))))
 have hsz:=txtA_size six hi lo
 have hds:=dec_size hn
 have HE:Hid (pfxT six hi lo n=txtA six hi lo ++ ⟨#[47]⟩ ++ ⟨(Lib.decDigits n).toArray⟩):=Lib.hid rfl
 have HT:=Lib.hid fun wx (ht:Tabs wx) => textOf_any six hi lo wx h1 h2 hf ht
 have HI:=Lib.hid fun wx (ht:Tabs wx) => itoa_any n hn wx ht.1
 generalize pfxT six hi lo n=PT at *
 generalize txtA six hi lo=TX at *
 obtain ⟨DX,hDX⟩:∃ q:ByteArray,⟨(Lib.decDigits n).toArray⟩=q:=⟨_,rfl⟩
 rw [hDX] at hds HE HI
 clear h1 h2 hf ht hDX
 go_enter Tryz.func309,Tryz.ntmps309
 go_upto_region 1 with fail
 generalize w.alloc (.cells #[.bool six, .int .u64 (hi:Int), .int .u64 (lo:Int), .int .i64 (n:Int)] 30 (0,0))=w1 at *
 obtain ⟨bx,hbx⟩:∃ q,w.heap.size=q:=⟨_,rfl⟩
 have Hbx:=Lib.hid hbx
 rw [hbx] at HP HB ⊢
 clear hbx
 have hb1:bx≤w1.heap.size:=Nat.le_of_lt HP.out.lt
 have c0:=HP.out.cell 0
 have c1:=HP.out.cell 1
 have c2:=HP.out.cell 2
 have c3:=HP.out.cell 3
 simp at c0 c1 c2 c3
 have l0:=Later.cell_of c0
 have l1:=Later.cell_of c1
 have l2:=Later.cell_of c2
 have l3:=Later.cell_of c3
 have hQT:=fun m:Later w1 => Calls.later m (HT.out m.1 (HV.out.below m.2))
 have hQI:=fun m:Later w1 => Calls.later m (HI.out m.1 (HV.out.below m.2))
 have nb1:¬ 9223372036854775807 < TX.size + 1:=by omega
 have nb2:¬ 9223372036854775807 < TX.size + 1 + DX.size:=by omega
 clear hsz hds
 refine wp_region_later (by kernel_rfl) (by kernel_rfl) ?_
 repeat (go_big_quiet_step (first | (go_at_call 172;exact hQT _) | (go_at_call 111;exact hQI _)))
 refine wpQuiet_nil ?_
 rintro w4 ⟨m4,hm4⟩
 have hb4:Below w1.heap.size w1 w4:=by rw [hm4];exact m4.2
 have HB4:=Lib.hid (HB.out.trans (hb4.mono hb1))
 clear hm4 m4 hb4
 rw [← HE.out]
 go_wp2_with fail
 go_ret
 exact ⟨rfl,by rw [Hbx.out];exact HB4.out⟩
theorem prefixLine_any (six:Bool) (hi lo n:Nat) (w:World) (h1:U64N hi) (h2:U64N lo) (hf:aFault six (hi:Int) (lo:Int)=0) (hn:n < 1000) (ht:Tabs w) :
  Calls Tryz.prog 113 #[.agg #[.bool six, .int .u64 (hi:Int), .int .u64 (lo:Int), .int .i64 (n:Int)]] w (Ret (.string (pfxT six hi lo n)) w):=by
 have HP:Hid (Blk (w.alloc (.cells #[.bool six, .int .u64 (hi:Int), .int .u64 (lo:Int), .int .i64 (n:Int)] 30 (0,0))) w.heap.size 30 #[.bool six, .int .u64 (hi:Int), .int .u64 (lo:Int), .int .i64 (n:Int)]):=Lib.hid (Blk.new w _ _)
 have HB:Hid (Below w.heap.size w (w.alloc (.cells #[.bool six, .int .u64 (hi:Int), .int .u64 (lo:Int), .int .i64 (n:Int)] 30 (0,0)))):=Lib.hid (below_alloc (Below.refl _ _) _)
 have HV:=Lib.hid (ht.below (below_alloc (Below.refl _ _) (.cells #[.bool six, .int .u64 (hi:Int), .int .u64 (lo:Int), .int .i64 (n:Int)] 30 (0,0))))
 have hsz:=txtA_size six hi lo
 have hds:=dec_size hn
 have HE:Hid (pfxT six hi lo n=txtA six hi lo ++ ⟨#[47]⟩ ++ ⟨(Lib.decDigits n).toArray⟩):=Lib.hid rfl
 have HT:=Lib.hid fun wx (ht:Tabs wx) => addrText_any six hi lo wx h1 h2 hf ht
 have HI:=Lib.hid fun wx (ht:Tabs wx) => itoa_any n hn wx ht.1
 generalize pfxT six hi lo n=PT at *
 generalize txtA six hi lo=TX at *
 obtain ⟨DX,hDX⟩:∃ q:ByteArray,⟨(Lib.decDigits n).toArray⟩=q:=⟨_,rfl⟩
 rw [hDX] at hds HE HI
 clear h1 h2 hf ht hDX
 go_enter Tryz.func113,Tryz.ntmps113
 go_upto_region 1 with fail
 generalize w.alloc (.cells #[.bool six, .int .u64 (hi:Int), .int .u64 (lo:Int), .int .i64 (n:Int)] 30 (0,0))=w1 at *
 obtain ⟨bx,hbx⟩:∃ q,w.heap.size=q:=⟨_,rfl⟩
 have Hbx:=Lib.hid hbx
 rw [hbx] at HP HB ⊢
 clear hbx
 have hb1:bx≤w1.heap.size:=Nat.le_of_lt HP.out.lt
 have c0:=HP.out.cell 0
 have c1:=HP.out.cell 1
 have c2:=HP.out.cell 2
 have c3:=HP.out.cell 3
 simp at c0 c1 c2 c3
 have l0:=Later.cell_of c0
 have l1:=Later.cell_of c1
 have l2:=Later.cell_of c2
 have l3:=Later.cell_of c3
 have hQT:=fun m:Later w1 => Calls.later m (HT.out m.1 (HV.out.below m.2))
 have hQI:=fun m:Later w1 => Calls.later m (HI.out m.1 (HV.out.below m.2))
 have nb1:¬ 9223372036854775807 < TX.size + 1:=by omega
 have nb2:¬ 9223372036854775807 < TX.size + 1 + DX.size:=by omega
 clear hsz hds
 refine wp_region_later (by kernel_rfl) (by kernel_rfl) ?_
 repeat (go_big_quiet_step (first | (go_at_call 134;exact hQT _) | (go_at_call 111;exact hQI _)))
 refine wpQuiet_nil ?_
 rintro w4 ⟨m4,hm4⟩
 have hb4:Below w1.heap.size w1 w4:=by rw [hm4];exact m4.2
 have HB4:=Lib.hid (HB.out.trans (hb4.mono hb1))
 clear hm4 m4 hb4
 rw [← HE.out]
 go_wp2_with fail
 go_ret
 exact ⟨rfl,by rw [Hbx.out];exact HB4.out⟩
theorem pFault_ok {six:Bool} {hi lo:Nat} {bits:Int} (h:pFault six hi lo bits=0):aFault six (hi:Int) (lo:Int)=0∧∃ n:Nat,n < 1000∧bits=(n:Int):=by
 unfold pFault at h
 by_cases h1:aFault six (hi:Int) (lo:Int) ≠ 0
 ·rw [if_pos h1] at h;cases h
 ·rw [if_neg h1] at h
  refine ⟨by omega,?_⟩
  by_cases h2:outB bits 0 (lenN six:Nat)=true
  ·rw [if_pos h2] at h;cases h
  ·unfold outB at h2
   have:=lenN_le six
   simp at h2
   exact ⟨bits.toNat,by omega,by omega⟩
def pfxO (six:Bool) (hi lo:Nat) (bits:Int):ByteArray:=if pFault six hi lo bits=0 then pfxT six hi lo bits.toNat else ⟨#[]⟩
theorem prefixText_all (six:Bool) (hi lo:Nat) (bits:Int) (w:World) (h1:U64N hi) (h2:U64N lo) (ht:Tabs w) :
  Calls Tryz.prog 254 #[.agg #[.bool six, .int .u64 (hi:Int), .int .u64 (lo:Int), .int .i64 bits]] w (Ret (.tuple #[.string (pfxO six hi lo bits), .int .i64 (pFault six hi lo bits)]) w):=by
 have HP:Hid (Blk (w.alloc (.cells #[.bool six, .int .u64 (hi:Int), .int .u64 (lo:Int), .int .i64 bits] 30 (0,0))) w.heap.size 30 #[.bool six, .int .u64 (hi:Int), .int .u64 (lo:Int), .int .i64 bits]):=Lib.hid (Blk.new w _ _)
 have HB:Hid (Below w.heap.size w (w.alloc (.cells #[.bool six, .int .u64 (hi:Int), .int .u64 (lo:Int), .int .i64 bits] 30 (0,0)))):=Lib.hid (below_alloc (Below.refl _ _) _)
 have HV:=Lib.hid (ht.below (below_alloc (Below.refl _ _) (.cells #[.bool six, .int .u64 (hi:Int), .int .u64 (lo:Int), .int .i64 bits] 30 (0,0))))
 have HC:=Lib.hid fun wx => checkPrefix_any six hi lo bits wx (by unfold U64N at h1;omega) (by unfold U64N at h2;omega)
 have HT:Hid (pFault six hi lo bits=0→∀ wx,Tabs wx→Calls Tryz.prog 309 #[.agg #[.bool six, .int .u64 (hi:Int), .int .u64 (lo:Int), .int .i64 bits]] wx (Ret (.string (pfxT six hi lo bits.toNat)) wx)):=Lib.hid fun h wx ht => by
  obtain ⟨g1,n,g2,rfl⟩:=pFault_ok h
  exact prefixText_any six hi lo n wx h1 h2 g1 g2 ht
 have HE:Hid (pfxO six hi lo bits=if pFault six hi lo bits=0 then pfxT six hi lo bits.toNat else ⟨#[]⟩):=Lib.hid rfl
 obtain ⟨PO,hPO⟩:∃ q,pfxO six hi lo bits=q:=⟨_,rfl⟩
 rw [hPO] at HE ⊢
 generalize pFault six hi lo bits=pf at *
 generalize pfxT six hi lo bits.toNat=PT at *
 clear h1 h2 ht hPO
 by_cases hz:pf=0
 ·subst hz
  have hE:PO=PT:=HE.out.trans (if_pos rfl)
  subst hE
  clear HE
  go_enter Tryz.func254,Tryz.ntmps254
  go_upto_region 1 with fail
  generalize w.alloc (.cells #[.bool six, .int .u64 (hi:Int), .int .u64 (lo:Int), .int .i64 bits] 30 (0,0))=w1 at *
  obtain ⟨bx,hbx⟩:∃ q,w.heap.size=q:=⟨_,rfl⟩
  have Hbx:=Lib.hid hbx
  rw [hbx] at HP HB ⊢
  clear hbx
  have c0:=HP.out.cell 0
  have c1:=HP.out.cell 1
  have c2:=HP.out.cell 2
  have c3:=HP.out.cell 3
  simp at c0 c1 c2 c3
  go_wp2_with fail
  refine (HC.out _).mono ?_
  rintro e w2 ⟨rfl,hb⟩
  have HP2:=Lib.hid (HP.out.below hb HP.out.lt)
  have HB2:=Lib.hid (HB.out.trans (hb.mono (Nat.le_of_lt HP.out.lt)))
  have HV2:=Lib.hid (HV.out.below hb)
  clear hb c0 c1 c2 c3
  have c0:=HP2.out.cell 0
  have c1:=HP2.out.cell 1
  have c2:=HP2.out.cell 2
  have c3:=HP2.out.cell 3
  simp at c0 c1 c2 c3
  go_wp2_with fail
  refine (HT.out trivial _ HV2.out).mono ?_
  rintro e w3 ⟨rfl,hb⟩
  have HB3:=Lib.hid (HB2.out.trans (hb.mono (Nat.le_of_lt HP2.out.lt)))
  clear hb
  go_wp2_with fail
  refine bodyPost_ret (v:=.tuple #[.string PO, .int .i64 0]) (by simp [results,Tryz.results254,go_sem, *]) rfl ⟨rfl,by rw [Hbx.out];exact HB3.out⟩
 ·have hE:PO=⟨#[]⟩:=HE.out.trans (if_neg hz)
  subst hE
  have hb1:(pf != 0)=true:=by simpa using hz
  clear HE HT
  go_enter Tryz.func254,Tryz.ntmps254
  go_upto_region 1 with fail
  generalize w.alloc (.cells #[.bool six, .int .u64 (hi:Int), .int .u64 (lo:Int), .int .i64 bits] 30 (0,0))=w1 at *
  obtain ⟨bx,hbx⟩:∃ q,w.heap.size=q:=⟨_,rfl⟩
  have Hbx:=Lib.hid hbx
  rw [hbx] at HP HB ⊢
  clear hbx
  have c0:=HP.out.cell 0
  have c1:=HP.out.cell 1
  have c2:=HP.out.cell 2
  have c3:=HP.out.cell 3
  simp at c0 c1 c2 c3
  go_wp2_with fail
  refine (HC.out _).mono ?_
  rintro e w2 ⟨rfl,hb⟩
  have HB2:=Lib.hid (HB.out.trans (hb.mono (Nat.le_of_lt HP.out.lt)))
  clear hb
  go_wp2_with fail
  refine bodyPost_ret (v:=.tuple #[.string ⟨#[]⟩, .int .i64 pf]) (by simp [results,Tryz.results254,go_sem, *]) rfl ⟨rfl,by rw [Hbx.out];exact HB2.out⟩
theorem cut_one (s:List UInt8) (c:UInt8):((Lib.cut s [c]).1=s∧(Lib.cut s [c]).2.1=[]) ∨ s=(Lib.cut s [c]).1 ++ c :: (Lib.cut s [c]).2.1:=by
 unfold Lib.cut
 rcases Lib.index_spec s [c] with ⟨h1,_⟩ | ⟨i,h1,h2,h3,_⟩
 ·left;rw [h1];exact ⟨rfl,rfl⟩
 ·right
  rw [h1,if_pos (by omega)]
  unfold Lib.occAt at h3
  obtain ⟨t,ht⟩:=List.isPrefixOf_iff_prefix.1 h3
  have h6:s.drop (i + [c].length)=t:=by
   rw [← List.drop_drop, ← ht];rfl
  have h7:c :: t=s.drop i:=ht
  show s=s.take ((i:Int)).toNat ++ c :: s.drop (((i:Int)).toNat + [c].length)
  rw [Int.toNat_natCast,h6,h7,List.take_append_drop]
theorem strL_app (a b:List UInt8):strL (a ++ b)=strL a ++ strL b:=by
 apply ByteArray.ext
 rw [ByteArray.data_append]
 simp [strL]
theorem strL_inj {a b:List UInt8} (h:strL a=strL b):a=b:=by
 have:=congrArg ByteArray.toList h
 rwa [strL_list,strL_list] at this
theorem pFault_128 {six:Bool} {hi lo:Nat} {bits:Int} (h:pFault six hi lo bits=0):∃ n:Nat,n≤128∧bits=(n:Int):=by
 unfold pFault at h
 by_cases h1:aFault six (hi:Int) (lo:Int) ≠ 0
 ·rw [if_pos h1] at h;cases h
 ·rw [if_neg h1] at h
  by_cases h2:outB bits 0 (lenN six:Nat)=true
  ·rw [if_pos h2] at h;cases h
  ·unfold outB at h2
   have:=lenN_le six
   simp at h2
   exact ⟨bits.toNat,by omega,by omega⟩
def parsePF (s:List UInt8):Option (Bool × Nat × Nat × Nat):=match parseF (Lib.cut s [47]).1 with
 | some (x,h,l) => (match d255 (Lib.cut s [47]).2.1 with
  | some n => if pFault x h l (n:Int)=0 then some (x,h,l,n) else none
  | none => none)
 | none => none
theorem parseF_txt {s:List UInt8} {six:Bool} {hi lo:Nat} (h:parseF s=some (six,hi,lo)):txtA six hi lo=strL s:=by
 unfold parseF at h
 cases hl:looseF s with
 | none => rw [hl] at h;cases h
 | some a =>
   obtain ⟨x,y,z⟩:=a
   rw [hl] at h
   simp only at h
   split at h
   ·rename_i h2
    injection h with h
    injection h with h1 h
    injection h with h2 h3
    subst h1 h2 h3
    assumption
   ·cases h
theorem parseF_ok {s:List UInt8} {six:Bool} {hi lo:Nat} (hs:s.length≤1000000) (h:parseF s=some (six,hi,lo)):U64N hi∧U64N lo∧aFault six (hi:Int) (lo:Int)=0:=by
 unfold parseF at h
 cases hl:looseF s with
 | none => rw [hl] at h;cases h
 | some a =>
   obtain ⟨x,y,z⟩:=a
   rw [hl] at h
   simp only at h
   split at h
   ·injection h with h
    injection h with h1 h
    injection h with h2 h3
    subst h1 h2 h3
    exact looseF_ok hs hl
   ·cases h
theorem parsePF_none {s:List UInt8} (h:parseF (Lib.cut s [47]).1=none):parsePF s=none:=by
 unfold parsePF
 rw [h]
theorem parsePF_prog {s:List UInt8} {x:Bool} {h l:Nat} (hp:parseF (Lib.cut s [47]).1=some (x,h,l)) :
  parsePF s=if numOk (Lib.cut s [47]).2.1 3=true∧pFault x h l (numV (Lib.cut s [47]).2.1)=0 then some (x,h,l,(numV (Lib.cut s [47]).2.1).toNat) else none:=by
 unfold parsePF
 rw [hp]
 generalize (Lib.cut s [47]).2.1=r
 obtain ⟨h1,h2⟩:=numOk_255 r
 by_cases hc:numOk r 3=true∧pFault x h l (numV r)=0
 ·rw [if_pos hc]
  obtain ⟨n,hn,hv⟩:=pFault_128 hc.2
  have:(d255 r).isSome=true:=by
   rw [← h1,hc.1,decide_eq_true (by omega:0≤numV r),decide_eq_true (by omega:numV r≤255)];rfl
  obtain ⟨m,hm⟩:=Option.isSome_iff_exists.1 this
  have h3:=h2 m hm
  have hc2:=hc.2
  rw [h3] at hc2 ⊢
  rw [hm]
  show (if pFault x h l (m:Int)=0 then _ else _)=_
  rw [if_pos hc2,Int.toNat_natCast]
 ·rw [if_neg hc]
  cases hd:d255 r with
  | none => rfl
  | some n =>
    have h3:=h2 n hd
    rw [hd] at h1
    have h4:numOk r 3=true:=by
     revert h1
     cases numOk r 3 <;> simp
    show (if pFault x h l (n:Int)=0 then _ else _)=_
    rw [if_neg fun e => hc ⟨h4,by rw [h3];exact e⟩]
theorem pfxT_strL (x:Bool) (h l n:Nat) (a:List UInt8) (ht:txtA x h l=strL a):pfxT x h l n=strL (a ++ 47 :: Lib.decDigits n):=by
 unfold pfxT
 rw [ht,show a ++ 47 :: Lib.decDigits n=(a ++ [47]) ++ Lib.decDigits n by simp,strL_app,strL_app]
 rfl
theorem parsePF_ref {s:List UInt8} {x:Bool} {h l:Nat} {v:Int} (hp:parseF (Lib.cut s [47]).1=some (x,h,l)) (ha:Lib.atoiAll (Lib.cut s [47]).2.1=.ok v) (hf:pFault x h l v=0) :
  parsePF s=if pfxT x h l v.toNat=strL s then some (x,h,l,v.toNat) else none:=by
 have ht:=parseF_txt hp
 rw [pfxT_strL x h l v.toNat _ ht]
 obtain ⟨n,hn,rfl⟩:=pFault_128 hf
 rw [Int.toNat_natCast]
 unfold parsePF
 rw [hp]
 have hat:=atoi_255 (Lib.cut s [47]).2.1
 have hcut:=cut_one s 47
 generalize (Lib.cut s [47]).1=a at *
 generalize (Lib.cut s [47]).2.1=r at *
 rcases hcut with ⟨h1,h2⟩ | h1
 ·subst h1 h2
  have hd:d255 []=none:=by simp [d255,numL]
  rw [hd,if_neg fun e => by
   have:=congrArg List.length (strL_inj e)
   simp at this]
 ·cases hd:d255 r with
  | none =>
    rw [if_neg fun e => by
     have e2:=strL_inj e
     rw [h1] at e2
     have e3:=List.append_cancel_left e2
     injection e3 with _ e4
     exact hat.2 hd (n:Int) ha (by omega) (by omega) (by rw [Int.toNat_natCast];exact e4)]
  | some m =>
    obtain ⟨g1,g2,g3⟩:=hat.1 m hd
    rw [ha] at g1
    injection g1 with g1
    have g1:n=m:=by omega
    subst g1
    show (if pFault x h l (n:Int)=0 then _ else _)=_
    rw [if_pos hf,if_pos (by rw [g2,h1])]
theorem parsePF_ref_none {s:List UInt8} {x:Bool} {h l:Nat} (hp:parseF (Lib.cut s [47]).1=some (x,h,l)) (ha:∀ v,Lib.atoiAll (Lib.cut s [47]).2.1=.ok v→pFault x h l v ≠ 0):parsePF s=none:=by
 unfold parsePF
 rw [hp]
 have hat:=atoi_255 (Lib.cut s [47]).2.1
 cases hd:d255 (Lib.cut s [47]).2.1 with
 | none => rfl
 | some n =>
   show (if pFault x h l (n:Int)=0 then _ else _)=_
   rw [if_neg (ha n (hat.1 n hd).1)]
def psV:Option (Bool × Nat × Nat × Nat)→Value
 | some (s,h,l,n) => .tuple #[.agg #[.bool s, .int .u64 (h:Int), .int .u64 (l:Int), .int .i64 (n:Int)], .int .i64 0]
 | none => .tuple #[.agg #[.bool false, .int .u64 0, .int .u64 0, .int .i64 0], .int .i64 9]
theorem Blk.set4p {w:World} {B:Nat} {t:TypeId} {x y z u x' y' z' u':Value} (h:Blk w B t #[x,y,z,u]):Blk ((((w.setCell ⟨B,0,none⟩ x').setCell ⟨B,1,none⟩ y').setCell ⟨B,2,none⟩ z').setCell ⟨B,3,none⟩ u') B t #[x',y',z',u'] :=
 Blk.set (Blk.set (Blk.set (Blk.set h 0 x') 1 y') 2 z') 3 u'
def pfBy (p:Pf):ByteArray:=pfxT p.1 p.2.1 p.2.2.1 p.2.2.2.toNat
def pP (s:List UInt8):Option Pf:=match parsePF s with
 | some (x,h,l,n) => some (x,h,l,(n:Int))
 | none => none
theorem pP_u {s:List UInt8} {p:Pf} (hs:s.length≤1000000) (h:pP s=some p):U64N p.2.1∧U64N p.2.2.1:=by
 unfold pP at h
 cases hq:parsePF s with
 | none => rw [hq] at h;cases h
 | some a =>
   obtain ⟨x,y,z,n⟩:=a
   rw [hq] at h
   have h:some (x,y,z,(n:Int))=some p:=h
   injection h with h
   subst h
   unfold parsePF at hq
   cases hf:parseF (Lib.cut s [47]).1 with
   | none => rw [hf] at hq;cases hq
   | some b =>
     obtain ⟨x2,y2,z2⟩:=b
     have h3:=parseF_ok (Nat.le_trans (cut_le s [47]).1 hs) hf
     rw [hf] at hq
     simp only at hq
     split at hq
     ·split at hq
      ·injection hq with hq
       injection hq with e1 hq
       injection hq with e2 hq
       injection hq with e3 e4
       subst e1 e2 e3 e4
       exact ⟨h3.1,h3.2.1⟩
      ·cases hq
     ·cases hq
theorem cut_spl (s:List UInt8) (c:UInt8):(c ∉ s∧Lib.cut s [c]=(s, [],false)∧spl c s=[s]) ∨ (∃ l r,s=l ++ c :: r∧Lib.cut s [c]=(l,r,true)∧spl c s=l :: spl c r):=by
 unfold Lib.cut
 rcases Lib.index_spec s [c] with ⟨h1,h2⟩ | ⟨i,h1,h2,h3,h4⟩
 ·left
  have hm:c ∉ s:=fun hc => by
   obtain ⟨j,hj,e⟩:=List.getElem_of_mem hc
   have h5:=h2 j (Nat.le_of_lt hj)
   unfold Lib.occAt at h5
   rw [List.drop_eq_getElem_cons hj,e] at h5
   simp [List.isPrefixOf] at h5
  refine ⟨hm,by rw [h1];rfl,spl_none (by simpa using hm)⟩
 ·right
  unfold Lib.occAt at h3
  obtain ⟨t,ht⟩:=List.isPrefixOf_iff_prefix.1 h3
  have h7:c :: t=s.drop i:=ht
  have h6:s.drop (i + [c].length)=t:=by
   rw [← List.drop_drop, ← h7];rfl
  have hs:s=s.take i ++ c :: t:=by rw [h7,List.take_append_drop]
  have hn:c ∉ s.take i:=fun hc => by
   obtain ⟨j,hj,e⟩:=List.getElem_of_mem hc
   have hjl:j < i∧j < s.length:=by rw [List.length_take] at hj;omega
   have h5:=h4 j hjl.1
   unfold Lib.occAt at h5
   rw [List.getElem_take] at e
   rw [List.drop_eq_getElem_cons hjl.2,e] at h5
   simp [List.isPrefixOf] at h5
  refine ⟨s.take i,t,hs,by rw [h1,if_pos (by omega)];show (s.take ((i:Int)).toNat,s.drop (((i:Int)).toNat + [c].length),true)=_;rw [Int.toNat_natCast,h6],?_⟩
  have key:∀ (a:List UInt8),c ∉ a→spl c (a ++ c :: t)=a :: spl c t:=by
   intro a
   induction a with
   | nil => intro _;simp [spl]
   | cons x a ih =>
     intro ha
     have hx:¬ x=c:=fun e => ha (by rw [e];exact List.mem_cons_self ..)
     have h8:=ih fun h => ha (List.mem_cons_of_mem _ h)
     show (if x=c then [] :: spl c (a ++ c :: t) else match spl c (a ++ c :: t) with
      | p :: ps => (x :: p) :: ps
      | [] => [[x]])=_
     rw [if_neg hx,h8]
  rw [hs]
  have e:(s.take i ++ c :: t).take i=s.take i:=by rw [← hs]
  rw [e]
  exact key _ hn
def sumL (A:List (List UInt8)):Nat:=(A.map fun l => l.length + 1).sum
theorem sumL_cons (l:List UInt8) (A:List (List UInt8)):sumL (l :: A)=l.length + 1 + sumL A:=by
 unfold sumL
 rw [List.map_cons,List.sum_cons]
theorem spl_sum (c:UInt8):∀ s,sumL (spl c s)=s.length + 1
 | [] => rfl
 | x :: l => by
   have ih:=spl_sum c l
   simp only [spl]
   by_cases h:x=c
   ·rw [if_pos h,sumL_cons,ih];simp;omega
   ·rw [if_neg h]
    cases e:spl c l with
    | nil => exact absurd e (spl_ne c l)
    | cons p ps =>
      rw [e,sumL_cons] at ih
      simp only
      rw [sumL_cons,List.length_cons,List.length_cons]
      omega
theorem sumL_drop {A:List (List UInt8)} {k:Nat} {x:List UInt8} (h:A[k]?=some x):sumL (A.drop k)=x.length + 1 + sumL (A.drop (k + 1)):=by
 obtain ⟨hk,rfl⟩:=List.getElem?_eq_some_iff.1 h
 rw [List.drop_eq_getElem_cons hk,sumL_cons]
theorem pP_nil:pP []=none:=by
 cases h:pP [] with
 | none => rfl
 | some p =>
   exfalso
   unfold pP parsePF at h
   have e:(Lib.cut [] [47]).1=([]:List UInt8):=rfl
   rw [e] at h
   have e2:parseF []=none:=rfl
   rw [e2] at h
   cases h
theorem pP_pos {x:List UInt8} {p:Pf} (h:pP x=some p):1≤x.length:=by
 cases x with
 | nil => rw [pP_nil] at h;cases h
 | cons a l => simp
theorem ok_block {x n:Nat} (hv:VN x) (hn:n≤LN x) (hd:2 ^ (LN x - n) ∣ x):OkPf (pfOf (x,n))∧nuP (pfOf (x,n))=x∧spP (pfOf (x,n))=(x,x + (2 ^ (LN x - n) - 1)):=by
 have ha:=ok_aN hv
 have hln:n≤lenN (sixN x):=by rw [← LN_six];exact hn
 have hc:clr x (LN x - n)=x:=clr_dvd.2 hd
 have hm:=mask_num (n:=n) ha
 rw [num_aN hv, ← LN_six,hc] at hm
 have h1:=aN_num (mask_aok ha hln)
 rw [hm] at h1
 have hnu:nuP (pfOf (x,n))=x:=num_aN hv
 have hP:POK (sixN x) (hiN x) (loN x) n:=⟨ha,hln,h1.2.2.1.symm,h1.2.2.2.symm⟩
 refine ⟨⟨rfl,hP⟩,hnu,?_⟩
 unfold spP
 rw [hnu]
 show (x,fil x (LN x - n))=_
 rw [fil_of hd]
theorem mem_allB {S:List Sp} (hv:∀ p ∈ S,VR p) {c:Nat × Nat} (hc:c ∈ allB S):VN c.1∧c.2≤LN c.1∧2 ^ (LN c.1 - c.2) ∣ c.1∧∃ p ∈ S,LN c.1=LN p.1∧p.1≤c.1∧c.1 + (2 ^ (LN c.1 - c.2) - 1)≤p.2:=by
 obtain ⟨p,hp,hc⟩:=List.mem_flatMap.1 hc
 obtain ⟨h1,h2,h3⟩:=(blks_ok (LN p.1) p.1 p.2).each c hc
 obtain ⟨v,l,s⟩:=blk_vn (hv p hp) h1 h2
 refine ⟨v,?_,?_,p,hp,l,h1,?_⟩
 ·rw [l];exact h3.le
 ·rw [l];exact h3.dvd
 ·rw [l];exact h3.fits
theorem okPf_pfs {S:List Sp} (hv:∀ p ∈ S,VR p):∀ q ∈ pfs S,OkPf q:=fun q hq => by
 obtain ⟨c,hc,rfl⟩:=List.mem_map.1 hq
 obtain ⟨a,b,d,_⟩:=mem_allB hv hc
 exact (ok_block a b d).1
def spn (L:List Pf):List Sp:=jn (L.map spP)
theorem spn_vr {L:List Pf} (hv:∀ p ∈ L,OkPf p):∀ p ∈ spn L,VR p:=sps_vr hv
theorem ok_append {A B:List Pf} (hA:∀ p ∈ A,OkPf p) (hB:∀ p ∈ B,OkPf p):∀ p ∈ A ++ B,OkPf p:=fun p hp => (List.mem_append.1 hp).elim (hA p) (hB p)
def gapsF (top:Nat):List Sp→Nat→List Sp
 | [],x => if x≤top then [(x,top)] else []
 | r :: S,x => (if x < r.1 then [(x,r.1 - 1)] else []) ++ gapsF top S (r.2 + 1)
def fam (six:Bool) (S:List Sp):List Sp:=S.filter fun p => sixN p.1 == six
def loF (six:Bool):Nat:=if six=true then 2 ^ 128 else 0
def topF (six:Bool):Nat:=if six=true then 2 ^ 129 - 1 else 2 ^ 32 - 1
def gapsOf (six:Bool) (S:List Sp):List Sp:=gapsF (topF six) (fam six S) (loF six)
def gaps (S:List Sp):List Sp:=gapsOf false S ++ gapsOf true S
def both:List Sp→List Sp→List Sp
 | [],_ => []
 | _ :: _, [] => []
 | p :: A,q :: B => (if max p.1 q.1≤min p.2 q.2 then [(max p.1 q.1,min p.2 q.2)] else []) ++ if p.2 < q.2 then both A (q :: B) else both (p :: A) B
termination_by A B => A.length + B.length
theorem ok_lst {a:List Pf} (ha:∀ p ∈ a,OkPf p):∀ p ∈ lst a,OkPf p:=okPf_pfs (spn_vr ha)
end Go.Proofs.YtdhldhkhpndpjaaGreatDoor
