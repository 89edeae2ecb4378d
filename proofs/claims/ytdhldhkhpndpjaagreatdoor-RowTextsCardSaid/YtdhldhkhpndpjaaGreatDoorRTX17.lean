/-
  isAll: whether ports are all ports.
  wide.plus of the reference, at 1: the next number.
  The reference's wide numbers, said of one number: of, firstOf, lastOf, addr, cmp, ==.
  The reference's joined: spans of wide numbers in order, put together where they touch.
  A span of two wide numbers, built; a row of one such span.
  The reference's prefixes: the greedy blocks of spans of wide numbers.
  The reference's spansOf: the spans of prefixes, joined.
  The reference's LeastOf and SpanOf.
-/
import Derived.Test.YtdhldhkhpndpjaaGreatDoorRTX16
import Derived.Test.YtdhldhkhpndpjaaGreatDoorRTX6
import Derived.Test.YtdhldhkhpndpjaaGreatDoorRTX3
import Derived.Test.YtdhldhkhpndpjaaGreatDoorRTX10
set_option linter.unusedVariables false
set_option maxRecDepth 100000
set_option maxHeartbeats 8000000
namespace Go.Proofs.YtdhldhkhpndpjaaGreatDoor
open Go.RowKit Go
theorem rdP_of {w:World} {ad:Option Addr} {L:List (Int × Int)} (h:RdK layPo w ad L) (hl:L.length≤1000):RdP w ad L :=
 ⟨hl,fun i hi => by
  obtain ⟨g,o,e,hg,h0,h1⟩:=h.po (k:=i) (p:=L.getD i (0,0)) (by rw [List.getElem?_eq_getElem hi,List.getD,List.getElem?_eq_getElem hi];rfl)
  exact ⟨g,o,e,hg,h0,h1⟩⟩
theorem isAll_any (ad:Option Addr) (n c:Nat) (L:List (Int × Int)) (w:World) (h:RdK layPo w ad L) (hn:L.length=n) (hs:n≤1000000) :
  Calls Tryz.prog 184 #[.slice ad n c] w (Ret (.bool (decide (L=[(0,65535)]))) w):=by
 rcases L with _ | ⟨⟨p1,p2⟩,_ | ⟨q,L⟩⟩
 ·have hne:¬ (n:Int)=1:=by simp at hn;omega
  have HD:Hid (decide (([]:List (Int × Int))=[(0,65535)])=false):=Lib.hid (by decide)
  rw [HD.out]
  clear h HD
  go_enter Tryz.func184,Tryz.ntmps184
  go_wp2_with fail
  go_ret
  exact ⟨by first | rfl | simp,Below.refl _ _⟩
 ·obtain ⟨g,o,had,hg,c0,c1⟩:=h.po (k:=0) (p:=(p1,p2)) rfl
  have hne:n=1:=by simpa using hn.symm
  have HD:Hid (decide ([(p1,p2)]=[((0:Int),(65535:Int))])=(decide (p1=0) && decide (p2=65535))):=Lib.hid (by rw [Bool.eq_iff_iff];simp)
  rw [HD.out]
  subst hne had
  simp at c0 c1
  clear h hn HD hg
  go_enter Tryz.func184,Tryz.ntmps184
  go_wp2_with fail
  all_goals (go_ret;exact ⟨by simp [*],Below.refl _ _⟩)
 ·have hne:¬ (n:Int)=1:=by simp at hn;omega
  have HD:Hid (decide (((p1,p2) :: q :: L:List (Int × Int))=[(0,65535)])=false):=Lib.hid (by simp)
  rw [HD.out]
  clear h HD
  go_enter Tryz.func184,Tryz.ntmps184
  go_wp2_with fail
  go_ret
  exact ⟨by first | rfl | simp,Below.refl _ _⟩
def carN (x k:Nat):Nat:=(x % 65536 ^ k + 1) / 65536 ^ k
theorem carN_zero (x:Nat):carN x 0=1:=by simp [carN,Nat.mod_one]
theorem carN_le (x k:Nat):carN x k≤1:=by
 unfold carN
 have hp:0 < 65536 ^ k:=Nat.pow_pos (by decide)
 have h:=Nat.mod_lt x hp
 have:(x % 65536 ^ k + 1) / 65536 ^ k≤65536 ^ k / 65536 ^ k:=Nat.div_le_div_right (by omega)
 rwa [Nat.div_self hp] at this
theorem carN_dig (x k:Nat):digN (x + 1) k=(carN x k + digN x k) % 65536:=by
 have hp:0 < 65536 ^ k:=Nat.pow_pos (by decide)
 unfold digN carN
 have e:x + 1=(x % 65536 ^ k + 1) + 65536 ^ k * (x / 65536 ^ k):=by have:=Nat.mod_add_div x (65536 ^ k);omega
 rw [e,Nat.add_mul_div_left _ _ hp,Nat.add_mod,Nat.add_mod ((x % 65536 ^ k + 1) / 65536 ^ k) (x / 65536 ^ k % 65536),Nat.mod_mod]
theorem carN_succ (x k:Nat):carN x (k + 1)=(carN x k + digN x k) / 65536:=by
 have hp:0 < 65536 ^ k:=Nat.pow_pos (by decide)
 unfold carN digN
 rw [Nat.mod_pow_succ,Nat.pow_succ, ← Nat.div_div_eq_div_mul,show x % 65536 ^ k + 65536 ^ k * (x / 65536 ^ k % 65536) + 1=x % 65536 ^ k + 1 + 65536 ^ k * (x / 65536 ^ k % 65536) by omega,Nat.add_mul_div_left _ _ hp]
def mixD (x k:Nat) (j:Nat):Nat:=if j < k then digN (x + 1) j else digN x j
theorem wd_set (f:Nat→Nat) (d:Nat) (h:d < 9) (v:Nat):(wd f).setIfInBounds d (.int .i64 (v:Int))=wd (fun j => if j=d then v else f j):=by
 have:d=0 ∨ d=1 ∨ d=2 ∨ d=3 ∨ d=4 ∨ d=5 ∨ d=6 ∨ d=7 ∨ d=8:=by omega
 rcases this with rfl | rfl | rfl | rfl | rfl | rfl | rfl | rfl | rfl <;> rfl
theorem wd_one (f:Nat→Nat):(wd f).all (·.oneCell')=true:=by simp [wd,Value.oneCell']
theorem mix_step (x k:Nat) (h:k < 9):(wd (mixD x k)).setIfInBounds k (.int .i64 (((carN x k + digN x k) % 65536:Nat):Int))=wd (mixD x (k + 1)):=by
 rw [wd_set _ _ h]
 refine wd_congr fun d _ => ?_
 unfold mixD
 by_cases h1:d=k
 ·subst h1;rw [if_pos rfl,if_pos (by omega),carN_dig]
 ·rw [if_neg h1]
  by_cases h2:d < k
  ·rw [if_pos h2,if_pos (by omega)]
  ·rw [if_neg h2,if_neg (by omega)]
theorem i64_and65535 (n:Nat):bits .and .i64 (n:Int) 65535=((n % 65536:Nat):Int):=by
 have h127:(BitVec.ofInt 64 65535).toNat=2 ^ 16 - 1:=by decide
 have key:(BitVec.ofInt 64 (n:Int) &&& BitVec.ofInt 64 65535).toNat=n % 65536:=by
  rw [BitVec.toNat_and,BitVec.toNat_ofInt,h127,Nat.and_two_pow_sub_one_eq_mod]
  omega
 show IntKind.i64.wrap ((BitVec.ofInt 64 (n:Int) &&& BitVec.ofInt 64 65535).toNat:Nat)=_
 rw [key,IntKind.wrap_i64]
 omega
theorem plusN (x:Nat) (w:World):Calls Tryz.prog 94 #[.agg (wN x), .int .i64 1] w (Ret (.agg (wN (x + 1))) w):=by
 have HZ:Hid (mixD x 9=mixD x 9∧wd (mixD x 9)=wN (x + 1)):=Lib.hid ⟨rfl,wd_congr fun d hd => by unfold mixD;rw [if_pos hd]⟩
 have H0:Hid (wN x=wd (mixD x 0)):=Lib.hid (wd_congr fun d _ => by unfold mixD;rw [if_neg (by omega)])
 rw [H0.out]
 have HP':Blk ((w.alloc (.cells (wd (mixD x 0)) 121 (0,0))).alloc (.cells #[.int .i64 0, .int .i64 0, .int .i64 0, .int .i64 0, .int .i64 0, .int .i64 0, .int .i64 0, .int .i64 0, .int .i64 0] 121 (0,0))) (w.heap.size) 121 (wd (mixD x 0)):=(Blk.new w _ _).alloc _
 have HR':Blk ((w.alloc (.cells (wd (mixD x 0)) 121 (0,0))).alloc (.cells #[.int .i64 0, .int .i64 0, .int .i64 0, .int .i64 0, .int .i64 0, .int .i64 0, .int .i64 0, .int .i64 0, .int .i64 0] 121 (0,0))) (w.heap.size + 1) 121 #[.int .i64 0, .int .i64 0, .int .i64 0, .int .i64 0, .int .i64 0, .int .i64 0, .int .i64 0, .int .i64 0, .int .i64 0]:=by
  have this:=Blk.new (w.alloc (.cells (wd (mixD x 0)) 121 (0,0))) 121 #[.int .i64 0, .int .i64 0, .int .i64 0, .int .i64 0, .int .i64 0, .int .i64 0, .int .i64 0, .int .i64 0, .int .i64 0]
  rw [World.size_alloc] at this
  exact this
 have HP:=Lib.hid HP'
 have HR:=Lib.hid HR'
 have HB:Hid (Below w.heap.size w ((w.alloc (.cells (wd (mixD x 0)) 121 (0,0))).alloc (.cells #[.int .i64 0, .int .i64 0, .int .i64 0, .int .i64 0, .int .i64 0, .int .i64 0, .int .i64 0, .int .i64 0, .int .i64 0] 121 (0,0)))):=Lib.hid (below_alloc (below_alloc (Below.refl _ _) _) _)
 clear HP' HR'
 have hsz:=Tryz.sizeOf121
 have Hc0:=Lib.hid (carN_zero x)
 go_enter Tryz.func94,Tryz.ntmps94
 go_upto_region 1 with fail
 generalize ((w.alloc (.cells (wd (mixD x 0)) 121 (0,0))).alloc (.cells #[.int .i64 0, .int .i64 0, .int .i64 0, .int .i64 0, .int .i64 0, .int .i64 0, .int .i64 0, .int .i64 0, .int .i64 0] 121 (0,0)))=w1 at *
 go_wp2_with fail
 go_loopw [1,5,6] (fun nv iv i wr => ∃ k:Nat,k≤9∧i=.int .i64 (k:Int)∧nv=.int .i64 ((carN x k:Nat):Int)∧Hid (Blk wr w.heap.size 121 (wd (mixD x k)))∧Hid (Blk wr (w.heap.size + 1) 121 #[.int .i64 0, .int .i64 0, .int .i64 0, .int .i64 0, .int .i64 0, .int .i64 0, .int .i64 0, .int .i64 0, .int .i64 0])∧Hid (Below w.heap.size w wr)) (fun _ _ i _ => 9 - (intOf i).toNat)
 case atStart => exact ⟨0,by omega,rfl,by rw [Hc0.out];rfl,HP,HR,HB⟩
 case round =>
  clear HP HR HB
  obtain ⟨k,hk,rfl,rfl,HP,HR,HB⟩:=hrel
  by_cases hlt:k < 9
  ·have hc:=carN_le x k
   have hd:=digN_lt x k
   have hcell:wr.cell? ⟨w.heap.size,k,none⟩=some (.int .i64 ((digN x k:Nat):Int)):=by
    rw [HP.out.cell k,wd_get _ _ hlt]
    unfold mixD
    rw [if_neg (Nat.lt_irrefl k)]
   have hfr:=HP.out.free k
   have HP2:Hid (Blk (wr.setCell ⟨w.heap.size,k,none⟩ (.int .i64 (((carN x k + digN x k) % 65536:Nat):Int))) w.heap.size 121 (wd (mixD x (k + 1)))):=Lib.hid (by
    rw [← mix_step x k hlt]
    exact HP.out.set k _)
   have HR2:Hid (Blk (wr.setCell ⟨w.heap.size,k,none⟩ (.int .i64 (((carN x k + digN x k) % 65536:Nat):Int))) (w.heap.size + 1) 121 #[.int .i64 0, .int .i64 0, .int .i64 0, .int .i64 0, .int .i64 0, .int .i64 0, .int .i64 0, .int .i64 0, .int .i64 0]):=Lib.hid (HR.out.far (by omega) _ _)
   have HB2:Hid (Below w.heap.size w (wr.setCell ⟨w.heap.size,k,none⟩ (.int .i64 (((carN x k + digN x k) % 65536:Nat):Int)))):=Lib.hid (below_set HB.out (Nat.le_refl _) _ _)
   have Hs:=Lib.hid (carN_succ x k)
   clear HP HR HB
   generalize carN x k=c1 at *
   generalize digN x k=d1 at *
   obtain ⟨s,hs⟩:∃ s,c1 + d1=s:=⟨_,rfl⟩
   have hs2:(c1:Int) + (d1:Int)=(s:Int):=by omega
   have hs3:s≤65536:=by omega
   rw [hs] at HP2 HR2 HB2 Hs
   have ha:=i64_and65535 s
   have b1:(0:Int)≤(k:Int):=by omega
   have b2:(k:Int) < 9:=by omega
   clear hs hc hd
   go_wp2_with fail
   exact ⟨⟨k + 1,by omega,by go_num,by rw [Hs.out];exact congrArg _ (by omega),HP2,HR2,HB2⟩,by simp [intOf];omega⟩
  ·obtain rfl:k=9:=by omega
   rw [← HZ.out.2]
   go_wp2_with (first | refine wpList_load_row rfl 121 (.tmp 2) rfl w.heap.size rfl 121 (wd (mixD x 9)) (0,0) _ HP.out Tryz.underlying121 rfl (by kernel_rfl) ?_ | refine wpList_store_row rfl 121 (.tmp 4) (.tmp 21) rfl (w.heap.size + 1) (wd (mixD x 9)) rfl rfl 121 #[.int .i64 0, .int .i64 0, .int .i64 0, .int .i64 0, .int .i64 0, .int .i64 0, .int .i64 0, .int .i64 0, .int .i64 0] HR.out (by kernel_rfl) rfl (wd_one _) ?_)
   refine bodyPost_ret (v:=.agg (wd (mixD x 9))) (results_cell_row Tryz.results94 _ _ (w.heap.size + 1) 121 (wd (mixD x 9)) (0,0) _ rfl (HR.out.row _) Tryz.underlying121 rfl (by kernel_rfl)) rfl ⟨by rw [HZ.out.2],belowRow HB.out (by omega) _⟩
theorem ofN {x:Nat} (w:World) (hx:VN x):Calls Tryz.prog 93 #[.agg (aN x)] w (Ret (.agg (wN x)) w):=by
 have:=of_any (sixN x) (hiN x) (loN x) w (hiN_u x) (loN_u x)
 rw [wCells_wv, ← wN_aN hx] at this
 exact this
theorem firstOfN {x n:Nat} (w:World) (hx:VN x) (hn:n≤LN x):Calls Tryz.prog 155 #[.agg (aN x), .int .i64 (n:Int)] w (Ret (.agg (wN (clr x (LN x - n)))) w):=by
 have hl:=lenN_le (sixN x)
 rw [LN_six] at hn
 have:=firstOf_any (sixN x) (hiN x) (loN x) (n:Int) (lenN (sixN x) - n) w (hiN_u x) (loN_u x) (by omega) (by omega) (by omega)
 rw [clr_wN (ok_aN hx),num_aN hx, ← LN_six] at this
 exact this
theorem lastOfN {x n:Nat} (w:World) (hx:VN x) (hn:n≤LN x):Calls Tryz.prog 231 #[.agg (pN x (n:Int))] w (Ret (.agg (wN (fil x (LN x - n)))) w):=by
 have hl:=lenN_le (sixN x)
 rw [LN_six] at hn
 have:=lastOf_any (sixN x) (hiN x) (loN x) (n:Int) (lenN (sixN x) - n) w (hiN_u x) (loN_u x) (by omega) (by omega) (by omega)
 rw [fil_wN (ok_aN hx),num_aN hx, ← LN_six] at this
 exact this
theorem wideAddrN {x:Nat} (w:World) (hx:VN x):Calls Tryz.prog 95 #[.agg (wN x)] w (Ret (.agg (aN x)) w):=by
 have:=wideAddr_any (sixN x) (dg (hiN x) (loN x)) w (dg_lt _ _)
 rw [PS_dg_hi _ _ (hiN_u x),PS_dg_lo _ _ (loN_u x), ← wN_aN hx] at this
 exact this
theorem wideCmpN {x y:Nat} (w:World) (hx:x < 65536 ^ 9) (hy:y < 65536 ^ 9):Calls Tryz.prog 230 #[.agg (wN x), .agg (wN y)] w (Ret (.int .i64 (cN x y)) w):=by
 have:=wideCmpD_any (digN x) (digN y) w (digN_lt x) (digN_lt y)
 rw [PW_all hx,PW_all hy] at this
 exact this.mono fun _ _ h => h.ret
def wdl (f:Nat→Nat):List Int:=[((f 0:Nat):Int),((f 1:Nat):Int),((f 2:Nat):Int),((f 3:Nat):Int),((f 4:Nat):Int),((f 5:Nat):Int),((f 6:Nat):Int),((f 7:Nat):Int),((f 8:Nat):Int)]
theorem wd_ivs (f:Nat→Nat):wd f=ivs (wdl f):=rfl
theorem wd_eq (f g:Nat→Nat) (w:World):(Op.equalIn 10000 121 (.agg (wd f)) (.agg (wd g))).run Tryz.prog w=.ok (decide (wdl f=wdl g)) w:=by
 obtain ⟨i,hi⟩:∃ i,Tryz.prog.info? 3=some i:=Option.isSome_iff_exists.1 (by kernel_rfl)
 have hu:Tryz.prog.underlying 121=some (.array 9 3):=by kernel_rfl
 have hc:Tryz.prog.cellsOf 3=1:=by kernel_rfl
 rw [wd_ivs,wd_ivs,show (10000:Nat)=9999 + 1 from rfl,run_equalIn_array (P:=Tryz.prog) w 9999 (t:=121) _ _ hu hi,hc,items_int _ _ w (List.range 9) (fun i h => by have:=List.mem_range.1 h;simp [wdl];omega)]
 congr 1
 rw [decide_eq_decide]
 constructor
 ·intro h
  exact List.ext_getElem (by rfl) fun i h1 h2 => by
   have:=h i (List.mem_range.2 h1)
   simpa [List.getD,h1,h2] using this
 ·intro h i _
  rw [h]
theorem wdl_inj {x y:Nat} (hx:x < 65536 ^ 9) (hy:y < 65536 ^ 9):wdl (digN x)=wdl (digN y) ↔ x=y:=by
 constructor
 ·intro h
  refine wN_inj hx hy fun d hd => ?_
  unfold wdl at h
  simp only [List.cons.injEq] at h
  obtain ⟨a0,a1,a2,a3,a4,a5,a6,a7,a8,_⟩:=h
  have:d=0 ∨ d=1 ∨ d=2 ∨ d=3 ∨ d=4 ∨ d=5 ∨ d=6 ∨ d=7 ∨ d=8:=by omega
  rcases this with rfl | rfl | rfl | rfl | rfl | rfl | rfl | rfl | rfl <;> omega
 ·rintro rfl;rfl
theorem wN_eql {x y:Nat} (hx:x < 65536 ^ 9) (hy:y < 65536 ^ 9) (w:World):(binOp .eql 121 (.agg (wN x)) (.agg (wN y))).run Tryz.prog w=.ok (.bool (decide (x=y))) w:=by
 unfold wN
 rw [run_eql_struct,wd_eq,decide_eq_decide.2 (wdl_inj hx hy)]
 rfl
theorem wN_neq {x y:Nat} (hx:x < 65536 ^ 9) (hy:y < 65536 ^ 9) (w:World):(binOp .neq 121 (.agg (wN x)) (.agg (wN y))).run Tryz.prog w=.ok (.bool (!decide (x=y))) w:=by
 unfold wN
 rw [run_neq_struct,wd_eq,decide_eq_decide.2 (wdl_inj hx hy)]
 rfl
theorem VN.lt10 {x:Nat} (h:VN x):x < 65536 ^ 9∧x + 1 < 65536 ^ 9:=by have:=h.lt9;omega
theorem RdK.qs {w:World} {ad:Option Addr} {L:List Sp} (h:RdK layQs w ad L) {k:Nat} {p:Sp} (hp:L[k]?=some p) :
  ∃ g o,ad=some ⟨g,o,none⟩∧g < w.heap.size∧∀ j v,(layQs.enc p)[j]?=some v→w.cell? ⟨g,o + k * 18 + j,none⟩=some v:=by
 obtain ⟨g,o,e,hg,h0⟩:=h k p hp
 refine ⟨g,o,e,hg,fun j v hv => ?_⟩
 rw [Nat.add_assoc]
 exact h0 j v hv
theorem OwnK.qs {w:World} {B g n c:Nat} {L:List Sp} (h:OwnK layQs w B (.slice (some ⟨g,0,none⟩) n c) L) {k:Nat} {p:Sp} (hp:L[k]?=some p) :
  ∀ j v,(layQs.enc p)[j]?=some v→w.cell? ⟨g,k * 18 + j,none⟩=some v:=fun j v hv => h.get (E:=layQs) hp hv
theorem srt_keyQ {S:List Sp} (hv:∀ p ∈ S,VR p) (h:S.Pairwise (fun p q => keyQs p≤keyQs q)):Srt S:=by
 refine List.Pairwise.imp_of_mem (fun {a b} ha hb h => ?_) h
 rw [(hv a ha).key.2,(hv b hb).key.2] at h
 exact h
def setsAt (l:List Value):Nat→List Value→List Value
 | _, [] => l
 | j,v :: vs => setsAt (l.set j v) (j + 1) vs
theorem flat_sets (K i:Nat):∀ (vs:List Value) (LL:List (List Value)) (j:Nat) (z:List Value),(∀ l ∈ LL,l.length=K)→LL[i]?=some z→j + vs.length≤K→setsAt LL.flatten (i * K + j) vs=(LL.set i (setsAt z j vs)).flatten
 | [],LL,j,z,hk,hz,hj => by
   show LL.flatten=(LL.set i z).flatten
   congr 1
   obtain ⟨hi,e⟩:=List.getElem?_eq_some_iff.1 hz
   subst e
   exact (List.set_getElem_self hi).symm
 | v :: vs,LL,j,z,hk,hz,hj => by
   have hi:=(List.getElem?_eq_some_iff.1 hz).1
   have hzl:z.length=K:=hk z (List.mem_of_getElem? hz)
   simp only [List.length_cons] at hj
   show setsAt (LL.flatten.set (i * K + j) v) (i * K + j + 1) vs=(LL.set i (setsAt (z.set j v) (j + 1) vs)).flatten
   rw [flat_set K LL i j z v hk hz (by omega),Nat.add_assoc,flat_sets K i vs (LL.set i (z.set j v)) (j + 1) (z.set j v) (fun l hl => by
    rcases List.mem_or_eq_of_mem_set hl with h1 | rfl
    ·exact hk l h1
    ·rw [List.length_set];exact hzl) (by simp [hi]) (by omega),List.set_set]
def setCs (w:World) (g:Nat):Nat→List Value→World
 | _, [] => w
 | j,v :: vs => setCs (w.setCell ⟨g,j,none⟩ v) g (j + 1) vs
theorem raw_sets {B ty K g n c:Nat}:∀ (vs:List Value) (w:World) (t:Nat) (xs:List Value),w.ownsRow B ty K (.slice (some ⟨g,0,none⟩) n c) n xs→(setCs w g t vs).ownsRow B ty K (.slice (some ⟨g,0,none⟩) n c) n (setsAt xs t vs)
 | [],w,t,xs,h => h
 | v :: vs,w,t,xs,h => raw_sets vs _ _ _ (raw_set h t v)
theorem OwnK.sets {α:Type} {E:Lay α} {w:World} {B g n c:Nat} {L:List α} (h:OwnK E w B (.slice (some ⟨g,0,none⟩) n c) L) {i j:Nat} {x y:α} (vs:List Value) (hx:L[i]?=some x) (hj:j + vs.length≤E.K) (hy:E.enc y=setsAt (E.enc x) j vs) :
  OwnK E (setCs w g (i * E.K + j) vs) B (.slice (some ⟨g,0,none⟩) n c) (L.set i y):=by
 obtain ⟨rfl,_⟩:=h.block
 have:=raw_sets vs w (i * E.K + j) _ h
 rw [E.all_flat,flat_sets E.K i vs (L.map E.enc) j (E.enc x) (fun l hl => by obtain ⟨z,_,rfl⟩:=List.mem_map.1 hl;exact E.len z) (by rw [List.getElem?_map,hx];rfl) hj, ← hy, ← List.map_set, ← E.all_flat] at this
 show World.ownsRow _ _ _ _ _ _ _
 rw [List.length_set]
 exact this
theorem below_setCs {B:Nat} {u:World} {g:Nat} (hg:B≤g):∀ (vs:List Value) (w:World) (t:Nat),Below B u w→Below B u (setCs w g t vs)
 | [],w,t,h => h
 | v :: vs,w,t,h => below_setCs hg vs _ _ (Below.setCell (p:=⟨g,t,none⟩) h hg v)
theorem dig8 {x:Nat} (h:VN x):digN x 8=if sixN x=true then 1 else 0:=by
 have e:(65536:Nat) ^ 8=2 ^ 128:=by decide
 unfold digN
 rw [e]
 rcases h.cases with ⟨a,_,_,d⟩ | ⟨a,b,c,d⟩
 ·rw [a,if_neg (by simp),Nat.div_eq_of_lt (Nat.lt_trans d (by decide))]
 ·have h1:2 ^ 128≤x:=by omega
  have h2:x < 2 ^ 129:=by rcases h with h | h <;> omega
  have:x / 2 ^ 128=1:=by
   rw [Nat.div_eq_iff (by decide)]
   have e2:(2:Nat) ^ 129=2 ^ 128 + 2 ^ 128:=by decide
   omega
  rw [a,if_pos rfl,this]
theorem dig8_eq {x y:Nat} (hx:VN x) (hy:VN y):digN x 8=digN y 8 ↔ sixN x=sixN y:=by
 rw [dig8 hx,dig8 hy]
 cases sixN x <;> cases sixN y <;> simp
theorem far_six {p q:Sp} (hp:VR p) (hq:VR q) (hpq:p.1≤q.1) (h:sixN p.1 ≠ sixN q.1):¬ q.1≤p.2 + 1:=by
 have:=touch_num hp hq hpq
 rw [if_neg h] at this
 exact of_decide_eq_false this
theorem setsAt_wd (f g h:Nat→Nat):setsAt ((wd f).toList ++ (wd g).toList) 9 (wd h).toList=(wd f).toList ++ (wd h).toList:=rfl
theorem setCs_eq (g:Nat):∀ (vs:List Value) (w:World) (t:Nat),setCs w g t vs=w.setCells g t vs
 | [],_,_ => rfl
 | v :: vs,w,t => setCs_eq g vs _ _
theorem qjoined_any (ad:Option Addr) (n c:Nat) (L:List Sp) (w:World) (h:RdK layQs w ad L) (hn:L.length=n) (hs:n≤100000) (hv:∀ p ∈ L,VR p) :
  Calls Tryz.prog 236 #[.slice ad n c] w fun e w' => ∃ v,e=.returned v∧OwnK layQs w' w.heap.size v (jn L)∧Below w.heap.size w w':=by
 obtain ⟨R,hR⟩:∃ R,jn L=R:=⟨_,rfl⟩
 have HR:Hid (∀ S:List Sp,S.Perm L→Srt S→S.foldl stp []=R):=Lib.hid fun S hp hso => by
  rw [← hR];exact jn_of hp hso fun p hp => (hv p hp).le
 rw [hR]
 have Hv:=Lib.hid hv
 have H0:=Lib.hid h
 have Hn:=Lib.hid hn
 clear h hn hv hR
 go_enter Tryz.func236,Tryz.ntmps236
 go_wp2_with fail
 refine (clone_qs ad n c L w H0.out Hn.out (by omega)).mono ?_
 rintro e w1 ⟨v,rfl,hO,hB⟩
 obtain ⟨ad1,c1,hv1,_,_,_⟩:=hO.form
 rw [Hn.out] at hv1
 subst hv1
 have HO1:=Lib.hid hO
 have HB1:=Lib.hid hB
 clear hO hB
 go_wp2_with fail
 refine (sortQs_any w.heap.size n c1 ad1 L w1 HO1.out Hn.out (by omega) HB1.out.size).mono ?_
 rintro e w2 ⟨rfl,S,hp,hso,hO2,hB2⟩
 have hSv:∀ p ∈ S,VR p:=fun p h => Hv.out p (hp.mem_iff.1 h)
 have hSs:=srt_keyQ hSv hso
 have HS:Hid (S.foldl stp []=R):=Lib.hid (HR.out S hp hSs)
 have Hsl:Hid (S.length=n):=Lib.hid (hp.length_eq.trans Hn.out)
 have HSv:=Lib.hid hSv
 have HVt:=Lib.hid (vr_take hSs hSv)
 have HR2:Hid (RdK layQs w2 ad1 S):=Lib.hid hO2.rd
 have HB2:Hid (Below w.heap.size w w2):=Lib.hid (HB1.out.trans hB2)
 clear hp hso hO2 hB2 HO1 HB1 HR Hv Hn hSv hSs H0
 go_wp2_with fail
 go_loopw [3,5,6,13] (fun out bx nn i wr => ∃ (k:Nat) (A:List Sp),k≤n∧i=.int .i64 k∧Hid ((S.take k).foldl stp []=A)∧Hid (OwnK layQs wr w2.heap.size out A)∧Hid (Below w2.heap.size w2 wr)) (fun _ _ _ i _ => n - (intOf i).toNat)
 case atStart => exact ⟨0, [],Nat.zero_le _,rfl,Lib.hid rfl,Lib.hid (OwnK.nil _ _ _),Lib.hid (Below.refl _ _)⟩
 case round =>
  obtain ⟨k,A,hk,rfl,HA,HO,HB⟩:=hrel
  by_cases hlt:k < n
  ·have hS:k < S.length:=by rw [Hsl.out];exact hlt
   obtain ⟨p,hp⟩:∃ p,S[k]?=some p:=⟨_,List.getElem?_eq_getElem hS⟩
   obtain ⟨g,o,had,hg,hcs⟩:=(HR2.out.below HB.out).qs hp
   subst had
   have hpm:p ∈ S:=List.mem_of_getElem? hp
   have HA1:Hid ((S.take (k + 1)).foldl stp []=stp A p):=Lib.hid (by
    rw [List.take_succ_eq_append_getElem hS,List.foldl_append,HA.out]
    have:S[k]=p:=by rw [List.getElem?_eq_getElem hS] at hp;injection hp
    rw [this];rfl)
   have hVA:=(HVt.out k (by omega)).1
   have hFA:=(HVt.out k (by omega)).2 k p (Nat.le_refl _) hp
   rw [HA.out] at hVA hFA
   have HVA:=Lib.hid hVA
   have HFA:=Lib.hid hFA
   have HVp:=Lib.hid (HSv.out p hpm)
   have hAl:Hid (A.length≤k):=Lib.hid (by
    have:=fold_len (S.take k) []
    rw [HA.out] at this
    simp at this;omega)
   obtain ⟨X,hX⟩:∃ X,layQs.enc p=X:=⟨_,rfl⟩
   have HX1:Hid (X.toArray.size=18):=Lib.hid (by rw [List.size_toArray, ← hX];rfl)
   have HX2:Hid (X.toArray.all (·.oneCell')=true):=Lib.hid (all_oneCell_toArray (by rw [← hX];exact layQs.one p))
   have HX:=Lib.hid hX
   rw [hX] at hcs
   have HRA:Hid (wr.rangeAt g (o + k * 18) X):=Lib.hid hcs
   clear hp hpm HA hVA hFA hcs hX
   have HB1:Hid (Below w2.heap.size w2 (wr.alloc (.cells X.toArray 249 (0,0)))):=Lib.hid (Below.alloc HB.out HB.out.size _)
   have HP1:Hid (Blk (wr.alloc (.cells X.toArray 249 (0,0))) wr.heap.size 249 X.toArray):=Lib.hid (Blk.new wr _ _)
   have HO1:Hid (OwnK layQs (wr.alloc (.cells X.toArray 249 (0,0))) w2.heap.size u3 A):=Lib.hid (HO.out.alloc _)
   go_upto_region 7 with (first | (refine wpList_loadn rfl 249 _ rfl g (o + k * 18) rfl _ _ HRA.out Tryz.underlying249 rfl 18 size_qs (by simpa using HX1.out) ?_;go_simp) | (refine wpList_var X.toArray 249 Tryz.zeroValue249 rfl rfl rfl _ _ rfl _ rfl ?h1 ?h2 18 size_qs HX1.out ?h4 HX2.out ?h6;all_goals (try rfl);try go_simp))
   generalize wr.alloc (.cells X.toArray 249 (0,0))=w3 at *
   generalize wr.heap.size=bx at *
   clear HB HO HRA hg
   rcases snoc_cases A with rfl | ⟨D,q,rfl⟩
   ·obtain ⟨ad3,c3,hv3,_,_,_⟩:=HO1.out.form
    rw [show ([]:List Sp).length=0 from rfl] at hv3
    subst hv3
    clear hS
    go_upto_region 8 with fail
    refine wp_region_later (by kernel_rfl) (by kernel_rfl) ?_
    repeat (go_big_quiet_step (fail))
    refine wpQuiet_nil ?_
    rintro w4 ⟨n4,hn4⟩
    have hb:Below w3.heap.size w3 w4:=by rw [hn4];exact n4.2
    clear hn4 n4
    have HP4:=Lib.hid (HP1.out.below hb HP1.out.lt)
    have HO4:=Lib.hid (HO1.out.later hb)
    have HB4:=Lib.hid (HB1.out.trans (hb.mono HB1.out.size))
    clear hb HP1 HO1 HB1
    go_wp2_with (first | (refine wpList_loadn rfl 249 _ rfl bx 0 rfl _ _ HP4.out.range Tryz.underlying249 rfl 18 size_qs (by simpa using HX1.out) ?_;go_simp) | (refine wpList_build1 rfl 201 249 _ rfl X.toArray rfl 18 Tryz.underlying201 zero_qs HX1.out (by decide) (by decide) ?_;go_simp) | (at_builtin;refine wpList_app qsE rfl (.tmp 61) (.tmp 63) rfl rfl (World.ownsRow.alloc HO4.out _) rfl (src_new layQs _ p _ _ ?c0) ?c1 ?c2 ?c3 ?c4 ?_))
    case c0 => first | exact (congrArg List.toArray HX.out).symm | exact HX.out.symm
    case c1 => exact layQs.one p
    case c2 => unfold maxLen;simp
    case c3 => simp
    case c4 => have:=HB4.out.size;simp;omega
    intro v' w' hO hG
    have HO':Hid (OwnK layQs w' w2.heap.size v' (stp [] p)):=Lib.hid (OwnK.snoc (L:=[]) hO)
    have HB':Hid (Below w2.heap.size w2 w'):=Lib.hid ((Below.alloc HB4.out HB4.out.size _).trans (hG.below (by have:=HB4.out.size;simp;omega) (own_base HO4.out)))
    clear hO hG
    go_wp2
    exact ⟨⟨k + 1,_,by omega,by go_num,HA1,HO',HB'⟩,by simp [intOf];omega⟩
   ·obtain ⟨g2,c2,hv3,hg2,hgl,hc1,hc2⟩:=HO1.out.one (by simp)
    rw [show (D ++ [q]).length=D.length + 1 by simp] at hv3 hc1
    subst hv3
    have hDk:D.length + 1≤k:=by have:=hAl.out;simpa using this
    have hqm:(D ++ [q])[D.length]?=some q:=by simp
    have hVq:=HVA.out q (by simp)
    have hqp:=HFA.out q (by simp)
    have HM:Hid (stp (D ++ [q]) p=if p.1≤q.2 + 1 then (if q.2 < p.2 then D ++ [(q.1,p.2)] else D ++ [q]) else D ++ [q] ++ [p]):=Lib.hid (stp_snoc _ _ _)
    have HL:Hid ((D ++ [q]).length=D.length + 1):=Lib.hid (by simp)
    have hrq:w3.rangeAt g2 (D.length * 18) ((wN q.1).toList ++ (wN q.2).toList):=by
     have:=HO1.out.qs hqm
     rw [qs_split] at this
     exact this
    have hrp:w3.rangeAt bx 0 ((wN p.1).toList ++ (wN p.2).toList):=by
     have:=HP1.out.range
     rw [← HX.out,qs_split] at this
     exact this
    have d8:w3.cell? ⟨bx,8,none⟩=some (.int .i64 ((digN p.1 8:Nat):Int)):=(range_left hrp) 8 _ (wN_dig8 p.1)
    have q8:w3.cell? ⟨g2,D.length * 18 + 8,none⟩=some (.int .i64 ((digN q.1 8:Nat):Int)):=(range_left hrq) 8 _ (wN_dig8 q.1)
    have R1:∀ wx,(∃ x:Later w3,wx=x.1)→wx.rangeAt bx 0 (wN p.1).toList:=by rintro wx ⟨x,rfl⟩;exact range_below (range_left hrp) x.2 HP1.out.lt
    have R2:∀ wx,(∃ x:Later w3,wx=x.1)→wx.rangeAt bx 9 (wN p.2).toList:=by rintro wx ⟨x,rfl⟩;exact range_below (range_right hrp) x.2 HP1.out.lt
    have R3:∀ wx,(∃ x:Later w3,wx=x.1)→wx.rangeAt g2 (D.length * 18 + 9) (wN q.2).toList:=by rintro wx ⟨x,rfl⟩;exact range_below (range_right hrq) x.2 hgl
    have S1:=Lib.hid (wN_size p.1)
    have S2:=Lib.hid (wN_size p.2)
    have S3:=Lib.hid (wN_size q.2)
    have HR1:=Lib.hid R1
    have HR2':=Lib.hid R2
    have HR3:=Lib.hid R3
    clear R1 R2 R3
    have HSet:Hid ((D ++ [q]).set D.length (q.1,p.2)=D ++ [(q.1,p.2)]):=Lib.hid (by simp)
    have HY:Hid (layQs.enc (q.1,p.2)=setsAt (layQs.enc q) 9 (wN p.2).toList):=Lib.hid (by rw [qs_split,qs_split];exact (setsAt_wd _ _ _).symm)
    have HOne:Hid ((wN p.2).all (·.oneCell')=true):=Lib.hid (wd_one _)
    have HPl:=Lib.hid fun wx => plusN q.2 wx
    have HC1:=Lib.hid fun wx => wideCmpN (x:=p.1) (y:=q.2 + 1) wx HVp.out.a.lt10.1 hVq.b.lt10.2
    have HC2:=Lib.hid fun wx => wideCmpN (x:=p.2) (y:=q.2) wx HVp.out.b.lt10.1 hVq.b.lt10.1
    have HD8:=Lib.hid (dig8_eq hVq.a HVp.out.a)
    have HFar:=Lib.hid (far_six hVq HVp.out hqp)
    have HCle:=Lib.hid (cN_le p.1 (q.2 + 1))
    have hlen:((D.length + 1:Nat):Int) - 1=(D.length:Int):=by omega
    have Hqm:=Lib.hid hqm
    clear hAl hqm hc2 hS hrp hrq
    generalize wN p.1=P1 at *
    generalize wN p.2=P2 at *
    generalize wN q.2=Q2 at *
    generalize wN (q.2 + 1)=Q3 at *
    generalize D.length=m at *
    have hm1:(m:Int) < ((m + 1:Nat):Int):=by omega
    have hm2:m < m + 1:=by omega
    have hm0:((m:Int) ≥ 0):=by omega
    generalize m + 1=n1 at *
    have hm3:(n1:Int)≤100000:=by omega
    have l8:=Later.cell_of d8
    have k8:=Later.cell_of q8
    have hP:=fun x:Later w3 => Calls.later x (HPl.out x.1)
    have hC:=fun x:Later w3 => Calls.later x (HC1.out x.1)
    go_upto_region 8 with fail
    by_cases hd:digN q.1 8=digN p.1 8
    ·rw [hd] at k8 q8
     generalize digN p.1 8=e8 at *
     generalize cN p.1 (q.2 + 1)=C at *
     refine wp_region_later (by kernel_rfl) (by kernel_rfl) ?_
     repeat (first | go_big_quiet_step (first | (go_at_call 94;exact hP _) | (go_at_call 230;exact hC _)) | (refine wpQuiet_loadn rfl 121 _ rfl _ rfl bx 0 rfl P1 HR1.out _ Tryz.underlying121 rfl 9 size_wide S1.out ?_;go_simp) | (refine wpQuiet_loadn rfl 121 _ rfl _ rfl g2 (m * 18 + 9) rfl Q2 HR3.out _ Tryz.underlying121 rfl 9 size_wide S3.out ?_;go_simp))
     refine wpQuiet_nil ?_
     rintro ⟨w4,hb⟩
     dsimp only
     clear d8 q8 l8 k8 hP hC
     have HP4:=Lib.hid (HP1.out.below hb HP1.out.lt)
     have HO4:=Lib.hid (HO1.out.later hb)
     have HB4:=Lib.hid (HB1.out.trans (hb.mono HB1.out.size))
     have HU2:=Lib.hid (HR2'.out w4 ⟨⟨w4,hb⟩,rfl⟩)
     have HU3:=Lib.hid (HR3.out w4 ⟨⟨w4,hb⟩,rfl⟩)
     have HG:Hid (g2 < w4.heap.size):=Lib.hid (Nat.lt_of_lt_of_le hgl hb.size)
     clear hb HP1 HO1 HB1 HR1 HR2' HR3 hgl
     by_cases hle:p.1≤q.2 + 1
     ·have hC0:C≤0:=HCle.out.2 hle
      have HT2:Hid (∀ wx,(∃ x:Later w4,wx=x.1)→wx.rangeAt bx 9 P2.toList):=Lib.hid (by rintro wx ⟨x,rfl⟩;exact range_below HU2.out x.2 HP4.out.lt)
      have HT3:Hid (∀ wx,(∃ x:Later w4,wx=x.1)→wx.rangeAt g2 (m * 18 + 9) Q2.toList):=Lib.hid (by rintro wx ⟨x,rfl⟩;exact range_below HU3.out x.2 HG.out)
      have hC:=fun x:Later w4 => Calls.later x (HC2.out x.1)
      have HC2p:=Lib.hid (cN_pos p.2 q.2)
      generalize cN p.2 q.2=C2 at *
      go_upto_region 9 with fail
      refine wp_region_later (by kernel_rfl) (by kernel_rfl) ?_
      repeat (first | go_big_quiet_step ((go_at_call 230;exact hC _)) | (refine wpQuiet_loadn rfl 121 _ rfl _ rfl bx 9 rfl P2 HT2.out _ Tryz.underlying121 rfl 9 size_wide S2.out ?_;go_simp) | (refine wpQuiet_loadn rfl 121 _ rfl _ rfl g2 (m * 18 + 9) rfl Q2 HT3.out _ Tryz.underlying121 rfl 9 size_wide S3.out ?_;go_simp))
      refine wpQuiet_nil ?_
      rintro ⟨w5,hb⟩
      dsimp only
      have HP5:=Lib.hid (HP4.out.below hb HP4.out.lt)
      have HO5:=Lib.hid (HO4.out.later hb)
      have HB5:=Lib.hid (HB4.out.trans (hb.mono HB4.out.size))
      have HU5:=Lib.hid (HT2.out w5 ⟨⟨w5,hb⟩,rfl⟩)
      have HV5:=Lib.hid (HT3.out w5 ⟨⟨w5,hb⟩,rfl⟩)
      clear hb HP4 HO4 HB4 HU2 HU3 HT2 HT3 hC HG
      by_cases hlt2:q.2 < p.2
      ·have hC2:C2 > 0:=HC2p.out.2 hlt2
       have HA6:Hid ((S.take (k + 1)).foldl stp []=D ++ [(q.1,p.2)]):=Lib.hid (by rw [HA1.out,HM.out,if_pos hle,if_pos hlt2])
       have HTh:Hid (w5.there g2 (m * 18 + 9) 9):=Lib.hid fun j hj => ⟨by
        have hj2:j < Q2.toList.length:=by rw [Array.length_toList,S3.out];exact hj
        rw [HV5.out j _ (List.getElem?_eq_getElem hj2)];rfl,HO5.out.frozen _⟩
       have HS6:Hid (OwnK layQs (w5.setCells g2 (m * 18 + 9) P2.toList) w2.heap.size (.slice (some ⟨g2,0,none⟩) n1 c2) (D ++ [(q.1,p.2)])):=Lib.hid (by
        have:=HO5.out.sets (i:=m) (j:=9) (x:=q) (y:=(q.1,p.2)) P2.toList Hqm.out (by rw [Array.length_toList,S2.out];decide) HY.out
        rw [setCs_eq,HSet.out] at this
        exact this)
       have hst:(storeCells ⟨g2,m * 18 + 9,none⟩ P2.toList 0).run Tryz.prog w5=.ok () (w5.setCells g2 (m * 18 + 9) P2.toList):=by
        have hl:P2.toList.length=9:=by rw [Array.length_toList];exact S2.out
        have:=run_storeCells_cells (P:=Tryz.prog) g2 (m * 18 + 9) P2.toList 0 w5 (fun j hj => (HTh.out j (by omega)).1) (fun j hj => (HTh.out j (by omega)).2) (fun v hv => (Array.all_eq_true_iff_forall_mem.1 HOne.out) v (by simpa using hv))
        exact this
       have HB6:Hid (Below w2.heap.size w2 (w5.setCells g2 (m * 18 + 9) P2.toList)):=Lib.hid (by
        rw [← setCs_eq];exact below_setCs hg2 _ _ _ HB5.out)
       clear HA1 HM HVA HFA HVp HO5 HB5 HP5 HL HY HSet HC2p HCle HV5
       go_wp2_with (first | (refine wpList_loadn rfl 121 _ rfl bx 9 rfl P2.toList _ HU5.out Tryz.underlying121 rfl 9 size_wide (by simpa using S2.out) ?_;try go_simp))
       exact ⟨⟨k + 1,_,by omega,by go_num,HA6,HS6,HB6⟩,by simp [intOf];omega⟩
      ·have hC2:¬ C2 > 0:=fun h => hlt2 (HC2p.out.1 h)
       have HA6:Hid ((S.take (k + 1)).foldl stp []=D ++ [q]):=Lib.hid (by rw [HA1.out,HM.out,if_pos hle,if_neg hlt2])
       clear HA1 HM HVA HFA HVp HP5 HL HY HSet HC2p HCle HV5
       go_wp2_with fail
       exact ⟨⟨k + 1,_,by omega,by go_num,HA6,HO5,HB5⟩,by simp [intOf];omega⟩
     ·have hC0:¬ C≤0:=fun h => hle (HCle.out.1 h)
      have HA6:Hid ((S.take (k + 1)).foldl stp []=D ++ [q] ++ [p]):=Lib.hid (by rw [HA1.out,HM.out,if_neg hle])
      have HO5:Hid (w4.ownsRow w2.heap.size 249 18 (.slice (some ⟨g2,0,none⟩) n1 c2) n1 (layQs.all (D ++ [q]))):=Lib.hid (by have:=HO4.out;unfold OwnK at this;rw [HL.out] at this;exact this)
      clear HM HSet HY HC2 HFar HCle HD8
      go_wp2_with (first | (refine wpList_loadn rfl 249 _ rfl bx 0 rfl _ _ HP4.out.range Tryz.underlying249 rfl 18 size_qs (by simpa using HX1.out) ?_;go_simp) | (refine wpList_build1 rfl 201 249 _ rfl X.toArray rfl 18 Tryz.underlying201 zero_qs HX1.out (by decide) (by decide) ?_;go_simp) | (at_builtin;refine wpList_app qsE rfl (.tmp 61) (.tmp 63) rfl rfl (World.ownsRow.alloc HO5.out _) rfl (src_new layQs _ p _ _ ?c0) ?c1 ?c2 ?c3 ?c4 ?_))
      case c0 => first | exact (congrArg List.toArray HX.out).symm | exact HX.out.symm
      case c1 => exact layQs.one p
      case c2 => unfold maxLen;omega
      case c3 => omega
      case c4 => have:=HB4.out.size;simp;omega
      intro v' w' hO hG
      have HO':Hid (OwnK layQs w' w2.heap.size v' (D ++ [q] ++ [p])):=Lib.hid (by
       rw [← HL.out] at hO
       exact OwnK.snoc hO)
      have HB':Hid (Below w2.heap.size w2 w'):=Lib.hid ((Below.alloc HB4.out HB4.out.size _).trans (hG.below (by have:=HB4.out.size;simp;omega) (own_base HO4.out)))
      clear hO hG
      go_wp2
      exact ⟨⟨k + 1,_,by omega,by go_num,HA6,HO',HB'⟩,by simp [intOf];omega⟩
    ·have hdi:(((digN q.1 8:Nat):Int) == ((digN p.1 8:Nat):Int))=false:=by rw [beq_eq_false_iff_ne];omega
     generalize digN p.1 8=e8 at *
     generalize digN q.1 8=e9 at *
     refine wp_region_later (by kernel_rfl) (by kernel_rfl) ?_
     repeat (go_big_quiet_step (fail))
     refine wpQuiet_nil ?_
     rintro w4 ⟨⟨w4',hb⟩,rfl⟩
     try dsimp only
     have hle:¬ p.1≤q.2 + 1:=HFar.out (fun e => hd (HD8.out.2 e))
     have HP4:=Lib.hid (HP1.out.below hb HP1.out.lt)
     have HO4:=Lib.hid (HO1.out.later hb)
     have HB4:=Lib.hid (HB1.out.trans (hb.mono HB1.out.size))
     clear hb HP1 HO1 HB1 HR1 HR2' HR3 d8 q8 l8 k8 hP hC HPl HC1
     have HA6:Hid ((S.take (k + 1)).foldl stp []=D ++ [q] ++ [p]):=Lib.hid (by rw [HA1.out,HM.out,if_neg hle])
     have HO5:Hid (w4.ownsRow w2.heap.size 249 18 (.slice (some ⟨g2,0,none⟩) n1 c2) n1 (layQs.all (D ++ [q]))):=Lib.hid (by have:=HO4.out;unfold OwnK at this;rw [HL.out] at this;exact this)
     clear HM HSet HY HC2 HFar HCle HD8
     go_wp2_with (first | (refine wpList_loadn rfl 249 _ rfl bx 0 rfl _ _ HP4.out.range Tryz.underlying249 rfl 18 size_qs (by simpa using HX1.out) ?_;go_simp) | (refine wpList_build1 rfl 201 249 _ rfl X.toArray rfl 18 Tryz.underlying201 zero_qs HX1.out (by decide) (by decide) ?_;go_simp) | (at_builtin;refine wpList_app qsE rfl (.tmp 61) (.tmp 63) rfl rfl (World.ownsRow.alloc HO5.out _) rfl (src_new layQs _ p _ _ ?c0) ?c1 ?c2 ?c3 ?c4 ?_))
     case c0 => first | exact (congrArg List.toArray HX.out).symm | exact HX.out.symm
     case c1 => exact layQs.one p
     case c2 => unfold maxLen;omega
     case c3 => omega
     case c4 => have:=HB4.out.size;simp;omega
     intro v' w' hO hG
     have HO':Hid (OwnK layQs w' w2.heap.size v' (D ++ [q] ++ [p])):=Lib.hid (by
      rw [← HL.out] at hO
      exact OwnK.snoc hO)
     have HB':Hid (Below w2.heap.size w2 w'):=Lib.hid ((Below.alloc HB4.out HB4.out.size _).trans (hG.below (by have:=HB4.out.size;simp;omega) (own_base HO4.out)))
     clear hO hG
     go_wp2
     exact ⟨⟨k + 1,_,by omega,by go_num,HA6,HO',HB'⟩,by simp [intOf];omega⟩
  ·obtain rfl:k=n:=by omega
   have HF:Hid (A=R):=Lib.hid (by rw [← HA.out,List.take_of_length_le (by rw [Hsl.out];exact Nat.le_refl _)];exact HS.out)
   go_wp2_with fail
   go_ret
   exact ⟨_,rfl,by rw [← HF.out];exact HO.out.weak HB2.out.size,HB2.out.trans (HB.out.mono HB2.out.size)⟩
theorem run_build1 {P:Program} (w:World) (t e:TypeId) (X:Array Value) (m:Nat) (hu:P.underlying t=some (.slice e)) (hi:(P.info? e).map (fun i => (i.size,i.zero.map (fun z => z.cells.size)))=some (m,some m)) (hX:X.size=m) (hpos:0 < m) (hsmall:m≤2 ^ 24) :
  (Instr.buildSlice t 1 #[(0, .agg X)]).run P w=.ok (.slice (some ⟨w.heap.size,0,none⟩) 1 1) (w.alloc (.cells X e (0,0))):=by
 cases hie:P.info? e with
 | none => rw [hie] at hi;cases hi
 | some ie =>
   rw [hie] at hi
   simp only [Option.map_some,Option.some.injEq,Prod.mk.injEq] at hi
   obtain ⟨h1,h2⟩:=hi
   cases hz:ie.zero with
   | none => rw [hz] at h2;cases h2
   | some z =>
     rw [hz] at h2
     simp only [Option.map_some,Option.some.injEq] at h2
     have hf:=Go.Great.fill_whole (s:=m) hpos [Value.agg X] ((Array.range (1 * m)).map (z.cells[· % z.cells.size]!)) (fun v hv => by rw [List.mem_singleton] at hv;subst hv;exact hX) (by simp)
     have e2:(([Value.agg X]:List Value).flatMap fun v => v.cells.toList).toArray=X:=by simp [Value.cells]
     rw [e2] at hf
     refine run_buildSlice w t e 1 #[(0, .agg X)] X ie z hu hie hz (by rw [h1];omega) (by rw [h1];omega) ?_
     rw [h1]
     simpa using hf
theorem row_qs (x y:Nat) (w:World):(Instr.buildSlice 201 1 #[(0, .agg (wN x ++ wN y))]).run Tryz.prog w=.ok (.slice (some ⟨w.heap.size,0,none⟩) 1 1) (w.alloc (.cells (wN x ++ wN y) 249 (0,0))) :=
 run_build1 w _ _ _ 18 Tryz.underlying201 zero_qs (by rw [Array.size_append];rfl) (by decide) (by decide)
theorem built_qs (f g:Nat→Nat):Tryz.prog.built 249 [(0, .agg (wd f)),(1, .agg (wd g))]=some (wd f ++ wd g):=by
 kernel_rfl
theorem build_qs (x y:Nat) (w:World):(Instr.build 249 #[(0, .agg (wN x)),(1, .agg (wN y))]).run Tryz.prog w=.ok (.agg (wN x ++ wN y)) w :=
 run_build w _ _ _ (built_qs _ _)
theorem exec_build {P:Program} {ρ:Operand→Value} {o:Oper} {w w':World} {v:Value} (t:TypeId) (parts:Array (Nat × Operand)) (ho:o.op=.build t parts) (q:Array (Nat × Value)) (hq:(parts.map fun (i,x) => (i,ρ x))=q) (hr:(Instr.build t q).run P w=.ok v w'):(execOp ρ o).run P w=.ok (.value v) w':=by
 subst hq
 unfold execOp
 simp only [ho,Sem.run_bind,hr,Result.andThen_ok,Sem.run_pure]
theorem exec_row {P:Program} {ρ:Operand→Value} {o:Oper} {w w':World} {v:Value} (t:TypeId) (n:Nat) (parts:Array (Nat × Operand)) (ho:o.op=.buildSlice t n parts) (q:Array (Nat × Value)) (hq:(parts.map fun (i,x) => (i,ρ x))=q) (hr:(Instr.buildSlice t n q).run P w=.ok v w'):(execOp ρ o).run P w=.ok (.value v) w':=by
 subst hq
 unfold execOp
 simp only [ho,Sem.run_bind,hr,Result.andThen_ok,Sem.run_pure]
theorem Blk.rangeA {w:World} {B:Nat} {t:TypeId} {X:Array Value} (h:Blk w B t X):w.rangeAt B 0 X.toList:=fun j v hv => by
 rw [Nat.zero_add,h.cell j]
 simpa using hv
theorem own_farRow {w:World} {base:Nat} {e:TypeId} {size:Nat} {v:Value} {n:Nat} {xs:List Value} {b:Nat} {t:TypeId} {cs:Array Value} (h:w.ownsRow base e size v n xs) (hb:Blk w b t cs) (hne:e ≠ t) (c2:Array Value):(w.setRow b c2).ownsRow base e size v n xs:=by
 rcases h with ⟨hl,hv | ⟨g,c,cur,rfl,hbase,hg,hc,hm,hs,ht⟩⟩
 ·exact ⟨hl, .inl hv⟩
 ·refine ⟨hl, .inr ⟨g,c,cur,rfl,hbase,?_,hc,hm,hs,ht⟩⟩
  rw [setRow_other w b g c2 (by
   rintro rfl
   unfold Blk at hb
   rw [hg] at hb
   injection hb with hb
   injection hb with _ hb
   exact hne hb)]
  exact hg
theorem Blk.setRow {w:World} {b:Nat} {t:TypeId} {cs:Array Value} (h:Blk w b t cs) (c2:Array Value):Blk (w.setRow b c2) b t c2:=setRow_heap w b cs c2 t (0,0) h
theorem Blk.farRow {w:World} {b b':Nat} {t:TypeId} {cs:Array Value} (h:Blk w b t cs) (hne:b ≠ b') (c2:Array Value):Blk (w.setRow b' c2) b t cs:=(setRow_other w b' b c2 hne).trans h
theorem below_setRow {B:Nat} {u w:World} (h:Below B u w) {b:Nat} (hb:B≤b) (c2:Array Value):Below B u (w.setRow b c2) :=
 h.trans ((Below.refl B w).trans ⟨rfl,rfl,rfl,by rw [setRow_size];exact Nat.le_refl _,fun j hj => setRow_other w b j c2 (by omega)⟩)
theorem blks_next {p:Sp} (h:VR p) {x:Nat} (h1:p.1≤x) (h2:x≤p.2) (N F:Nat) (hN:N=gB (LN x) x p.2) (hF:F=fil x (LN x - N)) :
  N≤LN x∧VN F∧F≤p.2∧x≤F∧blks (LN p.1) x p.2=(x,N) :: (if F=p.2 then [] else blks (LN p.1) (F + 1) p.2):=by
 obtain ⟨hv,hl,hs⟩:=blk_vn h h1 h2
 have hg:=gB_ok (L:=LN x) h2
 rw [← hN] at hg
 have hp:=two_pos (LN x - N)
 have hFe:F=x + (2 ^ (LN x - N) - 1):=by rw [hF];exact hg.fil
 have hfit:=hg.fits
 refine ⟨hg.le,(blk_vn h (x:=F) (by omega) (by omega)).1,by omega,by omega,?_⟩
 rw [blks_step h2, ← hl, ← hN]
 congr 1
 rw [show x + 2 ^ (LN x - N)=F + 1 by omega]
 by_cases he:F=p.2
 ·rw [if_pos he];exact blks_stop (by omega)
 ·rw [if_neg he]
theorem Blk.grew_ne {w w':World} {b:Nat} {t:TypeId} {cs:Array Value} {v v':Value} (hb:Blk w b t cs) (hne:v.ownBlock ≠ some b) (hG:Grew w w' v v'):Blk w' b t cs :=
 (hG.g.block b hb.lt (Ne.symm hne)).trans hb
theorem qprefixes_any (ad:Option Addr) (n c:Nat) (S:List Sp) (w:World) (h:RdK layQs w ad S) (hn:S.length=n) (hs:n≤100000) (hv:∀ p ∈ S,VR p) :
  Calls Tryz.prog 167 #[.slice ad n c] w fun e w' => ∃ v,e=.returned v∧OwnK layPf w' w.heap.size v (pfs S)∧Below w.heap.size w w':=by
 have Hv:=Lib.hid hv
 have H0:=Lib.hid h
 have Hn:=Lib.hid hn
 clear h hn hv
 go_enter Tryz.func167,Tryz.ntmps167
 go_wp2_with fail
 go_loopw [3,5,6,7,8,9,10,13] (fun out s5 s6 s7 s8 s9 s10 i wr => ∃ k:Nat,k≤n∧i=.int .i64 (k:Int)∧Hid (OwnK layPf wr w.heap.size out (pfs (S.take k)))∧Hid (Below w.heap.size w wr)) (fun _ _ _ _ _ _ _ i _ => n - (intOf i).toNat)
 case atStart => exact ⟨0,Nat.zero_le _,rfl,Lib.hid (OwnK.nil _ _ _),Lib.hid (Below.refl _ _)⟩
 case round =>
  obtain ⟨k,hk,rfl,HO,HB⟩:=hrel
  by_cases hlt:k < n
  ·have hS:k < S.length:=by rw [Hn.out];exact hlt
   obtain ⟨p,hp⟩:∃ p,S[k]?=some p:=⟨_,List.getElem?_eq_getElem hS⟩
   obtain ⟨g,o,had,hg,hcs⟩:=(H0.out.below HB.out).qs hp
   subst had
   have HVp:=Lib.hid (Hv.out p (List.mem_of_getElem? hp))
   have HA1:Hid (allB (S.take (k + 1))=allB (S.take k) ++ blks (LN p.1) p.1 p.2):=Lib.hid (allB_take hp)
   have HLn:Hid ((allB (S.take k)).length≤257 * 100000):=Lib.hid (by
    have:=allB_crude (S:=S.take k) fun q hq => Hv.out q (List.mem_of_mem_take hq)
    have h2:(S.take k).length≤k:=List.length_take_le _ _
    omega)
   have HLb:Hid ((blks (LN p.1) p.1 p.2).length≤257):=Lib.hid (blks_len HVp.out)
   have hXs:=qs_split p
   obtain ⟨X,hX⟩:∃ X,layQs.enc p=X:=⟨_,rfl⟩
   obtain ⟨P1,hP1⟩:∃ P1,wN p.1=P1:=⟨_,rfl⟩
   obtain ⟨P2,hP2⟩:∃ P2,wN p.2=P2:=⟨_,rfl⟩
   have HX1:Hid (X.toArray.size=18):=Lib.hid (by rw [List.size_toArray, ← hX];rfl)
   have HX2:Hid (X.toArray.all (·.oneCell')=true):=Lib.hid (all_oneCell_toArray (by rw [← hX];exact layQs.one p))
   have HS1:Hid (P1.size=9):=Lib.hid (by rw [← hP1];rfl)
   have HS2:Hid (P2.size=9):=Lib.hid (by rw [← hP2];rfl)
   have HN1:Hid (P1.all (·.oneCell')=true):=Lib.hid (by rw [← hP1];exact wd_one _)
   rw [hX] at hcs
   rw [hX,hP1,hP2] at hXs
   have HXs:=Lib.hid hXs
   have HP1:=Lib.hid hP1
   have HP2:=Lib.hid hP2
   have HRA:Hid (wr.rangeAt g (o + k * 18) X):=Lib.hid hcs
   clear hp hS hcs hX hXs hP1 hP2
   have HBr0:Hid (Blk (wr.alloc (.cells X.toArray 249 (0,0))) wr.heap.size 249 X.toArray):=Lib.hid (Blk.new wr _ _)
   have HR1:Hid ((wr.alloc (.cells X.toArray 249 (0,0))).rangeAt wr.heap.size 0 P1.toList):=Lib.hid (range_left (by rw [← HXs.out];exact HBr0.out.range))
   have HBr1:Hid (Blk ((wr.alloc (.cells X.toArray 249 (0,0))).alloc (.cells P1 121 (0,0))) wr.heap.size 249 X.toArray):=Lib.hid (HBr0.out.alloc _)
   have HBx1:Hid (Blk ((wr.alloc (.cells X.toArray 249 (0,0))).alloc (.cells P1 121 (0,0))) (wr.heap.size + 1) 121 P1):=Lib.hid (by
    have this:=Blk.new (wr.alloc (.cells X.toArray 249 (0,0))) 121 P1
    rw [World.size_alloc] at this
    exact this)
   have HB1:Hid (Below w.heap.size w ((wr.alloc (.cells X.toArray 249 (0,0))).alloc (.cells P1 121 (0,0)))):=Lib.hid (Below.alloc (Below.alloc HB.out HB.out.size _) (by have:=HB.out.size;simp;omega) _)
   have HO1:Hid (OwnK layPf ((wr.alloc (.cells X.toArray 249 (0,0))).alloc (.cells P1 121 (0,0))) w.heap.size u3 ((allB (S.take k) ++ []).map pfOf)):=Lib.hid (by rw [List.append_nil];exact (HO.out.alloc _).alloc _)
   have hba:w.heap.size≤wr.heap.size:=HB.out.size
   go_upto_region 5 with (first | (refine wpList_loadn rfl 249 _ rfl g (o + k * 18) rfl _ _ HRA.out Tryz.underlying249 rfl 18 size_qs (by simpa using HX1.out) ?_;go_simp) | (refine wpList_var X.toArray 249 Tryz.zeroValue249 rfl rfl rfl _ _ rfl _ rfl ?_ ?_ 18 size_qs HX1.out ?_ HX2.out ?_;all_goals (try rfl);try go_simp))
   go_upto_block 2 with (first | (refine wpList_loadn rfl 121 _ rfl wr.heap.size 0 rfl _ _ HR1.out Tryz.underlying121 rfl 9 size_wide (by simpa using HS1.out) ?_) | (refine wpList_var P1 121 Tryz.zeroValue121 rfl rfl rfl _ _ rfl _ rfl ?_ ?_ 9 size_wide HS1.out ?_ HN1.out ?_;all_goals (try rfl);try go_simp))
   generalize ((wr.alloc (.cells X.toArray 249 (0,0))).alloc (.cells P1 121 (0,0)))=w3 at *
   generalize wr.heap.size=bs at *
   clear HB HO HRA HR1 HBr0 hg
   go_wp2_with fail
   go_loopw [3,7,8,9,10] (fun out s7 s8 s9 s10 wx => ∃ (x:Nat) (D:List (Nat × Nat)),Hid (VN x)∧Hid (p.1≤x∧x≤p.2)∧Hid (OwnK layPf wx w.heap.size out ((allB (S.take k) ++ D).map pfOf))∧Hid (D ++ blks (LN p.1) x p.2=blks (LN p.1) p.1 p.2)∧Hid (Blk wx bs 249 X.toArray)∧Hid (Blk wx (bs + 1) 121 (wN x))∧Hid (Below w.heap.size w wx)) (fun out _ _ _ _ _ => (allB (S.take k)).length + 257 - vlen out)
   case atStart => exact ⟨p.1, [],Lib.hid HVp.out.a,Lib.hid ⟨Nat.le_refl _,HVp.out.le⟩,HO1,Lib.hid rfl,HBr1,Lib.hid (by rw [HP1.out];exact HBx1.out),HB1⟩
   case round =>
    clear HO1 HBr1 HBx1 HB1
    obtain ⟨x,D,HVx,Hx1,HO,HD,HBr,HBx,HB⟩:=hrel
    have HLen:=Lib.hid (blk_vn HVp.out Hx1.out.1 Hx1.out.2).2.1
    have HAd:=Lib.hid fun wx => wideAddrN wx HVx.out
    have HLe:=Lib.hid fun wx => lengthQN x wx
    have HFi:=Lib.hid fun m wx (hm:m≤LN x) => firstOfN (n:=m) wx HVx.out hm
    have HLa:=Lib.hid fun m wx (hm:m≤LN x) => lastOfN (n:=m) wx HVx.out hm
    have HNe:=Lib.hid fun m (hm:m≤LN x) wx => wN_neq (VN_clr HVx.out hm).lt10.1 HVx.out.lt10.1 wx
    have HEq:=Lib.hid fun m (hm:m≤LN x) wx => wN_eql (VN_fil HVx.out hm).lt10.1 HVp.out.b.lt10.1 wx
    have HCm:=Lib.hid fun m wx (hm:m≤LN x) => wideCmpN wx (VN_fil HVx.out hm).lt10.1 HVp.out.b.lt10.1
    have HWs:Hid ((wN x).size=9):=Lib.hid (wN_size x)
    have HE:Hid (aN x=#[.bool (sixN x), .int .u64 ((hiN x:Nat):Int), .int .u64 ((loN x:Nat):Int)]):=Lib.hid rfl
    have HEp:Hid (∀ m:Int,pN x m=#[.bool (sixN x), .int .u64 ((hiN x:Nat):Int), .int .u64 ((loN x:Nat):Int), .int .i64 m]):=Lib.hid fun _ => rfl
    generalize sixN x=x1 at *
    generalize hiN x=x2 at *
    generalize loN x=x3 at *
    rw [HE.out] at HAd HLe HFi
    rw [HP2.out] at HEq HCm
    have HLa2:Hid (∀ (m:Nat) (wx:World),m≤LN x→Calls Tryz.prog 231 #[.agg #[.bool x1, .int .u64 (x2:Int), .int .u64 (x3:Int), .int .i64 (m:Int)]] wx (Ret (.agg (wN (fil x (LN x - m)))) wx)):=Lib.hid fun m wx hm => by
     have:=HLa.out m wx hm
     rw [HEp.out] at this
     exact this
    clear HLa HEp
    generalize wN x=WX at *
    have HRx:Hid (wr.rangeAt (bs + 1) 0 WX.toList):=Lib.hid HBx.out.rangeA
    go_wp2_with (refine wpList_loadn rfl 121 _ rfl (bs + 1) 0 rfl _ _ HRx.out Tryz.underlying121 rfl 9 size_wide (by simpa using HWs.out) ?_;go_simp)
    refine (HAd.out _).mono ?_
    rintro e w4 ⟨rfl,hb⟩
    have HBa5:Hid (Blk (w4.alloc (.cells #[.bool x1, .int .u64 (x2:Int), .int .u64 (x3:Int)] 28 (0,0))) w4.heap.size 28 #[.bool x1, .int .u64 (x2:Int), .int .u64 (x3:Int)]):=Lib.hid (Blk.new w4 _ _)
    have HBr5:Hid (Blk (w4.alloc (.cells #[.bool x1, .int .u64 (x2:Int), .int .u64 (x3:Int)] 28 (0,0))) bs 249 X.toArray):=Lib.hid ((HBr.out.below hb HBr.out.lt).alloc _)
    have HBx5:Hid (Blk (w4.alloc (.cells #[.bool x1, .int .u64 (x2:Int), .int .u64 (x3:Int)] 28 (0,0))) (bs + 1) 121 WX):=Lib.hid ((HBx.out.below hb HBx.out.lt).alloc _)
    have HO5:Hid (OwnK layPf (w4.alloc (.cells #[.bool x1, .int .u64 (x2:Int), .int .u64 (x3:Int)] 28 (0,0))) w.heap.size u3 ((allB (S.take k) ++ D).map pfOf)):=Lib.hid ((HO.out.later hb).alloc _)
    have hB4:=HB.out.trans (hb.mono HB.out.size)
    have HB5:Hid (Below w.heap.size w (w4.alloc (.cells #[.bool x1, .int .u64 (x2:Int), .int .u64 (x3:Int)] 28 (0,0)))):=Lib.hid (Below.alloc hB4 hB4.size _)
    clear hb hB4 HBr HBx HO HB HRx HAd
    go_upto_region 7 with fail
    generalize (w4.alloc (.cells #[.bool x1, .int .u64 (x2:Int), .int .u64 (x3:Int)] 28 (0,0)))=w5 at *
    generalize w4.heap.size=ba at *
    clear w4
    have q0:=HBa5.out.cell 0
    have q1:=HBa5.out.cell 1
    have q2:=HBa5.out.cell 2
    simp at q0 q1 q2
    go_wp2_with fail
    refine (HLe.out _).mono ?_
    rintro e w6 ⟨rfl,hb⟩
    have HBa6:=Lib.hid (HBa5.out.below hb HBa5.out.lt)
    have HBr6:=Lib.hid (HBr5.out.below hb HBr5.out.lt)
    have HBx6:=Lib.hid (HBx5.out.below hb HBx5.out.lt)
    have HO6:=Lib.hid (HO5.out.later hb)
    have HB6:=Lib.hid (HB5.out.trans (hb.mono HB5.out.size))
    clear hb HBa5 HBr5 HBx5 HO5 HB5 q0 q1 q2 HLe
    go_upto_block 4 with fail
    go_cut [8,9] (fun nn s9 wx => nn=.int .i64 ((gB (LN x) x p.2:Nat):Int)∧Below w6.heap.size w6 wx)
    case first =>
     as_aux_lemma =>
      clear HO6 HB6 HD HLb HLn HEq
      go_wp2_with fail
      go_loopw [8,9] (fun nn s9 wx => ∃ m:Nat,m≤LN x∧nn=.int .i64 (m:Int)∧Hid (gN (LN x) x p.2 m=gB (LN x) x p.2)∧Hid (Below w6.heap.size w6 wx)) (fun nn _ _ => (intOf nn).toNat)
      case atStart => exact ⟨LN x,Nat.le_refl _,rfl,Lib.hid rfl,Lib.hid (Below.refl _ _)⟩
      case round =>
       obtain ⟨m,hm,rfl,HG,HBx⟩:=hrel
       by_cases hm0:m=0
       ·subst hm0
        have HG2:Hid (0=gB (LN x) x p.2):=Lib.hid HG.out
        have z0:((0:Nat):Int)=0:=rfl
        rw [z0]
        go_wp2_with fail
        go_meet
        case rel => exact ⟨by rw [← HG2.out];rfl,HBx.out⟩
       ·obtain ⟨j,hj⟩:∃ j,m=j + 1:=⟨m - 1,by omega⟩
        have hjL:j≤LN x:=by omega
        have e1:(m:Int) - 1=(j:Int):=by omega
        have g1:decide (0 < m)=true:=decide_eq_true (by omega)
        have g2:(m:Int)≤128:=by
         have:LN x≤128:=by rw [LN_six];exact lenN_le _
         omega
        have HGm:Hid (gN (LN x) x p.2 (j + 1)=gB (LN x) x p.2):=Lib.hid (by rw [← hj];exact HG.out)
        have HJm:=Lib.hid hj
        have HBa7:=Lib.hid (HBa6.out.below HBx.out HBa6.out.lt)
        have q0:=HBa7.out.cell 0
        have q1:=HBa7.out.cell 1
        have q2:=HBa7.out.cell 2
        simp at q0 q1 q2
        have HBq8:Hid (Blk (wr.alloc (.cells #[.bool x1, .int .u64 (x2:Int), .int .u64 (x3:Int), .int .i64 (j:Int)] 30 (0,0))) wr.heap.size 30 #[.bool x1, .int .u64 (x2:Int), .int .u64 (x3:Int), .int .i64 (j:Int)]):=Lib.hid (Blk.new wr _ _)
        have HBa8:Hid (Blk (wr.alloc (.cells #[.bool x1, .int .u64 (x2:Int), .int .u64 (x3:Int), .int .i64 (j:Int)] 30 (0,0))) ba 28 #[.bool x1, .int .u64 (x2:Int), .int .u64 (x3:Int)]):=Lib.hid (HBa7.out.alloc _)
        have HBr8:Hid (Blk (wr.alloc (.cells #[.bool x1, .int .u64 (x2:Int), .int .u64 (x3:Int), .int .i64 (j:Int)] 30 (0,0))) bs 249 X.toArray):=Lib.hid ((HBr6.out.below HBx.out HBr6.out.lt).alloc _)
        have HBx8:Hid (Blk (wr.alloc (.cells #[.bool x1, .int .u64 (x2:Int), .int .u64 (x3:Int), .int .i64 (j:Int)] 30 (0,0))) (bs + 1) 121 WX):=Lib.hid ((HBx6.out.below HBx.out HBx6.out.lt).alloc _)
        have HB8:Hid (Below w6.heap.size w6 (wr.alloc (.cells #[.bool x1, .int .u64 (x2:Int), .int .u64 (x3:Int), .int .i64 (j:Int)] 30 (0,0)))):=Lib.hid (Below.alloc HBx.out HBx.out.size _)
        clear HBx HBa7 HBa6 HBr6 HBx6
        go_upto_region 10 with fail
        generalize (wr.alloc (.cells #[.bool x1, .int .u64 (x2:Int), .int .u64 (x3:Int), .int .i64 (j:Int)] 30 (0,0)))=w8 at *
        generalize wr.heap.size=bq at *
        clear q0 q1 q2
        have q0:=HBa8.out.cell 0
        have q1:=HBa8.out.cell 1
        have q2:=HBa8.out.cell 2
        simp at q0 q1 q2
        have r0:=HBq8.out.cell 0
        have r1:=HBq8.out.cell 1
        have r2:=HBq8.out.cell 2
        have r3:=HBq8.out.cell 3
        simp at r0 r1 r2 r3
        have l0:=Later.cell_of q0
        have l1:=Later.cell_of q1
        have l2:=Later.cell_of q2
        have k0:=Later.cell_of r0
        have k1:=Later.cell_of r1
        have k2:=Later.cell_of r2
        have k3:=Later.cell_of r3
        have HTx:Hid (∀ wx,(∃ x:Later w8,wx=x.1)→wx.rangeAt (bs + 1) 0 WX.toList):=Lib.hid (by rintro wx ⟨x,rfl⟩;exact range_below HBx8.out.rangeA x.2 HBx8.out.lt)
        have HTp:Hid (∀ wx,(∃ x:Later w8,wx=x.1)→wx.rangeAt bs 9 P2.toList):=Lib.hid (by
         rintro wx ⟨x,rfl⟩
         have:=HBr8.out.range
         rw [HXs.out] at this
         have:=range_right this
         rw [Array.length_toList,HS1.out] at this
         exact range_below this x.2 HBr8.out.lt)
        have hM:=fun X:Later w8 => Calls.later X (HFi.out j X.1 hjL)
        have hF:=fun X:Later w8 => Calls.later X (HLa2.out j X.1 hjL)
        have hC:=fun X:Later w8 => Calls.later X (HCm.out j X.1 hjL)
        have hNe:=HNe.out j hjL
        have hGd:=wide_guard .neq
        have HCl:=Lib.hid (cN_pos (fil x (LN x - j)) p.2)
        clear hj HG hm0 hm HBa8 HBq8 HBr8 HBx8 q0 q1 q2 r0 r1 r2 r3
        have HArm:Hid (∀ b:Bool,True):=Lib.hid fun _ => trivial
        by_cases hc1:clr x (LN x - j)=x
        ·have Hc1:=Lib.hid hc1
         rw [decide_eq_true hc1] at hNe
         clear hc1
         generalize wN (clr x (LN x - j))=CV at *
         by_cases hc2:fil x (LN x - j)≤p.2
         ·have hC2:¬ cN (fil x (LN x - j)) p.2 > 0:=fun h => absurd (HCl.out.1 h) (by omega)
          have HG2:Hid (gN (LN x) x p.2 j=gB (LN x) x p.2):=Lib.hid (by rw [← HGm.out,gN_hit ⟨Hc1.out,hc2⟩])
          clear hc2 HCl HGm Hc1
          generalize cN (fil x (LN x - j)) p.2=C2 at *
          generalize wN (fil x (LN x - j))=FW at *
          refine wp_region_later (by kernel_rfl) (by kernel_rfl) ?_
          repeat (first | go_big_quiet_step (first | (go_at_call 155;exact hM _) | (go_at_call 231;exact hF _) | (go_at_call 230;exact hC _)) | (refine wpQuiet_loadn rfl 121 _ rfl _ rfl (bs + 1) 0 rfl WX HTx.out _ Tryz.underlying121 rfl 9 size_wide HWs.out ?_;go_simp) | (refine wpQuiet_loadn rfl 121 _ rfl _ rfl bs 9 rfl P2 HTp.out _ Tryz.underlying121 rfl 9 size_wide HS2.out ?_;go_simp))
          refine wpQuiet_nil ?_
          rintro ⟨w9,hb⟩
          dsimp only
          have HBy:=Lib.hid (HB8.out.trans (hb.mono HB8.out.size))
          clear hb hM hF hC hNe hGd l0 l1 l2 k0 k1 k2 k3
          go_wp2_with fail
          exact ⟨⟨j,hjL,rfl,HG2,HBy⟩,by simp [intOf];omega⟩
         ·have hC2:cN (fil x (LN x - j)) p.2 > 0:=HCl.out.2 (by omega)
          have HG2:Hid (m=gB (LN x) x p.2):=Lib.hid (by rw [← HGm.out,gN_miss (fun h => hc2 h.2),HJm.out])
          clear hc2 HCl HGm Hc1
          generalize cN (fil x (LN x - j)) p.2=C2 at *
          generalize wN (fil x (LN x - j))=FW at *
          refine wp_region_later (by kernel_rfl) (by kernel_rfl) ?_
          repeat (first | go_big_quiet_step (first | (go_at_call 155;exact hM _) | (go_at_call 231;exact hF _) | (go_at_call 230;exact hC _)) | (refine wpQuiet_loadn rfl 121 _ rfl _ rfl (bs + 1) 0 rfl WX HTx.out _ Tryz.underlying121 rfl 9 size_wide HWs.out ?_;go_simp) | (refine wpQuiet_loadn rfl 121 _ rfl _ rfl bs 9 rfl P2 HTp.out _ Tryz.underlying121 rfl 9 size_wide HS2.out ?_;go_simp))
          refine wpQuiet_nil ?_
          rintro ⟨w9,hb⟩
          dsimp only
          have HBy:=Lib.hid (HB8.out.trans (hb.mono HB8.out.size))
          clear hb hM hF hC hNe hGd l0 l1 l2 k0 k1 k2 k3
          go_wp2_with fail
          go_meet
          case rel => exact ⟨by rw [← HG2.out],HBy.out⟩
        ·have HG2:Hid (m=gB (LN x) x p.2):=Lib.hid (by rw [← HGm.out,gN_miss (fun h => hc1 h.1),HJm.out])
         rw [decide_eq_false hc1] at hNe
         clear hc1 HGm HCl
         generalize wN (clr x (LN x - j))=CV at *
         refine wp_region_later (by kernel_rfl) (by kernel_rfl) ?_
         repeat (first | go_big_quiet_step (first | (go_at_call 155;exact hM _) | (go_at_call 231;exact hF _) | (go_at_call 230;exact hC _)) | (refine wpQuiet_loadn rfl 121 _ rfl _ rfl (bs + 1) 0 rfl WX HTx.out _ Tryz.underlying121 rfl 9 size_wide HWs.out ?_;go_simp) | (refine wpQuiet_loadn rfl 121 _ rfl _ rfl bs 9 rfl P2 HTp.out _ Tryz.underlying121 rfl 9 size_wide HS2.out ?_;go_simp))
         refine wpQuiet_nil ?_
         rintro ⟨w9,hb⟩
         dsimp only
         have HBy:=Lib.hid (HB8.out.trans (hb.mono HB8.out.size))
         clear hb hM hF hC hNe hGd l0 l1 l2 k0 k1 k2 k3
         go_wp2_with fail
         go_meet
         case rel => exact ⟨by rw [← HG2.out],HBy.out⟩
    case rest =>
     as_aux_lemma =>
      obtain ⟨rfl,hb⟩:=hcut
      have HBa7:=Lib.hid (HBa6.out.below hb HBa6.out.lt)
      have HBr7:=Lib.hid (HBr6.out.below hb HBr6.out.lt)
      have HBx7:=Lib.hid (HBx6.out.below hb HBx6.out.lt)
      have HO7:=Lib.hid (HO6.out.later hb)
      have HB7:=Lib.hid (HB6.out.trans (hb.mono HB6.out.size))
      clear hb HBa6 HBr6 HBx6 HO6 HB6 HNe HFi HCm
      obtain ⟨N,hN⟩:∃ N,gB (LN x) x p.2=N:=⟨_,rfl⟩
      obtain ⟨hNl,hVF,hFle,hFge,hstep⟩:=blks_next HVp.out Hx1.out.1 Hx1.out.2 N (fil x (LN x - N)) hN.symm rfl
      rw [hN]
      clear hN
      have HLa:=Lib.hid fun wx => HLa2.out N wx hNl
      have hEq:=HEq.out N hNl
      have HPl:=Lib.hid fun wx => plusN (fil x (LN x - N)) wx
      have HNs:Hid ((wN (fil x (LN x - N) + 1)).size=9):=Lib.hid (wN_size _)
      have HNo:Hid ((wN (fil x (LN x - N) + 1)).all (·.oneCell')=true):=Lib.hid (wd_one _)
      have HFb:=Lib.hid (And.intro hVF (And.intro hFle hFge))
      have HSt:=Lib.hid hstep
      have hNb:N≤128:=Nat.le_trans hNl (by rw [LN_six];exact lenN_le _)
      clear hNl hVF hFle hFge hstep HLa2 HEq
      generalize fil x (LN x - N)=F at *
      have HDl:Hid (D.length + 1≤257):=Lib.hid (by
       have e:=congrArg List.length HD.out
       rw [HSt.out,List.length_append,List.length_cons] at e
       have:=HLb.out
       omega)
      have HD2:Hid (D ++ [(x,N)] ++ (if F=p.2 then [] else blks (LN p.1) (F + 1) p.2)=blks (LN p.1) p.1 p.2):=Lib.hid (by
       rw [← HD.out,HSt.out,List.append_assoc]
       rfl)
      clear HD HSt
      obtain ⟨LL,hLL⟩:∃ LL,(allB (S.take k) ++ D).map pfOf=LL:=⟨_,rfl⟩
      have hLn:LL.length=(allB (S.take k)).length + D.length:=by rw [← hLL,List.length_map,List.length_append]
      rw [hLL] at HO7
      have HLL:=Lib.hid hLL
      have HLn2:=Lib.hid hLn
      have HOl:=Lib.hid HO7.out.vlen
      clear hLL hLn
      have q0:=HBa7.out.cell 0
      have q1:=HBa7.out.cell 1
      have q2:=HBa7.out.cell 2
      simp at q0 q1 q2
      have HBp8:Hid (Blk (wc.alloc (.cells #[.bool x1, .int .u64 (x2:Int), .int .u64 (x3:Int), .int .i64 (N:Int)] 30 (0,0))) wc.heap.size 30 #[.bool x1, .int .u64 (x2:Int), .int .u64 (x3:Int), .int .i64 (N:Int)]):=Lib.hid (Blk.new wc _ _)
      have HBr8:Hid (Blk (wc.alloc (.cells #[.bool x1, .int .u64 (x2:Int), .int .u64 (x3:Int), .int .i64 (N:Int)] 30 (0,0))) bs 249 X.toArray):=Lib.hid (HBr7.out.alloc _)
      have HBx8:Hid (Blk (wc.alloc (.cells #[.bool x1, .int .u64 (x2:Int), .int .u64 (x3:Int), .int .i64 (N:Int)] 30 (0,0))) (bs + 1) 121 WX):=Lib.hid (HBx7.out.alloc _)
      have HO8:Hid (OwnK layPf (wc.alloc (.cells #[.bool x1, .int .u64 (x2:Int), .int .u64 (x3:Int), .int .i64 (N:Int)] 30 (0,0))) w.heap.size u3 LL):=Lib.hid (HO7.out.alloc _)
      have HB8:Hid (Below w.heap.size w (wc.alloc (.cells #[.bool x1, .int .u64 (x2:Int), .int .u64 (x3:Int), .int .i64 (N:Int)] 30 (0,0)))):=Lib.hid (Below.alloc HB7.out HB7.out.size _)
      have HLt:Hid (u3.ownBlock ≠ some wc.heap.size):=Lib.hid fun e => absurd (own_lt HO7.out _ e) (Nat.lt_irrefl _)
      clear HBa7 HBr7 HBx7 HO7 HB7
      go_upto_region 13 with fail
      generalize (wc.alloc (.cells #[.bool x1, .int .u64 (x2:Int), .int .u64 (x3:Int), .int .i64 (N:Int)] 30 (0,0)))=w8 at *
      generalize wc.heap.size=bp at *
      clear q0 q1 q2
      have r0:=HBp8.out.cell 0
      have r1:=HBp8.out.cell 1
      have r2:=HBp8.out.cell 2
      have r3:=HBp8.out.cell 3
      simp at r0 r1 r2 r3
      go_upto_region 14 with (at_builtin;refine wpList_app pfE rfl (.tmp 48) (.tmp 50) rfl rfl (World.ownsRow.alloc HO8.out _) rfl (src_new layPf _ (pfOf (x,N)) _ _ ?c0) ?c1 ?c2 ?c3 ?c4 ?_)
      case c0 =>
       show _=((aN x).toList ++ [Value.int .i64 (N:Int)]).toArray
       rw [HE.out]
       rfl
      case c1 => exact layPf.one _
      case c2 => unfold maxLen;have:=HLn.out;have:=HDl.out;rw [HLn2.out];omega
      case c3 => have:=HLn.out;have:=HDl.out;rw [HLn2.out];omega
      case c4 => have:=HB8.out.size;simp;omega
      intro v' w9 hO hG
      have HO9:Hid (OwnK layPf w9 w.heap.size v' ((allB (S.take k) ++ (D ++ [(x,N)])).map pfOf)):=Lib.hid (by
       have:=OwnK.snoc hO
       rw [show (allB (S.take k) ++ (D ++ [(x,N)])).map pfOf=(allB (S.take k) ++ D).map pfOf ++ [pfOf (x,N)] by simp,HLL.out]
       exact this)
      have HBr9:=Lib.hid ((HBr8.out.alloc (.cells #[.bool x1, .int .u64 (x2:Int), .int .u64 (x3:Int), .int .i64 (N:Int)] 30 (0,0))).grew (World.ownsRow.alloc HO8.out _) (by decide) hG)
      have HBp9:=Lib.hid ((HBp8.out.alloc (.cells #[.bool x1, .int .u64 (x2:Int), .int .u64 (x3:Int), .int .i64 (N:Int)] 30 (0,0))).grew_ne HLt.out hG)
      have HBx9:=Lib.hid ((HBx8.out.alloc (.cells #[.bool x1, .int .u64 (x2:Int), .int .u64 (x3:Int), .int .i64 (N:Int)] 30 (0,0))).grew (World.ownsRow.alloc HO8.out _) (by decide) hG)
      have HB9:Hid (Below w.heap.size w w9):=Lib.hid ((Below.alloc HB8.out HB8.out.size _).trans (hG.below (by have:=HB8.out.size;simp;omega) (own_base HO8.out)))
      have HVl:=Lib.hid HO9.out.vlen
      clear hO hG HO8 HBp8 HBr8 HBx8 HB8 r0 r1 r2 r3 HLt
      go_upto_region 14 with fail
      have r0:=HBp9.out.cell 0
      have r1:=HBp9.out.cell 1
      have r2:=HBp9.out.cell 2
      have r3:=HBp9.out.cell 3
      simp at r0 r1 r2 r3
      have l0:=Later.cell_of r0
      have l1:=Later.cell_of r1
      have l2:=Later.cell_of r2
      have l3:=Later.cell_of r3
      have HTp:Hid (∀ wx,(∃ x:Later w9,wx=x.1)→wx.rangeAt bs 9 P2.toList):=Lib.hid (by
       rintro wx ⟨x,rfl⟩
       have:=HBr9.out.range
       rw [HXs.out] at this
       have:=range_right this
       rw [Array.length_toList,HS1.out] at this
       exact range_below this x.2 HBr9.out.lt)
      have hF:=fun X:Later w9 => Calls.later X (HLa.out X.1)
      have hGd:=wide_guard .eql
      generalize hNW:wN (F + 1)=NW at *
      have HNW:=Lib.hid hNW
      clear hNW
      generalize wN F=FW at *
      by_cases hFe:F=p.2
      ·rw [decide_eq_true hFe] at hEq
       have HO':Hid (OwnK layPf w9 w.heap.size v' (pfs (S.take (k + 1)))):=Lib.hid (by
        have e:=HD2.out
        rw [if_pos hFe,List.append_nil] at e
        unfold pfs
        rw [HA1.out, ← e]
        exact HO9.out)
       clear HO9 HD2
       refine wp_region_later (by kernel_rfl) (by kernel_rfl) ?_
       repeat (first | go_big_quiet_step ((go_at_call 231;exact hF _)) | (refine wpQuiet_loadn rfl 121 _ rfl _ rfl bs 9 rfl P2 HTp.out _ Tryz.underlying121 rfl 9 size_wide HS2.out ?_;go_simp))
       refine wpQuiet_nil ?_
       rintro ⟨w10,hb⟩
       dsimp only
       have HO10:=Lib.hid (HO'.out.later hb)
       have HB10:=Lib.hid (HB9.out.trans (hb.mono HB9.out.size))
       clear hb hF hEq hGd HB9 HO' l0 l1 l2 l3 HTp r0 r1 r2 r3
       go_wp2_with fail
       exact ⟨⟨k + 1,by omega,by go_num,HO10,HB10⟩,by simp [intOf];omega⟩
      ·rw [decide_eq_false hFe] at hEq
       have HD3:Hid (D ++ [(x,N)] ++ blks (LN p.1) (F + 1) p.2=blks (LN p.1) p.1 p.2):=Lib.hid (by
        have e:=HD2.out
        rw [if_neg hFe] at e
        exact e)
       have hF1:p.1≤F + 1∧F + 1≤p.2:=by have:=HFb.out.2;have:=Hx1.out.1;omega
       have HF1:=Lib.hid hF1
       have HVF1:=Lib.hid (blk_vn HVp.out hF1.1 hF1.2).1
       clear HD2 hF1
       refine wp_region_later (by kernel_rfl) (by kernel_rfl) ?_
       repeat (first | go_big_quiet_step ((go_at_call 231;exact hF _)) | (refine wpQuiet_loadn rfl 121 _ rfl _ rfl bs 9 rfl P2 HTp.out _ Tryz.underlying121 rfl 9 size_wide HS2.out ?_;go_simp))
       refine wpQuiet_nil ?_
       rintro ⟨w10,hb⟩
       dsimp only
       have HO10:=Lib.hid (HO9.out.later hb)
       have HB10:=Lib.hid (HB9.out.trans (hb.mono HB9.out.size))
       have HBp10:=Lib.hid (HBp9.out.below hb HBp9.out.lt)
       have HBr10:=Lib.hid (HBr9.out.below hb HBr9.out.lt)
       have HBx10:=Lib.hid (HBx9.out.below hb HBx9.out.lt)
       clear hb hF hEq hGd HB9 HO9 HBp9 HBr9 HBx9 l0 l1 l2 l3 HTp r0 r1 r2 r3
       have r0:=HBp10.out.cell 0
       have r1:=HBp10.out.cell 1
       have r2:=HBp10.out.cell 2
       have r3:=HBp10.out.cell 3
       simp at r0 r1 r2 r3
       go_wp2_with fail
       refine (HLa.out _).mono ?_
       rintro e w11 ⟨rfl,hb⟩
       have HO11:=Lib.hid (HO10.out.later hb)
       have HB11:=Lib.hid (HB10.out.trans (hb.mono HB10.out.size))
       have HBr11:=Lib.hid (HBr10.out.below hb HBr10.out.lt)
       have HBx11:=Lib.hid (HBx10.out.below hb HBx10.out.lt)
       clear hb HO10 HB10 HBp10 HBr10 HBx10 r0 r1 r2 r3
       go_wp2_with fail
       refine (HPl.out _).mono ?_
       rintro e w12 ⟨rfl,hb⟩
       have HO12:=Lib.hid (HO11.out.later hb)
       have HB12:=Lib.hid (HB11.out.trans (hb.mono HB11.out.size))
       have HBr12:=Lib.hid (HBr11.out.below hb HBr11.out.lt)
       have HBx12:=Lib.hid (HBx11.out.below hb HBx11.out.lt)
       clear hb HO11 HB11 HBr11 HBx11
       have hba3:w.heap.size≤bs + 1:=by omega
       have HS:=Lib.hid (And.intro (own_farRow HO12.out HBx12.out (by decide) NW) (And.intro (HBr12.out.farRow (by omega:bs ≠ bs + 1) NW) (And.intro (HBx12.out.setRow NW) (below_setRow HB12.out hba3 NW))))
       have HXc:=Lib.hid (show w12.heap[bs + 1]?=some (.cells WX 121 (0,0)) from HBx12.out)
       clear HO12 HB12 HBr12 HBx12
       go_wp2_with (refine wpList_store_row rfl 121 (.tmp 6) (.tmp 59) rfl (bs + 1) NW rfl rfl 121 WX HXc.out (by rw [HNs.out];exact size_wide) (by rw [HWs.out,HNs.out]) HNo.out ?_;dsimp only [Act.put])
       refine ⟨?rel,?measure⟩
       case rel => exact ⟨F + 1,D ++ [(x,N)],HVF1,HF1,Lib.hid HS.out.1,HD3,Lib.hid HS.out.2.1,Lib.hid (by rw [HNW.out];exact HS.out.2.2.1),Lib.hid HS.out.2.2.2⟩
       case measure =>
        have m1:=HVl.out
        rw [List.length_map,List.length_append,List.length_append,List.length_singleton] at m1
        have m2:=HOl.out
        rw [HLn2.out] at m2
        have m3:=HDl.out
        simp
        omega
  ·obtain rfl:k=n:=by omega
   have hT:S.take k=S:=List.take_of_length_le (by rw [Hn.out];exact Nat.le_refl _)
   have HO2:Hid (OwnK layPf wr w.heap.size u3 (pfs S)):=Lib.hid (by have:=HO.out;rw [hT] at this;exact this)
   clear hT HO
   go_wp2_with fail
   go_ret
   exact ⟨_,rfl,HO2.out,HB.out⟩
def spQ (bx:Nat) (out:Value) (pa P1 pf P2:Array Value):Nat→Value→World→Prop
 | 0,v,_ => v=out
 | 1,v,_ => v=.pointer (some ⟨bx,0,none⟩)
 | 2,v,_ => v=.agg pa
 | 3,v,_ => v=.agg P1
 | 4,v,_ => v=.agg pf
 | 5,v,_ => v=.agg P2
 | 6,v,_ => v=.agg (P1 ++ P2)
 | _,v,w => ∃ B,v=.slice (some ⟨B,0,none⟩) 1 1∧Blk w B 249 (P1 ++ P2)
theorem spQ_keep {bx:Nat} {out:Value} {pa P1 pf P2:Array Value} (p:Nat) (v:Value) (u w:World) (h:spQ bx out pa P1 pf P2 p v u) (hb:Below u.heap.size u w):spQ bx out pa P1 pf P2 p v w:=by
 rcases p with _ | _ | _ | _ | _ | _ | _ | p
 all_goals first | exact h | (obtain ⟨B,h1,h2⟩:=h;exact ⟨B,h1,h2.below hb h2.lt⟩)
theorem spansOf_any (ad:Option Addr) (n c:Nat) (L:List Pf) (w:World) (h:RdK layPf w ad L) (hn:L.length=n) (hs:n≤100000) (hv:∀ p ∈ L,OkPf p) :
  Calls Tryz.prog 168 #[.slice ad n c] w fun e w' => ∃ v,e=.returned v∧OwnK layQs w' w.heap.size v (jn (L.map spP))∧Below w.heap.size w w':=by
 have Hv:=Lib.hid hv
 have H0:=Lib.hid h
 have Hn:=Lib.hid hn
 clear h hn hv
 go_enter Tryz.func168,Tryz.ntmps168
 go_wp2_with fail
 go_loopw [3,5,8] (fun out bx i wr => ∃ k:Nat,k≤n∧i=.int .i64 (k:Int)∧Hid (OwnK layQs wr w.heap.size out ((L.take k).map spP))∧Hid (Below w.heap.size w wr)) (fun _ _ i _ => n - (intOf i).toNat)
 case atStart => exact ⟨0,Nat.zero_le _,rfl,Lib.hid (OwnK.nil _ _ _),Lib.hid (Below.refl _ _)⟩
 case round =>
  obtain ⟨k,hk,rfl,HO,HB⟩:=hrel
  by_cases hlt:k < n
  ·have hS:k < L.length:=by rw [Hn.out];exact hlt
   obtain ⟨p,hp⟩:∃ p,L[k]?=some p:=⟨_,List.getElem?_eq_getElem hS⟩
   have hok:=Hv.out p (List.mem_of_getElem? hp)
   obtain ⟨a1,a2,a3,a4,hpc,hpn,hpa⟩:=pf_cells hok
   obtain ⟨g,o,had,hg,c0,c1,c2,c3⟩:=(H0.out.below HB.out).pf hp hpc
   subst had
   have HT1:Hid ((L.take (k + 1)).map spP=(L.take k).map spP ++ [spP p]):=Lib.hid (by
    have:L[k]=p:=by rw [List.getElem?_eq_getElem hS] at hp;injection hp
    rw [List.take_succ_eq_append_getElem hS,List.map_append,this];rfl)
   have HL:=Lib.hid fun wx => lastOfN (n:=p.2.2.2.toNat) wx hok.num.1 hok.bits
   rw [hpn] at HL
   have HF:=Lib.hid fun wx => ofN wx hok.num.1
   rw [hpa] at HF
   have HE:Hid (layQs.enc (spP p)=(wN (nuP p) ++ wN (fil (nuP p) (LN (nuP p) - p.2.2.2.toNat))).toList):=Lib.hid rfl
   have HBd:=Lib.hid fun wx => build_qs (nuP p) (fil (nuP p) (LN (nuP p) - p.2.2.2.toNat)) wx
   have HRw:=Lib.hid fun wx => row_qs (nuP p) (fil (nuP p) (LN (nuP p) - p.2.2.2.toNat)) wx
   generalize spP p=sp at *
   have hlen:((L.take k).map spP).length=k:=by rw [List.length_map,List.length_take];omega
   have HLn:=Lib.hid hlen
   generalize wN (nuP p)=P1 at *
   generalize wN (fil (nuP p) (LN (nuP p) - p.2.2.2.toNat))=P2 at *
   clear hp hS hok hpc hpn hpa hlen
   have HB1:Hid (Below w.heap.size w (wr.alloc (.cells #[.bool a1, .int .u64 (a2:Int), .int .u64 (a3:Int), .int .i64 (a4:Int)] 30 (0,0)))):=Lib.hid (Below.alloc HB.out HB.out.size _)
   have HP1:Hid (Blk (wr.alloc (.cells #[.bool a1, .int .u64 (a2:Int), .int .u64 (a3:Int), .int .i64 (a4:Int)] 30 (0,0))) wr.heap.size 30 #[.bool a1, .int .u64 (a2:Int), .int .u64 (a3:Int), .int .i64 (a4:Int)]):=Lib.hid (Blk.new wr _ _)
   have HO1:Hid (OwnK layQs (wr.alloc (.cells #[.bool a1, .int .u64 (a2:Int), .int .u64 (a3:Int), .int .i64 (a4:Int)] 30 (0,0))) w.heap.size u3 ((L.take k).map spP)):=Lib.hid (HO.out.alloc _)
   go_upto_region 5 with fail
   generalize wr.alloc (.cells #[.bool a1, .int .u64 (a2:Int), .int .u64 (a3:Int), .int .i64 (a4:Int)] 30 (0,0))=w3 at *
   generalize wr.heap.size=bx at *
   clear HB HO c0 c1 c2 c3 hg
   have d0:=HP1.out.cell 0
   have d1:=HP1.out.cell 1
   have d2:=HP1.out.cell 2
   have d3:=HP1.out.cell 3
   simp at d0 d1 d2 d3
   have l0:=Later.cell_of d0
   have l1:=Later.cell_of d1
   have l2:=Later.cell_of d2
   have l3:=Later.cell_of d3
   have HO6:=HO1
   generalize hLL:(L.take k).map spP=LL at *
   clear hLL
   refine wp_region_inv 8 0 (spQ bx u3 #[.bool a1, .int .u64 (a2:Int), .int .u64 (a3:Int)] P1 #[.bool a1, .int .u64 (a2:Int), .int .u64 (a3:Int), .int .i64 (a4:Int)] P2) (fun _ w' => Below w3.heap.size w3 w') (fun u v => Below u.heap.size u v) (fun _ => 0)
    (by kernel_rfl) (by kernel_rfl) (by decide) spQ_keep (below_drew (Below.refl _ _)) ?hX
   case' hX => (apply Exists.intro;refine ⟨fun T => ?hA,?hob,?hend⟩)
   case hA =>
    simp only [setAll,List.take_succ_cons,List.take_zero,Act.put,List.setIfInBounds_toArray,List.set_cons_succ,List.set_cons_zero,Nat.reduceAdd]
    exact rfl
   case hob =>
    clear HO1 HB1 HP1 HO6 d0 d1 d2 d3 HT1 HE HLn
    go_light
    refine ⟨?_,?_,?_,?_,?_,?_,?_,?_,trivial⟩
    all_goals (intro T wx n0 hC hn hp;dsimp only at hn ⊢;unfold Op1)
    ·go_simp
     exact ⟨rfl,Below.refl _ _⟩
    ·go_simp
     exact ⟨rfl,Below.refl _ _⟩
    ·obtain ⟨h0, -⟩:=hp
     have h0:T 1=.pointer (some ⟨bx,0,none⟩):=h0
     have e0:=l0 ⟨wx,hC⟩
     have e1:=l1 ⟨wx,hC⟩
     have e2:=l2 ⟨wx,hC⟩
     simp only at e0 e1 e2
     go_simp
     exact ⟨rfl,Below.refl _ _⟩
    ·obtain ⟨h0, -⟩:=hp
     have h0:T 2=.agg #[.bool a1, .int .u64 (a2:Int), .int .u64 (a3:Int)]:=h0
     go_simp
     refine (HF.out wx).mono ?_
     rintro e w5 ⟨rfl,hb⟩
     exact ⟨_,rfl,rfl,hC.trans (hb.mono hC.size),hb⟩
    ·have e0:=l0 ⟨wx,hC⟩
     have e1:=l1 ⟨wx,hC⟩
     have e2:=l2 ⟨wx,hC⟩
     have e3:=l3 ⟨wx,hC⟩
     simp only at e0 e1 e2 e3
     go_simp
     exact ⟨rfl,Below.refl _ _⟩
    ·obtain ⟨h0, -⟩:=hp
     have h0:T 4=.agg #[.bool a1, .int .u64 (a2:Int), .int .u64 (a3:Int), .int .i64 (a4:Int)]:=h0
     go_simp
     refine (HL.out wx).mono ?_
     rintro e w5 ⟨rfl,hb⟩
     exact ⟨_,rfl,rfl,hC.trans (hb.mono hC.size),hb⟩
    ·obtain ⟨h0,h1, -⟩:=hp
     have h0:T 3=.agg P1:=h0
     have h1:T 5=.agg P2:=h1
     rw [exec_build _ _ rfl #[(0, .agg P1),(1, .agg P2)] (by rw [← h0, ← h1];simp [Act.eval]) (HBd.out wx)]
     exact ⟨rfl,hC,Below.refl _ _⟩
    ·obtain ⟨h0, -⟩:=hp
     have h0:T 6=.agg (P1 ++ P2):=h0
     rw [exec_row _ _ _ rfl #[(0, .agg (P1 ++ P2))] (by rw [← h0];simp [Act.eval]) (HRw.out wx)]
     exact ⟨⟨wx.heap.size,rfl,Blk.new wx _ _⟩,below_alloc hC _,below_alloc (Below.refl _ _) _⟩
   case hend =>
    intro T w4 ⟨n0,hn0,hb⟩ hR
    have hT0:T 0=u3:=hR 0 (by omega)
    obtain ⟨B,hT6,hBl⟩:=hR 7 (by omega)
    have HO4:=Lib.hid (HO1.out.later hb)
    have HB4:=Lib.hid (HB1.out.trans (hb.mono HB1.out.size))
    have HBl:=Lib.hid hBl
    clear hR hb hBl HO1 HB1 HP1 HO6 d0 d1 d2 d3 l0 l1 l2 l3
    simp only [List.drop_succ_cons,List.drop_zero]
    refine wpList_app (c:=1) qsE rfl (.tmp 12) (.tmp 19) rfl ?hs HO4.out ?hx (src_blk layQs sp HBl.out ?c0) ?c1 ?c2 ?c3 ?c4 ?_
    case hs => exact hT0
    case hx => exact hT6
    case c0 => exact (by rw [HE.out])
    case c1 => exact layQs.one sp
    case c2 => unfold maxLen;rw [HLn.out];omega
    case c3 => rw [HLn.out];omega
    case c4 => exact HB4.out.size
    intro v' w' hO hG
    have HO':Hid (OwnK layQs w' w.heap.size v' ((L.take (k + 1)).map spP)):=Lib.hid (by rw [HT1.out];exact OwnK.snoc hO)
    have HB':Hid (Below w.heap.size w w'):=Lib.hid (HB4.out.trans (hG.below HB4.out.size (own_base HO4.out)))
    clear hO hG
    go_wp2
    exact ⟨⟨k + 1,by omega,by go_num,HO',HB'⟩,by simp [intOf];omega⟩
  ·obtain rfl:k=n:=by omega
   have hT:L.take k=L:=List.take_of_length_le (by rw [Hn.out];exact Nat.le_refl _)
   have HO2:Hid (OwnK layQs wr w.heap.size u3 (L.map spP)):=Lib.hid (by have:=HO.out;rw [hT] at this;exact this)
   obtain ⟨ad2,c2,hv2,_,_,_⟩:=HO2.out.form
   rw [List.length_map,Hn.out] at hv2
   subst hv2
   have HJ:=Lib.hid (qjoined_any ad2 k c2 (L.map spP) wr HO2.out.rd (by rw [List.length_map,Hn.out]) (by omega) (fun p hp => by
    obtain ⟨q,hq,rfl⟩:=List.mem_map.1 hp
    exact (Hv.out q hq).vr))
   clear hT HO HO2
   go_wp2_with fail
   refine HJ.out.mono ?_
   rintro e w2 ⟨v,rfl,hO,hb⟩
   go_wp2_with fail
   go_ret
   exact ⟨_,rfl,hO.weak HB.out.size,HB.out.trans (hb.mono HB.out.size)⟩
theorem leastOf_any (ad:Option Addr) (n c:Nat) (L:List Pf) (w:World) (h:RdK layPf w ad L) (hn:L.length=n) (hs:n≤100000) (hv:∀ p ∈ L,OkPf p) :
  Calls Tryz.prog 74 #[.slice ad n c] w fun e w' => ∃ v,e=.returned v∧OwnK layPf w' w.heap.size v (lst L)∧Below w.heap.size w w':=by
 have HS:=Lib.hid (spansOf_any ad n c L w h hn hs hv)
 have HJv:=Lib.hid (sps_vr hv)
 have HJl:=Lib.hid (jn_len (L.map spP))
 have Hlst:Hid (pfs (jn (L.map spP))=lst L):=Lib.hid rfl
 have Hn:=Lib.hid hn
 clear h hn hv
 generalize jn (L.map spP)=J at *
 go_enter Tryz.func74,Tryz.ntmps74
 go_wp2_with fail
 refine HS.out.mono ?_
 rintro e w3 ⟨v,rfl,hO,hB⟩
 obtain ⟨ad3,c3,rfl,_⟩:=hO.form
 have HT:=Lib.hid (qprefixes_any ad3 J.length c3 J w3 hO.rd rfl (by have:=HJl.out;rw [List.length_map,Hn.out] at this;omega) HJv.out)
 rw [Hlst.out] at HT
 have HB3:=Lib.hid hB
 clear hO hB HS HJl HJv Hlst
 generalize J.length=jl at *
 go_wp2_with fail
 refine HT.out.mono ?_
 rintro e w4 ⟨v,rfl,hO,hB⟩
 have HO4:=Lib.hid (hO.weak HB3.out.size)
 have HB4:=Lib.hid (HB3.out.trans (hB.mono HB3.out.size))
 clear hO hB
 go_wp2_with fail
 go_ret
 exact ⟨_,rfl,HO4.out,HB4.out⟩
theorem RdK.blk {α:Type} (E:Lay α) {w:World} {B:Nat} {t:TypeId} {cs:Array Value} {x:α} (hb:Blk w B t cs) (h:cs=(E.enc x).toArray):RdK E w (some ⟨B,0,none⟩) [x]:=by
 subst h
 intro i y hy
 cases i with
 | zero =>
   simp at hy
   subst hy
   refine ⟨B,0,rfl,hb.lt,fun j v hv => ?_⟩
   rw [show 0 + (0 * E.K + j)=j by omega,hb.cell j]
   simpa using hv
 | succ i => simp at hy
end Go.Proofs.YtdhldhkhpndpjaaGreatDoor
