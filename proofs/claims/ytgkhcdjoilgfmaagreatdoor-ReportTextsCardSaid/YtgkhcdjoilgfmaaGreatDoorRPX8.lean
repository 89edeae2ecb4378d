/-
  Flows turned round, and times: back, Back, BackOf, CheckTimes, TimesFault, Times, filtered.
  Reports: how they lie; when they are equal; their order.
  The fault of a list of reports, in plain words.
  Sorting an own row of structs by a number of each element, in the words of an own row.
  The contract of slices.SortFunc at a slice of structs over this program, as the kit's lay-plain.mjs prints it. Condition: the slice has no element, or its cells are known, fewer than 2^62 of them.
  The contract of slices.SortFunc at a slice of structs over this program, as the kit's lay-plain.mjs prints it. Condition: the slice has no element, or its cells are known, fewer than 2^62 of them.
  Rows of prefixes, of ranges, of spans: how they lie; the comparisons of the two sorts; the sorts; the copies.
  The copies and the sorts of rows of ranges (program) and of spans (reference).
-/
import Derived.Test.YtgkhcdjoilgfmaaGreatDoorRPX7
import Derived.Laws.StructEq
import Derived.Lib.Bytealg
import Derived.Lib.Small
import Derived.Shelf.SlSortCmp.NoneTotal
import Derived.Test.YtgkhcdjoilgfmaaGreatDoorProg
import Derived.Test.YtgkhcdjoilgfmaaGreatDoorRPX4
import Derived.WalkSpells
set_option linter.unusedVariables false
set_option maxRecDepth 100000
namespace Go.Proofs.YtgkhcdjoilgfmaaGreatDoor
open Go.RowKit
def FV.back (f:FV):FV:=⟨f.p,f.s2,f.h2,f.l2,f.s1,f.h1,f.l1,f.tp,f.fp⟩
/-! times -/
structure TV where
 y:Int
 t:Int
 d:Int
 o:Int
def TV.cells (x:TV):Array Value:=#[.int .i64 x.y, .int .i64 x.t, .int .i64 x.d, .int .i64 x.o]
def TV.ok (x:TV):Prop:=I41 x.y∧I41 x.t∧I41 x.d∧I41 x.o
theorem idx4_0 (a b c d:Int) (w:World):(Instr.index 131 (.agg #[.int .i64 a, .int .i64 b, .int .i64 c, .int .i64 d]) (.int .i64 0)).run Tryz.prog w=.ok (.int .i64 a) w:=by kernel_rfl
theorem idx4_1 (a b c d:Int) (w:World):(Instr.index 131 (.agg #[.int .i64 a, .int .i64 b, .int .i64 c, .int .i64 d]) (.int .i64 1)).run Tryz.prog w=.ok (.int .i64 b) w:=by kernel_rfl
theorem idx4_2 (a b c d:Int) (w:World):(Instr.index 131 (.agg #[.int .i64 a, .int .i64 b, .int .i64 c, .int .i64 d]) (.int .i64 2)).run Tryz.prog w=.ok (.int .i64 c) w:=by kernel_rfl
theorem idx4_3 (a b c d:Int) (w:World):(Instr.index 131 (.agg #[.int .i64 a, .int .i64 b, .int .i64 c, .int .i64 d]) (.int .i64 3)).run Tryz.prog w=.ok (.int .i64 d) w:=by kernel_rfl
def TV.zero:TV:=⟨0,0,0,0⟩
open Go.RowKit Go
structure RP where
 node:ByteArray
 hour:Int
 out:Bool
 f:FV
 pk:Int
 sz:Int
def RP.Sm (r:RP):Prop:=r.f.ok∧-1125899906842624≤r.hour∧r.hour≤1125899906842624∧r.node.size≤200000
def RB:Type:={r:RP // r.Sm}
theorem fvz_ok:FV.zero.ok:=by
 unfold FV.zero FV.ok I41 U64
 simp
instance:Inhabited RB:=⟨⟨⟨⟨#[]⟩,0,false,FV.zero,0,0⟩,fvz_ok,by show -1125899906842624≤(0:Int);decide,by show (0:Int)≤1125899906842624;decide,by decide⟩⟩
def rpC (x:RP):List Value:=[.string x.node, .int .i64 x.hour, .bool x.out, .int .i64 x.f.p, .bool x.f.s1, .int .u64 x.f.h1, .int .u64 x.f.l1, .bool x.f.s2, .int .u64 x.f.h2, .int .u64 x.f.l2, .int .i64 x.f.fp, .int .i64 x.f.tp, .int .i64 x.pk, .int .i64 x.sz]
def layRb:Lay RB:=⟨fun x => rpC x.1,14,74,by decide,fun _ => rfl,fun p v hv => by
 simp [rpC] at hv
 rcases hv with rfl | rfl | rfl | rfl | rfl | rfl | rfl | rfl | rfl | rfl | rfl | rfl | rfl | rfl <;> rfl⟩
theorem rbE:EI Tryz.prog 61 74 14 120:=EI.mk' (z:=.agg #[.string ⟨#[]⟩, .int .i64 0, .bool false, .int .i64 0, .bool false, .int .u64 0, .int .u64 0, .bool false, .int .u64 0, .int .u64 0, .int .i64 0, .int .i64 0, .int .i64 0, .int .i64 0]) Tryz.underlying61 (by kernel_rfl) rfl (by decide)
theorem size_rb:(Tryz.prog.info? 74).map (·.size)=some 14:=by kernel_rfl
theorem under_rb:Tryz.prog.underlying 74=some (.struct (Tryz.prog.fieldsOf 74)):=by kernel_rfl
theorem zval_rb:∃ z:Value,z.cells.size=14∧(∀ w,(zeroValue 74).run Tryz.prog w=.ok z w)∧∀ v ∈ z.cells,v.oneCell'=true:=⟨.agg #[.string ⟨#[]⟩, .int .i64 0, .bool false, .int .i64 0, .bool false, .int .u64 0, .int .u64 0, .bool false, .int .u64 0, .int .u64 0, .int .i64 0, .int .i64 0, .int .i64 0, .int .i64 0],rfl,fun w => by kernel_rfl,fun v hv => by
 simp [Value.cells] at hv
 rcases hv with rfl | rfl | rfl | rfl | rfl | rfl | rfl | rfl | rfl | rfl | rfl | rfl | rfl | rfl <;> rfl⟩
/-! ### equal -/
def FV.eqR (f g:FV):Bool:=f.p == g.p && (f.s1 == g.s1 && (f.h1 == g.h1 && f.l1 == g.l1)) && (f.s2 == g.s2 && (f.h2 == g.h2 && f.l2 == g.l2)) && f.fp == g.fp && f.tp == g.tp
theorem equalIn_addrR (d:Nat) (w:World) (a:Bool) (b c:Int) (a2:Bool) (b2 c2:Int):(Op.equalIn (d + 2) 28 (.agg #[.bool a, .int .u64 b, .int .u64 c]) (.agg #[.bool a2, .int .u64 b2, .int .u64 c2])).run Tryz.prog w=.ok (a == a2 && (b == b2 && c == c2)) w:=by
 have u2:=Tryz.underlying4
 have a2':=Tryz.isAgg4
 have z2:=Tryz.sizeOf4
 have u3:=Tryz.underlying26
 have a3:=Tryz.isAgg26
 have z3:=Tryz.sizeOf26
 have hS5:Tryz.prog.underlying 28=some (.struct (Tryz.prog.fieldsOf 28)):=by kernel_rfl
 have hp5:Tryz.prog.stoodInHeld 28=false:=by kernel_rfl
 rw [run_equalIn_agg w (d + 1) 28 _ _ hS5 hp5]
 simp only [Program.fieldsOf,Tryz.underlying28]
 go_simp
 cases h1:(a == a2) <;> cases h2:(b == b2) <;> cases h3:(c == c2) <;> simp_all
theorem equalIn_flowR (d:Nat) (w:World) (f g:FV):(Op.equalIn (d + 3) 72 (.agg f.cells) (.agg g.cells)).run Tryz.prog w=.ok (f.eqR g) w:=by
 have u1:=Tryz.underlying3
 have a1:=Tryz.isAgg3
 have z1:=Tryz.sizeOf3
 have u5:=Tryz.underlying28
 have a5:=Tryz.isAgg28
 have z5:=Tryz.sizeOf28
 have hS4:Tryz.prog.underlying 72=some (.struct (Tryz.prog.fieldsOf 72)):=by kernel_rfl
 have hp4:Tryz.prog.stoodInHeld 72=false:=by kernel_rfl
 have e5:=equalIn_addrR
 obtain ⟨p,s1,h1,l1,s2,h2,l2,fp,tp⟩:=f
 obtain ⟨p',s1',h1',l1',s2',h2',l2',fp',tp'⟩:=g
 rw [run_equalIn_agg w (d + 2) 72 _ _ hS4 hp4]
 simp only [Program.fieldsOf,Tryz.underlying72,FV.cells,FV.eqR]
 go_simp
 clear u1 a1 z1 u5 a5 z5 hS4 hp4 e5
 repeat' split
 all_goals simp_all
 all_goals (intros;simp_all)
def RP.eqB (x y:RP):Bool:=(x.node == y.node) && ((x.hour == y.hour) && ((x.out == y.out) && ((x.f.eqR y.f) && ((x.pk == y.pk) && (x.sz == y.sz)))))
theorem equalIn_rp (d:Nat) (w:World) (x y:RP):(Op.equalIn (d + 4) 74 (.agg (rpC x).toArray) (.agg (rpC y).toArray)).run Tryz.prog w=.ok (x.eqB y) w:=by
 have u1:=Tryz.underlying3
 have a1:=Tryz.isAgg3
 have z1:=Tryz.sizeOf3
 have u2:=Tryz.underlying4
 have a2:=Tryz.isAgg4
 have z2:=Tryz.sizeOf4
 have u3:=Tryz.underlying9
 have a3:=Tryz.isAgg9
 have z3:=Tryz.sizeOf9
 have u5:=Tryz.underlying72
 have a5:=Tryz.isAgg72
 have z5:=Tryz.sizeOf72
 have hS4:Tryz.prog.underlying 74=some (.struct (Tryz.prog.fieldsOf 74)):=by kernel_rfl
 have hp4:Tryz.prog.stoodInHeld 74=false:=by kernel_rfl
 obtain ⟨nd,hr,ou,f,pk,sz⟩:=x
 obtain ⟨nd',hr',ou',f',pk',sz'⟩:=y
 have e5:=fun w => equalIn_flowR d w f f'
 obtain ⟨p,s1,h1,l1,s2,h2,l2,fp,tp⟩:=f
 obtain ⟨p',s1',h1',l1',s2',h2',l2',fp',tp'⟩:=f'
 rw [run_equalIn_agg w (d + 3) 74 _ _ hS4 hp4]
 simp only [FV.cells] at e5
 simp only [Program.fieldsOf,Tryz.underlying74,rpC,RP.eqB,beq_toListBytes]
 generalize FV.eqR _ _=E at *
 go_simp
 clear u1 a1 z1 u2 a2 z2 u3 a3 z3 u5 a5 z5 hS4 hp4 e5
 repeat' split
 all_goals (try simp_all)
 all_goals (intros;try simp_all)
def eqRB (x y:RB):Bool:=x.1.eqB y.1
theorem eqGuard_rb (op:BinOp) (x y:Operand) (f g:RB) (w:World) (h:op=.eql ∨ op=.neq):(eqGuard op 74 x y (.agg (layRb.enc f).toArray) (.agg (layRb.enc g).toArray)).run Tryz.prog w=.ok () w:=by
 rcases h with rfl | rfl
 ·exact run_eqGuard_agg w _ _ _ _ _ _ (by kernel_rfl)
 ·exact run_eqGuard_agg w _ _ _ _ _ _ (by kernel_rfl)
theorem neq_rb (f g:RB) (w:World):(binOp .neq 74 (.agg (layRb.enc f).toArray) (.agg (layRb.enc g).toArray)).run Tryz.prog w=.ok (.bool (!eqRB f g)) w:=by
 have h:=equalIn_rp 9996 w f.1 g.1
 have e:eqRB f g=f.1.eqB g.1:=rfl
 rw [e]
 show (binOp .neq 74 (.agg (rpC f.1).toArray) (.agg (rpC g.1).toArray)).run Tryz.prog w=_
 rw [run_neq_struct,show (10000:Nat)=9996 + 4 from rfl,h]
 rfl
theorem eqB_self (x:RP):x.eqB x=true:=by
 unfold RP.eqB FV.eqR
 rw [beq_toListBytes]
 simp
/-! ### order -/
def cA (s:Bool) (h l:Int) (s':Bool) (h' l':Int):Int:=cN (numA s h.toNat l.toNat) (numA s' h'.toNat l'.toNat)
def cS (a b:ByteArray):Int:=Lib.compareBytes a.data.toList b.data.toList
def cBo (a b:Bool):Int:=if a=b then 0 else if b=true then -1 else 1
def cF (a b:FV):Int:=orI (Lib.compareInt a.p b.p) (orI (cA a.s1 a.h1 a.l1 b.s1 b.h1 b.l1) (orI (cA a.s2 a.h2 a.l2 b.s2 b.h2 b.l2) (orI (Lib.compareInt a.fp b.fp) (Lib.compareInt a.tp b.tp))))
def cR (a b:RB):Int:=orI (Lib.compareInt a.1.hour b.1.hour) (orI (cS a.1.node b.1.node) (orI (cBo a.1.out b.1.out) (cF a.1.f b.1.f)))
def smallC (c:UInt8):Bool:=97≤c && c≤122
def digitC (c:UInt8):Bool:=48≤c && c≤57
def keyC (c:UInt8):Bool:=smallC c || digitC c || c == 45 || c == 95
def keyB (l:List UInt8):Bool:=decide (1≤l.length∧l.length≤40) && (l.take 1).all smallC && l.all keyC
def rowRF (r:RP):Int :=
 if keyB r.node.data.toList=false then 5
 else if outB r.hour 0 96023=true then 1
 else if flowFault r.f ≠ 0 then flowFault r.f
 else if outB r.pk 1 1000000000000=true ∨ outB r.sz 0 1000000000000=true then 1 else 0
def ordF:Option RB→RB→Int
 | none,_ => 0
 | some p,r => if 0≤cR p r then 7 else 0
def afterRF (prev:Option RB) (r:RB):Int:=if rowRF r.1 ≠ 0 then rowRF r.1 else ordF prev r
def scanRF:Option RB→List RB→Int
 | _, [] => 0
 | p,r :: l => if afterRF p r ≠ 0 then afterRF p r else scanRF (some r) l
def repF (L:List RB):Int:=if 3000 < L.length then 2 else scanRF none L
open Go.RowKit Go Go.Sort
theorem putK_take (F cur:Array Value) (h:F.size≤cur.size):(putCells id 0 F cur).size=cur.size∧(putCells id 0 F cur).toList.take F.size=F.toList:=by
 refine ⟨by simp [putCells],List.ext_getElem? fun i => ?_⟩
 rcases Nat.lt_or_ge i F.size with hi | hi
 ·rw [List.getElem?_take,if_pos hi,Array.getElem?_toList,Array.getElem?_toList]
  simp only [putCells,Array.getElem?_mapIdx]
  rw [Array.getElem?_eq_getElem (by omega)]
  simp [hi]
 ·rw [List.getElem?_eq_none (by simp;omega),List.getElem?_eq_none (by simpa using hi)]
section
variable {α:Type} [Inhabited α] {E:Lay α} {f:α→Nat}
theorem flat_all (E:Lay α) (d:Array α):(flatK E.enc E.K d).toList=E.all d.toList:=by
 refine List.ext_getElem? fun t => ?_
 rcases Nat.lt_or_ge t (d.size * E.K) with h | h
 ·have hs:t < (flatK E.enc E.K d).size:=by rw [size_flatK];exact h
  obtain ⟨x,hx,e⟩:=E.all_cut d.toList t (by simpa using h)
  rw [e,Array.getElem?_toList,Array.getElem?_eq_getElem hs, ← getElem!_pos (flatK E.enc E.K d) t hs,get_flatK _ _ _ _ h]
  have hx2:d[t / E.K]?=some x:=by rw [← Array.getElem?_toList];exact hx
  have hd:d[t / E.K]! = x:=by rw [getElem!_def,hx2]
  have hm:t % E.K < (E.enc x).length:=by rw [E.len];exact Nat.mod_lt _ E.pos
  rw [hd,List.getElem?_eq_getElem hm]
  first | rfl | simp [hm]
 ·rw [List.getElem?_eq_none (by rw [Array.length_toList,size_flatK];exact h),List.getElem?_eq_none (by rw [E.all_len];simpa using h)]
theorem OwnK.holds {w:World} {B g n c:Nat} {M:List α} (h:OwnK E w B (.slice (some ⟨g,0,none⟩) n c) M):HoldsK E.enc E.K w g 0 M.toArray∧g < w.heap.size:=by
 obtain ⟨_,hb,hc,hm,cur,hg,hs,ht⟩:=h.block
 refine ⟨?_,lt_of_block hg⟩
 have hF:=flat_all E M.toArray
 rw [List.toList_toArray] at hF
 have hfs:(flatK E.enc E.K M.toArray).size=M.length * E.K:=by rw [size_flatK];rfl
 intro j hj
 rw [hfs] at hj
 refine ⟨?_,frozen_of_row w g (0 + j) cur _ hg⟩
 rw [Nat.zero_add,cell_of_row w g j _ _ _ hg]
 have h1:(cur.toList.take (M.length * E.K))[j]?=(flatK E.enc E.K M.toArray).toList[j]?:=by rw [ht,hF]
 rw [List.getElem?_take,if_pos hj,Array.getElem?_toList,Array.getElem?_toList,Array.getElem?_eq_getElem (xs:=flatK E.enc E.K M.toArray) (by omega)] at h1
 rw [h1,getElem!_pos _ j (by omega)]
 rfl
end
end Go.Proofs.YtgkhcdjoilgfmaaGreatDoor
namespace Go.Proofs
open Go.Shelf
end Go.Proofs
namespace Go.Proofs
open Go.Shelf
end Go.Proofs
namespace Go.Proofs.YtgkhcdjoilgfmaaGreatDoor
open Go.RowKit Go Go.Sort
end Go.Proofs.YtgkhcdjoilgfmaaGreatDoor
