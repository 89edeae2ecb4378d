/-
  The contract of slices.SortFunc at a slice of structs over this program, as the kit's lay-plain.mjs prints it. Condition: the slice has no element, or its cells are known, fewer than 2^62 of them.
  The contract of slices.SortFunc at a slice of structs over this program, as the kit's lay-plain.mjs prints it. Condition: the slice has no element, or its cells are known, fewer than 2^62 of them.
  Rows of prefixes, of ranges, of spans: how they lie; the comparisons of the two sorts; the sorts; the copies.
  The copies and the sorts of rows of ranges (program) and of spans (reference).
  span.touches: whether a range that does not begin earlier has addresses in common with another one, or lies next to it.
  Several cells of one element of an own row set, one after the other.
  span.joined: ranges in order, put together where they touch.
  span.Of: the ranges of prefixes, in any order.
-/
import Derived.Shelf.SlSortCmp.NoneTotal
import Derived.Test.YteldaicgaeooiaaGreatDoorProg
import Derived.Test.YteldaicgaeooiaaGreatDoorPK6
import Derived.Test.YteldaicgaeooiaaGreatDoorPK4
import Derived.WalkSpells
import Derived.Deep.Cut
import Derived.Deep.Light
set_option linter.unusedVariables false
set_option maxRecDepth 100000
set_option maxHeartbeats 4000000
namespace Go.Proofs
open Go.Shelf
def Tryz.pdqRg_ren:Go.Shelf.Ren:=⟨fun | 14 => 183 | 20 => 200 | 21 => 201 | 22 => 202 | 23 => 203 | 24 => 204 | 25 => 205 | 26 => 206 | 27 => 207 | 46 => 224 | 47 => 191 | 48 => 192 | 49 => 225 | 50 => 226 | 15 => 141 | 57 => 236 | 28 => 177 | 29 => 178 | n => n,fun | 24 => 92 | 22 => 71 | 3 => 3 | 25 => 172 | 4 => 4 | 0 => 0 | 46 => 185 | 45 => 184 | 50 => 189 | 66 => 202 | 39 => 108 | 55 => 26 | 70 => 206 | 76 => 224 | 77 => 163 | 53 => 140 | 5 => 5 | 9 => 9 | n => n,fun | n => n⟩
theorem Tryz.pdqRg:Go.Proofs.SlLaysF0.n14 Tryz.prog Tryz.pdqRg_ren:={
 mixed:=by kernel_rfl
 f14:=⟨Tryz.f183.name,by decide,Tryz.func183.trans (congrArg some (by kernel_rfl))⟩
 f15:=Tryz.func141.trans (congrArg some (by kernel_rfl))
 f20:=⟨Tryz.f200.name,by decide,Tryz.func200.trans (congrArg some (by kernel_rfl))⟩
 f21:=⟨Tryz.f201.name,by decide,Tryz.func201.trans (congrArg some (by kernel_rfl))⟩
 f22:=⟨Tryz.f202.name,by decide,Tryz.func202.trans (congrArg some (by kernel_rfl))⟩
 f23:=⟨Tryz.f203.name,by decide,Tryz.func203.trans (congrArg some (by kernel_rfl))⟩
 f24:=⟨Tryz.f204.name,by decide,Tryz.func204.trans (congrArg some (by kernel_rfl))⟩
 f25:=⟨Tryz.f205.name,by decide,Tryz.func205.trans (congrArg some (by kernel_rfl))⟩
 f26:=⟨Tryz.f206.name,by decide,Tryz.func206.trans (congrArg some (by kernel_rfl))⟩
 f27:=⟨Tryz.f207.name,by decide,Tryz.func207.trans (congrArg some (by kernel_rfl))⟩
 f28:=Tryz.func177.trans (congrArg some (by kernel_rfl))
 f29:=Tryz.func178.trans (congrArg some (by kernel_rfl))
 f46:=⟨Tryz.f224.name,by decide,Tryz.func224.trans (congrArg some (by kernel_rfl))⟩
 f47:=Tryz.func191.trans (congrArg some (by kernel_rfl))
 f48:=Tryz.func192.trans (congrArg some (by kernel_rfl))
 f49:=⟨Tryz.f225.name,by decide,Tryz.func225.trans (congrArg some (by kernel_rfl))⟩
 f50:=⟨Tryz.f226.name,by decide,Tryz.func226.trans (congrArg some (by kernel_rfl))⟩
 f57:=⟨Tryz.f236.name,by decide,Tryz.func236.trans (congrArg some (by kernel_rfl))⟩
 t0:=Tryz.underlying0
 a0:=Tryz.isAgg0
 z0:=Tryz.sizeOf0
 v0:=Tryz.zeroValue0
 t3:=Tryz.underlying3
 a3:=Tryz.isAgg3
 z3:=Tryz.sizeOf3
 v3:=Tryz.zeroValue3
 t4:=Tryz.underlying4
 a4:=Tryz.isAgg4
 z4:=Tryz.sizeOf4
 v4:=Tryz.zeroValue4
 t5:=Tryz.underlying5
 a5:=Tryz.isAgg5
 z5:=Tryz.sizeOf5
 v5:=Tryz.zeroValue5
 t9:=Tryz.underlying9
 a9:=Tryz.isAgg9
 z9:=Tryz.sizeOf9
 v9:=Tryz.zeroValue9
 t22:=Tryz.underlying71
 a22:=Tryz.isAgg71
 z22:=Tryz.sizeOf71
 v22:=Tryz.zeroValue71
 t25:=Tryz.underlying172
 a25:=Tryz.isAgg172
 z25:=Tryz.sizeOf172
 v25:=Tryz.zeroValue172
 t39:=Tryz.underlying108
 a39:=Tryz.isAgg108
 z39:=Tryz.sizeOf108
 v39:=Tryz.zeroValue108
 t45:=Tryz.underlying184
 a45:=Tryz.isAgg184
 z45:=Tryz.sizeOf184
 v45:=Tryz.zeroValue184
 t46:=Tryz.underlying185
 a46:=Tryz.isAgg185
 z46:=Tryz.sizeOf185
 v46:=Tryz.zeroValue185
 t50:=Tryz.underlying189
 a50:=Tryz.isAgg189
 z50:=Tryz.sizeOf189
 v50:=Tryz.zeroValue189
 t53:=Tryz.underlying140
 a53:=Tryz.isAgg140
 z53:=Tryz.sizeOf140
 v53:=Tryz.zeroValue140
 t55:=Tryz.underlying26
 a55:=Tryz.isAgg26
 z55:=Tryz.sizeOf26
 v55:=Tryz.zeroValue26
 t66:=Tryz.underlying202
 a66:=Tryz.isAgg202
 z66:=Tryz.sizeOf202
 v66:=Tryz.zeroValue202
 t70:=Tryz.underlying206
 a70:=Tryz.isAgg206
 z70:=Tryz.sizeOf206
 v70:=Tryz.zeroValue206
 t76:=Tryz.underlying224
 a76:=Tryz.isAgg224
 z76:=Tryz.sizeOf224
 v76:=Tryz.zeroValue224
 t77:=Tryz.underlying163
 a77:=Tryz.isAgg163
 z77:=Tryz.sizeOf163
 v77:=Tryz.zeroValue163 }
open Go.Sort Go.RowKit in
theorem Tryz.slices_pdq_Rg {α:Type} [Inhabited α] (enc:α→List Value) (hk:∀ x,(enc x).length=6) (h1:∀ x, ∀ v ∈ enc x,v.oneCell'=true) (cf:α→α→Int) (hO:SWO (ltOf cf)) (g:Nat) (cb:Array Value) (blk off cap lim:Nat) (d:Array α) (w:World)
  (eg:∀ args w,(callFunc g args).run Tryz.prog w=.ok (.enter g args) w) (hcmp:CmpLays Tryz.prog g cb enc 6 cf blk off d.size w) (hH:HoldsK enc 6 w blk off d) (hblk:blk < w.heap.size) (hsz:d.size < 4611686018427387904) (hlim:lim < 4611686018427387904) :
  Calls Tryz.prog 183 #[.slice (some ⟨blk,off,none⟩) d.size cap, .int .i64 (0:Nat), .int .i64 (d.size:Nat), .int .i64 (lim:Nat), .func (.func g) #[] cb] w fun e w' =>
   e=.returned (.tuple #[])∧∃ d' n os,PermIn 0 d.size d d'∧SortedIn (ltOf cf) 0 d.size d'∧w'=sortWorldK enc 6 w blk off n d' os :=
 (AnyQ.pdqsortCmpFunc_all Tryz.pdqRg 6 Tryz.isAgg92 Tryz.sizeOf92 enc cf g cb hO blk off cap d w eg hcmp ⟨hk,h1,hH,hblk⟩ (d.size + 1) 0 d.size lim d w (by omega) rfl (SWK.start hH) (Nat.zero_le _) (Nat.le_refl _) hsz hlim (Or.inl rfl)).mono fun _ _ ⟨he,n,os,hw⟩ =>
  have h:=pdq_sorts (ltOf cf) hO d 0 d.size lim true true (Nat.zero_le _) (Nat.le_refl _) (Or.inl rfl)
  ⟨he,_,n,os,h.1,h.2,hw⟩
open Go.Sort Go.RowKit in
theorem Tryz.slices_pdq_Rg_none (p:Option Addr) (cap:Nat) (lim:Int) (fv:Value) (w:World) :
  Calls Tryz.prog 183 #[.slice p 0 cap, .int .i64 0, .int .i64 0, .int .i64 lim,fv] w fun e w' => e=.returned (.tuple #[])∧w'=w :=
 AnyF.pdqsortCmpFunc_none Tryz.pdqRg p cap lim fv w
end Go.Proofs
namespace Go.Proofs
open Go.Shelf
def Tryz.sortQs_ren:Go.Shelf.Ren:=⟨fun | 6 => 168 | 15 => 141 | 14 => 189 | 28 => 177 | 29 => 178 | 20 => 211 | 21 => 212 | 22 => 213 | 23 => 214 | 24 => 215 | 25 => 216 | 26 => 217 | 27 => 218 | 46 => 231 | 47 => 191 | 48 => 192 | 49 => 232 | 50 => 233 | 57 => 238 | n => n,fun | 22 => 134 | 24 => 156 | 25 => 183 | 3 => 3 | 39 => 108 | 0 => 0 | 53 => 140 | 55 => 26 | 4 => 4 | 46 => 185 | 45 => 184 | 50 => 189 | 5 => 5 | 9 => 9 | 66 => 202 | 70 => 206 | 76 => 224 | 77 => 163 | n => n,fun | n => n⟩
theorem Tryz.sortQs:Go.Proofs.SlLaysF0.n6 Tryz.prog Tryz.sortQs_ren:={
 mixed:=by kernel_rfl
 f6:=⟨Tryz.f168.name,by decide,Tryz.func168.trans (congrArg some (by kernel_rfl))⟩
 f14:=⟨Tryz.f189.name,by decide,Tryz.func189.trans (congrArg some (by kernel_rfl))⟩
 f15:=Tryz.func141.trans (congrArg some (by kernel_rfl))
 f20:=⟨Tryz.f211.name,by decide,Tryz.func211.trans (congrArg some (by kernel_rfl))⟩
 f21:=⟨Tryz.f212.name,by decide,Tryz.func212.trans (congrArg some (by kernel_rfl))⟩
 f22:=⟨Tryz.f213.name,by decide,Tryz.func213.trans (congrArg some (by kernel_rfl))⟩
 f23:=⟨Tryz.f214.name,by decide,Tryz.func214.trans (congrArg some (by kernel_rfl))⟩
 f24:=⟨Tryz.f215.name,by decide,Tryz.func215.trans (congrArg some (by kernel_rfl))⟩
 f25:=⟨Tryz.f216.name,by decide,Tryz.func216.trans (congrArg some (by kernel_rfl))⟩
 f26:=⟨Tryz.f217.name,by decide,Tryz.func217.trans (congrArg some (by kernel_rfl))⟩
 f27:=⟨Tryz.f218.name,by decide,Tryz.func218.trans (congrArg some (by kernel_rfl))⟩
 f28:=Tryz.func177.trans (congrArg some (by kernel_rfl))
 f29:=Tryz.func178.trans (congrArg some (by kernel_rfl))
 f46:=⟨Tryz.f231.name,by decide,Tryz.func231.trans (congrArg some (by kernel_rfl))⟩
 f47:=Tryz.func191.trans (congrArg some (by kernel_rfl))
 f48:=Tryz.func192.trans (congrArg some (by kernel_rfl))
 f49:=⟨Tryz.f232.name,by decide,Tryz.func232.trans (congrArg some (by kernel_rfl))⟩
 f50:=⟨Tryz.f233.name,by decide,Tryz.func233.trans (congrArg some (by kernel_rfl))⟩
 f57:=⟨Tryz.f238.name,by decide,Tryz.func238.trans (congrArg some (by kernel_rfl))⟩
 t0:=Tryz.underlying0
 a0:=Tryz.isAgg0
 z0:=Tryz.sizeOf0
 v0:=Tryz.zeroValue0
 t3:=Tryz.underlying3
 a3:=Tryz.isAgg3
 z3:=Tryz.sizeOf3
 v3:=Tryz.zeroValue3
 t4:=Tryz.underlying4
 a4:=Tryz.isAgg4
 z4:=Tryz.sizeOf4
 v4:=Tryz.zeroValue4
 t5:=Tryz.underlying5
 a5:=Tryz.isAgg5
 z5:=Tryz.sizeOf5
 v5:=Tryz.zeroValue5
 t9:=Tryz.underlying9
 a9:=Tryz.isAgg9
 z9:=Tryz.sizeOf9
 v9:=Tryz.zeroValue9
 t22:=Tryz.underlying134
 a22:=Tryz.isAgg134
 z22:=Tryz.sizeOf134
 v22:=Tryz.zeroValue134
 t25:=Tryz.underlying183
 a25:=Tryz.isAgg183
 z25:=Tryz.sizeOf183
 v25:=Tryz.zeroValue183
 t39:=Tryz.underlying108
 a39:=Tryz.isAgg108
 z39:=Tryz.sizeOf108
 v39:=Tryz.zeroValue108
 t45:=Tryz.underlying184
 a45:=Tryz.isAgg184
 z45:=Tryz.sizeOf184
 v45:=Tryz.zeroValue184
 t46:=Tryz.underlying185
 a46:=Tryz.isAgg185
 z46:=Tryz.sizeOf185
 v46:=Tryz.zeroValue185
 t50:=Tryz.underlying189
 a50:=Tryz.isAgg189
 z50:=Tryz.sizeOf189
 v50:=Tryz.zeroValue189
 t53:=Tryz.underlying140
 a53:=Tryz.isAgg140
 z53:=Tryz.sizeOf140
 v53:=Tryz.zeroValue140
 t55:=Tryz.underlying26
 a55:=Tryz.isAgg26
 z55:=Tryz.sizeOf26
 v55:=Tryz.zeroValue26
 t66:=Tryz.underlying202
 a66:=Tryz.isAgg202
 z66:=Tryz.sizeOf202
 v66:=Tryz.zeroValue202
 t70:=Tryz.underlying206
 a70:=Tryz.isAgg206
 z70:=Tryz.sizeOf206
 v70:=Tryz.zeroValue206
 t76:=Tryz.underlying224
 a76:=Tryz.isAgg224
 z76:=Tryz.sizeOf224
 v76:=Tryz.zeroValue224
 t77:=Tryz.underlying163
 a77:=Tryz.isAgg163
 z77:=Tryz.sizeOf163
 v77:=Tryz.zeroValue163 }
open Go.Sort Go.RowKit in
theorem Tryz.slices_SortFunc_Qs {α:Type} [Inhabited α] (enc:α→List Value) (hk:∀ x,(enc x).length=18) (h1:∀ x, ∀ v ∈ enc x,v.oneCell'=true) (cf:α→α→Int) (hO:SWO (ltOf cf)) (g:Nat) (cb:Array Value) (blk off cap:Nat) (d:Array α) (w:World)
  (eg:∀ args w,(callFunc g args).run Tryz.prog w=.ok (.enter g args) w) (hcmp:CmpLays Tryz.prog g cb enc 18 cf blk off d.size w) (hH:HoldsK enc 18 w blk off d) (hblk:blk < w.heap.size) (hsz:d.size < 4611686018427387904) :
  Calls Tryz.prog 168 #[.slice (some ⟨blk,off,none⟩) d.size cap, .func (.func g) #[] cb] w fun e w' =>
   e=.returned (.tuple #[])∧∃ d' n os,PermIn 0 d.size d d'∧SortedIn (ltOf cf) 0 d.size d'∧w'=sortWorldK enc 18 w blk off n d' os :=
 AnyQ.slices_SortFunc Tryz.sortQs 18 Tryz.isAgg156 Tryz.sizeOf156 enc hk h1 cf hO g cb blk off cap d w eg hcmp hH hblk hsz
open Go.Sort Go.RowKit in
theorem Tryz.slices_SortFunc_Qs_none (p:Option Addr) (cap:Nat) (fv:Value) (w:World) :
  Calls Tryz.prog 168 #[.slice p 0 cap,fv] w fun e w' => e=.returned (.tuple #[])∧w'=w :=
 AnyF.slices_SortFunc_none Tryz.sortQs p cap fv w
end Go.Proofs
namespace Go.Proofs.YteldaicgaeooiaaGreatDoor
open Go.RowKit Go Go.Sort
abbrev Pf:=Bool × Nat × Nat × Int
def pfC (p:Pf):List Value:=[.bool p.1, .int .u64 ((p.2.1:Nat):Int), .int .u64 ((p.2.2.1:Nat):Int), .int .i64 p.2.2.2]
def layPf:Lay Pf:=⟨pfC,4,30,by decide,fun _ => rfl,fun p v hv => by simp [pfC] at hv;rcases hv with rfl | rfl | rfl | rfl <;> rfl⟩
def rgC (p:Sp):List Value:=[.bool (sixN p.1), .int .u64 ((hiN p.1:Nat):Int), .int .u64 ((loN p.1:Nat):Int), .bool (sixN p.2), .int .u64 ((hiN p.2:Nat):Int), .int .u64 ((loN p.2:Nat):Int)]
def layRg:Lay Sp:=⟨rgC,6,92,by decide,fun _ => rfl,fun p v hv => by simp [rgC] at hv;rcases hv with rfl | rfl | rfl | rfl | rfl | rfl <;> rfl⟩
def qsC (p:Sp):List Value:=(wN p.1 ++ wN p.2).toList
theorem wN_one (N:Nat):∀ v ∈ (wN N).toList,v.oneCell'=true:=fun v hv => by
 simp [wN,wd] at hv
 rcases hv with rfl | rfl | rfl | rfl | rfl | rfl | rfl | rfl | rfl <;> rfl
def layQs:Lay Sp:=⟨qsC,18,156,by decide,fun _ => rfl,fun p v hv => by
 rw [qsC,Array.toList_append,List.mem_append] at hv
 rcases hv with hv | hv <;> exact wN_one _ v hv⟩
theorem pfE:EI Tryz.prog 31 30 4 32:=EI.mk' (z:=.agg #[.bool false, .int .u64 0, .int .u64 0, .int .i64 0]) Tryz.underlying31 (by kernel_rfl) rfl (by decide)
theorem rgE:EI Tryz.prog 72 92 6 48:=EI.mk' (z:=.agg #[.bool false, .int .u64 0, .int .u64 0, .bool false, .int .u64 0, .int .u64 0]) Tryz.underlying72 (by kernel_rfl) rfl (by decide)
theorem qsE:EI Tryz.prog 134 156 18 144:=EI.mk' (z:=.agg #[.int .i64 0, .int .i64 0, .int .i64 0, .int .i64 0, .int .i64 0, .int .i64 0, .int .i64 0, .int .i64 0, .int .i64 0, .int .i64 0, .int .i64 0, .int .i64 0, .int .i64 0, .int .i64 0, .int .i64 0, .int .i64 0, .int .i64 0, .int .i64 0]) Tryz.underlying134 (by kernel_rfl) rfl (by decide)
/-! ### The comparisons -/
def nmN (x:Nat):Nat:=numA (sixN x) (hiN x) (loN x)
def keyRg (p:Sp):Nat:=nmN p.1
def keyQs (p:Sp):Nat:=p.1 % 65536 ^ 9
theorem cmpRg_any (p q:Sp) (w:World):Calls Tryz.prog 156 #[.agg (layRg.enc p).toArray, .agg (layRg.enc q).toArray] w (RetD (.int .i64 (cfK keyRg p q)) w):=by
 have HC:=Lib.hid fun wx => spanCompareD_any (sixN p.1) (hiN p.1) (loN p.1) (sixN q.1) (hiN q.1) (loN q.1) wx (hiN_u _) (loN_u _) (hiN_u _) (loN_u _)
 show Calls Tryz.prog 156 #[.agg #[.bool (sixN p.1), .int .u64 ((hiN p.1:Nat):Int), .int .u64 ((loN p.1:Nat):Int), .bool (sixN p.2), .int .u64 ((hiN p.2:Nat):Int), .int .u64 ((loN p.2:Nat):Int)], .agg #[.bool (sixN q.1), .int .u64 ((hiN q.1:Nat):Int), .int .u64 ((loN q.1:Nat):Int), .bool (sixN q.2), .int .u64 ((hiN q.2:Nat):Int), .int .u64 ((loN q.2:Nat):Int)]] w (RetD (.int .i64 (cN (numA (sixN p.1) (hiN p.1) (loN p.1)) (numA (sixN q.1) (hiN q.1) (loN q.1)))) w)
 generalize cN (numA (sixN p.1) (hiN p.1) (loN p.1)) (numA (sixN q.1) (hiN q.1) (loN q.1))=C at *
 generalize sixN p.1=a1 at *
 generalize hiN p.1=a2 at *
 generalize loN p.1=a3 at *
 generalize sixN p.2=a4 at *
 generalize hiN p.2=a5 at *
 generalize loN p.2=a6 at *
 generalize sixN q.1=b1 at *
 generalize hiN q.1=b2 at *
 generalize loN q.1=b3 at *
 generalize sixN q.2=b4 at *
 generalize hiN q.2=b5 at *
 generalize loN q.2=b6 at *
 have HP':Blk ((w.alloc (.cells #[.bool a1, .int .u64 (a2:Int), .int .u64 (a3:Int), .bool a4, .int .u64 (a5:Int), .int .u64 (a6:Int)] 92 (0,0))).alloc (.cells #[.bool b1, .int .u64 (b2:Int), .int .u64 (b3:Int), .bool b4, .int .u64 (b5:Int), .int .u64 (b6:Int)] 92 (0,0))) (w.heap.size) 92 #[.bool a1, .int .u64 (a2:Int), .int .u64 (a3:Int), .bool a4, .int .u64 (a5:Int), .int .u64 (a6:Int)] :=
  (Blk.new w 92 #[.bool a1, .int .u64 (a2:Int), .int .u64 (a3:Int), .bool a4, .int .u64 (a5:Int), .int .u64 (a6:Int)]).alloc _
 have HP:=Lib.hid HP'
 clear HP'
 have HQ':Blk ((w.alloc (.cells #[.bool a1, .int .u64 (a2:Int), .int .u64 (a3:Int), .bool a4, .int .u64 (a5:Int), .int .u64 (a6:Int)] 92 (0,0))).alloc (.cells #[.bool b1, .int .u64 (b2:Int), .int .u64 (b3:Int), .bool b4, .int .u64 (b5:Int), .int .u64 (b6:Int)] 92 (0,0))) (w.heap.size + 1) 92 #[.bool b1, .int .u64 (b2:Int), .int .u64 (b3:Int), .bool b4, .int .u64 (b5:Int), .int .u64 (b6:Int)]:=by
  have this:=Blk.new (w.alloc (.cells #[.bool a1, .int .u64 (a2:Int), .int .u64 (a3:Int), .bool a4, .int .u64 (a5:Int), .int .u64 (a6:Int)] 92 (0,0))) 92 #[.bool b1, .int .u64 (b2:Int), .int .u64 (b3:Int), .bool b4, .int .u64 (b5:Int), .int .u64 (b6:Int)]
  rw [World.size_alloc] at this
  exact this
 have HQ:=Lib.hid HQ'
 clear HQ'
 have HB:Hid (BelD w ((w.alloc (.cells #[.bool a1, .int .u64 (a2:Int), .int .u64 (a3:Int), .bool a4, .int .u64 (a5:Int), .int .u64 (a6:Int)] 92 (0,0))).alloc (.cells #[.bool b1, .int .u64 (b2:Int), .int .u64 (b3:Int), .bool b4, .int .u64 (b5:Int), .int .u64 (b6:Int)] 92 (0,0)))):=Lib.hid (((BelD.refl _).alloc _).alloc _)
 go_enter Tryz.func156,Tryz.ntmps156
 go_upto_region 1 with fail
 generalize ((w.alloc (.cells #[.bool a1, .int .u64 (a2:Int), .int .u64 (a3:Int), .bool a4, .int .u64 (a5:Int), .int .u64 (a6:Int)] 92 (0,0))).alloc (.cells #[.bool b1, .int .u64 (b2:Int), .int .u64 (b3:Int), .bool b4, .int .u64 (b5:Int), .int .u64 (b6:Int)] 92 (0,0)))=w1 at *
 have p0:=HP.out.cell 0
 have p1:=HP.out.cell 1
 have p2:=HP.out.cell 2
 simp at p0 p1 p2
 have q0:=HQ.out.cell 0
 have q1:=HQ.out.cell 1
 have q2:=HQ.out.cell 2
 simp at q0 q1 q2
 go_wp2_with fail
 refine (HC.out _).mono ?_
 rintro e w2 ⟨rfl,hb⟩
 go_wp2_with fail
 go_ret
 exact ⟨rfl,HB.out.trans hb⟩
theorem cmpQs_any (p q:Sp) (w:World):Calls Tryz.prog 169 #[.agg (layQs.enc p).toArray, .agg (layQs.enc q).toArray] w (RetD (.int .i64 (cfK keyQs p q)) w):=by
 have HC:=Lib.hid fun wx => wideCmpD_any (digN p.1) (digN q.1) wx (digN_lt _) (digN_lt _)
 rw [PW_digN,PW_digN] at HC
 show Calls Tryz.prog 169 #[.agg (wN p.1 ++ wN p.2), .agg (wN q.1 ++ wN q.2)] w (RetD (.int .i64 (cN (p.1 % 65536 ^ 9) (q.1 % 65536 ^ 9))) w)
 generalize cN (p.1 % 65536 ^ 9) (q.1 % 65536 ^ 9)=C at *
 have HP':Blk ((w.alloc (.cells (wN p.1 ++ wN p.2) 156 (0,0))).alloc (.cells (wN q.1 ++ wN q.2) 156 (0,0))) (w.heap.size) 156 (wN p.1 ++ wN p.2) :=
  (Blk.new w 156 (wN p.1 ++ wN p.2)).alloc _
 have HP:=Lib.hid HP'
 clear HP'
 have HQ':Blk ((w.alloc (.cells (wN p.1 ++ wN p.2) 156 (0,0))).alloc (.cells (wN q.1 ++ wN q.2) 156 (0,0))) (w.heap.size + 1) 156 (wN q.1 ++ wN q.2):=by
  have this:=Blk.new (w.alloc (.cells (wN p.1 ++ wN p.2) 156 (0,0))) 156 (wN q.1 ++ wN q.2)
  rw [World.size_alloc] at this
  exact this
 have HQ:=Lib.hid HQ'
 clear HQ'
 have HB:Hid (BelD w ((w.alloc (.cells (wN p.1 ++ wN p.2) 156 (0,0))).alloc (.cells (wN q.1 ++ wN q.2) 156 (0,0)))):=Lib.hid (((BelD.refl _).alloc _).alloc _)
 have e1:∀ i,i < 9→(wN p.1 ++ wN p.2)[i]?=some (.int .i64 ((digN p.1 i:Nat):Int)):=fun i hi => by
  rw [Array.getElem?_append_left (show i < (wN p.1).size from hi)];exact wd_get _ _ hi
 have e2:∀ i,i < 9→(wN q.1 ++ wN q.2)[i]?=some (.int .i64 ((digN q.1 i:Nat):Int)):=fun i hi => by
  rw [Array.getElem?_append_left (show i < (wN q.1).size from hi)];exact wd_get _ _ hi
 have E1:=Lib.hid e1
 have E2:=Lib.hid e2
 clear e1 e2
 generalize wN p.1 ++ wN p.2=X at *
 generalize wN q.1 ++ wN q.2=Y at *
 unfold wd at HC
 generalize digN p.1=f at *
 generalize digN q.1=g at *
 go_enter Tryz.func169,Tryz.ntmps169
 go_upto_region 1 with fail
 generalize ((w.alloc (.cells X 156 (0,0))).alloc (.cells Y 156 (0,0)))=w1 at *
 have p0:=(HP.out.cell 0).trans (E1.out 0 (by decide))
 have p1:=(HP.out.cell 1).trans (E1.out 1 (by decide))
 have p2:=(HP.out.cell 2).trans (E1.out 2 (by decide))
 have p3:=(HP.out.cell 3).trans (E1.out 3 (by decide))
 have p4:=(HP.out.cell 4).trans (E1.out 4 (by decide))
 have p5:=(HP.out.cell 5).trans (E1.out 5 (by decide))
 have p6:=(HP.out.cell 6).trans (E1.out 6 (by decide))
 have p7:=(HP.out.cell 7).trans (E1.out 7 (by decide))
 have p8:=(HP.out.cell 8).trans (E1.out 8 (by decide))
 have q0:=(HQ.out.cell 0).trans (E2.out 0 (by decide))
 have q1:=(HQ.out.cell 1).trans (E2.out 1 (by decide))
 have q2:=(HQ.out.cell 2).trans (E2.out 2 (by decide))
 have q3:=(HQ.out.cell 3).trans (E2.out 3 (by decide))
 have q4:=(HQ.out.cell 4).trans (E2.out 4 (by decide))
 have q5:=(HQ.out.cell 5).trans (E2.out 5 (by decide))
 have q6:=(HQ.out.cell 6).trans (E2.out 6 (by decide))
 have q7:=(HQ.out.cell 7).trans (E2.out 7 (by decide))
 have q8:=(HQ.out.cell 8).trans (E2.out 8 (by decide))
 go_wp2_with fail
 refine (HC.out _).mono ?_
 rintro e w2 ⟨rfl,hb⟩
 go_wp2_with fail
 go_ret
 exact ⟨rfl,HB.out.trans hb⟩
theorem nil_rg (w:World) (a:Option Addr) (l c:Nat):(binOp .eql 72 (.slice a l c) (.slice none 0 0)).run Tryz.prog w=.ok (.bool a.isNone) w :=
 Lib.run_eql_slice_nil (h:=Tryz.underlying72) ..
theorem clone_rg (ad:Option Addr) (n c:Nat) (L:List Sp) (w:World) (h:RdK layRg w ad L) (hn:L.length=n) (hs:n≤1000000) :
  Calls Tryz.prog 154 #[.slice ad n c] w fun e w' => ∃ v,e=.returned v∧OwnK layRg w' w.heap.size v L∧Below w.heap.size w w':=by
 cases ad with
 | none =>
   have en:=fun w => nil_rg w none n c
   simp only [Option.isNone_none] at en
   have hL:Hid (L=[]):=Lib.hid h.none_
   clear h hn hs
   go_enter Tryz.func154,Tryz.ntmps154
   go_wp2
   go_ret
   exact ⟨_,rfl,by rw [hL.out];exact OwnK.nil _ _ _,Below.refl _ _⟩
 | some a =>
   have en:=fun w => nil_rg w (some a) n c
   simp only [Option.isNone_some] at en
   subst hn
   have HS:=Lib.hid h.src
   have hB:Hid (Below w.heap.size w (w.alloc (.cells #[] layRg.ty (0,0)))):=Lib.hid (below_alloc (Below.refl _ _) _)
   clear h
   go_enter Tryz.func154,Tryz.ntmps154
   go_wp2_with (at_builtin;refine wpList_app rgE rfl (.tmp 5) (.tmp 6) rfl rfl (ownK_empty layRg w) rfl (src_later HS.out hB.out) (layRg.all_one L) ?c2 ?c3 ?c4 ?_)
   case c2 => unfold maxLen;simp only [List.length_nil];omega
   case c3 => simp only [List.length_nil];omega
   case c4 => simp
   intro v' w' hO hG
   have HO:Hid (OwnK layRg w' w.heap.size v' L):=Lib.hid hO
   have HG:=Lib.hid hG
   clear hO hG
   go_wp2
   go_ret
   exact ⟨_,rfl,HO.out,HG.out.below (u:=.slice (some ⟨w.heap.size,0,none⟩) 0 0) (by simp) (by intro k hk;simp [Value.ownBlock] at hk;omega) |> (below_alloc (Below.refl _ _) _).trans⟩
theorem nil_qs (w:World) (a:Option Addr) (l c:Nat):(binOp .eql 134 (.slice a l c) (.slice none 0 0)).run Tryz.prog w=.ok (.bool a.isNone) w :=
 Lib.run_eql_slice_nil (h:=Tryz.underlying134) ..
theorem clone_qs (ad:Option Addr) (n c:Nat) (L:List Sp) (w:World) (h:RdK layQs w ad L) (hn:L.length=n) (hs:n≤1000000) :
  Calls Tryz.prog 167 #[.slice ad n c] w fun e w' => ∃ v,e=.returned v∧OwnK layQs w' w.heap.size v L∧Below w.heap.size w w':=by
 cases ad with
 | none =>
   have en:=fun w => nil_qs w none n c
   simp only [Option.isNone_none] at en
   have hL:Hid (L=[]):=Lib.hid h.none_
   clear h hn hs
   go_enter Tryz.func167,Tryz.ntmps167
   go_wp2
   go_ret
   exact ⟨_,rfl,by rw [hL.out];exact OwnK.nil _ _ _,Below.refl _ _⟩
 | some a =>
   have en:=fun w => nil_qs w (some a) n c
   simp only [Option.isNone_some] at en
   subst hn
   have HS:=Lib.hid h.src
   have hB:Hid (Below w.heap.size w (w.alloc (.cells #[] layQs.ty (0,0)))):=Lib.hid (below_alloc (Below.refl _ _) _)
   clear h
   go_enter Tryz.func167,Tryz.ntmps167
   go_wp2_with (at_builtin;refine wpList_app qsE rfl (.tmp 5) (.tmp 6) rfl rfl (ownK_empty layQs w) rfl (src_later HS.out hB.out) (layQs.all_one L) ?c2 ?c3 ?c4 ?_)
   case c2 => unfold maxLen;simp only [List.length_nil];omega
   case c3 => simp only [List.length_nil];omega
   case c4 => simp
   intro v' w' hO hG
   have HO:Hid (OwnK layQs w' w.heap.size v' L):=Lib.hid hO
   have HG:=Lib.hid hG
   clear hO hG
   go_wp2
   go_ret
   exact ⟨_,rfl,HO.out,HG.out.below (u:=.slice (some ⟨w.heap.size,0,none⟩) 0 0) (by simp) (by intro k hk;simp [Value.ownBlock] at hk;omega) |> (below_alloc (Below.refl _ _) _).trans⟩
theorem sortRg_any (B n c:Nat) (ad:Option Addr) (M:List Sp) (w:World) (h:OwnK layRg w B (.slice ad n c) M) (hn:M.length=n) (hs:n≤1000000) (hB:B≤w.heap.size) :
  Calls Tryz.prog 155 #[.slice ad n c, .func (.func 156) #[] #[]] w fun e w' => e=.returned (.tuple #[])∧∃ S:List Sp,S.Perm M∧S.Pairwise (fun p q => keyRg p≤keyRg q)∧OwnK layRg w' B (.slice ad n c) S∧Below B w w':=by
 have hl:=Tryz.bits_Len (n:Int) w (by omega) (by omega)
 rw [Int.toNat_natCast] at hl
 have wr:IntKind.u64.wrap (n:Int)=n:=by simp [IntKind.wrap,IntKind.bits,IntKind.signed];omega
 rcases Nat.eq_zero_or_pos n with h0 | h0
 ·subst h0
  have hM:M=[]:=List.eq_nil_of_length_eq_zero hn
  subst hM
  have hp:=Tryz.slices_pdq_Rg_none ad c (Lib.bitLen 0:Nat) (.func (.func 156) #[] #[]) w
  have H0:=Lib.hid h
  have Hl:=Lib.hid hl
  have Hp:=Lib.hid hp
  clear h hl hp
  go_enter Tryz.func155,Tryz.ntmps155
  go_wp2_with fail
  refine Hl.out.mono ?_
  rintro e w' ⟨rfl,rfl⟩
  go_wp2_with fail
  refine Hp.out.mono ?_
  rintro e w' ⟨rfl,rfl⟩
  go_wp2_with fail
  go_end0
  exact ⟨rfl, [],List.Perm.refl _,List.Pairwise.nil,H0.out,(Below.refl _ _).mono hB⟩
 ·obtain ⟨g,c',hv2,_⟩:=h.one (by omega)
  simp at hv2
  obtain ⟨rfl, -,rfl⟩:=hv2
  have hlim:Lib.bitLen n < 4611686018427387904:=Nat.lt_of_le_of_lt (Lib.bitLen_le n 62 (by omega) (by omega)) (by omega)
  obtain ⟨hH,hlt⟩:=h.holds
  have eg:∀ args w,(callFunc 156 args).run Tryz.prog w=.ok (.enter 156 args) w:=Go.Proofs.enters_of Tryz.func156 (by kernel_rfl) rfl
  have hp:=Tryz.slices_pdq_Rg layRg.enc layRg.len layRg.one (cfK keyRg) (swoK keyRg) 156 #[] g 0 c (Lib.bitLen n) M.toArray w eg (cmpLays_of cmpRg_any) hH hlt (by show M.length < _;omega) hlim
  have hsz:M.toArray.size=n:=hn
  rw [hsz] at hp
  have hq:Calls Tryz.prog 183 #[.slice (some ⟨g,0,none⟩) n c, .int .i64 0, .int .i64 (n:Int), .int .i64 (Lib.bitLen n:Nat), .func (.func 156) #[] #[]] w fun e w' => e=.returned (.tuple #[])∧∃ S:List Sp,S.Perm M∧S.Pairwise (fun p q => keyRg p≤keyRg q)∧OwnK layRg w' B (.slice (some ⟨g,0,none⟩) n c) S∧Below B w w' :=
   hp.mono fun e w' ⟨he,d',q,os,h1,h2,h3⟩ => ⟨he,h.sorted hB (by rw [hsz];exact h1) (by rw [hsz];exact h2) h3⟩
  have Hl:=Lib.hid hl
  have Hq:=Lib.hid hq
  clear hl hq hp hH eg h hlim hsz hn hlt
  go_enter Tryz.func155,Tryz.ntmps155
  go_wp2_with fail
  refine Hl.out.mono ?_
  rintro e w' ⟨rfl,rfl⟩
  go_wp2_with fail
  refine Hq.out.mono ?_
  rintro e w2 ⟨rfl,hS⟩
  have HS:=Lib.hid hS
  clear hS
  go_wp2_with fail
  go_end0
  exact ⟨rfl,HS.out⟩
theorem sortQs_any (B n c:Nat) (ad:Option Addr) (M:List Sp) (w:World) (h:OwnK layQs w B (.slice ad n c) M) (hn:M.length=n) (hs:n≤1000000) (hB:B≤w.heap.size) :
  Calls Tryz.prog 168 #[.slice ad n c, .func (.func 169) #[] #[]] w fun e w' => e=.returned (.tuple #[])∧∃ S:List Sp,S.Perm M∧S.Pairwise (fun p q => keyQs p≤keyQs q)∧OwnK layQs w' B (.slice ad n c) S∧Below B w w':=by
 rcases Nat.eq_zero_or_pos n with h0 | h0
 ·subst h0
  have hM:M=[]:=List.eq_nil_of_length_eq_zero hn
  subst hM
  refine (Tryz.slices_SortFunc_Qs_none ad c _ w).mono ?_
  rintro e w' ⟨rfl,rfl⟩
  exact ⟨rfl, [],List.Perm.refl _,List.Pairwise.nil,h,(Below.refl _ _).mono hB⟩
 ·obtain ⟨g,c',hv2,_⟩:=h.one (by omega)
  simp at hv2
  obtain ⟨rfl, -,rfl⟩:=hv2
  obtain ⟨hH,hlt⟩:=h.holds
  have eg:∀ args w,(callFunc 169 args).run Tryz.prog w=.ok (.enter 169 args) w:=Go.Proofs.enters_of Tryz.func169 (by kernel_rfl) rfl
  have hp:=Tryz.slices_SortFunc_Qs layQs.enc layQs.len layQs.one (cfK keyQs) (swoK keyQs) 169 #[] g 0 c M.toArray w eg (cmpLays_of cmpQs_any) hH hlt (by show M.length < _;omega)
  have hsz:M.toArray.size=n:=hn
  rw [hsz] at hp
  exact hp.mono fun e w' ⟨he,d',q,os,h1,h2,h3⟩ => ⟨he,h.sorted hB (by rw [hsz];exact h1) (by rw [hsz];exact h2) h3⟩
open Go.RowKit Go
structure VR (p:Sp):Prop where
 a:VN p.1
 b:VN p.2
 s:sixN p.1=sixN p.2
 le:p.1≤p.2
theorem nm_VN {x:Nat} (h:VN x):nmN x=x:=num_aN h
theorem VR.key {p:Sp} (h:VR p):keyRg p=p.1∧keyQs p=p.1:=⟨nm_VN h.a,Nat.mod_eq_of_lt (by have:=h.a.lt9;omega)⟩
theorem six_lt {x y:Nat} (hx:VN x) (hy:VN y) (hs:sixN x ≠ sixN y) (hle:x≤y):x + 1 < y:=by
 have e32:(2:Nat) ^ 32 < 2 ^ 128:=by decide
 rcases hx.cases with ⟨a,_,_,d⟩ | ⟨a,b,_⟩ <;> rcases hy.cases with ⟨a',_,_,d'⟩ | ⟨a',b',_⟩
 ·exact absurd (a.trans a'.symm) hs
 ·omega
 ·omega
 ·exact absurd (a.trans a'.symm) hs
theorem six_of_le {x y:Nat} (hx:VN x) (hy:VN y) (h:sixN x=sixN y):topN x=topN y:=by rw [top_val hx,top_val hy,h]
theorem touch_num {p q:Sp} (hp:VR p) (hq:VR q) (hpq:p.1≤q.1):decide (q.1≤p.2 + 1)=if sixN p.1=sixN q.1 then (if p.2=topN p.2 then true else decide (q.1≤p.2 + 1)) else false:=by
 by_cases hs:sixN p.1=sixN q.1
 ·rw [if_pos hs]
  by_cases ht:p.2=topN p.2
  ·rw [if_pos ht]
   have:=le_top hq.a
   rw [six_of_le hq.a hp.b (hs.symm.trans hp.s), ← ht] at this
   exact decide_eq_true (by omega)
  ·rw [if_neg ht]
 ·rw [if_neg hs]
  refine decide_eq_false ?_
  have hs2:sixN p.2 ≠ sixN q.1:=fun e => hs (hp.s.trans e)
  rcases Nat.le_total p.2 q.1 with h | h
  ·have:=six_lt hp.b hq.a hs2 h;omega
  ·exfalso
   have h1:=six_lt hp.a hq.a hs hpq
   have h2:=six_lt hq.a hp.b (Ne.symm hs2) h
   have e32:(2:Nat) ^ 32 < 2 ^ 128:=by decide
   rcases hp.a.cases with ⟨a,_,_,d⟩ | ⟨a,b,_⟩ <;> rcases hq.a.cases with ⟨a',_,_,d'⟩ | ⟨a',b',_⟩
   ·exact hs (a.trans a'.symm)
   ·rcases hp.b.cases with ⟨a'',_,_,d''⟩ | ⟨a'',b'',_⟩
    ·omega
    ·rw [hp.s,a''] at a;cases a
   ·omega
   ·exact hs (a.trans a'.symm)
theorem touches_any {p q:Sp} (w:World) (hp:VR p) (hq:VR q) (hpq:p.1≤q.1):Calls Tryz.prog 157 #[.agg (rgC p).toArray, .agg (rgC q).toArray] w (Ret (.bool (decide (q.1≤p.2 + 1))) w):=by
 have HN:=Lib.hid fun wx => nextN wx hp.b
 have HC:=Lib.hid fun h wx => spanCompareN (x:=q.1) (y:=p.2 + 1) wx hq.a (next_num hp.b h).1
 have hR:=touch_num hp hq hpq
 have HD:=Lib.hid (cN_le q.1 (p.2 + 1))
 show Calls Tryz.prog 157 #[.agg #[.bool (sixN p.1), .int .u64 ((hiN p.1:Nat):Int), .int .u64 ((loN p.1:Nat):Int), .bool (sixN p.2), .int .u64 ((hiN p.2:Nat):Int), .int .u64 ((loN p.2:Nat):Int)], .agg #[.bool (sixN q.1), .int .u64 ((hiN q.1:Nat):Int), .int .u64 ((loN q.1:Nat):Int), .bool (sixN q.2), .int .u64 ((hiN q.2:Nat):Int), .int .u64 ((loN q.2:Nat):Int)]] w (Ret (.bool (decide (q.1≤p.2 + 1))) w)
 rw [hR]
 by_cases hs:sixN p.1=sixN q.1
 ·rw [if_pos hs]
  by_cases ht:p.2=topN p.2
  ·rw [if_pos ht]
   rw [if_pos ht,decide_eq_true ht] at HN
   unfold aN at HN
   rw [hs]
   clear HC hR HD hs ht hp hq hpq
   generalize sixN p.1=z1 at *
   generalize hiN p.1=a2 at *
   generalize loN p.1=a3 at *
   generalize sixN p.2=a4 at *
   generalize hiN p.2=a5 at *
   generalize loN p.2=a6 at *
   generalize sixN q.1=a1 at *
   generalize hiN q.1=b2 at *
   generalize loN q.1=b3 at *
   generalize sixN q.2=b4 at *
   generalize hiN q.2=b5 at *
   generalize loN q.2=b6 at *
   have HP':Blk ((w.alloc (.cells #[.bool a1, .int .u64 (a2:Int), .int .u64 (a3:Int), .bool a4, .int .u64 (a5:Int), .int .u64 (a6:Int)] 92 (0,0))).alloc (.cells #[.bool a1, .int .u64 (b2:Int), .int .u64 (b3:Int), .bool b4, .int .u64 (b5:Int), .int .u64 (b6:Int)] 92 (0,0))) (w.heap.size) 92 #[.bool a1, .int .u64 (a2:Int), .int .u64 (a3:Int), .bool a4, .int .u64 (a5:Int), .int .u64 (a6:Int)]:=(Blk.new w 92 #[.bool a1, .int .u64 (a2:Int), .int .u64 (a3:Int), .bool a4, .int .u64 (a5:Int), .int .u64 (a6:Int)]).alloc _
   have HP:=Lib.hid HP'
   clear HP'
   have HQ':Blk ((w.alloc (.cells #[.bool a1, .int .u64 (a2:Int), .int .u64 (a3:Int), .bool a4, .int .u64 (a5:Int), .int .u64 (a6:Int)] 92 (0,0))).alloc (.cells #[.bool a1, .int .u64 (b2:Int), .int .u64 (b3:Int), .bool b4, .int .u64 (b5:Int), .int .u64 (b6:Int)] 92 (0,0))) (w.heap.size + 1) 92 #[.bool a1, .int .u64 (b2:Int), .int .u64 (b3:Int), .bool b4, .int .u64 (b5:Int), .int .u64 (b6:Int)]:=by
    have this:=Blk.new (w.alloc (.cells #[.bool a1, .int .u64 (a2:Int), .int .u64 (a3:Int), .bool a4, .int .u64 (a5:Int), .int .u64 (a6:Int)] 92 (0,0))) 92 #[.bool a1, .int .u64 (b2:Int), .int .u64 (b3:Int), .bool b4, .int .u64 (b5:Int), .int .u64 (b6:Int)]
    rw [World.size_alloc] at this
    exact this
   have HQ:=Lib.hid HQ'
   clear HQ'
   have HB:Hid (Below w.heap.size w ((w.alloc (.cells #[.bool a1, .int .u64 (a2:Int), .int .u64 (a3:Int), .bool a4, .int .u64 (a5:Int), .int .u64 (a6:Int)] 92 (0,0))).alloc (.cells #[.bool a1, .int .u64 (b2:Int), .int .u64 (b3:Int), .bool b4, .int .u64 (b5:Int), .int .u64 (b6:Int)] 92 (0,0)))):=Lib.hid (below_alloc (below_alloc (Below.refl _ _) _) _)
   go_enter Tryz.func157,Tryz.ntmps157
   go_upto_region 1 with fail
   generalize ((w.alloc (.cells #[.bool a1, .int .u64 (a2:Int), .int .u64 (a3:Int), .bool a4, .int .u64 (a5:Int), .int .u64 (a6:Int)] 92 (0,0))).alloc (.cells #[.bool a1, .int .u64 (b2:Int), .int .u64 (b3:Int), .bool b4, .int .u64 (b5:Int), .int .u64 (b6:Int)] 92 (0,0)))=w1 at *
   have p0:=HP.out.cell 0
   have p1:=HP.out.cell 1
   have p2:=HP.out.cell 2
   have p3:=HP.out.cell 3
   have p4:=HP.out.cell 4
   have p5:=HP.out.cell 5
   simp at p0 p1 p2 p3 p4 p5
   have q0:=HQ.out.cell 0
   have q1:=HQ.out.cell 1
   have q2:=HQ.out.cell 2
   simp at q0 q1 q2
   go_wp2_with fail
   refine (HN.out _).mono ?_
   rintro e w2 ⟨rfl,hb⟩
   go_wp2_with fail
   go_ret
   exact ⟨rfl,below_alloc (HB.out.trans (hb.mono HB.out.size)) _⟩
  ·rw [if_neg ht]
   rw [if_neg ht,decide_eq_false ht] at HN
   have HC2:=Lib.hid (HC.out ht)
   have hd:decide (q.1≤p.2 + 1)=decide (cN q.1 (p.2 + 1)≤0):=decide_eq_decide.2 HD.out.symm
   rw [hd]
   unfold aN at HN HC2
   rw [hs]
   clear HC hR HD ht hp hq hpq hd
   generalize cN q.1 (p.2 + 1)=C at *
   generalize sixN (p.2 + 1)=e1 at *
   generalize hiN (p.2 + 1)=e2 at *
   generalize loN (p.2 + 1)=e3 at *
   clear hs
   generalize sixN p.1=z1 at *
   generalize hiN p.1=a2 at *
   generalize loN p.1=a3 at *
   generalize sixN p.2=a4 at *
   generalize hiN p.2=a5 at *
   generalize loN p.2=a6 at *
   generalize sixN q.1=a1 at *
   generalize hiN q.1=b2 at *
   generalize loN q.1=b3 at *
   generalize sixN q.2=b4 at *
   generalize hiN q.2=b5 at *
   generalize loN q.2=b6 at *
   have HP':Blk ((w.alloc (.cells #[.bool a1, .int .u64 (a2:Int), .int .u64 (a3:Int), .bool a4, .int .u64 (a5:Int), .int .u64 (a6:Int)] 92 (0,0))).alloc (.cells #[.bool a1, .int .u64 (b2:Int), .int .u64 (b3:Int), .bool b4, .int .u64 (b5:Int), .int .u64 (b6:Int)] 92 (0,0))) (w.heap.size) 92 #[.bool a1, .int .u64 (a2:Int), .int .u64 (a3:Int), .bool a4, .int .u64 (a5:Int), .int .u64 (a6:Int)]:=(Blk.new w 92 #[.bool a1, .int .u64 (a2:Int), .int .u64 (a3:Int), .bool a4, .int .u64 (a5:Int), .int .u64 (a6:Int)]).alloc _
   have HP:=Lib.hid HP'
   clear HP'
   have HQ':Blk ((w.alloc (.cells #[.bool a1, .int .u64 (a2:Int), .int .u64 (a3:Int), .bool a4, .int .u64 (a5:Int), .int .u64 (a6:Int)] 92 (0,0))).alloc (.cells #[.bool a1, .int .u64 (b2:Int), .int .u64 (b3:Int), .bool b4, .int .u64 (b5:Int), .int .u64 (b6:Int)] 92 (0,0))) (w.heap.size + 1) 92 #[.bool a1, .int .u64 (b2:Int), .int .u64 (b3:Int), .bool b4, .int .u64 (b5:Int), .int .u64 (b6:Int)]:=by
    have this:=Blk.new (w.alloc (.cells #[.bool a1, .int .u64 (a2:Int), .int .u64 (a3:Int), .bool a4, .int .u64 (a5:Int), .int .u64 (a6:Int)] 92 (0,0))) 92 #[.bool a1, .int .u64 (b2:Int), .int .u64 (b3:Int), .bool b4, .int .u64 (b5:Int), .int .u64 (b6:Int)]
    rw [World.size_alloc] at this
    exact this
   have HQ:=Lib.hid HQ'
   clear HQ'
   have HB:Hid (Below w.heap.size w ((w.alloc (.cells #[.bool a1, .int .u64 (a2:Int), .int .u64 (a3:Int), .bool a4, .int .u64 (a5:Int), .int .u64 (a6:Int)] 92 (0,0))).alloc (.cells #[.bool a1, .int .u64 (b2:Int), .int .u64 (b3:Int), .bool b4, .int .u64 (b5:Int), .int .u64 (b6:Int)] 92 (0,0)))):=Lib.hid (below_alloc (below_alloc (Below.refl _ _) _) _)
   go_enter Tryz.func157,Tryz.ntmps157
   go_upto_region 1 with fail
   generalize ((w.alloc (.cells #[.bool a1, .int .u64 (a2:Int), .int .u64 (a3:Int), .bool a4, .int .u64 (a5:Int), .int .u64 (a6:Int)] 92 (0,0))).alloc (.cells #[.bool a1, .int .u64 (b2:Int), .int .u64 (b3:Int), .bool b4, .int .u64 (b5:Int), .int .u64 (b6:Int)] 92 (0,0)))=w1 at *
   have p0:=HP.out.cell 0
   have p1:=HP.out.cell 1
   have p2:=HP.out.cell 2
   have p3:=HP.out.cell 3
   have p4:=HP.out.cell 4
   have p5:=HP.out.cell 5
   simp at p0 p1 p2 p3 p4 p5
   have q0:=HQ.out.cell 0
   have q1:=HQ.out.cell 1
   have q2:=HQ.out.cell 2
   simp at q0 q1 q2
   go_wp2_with fail
   refine (HN.out _).mono ?_
   rintro e w2 ⟨rfl,hb⟩
   have HQ2:=Lib.hid ((HQ.out.below hb HQ.out.lt).alloc (.cells #[.bool e1, .int .u64 (e2:Int), .int .u64 (e3:Int)] 28 (0,0)))
   have HE2:Hid (Blk (w2.alloc (.cells #[.bool e1, .int .u64 (e2:Int), .int .u64 (e3:Int)] 28 (0,0))) w2.heap.size 28 #[.bool e1, .int .u64 (e2:Int), .int .u64 (e3:Int)]):=Lib.hid (Blk.new w2 _ _)
   have HB2:=Lib.hid (below_alloc (HB.out.trans (hb.mono HB.out.size)) (.cells #[.bool e1, .int .u64 (e2:Int), .int .u64 (e3:Int)] 28 (0,0)))
   clear hb HP HQ HB HN p0 p1 p2 p3 p4 p5 q0 q1 q2
   go_upto_region 4 with fail
   generalize w2.alloc (.cells #[.bool e1, .int .u64 (e2:Int), .int .u64 (e3:Int)] 28 (0,0))=w3 at *
   generalize w2.heap.size=G at *
   have q0:=HQ2.out.cell 0
   have q1:=HQ2.out.cell 1
   have q2:=HQ2.out.cell 2
   simp at q0 q1 q2
   have p0:=HE2.out.cell 0
   have p1:=HE2.out.cell 1
   have p2:=HE2.out.cell 2
   simp at p0 p1 p2
   go_wp2_with fail
   refine (HC2.out _).mono ?_
   rintro e w4 ⟨rfl,hb⟩
   go_wp2_with fail
   go_ret
   exact ⟨rfl,HB2.out.trans (hb.b.mono HB2.out.size)⟩
 ·rw [if_neg hs]
  have hs2:(sixN p.1 == sixN q.1)=false:=by simpa using hs
  clear HN HC hR HD hp hq hpq
  generalize sixN p.1=a1 at *
  generalize hiN p.1=a2 at *
  generalize loN p.1=a3 at *
  generalize sixN p.2=a4 at *
  generalize hiN p.2=a5 at *
  generalize loN p.2=a6 at *
  generalize sixN q.1=b1 at *
  generalize hiN q.1=b2 at *
  generalize loN q.1=b3 at *
  generalize sixN q.2=b4 at *
  generalize hiN q.2=b5 at *
  generalize loN q.2=b6 at *
  have HP':Blk ((w.alloc (.cells #[.bool a1, .int .u64 (a2:Int), .int .u64 (a3:Int), .bool a4, .int .u64 (a5:Int), .int .u64 (a6:Int)] 92 (0,0))).alloc (.cells #[.bool b1, .int .u64 (b2:Int), .int .u64 (b3:Int), .bool b4, .int .u64 (b5:Int), .int .u64 (b6:Int)] 92 (0,0))) (w.heap.size) 92 #[.bool a1, .int .u64 (a2:Int), .int .u64 (a3:Int), .bool a4, .int .u64 (a5:Int), .int .u64 (a6:Int)]:=(Blk.new w 92 #[.bool a1, .int .u64 (a2:Int), .int .u64 (a3:Int), .bool a4, .int .u64 (a5:Int), .int .u64 (a6:Int)]).alloc _
  have HP:=Lib.hid HP'
  clear HP'
  have HQ':Blk ((w.alloc (.cells #[.bool a1, .int .u64 (a2:Int), .int .u64 (a3:Int), .bool a4, .int .u64 (a5:Int), .int .u64 (a6:Int)] 92 (0,0))).alloc (.cells #[.bool b1, .int .u64 (b2:Int), .int .u64 (b3:Int), .bool b4, .int .u64 (b5:Int), .int .u64 (b6:Int)] 92 (0,0))) (w.heap.size + 1) 92 #[.bool b1, .int .u64 (b2:Int), .int .u64 (b3:Int), .bool b4, .int .u64 (b5:Int), .int .u64 (b6:Int)]:=by
   have this:=Blk.new (w.alloc (.cells #[.bool a1, .int .u64 (a2:Int), .int .u64 (a3:Int), .bool a4, .int .u64 (a5:Int), .int .u64 (a6:Int)] 92 (0,0))) 92 #[.bool b1, .int .u64 (b2:Int), .int .u64 (b3:Int), .bool b4, .int .u64 (b5:Int), .int .u64 (b6:Int)]
   rw [World.size_alloc] at this
   exact this
  have HQ:=Lib.hid HQ'
  clear HQ'
  have HB:Hid (Below w.heap.size w ((w.alloc (.cells #[.bool a1, .int .u64 (a2:Int), .int .u64 (a3:Int), .bool a4, .int .u64 (a5:Int), .int .u64 (a6:Int)] 92 (0,0))).alloc (.cells #[.bool b1, .int .u64 (b2:Int), .int .u64 (b3:Int), .bool b4, .int .u64 (b5:Int), .int .u64 (b6:Int)] 92 (0,0)))):=Lib.hid (below_alloc (below_alloc (Below.refl _ _) _) _)
  go_enter Tryz.func157,Tryz.ntmps157
  go_upto_region 1 with fail
  generalize ((w.alloc (.cells #[.bool a1, .int .u64 (a2:Int), .int .u64 (a3:Int), .bool a4, .int .u64 (a5:Int), .int .u64 (a6:Int)] 92 (0,0))).alloc (.cells #[.bool b1, .int .u64 (b2:Int), .int .u64 (b3:Int), .bool b4, .int .u64 (b5:Int), .int .u64 (b6:Int)] 92 (0,0)))=w1 at *
  have p0:=HP.out.cell 0
  simp at p0
  have q0:=HQ.out.cell 0
  simp at q0
  go_wp2_with fail
  go_ret
  exact ⟨rfl,HB.out⟩
theorem flat_set (K:Nat):∀ (LL:List (List Value)) (i j:Nat) (xs:List Value) (v:Value),(∀ l ∈ LL,l.length=K)→LL[i]?=some xs→j < K→LL.flatten.set (i * K + j) v=(LL.set i (xs.set j v)).flatten
 | [],i,j,xs,v,_,h,_ => by simp at h
 | l :: LL,0,j,xs,v,hl,h,hj => by
   simp at h
   subst h
   rw [Nat.zero_mul,Nat.zero_add,List.flatten_cons,List.set_append_left _ _ (by rw [hl l (List.mem_cons_self ..)];exact hj)]
   rfl
 | l :: LL,i + 1,j,xs,v,hl,h,hj => by
   have:=flat_set K LL i j xs v (fun l h => hl l (List.mem_cons_of_mem _ h)) (by simpa using h) hj
   have hk:=hl l (List.mem_cons_self ..)
   rw [List.flatten_cons,List.set_append_right _ _ (by rw [hk,Nat.add_mul];omega),hk,show (i + 1) * K + j - K=i * K + j by rw [Nat.add_mul];omega,this]
   rfl
theorem raw_set {w:World} {B ty K g n c:Nat} {xs:List Value} (h:w.ownsRow B ty K (.slice (some ⟨g,0,none⟩) n c) n xs) (t:Nat) (v:Value):(w.setCell ⟨g,t,none⟩ v).ownsRow B ty K (.slice (some ⟨g,0,none⟩) n c) n (xs.set t v):=by
 rcases h with ⟨hl,⟨hv,_⟩ | ⟨g2,c2,cur,hv,hb,hg,hc,hm,hs,ht⟩⟩
 ·cases hv
 ·simp at hv
  obtain ⟨rfl,rfl⟩:=hv
  refine ⟨by rw [List.length_set];exact hl, .inr ⟨g,c,cur.setIfInBounds t v,rfl,hb,heap_setCell_same w g _ cur _ _ hg,hc,hm,by simpa using hs,?_⟩⟩
  rw [Array.toList_setIfInBounds,List.take_set,ht]
section
variable {α:Type} {E:Lay α}
theorem Lay.all_flat (E:Lay α) (L:List α):E.all L=(L.map E.enc).flatten:=by simp [Lay.all,List.flatMap]
theorem Lay.all_set3 (E:Lay α) (L:List α) (i j:Nat) (x y:α) (v0 v1 v2:Value) (hx:L[i]?=some x) (hj:j + 2 < E.K) (hy:E.enc y=(((E.enc x).set j v0).set (j + 1) v1).set (j + 2) v2) :
  (((E.all L).set (i * E.K + j) v0).set (i * E.K + (j + 1)) v1).set (i * E.K + (j + 2)) v2=E.all (L.set i y):=by
 have hi:=(List.getElem?_eq_some_iff.1 hx).1
 have hm:(L.map E.enc)[i]?=some (E.enc x):=by rw [List.getElem?_map,hx];rfl
 have hk:∀ l ∈ L.map E.enc,l.length=E.K:=fun l hl => by obtain ⟨z,_,rfl⟩:=List.mem_map.1 hl;exact E.len z
 have hks:∀ (LL:List (List Value)) (z:List Value),(∀ l ∈ LL,l.length=E.K)→z.length=E.K→∀ l ∈ LL.set i z,l.length=E.K:=fun LL z h hz l hl => by
  rcases List.mem_or_eq_of_mem_set hl with h1 | rfl
  ·exact h l h1
  ·exact hz
 have hg:∀ (LL:List (List Value)) (z:List Value),i < LL.length→(LL.set i z)[i]?=some z:=fun LL z h => by simp [h]
 have hl:=E.len x
 rw [E.all_flat,flat_set E.K _ i j _ v0 hk hm (by omega),
  flat_set E.K _ i (j + 1) _ v1 (hks _ _ hk (by simpa using hl)) (hg _ _ (by simpa using hi)) (by omega),
  flat_set E.K _ i (j + 2) _ v2 (hks _ _ (hks _ _ hk (by simpa using hl)) (by simpa using hl)) (hg _ _ (by simpa using hi)) (by omega),
  List.set_set,List.set_set, ← hy,E.all_flat,List.map_set]
theorem OwnK.set3 {w:World} {B g n c:Nat} {L:List α} (h:OwnK E w B (.slice (some ⟨g,0,none⟩) n c) L) {i j:Nat} {x y:α} (v0 v1 v2:Value) (hx:L[i]?=some x) (hj:j + 2 < E.K) (hy:E.enc y=(((E.enc x).set j v0).set (j + 1) v1).set (j + 2) v2) :
  OwnK E (((w.setCell ⟨g,i * E.K + j,none⟩ v0).setCell ⟨g,i * E.K + (j + 1),none⟩ v1).setCell ⟨g,i * E.K + (j + 2),none⟩ v2) B (.slice (some ⟨g,0,none⟩) n c) (L.set i y):=by
 obtain ⟨rfl,_⟩:=h.block
 have:=raw_set (raw_set (raw_set h (i * E.K + j) v0) (i * E.K + (j + 1)) v1) (i * E.K + (j + 2)) v2
 rw [E.all_set3 L i j x y v0 v1 v2 hx hj hy] at this
 show World.ownsRow _ _ _ _ _ _ _
 rw [List.length_set]
 exact this
end
/-! ### joined,plain -/
def jn (L:List Sp):List Sp:=joinL (L.mergeSort fun p q => decide (p.1≤q.1))
theorem jn_srt (L:List Sp):Srt (L.mergeSort fun p q => decide (p.1≤q.1)):=by
 have:=List.pairwise_mergeSort (le:=fun (p q:Sp) => decide (p.1≤q.1)) (fun a b c h1 h2 => by simp at *;omega) (fun a b => by simp;omega) L
 exact this.imp fun h => by simpa using h
theorem jn_perm (L:List Sp):(L.mergeSort fun p q => decide (p.1≤q.1)).Perm L:=List.mergeSort_perm _ _
theorem jn_of {L S:List Sp} (h:S.Perm L) (hs:Srt S) (hv:∀ p ∈ L,p.1≤p.2):joinL S=jn L :=
 joinL_perm (h.trans (jn_perm L).symm) hs (jn_srt L) fun p hp => hv p (h.mem_iff.1 hp)
theorem jn_joined {L:List Sp} (hv:∀ p ∈ L,p.1≤p.2):Joined (jn L) L:=by
 have:=joined_all (jn_srt L) fun p hp => hv p ((jn_perm L).mem_iff.1 hp)
 refine ⟨this.can,fun x => (this.mem x).trans (inS_perm (jn_perm L) x),fun p hp => this.lie p ((jn_perm L).mem_iff.2 hp),fun c hc => ?_,fun c hc => ?_⟩
 ·obtain ⟨p,hp,e⟩:=this.fst c hc
  exact ⟨p,(jn_perm L).mem_iff.1 hp,e⟩
 ·obtain ⟨p,hp,e⟩:=this.snd c hc
  exact ⟨p,(jn_perm L).mem_iff.1 hp,e⟩
theorem vr_stp {A:List Sp} {r:Sp} (hA:∀ p ∈ A,VR p) (hr:VR r) (hs:∀ p ∈ A,p.1≤r.1):∀ p ∈ stp A r,VR p:=by
 rcases snoc_cases A with rfl | ⟨D,c,rfl⟩
 ·intro p hp
  rw [List.mem_singleton.1 hp];exact hr
 ·rw [stp_snoc]
  have hc:=hA c (by simp)
  by_cases ht:r.1≤c.2 + 1
  ·rw [if_pos ht]
   by_cases hb:c.2 < r.2
   ·rw [if_pos hb]
    intro p hp
    rcases List.mem_append.1 hp with hp | hp
    ·exact hA p (List.mem_append_left _ hp)
    ·rw [List.mem_singleton.1 hp]
     have hcr:=hs c (by simp)
     have hsix:sixN c.1=sixN r.1:=by
      have e:=touch_num hc hr hcr
      rw [decide_eq_true ht] at e
      by_cases h6:sixN c.1=sixN r.1
      ·exact h6
      ·rw [if_neg h6] at e;cases e
     exact ⟨hc.a,hr.b,hsix.trans hr.s,by have:=hr.le;show c.1≤r.2;omega⟩
   ·rw [if_neg hb];exact hA
  ·rw [if_neg ht]
   intro p hp
   rcases List.mem_append.1 hp with hp | hp
   ·exact hA p hp
   ·rw [List.mem_singleton.1 hp];exact hr
theorem fst_stp {A:List Sp} {r:Sp} {N:Nat} (hA:∀ p ∈ A,p.1≤N) (hr:r.1≤N):∀ p ∈ stp A r,p.1≤N:=by
 rcases snoc_cases A with rfl | ⟨D,c,rfl⟩
 ·intro p hp
  rw [List.mem_singleton.1 hp];exact hr
 ·rw [stp_snoc]
  have hc:=hA c (by simp)
  split
  ·split
   ·intro p hp
    rcases List.mem_append.1 hp with hp | hp
    ·exact hA p (List.mem_append_left _ hp)
    ·rw [List.mem_singleton.1 hp];exact hc
   ·exact hA
  ·intro p hp
   rcases List.mem_append.1 hp with hp | hp
   ·exact hA p hp
   ·rw [List.mem_singleton.1 hp];exact hr
theorem vr_take {S:List Sp} (hs:Srt S) (hv:∀ p ∈ S,VR p):∀ k,k≤S.length→(∀ p ∈ (S.take k).foldl stp [],VR p)∧∀ j x,k≤j→S[j]?=some x→∀ p ∈ (S.take k).foldl stp [],p.1≤x.1
 | 0,_ => by simp
 | k + 1,hk => by
   obtain ⟨h1,h2⟩:=vr_take hs hv k (by omega)
   have hlt:k < S.length:=by omega
   have hx:=List.getElem?_eq_getElem hlt
   have hb:=h2 k S[k] (Nat.le_refl _) hx
   rw [List.take_succ_eq_append_getElem hlt,List.foldl_append]
   refine ⟨vr_stp h1 (hv _ (List.getElem_mem hlt)) hb,fun j x hj hjx => ?_⟩
   have hjl:=(List.getElem?_eq_some_iff.1 hjx).1
   have hle:S[k].1≤x.1:=by
    have:=List.pairwise_iff_getElem.1 hs k j hlt hjl (by omega)
    rw [List.getElem?_eq_getElem hjl] at hjx
    injection hjx with hjx
    rw [← hjx];exact this
   exact fst_stp (fun p hp => Nat.le_trans (hb p hp) hle) hle
theorem stp_len (A:List Sp) (r:Sp):(stp A r).length≤A.length + 1:=by
 rcases snoc_cases A with rfl | ⟨D,c,rfl⟩
 ·exact Nat.le_refl 1
 ·rw [stp_snoc]
  split
  ·split <;> simp
  ·simp
theorem fold_len:∀ (S A:List Sp),(S.foldl stp A).length≤A.length + S.length
 | [],A => by simp
 | r :: S,A => by
   have:=fold_len S (stp A r)
   have:=stp_len A r
   simp only [List.foldl_cons,List.length_cons]
   omega
theorem rg_cells (p:Sp):∃ (a1:Bool) (a2 a3:Nat) (a4:Bool) (a5 a6:Nat),rgC p=[.bool a1, .int .u64 (a2:Int), .int .u64 (a3:Int), .bool a4, .int .u64 (a5:Int), .int .u64 (a6:Int)]∧aN p.1=#[.bool a1, .int .u64 (a2:Int), .int .u64 (a3:Int)]∧aN p.2=#[.bool a4, .int .u64 (a5:Int), .int .u64 (a6:Int)]∧a1=sixN p.1∧a4=sixN p.2:=⟨_,_,_,_,_,_,rfl,rfl,rfl,rfl,rfl⟩
theorem RdK.rg {w:World} {ad:Option Addr} {L:List Sp} (h:RdK layRg w ad L) {k:Nat} {p:Sp} (hp:L[k]?=some p) {a1:Bool} {a2 a3:Nat} {a4:Bool} {a5 a6:Nat} (hc:rgC p=[.bool a1, .int .u64 (a2:Int), .int .u64 (a3:Int), .bool a4, .int .u64 (a5:Int), .int .u64 (a6:Int)]) :
  ∃ g o,ad=some ⟨g,o,none⟩∧g < w.heap.size∧w.cell? ⟨g,o + k * 6,none⟩=some (.bool a1)∧w.cell? ⟨g,o + k * 6 + 1,none⟩=some (.int .u64 (a2:Int))∧w.cell? ⟨g,o + k * 6 + 2,none⟩=some (.int .u64 (a3:Int))∧w.cell? ⟨g,o + k * 6 + 3,none⟩=some (.bool a4)∧w.cell? ⟨g,o + k * 6 + 4,none⟩=some (.int .u64 (a5:Int))∧w.cell? ⟨g,o + k * 6 + 5,none⟩=some (.int .u64 (a6:Int)):=by
 obtain ⟨g,o,e,hg,h0⟩:=h k p hp
 have hE:layRg.enc p=rgC p:=rfl
 have hK:layRg.K=6:=rfl
 rw [hE,hc,hK] at h0
 exact ⟨g,o,e,hg,h0 0 _ rfl,h0 1 _ rfl,h0 2 _ rfl,h0 3 _ rfl,h0 4 _ rfl,h0 5 _ rfl⟩
theorem OwnK.rg {w:World} {B g n c:Nat} {L:List Sp} (h:OwnK layRg w B (.slice (some ⟨g,0,none⟩) n c) L) {k:Nat} {p:Sp} (hp:L[k]?=some p) {a1:Bool} {a2 a3:Nat} {a4:Bool} {a5 a6:Nat} (hc:rgC p=[.bool a1, .int .u64 (a2:Int), .int .u64 (a3:Int), .bool a4, .int .u64 (a5:Int), .int .u64 (a6:Int)]) :
  w.cell? ⟨g,k * 6,none⟩=some (.bool a1)∧w.cell? ⟨g,k * 6 + 1,none⟩=some (.int .u64 (a2:Int))∧w.cell? ⟨g,k * 6 + 2,none⟩=some (.int .u64 (a3:Int))∧w.cell? ⟨g,k * 6 + 3,none⟩=some (.bool a4)∧w.cell? ⟨g,k * 6 + 4,none⟩=some (.int .u64 (a5:Int))∧w.cell? ⟨g,k * 6 + 5,none⟩=some (.int .u64 (a6:Int)):=by
 have h0:∀ j v,(rgC p)[j]?=some v→w.cell? ⟨g,k * 6 + j,none⟩=some v:=fun j v hv => h.get (E:=layRg) hp hv
 rw [hc] at h0
 exact ⟨h0 0 _ rfl,h0 1 _ rfl,h0 2 _ rfl,h0 3 _ rfl,h0 4 _ rfl,h0 5 _ rfl⟩
theorem srt_key {S:List Sp} (hv:∀ p ∈ S,VR p) (h:S.Pairwise (fun p q => keyRg p≤keyRg q)):Srt S:=by
 refine List.Pairwise.imp_of_mem (fun {a b} ha hb h => ?_) h
 rw [(hv a ha).key.1,(hv b hb).key.1] at h
 exact h
theorem joined_any (ad:Option Addr) (n c:Nat) (L:List Sp) (w:World) (h:RdK layRg w ad L) (hn:L.length=n) (hs:n≤100000) (hv:∀ p ∈ L,VR p) :
  Calls Tryz.prog 130 #[.slice ad n c] w fun e w' => ∃ v,e=.returned v∧OwnK layRg w' w.heap.size v (jn L)∧Below w.heap.size w w':=by
 obtain ⟨R,hR⟩:∃ R,jn L=R:=⟨_,rfl⟩
 have HR:Hid (∀ S:List Sp,S.Perm L→Srt S→S.foldl stp []=R):=Lib.hid fun S hp hso => by
  rw [← hR];exact jn_of hp hso fun p hp => (hv p hp).le
 rw [hR]
 have Hv:=Lib.hid hv
 have H0:=Lib.hid h
 have Hn:=Lib.hid hn
 clear h hn hv hR
 go_enter Tryz.func130,Tryz.ntmps130
 go_wp2_with fail
 refine (clone_rg ad n c L w H0.out Hn.out (by omega)).mono ?_
 rintro e w1 ⟨v,rfl,hO,hB⟩
 obtain ⟨ad1,c1,hv1,_,_,_⟩:=hO.form
 rw [Hn.out] at hv1
 subst hv1
 have HO1:=Lib.hid hO
 have HB1:=Lib.hid hB
 clear hO hB
 go_wp2_with fail
 refine (sortRg_any w.heap.size n c1 ad1 L w1 HO1.out Hn.out (by omega) HB1.out.size).mono ?_
 rintro e w2 ⟨rfl,S,hp,hso,hO2,hB2⟩
 have hSv:∀ p ∈ S,VR p:=fun p h => Hv.out p (hp.mem_iff.1 h)
 have hSs:=srt_key hSv hso
 have HS:Hid (S.foldl stp []=R):=Lib.hid (HR.out S hp hSs)
 have Hsl:Hid (S.length=n):=Lib.hid (hp.length_eq.trans Hn.out)
 have HSv:=Lib.hid hSv
 have HVt:=Lib.hid (vr_take hSs hSv)
 have HR2:Hid (RdK layRg w2 ad1 S):=Lib.hid hO2.rd
 have HB2:Hid (Below w.heap.size w w2):=Lib.hid (HB1.out.trans hB2)
 clear hp hso hO2 hB2 HO1 HB1 HR Hv Hn hSv hSs H0
 go_wp2_with fail
 go_loopw [3,5,6,13] (fun out bx nn i wr => ∃ (k:Nat) (A:List Sp),k≤n∧i=.int .i64 k∧Hid ((S.take k).foldl stp []=A)∧Hid (OwnK layRg wr w2.heap.size out A)∧Hid (Below w2.heap.size w2 wr)) (fun _ _ _ i _ => n - (intOf i).toNat)
 case atStart => exact ⟨0, [],Nat.zero_le _,rfl,Lib.hid rfl,Lib.hid (OwnK.nil _ _ _),Lib.hid (Below.refl _ _)⟩
 case round =>
  obtain ⟨k,A,hk,rfl,HA,HO,HB⟩:=hrel
  by_cases hlt:k < n
  ·have hS:k < S.length:=by rw [Hsl.out];exact hlt
   obtain ⟨p,hp⟩:∃ p,S[k]?=some p:=⟨_,List.getElem?_eq_getElem hS⟩
   obtain ⟨a1,a2,a3,a4,a5,a6,hpc,hp1,hp2,h1s,h2s⟩:=rg_cells p
   obtain ⟨g,o,had,hg,c0,c1,c2,c3,c4,c5⟩:=(HR2.out.below HB.out).rg hp hpc
   subst had
   have hpm:p ∈ S:=List.mem_of_getElem? hp
   have HA1:Hid ((S.take (k + 1)).foldl stp []=stp A p):=Lib.hid (by
    rw [List.take_succ_eq_append_getElem hS,List.foldl_append,HA.out]
    have:S[k]=p:=by rw [List.getElem?_eq_getElem hS] at hp;injection hp
    rw [this];rfl)
   have hVA:=(HVt.out k (by omega)).1
   have hFA:=(HVt.out k (by omega)).2 k p (Nat.le_refl _) hp
   rw [HA.out] at hVA hFA
   have HVA:=Lib.hid hVA
   have HFA:=Lib.hid hFA
   have HVp:=Lib.hid (HSv.out p hpm)
   have hAl:Hid (A.length≤k):=Lib.hid (by
    have:=fold_len (S.take k) []
    rw [HA.out] at this
    simp at this;omega)
   have HPC:=Lib.hid (And.intro hpc (And.intro hp1 (And.intro hp2 (And.intro h1s h2s))))
   clear hp hpm HA hVA hFA hpc hp1 hp2 h1s h2s
   have HB1:Hid (Below w2.heap.size w2 (wr.alloc (.cells #[.bool a1, .int .u64 (a2:Int), .int .u64 (a3:Int), .bool a4, .int .u64 (a5:Int), .int .u64 (a6:Int)] 92 (0,0)))):=Lib.hid (Below.alloc HB.out HB.out.size _)
   have HP1:Hid (Blk (wr.alloc (.cells #[.bool a1, .int .u64 (a2:Int), .int .u64 (a3:Int), .bool a4, .int .u64 (a5:Int), .int .u64 (a6:Int)] 92 (0,0))) wr.heap.size 92 #[.bool a1, .int .u64 (a2:Int), .int .u64 (a3:Int), .bool a4, .int .u64 (a5:Int), .int .u64 (a6:Int)]):=Lib.hid (Blk.new wr _ _)
   have HO1:Hid (OwnK layRg (wr.alloc (.cells #[.bool a1, .int .u64 (a2:Int), .int .u64 (a3:Int), .bool a4, .int .u64 (a5:Int), .int .u64 (a6:Int)] 92 (0,0))) w2.heap.size u3 A):=Lib.hid (HO.out.alloc _)
   go_upto_region 7 with fail
   generalize wr.alloc (.cells #[.bool a1, .int .u64 (a2:Int), .int .u64 (a3:Int), .bool a4, .int .u64 (a5:Int), .int .u64 (a6:Int)] 92 (0,0))=w3 at *
   generalize wr.heap.size=bx at *
   clear HB HO c0 c1 c2 c3 c4 c5 hg
   have d0:=HP1.out.cell 0
   have d1:=HP1.out.cell 1
   have d2:=HP1.out.cell 2
   have d3:=HP1.out.cell 3
   have d4:=HP1.out.cell 4
   have d5:=HP1.out.cell 5
   simp at d0 d1 d2 d3 d4 d5
   rcases snoc_cases A with rfl | ⟨D,q,rfl⟩
   ·obtain ⟨ad3,c3,hv3,_,_,_⟩:=HO1.out.form
    rw [show ([]:List Sp).length=0 from rfl] at hv3
    subst hv3
    clear hS
    go_upto_region 8 with fail
    refine wp_region_later (by kernel_rfl) (by kernel_rfl) ?_
    repeat (go_big_quiet_step (fail))
    refine wpQuiet_nil ?_
    rintro w4 ⟨n4,hn4⟩
    have hb:Below w3.heap.size w3 w4:=by rw [hn4];exact n4.2
    clear hn4 n4 d0 d1 d2 d3 d4 d5
    have HP4:=Lib.hid (HP1.out.below hb HP1.out.lt)
    have HO4:=Lib.hid (HO1.out.later hb)
    have HB4:=Lib.hid (HB1.out.trans (hb.mono HB1.out.size))
    clear hb HP1 HO1 HB1
    have d0:=HP4.out.cell 0
    have d1:=HP4.out.cell 1
    have d2:=HP4.out.cell 2
    have d3:=HP4.out.cell 3
    have d4:=HP4.out.cell 4
    have d5:=HP4.out.cell 5
    simp at d0 d1 d2 d3 d4 d5
    go_wp2_with (at_builtin;refine wpList_app rgE rfl (.tmp 45) (.tmp 47) rfl rfl (World.ownsRow.alloc HO4.out _) rfl (src_new layRg _ p _ _ ?c0) ?c1 ?c2 ?c3 ?c4 ?_)
    case c0 => exact (congrArg List.toArray HPC.out.1).symm
    case c1 => exact layRg.one p
    case c2 => unfold maxLen;simp
    case c3 => simp
    case c4 => have:=HB4.out.size;simp;omega
    intro v' w' hO hG
    have HO':Hid (OwnK layRg w' w2.heap.size v' (stp [] p)):=Lib.hid (OwnK.snoc (L:=[]) hO)
    have HB':Hid (Below w2.heap.size w2 w'):=Lib.hid ((Below.alloc HB4.out HB4.out.size _).trans (hG.below (by have:=HB4.out.size;simp;omega) (own_base HO4.out)))
    clear hO hG
    go_wp2
    exact ⟨⟨k + 1,_,by omega,by go_num,HA1,HO',HB'⟩,by simp [intOf];omega⟩
   ·obtain ⟨g2,c2,hv3,hg2,hgl,hc1,hc2⟩:=HO1.out.one (by simp)
    rw [show (D ++ [q]).length=D.length + 1 by simp] at hv3 hc1
    subst hv3
    have hDk:D.length + 1≤k:=by have:=hAl.out;simpa using this
    have hqm:(D ++ [q])[D.length]?=some q:=by simp
    obtain ⟨b1,b2,b3,b4,b5,b6,hqc,hq1,hq2,z1s,z2s⟩:=rg_cells q
    obtain ⟨q0,q1,q2,q3,q4,q5⟩:=HO1.out.rg hqm hqc
    have hVq:=HVA.out q (by simp)
    have hqp:=HFA.out q (by simp)
    have HT:=Lib.hid fun wx => touches_any wx hVq HVp.out hqp
    rw [hqc,HPC.out.1] at HT
    have HC:=Lib.hid fun wx => spanCompareN wx hVq.b HVp.out.b
    rw [hq2,HPC.out.2.2.1] at HC
    have HM:Hid (stp (D ++ [q]) p=if p.1≤q.2 + 1 then (if q.2 < p.2 then D ++ [(q.1,p.2)] else D ++ [q]) else D ++ [q] ++ [p]):=Lib.hid (stp_snoc _ _ _)
    have HCl:=Lib.hid (cN_lt_iff q.2 p.2)
    have f0:=HO1.out.frozen
    have HL:Hid ((D ++ [q]).length=D.length + 1):=Lib.hid (by simp)
    have Hset:Hid (∀ (wx:World),OwnK layRg wx w2.heap.size (.slice (some ⟨g2,0,none⟩) (D.length + 1) c2) (D ++ [q])→p.1≤q.2 + 1→OwnK layRg (((wx.setCell ⟨g2,D.length * 6 + 3,none⟩ (.bool a4)).setCell ⟨g2,D.length * 6 + 4,none⟩ (.int .u64 (a5:Int))).setCell ⟨g2,D.length * 6 + 5,none⟩ (.int .u64 (a6:Int))) w2.heap.size (.slice (some ⟨g2,0,none⟩) (D.length + 1) c2) (D ++ [(q.1,p.2)])):=Lib.hid (by
     intro wx hO _
     have hy:layRg.enc (q.1,p.2)=(((layRg.enc q).set 3 (.bool a4)).set 4 (.int .u64 (a5:Int))).set 5 (.int .u64 (a6:Int)):=by
      have e1:layRg.enc q=rgC q:=rfl
      have e2:layRg.enc (q.1,p.2)=(aN q.1).toList ++ (aN p.2).toList:=rfl
      rw [e1,e2,hqc,hq1,HPC.out.2.2.1]
      rfl
     have h3:=hO.set3 (i:=D.length) (j:=3) (x:=q) (y:=(q.1,p.2)) (.bool a4) (.int .u64 (a5:Int)) (.int .u64 (a6:Int)) hqm (by decide) hy
     rw [show (D ++ [q]).set D.length (q.1,p.2)=D ++ [(q.1,p.2)] by simp] at h3
     exact h3)
    have hlen:((D.length + 1:Nat):Int) - 1=(D.length:Int):=by omega
    clear hAl hqm hqc hq1 hq2 z1s z2s hVq hqp hc2 hS
    generalize D.length=m at *
    have hm1:(m:Int) < ((m + 1:Nat):Int):=by omega
    have hm2:m < m + 1:=by omega
    have hm0:((m:Int) ≥ 0):=by omega
    generalize m + 1=n1 at *
    have hm3:(n1:Int)≤100000:=by omega
    have hg2l:=HO1.out.block.1
    clear hg2l
    have l0:=Later.cell_of d0
    have l1:=Later.cell_of d1
    have l2:=Later.cell_of d2
    have l3:=Later.cell_of d3
    have l4:=Later.cell_of d4
    have l5:=Later.cell_of d5
    have k0:=Later.cell_of q0
    have k1:=Later.cell_of q1
    have k2:=Later.cell_of q2
    have k3:=Later.cell_of q3
    have k4:=Later.cell_of q4
    have k5:=Later.cell_of q5
    have hT:=fun x:Later w3 => Calls.later x (HT.out x.1)
    go_upto_region 8 with fail
    by_cases hle:p.1≤q.2 + 1
    ·rw [decide_eq_true hle] at hT
     refine wp_region_later (by kernel_rfl) (by kernel_rfl) ?_
     repeat (go_big_quiet_step ((go_at_call 157;exact hT _)))
     refine wpQuiet_nil ?_
     rintro w4 ⟨n4,hn4⟩
     have hb:Below w3.heap.size w3 w4:=by rw [hn4];exact n4.2
     clear hn4 n4 d0 d1 d2 d3 d4 d5 q0 q1 q2 q3 q4 q5
     have d0:w4.cell? ⟨bx,0,none⟩=some (.bool a1):=l0 ⟨w4,hb⟩
     have d1:w4.cell? ⟨bx,1,none⟩=some (.int .u64 (a2:Int)):=l1 ⟨w4,hb⟩
     have d2:w4.cell? ⟨bx,2,none⟩=some (.int .u64 (a3:Int)):=l2 ⟨w4,hb⟩
     have d3:w4.cell? ⟨bx,3,none⟩=some (.bool a4):=l3 ⟨w4,hb⟩
     have d4:w4.cell? ⟨bx,4,none⟩=some (.int .u64 (a5:Int)):=l4 ⟨w4,hb⟩
     have d5:w4.cell? ⟨bx,5,none⟩=some (.int .u64 (a6:Int)):=l5 ⟨w4,hb⟩
     have q0:w4.cell? ⟨g2,m * 6,none⟩=some (.bool b1):=k0 ⟨w4,hb⟩
     have q1:w4.cell? ⟨g2,m * 6 + 1,none⟩=some (.int .u64 (b2:Int)):=k1 ⟨w4,hb⟩
     have q2:w4.cell? ⟨g2,m * 6 + 2,none⟩=some (.int .u64 (b3:Int)):=k2 ⟨w4,hb⟩
     have q3:w4.cell? ⟨g2,m * 6 + 3,none⟩=some (.bool b4):=k3 ⟨w4,hb⟩
     have q4:w4.cell? ⟨g2,m * 6 + 4,none⟩=some (.int .u64 (b5:Int)):=k4 ⟨w4,hb⟩
     have q5:w4.cell? ⟨g2,m * 6 + 5,none⟩=some (.int .u64 (b6:Int)):=k5 ⟨w4,hb⟩
     have HP4:=Lib.hid (HP1.out.below hb HP1.out.lt)
     have HO4:=Lib.hid (HO1.out.later hb)
     have HB4:=Lib.hid (HB1.out.trans (hb.mono HB1.out.size))
     clear l0 l1 l2 l3 l4 l5 k0 k1 k2 k3 k4 k5 hb HP1 HO1 HB1
     clear hT HT f0
     have l0:=Later.cell_of d0
     have l1:=Later.cell_of d1
     have l2:=Later.cell_of d2
     have l3:=Later.cell_of d3
     have l4:=Later.cell_of d4
     have l5:=Later.cell_of d5
     have k0:=Later.cell_of q0
     have k1:=Later.cell_of q1
     have k2:=Later.cell_of q2
     have k3:=Later.cell_of q3
     have k4:=Later.cell_of q4
     have k5:=Later.cell_of q5
     have hC:=fun x:Later w4 => Calls.later x ((HC.out x.1).mono fun _ _ h => h.ret)
     clear HC
     generalize cN q.2 p.2=C at *
     go_upto_region 9 with fail
     refine wp_region_later (by kernel_rfl) (by kernel_rfl) ?_
     repeat (go_big_quiet_step ((go_at_call 116;exact hC _)))
     refine wpQuiet_nil ?_
     rintro w5 ⟨n4,hn4⟩
     have hb:Below w4.heap.size w4 w5:=by rw [hn4];exact n4.2
     clear hn4 n4 d0 d1 d2 d3 d4 d5 q0 q1 q2 q3 q4 q5
     have d0:w5.cell? ⟨bx,0,none⟩=some (.bool a1):=l0 ⟨w5,hb⟩
     have d1:w5.cell? ⟨bx,1,none⟩=some (.int .u64 (a2:Int)):=l1 ⟨w5,hb⟩
     have d2:w5.cell? ⟨bx,2,none⟩=some (.int .u64 (a3:Int)):=l2 ⟨w5,hb⟩
     have d3:w5.cell? ⟨bx,3,none⟩=some (.bool a4):=l3 ⟨w5,hb⟩
     have d4:w5.cell? ⟨bx,4,none⟩=some (.int .u64 (a5:Int)):=l4 ⟨w5,hb⟩
     have d5:w5.cell? ⟨bx,5,none⟩=some (.int .u64 (a6:Int)):=l5 ⟨w5,hb⟩
     have q0:w5.cell? ⟨g2,m * 6,none⟩=some (.bool b1):=k0 ⟨w5,hb⟩
     have q1:w5.cell? ⟨g2,m * 6 + 1,none⟩=some (.int .u64 (b2:Int)):=k1 ⟨w5,hb⟩
     have q2:w5.cell? ⟨g2,m * 6 + 2,none⟩=some (.int .u64 (b3:Int)):=k2 ⟨w5,hb⟩
     have q3:w5.cell? ⟨g2,m * 6 + 3,none⟩=some (.bool b4):=k3 ⟨w5,hb⟩
     have q4:w5.cell? ⟨g2,m * 6 + 4,none⟩=some (.int .u64 (b5:Int)):=k4 ⟨w5,hb⟩
     have q5:w5.cell? ⟨g2,m * 6 + 5,none⟩=some (.int .u64 (b6:Int)):=k5 ⟨w5,hb⟩
     have HP5:=Lib.hid (HP4.out.below hb HP4.out.lt)
     have HO5:=Lib.hid (HO4.out.later hb)
     have HB5:=Lib.hid (HB4.out.trans (hb.mono HB4.out.size))
     clear l0 l1 l2 l3 l4 l5 k0 k1 k2 k3 k4 k5 hb HP4 HO4 HB4
     clear hC
     have f0:=HO5.out.frozen
     by_cases hlt2:q.2 < p.2
     ·have hC0:C < 0:=HCl.out.2 hlt2
      have HS6:=Lib.hid (Hset.out w5 HO5.out hle)
      have HA6:Hid ((S.take (k + 1)).foldl stp []=D ++ [(q.1,p.2)]):=Lib.hid (by rw [HA1.out,HM.out,if_pos hle,if_pos hlt2])
      have HB6:=Lib.hid (Below.setCell (p:=⟨g2,m * 6 + 5,none⟩) (Below.setCell (p:=⟨g2,m * 6 + 4,none⟩) (Below.setCell (p:=⟨g2,m * 6 + 3,none⟩) HB5.out hg2 (.bool a4)) hg2 (.int .u64 (a5:Int))) hg2 (.int .u64 (a6:Int)))
      clear Hset HA1 HM HCl HVA HFA HVp HPC HO5 HB5 HP5 HL
      go_wp2_with fail
      exact ⟨⟨k + 1,_,by omega,by go_num,HA6,HS6,HB6⟩,by simp [intOf];omega⟩
     ·have hC0:¬ C < 0:=fun h => hlt2 (HCl.out.1 h)
      have HA6:Hid ((S.take (k + 1)).foldl stp []=D ++ [q]):=Lib.hid (by rw [HA1.out,HM.out,if_pos hle,if_neg hlt2])
      clear Hset HA1 HM HCl HVA HFA HVp HPC HP5 HL
      go_wp2_with fail
      exact ⟨⟨k + 1,_,by omega,by go_num,HA6,HO5,HB5⟩,by simp [intOf];omega⟩
    ·rw [decide_eq_false hle] at hT
     refine wp_region_later (by kernel_rfl) (by kernel_rfl) ?_
     repeat (go_big_quiet_step ((go_at_call 157;exact hT _)))
     refine wpQuiet_nil ?_
     rintro w4 ⟨n4,hn4⟩
     have hb:Below w3.heap.size w3 w4:=by rw [hn4];exact n4.2
     clear hn4 n4 d0 d1 d2 d3 d4 d5 q0 q1 q2 q3 q4 q5
     have d0:w4.cell? ⟨bx,0,none⟩=some (.bool a1):=l0 ⟨w4,hb⟩
     have d1:w4.cell? ⟨bx,1,none⟩=some (.int .u64 (a2:Int)):=l1 ⟨w4,hb⟩
     have d2:w4.cell? ⟨bx,2,none⟩=some (.int .u64 (a3:Int)):=l2 ⟨w4,hb⟩
     have d3:w4.cell? ⟨bx,3,none⟩=some (.bool a4):=l3 ⟨w4,hb⟩
     have d4:w4.cell? ⟨bx,4,none⟩=some (.int .u64 (a5:Int)):=l4 ⟨w4,hb⟩
     have d5:w4.cell? ⟨bx,5,none⟩=some (.int .u64 (a6:Int)):=l5 ⟨w4,hb⟩
     have q0:w4.cell? ⟨g2,m * 6,none⟩=some (.bool b1):=k0 ⟨w4,hb⟩
     have q1:w4.cell? ⟨g2,m * 6 + 1,none⟩=some (.int .u64 (b2:Int)):=k1 ⟨w4,hb⟩
     have q2:w4.cell? ⟨g2,m * 6 + 2,none⟩=some (.int .u64 (b3:Int)):=k2 ⟨w4,hb⟩
     have q3:w4.cell? ⟨g2,m * 6 + 3,none⟩=some (.bool b4):=k3 ⟨w4,hb⟩
     have q4:w4.cell? ⟨g2,m * 6 + 4,none⟩=some (.int .u64 (b5:Int)):=k4 ⟨w4,hb⟩
     have q5:w4.cell? ⟨g2,m * 6 + 5,none⟩=some (.int .u64 (b6:Int)):=k5 ⟨w4,hb⟩
     have HP4:=Lib.hid (HP1.out.below hb HP1.out.lt)
     have HO4:=Lib.hid (HO1.out.later hb)
     have HB4:=Lib.hid (HB1.out.trans (hb.mono HB1.out.size))
     clear l0 l1 l2 l3 l4 l5 k0 k1 k2 k3 k4 k5 hb HP1 HO1 HB1
     clear hT HT f0 Hset HC HCl
     have HO5:Hid (w4.ownsRow w2.heap.size 92 6 (.slice (some ⟨g2,0,none⟩) n1 c2) n1 (layRg.all (D ++ [q]))):=Lib.hid (by have:=HO4.out;unfold OwnK at this;rw [HL.out] at this;exact this)
     go_wp2_with (at_builtin;refine wpList_app rgE rfl (.tmp 45) (.tmp 47) rfl rfl (World.ownsRow.alloc HO5.out _) rfl (src_new layRg _ p _ _ ?c0) ?c1 ?c2 ?c3 ?c4 ?_)
     case c0 => exact (congrArg List.toArray HPC.out.1).symm
     case c1 => exact layRg.one p
     case c2 => unfold maxLen;omega
     case c3 => omega
     case c4 => have:=HB4.out.size;simp;omega
     intro v' w' hO hG
     have HO':Hid (OwnK layRg w' w2.heap.size v' (D ++ [q] ++ [p])):=Lib.hid (by
      rw [← HL.out] at hO
      exact OwnK.snoc hO)
     have HA6:Hid ((S.take (k + 1)).foldl stp []=D ++ [q] ++ [p]):=Lib.hid (by rw [HA1.out,HM.out,if_neg hle])
     have HB':Hid (Below w2.heap.size w2 w'):=Lib.hid ((Below.alloc HB4.out HB4.out.size _).trans (hG.below (by have:=HB4.out.size;simp;omega) (own_base HO4.out)))
     clear hO hG HA1 HM HVA HFA HVp HPC HO5 HO4 HP4 HB4 HL
     go_wp2
     exact ⟨⟨k + 1,_,by omega,by go_num,HA6,HO',HB'⟩,by simp [intOf];omega⟩
  ·obtain rfl:k=n:=by omega
   have HF:Hid (A=R):=Lib.hid (by rw [← HA.out,List.take_of_length_le (by rw [Hsl.out];exact Nat.le_refl _)];exact HS.out)
   go_wp2_with fail
   go_ret
   exact ⟨_,rfl,by rw [← HF.out];exact HO.out.weak HB2.out.size,HB2.out.trans (HB.out.mono HB2.out.size)⟩
structure OkPf (p:Pf):Prop where
 nn:p.2.2.2=(p.2.2.2.toNat:Int)
 ok:POK p.1 p.2.1 p.2.2.1 p.2.2.2.toNat
def nuP (p:Pf):Nat:=numA p.1 p.2.1 p.2.2.1
def spP (p:Pf):Sp:=(nuP p,fil (nuP p) (LN (nuP p) - p.2.2.2.toNat))
theorem okPf_of {p:Pf} (h:pFault p.1 p.2.1 p.2.2.1 p.2.2.2=0) (h1:U64N p.2.1) (h2:U64N p.2.2.1):OkPf p:=by
 obtain ⟨n,hn,hl⟩:=pFault_nat h
 have e:p.2.2.2.toNat=n:=by rw [hn];exact Int.toNat_natCast n
 refine ⟨by rw [e];exact hn,?_⟩
 rw [e]
 rw [hn] at h
 exact pFault_pok h h1 h2
theorem OkPf.num {p:Pf} (h:OkPf p):VN (nuP p)∧sixN (nuP p)=p.1∧hiN (nuP p)=p.2.1∧loN (nuP p)=p.2.2.1:=aN_num h.ok.1
theorem OkPf.bits {p:Pf} (h:OkPf p):p.2.2.2.toNat≤LN (nuP p):=by
 rw [LN_six,h.num.2.1]
 exact h.ok.2.1
theorem OkPf.cells {p:Pf} (h:OkPf p):pfC p=(pN (nuP p) (p.2.2.2.toNat:Int)).toList:=by
 obtain ⟨_,a,b,c⟩:=h.num
 unfold pN pfC
 rw [a,b,c, ← h.nn]
theorem OkPf.clr {p:Pf} (h:OkPf p):clr (nuP p) (LN (nuP p) - p.2.2.2.toNat)=nuP p:=by
 have e:=mask_num (n:=p.2.2.2.toNat) h.ok.1
 rw [h.ok.2.2.1,h.ok.2.2.2] at e
 rw [LN_six,h.num.2.1]
 exact e.symm
theorem OkPf.sp {p:Pf} (h:OkPf p):PfxSp (spP p) (LN (nuP p) - p.2.2.2.toNat):=by
 have hd:=clr_dvd.1 h.clr
 exact ⟨Nat.sub_le _ _,hd,fil_of hd⟩
theorem OkPf.vr {p:Pf} (h:OkPf p):VR (spP p):=by
 have hv:=h.num.1
 have hs:=h.sp
 refine ⟨hv,VN_fil hv h.bits,(fil_six hv h.bits).symm,?_⟩
 rw [hs.snd];exact Nat.le_add_right _ _
theorem RdK.pf {w:World} {ad:Option Addr} {L:List Pf} (h:RdK layPf w ad L) {k:Nat} {p:Pf} (hp:L[k]?=some p) {a1:Bool} {a2 a3:Nat} {a4:Int} (hc:pfC p=[.bool a1, .int .u64 (a2:Int), .int .u64 (a3:Int), .int .i64 a4]) :
  ∃ g o,ad=some ⟨g,o,none⟩∧g < w.heap.size∧w.cell? ⟨g,o + k * 4,none⟩=some (.bool a1)∧w.cell? ⟨g,o + k * 4 + 1,none⟩=some (.int .u64 (a2:Int))∧w.cell? ⟨g,o + k * 4 + 2,none⟩=some (.int .u64 (a3:Int))∧w.cell? ⟨g,o + k * 4 + 3,none⟩=some (.int .i64 a4):=by
 obtain ⟨g,o,e,hg,h0⟩:=h k p hp
 have hE:layPf.enc p=pfC p:=rfl
 have hK:layPf.K=4:=rfl
 rw [hE,hc,hK] at h0
 exact ⟨g,o,e,hg,h0 0 _ rfl,h0 1 _ rfl,h0 2 _ rfl,h0 3 _ rfl⟩
theorem pf_cells {p:Pf} (h:OkPf p):∃ (a1:Bool) (a2 a3:Nat) (a4:Nat),pfC p=[.bool a1, .int .u64 (a2:Int), .int .u64 (a3:Int), .int .i64 (a4:Int)]∧pN (nuP p) (p.2.2.2.toNat:Int)=#[.bool a1, .int .u64 (a2:Int), .int .u64 (a3:Int), .int .i64 (a4:Int)]∧aN (nuP p)=#[.bool a1, .int .u64 (a2:Int), .int .u64 (a3:Int)] :=
 ⟨_,_,_,_,h.cells,rfl,rfl⟩
theorem src_blk {α:Type} (E:Lay α) {w:World} {B:Nat} {t:TypeId} {cs:Array Value} (x:α) (hb:Blk w B t cs) (h:cs=(E.enc x).toArray):Src w (some ⟨B,0,none⟩) 1 E.K (E.enc x):=by
 subst h
 refine ⟨by rw [E.len,Nat.one_mul],fun j u hu => ⟨_,rfl,hb.lt,?_⟩⟩
 have hadd:(⟨B,0,none⟩:Addr).add j=⟨B,j,none⟩:=by unfold Addr.add;split <;> simp_all
 rw [hadd,hb.cell j]
 simpa using hu
def spR (bx:Nat) (t:TypeId) (out:Value) (pa pf pl v6:Array Value):Nat→Value→World→Prop
 | 0,v,_ => v=out
 | 1,v,_ => v=.pointer (some ⟨bx,0,none⟩)
 | 2,v,_ => v=.agg pa
 | 3,v,_ => v=.agg pf
 | 4,v,_ => v=.agg pl
 | 5,v,_ => v=.agg v6
 | _,v,w => ∃ B,v=.slice (some ⟨B,0,none⟩) 1 1∧Blk w B t v6
theorem spR_keep {bx:Nat} {t:TypeId} {out:Value} {pa pf pl v6:Array Value} (p:Nat) (v:Value) (u w:World) (h:spR bx t out pa pf pl v6 p v u) (hb:Below u.heap.size u w):spR bx t out pa pf pl v6 p v w:=by
 rcases p with _ | _ | _ | _ | _ | _ | p
 all_goals first | exact h | (obtain ⟨B,h1,h2⟩:=h;exact ⟨B,h1,h2.below hb h2.lt⟩)
theorem spanOf_any (ad:Option Addr) (n c:Nat) (L:List Pf) (w:World) (h:RdK layPf w ad L) (hn:L.length=n) (hs:n≤100000) (hv:∀ p ∈ L,OkPf p) :
  Calls Tryz.prog 92 #[.slice ad n c] w fun e w' => ∃ v,e=.returned v∧OwnK layRg w' w.heap.size v (jn (L.map spP))∧Below w.heap.size w w':=by
 have Hv:=Lib.hid hv
 have H0:=Lib.hid h
 have Hn:=Lib.hid hn
 clear h hn hv
 go_enter Tryz.func92,Tryz.ntmps92
 go_wp2_with fail
 go_loopw [3,5,8] (fun out bx i wr => ∃ k:Nat,k≤n∧i=.int .i64 (k:Int)∧Hid (OwnK layRg wr w.heap.size out ((L.take k).map spP))∧Hid (Below w.heap.size w wr)) (fun _ _ i _ => n - (intOf i).toNat)
 case atStart => exact ⟨0,Nat.zero_le _,rfl,Lib.hid (OwnK.nil _ _ _),Lib.hid (Below.refl _ _)⟩
 case round =>
  obtain ⟨k,hk,rfl,HO,HB⟩:=hrel
  by_cases hlt:k < n
  ·have hS:k < L.length:=by rw [Hn.out];exact hlt
   obtain ⟨p,hp⟩:∃ p,L[k]?=some p:=⟨_,List.getElem?_eq_getElem hS⟩
   have hok:=Hv.out p (List.mem_of_getElem? hp)
   obtain ⟨a1,a2,a3,a4,hpc,hpn,hpa⟩:=pf_cells hok
   obtain ⟨g,o,had,hg,c0,c1,c2,c3⟩:=(H0.out.below HB.out).pf hp hpc
   subst had
   have HT1:Hid ((L.take (k + 1)).map spP=(L.take k).map spP ++ [spP p]):=Lib.hid (by
    have:L[k]=p:=by rw [List.getElem?_eq_getElem hS] at hp;injection hp
    rw [List.take_succ_eq_append_getElem hS,List.map_append,this];rfl)
   have HL:=Lib.hid fun wx => spanLastN (n:=p.2.2.2.toNat) wx hok.num.1 hok.bits
   rw [hpn] at HL
   have HE:Hid (layRg.enc (spP p)=(aN (nuP p)).toList ++ (aN (fil (nuP p) (LN (nuP p) - p.2.2.2.toNat))).toList):=Lib.hid rfl
   rw [hpa] at HE
   generalize spP p=sp at *
   have hlen:((L.take k).map spP).length=k:=by rw [List.length_map,List.length_take];omega
   have HLn:=Lib.hid hlen
   unfold aN at HL HE
   generalize sixN (fil (nuP p) (LN (nuP p) - p.2.2.2.toNat))=v1 at *
   generalize hiN (fil (nuP p) (LN (nuP p) - p.2.2.2.toNat))=v2 at *
   generalize loN (fil (nuP p) (LN (nuP p) - p.2.2.2.toNat))=v3 at *
   clear hp hS hok hpc hpn hpa hlen
   have HB1:Hid (Below w.heap.size w (wr.alloc (.cells #[.bool a1, .int .u64 (a2:Int), .int .u64 (a3:Int), .int .i64 (a4:Int)] 30 (0,0)))):=Lib.hid (Below.alloc HB.out HB.out.size _)
   have HP1:Hid (Blk (wr.alloc (.cells #[.bool a1, .int .u64 (a2:Int), .int .u64 (a3:Int), .int .i64 (a4:Int)] 30 (0,0))) wr.heap.size 30 #[.bool a1, .int .u64 (a2:Int), .int .u64 (a3:Int), .int .i64 (a4:Int)]):=Lib.hid (Blk.new wr _ _)
   have HO1:Hid (OwnK layRg (wr.alloc (.cells #[.bool a1, .int .u64 (a2:Int), .int .u64 (a3:Int), .int .i64 (a4:Int)] 30 (0,0))) w.heap.size u3 ((L.take k).map spP)):=Lib.hid (HO.out.alloc _)
   go_upto_region 5 with fail
   generalize wr.alloc (.cells #[.bool a1, .int .u64 (a2:Int), .int .u64 (a3:Int), .int .i64 (a4:Int)] 30 (0,0))=w3 at *
   generalize wr.heap.size=bx at *
   clear HB HO c0 c1 c2 c3 hg
   have d0:=HP1.out.cell 0
   have d1:=HP1.out.cell 1
   have d2:=HP1.out.cell 2
   have d3:=HP1.out.cell 3
   simp at d0 d1 d2 d3
   have l0:=Later.cell_of d0
   have l1:=Later.cell_of d1
   have l2:=Later.cell_of d2
   have l3:=Later.cell_of d3
   have hL:=fun x:Later w3 => Calls.later x (HL.out x.1)
   have HO6:=HO1
   generalize hLL:(L.take k).map spP=LL at *
   clear hLL
   refine wp_region_inv 7 0 (spR bx 92 u3 #[.bool a1, .int .u64 (a2:Int), .int .u64 (a3:Int)] #[.bool a1, .int .u64 (a2:Int), .int .u64 (a3:Int), .int .i64 (a4:Int)] #[.bool v1, .int .u64 (v2:Int), .int .u64 (v3:Int)] #[.bool a1, .int .u64 (a2:Int), .int .u64 (a3:Int), .bool v1, .int .u64 (v2:Int), .int .u64 (v3:Int)]) (fun _ w' => Below w3.heap.size w3 w') (fun u v => Below u.heap.size u v) (fun _ => 0)
    (by kernel_rfl) (by kernel_rfl) (by decide) spR_keep (below_drew (Below.refl _ _)) ?hX
   case' hX => (apply Exists.intro;refine ⟨fun T => ?hA,?hob,?hend⟩)
   case hA =>
    simp only [setAll,List.take_succ_cons,List.take_zero,Act.put,List.setIfInBounds_toArray,List.set_cons_succ,List.set_cons_zero,Nat.reduceAdd]
    exact rfl
   case hob =>
    clear HO1 HB1 HP1 HO6 d0 d1 d2 d3 HT1 HE HLn hL
    go_light
    refine ⟨?_,?_,?_,?_,?_,?_,?_,trivial⟩
    all_goals (intro T wx n0 hC hn hp;dsimp only at hn ⊢;unfold Op1)
    ·go_simp
     exact ⟨rfl,Below.refl _ _⟩
    ·go_simp
     exact ⟨rfl,Below.refl _ _⟩
    ·obtain ⟨h0, -⟩:=hp
     have h0:T 1=.pointer (some ⟨bx,0,none⟩):=h0
     have e0:=l0 ⟨wx,hC⟩
     have e1:=l1 ⟨wx,hC⟩
     have e2:=l2 ⟨wx,hC⟩
     simp only at e0 e1 e2
     go_simp
     exact ⟨rfl,Below.refl _ _⟩
    ·have e0:=l0 ⟨wx,hC⟩
     have e1:=l1 ⟨wx,hC⟩
     have e2:=l2 ⟨wx,hC⟩
     have e3:=l3 ⟨wx,hC⟩
     simp only at e0 e1 e2 e3
     go_simp
     exact ⟨rfl,Below.refl _ _⟩
    ·obtain ⟨h0, -⟩:=hp
     have h0:T 3=.agg #[.bool a1, .int .u64 (a2:Int), .int .u64 (a3:Int), .int .i64 (a4:Int)]:=h0
     go_simp
     refine (HL.out wx).mono ?_
     rintro e w5 ⟨rfl,hb⟩
     exact ⟨_,rfl,rfl,hC.trans (hb.mono hC.size),hb⟩
    ·obtain ⟨h0,h1, -⟩:=hp
     have h0:T 2=.agg #[.bool a1, .int .u64 (a2:Int), .int .u64 (a3:Int)]:=h0
     have h1:T 4=.agg #[.bool v1, .int .u64 (v2:Int), .int .u64 (v3:Int)]:=h1
     go_simp
     exact ⟨rfl,Below.refl _ _⟩
    ·obtain ⟨h0, -⟩:=hp
     have h0:T 5=.agg #[.bool a1, .int .u64 (a2:Int), .int .u64 (a3:Int), .bool v1, .int .u64 (v2:Int), .int .u64 (v3:Int)]:=h0
     go_simp
     exact ⟨⟨wx.heap.size,rfl,Blk.new wx _ _⟩,below_alloc hC _,below_alloc (Below.refl _ _) _⟩
   case hend =>
    intro T w4 ⟨n0,hn0,hb⟩ hR
    have hT0:T 0=u3:=hR 0 (by omega)
    obtain ⟨B,hT6,hBl⟩:=hR 6 (by omega)
    have HO4:=Lib.hid (HO1.out.later hb)
    have HB4:=Lib.hid (HB1.out.trans (hb.mono HB1.out.size))
    have HBl:=Lib.hid hBl
    clear hR hb hBl HO1 HB1 HP1 HO6 d0 d1 d2 d3 l0 l1 l2 l3 hL
    simp only [List.drop_succ_cons,List.drop_zero]
    refine wpList_app (c:=1) rgE rfl (.tmp 12) (.tmp 18) rfl ?hs HO4.out ?hx (src_blk layRg sp HBl.out ?c0) ?c1 ?c2 ?c3 ?c4 ?_
    case hs => exact hT0
    case hx => exact hT6
    case c0 => exact (congrArg List.toArray HE.out).symm
    case c1 => exact layRg.one sp
    case c2 => unfold maxLen;rw [HLn.out];omega
    case c3 => rw [HLn.out];omega
    case c4 => exact HB4.out.size
    intro v' w' hO hG
    have HO':Hid (OwnK layRg w' w.heap.size v' ((L.take (k + 1)).map spP)):=Lib.hid (by rw [HT1.out];exact OwnK.snoc hO)
    have HB':Hid (Below w.heap.size w w'):=Lib.hid (HB4.out.trans (hG.below HB4.out.size (own_base HO4.out)))
    clear hO hG
    go_wp2
    exact ⟨⟨k + 1,by omega,by go_num,HO',HB'⟩,by simp [intOf];omega⟩
  ·obtain rfl:k=n:=by omega
   have hT:L.take k=L:=List.take_of_length_le (by rw [Hn.out];exact Nat.le_refl _)
   have HO2:Hid (OwnK layRg wr w.heap.size u3 (L.map spP)):=Lib.hid (by have:=HO.out;rw [hT] at this;exact this)
   obtain ⟨ad2,c2,hv2,_,_,_⟩:=HO2.out.form
   rw [List.length_map,Hn.out] at hv2
   subst hv2
   have HJ:=Lib.hid (joined_any ad2 k c2 (L.map spP) wr HO2.out.rd (by rw [List.length_map,Hn.out]) (by omega) (fun p hp => by
    obtain ⟨q,hq,rfl⟩:=List.mem_map.1 hp
    exact (Hv.out q hq).vr))
   clear hT HO HO2
   go_wp2_with fail
   refine HJ.out.mono ?_
   rintro e w2 ⟨v,rfl,hO,hb⟩
   go_wp2_with fail
   go_ret
   exact ⟨_,rfl,hO.weak HB.out.size,HB.out.trans (hb.mono HB.out.size)⟩
end Go.Proofs.YteldaicgaeooiaaGreatDoor
