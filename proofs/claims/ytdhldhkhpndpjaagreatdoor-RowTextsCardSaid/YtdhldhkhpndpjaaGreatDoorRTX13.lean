/-
  The eight groups of an address: groupsOf of the program and of the reference.
  The longest row of groups that are zero: zeros of the program; and what the reference looks for is the same.
  An address of eight groups as text: textOf of the program.
  The longest row of zeros, plain: what the reference's search finds is what the program's loop keeps.
  The closure of AddrText; slices.IndexFunc, ContainsFunc at a piece of a row of strings.
  An address of eight groups as text: AddrText of the reference.
  addr.Text of the program, AddrText of the reference at any right address: one text.
  Parse and AddrParse = parseF. Condition: at most a million bytes.
-/
import Derived.Test.YtdhldhkhpndpjaaGreatDoorRTX12
import Derived.Test.YtdhldhkhpndpjaaGreatDoorRTX5
set_option linter.unusedVariables false
set_option maxRecDepth 100000
set_option maxHeartbeats 4000000
namespace Go.Proofs.YtdhldhkhpndpjaaGreatDoor
open Go.RowKit Go
def G8 (g:Nat→Nat):Array Value:=#[.int .u64 ((g 7:Nat):Int), .int .u64 ((g 6:Nat):Int), .int .u64 ((g 5:Nat):Int), .int .u64 ((g 4:Nat):Int), .int .u64 ((g 3:Nat):Int), .int .u64 ((g 2:Nat):Int), .int .u64 ((g 1:Nat):Int), .int .u64 ((g 0:Nat):Int)]
def I8 (g:Nat→Nat):List Int:=[((g 7:Nat):Int),((g 6:Nat):Int),((g 5:Nat):Int),((g 4:Nat):Int),((g 3:Nat):Int),((g 2:Nat):Int),((g 1:Nat):Int),((g 0:Nat):Int)]
theorem groupsA_any (hi lo:Nat) (w:World) (h1:hi < 18446744073709551616) (h2:lo < 18446744073709551616):Calls Tryz.prog 241 #[.agg #[.bool true, .int .u64 (hi:Int), .int .u64 (lo:Int)]] w (Ret (.agg (G8 (dg hi lo))) w):=by
 have h0:Go.bits .and .u64 ((hi:Int) / 281474976710656) 65535=((dg hi lo 7:Nat):Int):=by rw [show (hi:Int) / 281474976710656=((hi / 281474976710656:Nat):Int) by omega,u64_and65535];rfl
 have h1:Go.bits .and .u64 ((hi:Int) / 4294967296) 65535=((dg hi lo 6:Nat):Int):=by rw [show (hi:Int) / 4294967296=((hi / 4294967296:Nat):Int) by omega,u64_and65535];rfl
 have h2:Go.bits .and .u64 ((hi:Int) / 65536) 65535=((dg hi lo 5:Nat):Int):=by rw [show (hi:Int) / 65536=((hi / 65536:Nat):Int) by omega,u64_and65535];rfl
 have h3:Go.bits .and .u64 (hi:Int) 65535=((dg hi lo 4:Nat):Int):=by rw [u64_and65535];rfl
 have l0:Go.bits .and .u64 ((lo:Int) / 281474976710656) 65535=((dg hi lo 3:Nat):Int):=by rw [show (lo:Int) / 281474976710656=((lo / 281474976710656:Nat):Int) by omega,u64_and65535];rfl
 have l1:Go.bits .and .u64 ((lo:Int) / 4294967296) 65535=((dg hi lo 2:Nat):Int):=by rw [show (lo:Int) / 4294967296=((lo / 4294967296:Nat):Int) by omega,u64_and65535];rfl
 have l2:Go.bits .and .u64 ((lo:Int) / 65536) 65535=((dg hi lo 1:Nat):Int):=by rw [show (lo:Int) / 65536=((lo / 65536:Nat):Int) by omega,u64_and65535];rfl
 have l3:Go.bits .and .u64 (lo:Int) 65535=((dg hi lo 0:Nat):Int):=by rw [u64_and65535];rfl
 have hG:G8 (dg hi lo)=#[.int .u64 ((dg hi lo 7:Nat):Int), .int .u64 ((dg hi lo 6:Nat):Int), .int .u64 ((dg hi lo 5:Nat):Int), .int .u64 ((dg hi lo 4:Nat):Int), .int .u64 ((dg hi lo 3:Nat):Int), .int .u64 ((dg hi lo 2:Nat):Int), .int .u64 ((dg hi lo 1:Nat):Int), .int .u64 ((dg hi lo 0:Nat):Int)]:=rfl
 rw [hG]
 clear hG
 generalize dg hi lo 0=g0 at *
 generalize dg hi lo 1=g1 at *
 generalize dg hi lo 2=g2 at *
 generalize dg hi lo 3=g3 at *
 generalize dg hi lo 4=g4 at *
 generalize dg hi lo 5=g5 at *
 generalize dg hi lo 6=g6 at *
 generalize dg hi lo 7=g7 at *
 go_enter Tryz.func241,Tryz.ntmps241
 go_wp2_with fail
 refine wp_loop_rounds 5 ?_
 rw [rounds_succ]
 go_wp2_with (rw [rounds_succ])
 refine bodyPost_ret (v:=.agg #[.int .u64 (g7:Int), .int .u64 (g6:Int), .int .u64 (g5:Int), .int .u64 (g4:Int), .int .u64 (g3:Int), .int .u64 (g2:Int), .int .u64 (g1:Int), .int .u64 (g0:Int)]) (by simp [results,Tryz.results241,go_sem]) rfl ⟨rfl,below_alloc (below_alloc (below_alloc (Below.refl _ _) _) _) _⟩
def OwnN (w:World) (base:Nat) (v:Value) (L:List Int):Prop:=w.ownsRow base 3 1 v L.length (L.map (Value.int .i64))
theorem intE:EI Tryz.prog 22 3 1 8:=EI.mk' (z:=.int .i64 0) Tryz.underlying22 (by kernel_rfl) rfl (by decide)
theorem OwnN.nil (w:World) (base:Nat):OwnN w base (.slice none 0 0) []:=World.ownsRow_nil w base _ 1
theorem OwnN.one {w:World} {B:Nat} {v:Value} {L:List Int} (h:OwnN w B v L) (hl:1≤L.length) :
  ∃ g c,v=.slice (some ⟨g,0,none⟩) L.length c∧B≤g∧g < w.heap.size∧L.length≤c∧c≤maxLen∧∀ (j:Nat) x,L[j]?=some x→w.cell? ⟨g,j,none⟩=some (.int .i64 x):=by
 rcases h.2 with ⟨rfl,h0⟩ | ⟨g,cap,cur,rfl,hb,hg,hc,hm,hs,ht⟩
 ·omega
 ·refine ⟨g,cap,rfl,hb,lt_of_block hg,hc,hm,fun j x hx => ?_⟩
  have hj:j < L.length:=by
   rcases Nat.lt_or_ge j L.length with h | h
   ·exact h
   ·rw [List.getElem?_eq_none h] at hx;cases hx
  rw [cell_of_row w g _ _ _ _ hg]
  have h2:(L.map (Value.int .i64))[j]?=some (.int .i64 x):=by simp [hx]
  rw [← ht,List.getElem?_take,if_pos (by omega),Array.getElem?_toList] at h2
  exact h2
theorem groupsQ_any (hi lo:Nat) (w:World) (h1:hi < 18446744073709551616) (h2:lo < 18446744073709551616):Calls Tryz.prog 206 #[.agg #[.bool true, .int .u64 (hi:Int), .int .u64 (lo:Int)]] w fun e w' => ∃ g c,e=.returned (.slice (some ⟨g,0,none⟩) 8 c)∧g < w'.heap.size∧(∀ (j:Nat) x,(I8 (dg hi lo))[j]?=some x→w'.cell? ⟨g,j,none⟩=some (.int .i64 x))∧Below w.heap.size w w':=by
 have HOf:=Lib.hid fun wx => of_any true hi lo wx h1 h2
 rw [wCells_wv] at HOf
 unfold vA at HOf
 have hI:I8 (dg hi lo)=[((dg hi lo 7:Nat):Int),((dg hi lo 6:Nat):Int),((dg hi lo 5:Nat):Int),((dg hi lo 4:Nat):Int),((dg hi lo 3:Nat):Int),((dg hi lo 2:Nat):Int),((dg hi lo 1:Nat):Int),((dg hi lo 0:Nat):Int)]:=rfl
 rw [hI]
 clear hI
 have q0:=wv_get true (dg hi lo) 0 (by decide)
 have Q0:=Lib.hid q0
 clear q0
 generalize dg hi lo 0=g0 at *
 have q1:=wv_get true (dg hi lo) 1 (by decide)
 have Q1:=Lib.hid q1
 clear q1
 generalize dg hi lo 1=g1 at *
 have q2:=wv_get true (dg hi lo) 2 (by decide)
 have Q2:=Lib.hid q2
 clear q2
 generalize dg hi lo 2=g2 at *
 have q3:=wv_get true (dg hi lo) 3 (by decide)
 have Q3:=Lib.hid q3
 clear q3
 generalize dg hi lo 3=g3 at *
 have q4:=wv_get true (dg hi lo) 4 (by decide)
 have Q4:=Lib.hid q4
 clear q4
 generalize dg hi lo 4=g4 at *
 have q5:=wv_get true (dg hi lo) 5 (by decide)
 have Q5:=Lib.hid q5
 clear q5
 generalize dg hi lo 5=g5 at *
 have q6:=wv_get true (dg hi lo) 6 (by decide)
 have Q6:=Lib.hid q6
 clear q6
 generalize dg hi lo 6=g6 at *
 have q7:=wv_get true (dg hi lo) 7 (by decide)
 have Q7:=Lib.hid q7
 clear q7
 generalize dg hi lo 7=g7 at *
 have HP:Hid (Blk (w.alloc (.cells #[.bool true, .int .u64 (hi:Int), .int .u64 (lo:Int)] 28 (0,0))) w.heap.size 28 #[.bool true, .int .u64 (hi:Int), .int .u64 (lo:Int)]):=Lib.hid (Blk.new w _ _)
 have HB:Hid (Below w.heap.size w (w.alloc (.cells #[.bool true, .int .u64 (hi:Int), .int .u64 (lo:Int)] 28 (0,0)))):=Lib.hid (below_alloc (Below.refl _ _) _)
 go_enter Tryz.func206,Tryz.ntmps206
 go_upto_region 1 with fail
 generalize w.alloc (.cells #[.bool true, .int .u64 (hi:Int), .int .u64 (lo:Int)] 28 (0,0))=w0 at *
 have p0:=HP.out.cell 0
 have p1:=HP.out.cell 1
 have p2:=HP.out.cell 2
 simp at p0 p1 p2
 go_wp2_with fail
 refine (HOf.out _).mono ?_
 rintro e w1 ⟨rfl,hb⟩
 have hw1:w.heap.size≤w1.heap.size:=Nat.le_trans HB.out.size hb.size
 have HB1:Hid (Below w.heap.size w (w1.alloc (.cells #[.int .i64 0, .int .i64 0, .int .i64 0, .int .i64 0, .int .i64 0, .int .i64 0, .int .i64 0, .int .i64 0, .int .i64 0] 121 (0,0)))):=Lib.hid (below_alloc (HB.out.trans (hb.mono HB.out.size)) _)
 have HB2:=Lib.hid (belowRow HB1.out hw1 (wv true (dg hi lo)))
 have HZ:Hid (Blk (w1.alloc (.cells #[.int .i64 0, .int .i64 0, .int .i64 0, .int .i64 0, .int .i64 0, .int .i64 0, .int .i64 0, .int .i64 0, .int .i64 0] 121 (0,0))) w1.heap.size 121 #[.int .i64 0, .int .i64 0, .int .i64 0, .int .i64 0, .int .i64 0, .int .i64 0, .int .i64 0, .int .i64 0, .int .i64 0]):=Lib.hid (Blk.new w1 _ _)
 have HW2:Hid (Blk ((w1.alloc (.cells #[.int .i64 0, .int .i64 0, .int .i64 0, .int .i64 0, .int .i64 0, .int .i64 0, .int .i64 0, .int .i64 0, .int .i64 0] 121 (0,0))).setRow w1.heap.size (wv true (dg hi lo))) w1.heap.size 121 (wv true (dg hi lo))):=Lib.hid (HZ.out.row _)
 clear hb HB HP p0 p1 p2 HOf HB1
 go_upto_region 2 with (refine wpList_store_row rfl 121 (.tmp 3) (.tmp 7) rfl w1.heap.size (wv true (dg hi lo)) rfl rfl 121 #[.int .i64 0, .int .i64 0, .int .i64 0, .int .i64 0, .int .i64 0, .int .i64 0, .int .i64 0, .int .i64 0, .int .i64 0] HZ.out (by kernel_rfl) rfl (wv_one _ _) ?_)
 clear HZ
 generalize (w1.alloc (.cells #[.int .i64 0, .int .i64 0, .int .i64 0, .int .i64 0, .int .i64 0, .int .i64 0, .int .i64 0, .int .i64 0, .int .i64 0] 121 (0,0))).setRow w1.heap.size (wv true (dg hi lo))=w2 at *
 generalize w1.heap.size=V at *
 go_wp2
 go_loopw [4,5] (fun v i wr => ∃ k:Nat,k≤8∧i=.int .i64 ((7:Int) - k)∧Hid (OwnN wr w2.heap.size v (([(g7:Int),(g6:Int),(g5:Int),(g4:Int),(g3:Int),(g2:Int),(g1:Int),(g0:Int)]:List Int).take k))∧Hid (Below w2.heap.size w2 wr)) (fun _ i _ => (intOf i + 1).toNat)
 case atStart => exact ⟨0,Nat.zero_le _,rfl,Lib.hid (OwnN.nil _ _),Lib.hid (Below.refl _ _)⟩
 case round =>
  obtain ⟨k,hk,rfl,HO,HBr⟩:=hrel
  by_cases hlt:k < 8
  ·have hk8:k=0 ∨ k=1 ∨ k=2 ∨ k=3 ∨ k=4 ∨ k=5 ∨ k=6 ∨ k=7:=by omega
   have HWr:=Lib.hid (HW2.out.below HBr.out HW2.out.lt)
   rcases hk8 with rfl | rfl | rfl | rfl | rfl | rfl | rfl | rfl
   ·have ek:((7:Int) - (0:Nat))=7:=by decide
    rw [ek]
    have p:=HWr.out.cell 7
    rw [Q7.out] at p
    go_wp2_with (at_builtin;refine wpList_app intE rfl (.tmp 12) (.tmp 16) rfl rfl (World.ownsRow.alloc HO.out _) rfl (src_one_new _ _ _) ?c1 ?c2 ?c3 ?c4 ?_)
    case c1 => first | rfl | (intro u hu;simp at hu;subst hu;rfl)
    case c2 => unfold maxLen;simp
    case c3 => simp
    case c4 => have:=HBr.out.size;simp;omega
    intro v' w4 hO hG
    have HO':=Lib.hid (show OwnN w4 w2.heap.size v' (([(g7:Int),(g6:Int),(g5:Int),(g4:Int),(g3:Int),(g2:Int),(g1:Int),(g0:Int)]:List Int).take 1) from hO)
    have HB':Hid (Below w2.heap.size w2 w4):=Lib.hid ((Below.alloc HBr.out HBr.out.size _).trans (hG.below (by have:=HBr.out.size;simp;omega) (own_base HO.out)))
    clear hO hG p HBr HO HWr
    go_wp2
    exact ⟨⟨1,by decide,rfl,HO',HB'⟩,by simp [intOf]⟩
   ·have ek:((7:Int) - (1:Nat))=6:=by decide
    rw [ek]
    have p:=HWr.out.cell 6
    rw [Q6.out] at p
    go_wp2_with (at_builtin;refine wpList_app intE rfl (.tmp 12) (.tmp 16) rfl rfl (World.ownsRow.alloc HO.out _) rfl (src_one_new _ _ _) ?c1 ?c2 ?c3 ?c4 ?_)
    case c1 => first | rfl | (intro u hu;simp at hu;subst hu;rfl)
    case c2 => unfold maxLen;simp
    case c3 => simp
    case c4 => have:=HBr.out.size;simp;omega
    intro v' w4 hO hG
    have HO':=Lib.hid (show OwnN w4 w2.heap.size v' (([(g7:Int),(g6:Int),(g5:Int),(g4:Int),(g3:Int),(g2:Int),(g1:Int),(g0:Int)]:List Int).take 2) from hO)
    have HB':Hid (Below w2.heap.size w2 w4):=Lib.hid ((Below.alloc HBr.out HBr.out.size _).trans (hG.below (by have:=HBr.out.size;simp;omega) (own_base HO.out)))
    clear hO hG p HBr HO HWr
    go_wp2
    exact ⟨⟨2,by decide,rfl,HO',HB'⟩,by simp [intOf]⟩
   ·have ek:((7:Int) - (2:Nat))=5:=by decide
    rw [ek]
    have p:=HWr.out.cell 5
    rw [Q5.out] at p
    go_wp2_with (at_builtin;refine wpList_app intE rfl (.tmp 12) (.tmp 16) rfl rfl (World.ownsRow.alloc HO.out _) rfl (src_one_new _ _ _) ?c1 ?c2 ?c3 ?c4 ?_)
    case c1 => first | rfl | (intro u hu;simp at hu;subst hu;rfl)
    case c2 => unfold maxLen;simp
    case c3 => simp
    case c4 => have:=HBr.out.size;simp;omega
    intro v' w4 hO hG
    have HO':=Lib.hid (show OwnN w4 w2.heap.size v' (([(g7:Int),(g6:Int),(g5:Int),(g4:Int),(g3:Int),(g2:Int),(g1:Int),(g0:Int)]:List Int).take 3) from hO)
    have HB':Hid (Below w2.heap.size w2 w4):=Lib.hid ((Below.alloc HBr.out HBr.out.size _).trans (hG.below (by have:=HBr.out.size;simp;omega) (own_base HO.out)))
    clear hO hG p HBr HO HWr
    go_wp2
    exact ⟨⟨3,by decide,rfl,HO',HB'⟩,by simp [intOf]⟩
   ·have ek:((7:Int) - (3:Nat))=4:=by decide
    rw [ek]
    have p:=HWr.out.cell 4
    rw [Q4.out] at p
    go_wp2_with (at_builtin;refine wpList_app intE rfl (.tmp 12) (.tmp 16) rfl rfl (World.ownsRow.alloc HO.out _) rfl (src_one_new _ _ _) ?c1 ?c2 ?c3 ?c4 ?_)
    case c1 => first | rfl | (intro u hu;simp at hu;subst hu;rfl)
    case c2 => unfold maxLen;simp
    case c3 => simp
    case c4 => have:=HBr.out.size;simp;omega
    intro v' w4 hO hG
    have HO':=Lib.hid (show OwnN w4 w2.heap.size v' (([(g7:Int),(g6:Int),(g5:Int),(g4:Int),(g3:Int),(g2:Int),(g1:Int),(g0:Int)]:List Int).take 4) from hO)
    have HB':Hid (Below w2.heap.size w2 w4):=Lib.hid ((Below.alloc HBr.out HBr.out.size _).trans (hG.below (by have:=HBr.out.size;simp;omega) (own_base HO.out)))
    clear hO hG p HBr HO HWr
    go_wp2
    exact ⟨⟨4,by decide,rfl,HO',HB'⟩,by simp [intOf]⟩
   ·have ek:((7:Int) - (4:Nat))=3:=by decide
    rw [ek]
    have p:=HWr.out.cell 3
    rw [Q3.out] at p
    go_wp2_with (at_builtin;refine wpList_app intE rfl (.tmp 12) (.tmp 16) rfl rfl (World.ownsRow.alloc HO.out _) rfl (src_one_new _ _ _) ?c1 ?c2 ?c3 ?c4 ?_)
    case c1 => first | rfl | (intro u hu;simp at hu;subst hu;rfl)
    case c2 => unfold maxLen;simp
    case c3 => simp
    case c4 => have:=HBr.out.size;simp;omega
    intro v' w4 hO hG
    have HO':=Lib.hid (show OwnN w4 w2.heap.size v' (([(g7:Int),(g6:Int),(g5:Int),(g4:Int),(g3:Int),(g2:Int),(g1:Int),(g0:Int)]:List Int).take 5) from hO)
    have HB':Hid (Below w2.heap.size w2 w4):=Lib.hid ((Below.alloc HBr.out HBr.out.size _).trans (hG.below (by have:=HBr.out.size;simp;omega) (own_base HO.out)))
    clear hO hG p HBr HO HWr
    go_wp2
    exact ⟨⟨5,by decide,rfl,HO',HB'⟩,by simp [intOf]⟩
   ·have ek:((7:Int) - (5:Nat))=2:=by decide
    rw [ek]
    have p:=HWr.out.cell 2
    rw [Q2.out] at p
    go_wp2_with (at_builtin;refine wpList_app intE rfl (.tmp 12) (.tmp 16) rfl rfl (World.ownsRow.alloc HO.out _) rfl (src_one_new _ _ _) ?c1 ?c2 ?c3 ?c4 ?_)
    case c1 => first | rfl | (intro u hu;simp at hu;subst hu;rfl)
    case c2 => unfold maxLen;simp
    case c3 => simp
    case c4 => have:=HBr.out.size;simp;omega
    intro v' w4 hO hG
    have HO':=Lib.hid (show OwnN w4 w2.heap.size v' (([(g7:Int),(g6:Int),(g5:Int),(g4:Int),(g3:Int),(g2:Int),(g1:Int),(g0:Int)]:List Int).take 6) from hO)
    have HB':Hid (Below w2.heap.size w2 w4):=Lib.hid ((Below.alloc HBr.out HBr.out.size _).trans (hG.below (by have:=HBr.out.size;simp;omega) (own_base HO.out)))
    clear hO hG p HBr HO HWr
    go_wp2
    exact ⟨⟨6,by decide,rfl,HO',HB'⟩,by simp [intOf]⟩
   ·have ek:((7:Int) - (6:Nat))=1:=by decide
    rw [ek]
    have p:=HWr.out.cell 1
    rw [Q1.out] at p
    go_wp2_with (at_builtin;refine wpList_app intE rfl (.tmp 12) (.tmp 16) rfl rfl (World.ownsRow.alloc HO.out _) rfl (src_one_new _ _ _) ?c1 ?c2 ?c3 ?c4 ?_)
    case c1 => first | rfl | (intro u hu;simp at hu;subst hu;rfl)
    case c2 => unfold maxLen;simp
    case c3 => simp
    case c4 => have:=HBr.out.size;simp;omega
    intro v' w4 hO hG
    have HO':=Lib.hid (show OwnN w4 w2.heap.size v' (([(g7:Int),(g6:Int),(g5:Int),(g4:Int),(g3:Int),(g2:Int),(g1:Int),(g0:Int)]:List Int).take 7) from hO)
    have HB':Hid (Below w2.heap.size w2 w4):=Lib.hid ((Below.alloc HBr.out HBr.out.size _).trans (hG.below (by have:=HBr.out.size;simp;omega) (own_base HO.out)))
    clear hO hG p HBr HO HWr
    go_wp2
    exact ⟨⟨7,by decide,rfl,HO',HB'⟩,by simp [intOf]⟩
   ·have ek:((7:Int) - (7:Nat))=0:=by decide
    rw [ek]
    have p:=HWr.out.cell 0
    rw [Q0.out] at p
    go_wp2_with (at_builtin;refine wpList_app intE rfl (.tmp 12) (.tmp 16) rfl rfl (World.ownsRow.alloc HO.out _) rfl (src_one_new _ _ _) ?c1 ?c2 ?c3 ?c4 ?_)
    case c1 => first | rfl | (intro u hu;simp at hu;subst hu;rfl)
    case c2 => unfold maxLen;simp
    case c3 => simp
    case c4 => have:=HBr.out.size;simp;omega
    intro v' w4 hO hG
    have HO':=Lib.hid (show OwnN w4 w2.heap.size v' (([(g7:Int),(g6:Int),(g5:Int),(g4:Int),(g3:Int),(g2:Int),(g1:Int),(g0:Int)]:List Int).take 8) from hO)
    have HB':Hid (Below w2.heap.size w2 w4):=Lib.hid ((Below.alloc HBr.out HBr.out.size _).trans (hG.below (by have:=HBr.out.size;simp;omega) (own_base HO.out)))
    clear hO hG p HBr HO HWr
    go_wp2
    exact ⟨⟨8,by decide,rfl,HO',HB'⟩,by simp [intOf]⟩
  ·obtain rfl:k=8:=by omega
   have ek:((7:Int) - (8:Nat))=-1:=by decide
   rw [ek]
   obtain ⟨g,c,hv,_,hg,hc,_,hcell⟩:=HO.out.one (by simp)
   have hv':u4=.slice (some ⟨g,0,none⟩) 8 c:=hv
   have HC:=Lib.hid hcell
   clear hv hcell hc
   subst hv'
   go_wp2_with fail
   go_ret
   exact ⟨g,c,rfl,hg,HC.out,HB2.out.trans (HBr.out.mono HB2.out.size)⟩
def run0 (z:Nat→Bool):Nat→Nat→Nat
 | 0,_ => 0
 | k + 1,i => if i < 8∧z i=true then run0 z k (i + 1) + 1 else 0
theorem run0_le (z:Nat→Bool):∀ k i,run0 z k i≤k
 | 0,_ => Nat.le_refl _
 | k + 1,i => by
   have:=run0_le z k (i + 1)
   unfold run0
   split <;> omega
theorem run0_stop {z:Nat→Bool} {i:Nat} (h:¬ (i < 8∧z i=true)):∀ k,run0 z k i=0
 | 0 => rfl
 | k + 1 => by unfold run0;rw [if_neg h]
def zF (z:Nat→Bool):Nat→Nat→Nat→Nat→Nat × Nat
 | 0,_,f,m => (f,m)
 | k + 1,i,f,m => if i < 8 then zF z k (i + run0 z 8 i + 1) (if m < run0 z 8 i then i else f) (if m < run0 z 8 i then run0 z 8 i else m) else (f,m)
theorem zF_stop {z:Nat→Bool} {i f m:Nat} (h:¬ i < 8):∀ k,zF z k i f m=(f,m)
 | 0 => rfl
 | k + 1 => by unfold zF;rw [if_neg h]
theorem G8_get (g:Nat→Nat) (j:Nat) (h:j < 8):(G8 g)[j]?=some (.int .u64 ((g (7 - j):Nat):Int)):=by
 have:j=0 ∨ j=1 ∨ j=2 ∨ j=3 ∨ j=4 ∨ j=5 ∨ j=6 ∨ j=7:=by omega
 rcases this with rfl | rfl | rfl | rfl | rfl | rfl | rfl | rfl <;> rfl
theorem G8_size (g:Nat→Nat):(G8 g).size=8:=rfl
def zB (g:Nat→Nat) (j:Nat):Bool:=g (7 - j) == 0
theorem zeros_any (g:Nat→Nat) (w:World):Calls Tryz.prog 242 #[.agg (G8 g)] w (Ret (.tuple #[.int .i64 ((zF (zB g) 8 0 0 0).1:Int), .int .i64 ((zF (zB g) 8 0 0 0).2:Int)]) w):=by
 have hGs:=G8_size g
 have Hg:=Lib.hid (G8_get g)
 obtain ⟨Z,hZ⟩:∃ Z,zF (zB g) 8 0 0 0=Z:=⟨_,rfl⟩
 rw [hZ]
 have HZ:=Lib.hid hZ
 clear hZ
 have HP:Hid (Blk (w.alloc (.cells (G8 g) 253 (0,0))) w.heap.size 253 (G8 g)):=Lib.hid (Blk.new w _ _)
 have HB:Hid (Below w.heap.size w (w.alloc (.cells (G8 g) 253 (0,0)))):=Lib.hid (below_alloc (Below.refl _ _) _)
 have hsz:=Tryz.sizeOf253
 go_enter Tryz.func242,Tryz.ntmps242
 go_upto_region 1 with fail
 generalize w.alloc (.cells (G8 g) 253 (0,0))=w1 at *
 go_wp2_with fail
 go_loopw [2,3,4,5] (fun a b c d wr => ∃ k i f m:Nat,8 - i≤k∧i≤17∧f≤17∧m≤8∧a=.int .i64 (f:Int)∧b=.int .i64 (m:Int)∧c=.int .i64 (i:Int)∧Hid (zF (zB g) k i f m=Z)∧wr=w1) (fun _ _ c _ _ => 20 - (intOf c).toNat)
 case atStart => exact ⟨8,0,0,0,by omega,by omega,by omega,by omega,rfl,rfl,rfl,HZ,rfl⟩
 case round =>
  obtain ⟨k,i,f,m,hk,hi,hf,hm,rfl,rfl,rfl,HZk,rfl⟩:=hrel
  by_cases hlt:i < 8
  ·obtain ⟨k,rfl⟩:∃ k',k=k' + 1:=⟨k - 1,by omega⟩
   have hz:=HZk.out
   unfold zF at hz
   rw [if_pos hlt] at hz
   obtain ⟨N,hN⟩:∃ N,run0 (zB g) 8 i=N:=⟨_,rfl⟩
   have hN8:=run0_le (zB g) 8 i
   rw [hN] at hz hN8
   have HN:=Lib.hid hN
   have HZ2:=Lib.hid hz
   clear hz hN HZk HZ
   have hlt2:(i:Int) < 8:=by omega
   go_wp2_with fail
   go_loopw [5] (fun d wx => ∃ q n:Nat,8 - (i + n)≤q∧n≤8∧d=.int .i64 (n:Int)∧Hid (n + run0 (zB g) q (i + n)=N)∧wx=wr) (fun d _ => 8 - (intOf d).toNat)
   case atStart => exact ⟨8,0,by omega,by omega,rfl,Lib.hid (by rw [Nat.zero_add];exact HN.out),rfl⟩
   case round =>
    obtain ⟨q,n,hq,hn,rfl,HR,rfl⟩:=hrel
    by_cases hc:i + n < 8
    ·have hj8:(i:Int) + (n:Int) < 8:=by omega
     have p:=HP.out.cell (i + n)
     rw [Hg.out (i + n) hc] at p
     have e1:(i:Int) + (n:Int)=((i + n:Nat):Int):=by omega
     have hzb:zB g (i + n)=(g (7 - (i + n)) == 0):=rfl
     by_cases hx:g (7 - (i + n))=0
     ·rw [hx] at p hzb
      obtain ⟨q,rfl⟩:∃ q',q=q' + 1:=⟨q - 1,by omega⟩
      have hr:=HR.out
      unfold run0 at hr
      rw [if_pos ⟨hc,by rw [hzb];rfl⟩] at hr
      have HR2:Hid ((n + 1) + run0 (zB g) q (i + (n + 1))=N):=Lib.hid (by rw [← hr];rw [Nat.add_assoc i n 1];omega)
      obtain ⟨j,hj⟩:∃ j,i + n=j:=⟨_,rfl⟩
      rw [hj] at p e1
      have hj8n:j < 8:=by omega
      have z0:((0:Nat):Int)=0:=rfl
      rw [z0] at p
      clear hr HR hzb hx hj z0
      go_wp2_with fail
      exact ⟨⟨q,n + 1,by omega,by omega,by go_num,HR2,by first | rfl | trivial⟩,by simp [intOf];omega⟩
     ·obtain ⟨x,hx2⟩:∃ x,g (7 - (i + n))=x:=⟨_,rfl⟩
      rw [hx2] at p hx hzb
      have hx3:((x:Int) == 0)=false:=by simpa using hx
      have hx4:¬ (x:Int)=0:=by omega
      have hNn:n=N:=by have h:=HR.out;rw [run0_stop (by rw [hzb];simp [hx])] at h;omega
      obtain ⟨j,hj⟩:∃ j,i + n=j:=⟨_,rfl⟩
      rw [hj] at p e1
      have hj8n:j < 8:=by omega
      clear hzb hx hx2
      subst hNn
      have hz2:=HZ2.out
      clear HZ2 HR HN
      by_cases hm2:m < n
      ·rw [if_pos hm2,if_pos hm2] at hz2
       have HZ3:=Lib.hid hz2
       clear hz2
       have hm3:(n:Int) > (m:Int):=by omega
       go_wp2_with fail
       exact ⟨⟨k,i + n + 1,i,n,by omega,by omega,by omega,by omega,rfl,rfl,congrArg _ (by omega),HZ3,by first | rfl | trivial⟩,by simp [intOf];omega⟩
      ·rw [if_neg hm2,if_neg hm2] at hz2
       have HZ3:=Lib.hid hz2
       clear hz2
       have hm3:¬ (n:Int) > (m:Int):=by omega
       go_wp2_with fail
       exact ⟨⟨k,i + n + 1,f,m,by omega,by omega,by omega,by omega,rfl,rfl,congrArg _ (by omega),HZ3,by first | rfl | trivial⟩,by simp [intOf];omega⟩
    ·have hj8:¬ (i:Int) + (n:Int) < 8:=by omega
     have hNn:n=N:=by have h:=HR.out;rw [run0_stop (fun h => hc h.1)] at h;omega
     subst hNn
     have hz2:=HZ2.out
     clear HZ2 HR HN
     by_cases hm2:m < n
     ·rw [if_pos hm2,if_pos hm2] at hz2
      have HZ3:=Lib.hid hz2
      clear hz2
      have hm3:(n:Int) > (m:Int):=by omega
      go_wp2_with fail
      exact ⟨⟨k,i + n + 1,i,n,by omega,by omega,by omega,by omega,rfl,rfl,congrArg _ (by omega),HZ3,by first | rfl | trivial⟩,by simp [intOf];omega⟩
     ·rw [if_neg hm2,if_neg hm2] at hz2
      have HZ3:=Lib.hid hz2
      clear hz2
      have hm3:¬ (n:Int) > (m:Int):=by omega
      go_wp2_with fail
      exact ⟨⟨k,i + n + 1,f,m,by omega,by omega,by omega,by omega,rfl,rfl,congrArg _ (by omega),HZ3,by first | rfl | trivial⟩,by simp [intOf];omega⟩
  ·have hz:=HZk.out
   rw [zF_stop hlt] at hz
   have hlt2:¬ (i:Int) < 8:=by omega
   subst hz
   clear HZ HZk
   go_wp2_with fail
   go_ret2
   exact ⟨rfl,HB.out⟩
theorem run0_le2 (z:Nat→Bool):∀ k i,i≤8→i + run0 z k i≤8
 | 0,i,h => by show i + 0≤8;omega
 | k + 1,i,h => by
   unfold run0
   by_cases hc:i < 8∧z i=true
   ·rw [if_pos hc]
    have:=run0_le2 z k (i + 1) (by omega)
    omega
   ·rw [if_neg hc];omega
theorem zF_bd (z:Nat→Bool):∀ k i f m,f + m≤8→(zF z k i f m).1 + (zF z k i f m).2≤8
 | 0,i,f,m,h => h
 | k + 1,i,f,m,h => by
   unfold zF
   by_cases hc:i < 8
   ·rw [if_pos hc]
    apply zF_bd
    have:=run0_le2 z 8 i (by omega)
    split <;> omega
   ·rw [if_neg hc];exact h
theorem hexS_short (n:Nat):(hexS n).data.toList.length≤30:=by
 unfold hexS hexL
 split
 ·simp
 ·split
  ·simp
  ·split <;> simp
def sixL (g:Nat→Nat):List ByteArray:=[hexS (g 7),hexS (g 6),hexS (g 5),hexS (g 4),hexS (g 3),hexS (g 2),hexS (g 1),hexS (g 0)]
theorem sixL_short (g:Nat→Nat):Short (sixL g):=by
 refine ⟨by simp [sixL],fun x hx => ?_⟩
 simp [sixL] at hx
 rcases hx with rfl | rfl | rfl | rfl | rfl | rfl | rfl | rfl <;> exact hexS_short _
theorem Short.take {L:List ByteArray} (h:Short L) (n:Nat):Short (L.take n):=⟨by have:=h.1;simp;omega,fun x hx => h.2 x (List.mem_of_mem_take hx)⟩
theorem Short.drop {L:List ByteArray} (h:Short L) (n:Nat):Short (L.drop n):=⟨by have:=h.1;simp;omega,fun x hx => h.2 x (List.mem_of_mem_drop hx)⟩
theorem joinS_size {L:List ByteArray} (hs:Short L) (b:UInt8):(joinS L ⟨#[b]⟩).size≤248:=by
 have hl:=interc_len ((⟨#[b]⟩:ByteArray).data.toList) 30 (L.map (·.data.toList)) (fun x hx => by
  obtain ⟨y,hy,rfl⟩:=List.mem_map.1 hx
  exact hs.2 y hy)
 rw [List.length_map] at hl
 have h1:=hs.1
 have hsep:((⟨#[b]⟩:ByteArray).data.toList).length=1:=rfl
 rw [hsep] at hl
 show (Lib.join _ _).toArray.size≤248
 rw [List.size_toArray]
 omega
theorem add_str (a b:ByteArray) (ha:a.size≤1000000) (hb:b.size≤1000000) (w:World):(binOp .add 9 (.string a) (.string b)).run Tryz.prog w=.ok (.string (a ++ b)) w:=by
 have ha':(a.size:Int)≤8388608:=by omega
 have hb':(b.size:Int)≤8388608:=by omega
 simp [binOp,run_string_add, *]
def gapS (L:List ByteArray) (f m:Nat):ByteArray:=joinS (L.take f) ⟨#[58]⟩ ++ ⟨#[58,58]⟩ ++ joinS (L.drop (f + m)) ⟨#[58]⟩
def sixT (g:Nat→Nat):ByteArray:=if (zF (zB g) 8 0 0 0).2 < 2 then joinS (sixL g) ⟨#[58]⟩ else gapS (sixL g) (zF (zB g) 8 0 0 0).1 (zF (zB g) 8 0 0 0).2
theorem idx8_0 (a0 a1 a2 a3 a4 a5 a6 a7:Int) (w:World):(Instr.index 253 (.agg #[.int .u64 a0, .int .u64 a1, .int .u64 a2, .int .u64 a3, .int .u64 a4, .int .u64 a5, .int .u64 a6, .int .u64 a7]) (.int .i64 0)).run Tryz.prog w=.ok (.int .u64 a0) w:=by
 have hu:Tryz.prog.underlying 253=some (.array 8 26):=by kernel_rfl
 have hu2:Tryz.prog.underlying 26=some (.int .u64):=by kernel_rfl
 have hc:Tryz.prog.cellsOf 26=1:=by kernel_rfl
 simp [Instr.index,run_underlying hu,asIntOf,part,go_sem]
theorem idx8_1 (a0 a1 a2 a3 a4 a5 a6 a7:Int) (w:World):(Instr.index 253 (.agg #[.int .u64 a0, .int .u64 a1, .int .u64 a2, .int .u64 a3, .int .u64 a4, .int .u64 a5, .int .u64 a6, .int .u64 a7]) (.int .i64 1)).run Tryz.prog w=.ok (.int .u64 a1) w:=by
 have hu:Tryz.prog.underlying 253=some (.array 8 26):=by kernel_rfl
 have hu2:Tryz.prog.underlying 26=some (.int .u64):=by kernel_rfl
 have hc:Tryz.prog.cellsOf 26=1:=by kernel_rfl
 simp [Instr.index,run_underlying hu,asIntOf,part,go_sem]
theorem idx8_2 (a0 a1 a2 a3 a4 a5 a6 a7:Int) (w:World):(Instr.index 253 (.agg #[.int .u64 a0, .int .u64 a1, .int .u64 a2, .int .u64 a3, .int .u64 a4, .int .u64 a5, .int .u64 a6, .int .u64 a7]) (.int .i64 2)).run Tryz.prog w=.ok (.int .u64 a2) w:=by
 have hu:Tryz.prog.underlying 253=some (.array 8 26):=by kernel_rfl
 have hu2:Tryz.prog.underlying 26=some (.int .u64):=by kernel_rfl
 have hc:Tryz.prog.cellsOf 26=1:=by kernel_rfl
 simp [Instr.index,run_underlying hu,asIntOf,part,go_sem]
theorem idx8_3 (a0 a1 a2 a3 a4 a5 a6 a7:Int) (w:World):(Instr.index 253 (.agg #[.int .u64 a0, .int .u64 a1, .int .u64 a2, .int .u64 a3, .int .u64 a4, .int .u64 a5, .int .u64 a6, .int .u64 a7]) (.int .i64 3)).run Tryz.prog w=.ok (.int .u64 a3) w:=by
 have hu:Tryz.prog.underlying 253=some (.array 8 26):=by kernel_rfl
 have hu2:Tryz.prog.underlying 26=some (.int .u64):=by kernel_rfl
 have hc:Tryz.prog.cellsOf 26=1:=by kernel_rfl
 simp [Instr.index,run_underlying hu,asIntOf,part,go_sem]
theorem idx8_4 (a0 a1 a2 a3 a4 a5 a6 a7:Int) (w:World):(Instr.index 253 (.agg #[.int .u64 a0, .int .u64 a1, .int .u64 a2, .int .u64 a3, .int .u64 a4, .int .u64 a5, .int .u64 a6, .int .u64 a7]) (.int .i64 4)).run Tryz.prog w=.ok (.int .u64 a4) w:=by
 have hu:Tryz.prog.underlying 253=some (.array 8 26):=by kernel_rfl
 have hu2:Tryz.prog.underlying 26=some (.int .u64):=by kernel_rfl
 have hc:Tryz.prog.cellsOf 26=1:=by kernel_rfl
 simp [Instr.index,run_underlying hu,asIntOf,part,go_sem]
theorem idx8_5 (a0 a1 a2 a3 a4 a5 a6 a7:Int) (w:World):(Instr.index 253 (.agg #[.int .u64 a0, .int .u64 a1, .int .u64 a2, .int .u64 a3, .int .u64 a4, .int .u64 a5, .int .u64 a6, .int .u64 a7]) (.int .i64 5)).run Tryz.prog w=.ok (.int .u64 a5) w:=by
 have hu:Tryz.prog.underlying 253=some (.array 8 26):=by kernel_rfl
 have hu2:Tryz.prog.underlying 26=some (.int .u64):=by kernel_rfl
 have hc:Tryz.prog.cellsOf 26=1:=by kernel_rfl
 simp [Instr.index,run_underlying hu,asIntOf,part,go_sem]
theorem idx8_6 (a0 a1 a2 a3 a4 a5 a6 a7:Int) (w:World):(Instr.index 253 (.agg #[.int .u64 a0, .int .u64 a1, .int .u64 a2, .int .u64 a3, .int .u64 a4, .int .u64 a5, .int .u64 a6, .int .u64 a7]) (.int .i64 6)).run Tryz.prog w=.ok (.int .u64 a6) w:=by
 have hu:Tryz.prog.underlying 253=some (.array 8 26):=by kernel_rfl
 have hu2:Tryz.prog.underlying 26=some (.int .u64):=by kernel_rfl
 have hc:Tryz.prog.cellsOf 26=1:=by kernel_rfl
 simp [Instr.index,run_underlying hu,asIntOf,part,go_sem]
theorem idx8_7 (a0 a1 a2 a3 a4 a5 a6 a7:Int) (w:World):(Instr.index 253 (.agg #[.int .u64 a0, .int .u64 a1, .int .u64 a2, .int .u64 a3, .int .u64 a4, .int .u64 a5, .int .u64 a6, .int .u64 a7]) (.int .i64 7)).run Tryz.prog w=.ok (.int .u64 a7) w:=by
 have hu:Tryz.prog.underlying 253=some (.array 8 26):=by kernel_rfl
 have hu2:Tryz.prog.underlying 26=some (.int .u64):=by kernel_rfl
 have hc:Tryz.prog.cellsOf 26=1:=by kernel_rfl
 simp [Instr.index,run_underlying hu,asIntOf,part,go_sem]
theorem slice_from (g c D:Nat) (W:World) (hD:D≤8) (hc:8≤c):(Instr.slice 154 (.slice (some ⟨g,0,none⟩) 8 c) (some (.int .i64 (D:Int))) none none).run Tryz.prog W=.ok (.slice (some ⟨g,if c=D then 0 else D,none⟩) (8 - D) (c - D)) W:=by
 have ht:Tryz.prog.underlying 154=some (.slice (Tryz.prog.elem 154)):=by kernel_rfl
 have he:Tryz.prog.elem 154=9:=by kernel_rfl
 rw [run_slice_l W 154 (some ⟨g,0,none⟩) 8 c ht .i64 (D:Int) (by omega) (by omega),he,Tryz.sizeOf9]
 by_cases h:c=D
 ·simp [Result.andThen,sliced,h]
 ·by_cases h0:D=0
  ·subst h0
   simp [Result.andThen,sliced,Addr.add,h]
  ·simp [Result.andThen,sliced,Addr.add,h,h0]
theorem textSix_any (hi lo:Nat) (w:World) (h1:hi < 18446744073709551616) (h2:lo < 18446744073709551616) (ht:Tabs w):Calls Tryz.prog 172 #[.agg #[.bool true, .int .u64 (hi:Int), .int .u64 (lo:Int)]] w (Ret (.string (sixT (dg hi lo))) w):=by
 have HGr:=Lib.hid fun wx => groupsA_any hi lo wx h1 h2
 have HZs:=Lib.hid fun wx => zeros_any (dg hi lo) wx
 have hbd:=zF_bd (zB (dg hi lo)) 8 0 0 0 (by decide)
 have hls:=sixL_short (dg hi lo)
 have HR:Hid (sixT (dg hi lo)=if (zF (zB (dg hi lo)) 8 0 0 0).2 < 2 then joinS (sixL (dg hi lo)) ⟨#[58]⟩ else gapS (sixL (dg hi lo)) (zF (zB (dg hi lo)) 8 0 0 0).1 (zF (zB (dg hi lo)) 8 0 0 0).2):=Lib.hid rfl
 generalize sixT (dg hi lo)=R at *
 generalize (zF (zB (dg hi lo)) 8 0 0 0).1=F at *
 generalize (zF (zB (dg hi lo)) 8 0 0 0).2=M at *
 unfold G8 at HGr HZs
 unfold sixL at hls HR
 have hd0:=dg_lt hi lo 0
 generalize dg hi lo 0=g0 at *
 have H0:=Lib.hid fun wx (ht:Tabs wx) => fmtU16_any g0 wx hd0 ht.2
 generalize hexS g0=d0 at *
 have hd1:=dg_lt hi lo 1
 generalize dg hi lo 1=g1 at *
 have H1:=Lib.hid fun wx (ht:Tabs wx) => fmtU16_any g1 wx hd1 ht.2
 generalize hexS g1=d1 at *
 have hd2:=dg_lt hi lo 2
 generalize dg hi lo 2=g2 at *
 have H2:=Lib.hid fun wx (ht:Tabs wx) => fmtU16_any g2 wx hd2 ht.2
 generalize hexS g2=d2 at *
 have hd3:=dg_lt hi lo 3
 generalize dg hi lo 3=g3 at *
 have H3:=Lib.hid fun wx (ht:Tabs wx) => fmtU16_any g3 wx hd3 ht.2
 generalize hexS g3=d3 at *
 have hd4:=dg_lt hi lo 4
 generalize dg hi lo 4=g4 at *
 have H4:=Lib.hid fun wx (ht:Tabs wx) => fmtU16_any g4 wx hd4 ht.2
 generalize hexS g4=d4 at *
 have hd5:=dg_lt hi lo 5
 generalize dg hi lo 5=g5 at *
 have H5:=Lib.hid fun wx (ht:Tabs wx) => fmtU16_any g5 wx hd5 ht.2
 generalize hexS g5=d5 at *
 have hd6:=dg_lt hi lo 6
 generalize dg hi lo 6=g6 at *
 have H6:=Lib.hid fun wx (ht:Tabs wx) => fmtU16_any g6 wx hd6 ht.2
 generalize hexS g6=d6 at *
 have hd7:=dg_lt hi lo 7
 generalize dg hi lo 7=g7 at *
 have H7:=Lib.hid fun wx (ht:Tabs wx) => fmtU16_any g7 wx hd7 ht.2
 generalize hexS g7=d7 at *
 have HP:Hid (Blk (w.alloc (.cells #[.bool true, .int .u64 (hi:Int), .int .u64 (lo:Int)] 28 (0,0))) w.heap.size 28 #[.bool true, .int .u64 (hi:Int), .int .u64 (lo:Int)]):=Lib.hid (Blk.new w _ _)
 have HB:Hid (Below w.heap.size w (w.alloc (.cells #[.bool true, .int .u64 (hi:Int), .int .u64 (lo:Int)] 28 (0,0)))):=Lib.hid (below_alloc (Below.refl _ _) _)
 have HT:=Lib.hid (ht.below HB.out)
 have HLs:=Lib.hid hls
 clear ht hls
 have i0:=fun wx => idx8_0 (g7:Int) (g6:Int) (g5:Int) (g4:Int) (g3:Int) (g2:Int) (g1:Int) (g0:Int) wx
 have i1:=fun wx => idx8_1 (g7:Int) (g6:Int) (g5:Int) (g4:Int) (g3:Int) (g2:Int) (g1:Int) (g0:Int) wx
 have i2:=fun wx => idx8_2 (g7:Int) (g6:Int) (g5:Int) (g4:Int) (g3:Int) (g2:Int) (g1:Int) (g0:Int) wx
 have i3:=fun wx => idx8_3 (g7:Int) (g6:Int) (g5:Int) (g4:Int) (g3:Int) (g2:Int) (g1:Int) (g0:Int) wx
 have i4:=fun wx => idx8_4 (g7:Int) (g6:Int) (g5:Int) (g4:Int) (g3:Int) (g2:Int) (g1:Int) (g0:Int) wx
 have i5:=fun wx => idx8_5 (g7:Int) (g6:Int) (g5:Int) (g4:Int) (g3:Int) (g2:Int) (g1:Int) (g0:Int) wx
 have i6:=fun wx => idx8_6 (g7:Int) (g6:Int) (g5:Int) (g4:Int) (g3:Int) (g2:Int) (g1:Int) (g0:Int) wx
 have i7:=fun wx => idx8_7 (g7:Int) (g6:Int) (g5:Int) (g4:Int) (g3:Int) (g2:Int) (g1:Int) (g0:Int) wx
 go_enter Tryz.func172,Tryz.ntmps172
 go_upto_region 1 with fail
 generalize w.alloc (.cells #[.bool true, .int .u64 (hi:Int), .int .u64 (lo:Int)] 28 (0,0))=w0 at *
 have p0:=HP.out.cell 0
 have p1:=HP.out.cell 1
 have p2:=HP.out.cell 2
 simp at p0 p1 p2
 go_wp2_with fail
 refine (HGr.out _).mono ?_
 rintro e w1 ⟨rfl,hb⟩
 have HB2:Hid (Below w.heap.size w (w1.alloc (.cells #[.int .u64 (g7:Int), .int .u64 (g6:Int), .int .u64 (g5:Int), .int .u64 (g4:Int), .int .u64 (g3:Int), .int .u64 (g2:Int), .int .u64 (g1:Int), .int .u64 (g0:Int)] 253 (0,0)))):=Lib.hid (below_alloc (HB.out.trans (hb.mono HB.out.size)) _)
 have HT2:=Lib.hid ((HT.out.below hb).below (below_alloc (Below.refl _ _) (.cells #[.int .u64 (g7:Int), .int .u64 (g6:Int), .int .u64 (g5:Int), .int .u64 (g4:Int), .int .u64 (g3:Int), .int .u64 (g2:Int), .int .u64 (g1:Int), .int .u64 (g0:Int)] 253 (0,0))))
 have HG2:Hid (Blk (w1.alloc (.cells #[.int .u64 (g7:Int), .int .u64 (g6:Int), .int .u64 (g5:Int), .int .u64 (g4:Int), .int .u64 (g3:Int), .int .u64 (g2:Int), .int .u64 (g1:Int), .int .u64 (g0:Int)] 253 (0,0))) w1.heap.size 253 #[.int .u64 (g7:Int), .int .u64 (g6:Int), .int .u64 (g5:Int), .int .u64 (g4:Int), .int .u64 (g3:Int), .int .u64 (g2:Int), .int .u64 (g1:Int), .int .u64 (g0:Int)]):=Lib.hid (Blk.new w1 _ _)
 clear hb HB HT HP p0 p1 p2 HGr
 go_upto_region 10 with fail
 generalize w1.alloc (.cells #[.int .u64 (g7:Int), .int .u64 (g6:Int), .int .u64 (g5:Int), .int .u64 (g4:Int), .int .u64 (g3:Int), .int .u64 (g2:Int), .int .u64 (g1:Int), .int .u64 (g0:Int)] 253 (0,0))=w2 at *
 generalize w1.heap.size=V at *
 have q0:=HG2.out.cell 0
 have q1:=HG2.out.cell 1
 have q2:=HG2.out.cell 2
 have q3:=HG2.out.cell 3
 have q4:=HG2.out.cell 4
 have q5:=HG2.out.cell 5
 have q6:=HG2.out.cell 6
 have q7:=HG2.out.cell 7
 simp at q0 q1 q2 q3 q4 q5 q6 q7
 go_wp2_with fail
 go_loopw [6,8,34] (fun v iv i wr => ∃ k:Nat,k≤8∧i=.int .i64 k∧Hid (OwnS wr w2.heap.size v (([d7,d6,d5,d4,d3,d2,d1,d0]:List ByteArray).take k))∧Hid (Below w2.heap.size w2 wr)) (fun _ _ i _ => 8 - (intOf i).toNat)
 case atStart => exact ⟨0,Nat.zero_le _,rfl,Lib.hid (OwnS.nil _ _),Lib.hid (Below.refl _ _)⟩
 case round =>
  clear q0 q1 q2 q3 q4 q5 q6 q7
  obtain ⟨k,hk,rfl,HO,HBr⟩:=hrel
  by_cases hlt:k < 8
  ·have hk8:k=0 ∨ k=1 ∨ k=2 ∨ k=3 ∨ k=4 ∨ k=5 ∨ k=6 ∨ k=7:=by omega
   have HTr:=Lib.hid (HT2.out.below HBr.out)
   rcases hk8 with rfl | rfl | rfl | rfl | rfl | rfl | rfl | rfl
   ·go_wp2_with fail
    refine (H7.out _ HTr.out).mono ?_
    rintro e w' ⟨rfl,hb⟩
    have HO1:=Lib.hid (HO.out.later hb)
    have HBr1:=Lib.hid (HBr.out.trans (hb.mono HBr.out.size))
    clear hb HO HBr HTr
    go_wp2_with (at_builtin;refine wpList_app strE rfl (.tmp 37) (.tmp 40) rfl rfl (World.ownsRow.alloc HO1.out _) rfl (src_one_new _ _ _) ?c1 ?c2 ?c3 ?c4 ?_)
    case c1 => first | rfl | (intro u hu;simp at hu;subst hu;rfl)
    case c2 => unfold maxLen;simp
    case c3 => simp
    case c4 => have:=HBr1.out.size;simp;omega
    intro v' w4 hO hG
    have HO':=Lib.hid (show OwnS w4 w2.heap.size v' (([d7,d6,d5,d4,d3,d2,d1,d0]:List ByteArray).take 1) from hO)
    have HB':Hid (Below w2.heap.size w2 w4):=Lib.hid ((Below.alloc HBr1.out HBr1.out.size _).trans (hG.below (by have:=HBr1.out.size;simp;omega) (own_base HO1.out)))
    clear hO hG
    go_wp2
    exact ⟨⟨1,by decide,rfl,HO',HB'⟩,by simp [intOf]⟩
   ·go_wp2_with fail
    refine (H6.out _ HTr.out).mono ?_
    rintro e w' ⟨rfl,hb⟩
    have HO1:=Lib.hid (HO.out.later hb)
    have HBr1:=Lib.hid (HBr.out.trans (hb.mono HBr.out.size))
    clear hb HO HBr HTr
    go_wp2_with (at_builtin;refine wpList_app strE rfl (.tmp 37) (.tmp 40) rfl rfl (World.ownsRow.alloc HO1.out _) rfl (src_one_new _ _ _) ?c1 ?c2 ?c3 ?c4 ?_)
    case c1 => first | rfl | (intro u hu;simp at hu;subst hu;rfl)
    case c2 => unfold maxLen;simp
    case c3 => simp
    case c4 => have:=HBr1.out.size;simp;omega
    intro v' w4 hO hG
    have HO':=Lib.hid (show OwnS w4 w2.heap.size v' (([d7,d6,d5,d4,d3,d2,d1,d0]:List ByteArray).take 2) from hO)
    have HB':Hid (Below w2.heap.size w2 w4):=Lib.hid ((Below.alloc HBr1.out HBr1.out.size _).trans (hG.below (by have:=HBr1.out.size;simp;omega) (own_base HO1.out)))
    clear hO hG
    go_wp2
    exact ⟨⟨2,by decide,rfl,HO',HB'⟩,by simp [intOf]⟩
   ·go_wp2_with fail
    refine (H5.out _ HTr.out).mono ?_
    rintro e w' ⟨rfl,hb⟩
    have HO1:=Lib.hid (HO.out.later hb)
    have HBr1:=Lib.hid (HBr.out.trans (hb.mono HBr.out.size))
    clear hb HO HBr HTr
    go_wp2_with (at_builtin;refine wpList_app strE rfl (.tmp 37) (.tmp 40) rfl rfl (World.ownsRow.alloc HO1.out _) rfl (src_one_new _ _ _) ?c1 ?c2 ?c3 ?c4 ?_)
    case c1 => first | rfl | (intro u hu;simp at hu;subst hu;rfl)
    case c2 => unfold maxLen;simp
    case c3 => simp
    case c4 => have:=HBr1.out.size;simp;omega
    intro v' w4 hO hG
    have HO':=Lib.hid (show OwnS w4 w2.heap.size v' (([d7,d6,d5,d4,d3,d2,d1,d0]:List ByteArray).take 3) from hO)
    have HB':Hid (Below w2.heap.size w2 w4):=Lib.hid ((Below.alloc HBr1.out HBr1.out.size _).trans (hG.below (by have:=HBr1.out.size;simp;omega) (own_base HO1.out)))
    clear hO hG
    go_wp2
    exact ⟨⟨3,by decide,rfl,HO',HB'⟩,by simp [intOf]⟩
   ·go_wp2_with fail
    refine (H4.out _ HTr.out).mono ?_
    rintro e w' ⟨rfl,hb⟩
    have HO1:=Lib.hid (HO.out.later hb)
    have HBr1:=Lib.hid (HBr.out.trans (hb.mono HBr.out.size))
    clear hb HO HBr HTr
    go_wp2_with (at_builtin;refine wpList_app strE rfl (.tmp 37) (.tmp 40) rfl rfl (World.ownsRow.alloc HO1.out _) rfl (src_one_new _ _ _) ?c1 ?c2 ?c3 ?c4 ?_)
    case c1 => first | rfl | (intro u hu;simp at hu;subst hu;rfl)
    case c2 => unfold maxLen;simp
    case c3 => simp
    case c4 => have:=HBr1.out.size;simp;omega
    intro v' w4 hO hG
    have HO':=Lib.hid (show OwnS w4 w2.heap.size v' (([d7,d6,d5,d4,d3,d2,d1,d0]:List ByteArray).take 4) from hO)
    have HB':Hid (Below w2.heap.size w2 w4):=Lib.hid ((Below.alloc HBr1.out HBr1.out.size _).trans (hG.below (by have:=HBr1.out.size;simp;omega) (own_base HO1.out)))
    clear hO hG
    go_wp2
    exact ⟨⟨4,by decide,rfl,HO',HB'⟩,by simp [intOf]⟩
   ·go_wp2_with fail
    refine (H3.out _ HTr.out).mono ?_
    rintro e w' ⟨rfl,hb⟩
    have HO1:=Lib.hid (HO.out.later hb)
    have HBr1:=Lib.hid (HBr.out.trans (hb.mono HBr.out.size))
    clear hb HO HBr HTr
    go_wp2_with (at_builtin;refine wpList_app strE rfl (.tmp 37) (.tmp 40) rfl rfl (World.ownsRow.alloc HO1.out _) rfl (src_one_new _ _ _) ?c1 ?c2 ?c3 ?c4 ?_)
    case c1 => first | rfl | (intro u hu;simp at hu;subst hu;rfl)
    case c2 => unfold maxLen;simp
    case c3 => simp
    case c4 => have:=HBr1.out.size;simp;omega
    intro v' w4 hO hG
    have HO':=Lib.hid (show OwnS w4 w2.heap.size v' (([d7,d6,d5,d4,d3,d2,d1,d0]:List ByteArray).take 5) from hO)
    have HB':Hid (Below w2.heap.size w2 w4):=Lib.hid ((Below.alloc HBr1.out HBr1.out.size _).trans (hG.below (by have:=HBr1.out.size;simp;omega) (own_base HO1.out)))
    clear hO hG
    go_wp2
    exact ⟨⟨5,by decide,rfl,HO',HB'⟩,by simp [intOf]⟩
   ·go_wp2_with fail
    refine (H2.out _ HTr.out).mono ?_
    rintro e w' ⟨rfl,hb⟩
    have HO1:=Lib.hid (HO.out.later hb)
    have HBr1:=Lib.hid (HBr.out.trans (hb.mono HBr.out.size))
    clear hb HO HBr HTr
    go_wp2_with (at_builtin;refine wpList_app strE rfl (.tmp 37) (.tmp 40) rfl rfl (World.ownsRow.alloc HO1.out _) rfl (src_one_new _ _ _) ?c1 ?c2 ?c3 ?c4 ?_)
    case c1 => first | rfl | (intro u hu;simp at hu;subst hu;rfl)
    case c2 => unfold maxLen;simp
    case c3 => simp
    case c4 => have:=HBr1.out.size;simp;omega
    intro v' w4 hO hG
    have HO':=Lib.hid (show OwnS w4 w2.heap.size v' (([d7,d6,d5,d4,d3,d2,d1,d0]:List ByteArray).take 6) from hO)
    have HB':Hid (Below w2.heap.size w2 w4):=Lib.hid ((Below.alloc HBr1.out HBr1.out.size _).trans (hG.below (by have:=HBr1.out.size;simp;omega) (own_base HO1.out)))
    clear hO hG
    go_wp2
    exact ⟨⟨6,by decide,rfl,HO',HB'⟩,by simp [intOf]⟩
   ·go_wp2_with fail
    refine (H1.out _ HTr.out).mono ?_
    rintro e w' ⟨rfl,hb⟩
    have HO1:=Lib.hid (HO.out.later hb)
    have HBr1:=Lib.hid (HBr.out.trans (hb.mono HBr.out.size))
    clear hb HO HBr HTr
    go_wp2_with (at_builtin;refine wpList_app strE rfl (.tmp 37) (.tmp 40) rfl rfl (World.ownsRow.alloc HO1.out _) rfl (src_one_new _ _ _) ?c1 ?c2 ?c3 ?c4 ?_)
    case c1 => first | rfl | (intro u hu;simp at hu;subst hu;rfl)
    case c2 => unfold maxLen;simp
    case c3 => simp
    case c4 => have:=HBr1.out.size;simp;omega
    intro v' w4 hO hG
    have HO':=Lib.hid (show OwnS w4 w2.heap.size v' (([d7,d6,d5,d4,d3,d2,d1,d0]:List ByteArray).take 7) from hO)
    have HB':Hid (Below w2.heap.size w2 w4):=Lib.hid ((Below.alloc HBr1.out HBr1.out.size _).trans (hG.below (by have:=HBr1.out.size;simp;omega) (own_base HO1.out)))
    clear hO hG
    go_wp2
    exact ⟨⟨7,by decide,rfl,HO',HB'⟩,by simp [intOf]⟩
   ·go_wp2_with fail
    refine (H0.out _ HTr.out).mono ?_
    rintro e w' ⟨rfl,hb⟩
    have HO1:=Lib.hid (HO.out.later hb)
    have HBr1:=Lib.hid (HBr.out.trans (hb.mono HBr.out.size))
    clear hb HO HBr HTr
    go_wp2_with (at_builtin;refine wpList_app strE rfl (.tmp 37) (.tmp 40) rfl rfl (World.ownsRow.alloc HO1.out _) rfl (src_one_new _ _ _) ?c1 ?c2 ?c3 ?c4 ?_)
    case c1 => first | rfl | (intro u hu;simp at hu;subst hu;rfl)
    case c2 => unfold maxLen;simp
    case c3 => simp
    case c4 => have:=HBr1.out.size;simp;omega
    intro v' w4 hO hG
    have HO':=Lib.hid (show OwnS w4 w2.heap.size v' (([d7,d6,d5,d4,d3,d2,d1,d0]:List ByteArray).take 8) from hO)
    have HB':Hid (Below w2.heap.size w2 w4):=Lib.hid ((Below.alloc HBr1.out HBr1.out.size _).trans (hG.below (by have:=HBr1.out.size;simp;omega) (own_base HO1.out)))
    clear hO hG
    go_wp2
    exact ⟨⟨8,by decide,rfl,HO',HB'⟩,by simp [intOf]⟩
  ·obtain rfl:k=8:=by omega
   obtain ⟨g,c,hv,_,hg,hc,hcm,hcell⟩:=HO.out.one (by simp)
   have hv':u6=.slice (some ⟨g,0,none⟩) 8 c:=hv
   have hc':8≤c:=hc
   rw [show ([d7,d6,d5,d4,d3,d2,d1,d0]:List ByteArray).take 8=([d7,d6,d5,d4,d3,d2,d1,d0]:List ByteArray) from rfl] at hcell
   have hLn:([d7,d6,d5,d4,d3,d2,d1,d0]:List ByteArray).length=8:=rfl
   generalize ([d7,d6,d5,d4,d3,d2,d1,d0]:List ByteArray)=L at *
   have HG3:=Lib.hid (HG2.out.below HBr.out HG2.out.lt)
   have q0:=HG3.out.cell 0
   have q1:=HG3.out.cell 1
   have q2:=HG3.out.cell 2
   have q3:=HG3.out.cell 3
   have q4:=HG3.out.cell 4
   have q5:=HG3.out.cell 5
   have q6:=HG3.out.cell 6
   have q7:=HG3.out.cell 7
   simp at q0 q1 q2 q3 q4 q5 q6 q7
   have HCell:=Lib.hid hcell
   have HLn:=Lib.hid hLn
   clear hv hc hcell hLn HO
   subst hv'
   go_wp2_with fail
   refine (HZs.out _).mono ?_
   rintro e w5 ⟨rfl,hb⟩
   have hg5:g < w5.heap.size:=Nat.lt_of_lt_of_le hg hb.size
   have HCell5:Hid (∀ (j:Nat) x,L[j]?=some x→w5.cell? ⟨g,j,none⟩=some (.string x)):=Lib.hid fun j x hx => Later.cell_of (HCell.out j x hx) ⟨w5,hb⟩
   have HB5:=Lib.hid (HB2.out.trans ((HBr.out.trans (hb.mono HBr.out.size)).mono HB2.out.size))
   clear hb HBr HCell HG3 q0 q1 q2 q3 q4 q5 q6 q7 HZs
   by_cases hM:M < 2
   ·have hR:=HR.out
    rw [if_pos hM] at hR
    have HJ:=Lib.hid (joinAt_any g 0 c L 58 w5 HLs.out hg5 (by rw [HLn.out];exact hc') (fun j x hx => by rw [Nat.zero_add];exact HCell5.out j x hx))
    rw [HLn.out, ← hR] at HJ
    have hM2:(M:Int) < 2:=by omega
    clear hR HR
    go_wp2_with fail
    refine HJ.out.mono ?_
    rintro e w' ⟨rfl,hb⟩
    go_wp2_with fail
    go_ret
    exact ⟨rfl,HB5.out.trans (hb.mono HB5.out.size)⟩
   ·have hR:=HR.out
    rw [if_neg hM] at hR
    have hM2:¬ (M:Int) < 2:=by omega
    have HJ1:=Lib.hid fun wx (hb:Below w5.heap.size w5 wx) => joinAt_any g 0 c (L.take F) 58 wx (HLs.out.take F) (Nat.lt_of_lt_of_le hg5 hb.size) (by simp;omega) (fun j x hx => by
     rw [Nat.zero_add]
     rw [List.getElem?_take] at hx
     split at hx
     ·exact Later.cell_of (HCell5.out j x hx) ⟨wx,hb⟩
     ·cases hx)
    have HJ2:=Lib.hid fun wx (hb:Below w5.heap.size w5 wx) => joinAt_any g (if c=F + M then 0 else F + M) (c - (F + M)) (L.drop (F + M)) 58 wx (HLs.out.drop (F + M)) (Nat.lt_of_lt_of_le hg5 hb.size) (by rw [List.length_drop,HLn.out];omega) (fun j x hx => by
     rw [List.getElem?_drop] at hx
     have hlt:F + M + j < L.length:=(List.getElem?_eq_some_iff.1 hx).1
     rw [HLn.out] at hlt
     rw [if_neg (by omega)]
     exact Later.cell_of (HCell5.out _ x hx) ⟨wx,hb⟩)
    rw [show (L.take F).length=F by rw [List.length_take,HLn.out];omega] at HJ1
    rw [show (L.drop (F + M)).length=8 - (F + M) by rw [List.length_drop,HLn.out]] at HJ2
    have z1:=joinS_size (HLs.out.take F) 58
    have z2:=joinS_size (HLs.out.drop (F + M)) 58
    unfold gapS at hR
    generalize joinS (L.take F) ⟨#[58]⟩=J1 at *
    generalize joinS (L.drop (F + M)) ⟨#[58]⟩=J2 at *
    subst hR
    clear HR
    have hA1:=add_str J1 ⟨#[58,58]⟩ (by omega) (by decide)
    have hA2:=add_str (J1 ++ ⟨#[58,58]⟩) J2 (by rw [ByteArray.size_append];have:(⟨#[58,58]⟩:ByteArray).size=2:=rfl;omega) (by omega)
    have hJ1:=fun m:Later w5 => Calls.later m (HJ1.out m.1 m.2)
    have hJ2:=fun m:Later w5 => Calls.later m (HJ2.out m.1 m.2)
    have f1:(0:Int)≤(F:Int):=by omega
    have f2:(F:Int)≤(c:Int):=by omega
    have f3:(F:Int) + (M:Int)=((F + M:Nat):Int):=by omega
    have f4:F + M≤8:=hbd
    obtain ⟨D,hD⟩:∃ D,F + M=D:=⟨_,rfl⟩
    rw [hD] at hJ2 f3 f4
    have hs2:=fun W => slice_from g c D W f4 hc'
    obtain ⟨O,hO⟩:∃ O,(if c=D then 0 else D)=O:=⟨_,rfl⟩
    rw [hO] at hJ2 hs2
    clear hO hD
    have f5:(0:Int)≤(D:Int):=by omega
    have f6:(D:Int)≤8:=by omega
    go_upto_region 19 with fail
    refine wp_region_later (by kernel_rfl) (by kernel_rfl) ?_
    iterate 3 (go_big_quiet_step (fail))
    go_big_quiet_step ((go_at_call 132;exact hJ1 _))
    repeat (go_big_quiet_step (fail))
    go_big_quiet_step ((go_at_call 132;exact hJ2 _))
    repeat (go_big_quiet_step (fail))
    refine wpQuiet_nil ?_
    rintro w6 ⟨n6,hn6⟩
    have hb6:Below w5.heap.size w5 w6:=by rw [hn6];exact n6.2
    clear hn6 n6
    have HB6:=Lib.hid (HB5.out.trans (hb6.mono HB5.out.size))
    clear hb6
    go_wp2_with fail
    go_ret
    exact ⟨rfl,HB6.out⟩
open Go
def hit (z:Nat→Bool) (i n:Nat):Bool:=(List.range n).all fun j => z (i + j)
def rIn (z:Nat→Bool) (n:Nat):Nat→Nat→Option (Nat × Nat)
 | 0,_ => none
 | k + 1,i => if i + n≤8 then (if hit z i n=true then some (i,n) else rIn z n k (i + 1)) else none
def rOut (z:Nat→Bool):Nat→Option (Nat × Nat)
 | 0 => none
 | k + 1 => match rIn z (k + 2) 9 0 with
  | some x => some x
  | none => rOut z k
def tab8 (b0 b1 b2 b3 b4 b5 b6 b7:Bool) (j:Nat):Bool:=[b0,b1,b2,b3,b4,b5,b6,b7].getD j false
theorem run0_congr {z z':Nat→Bool} (h:∀ j,j < 8→z j=z' j):∀ k i,run0 z k i=run0 z' k i
 | 0,_ => rfl
 | k + 1,i => by
   unfold run0
   by_cases hi:i < 8
   ·rw [h i hi,run0_congr h k (i + 1)]
   ·rw [if_neg (fun e => hi e.1),if_neg (fun e => hi e.1)]
theorem zF_congr {z z':Nat→Bool} (h:∀ j,j < 8→z j=z' j):∀ k i f m,zF z k i f m=zF z' k i f m
 | 0,_,_,_ => rfl
 | k + 1,i,f,m => by
   unfold zF
   rw [run0_congr h 8 i]
   by_cases hi:i < 8
   ·rw [if_pos hi,if_pos hi,zF_congr h k]
   ·rw [if_neg hi,if_neg hi]
theorem hit_congr {z z':Nat→Bool} (h:∀ j,j < 8→z j=z' j) {i n:Nat} (hn:i + n≤8):hit z i n=hit z' i n:=by
 unfold hit
 rw [Bool.eq_iff_iff,List.all_eq_true,List.all_eq_true]
 constructor <;> intro h1 j hj <;> have h2:=h1 j hj <;> have h3:j < n:=List.mem_range.1 hj
 ·rw [← h (i + j) (by omega)];exact h2
 ·rw [h (i + j) (by omega)];exact h2
theorem rIn_congr {z z':Nat→Bool} (h:∀ j,j < 8→z j=z' j) (n:Nat):∀ k i,rIn z n k i=rIn z' n k i
 | 0,_ => rfl
 | k + 1,i => by
   unfold rIn
   by_cases hi:i + n≤8
   ·rw [if_pos hi,if_pos hi,hit_congr h hi,rIn_congr h n k (i + 1)]
   ·rw [if_neg hi,if_neg hi]
theorem rOut_congr {z z':Nat→Bool} (h:∀ j,j < 8→z j=z' j):∀ k,rOut z k=rOut z' k
 | 0 => rfl
 | k + 1 => by unfold rOut;rw [rIn_congr h,rOut_congr h k]
theorem search_tab:∀ b0 b1 b2 b3 b4 b5 b6 b7:Bool,rOut (tab8 b0 b1 b2 b3 b4 b5 b6 b7) 7=if (zF (tab8 b0 b1 b2 b3 b4 b5 b6 b7) 8 0 0 0).2 < 2 then none else some (zF (tab8 b0 b1 b2 b3 b4 b5 b6 b7) 8 0 0 0):=by decide +kernel
theorem search_eq (z:Nat→Bool):rOut z 7=if (zF z 8 0 0 0).2 < 2 then none else some (zF z 8 0 0 0):=by
 have h:∀ j,j < 8→z j=tab8 (z 0) (z 1) (z 2) (z 3) (z 4) (z 5) (z 6) (z 7) j:=fun j hj => by
  have:j=0 ∨ j=1 ∨ j=2 ∨ j=3 ∨ j=4 ∨ j=5 ∨ j=6 ∨ j=7:=by omega
  rcases this with rfl | rfl | rfl | rfl | rfl | rfl | rfl | rfl <;> rfl
 rw [rOut_congr h,zF_congr h]
 exact search_tab _ _ _ _ _ _ _ _
theorem sixT_search (g:Nat→Nat):sixT g=match rOut (zB g) 7 with
  | none => joinS (sixL g) ⟨#[58]⟩
  | some x => gapS (sixL g) x.1 x.2:=by
 rw [search_eq]
 unfold sixT
 split <;> rfl
theorem hexS_zero (n:Nat) (h:n < 65536):(hexS n=⟨#[48]⟩) ↔ n=0:=by
 constructor
 ·intro e
  unfold hexS hexL at e
  by_cases h1:n < 16
  ·rw [if_pos h1] at e
   have:∀ k,k < 16→(⟨[dH k].toArray⟩:ByteArray)=⟨#[48]⟩→k=0:=by decide +kernel
   exact this n h1 e
  ·rw [if_neg h1] at e
   have hl:=congrArg (fun b:ByteArray => b.data.size) e
   split at hl
   ·simp at hl
   ·split at hl <;> simp at hl
 ·rintro rfl
  decide +kernel
theorem notZero_any (s:ByteArray) (w:World):Calls Tryz.prog 209 #[.string s] w fun e w' => e=.returned (.bool (decide (s ≠ ⟨#[48]⟩)))∧w'=w:=by
 by_cases h:s=⟨#[48]⟩
 ·have e:decide (s ≠ ⟨#[48]⟩)=false:=decide_eq_false (fun h2 => h2 h)
  rw [e]
  subst h
  go_enter Tryz.func209,Tryz.ntmps209
  go_wp2
  go_ret
  exact ⟨rfl,rfl⟩
 ·have e:decide (s ≠ ⟨#[48]⟩)=true:=decide_eq_true h
  have h3:¬ s.toList=[48]:=fun h2 => h (by
   rw [Lib.toList_data] at h2
   apply ByteArray.ext
   apply Array.toList_inj.1
   rw [h2])
  rw [e]
  go_enter Tryz.func209,Tryz.ntmps209
  go_wp2
  go_ret
  exact ⟨by first | rfl | simp [h3] | simp [h],rfl⟩
theorem indexFunc_any (g o c:Nat) (L:List ByteArray) (w:World) (hn:L.length≤8) (hcells:∀ (j:Nat) x,L[j]?=some x→w.cell? ⟨g,o + j,none⟩=some (.string x)) :
  Calls Tryz.prog 265 #[.slice (some ⟨g,o,none⟩) L.length c, .func (.func 209) #[] #[]] w fun e w' => ∃ k:Int,e=.returned (.int .i64 k)∧(0≤k ↔ ∃ x ∈ L,x ≠ ⟨#[48]⟩)∧w'=w:=by
 have HC:=Lib.hid hcells
 have HN:=Lib.hid fun s wx => notZero_any s wx
 obtain ⟨n,hnn⟩:∃ n,L.length=n:=⟨_,rfl⟩
 have HL:=Lib.hid hnn
 rw [hnn] at hn ⊢
 clear hcells hnn
 go_enter Tryz.func265,Tryz.ntmps265
 go_wp2_with fail
 go_loopw [5,8] (fun s i wr => ∃ k:Nat,k≤n∧i=.int .i64 (k:Int)∧Hid (∀ j x,j < k→L[j]?=some x→x=⟨#[48]⟩)∧wr=w) (fun _ i _ => n - (intOf i).toNat)
 case atStart => exact ⟨0,Nat.zero_le _,rfl,Lib.hid fun j x h => absurd h (Nat.not_lt_zero _),rfl⟩
 case round =>
  obtain ⟨k,hk,rfl,HZ,rfl⟩:=hrel
  by_cases hlt:k < n
  ·obtain ⟨x,hx⟩:∃ x,L[k]?=some x:=⟨L[k]'(by rw [HL.out];exact hlt),List.getElem?_eq_getElem _⟩
   have p:=HC.out k x hx
   have HX:=Lib.hid hx
   clear hx
   go_wp2_with fail
   refine (HN.out x _).mono ?_
   rintro e w' ⟨rfl,rfl⟩
   by_cases hxz:x=⟨#[48]⟩
   ·have e:decide (x ≠ ⟨#[48]⟩)=false:=decide_eq_false (fun h2 => h2 hxz)
    have HZ2:Hid (∀ j y,j < k + 1→L[j]?=some y→y=⟨#[48]⟩):=Lib.hid fun j y hj hy => by
     rcases Nat.lt_or_ge j k with h | h
     ·exact HZ.out j y h hy
     ·obtain rfl:j=k:=by omega
      have h2:=HX.out.symm.trans hy
      injection h2 with h2
      rw [← h2];exact hxz
    rw [e]
    clear hxz e HX p
    go_wp2_with fail
    exact ⟨⟨k + 1,by omega,by go_num,HZ2,by first | rfl | trivial⟩,by simp [intOf];omega⟩
   ·have e:decide (x ≠ ⟨#[48]⟩)=true:=decide_eq_true hxz
    rw [e]
    have HM:Hid (∃ y ∈ L,y ≠ ⟨#[48]⟩):=Lib.hid ⟨x,List.mem_of_getElem? HX.out,hxz⟩
    clear hxz e HX p
    go_wp2_with fail
    go_ret
    exact ⟨(k:Int),rfl,⟨fun _ => HM.out,fun _ => by omega⟩,rfl⟩
  ·obtain rfl:k=n:=by omega
   have HM:Hid (¬ ∃ y ∈ L,y ≠ ⟨#[48]⟩):=Lib.hid fun ⟨y,hy,hne⟩ => by
    obtain ⟨j,hj,hjy⟩:=List.getElem_of_mem hy
    exact hne (HZ.out j y (by rw [← HL.out];exact hj) (by rw [List.getElem?_eq_getElem hj,hjy]))
   go_wp2_with fail
   go_ret
   exact ⟨-1,rfl,⟨fun h => absurd h (by decide),fun h => absurd h HM.out⟩,rfl⟩
theorem containsFunc_any (g o n c:Nat) (L:List ByteArray) (z:Bool) (w:World) (hL:L.length=n) (hn:n≤8) (hcells:∀ (j:Nat) x,L[j]?=some x→w.cell? ⟨g,o + j,none⟩=some (.string x)) (hz:z=true ↔ ∀ x ∈ L,x=⟨#[48]⟩) :
  Calls Tryz.prog 208 #[.slice (some ⟨g,o,none⟩) n c, .func (.func 209) #[] #[]] w fun e w' => e=.returned (.bool (!z))∧w'=w:=by
 have H:=Lib.hid (indexFunc_any g o c L w (by omega) hcells)
 rw [hL] at H
 have Hz:=Lib.hid hz
 clear hz hcells hL
 go_enter Tryz.func208,Tryz.ntmps208
 go_wp2_with fail
 refine H.out.mono ?_
 rintro e w' ⟨k,rfl,hk,rfl⟩
 have hkz:z=true ↔ ¬ 0≤k:=by
  rw [Hz.out,hk]
  constructor
  ·rintro h ⟨x,hx,hne⟩;exact hne (h x hx)
  ·intro h x hx
   by_cases e:x=⟨#[48]⟩
   ·exact e
   ·exact absurd ⟨x,hx,e⟩ h
 clear hk Hz H
 cases z
 ·have h0:0≤k:=by
   rcases Int.lt_or_le k 0 with h | h
   ·exact absurd (hkz.2 (by omega)) (by decide)
   ·exact h
  clear hkz
  go_wp2_with fail
  go_ret
  exact ⟨rfl,rfl⟩
 ·have h0:¬ 0≤k:=hkz.1 rfl
  clear hkz
  go_wp2_with fail
  go_ret
  have e:decide (0≤k)=false:=decide_eq_false (by omega)
  exact ⟨by rw [e];rfl,rfl⟩
theorem rIn_stop {z:Nat→Bool} {n i:Nat} (h:¬ i + n≤8):∀ q,rIn z n q i=none
 | 0 => rfl
 | q + 1 => by unfold rIn;rw [if_neg h]
theorem hit_iff (z:Nat→Bool) (L:List ByteArray) (s:ByteArray) (i n:Nat) (h:∀ j x,L[j]?=some x→(x=s ↔ z j=true)) (hl:i + n≤L.length):hit z i n=true ↔ ∀ x ∈ (L.drop i).take n,x=s:=by
 unfold hit
 rw [List.all_eq_true]
 constructor
 ·intro h1 x hx
  obtain ⟨j,hj,rfl⟩:=List.getElem_of_mem hx
  have hj':j < n:=by simp at hj;omega
  refine (h (i + j) _ ?_).2 (h1 j (List.mem_range.2 hj'))
  rw [List.getElem_take,List.getElem_drop, ← List.getElem?_eq_getElem]
 ·intro h1 j hj
  have hj':j < n:=List.mem_range.1 hj
  have hlt:i + j < L.length:=by omega
  refine (h (i + j) L[i + j] (List.getElem?_eq_getElem hlt)).1 (h1 _ ?_)
  refine List.mem_iff_getElem.2 ⟨j,by simp;omega,?_⟩
  rw [List.getElem_take,List.getElem_drop]
theorem slice_mid (g c i D n:Nat) (W:World) (hD:i + n=D) (h8:D≤8) (hn:1≤n) (hc:8≤c):(Instr.slice 154 (.slice (some ⟨g,0,none⟩) 8 c) (some (.int .i64 (i:Int))) (some (.int .i64 (D:Int))) none).run Tryz.prog W=.ok (.slice (some ⟨g,i,none⟩) n (c - i)) W:=by
 have h:=Lib.run_slice_window (P:=Tryz.prog) W 154 9 (by kernel_rfl) Tryz.sizeOf9 g 0 8 c i D (by omega) (by omega)
 rw [Nat.zero_add,show D - i=n by omega] at h
 exact h
theorem addrTextSix_any (hi lo:Nat) (w:World) (h1:hi < 18446744073709551616) (h2:lo < 18446744073709551616) (ht:Tabs w):Calls Tryz.prog 134 #[.agg #[.bool true, .int .u64 (hi:Int), .int .u64 (lo:Int)]] w (Ret (.string (sixT (dg hi lo))) w):=by
 have HGr:=Lib.hid fun wx => groupsQ_any hi lo wx h1 h2
 have hls:=sixL_short (dg hi lo)
 have HR:=Lib.hid (sixT_search (dg hi lo))
 have HZ8:=Lib.hid fun j (hj:j < 8) => (show zB (dg hi lo) j=(dg hi lo (7 - j) == 0) from rfl)
 have hL8:∀ j x,(sixL (dg hi lo))[j]?=some x→(x=⟨#[48]⟩ ↔ zB (dg hi lo) j=true):=fun j x hx => by
  have hj:j < 8:=(List.getElem?_eq_some_iff.1 hx).1
  have:j=0 ∨ j=1 ∨ j=2 ∨ j=3 ∨ j=4 ∨ j=5 ∨ j=6 ∨ j=7:=by omega
  have key:∀ d,(hexS (dg hi lo d)=⟨#[48]⟩ ↔ (dg hi lo d == 0)=true):=fun d => by rw [hexS_zero _ (dg_lt hi lo d)];simp
  rcases this with rfl | rfl | rfl | rfl | rfl | rfl | rfl | rfl <;> (have h3:=Option.some.inj hx;rw [← h3];exact key _)
 have HL8:=Lib.hid hL8
 clear hL8 HZ8
 generalize sixT (dg hi lo)=R at *
 generalize zB (dg hi lo)=z at *
 unfold sixL at hls HR HL8
 unfold I8 at HGr
 have hd0:=dg_lt hi lo 0
 generalize dg hi lo 0=g0 at *
 have H0:=Lib.hid fun wx (ht:Tabs wx) => fmtI16_any g0 wx hd0 ht.2
 generalize hexS g0=d0 at *
 have hd1:=dg_lt hi lo 1
 generalize dg hi lo 1=g1 at *
 have H1:=Lib.hid fun wx (ht:Tabs wx) => fmtI16_any g1 wx hd1 ht.2
 generalize hexS g1=d1 at *
 have hd2:=dg_lt hi lo 2
 generalize dg hi lo 2=g2 at *
 have H2:=Lib.hid fun wx (ht:Tabs wx) => fmtI16_any g2 wx hd2 ht.2
 generalize hexS g2=d2 at *
 have hd3:=dg_lt hi lo 3
 generalize dg hi lo 3=g3 at *
 have H3:=Lib.hid fun wx (ht:Tabs wx) => fmtI16_any g3 wx hd3 ht.2
 generalize hexS g3=d3 at *
 have hd4:=dg_lt hi lo 4
 generalize dg hi lo 4=g4 at *
 have H4:=Lib.hid fun wx (ht:Tabs wx) => fmtI16_any g4 wx hd4 ht.2
 generalize hexS g4=d4 at *
 have hd5:=dg_lt hi lo 5
 generalize dg hi lo 5=g5 at *
 have H5:=Lib.hid fun wx (ht:Tabs wx) => fmtI16_any g5 wx hd5 ht.2
 generalize hexS g5=d5 at *
 have hd6:=dg_lt hi lo 6
 generalize dg hi lo 6=g6 at *
 have H6:=Lib.hid fun wx (ht:Tabs wx) => fmtI16_any g6 wx hd6 ht.2
 generalize hexS g6=d6 at *
 have hd7:=dg_lt hi lo 7
 generalize dg hi lo 7=g7 at *
 have H7:=Lib.hid fun wx (ht:Tabs wx) => fmtI16_any g7 wx hd7 ht.2
 generalize hexS g7=d7 at *
 have HP:Hid (Blk (w.alloc (.cells #[.bool true, .int .u64 (hi:Int), .int .u64 (lo:Int)] 28 (0,0))) w.heap.size 28 #[.bool true, .int .u64 (hi:Int), .int .u64 (lo:Int)]):=Lib.hid (Blk.new w _ _)
 have HB:Hid (Below w.heap.size w (w.alloc (.cells #[.bool true, .int .u64 (hi:Int), .int .u64 (lo:Int)] 28 (0,0)))):=Lib.hid (below_alloc (Below.refl _ _) _)
 have HT:=Lib.hid (ht.below HB.out)
 have HLs:=Lib.hid hls
 clear ht hls
 go_enter Tryz.func134,Tryz.ntmps134
 go_upto_region 1 with fail
 generalize w.alloc (.cells #[.bool true, .int .u64 (hi:Int), .int .u64 (lo:Int)] 28 (0,0))=w0 at *
 have p0:=HP.out.cell 0
 have p1:=HP.out.cell 1
 have p2:=HP.out.cell 2
 simp at p0 p1 p2
 go_wp2_with fail
 refine (HGr.out _).mono ?_
 rintro e w2 ⟨gr,gc,rfl,hgr,hgc,hb⟩
 have HB2:=Lib.hid (HB.out.trans (hb.mono HB.out.size))
 have HT2:=Lib.hid (HT.out.below hb)
 have HGc:=Lib.hid hgc
 clear hb HB HT HP p0 p1 p2 HGr hgc
 go_wp2_with fail
 go_loopw [7,9,46] (fun v iv i wr => ∃ k:Nat,k≤8∧i=.int .i64 k∧Hid (OwnS wr w2.heap.size v (([d7,d6,d5,d4,d3,d2,d1,d0]:List ByteArray).take k))∧Hid (Below w2.heap.size w2 wr)) (fun _ _ i _ => 8 - (intOf i).toNat)
 case atStart => exact ⟨0,Nat.zero_le _,rfl,Lib.hid (OwnS.nil _ _),Lib.hid (Below.refl _ _)⟩
 case round =>
  obtain ⟨k,hk,rfl,HO,HBr⟩:=hrel
  by_cases hlt:k < 8
  ·have hk8:k=0 ∨ k=1 ∨ k=2 ∨ k=3 ∨ k=4 ∨ k=5 ∨ k=6 ∨ k=7:=by omega
   have HTr:=Lib.hid (HT2.out.below HBr.out)
   rcases hk8 with rfl | rfl | rfl | rfl | rfl | rfl | rfl | rfl
   ·have p:=Later.cell_of (HGc.out 0 _ rfl) ⟨wr,HBr.out⟩
    simp only at p
    go_wp2_with fail
    refine (H7.out _ HTr.out).mono ?_
    rintro e w' ⟨rfl,hb⟩
    have HO1:=Lib.hid (HO.out.later hb)
    have HBr1:=Lib.hid (HBr.out.trans (hb.mono HBr.out.size))
    clear hb HO HBr HTr p
    go_wp2_with (at_builtin;refine wpList_app strE rfl (.tmp 50) (.tmp 53) rfl rfl (World.ownsRow.alloc HO1.out _) rfl (src_one_new _ _ _) ?c1 ?c2 ?c3 ?c4 ?_)
    case c1 => first | rfl | (intro u hu;simp at hu;subst hu;rfl)
    case c2 => unfold maxLen;simp
    case c3 => simp
    case c4 => have:=HBr1.out.size;simp;omega
    intro v' w4 hO hG
    have HO':=Lib.hid (show OwnS w4 w2.heap.size v' (([d7,d6,d5,d4,d3,d2,d1,d0]:List ByteArray).take 1) from hO)
    have HB':Hid (Below w2.heap.size w2 w4):=Lib.hid ((Below.alloc HBr1.out HBr1.out.size _).trans (hG.below (by have:=HBr1.out.size;simp;omega) (own_base HO1.out)))
    clear hO hG
    go_wp2
    exact ⟨⟨1,by decide,rfl,HO',HB'⟩,by simp [intOf]⟩
   ·have p:=Later.cell_of (HGc.out 1 _ rfl) ⟨wr,HBr.out⟩
    simp only at p
    go_wp2_with fail
    refine (H6.out _ HTr.out).mono ?_
    rintro e w' ⟨rfl,hb⟩
    have HO1:=Lib.hid (HO.out.later hb)
    have HBr1:=Lib.hid (HBr.out.trans (hb.mono HBr.out.size))
    clear hb HO HBr HTr p
    go_wp2_with (at_builtin;refine wpList_app strE rfl (.tmp 50) (.tmp 53) rfl rfl (World.ownsRow.alloc HO1.out _) rfl (src_one_new _ _ _) ?c1 ?c2 ?c3 ?c4 ?_)
    case c1 => first | rfl | (intro u hu;simp at hu;subst hu;rfl)
    case c2 => unfold maxLen;simp
    case c3 => simp
    case c4 => have:=HBr1.out.size;simp;omega
    intro v' w4 hO hG
    have HO':=Lib.hid (show OwnS w4 w2.heap.size v' (([d7,d6,d5,d4,d3,d2,d1,d0]:List ByteArray).take 2) from hO)
    have HB':Hid (Below w2.heap.size w2 w4):=Lib.hid ((Below.alloc HBr1.out HBr1.out.size _).trans (hG.below (by have:=HBr1.out.size;simp;omega) (own_base HO1.out)))
    clear hO hG
    go_wp2
    exact ⟨⟨2,by decide,rfl,HO',HB'⟩,by simp [intOf]⟩
   ·have p:=Later.cell_of (HGc.out 2 _ rfl) ⟨wr,HBr.out⟩
    simp only at p
    go_wp2_with fail
    refine (H5.out _ HTr.out).mono ?_
    rintro e w' ⟨rfl,hb⟩
    have HO1:=Lib.hid (HO.out.later hb)
    have HBr1:=Lib.hid (HBr.out.trans (hb.mono HBr.out.size))
    clear hb HO HBr HTr p
    go_wp2_with (at_builtin;refine wpList_app strE rfl (.tmp 50) (.tmp 53) rfl rfl (World.ownsRow.alloc HO1.out _) rfl (src_one_new _ _ _) ?c1 ?c2 ?c3 ?c4 ?_)
    case c1 => first | rfl | (intro u hu;simp at hu;subst hu;rfl)
    case c2 => unfold maxLen;simp
    case c3 => simp
    case c4 => have:=HBr1.out.size;simp;omega
    intro v' w4 hO hG
    have HO':=Lib.hid (show OwnS w4 w2.heap.size v' (([d7,d6,d5,d4,d3,d2,d1,d0]:List ByteArray).take 3) from hO)
    have HB':Hid (Below w2.heap.size w2 w4):=Lib.hid ((Below.alloc HBr1.out HBr1.out.size _).trans (hG.below (by have:=HBr1.out.size;simp;omega) (own_base HO1.out)))
    clear hO hG
    go_wp2
    exact ⟨⟨3,by decide,rfl,HO',HB'⟩,by simp [intOf]⟩
   ·have p:=Later.cell_of (HGc.out 3 _ rfl) ⟨wr,HBr.out⟩
    simp only at p
    go_wp2_with fail
    refine (H4.out _ HTr.out).mono ?_
    rintro e w' ⟨rfl,hb⟩
    have HO1:=Lib.hid (HO.out.later hb)
    have HBr1:=Lib.hid (HBr.out.trans (hb.mono HBr.out.size))
    clear hb HO HBr HTr p
    go_wp2_with (at_builtin;refine wpList_app strE rfl (.tmp 50) (.tmp 53) rfl rfl (World.ownsRow.alloc HO1.out _) rfl (src_one_new _ _ _) ?c1 ?c2 ?c3 ?c4 ?_)
    case c1 => first | rfl | (intro u hu;simp at hu;subst hu;rfl)
    case c2 => unfold maxLen;simp
    case c3 => simp
    case c4 => have:=HBr1.out.size;simp;omega
    intro v' w4 hO hG
    have HO':=Lib.hid (show OwnS w4 w2.heap.size v' (([d7,d6,d5,d4,d3,d2,d1,d0]:List ByteArray).take 4) from hO)
    have HB':Hid (Below w2.heap.size w2 w4):=Lib.hid ((Below.alloc HBr1.out HBr1.out.size _).trans (hG.below (by have:=HBr1.out.size;simp;omega) (own_base HO1.out)))
    clear hO hG
    go_wp2
    exact ⟨⟨4,by decide,rfl,HO',HB'⟩,by simp [intOf]⟩
   ·have p:=Later.cell_of (HGc.out 4 _ rfl) ⟨wr,HBr.out⟩
    simp only at p
    go_wp2_with fail
    refine (H3.out _ HTr.out).mono ?_
    rintro e w' ⟨rfl,hb⟩
    have HO1:=Lib.hid (HO.out.later hb)
    have HBr1:=Lib.hid (HBr.out.trans (hb.mono HBr.out.size))
    clear hb HO HBr HTr p
    go_wp2_with (at_builtin;refine wpList_app strE rfl (.tmp 50) (.tmp 53) rfl rfl (World.ownsRow.alloc HO1.out _) rfl (src_one_new _ _ _) ?c1 ?c2 ?c3 ?c4 ?_)
    case c1 => first | rfl | (intro u hu;simp at hu;subst hu;rfl)
    case c2 => unfold maxLen;simp
    case c3 => simp
    case c4 => have:=HBr1.out.size;simp;omega
    intro v' w4 hO hG
    have HO':=Lib.hid (show OwnS w4 w2.heap.size v' (([d7,d6,d5,d4,d3,d2,d1,d0]:List ByteArray).take 5) from hO)
    have HB':Hid (Below w2.heap.size w2 w4):=Lib.hid ((Below.alloc HBr1.out HBr1.out.size _).trans (hG.below (by have:=HBr1.out.size;simp;omega) (own_base HO1.out)))
    clear hO hG
    go_wp2
    exact ⟨⟨5,by decide,rfl,HO',HB'⟩,by simp [intOf]⟩
   ·have p:=Later.cell_of (HGc.out 5 _ rfl) ⟨wr,HBr.out⟩
    simp only at p
    go_wp2_with fail
    refine (H2.out _ HTr.out).mono ?_
    rintro e w' ⟨rfl,hb⟩
    have HO1:=Lib.hid (HO.out.later hb)
    have HBr1:=Lib.hid (HBr.out.trans (hb.mono HBr.out.size))
    clear hb HO HBr HTr p
    go_wp2_with (at_builtin;refine wpList_app strE rfl (.tmp 50) (.tmp 53) rfl rfl (World.ownsRow.alloc HO1.out _) rfl (src_one_new _ _ _) ?c1 ?c2 ?c3 ?c4 ?_)
    case c1 => first | rfl | (intro u hu;simp at hu;subst hu;rfl)
    case c2 => unfold maxLen;simp
    case c3 => simp
    case c4 => have:=HBr1.out.size;simp;omega
    intro v' w4 hO hG
    have HO':=Lib.hid (show OwnS w4 w2.heap.size v' (([d7,d6,d5,d4,d3,d2,d1,d0]:List ByteArray).take 6) from hO)
    have HB':Hid (Below w2.heap.size w2 w4):=Lib.hid ((Below.alloc HBr1.out HBr1.out.size _).trans (hG.below (by have:=HBr1.out.size;simp;omega) (own_base HO1.out)))
    clear hO hG
    go_wp2
    exact ⟨⟨6,by decide,rfl,HO',HB'⟩,by simp [intOf]⟩
   ·have p:=Later.cell_of (HGc.out 6 _ rfl) ⟨wr,HBr.out⟩
    simp only at p
    go_wp2_with fail
    refine (H1.out _ HTr.out).mono ?_
    rintro e w' ⟨rfl,hb⟩
    have HO1:=Lib.hid (HO.out.later hb)
    have HBr1:=Lib.hid (HBr.out.trans (hb.mono HBr.out.size))
    clear hb HO HBr HTr p
    go_wp2_with (at_builtin;refine wpList_app strE rfl (.tmp 50) (.tmp 53) rfl rfl (World.ownsRow.alloc HO1.out _) rfl (src_one_new _ _ _) ?c1 ?c2 ?c3 ?c4 ?_)
    case c1 => first | rfl | (intro u hu;simp at hu;subst hu;rfl)
    case c2 => unfold maxLen;simp
    case c3 => simp
    case c4 => have:=HBr1.out.size;simp;omega
    intro v' w4 hO hG
    have HO':=Lib.hid (show OwnS w4 w2.heap.size v' (([d7,d6,d5,d4,d3,d2,d1,d0]:List ByteArray).take 7) from hO)
    have HB':Hid (Below w2.heap.size w2 w4):=Lib.hid ((Below.alloc HBr1.out HBr1.out.size _).trans (hG.below (by have:=HBr1.out.size;simp;omega) (own_base HO1.out)))
    clear hO hG
    go_wp2
    exact ⟨⟨7,by decide,rfl,HO',HB'⟩,by simp [intOf]⟩
   ·have p:=Later.cell_of (HGc.out 7 _ rfl) ⟨wr,HBr.out⟩
    simp only at p
    go_wp2_with fail
    refine (H0.out _ HTr.out).mono ?_
    rintro e w' ⟨rfl,hb⟩
    have HO1:=Lib.hid (HO.out.later hb)
    have HBr1:=Lib.hid (HBr.out.trans (hb.mono HBr.out.size))
    clear hb HO HBr HTr p
    go_wp2_with (at_builtin;refine wpList_app strE rfl (.tmp 50) (.tmp 53) rfl rfl (World.ownsRow.alloc HO1.out _) rfl (src_one_new _ _ _) ?c1 ?c2 ?c3 ?c4 ?_)
    case c1 => first | rfl | (intro u hu;simp at hu;subst hu;rfl)
    case c2 => unfold maxLen;simp
    case c3 => simp
    case c4 => have:=HBr1.out.size;simp;omega
    intro v' w4 hO hG
    have HO':=Lib.hid (show OwnS w4 w2.heap.size v' (([d7,d6,d5,d4,d3,d2,d1,d0]:List ByteArray).take 8) from hO)
    have HB':Hid (Below w2.heap.size w2 w4):=Lib.hid ((Below.alloc HBr1.out HBr1.out.size _).trans (hG.below (by have:=HBr1.out.size;simp;omega) (own_base HO1.out)))
    clear hO hG
    go_wp2
    exact ⟨⟨8,by decide,rfl,HO',HB'⟩,by simp [intOf]⟩
  ·obtain rfl:k=8:=by omega
   obtain ⟨g,c,hv,_,hg,hc,hcm,hcell⟩:=HO.out.one (by simp)
   have hv':u7=.slice (some ⟨g,0,none⟩) 8 c:=hv
   have hc':8≤c:=hc
   rw [show ([d7,d6,d5,d4,d3,d2,d1,d0]:List ByteArray).take 8=([d7,d6,d5,d4,d3,d2,d1,d0]:List ByteArray) from rfl] at hcell
   have hLn:([d7,d6,d5,d4,d3,d2,d1,d0]:List ByteArray).length=8:=rfl
   generalize ([d7,d6,d5,d4,d3,d2,d1,d0]:List ByteArray)=L at *
   have HCell:=Lib.hid hcell
   have HLn:=Lib.hid hLn
   have HB5:=Lib.hid (HB2.out.trans (HBr.out.mono HB2.out.size))
   clear hv hc hcell hLn HO HBr
   subst hv'
   obtain ⟨w5,hw5⟩:∃ x,x=wr:=⟨wr,rfl⟩
   subst hw5
   obtain ⟨Z,hZ⟩:∃ Z,rOut z 7=Z:=⟨_,rfl⟩
   rw [hZ] at HR
   have HZ:=Lib.hid hZ
   clear hZ
   go_wp2_with fail
   go_loopw [10,11] (fun a b wx => ∃ k:Nat,k≤7∧a=.int .i64 ((k:Int) + 1)∧Hid (rOut z k=Z)∧Hid (Below w5.heap.size w5 wx)) (fun a _ _ => (intOf a).toNat)
   case atStart => exact ⟨7,Nat.le_refl _,rfl,HZ,Lib.hid (Below.refl _ _)⟩
   case round =>
    clear HZ
    obtain ⟨k,hk,rfl,HZ,HBx⟩:=hrel
    by_cases hk0:k=0
    ·subst hk0
     have hz:Z=none:=HZ.out.symm
     subst hz
     have hR:R=joinS L ⟨#[58]⟩:=HR.out
     have HJ:=Lib.hid (joinAt_any g 0 c L 58 wr HLs.out (Nat.lt_of_lt_of_le hg HBx.out.size) (by rw [HLn.out];exact hc') (fun j x hx => by rw [Nat.zero_add];exact Later.cell_of (HCell.out j x hx) ⟨wr,HBx.out⟩))
     rw [HLn.out, ← hR] at HJ
     have e1:(((0:Nat):Int) + 1)=1:=by decide
     rw [e1]
     clear hR HR HZ
     go_wp2_with fail
     refine HJ.out.mono ?_
     rintro e w' ⟨rfl,hb⟩
     go_wp2_with fail
     go_ret
     exact ⟨rfl,HB5.out.trans ((HBx.out.trans (hb.mono HBx.out.size)).mono HB5.out.size)⟩
    ·obtain ⟨k,rfl⟩:∃ k',k=k' + 1:=⟨k - 1,by omega⟩
     have hz:=HZ.out
     unfold rOut at hz
     have HZk:=Lib.hid hz
     clear hz HZ
     have e1:(((k + 1:Nat):Int) + 1)=((k + 2:Nat):Int):=by omega
     rw [e1]
     obtain ⟨n,hn⟩:∃ n,k + 2=n:=⟨_,rfl⟩
     rw [hn] at HZk ⊢
     have hn2:2≤n∧n≤8:=by omega
     have Hn:=Lib.hid hn
     clear hn e1
     have hge:(n:Int) ≥ 2:=by omega
     obtain ⟨w6,hw6⟩:∃ x,x=wr:=⟨wr,rfl⟩
     subst hw6
     go_wp2_with fail
     go_loopw [11] (fun b wx => ∃ q i:Nat,9 - i≤q∧i≤9∧b=.int .i64 (i:Int)∧Hid ((match rIn z n q i with | some x => some x | none => rOut z k)=Z)∧Hid (Below w5.heap.size w5 wx)) (fun b _ => 9 - (intOf b).toNat)
     case atStart => exact ⟨9,0,by omega,by omega,rfl,HZk,HBx⟩
     case round =>
      obtain ⟨q,i,hq,hi,rfl,HZi,HBi⟩:=hrel
      by_cases hin:i + n≤8
      ·obtain ⟨q,rfl⟩:∃ q',q=q' + 1:=⟨q - 1,by omega⟩
       have hz:=HZi.out
       unfold rIn at hz
       rw [if_pos hin] at hz
       have hHit:=hit_iff z L ⟨#[48]⟩ i n HL8.out (by rw [HLn.out];exact hin)
       have hCF:=containsFunc_any g i n (c - i) ((L.drop i).take n) (hit z i n) wr (by rw [List.length_take,List.length_drop,HLn.out];omega) (by omega) (fun j x hx => by
        rw [List.getElem?_take] at hx
        split at hx
        ·rw [List.getElem?_drop] at hx
         exact Later.cell_of (HCell.out _ x hx) ⟨wr,HBi.out⟩
        ·cases hx) hHit
       obtain ⟨D,hD⟩:∃ D,i + n=D:=⟨_,rfl⟩
       have hD8:D≤8:=by omega
       have hsl:=fun W => slice_mid g c i D n W (by omega) hD8 (by omega) hc'
       have e2:(i:Int) + (n:Int)=(D:Int):=by omega
       have e3:(D:Int)≤8:=by omega
       have e4:(0:Int)≤(D:Int):=by omega
       have HD:=Lib.hid hD
       clear hHit HZi hin hD
       by_cases hh:hit z i n=true
       ·rw [if_pos hh] at hz
        rw [hh] at hCF
        have HCF:=Lib.hid hCF
        have HZ3:Hid (some (i,n)=Z):=Lib.hid hz
        clear hz hh hCF
        go_wp2_with fail
        refine HCF.out.mono ?_
        rintro e w' ⟨rfl,rfl⟩
        obtain rfl:=HZ3.out
        have hR:R=gapS L i n:=HR.out
        have hDn:=HD.out
        have HJ1:=Lib.hid fun wx (hb:Below w5.heap.size w5 wx) => joinAt_any g 0 c (L.take i) 58 wx (HLs.out.take i) (Nat.lt_of_lt_of_le hg hb.size) (by rw [List.length_take];omega) (fun j x hx => by
         rw [Nat.zero_add]
         rw [List.getElem?_take] at hx
         split at hx
         ·exact Later.cell_of (HCell.out j x hx) ⟨wx,hb⟩
         ·cases hx)
        have HJ2:=Lib.hid fun wx (hb:Below w5.heap.size w5 wx) => joinAt_any g (if c=D then 0 else D) (c - D) (L.drop D) 58 wx (HLs.out.drop D) (Nat.lt_of_lt_of_le hg hb.size) (by rw [List.length_drop,HLn.out];omega) (fun j x hx => by
         rw [List.getElem?_drop] at hx
         have hlt:D + j < L.length:=(List.getElem?_eq_some_iff.1 hx).1
         rw [HLn.out] at hlt
         rw [if_neg (by omega)]
         exact Later.cell_of (HCell.out _ x hx) ⟨wx,hb⟩)
        rw [show (L.take i).length=i by rw [List.length_take,HLn.out];omega] at HJ1
        rw [show (L.drop D).length=8 - D by rw [List.length_drop,HLn.out]] at HJ2
        have z1:=joinS_size (HLs.out.take i) 58
        have z2:=joinS_size (HLs.out.drop D) 58
        unfold gapS at hR
        rw [hDn] at hR
        generalize joinS (L.take i) ⟨#[58]⟩=J1 at *
        generalize joinS (L.drop D) ⟨#[58]⟩=J2 at *
        subst hR
        clear HR hDn
        have hA1:=add_str J1 ⟨#[58,58]⟩ (by omega) (by decide)
        have hA2:=add_str (J1 ++ ⟨#[58,58]⟩) J2 (by rw [ByteArray.size_append];have:(⟨#[58,58]⟩:ByteArray).size=2:=rfl;omega) (by omega)
        obtain ⟨w6,hw6⟩:∃ x,x=w':=⟨w',rfl⟩
        subst hw6
        have hJ1:=fun m:Later w6 => Calls.later m (HJ1.out m.1 (HBi.out.trans (m.2.mono HBi.out.size)))
        have hJ2:=fun m:Later w6 => Calls.later m (HJ2.out m.1 (HBi.out.trans (m.2.mono HBi.out.size)))
        have f1:(0:Int)≤(i:Int):=by omega
        have f2:(i:Int)≤(c:Int):=by omega
        have hs2:=fun W => slice_from g c D W hD8 hc'
        obtain ⟨O,hO⟩:∃ O,(if c=D then 0 else D)=O:=⟨_,rfl⟩
        rw [hO] at hJ2 hs2
        clear hO hD8 hsl
        go_upto_region 23 with fail
        refine wp_region_later (by kernel_rfl) (by kernel_rfl) ?_
        iterate 3 (go_big_quiet_step (fail))
        go_big_quiet_step ((go_at_call 132;exact hJ1 _))
        repeat (go_big_quiet_step (fail))
        go_big_quiet_step ((go_at_call 132;exact hJ2 _))
        repeat (go_big_quiet_step (fail))
        refine wpQuiet_nil ?_
        rintro w8 ⟨n8,hn8⟩
        have hb8:Below w6.heap.size w6 w8:=by rw [hn8];exact n8.2
        clear hn8 n8
        have HB8:=Lib.hid (HB5.out.trans ((HBi.out.trans (hb8.mono HBi.out.size)).mono HB5.out.size))
        clear hb8
        go_wp2_with fail
        go_ret
        exact ⟨rfl,HB8.out⟩
       ·have hh':hit z i n=false:=by simpa using hh
        rw [if_neg hh] at hz
        rw [hh'] at hCF
        have HCF:=Lib.hid hCF
        have HZ3:Hid ((match rIn z n q (i + 1) with | some x => some x | none => rOut z k)=Z):=Lib.hid hz
        clear hz hh hh' hCF
        go_wp2_with fail
        refine HCF.out.mono ?_
        rintro e w' ⟨rfl,rfl⟩
        go_wp2_with fail
        go_roundw
        case rel =>
         (repeat apply Exists.intro)
         exact ⟨⟨q,i + 1,by omega,by omega,by go_num,HZ3,HBi⟩,rfl⟩
        case measure => simp [intOf];omega
      ·have hz:=HZi.out
       rw [rIn_stop hin] at hz
       have HZ2:Hid (rOut z k=Z):=Lib.hid hz
       have hnk:=Hn.out
       have hlt2:¬ (i:Int) + (n:Int)≤8:=by omega
       clear hz HZi
       go_wp2_with fail
       exact ⟨⟨k,by omega,congrArg _ (by omega),HZ2,HBi⟩,by simp [intOf];omega⟩
def txtA (six:Bool) (hi lo:Nat):ByteArray:=if six=true then sixT (dg hi lo) else joinS (fourL lo) ⟨#[46]⟩
theorem aFault_lo {six:Bool} {hi lo:Nat} (h:aFault six (hi:Int) (lo:Int)=0):six=false→lo < 4294967296:=by
 rintro rfl
 unfold aFault at h
 by_cases h2:false=false∧((hi:Int) ≠ 0 ∨ 4294967296≤(lo:Int))
 ·rw [if_pos h2] at h;cases h
 ·simp at h2;omega
theorem textOf_any (six:Bool) (hi lo:Nat) (w:World) (h1:U64N hi) (h2:U64N lo) (hf:aFault six (hi:Int) (lo:Int)=0) (ht:Tabs w) :
  Calls Tryz.prog 172 #[.agg #[.bool six, .int .u64 (hi:Int), .int .u64 (lo:Int)]] w (Ret (.string (txtA six hi lo)) w):=by
 cases six
 ·exact textFour_any hi lo w (aFault_lo hf rfl) ht
 ·exact textSix_any hi lo w h1 h2 ht
theorem addrText_any (six:Bool) (hi lo:Nat) (w:World) (h1:U64N hi) (h2:U64N lo) (hf:aFault six (hi:Int) (lo:Int)=0) (ht:Tabs w) :
  Calls Tryz.prog 134 #[.agg #[.bool six, .int .u64 (hi:Int), .int .u64 (lo:Int)]] w (Ret (.string (txtA six hi lo)) w):=by
 cases six
 ·exact addrTextFour_any hi lo w h1 h2 ht
 ·exact addrTextSix_any hi lo w h1 h2 ht
open Go.RowKit Go Go.Sort
theorem looseF_ok {s:List UInt8} {six:Bool} {hi lo:Nat} (hs:s.length≤1000000) (h:looseF s=some (six,hi,lo)):U64N hi∧U64N lo∧aFault six (hi:Int) (lo:Int)=0:=by
 rw [loose_same2] at h
 cases hf:fourF s with
 | some n =>
   rw [hf] at h
   have h:some (false,0,n)=some (six,hi,lo):=h
   injection h with h
   injection h with h1 h
   injection h with h2 h3
   subst h1 h2 h3
   have:=fourF_lt hf
   refine ⟨by unfold U64N;omega,by unfold U64N;omega,?_⟩
   unfold aFault
   simp
   omega
 | none =>
   rw [hf] at h
   have h:sixF s=some (six,hi,lo):=h
   unfold sixF at h
   cases hA:grpF (cutC s).1 (!(cutC s).2.2) with
   | none => rw [hA] at h;cases h
   | some a =>
     cases hB:grpF (cutC s).2.1 true with
     | none => rw [hA,hB] at h;cases h
     | some b =>
       rw [hA,hB] at h
       unfold mkA at h
       simp only at h
       have ha:=grpF_lt (Nat.le_trans (cut_le s [58,58]).1 hs) hA
       have hb:=grpF_lt (Nat.le_trans (cut_le s [58,58]).2 hs) hB
       split at h
       ·cases h
       ·injection h with h
        injection h with h1 h
        injection h with h2 h3
        subst h1 h2 h3
        have g1:=wdg_lt (g:=gq a b) (fun i => gq_lt ha hb i) 4
        have g2:=wdg_lt (g:=fun i => gq a b (4 + i)) (fun i => gq_lt ha hb (4 + i)) 4
        exact ⟨g1,g2,rfl⟩
def parseF (s:List UInt8):Option (Bool × Nat × Nat):=match looseF s with
 | some (x,h,l) => if txtA x h l=strL s then some (x,h,l) else none
 | none => none
theorem parse_any (s:List UInt8) (w:World) (hv:Vr w) (hs:s.length≤1000000) :
  Calls Tryz.prog 211 #[.string (strL s)] w (Ret (lsV (parseF s)) w):=by
 have HP:Hid (Blk (w.alloc (.cells #[.bool false, .int .u64 0, .int .u64 0] 28 (0,0))) w.heap.size 28 #[.bool false, .int .u64 0, .int .u64 0]):=Lib.hid (Blk.new w _ _)
 have HB:Hid (Below w.heap.size w (w.alloc (.cells #[.bool false, .int .u64 0, .int .u64 0] 28 (0,0)))):=Lib.hid (below_alloc (Below.refl _ _) _)
 have HV:=Lib.hid (hv.below (below_alloc (Below.refl _ _) (.cells #[.bool false, .int .u64 0, .int .u64 0] 28 (0,0))))
 have HL:=Lib.hid fun wx (hv:Vr wx) => loose_any s wx hv hs
 have HT:Hid (∀ six hi lo,looseF s=some (six,hi,lo)→∀ wx,Vr wx→Calls Tryz.prog 172 #[.agg #[.bool six, .int .u64 (hi:Int), .int .u64 (lo:Int)]] wx (Ret (.string (txtA six hi lo)) wx)):=Lib.hid fun six hi lo h wx hv => by
  obtain ⟨h1,h2,h3⟩:=looseF_ok hs h
  exact textOf_any six hi lo wx h1 h2 h3 hv.tb
 have HPf:Hid (parseF s=match looseF s with
  | some (x,h,l) => if txtA x h l=strL s then some (x,h,l) else none
  | none => none):=Lib.hid rfl
 obtain ⟨PR,hPR⟩:∃ q,parseF s=q:=⟨_,rfl⟩
 rw [hPR] at HPf ⊢
 generalize looseF s=R at *
 generalize strL s=SS at *
 clear hv hPR
 go_enter Tryz.func211,Tryz.ntmps211
 go_upto_region 1 with fail
 generalize w.alloc (.cells #[.bool false, .int .u64 0, .int .u64 0] 28 (0,0))=w1 at *
 obtain ⟨bx,hbx⟩:∃ q,w.heap.size=q:=⟨_,rfl⟩
 have Hbx:=Lib.hid hbx
 rw [hbx] at HP HB ⊢
 clear hbx
 have HRet:Hid (∀ wx (sx:Bool) (h l:Int),Blk wx bx 28 #[.bool false, .int .u64 0, .int .u64 0]→Below bx w wx→Below bx w (((wx.setCell ⟨bx,0,none⟩ (.bool sx)).setCell ⟨bx,1,none⟩ (.int .u64 h)).setCell ⟨bx,2,none⟩ (.int .u64 l))):=Lib.hid fun wx sx h l hp hb => hb.grown (grown_setCells bx [.bool sx, .int .u64 h, .int .u64 l] 0 wx) (Nat.le_of_lt hp.lt) (fun k hk => by injection hk with hk;omega)
 go_wp2_with fail
 refine (HL.out _ HV.out).mono ?_
 rintro e w2 ⟨rfl,hb⟩
 have HP2:=Lib.hid (HP.out.below hb HP.out.lt)
 have HB2:=Lib.hid (HB.out.trans (hb.mono (Nat.le_of_lt HP.out.lt)))
 have HV2:=Lib.hid (HV.out.below hb)
 clear hb HP HB HV HL
 rcases R with _ | ⟨six,hi,lo⟩
 ·have hR:PR=none:=HPf.out
  subst hR
  have HP3:=Lib.hid (HP2.out.alloc (.cells #[.bool false, .int .u64 0, .int .u64 0] 28 (0,0)))
  have HB3:=Lib.hid (HB2.out.alloc (Nat.le_of_lt HP2.out.lt) (.cells #[.bool false, .int .u64 0, .int .u64 0] 28 (0,0)))
  clear HP2 HB2 HV2 HT HPf
  unfold lsV
  go_upto_region 2 with fail
  generalize w2.alloc (.cells #[.bool false, .int .u64 0, .int .u64 0] 28 (0,0))=w3 at *
  have q0:=HP3.out.cell 0
  have q1:=HP3.out.cell 1
  have q2:=HP3.out.cell 2
  have qf:=HP3.out.free
  simp at q0 q1 q2
  have c3:=(HP3.out.set3 (x':=.bool false) (y':=.int .u64 0) (z':=.int .u64 0))
  have HBf:=Lib.hid (HRet.out w3 false 0 0 HP3.out HB3.out)
  have d0:=c3.cell 0
  have d1:=c3.cell 1
  have d2:=c3.cell 2
  simp at d0 d1 d2
  clear c3
  go_wp2_with fail
  refine bodyPost_ret (v:=.tuple #[.agg #[.bool false, .int .u64 0, .int .u64 0], .int .i64 9]) (by simp [results,Tryz.results211,go_sem, *]) rfl ⟨rfl,by rw [Hbx.out];exact HBf.out⟩
 ·have hR:PR=if txtA six hi lo=SS then some (six,hi,lo) else none:=HPf.out
  have HR:=Lib.hid hR
  have HTx:=Lib.hid (HT.out six hi lo rfl)
  have HP3:=Lib.hid (HP2.out.alloc (.cells #[.bool six, .int .u64 (hi:Int), .int .u64 (lo:Int)] 28 (0,0)))
  have HA3:Hid (Blk (w2.alloc (.cells #[.bool six, .int .u64 (hi:Int), .int .u64 (lo:Int)] 28 (0,0))) w2.heap.size 28 #[.bool six, .int .u64 (hi:Int), .int .u64 (lo:Int)]):=Lib.hid (Blk.new w2 _ _)
  have HB3:=Lib.hid (HB2.out.alloc (Nat.le_of_lt HP2.out.lt) (.cells #[.bool six, .int .u64 (hi:Int), .int .u64 (lo:Int)] 28 (0,0)))
  have HV3:=Lib.hid (HV2.out.below (below_alloc (Below.refl _ _) (.cells #[.bool six, .int .u64 (hi:Int), .int .u64 (lo:Int)] 28 (0,0))))
  clear hR HP2 HB2 HV2 HT HPf
  rw [show lsV (some (six,hi,lo))=.tuple #[.agg #[.bool six, .int .u64 (hi:Int), .int .u64 (lo:Int)], .int .i64 0] from rfl]
  go_upto_region 2 with fail
  generalize w2.alloc (.cells #[.bool six, .int .u64 (hi:Int), .int .u64 (lo:Int)] 28 (0,0))=w3 at *
  generalize w2.heap.size=ab at *
  have a0:=HA3.out.cell 0
  have a1:=HA3.out.cell 1
  have a2:=HA3.out.cell 2
  simp at a0 a1 a2
  have HTy:=Lib.hid (HTx.out _ HV3.out)
  clear HTx
  go_wp2_with fail
  refine HTy.out.mono ?_
  rintro e w4 ⟨rfl,hb⟩
  have HP4:=Lib.hid (HP3.out.below hb HP3.out.lt)
  have HA4:=Lib.hid (HA3.out.below hb HA3.out.lt)
  have HB4:=Lib.hid (HB3.out.trans (hb.mono (Nat.le_of_lt HP3.out.lt)))
  clear hb HP3 HA3 HB3 HV3 HTy a0 a1 a2
  have a0:=HA4.out.cell 0
  have a1:=HA4.out.cell 1
  have a2:=HA4.out.cell 2
  simp at a0 a1 a2
  have hcmp:((txtA six hi lo).toList == SS.toList)=decide (txtA six hi lo=SS):=by
   by_cases e:txtA six hi lo=SS
   ·rw [decide_eq_true e,e];exact beq_self_eq_true _
   ·rw [decide_eq_false e]
    exact beq_eq_false_iff_ne.2 fun h => e (by
     rw [ByteArray.toList_eq,ByteArray.toList_eq] at h
     exact ByteArray.ext (Array.toList_inj.1 h))
  by_cases he:txtA six hi lo=SS
  ·have hR:=HR.out
   rw [if_pos he] at hR
   subst hR
   rw [decide_eq_true he] at hcmp
   have hcmp2:(txtA six hi lo).toList=SS.toList:=by rw [he]
   clear HR
   generalize txtA six hi lo=TX at *
   have q0:=HP4.out.cell 0
   have q1:=HP4.out.cell 1
   have q2:=HP4.out.cell 2
   have qf:=HP4.out.free
   simp at q0 q1 q2
   have c3:=(HP4.out.set3 (x':=.bool six) (y':=.int .u64 (hi:Int)) (z':=.int .u64 (lo:Int)))
   have HBf:=Lib.hid (HRet.out w4 six (hi:Int) (lo:Int) HP4.out HB4.out)
   have d0:=c3.cell 0
   have d1:=c3.cell 1
   have d2:=c3.cell 2
   simp at d0 d1 d2
   clear c3
   go_wp2_with fail
   refine bodyPost_ret (v:=.tuple #[.agg #[.bool six, .int .u64 (hi:Int), .int .u64 (lo:Int)], .int .i64 0]) (by simp [results,Tryz.results211,go_sem, *]) rfl ⟨rfl,by rw [Hbx.out];exact HBf.out⟩
  ·have hR:=HR.out
   rw [if_neg he] at hR
   subst hR
   rw [decide_eq_false he] at hcmp
   have hcmp2:¬ (txtA six hi lo).toList=SS.toList:=by
    intro h
    have:((txtA six hi lo).toList == SS.toList)=true:=by rw [h];exact beq_self_eq_true _
    rw [hcmp] at this
    cases this
   clear HR
   generalize txtA six hi lo=TX at *
   have q0:=HP4.out.cell 0
   have q1:=HP4.out.cell 1
   have q2:=HP4.out.cell 2
   have qf:=HP4.out.free
   simp at q0 q1 q2
   have c3:=(HP4.out.set3 (x':=.bool false) (y':=.int .u64 0) (z':=.int .u64 0))
   have HBf:=Lib.hid (HRet.out w4 false 0 0 HP4.out HB4.out)
   have d0:=c3.cell 0
   have d1:=c3.cell 1
   have d2:=c3.cell 2
   simp at d0 d1 d2
   clear c3
   go_wp2_with fail
   refine bodyPost_ret (v:=.tuple #[.agg #[.bool false, .int .u64 0, .int .u64 0], .int .i64 9]) (by simp [results,Tryz.results211,go_sem, *]) rfl ⟨rfl,by rw [Hbx.out];exact HBf.out⟩
theorem addrParse_any (s:List UInt8) (w:World) (hv:Vr w) (hs:s.length≤1000000) :
  Calls Tryz.prog 139 #[.string (strL s)] w (Ret (lsV (parseF s)) w):=by
 have HP:Hid (Blk (w.alloc (.cells #[.bool false, .int .u64 0, .int .u64 0] 28 (0,0))) w.heap.size 28 #[.bool false, .int .u64 0, .int .u64 0]):=Lib.hid (Blk.new w _ _)
 have HB:Hid (Below w.heap.size w (w.alloc (.cells #[.bool false, .int .u64 0, .int .u64 0] 28 (0,0)))):=Lib.hid (below_alloc (Below.refl _ _) _)
 have HV:=Lib.hid (hv.below (below_alloc (Below.refl _ _) (.cells #[.bool false, .int .u64 0, .int .u64 0] 28 (0,0))))
 have HL:=Lib.hid fun wx (hv:Vr wx) => addrLoose_any s wx hv hs
 have HT:Hid (∀ six hi lo,looseF s=some (six,hi,lo)→∀ wx,Vr wx→Calls Tryz.prog 134 #[.agg #[.bool six, .int .u64 (hi:Int), .int .u64 (lo:Int)]] wx (Ret (.string (txtA six hi lo)) wx)):=Lib.hid fun six hi lo h wx hv => by
  obtain ⟨h1,h2,h3⟩:=looseF_ok hs h
  exact addrText_any six hi lo wx h1 h2 h3 hv.tb
 have HPf:Hid (parseF s=match looseF s with
  | some (x,h,l) => if txtA x h l=strL s then some (x,h,l) else none
  | none => none):=Lib.hid rfl
 obtain ⟨PR,hPR⟩:∃ q,parseF s=q:=⟨_,rfl⟩
 rw [hPR] at HPf ⊢
 generalize looseF s=R at *
 generalize strL s=SS at *
 clear hv hPR
 go_enter Tryz.func139,Tryz.ntmps139
 go_upto_region 1 with fail
 generalize w.alloc (.cells #[.bool false, .int .u64 0, .int .u64 0] 28 (0,0))=w1 at *
 obtain ⟨bx,hbx⟩:∃ q,w.heap.size=q:=⟨_,rfl⟩
 have Hbx:=Lib.hid hbx
 rw [hbx] at HP HB ⊢
 clear hbx
 have HRet:Hid (∀ wx (sx:Bool) (h l:Int),Blk wx bx 28 #[.bool false, .int .u64 0, .int .u64 0]→Below bx w wx→Below bx w (((wx.setCell ⟨bx,0,none⟩ (.bool sx)).setCell ⟨bx,1,none⟩ (.int .u64 h)).setCell ⟨bx,2,none⟩ (.int .u64 l))):=Lib.hid fun wx sx h l hp hb => hb.grown (grown_setCells bx [.bool sx, .int .u64 h, .int .u64 l] 0 wx) (Nat.le_of_lt hp.lt) (fun k hk => by injection hk with hk;omega)
 go_wp2_with fail
 refine (HL.out _ HV.out).mono ?_
 rintro e w2 ⟨rfl,hb⟩
 have HP2:=Lib.hid (HP.out.below hb HP.out.lt)
 have HB2:=Lib.hid (HB.out.trans (hb.mono (Nat.le_of_lt HP.out.lt)))
 have HV2:=Lib.hid (HV.out.below hb)
 clear hb HP HB HV HL
 rcases R with _ | ⟨six,hi,lo⟩
 ·have hR:PR=none:=HPf.out
  subst hR
  have HP3:=Lib.hid (HP2.out.alloc (.cells #[.bool false, .int .u64 0, .int .u64 0] 28 (0,0)))
  have HB3:=Lib.hid (HB2.out.alloc (Nat.le_of_lt HP2.out.lt) (.cells #[.bool false, .int .u64 0, .int .u64 0] 28 (0,0)))
  clear HP2 HB2 HV2 HT HPf
  unfold lsV
  go_upto_region 2 with fail
  generalize w2.alloc (.cells #[.bool false, .int .u64 0, .int .u64 0] 28 (0,0))=w3 at *
  have q0:=HP3.out.cell 0
  have q1:=HP3.out.cell 1
  have q2:=HP3.out.cell 2
  have qf:=HP3.out.free
  simp at q0 q1 q2
  have c3:=(HP3.out.set3 (x':=.bool false) (y':=.int .u64 0) (z':=.int .u64 0))
  have HBf:=Lib.hid (HRet.out w3 false 0 0 HP3.out HB3.out)
  have d0:=c3.cell 0
  have d1:=c3.cell 1
  have d2:=c3.cell 2
  simp at d0 d1 d2
  clear c3
  go_wp2_with fail
  refine bodyPost_ret (v:=.tuple #[.agg #[.bool false, .int .u64 0, .int .u64 0], .int .i64 9]) (by simp [results,Tryz.results139,go_sem, *]) rfl ⟨rfl,by rw [Hbx.out];exact HBf.out⟩
 ·have hR:PR=if txtA six hi lo=SS then some (six,hi,lo) else none:=HPf.out
  have HR:=Lib.hid hR
  have HTx:=Lib.hid (HT.out six hi lo rfl)
  have HP3:=Lib.hid (HP2.out.alloc (.cells #[.bool six, .int .u64 (hi:Int), .int .u64 (lo:Int)] 28 (0,0)))
  have HA3:Hid (Blk (w2.alloc (.cells #[.bool six, .int .u64 (hi:Int), .int .u64 (lo:Int)] 28 (0,0))) w2.heap.size 28 #[.bool six, .int .u64 (hi:Int), .int .u64 (lo:Int)]):=Lib.hid (Blk.new w2 _ _)
  have HB3:=Lib.hid (HB2.out.alloc (Nat.le_of_lt HP2.out.lt) (.cells #[.bool six, .int .u64 (hi:Int), .int .u64 (lo:Int)] 28 (0,0)))
  have HV3:=Lib.hid (HV2.out.below (below_alloc (Below.refl _ _) (.cells #[.bool six, .int .u64 (hi:Int), .int .u64 (lo:Int)] 28 (0,0))))
  clear hR HP2 HB2 HV2 HT HPf
  rw [show lsV (some (six,hi,lo))=.tuple #[.agg #[.bool six, .int .u64 (hi:Int), .int .u64 (lo:Int)], .int .i64 0] from rfl]
  go_upto_region 2 with fail
  generalize w2.alloc (.cells #[.bool six, .int .u64 (hi:Int), .int .u64 (lo:Int)] 28 (0,0))=w3 at *
  generalize w2.heap.size=ab at *
  have a0:=HA3.out.cell 0
  have a1:=HA3.out.cell 1
  have a2:=HA3.out.cell 2
  simp at a0 a1 a2
  have HTy:=Lib.hid (HTx.out _ HV3.out)
  clear HTx
  go_wp2_with fail
  refine HTy.out.mono ?_
  rintro e w4 ⟨rfl,hb⟩
  have HP4:=Lib.hid (HP3.out.below hb HP3.out.lt)
  have HA4:=Lib.hid (HA3.out.below hb HA3.out.lt)
  have HB4:=Lib.hid (HB3.out.trans (hb.mono (Nat.le_of_lt HP3.out.lt)))
  clear hb HP3 HA3 HB3 HV3 HTy a0 a1 a2
  have a0:=HA4.out.cell 0
  have a1:=HA4.out.cell 1
  have a2:=HA4.out.cell 2
  simp at a0 a1 a2
  have hcmp:((txtA six hi lo).toList == SS.toList)=decide (txtA six hi lo=SS):=by
   by_cases e:txtA six hi lo=SS
   ·rw [decide_eq_true e,e];exact beq_self_eq_true _
   ·rw [decide_eq_false e]
    exact beq_eq_false_iff_ne.2 fun h => e (by
     rw [ByteArray.toList_eq,ByteArray.toList_eq] at h
     exact ByteArray.ext (Array.toList_inj.1 h))
  by_cases he:txtA six hi lo=SS
  ·have hR:=HR.out
   rw [if_pos he] at hR
   subst hR
   rw [decide_eq_true he] at hcmp
   have hcmp2:(txtA six hi lo).toList=SS.toList:=by rw [he]
   clear HR
   generalize txtA six hi lo=TX at *
   have q0:=HP4.out.cell 0
   have q1:=HP4.out.cell 1
   have q2:=HP4.out.cell 2
   have qf:=HP4.out.free
   simp at q0 q1 q2
   have c3:=(HP4.out.set3 (x':=.bool six) (y':=.int .u64 (hi:Int)) (z':=.int .u64 (lo:Int)))
   have HBf:=Lib.hid (HRet.out w4 six (hi:Int) (lo:Int) HP4.out HB4.out)
   have d0:=c3.cell 0
   have d1:=c3.cell 1
   have d2:=c3.cell 2
   simp at d0 d1 d2
   clear c3
   go_wp2_with fail
   refine bodyPost_ret (v:=.tuple #[.agg #[.bool six, .int .u64 (hi:Int), .int .u64 (lo:Int)], .int .i64 0]) (by simp [results,Tryz.results139,go_sem, *]) rfl ⟨rfl,by rw [Hbx.out];exact HBf.out⟩
  ·have hR:=HR.out
   rw [if_neg he] at hR
   subst hR
   rw [decide_eq_false he] at hcmp
   have hcmp2:¬ (txtA six hi lo).toList=SS.toList:=by
    intro h
    have:((txtA six hi lo).toList == SS.toList)=true:=by rw [h];exact beq_self_eq_true _
    rw [hcmp] at this
    cases this
   clear HR
   generalize txtA six hi lo=TX at *
   have q0:=HP4.out.cell 0
   have q1:=HP4.out.cell 1
   have q2:=HP4.out.cell 2
   have qf:=HP4.out.free
   simp at q0 q1 q2
   have c3:=(HP4.out.set3 (x':=.bool false) (y':=.int .u64 0) (z':=.int .u64 0))
   have HBf:=Lib.hid (HRet.out w4 false 0 0 HP4.out HB4.out)
   have d0:=c3.cell 0
   have d1:=c3.cell 1
   have d2:=c3.cell 2
   simp at d0 d1 d2
   clear c3
   go_wp2_with fail
   refine bodyPost_ret (v:=.tuple #[.agg #[.bool false, .int .u64 0, .int .u64 0], .int .i64 9]) (by simp [results,Tryz.results139,go_sem, *]) rfl ⟨rfl,by rw [Hbx.out];exact HBf.out⟩
end Go.Proofs.YtdhldhkhpndpjaaGreatDoor
