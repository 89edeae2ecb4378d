/-
  The reference's least list of ports: port by port.
-/
import Derived.Test.YthebgfnaomgcnaaGreatFT16
set_option linter.unusedVariables false
set_option maxRecDepth 100000
set_option maxHeartbeats 2000000
namespace Go.Proofs.YthebgfnaomgcnaaGreat
open Go.RowKit Go
def offs : List Value → Bool
 | .bool false :: l => offs l
 | [] => true
 | _ => false
theorem offs_get : ∀ (l : List Value) (i : Nat),offs l = true → i < l.length → l[i]? = some (.bool false)
 | [],i,_,h => by simp at h
 | v :: l,0,h,_ => by
   cases v with
   | bool b => cases b with
    | false => rfl
    | true => cases h
   | _ => cases h
 | v :: l,i + 1,h,hi => by
   have : offs l = true:=by
    cases v with
    | bool b => cases b with
     | false => exact h
     | true => cases h
    | _ => cases h
   rw [List.getElem?_cons_succ]
   exact offs_get l i this (by simpa using hi)
def PI (M : List (Nat × Nat)) : List (Int × Int):=M.map fun p => ((p.1 : Int),(p.2 : Int))
theorem PI_len (M : List (Nat × Nat)) : (PI M).length = M.length:=by simp [PI]
theorem PI_get (M : List (Nat × Nat)) (i : Nat) (h : i < M.length) : (PI M).getD i (0,0) = (((M.getD i (0,0)).1 : Int),((M.getD i (0,0)).2 : Int)):=by simp [PI,List.getD,h]
theorem PI_append (A B : List (Nat × Nat)) : PI (A ++ B) = PI A ++ PI B:=by simp [PI]
theorem inRow_succ (M : List (Nat × Nat)) (k : Nat) (h : k < M.length) (i : Nat) : inRow (M.take (k + 1)) i = (inRow (M.take k) i || (decide ((M.getD k (0,0)).1 ≤ i) && decide (i ≤ (M.getD k (0,0)).2))):=by
 unfold inRow
 rw [List.take_succ_eq_append_getElem h,List.any_append]
 simp [List.getD,h]
theorem scan_succ (P : Nat → Bool) (n : Nat) : scan P (n + 1) = if P n = false then scan P n else if 0 < n ∧ P (n - 1) = true then (scan P n).dropLast ++ [(((scan P n).getLastD (0,0)).1,n)] else scan P n ++ [(n,n)]:=rfl
theorem scan_len (P : Nat → Bool) : ∀ n,(scan P n).length ≤ n
 | 0 => Nat.le_refl _
 | n + 1 => by
   have:=scan_len P n
   unfold scan
   split
   ·omega
   ·split
    ·simp;omega
    ·simp;omega
structure HasB (w : World) (b : Nat) (f : Nat → Bool) : Prop where
 ex : ∃ cur,w.heap[b]? = some (.cells cur 166 (0,0)) ∧ cur.size = 65537 ∧ ∀ i,i < 65537 → cur[i]? = some (.bool (f i))
theorem HasB.lt {w : World} {b : Nat} {f : Nat → Bool} (h : HasB w b f) : b < w.heap.size:=by
 obtain ⟨cur,hb,_⟩:=h.ex
 exact lt_of_block hb
theorem HasB.get {w : World} {b : Nat} {f : Nat → Bool} (h : HasB w b f) (i : Nat) (hi : i < 65537) : w.cell? ⟨b,i,none⟩ = some (.bool (f i)):=by
 obtain ⟨cur,hb,_,hc⟩:=h.ex
 rw [cell_of_row w b i _ _ _ hb];exact hc i hi
theorem HasB.frozen {w : World} {b : Nat} {f : Nat → Bool} (h : HasB w b f) (i : Nat) : w.frozen? ⟨b,i,none⟩ = false:=by
 obtain ⟨cur,hb,_⟩:=h.ex
 exact frozen_of_row w b i cur _ hb
theorem HasB.below {w w' : World} {b B : Nat} {f : Nat → Bool} (h : HasB w b f) (hb : Below B w w') (hB : b < B) : HasB w' b f:=by
 obtain ⟨cur,hc,r⟩:=h.ex
 exact ⟨cur,(hb.block b hB).trans hc,r⟩
theorem HasB.later {w w' : World} {b : Nat} {f : Nat → Bool} (h : HasB w b f) (hb : Below w.heap.size w w') : HasB w' b f:=h.below hb h.lt
theorem HasB.on {w : World} {b : Nat} {f : Nat → Bool} (h : HasB w b f) (i : Nat) : HasB (w.setCell ⟨b,i,none⟩ (.bool true)) b (fun j => f j || decide (j = i)):=by
 obtain ⟨cur,hb,hs,hc⟩:=h.ex
 refine ⟨cur.setIfInBounds i (.bool true),heap_setCell_same w b i cur _ _ hb,by simpa using hs,fun j hj => ?_⟩
 by_cases e : j = i
 ·subst e
  rw [Array.getElem?_setIfInBounds_self_of_lt (by omega)]
  simp
 ·rw [Array.getElem?_setIfInBounds_ne (Ne.symm e),hc j hj]
  simp [e]
theorem HasB.eq {w : World} {b : Nat} {f g : Nat → Bool} (h : HasB w b f) (e : ∀ i,f i = g i) : HasB w b g:=by
 have : f = g:=funext e
 rw [← this];exact h
theorem offs_zero : offs Tryz.zeroCells166.toList = true:=by kernel_rfl
theorem HasB.new (w : World) : HasB (w.alloc (.cells Tryz.zeroCells166 166 (0,0))) w.heap.size (fun _ => false):=by
 have h:=offs_zero
 have hs:=Tryz.zeroCells166_size
 generalize Tryz.zeroCells166 = Z at *
 refine ⟨Z,heap_alloc_new w _,hs,fun i hi => ?_⟩
 rw [← Array.getElem?_toList]
 exact offs_get _ _ h (by simpa [hs] using hi)
theorem leastPortsOf_any (ad : Option Addr) (n c : Nat) (M : List (Nat × Nat)) (w : World) (h : RdP w ad (PI M)) (hn : M.length = n) (hv : ∀ p ∈ M,p.1 ≤ p.2 ∧ p.2 < 65536) :
  Calls Tryz.prog 105 #[.slice ad n c] w fun e w' => ∃ v,e = .returned v ∧ OwnP w' w.heap.size v (PI (scan (inRow M) 65536)) ∧ Below w.heap.size w w':=by
 have hs:=h.small
 rw [PI_len,hn] at hs
 obtain ⟨N,hN⟩ : ∃ N : Nat,N = 65536:=⟨_,rfl⟩
 rw [show scan (inRow M) 65536 = scan (inRow M) N by rw [hN]]
 have HN:=Lib.hid hN
 clear hN
 have H0:=Lib.hid h
 have Hn:=Lib.hid hn
 have Hv:=Lib.hid hv
 clear h hn hv
 have HA:=Lib.hid (HasB.new w)
 have HB0 : Hid (Below w.heap.size w (w.alloc (.cells Tryz.zeroCells166 166 (0,0)))):=Lib.hid (below_alloc (Below.refl _ _) _)
 go_enter Tryz.func105,Tryz.ntmps105
 go_upto_region 2 with fail
 generalize w.alloc (.cells Tryz.zeroCells166 166 (0,0)) = w0 at *
 have hb0:=HA.out.lt
 generalize hbw : w.heap.size = b at *
 have Hbw:=Lib.hid hbw
 clear hbw
 go_wp2
 go_loopw [5,6,11] (fun bx kv i wr => ∃ (k : Nat),k ≤ n ∧ i = .int .i64 k ∧ Hid (HasB wr b (inRow (M.take k))) ∧ Hid (Below b w wr)) (fun _ _ i _ => n - (intOf i).toNat)
 case atStart => exact ⟨0,Nat.zero_le _,rfl,Lib.hid HA.out,HB0⟩
 case round =>
  obtain ⟨k,hk,rfl,HX,HB⟩:=hrel
  by_cases hlt : k < n
  ·obtain ⟨g,o,had,hg,c0,c1⟩:=(H0.out.below (w':=wr) (by rw [Hbw.out];exact HB.out)).cell k (by rw [PI_len,Hn.out];exact hlt)
   rw [PI_get M k (by rw [Hn.out];exact hlt)] at c0 c1
   subst had
   obtain ⟨p,hp⟩ : ∃ p,M.getD k (0,0) = p:=⟨_,rfl⟩
   rw [hp] at c0 c1
   have Hp:=Lib.hid hp
   clear hp
   obtain ⟨f,t⟩:=p
   simp only at c0 c1
   have hv:=Hv.out (f,t) (by rw [← Hp.out,List.getD_eq_getElem?_getD,List.getElem?_eq_getElem (by rw [Hn.out];exact hlt)];exact List.getElem_mem _)
   obtain ⟨hv1,hv2⟩:=hv
   simp only at hv1 hv2
   have hX1:=HX.out.lt
   have HB1 : Hid (Below b w (wr.alloc (.cells #[.int .i64 (f : Int), .int .i64 (t : Int)] 74 (0,0)))):=Lib.hid (Below.alloc HB.out (by omega) _)
   have HX1 : Hid (HasB (wr.alloc (.cells #[.int .i64 (f : Int), .int .i64 (t : Int)] 74 (0,0))) b (inRow (M.take k))):=Lib.hid (HX.out.later (below_alloc (Below.refl _ _) _))
   have HP1 : Hid (Blk (wr.alloc (.cells #[.int .i64 (f : Int), .int .i64 (t : Int)] 74 (0,0))) wr.heap.size 74 #[.int .i64 (f : Int), .int .i64 (t : Int)]):=Lib.hid (Blk.new wr _ _)
   go_upto_region 5 with fail
   generalize wr.alloc (.cells #[.int .i64 (f : Int), .int .i64 (t : Int)] 74 (0,0)) = w1 at *
   generalize wr.heap.size = bx at *
   clear HX HB c0 c1 hg
   have c0:=HP1.out.cell 0
   simp at c0
   go_upto_region 6 with fail
   clear c0
   go_wp2
   go_loopw [6] (fun kv wr => ∃ j : Nat,f ≤ j ∧ j ≤ t + 1 ∧ kv = .int .i64 j ∧ Hid (HasB wr b (fun i => inRow (M.take k) i || (decide (f ≤ i) && decide (i < j)))) ∧ Hid (Below b w wr) ∧ Hid (Blk wr bx 74 #[.int .i64 (f : Int), .int .i64 (t : Int)])) (fun kv _ => t + 1 - (intOf kv).toNat)
   case atStart => exact ⟨f,Nat.le_refl _,by omega,rfl,Lib.hid (HX1.out.eq fun i => by simp;intros;omega),HB1,HP1⟩
   case round =>
    obtain ⟨j,hj1,hj2,rfl,HX,HB,HP⟩:=hrel
    have c1:=HP.out.cell 1
    simp at c1
    by_cases hjt : j ≤ t
    ·have f0:=HX.out.frozen j
     have hc0:=HX.out.get j (by omega)
     go_wp2
     refine ⟨⟨j + 1,by omega,by omega,by go_num,Lib.hid ((HX.out.on j).eq fun i => ?_),Lib.hid (Below.setCell HB.out (Nat.le_refl _) _),Lib.hid (Blk.far HP.out (by omega) j _)⟩,by simp [intOf];omega⟩
     have e : (decide (f ≤ i) && decide (i < j) || decide (i = j)) = (decide (f ≤ i) && decide (i < j + 1)):=by rw [Bool.eq_iff_iff];simp;omega
     rw [Bool.or_assoc,e]
    ·obtain rfl : j = t + 1:=by omega
     go_wp2
     refine ⟨⟨k + 1,by omega,by go_num,Lib.hid (HX.out.eq fun i => ?_),HB⟩,by simp [intOf];omega⟩
     rw [inRow_succ M k (by rw [Hn.out];exact hlt),Hp.out]
     simp only [Nat.lt_succ_iff]
  ·obtain rfl : k = n:=by omega
   have HX2 : Hid (HasB wr b (inRow M)):=Lib.hid (by have:=HX.out;rwa [List.take_of_length_le (by rw [Hn.out];exact Nat.le_refl _)] at this)
   generalize hPM : inRow M = P at *
   have HPM:=Lib.hid hPM
   clear hPM
   clear HX
   have HB2:=HB
   clear HB
   go_wp2
   go_loopw [7,8,26,35,40] (fun s kv i q1 q2 wr => ∃ k : Nat,k ≤ N ∧ i = .int .i64 k ∧ Hid (OwnP wr (b + 1) s (PI (scan P k))) ∧ Hid (HasB wr b P) ∧ Hid (Below b w wr)) (fun _ _ i _ _ _ => N - (intOf i).toNat)
   case atStart => exact ⟨0,Nat.zero_le _,rfl,Lib.hid (OwnP.nil _ _),HX2,HB2⟩
   case round =>
    clear HX2 HB2 hlt
    obtain ⟨k,hk,rfl,HO,HX,HB⟩:=hrel
    have HL : Hid ((PI (scan P k)).length ≤ k):=Lib.hid (by rw [PI_len];exact scan_len P k)
    by_cases hlt : k < N
    ·have hk5 : (k : Int) < 65536:=by have:=HN.out;omega
     have ck:=HX.out.get k (by omega)
     cases hP : P k
     ·have Hs : Hid (scan P (k + 1) = scan P k):=Lib.hid (by rw [scan_succ,if_pos hP])
      rw [hP] at ck
      clear hP
      go_wp2
      exact ⟨⟨k + 1,by omega,by go_num,Lib.hid (by rw [Hs.out];exact HO.out),HX,HB⟩,by simp [intOf];omega⟩
     ·rw [hP] at ck
      rcases Nat.eq_zero_or_pos k with hk0 | hk0
      ·subst hk0
       have Hs : Hid (scan P (0 + 1) = scan P 0 ++ [(0,0)]):=Lib.hid (by rw [scan_succ,if_neg (by rw [hP];decide),if_neg (by omega)])
       clear hP
       go_wp2_with (at_builtin;refine wpList_app portE rfl (.tmp 29) (.tmp 33) rfl rfl (World.ownsRow.alloc HO.out _) rfl (src_two_new _ _ _ _) ?c1 ?c2 ?c3 ?c4 ?_)
       case c1 => intro u hu;simp at hu;rcases hu with rfl | rfl <;> rfl
       case c2 => have:=HL.out;unfold maxLen;omega
       case c3 => have:=HL.out;omega
       case c4 => have:=HX.out.lt;simp;omega
       intro v' w' hO hG
       have HO' : Hid (OwnP w' (b + 1) v' (PI (scan P (0 + 1)))):=Lib.hid (by
        rw [Hs.out,PI_append]
        exact OwnP.snoc hO)
       have hB2 : Below (b + 1) wr w':=(Below.alloc (Below.refl _ _) HX.out.lt _).trans (hG.below (by have:=HX.out.lt;simp;omega) (own_base HO.out))
       have HX' : Hid (HasB w' b P):=Lib.hid (HX.out.below hB2 (Nat.lt_succ_self _))
       have HB' : Hid (Below b w w'):=Lib.hid (HB.out.trans (hB2.mono (Nat.le_succ _)))
       clear hO hG hB2
       go_wp2
       exact ⟨⟨0 + 1,by omega,by go_num,HO',HX',HB'⟩,by simp [intOf];omega⟩
      ·obtain ⟨j,hj⟩ : ∃ j,k - 1 = j:=⟨_,rfl⟩
       have cj:=HX.out.get j (by omega)
       have hj5 : (j : Int) < 65537:=by omega
       have hj6 : (k : Int) > 0:=by omega
       have hj7 : (k : Int) - 1 = j:=by omega
       cases hQ : P j
       ·have Hs : Hid (scan P (k + 1) = scan P k ++ [(k,k)]):=Lib.hid (by rw [scan_succ,if_neg (by rw [hP];decide),if_neg (by rw [hj,hQ];simp)])
        rw [hQ] at cj
        clear hP hQ hj
        go_wp2_with (at_builtin;refine wpList_app portE rfl (.tmp 29) (.tmp 33) rfl rfl (World.ownsRow.alloc HO.out _) rfl (src_two_new _ _ _ _) ?c1 ?c2 ?c3 ?c4 ?_)
        case c1 => intro u hu;simp at hu;rcases hu with rfl | rfl <;> rfl
        case c2 => have:=HL.out;unfold maxLen;omega
        case c3 => have:=HL.out;omega
        case c4 => have:=HX.out.lt;simp;omega
        intro v' w' hO hG
        have HO' : Hid (OwnP w' (b + 1) v' (PI (scan P (k + 1)))):=Lib.hid (by
         rw [Hs.out,PI_append]
         exact OwnP.snoc hO)
        have hB2 : Below (b + 1) wr w':=(Below.alloc (Below.refl _ _) HX.out.lt _).trans (hG.below (by have:=HX.out.lt;simp;omega) (own_base HO.out))
        have HX' : Hid (HasB w' b P):=Lib.hid (HX.out.below hB2 (Nat.lt_succ_self _))
        have HB' : Hid (Below b w w'):=Lib.hid (HB.out.trans (hB2.mono (Nat.le_succ _)))
        clear hO hG hB2
        go_wp2
        exact ⟨⟨k + 1,by omega,by go_num,HO',HX',HB'⟩,by simp [intOf];omega⟩
       ·obtain ⟨B,f,hB⟩:=(scan_spec P k).2.2 hk0 (by rw [hj];exact hQ)
        have Hs : Hid (scan P (k + 1) = B ++ [(f,k)]):=Lib.hid (by rw [scan_succ,if_neg (by rw [hP];decide),if_pos ⟨hk0,by rw [hj];exact hQ⟩,hB,List.dropLast_concat,List.getLastD_eq_getLast?,List.getLast?_concat,Option.getD_some])
        rw [hQ] at cj
        have hmk : B.length + 1 ≤ k:=by have:=scan_len P k;rw [hB] at this;simpa using this
        have hO : OwnP wr (b + 1) u7 (PI B ++ [((f : Int),((k - 1 : Nat) : Int))]):=by have:=HO.out;rw [hB,PI_append] at this;exact this
        obtain ⟨g,c',hv,hg,hgl,hc1,hc2⟩:=hO.one (by simp)
        subst hv
        have hl1 : (PI B ++ [((f : Int),((k - 1 : Nat) : Int))]).length = B.length + 1:=by simp [PI]
        have HO2:=Lib.hid hO
        have f1:=hO.frozen (B.length * 2 + 1)
        obtain ⟨y,hy⟩ : ∃ y,wr.cell? ⟨g,B.length * 2 + 1,none⟩ = some (.int .i64 y):=⟨_,(hO.get B.length (by rw [hl1];omega)).2⟩
        have hset:=hO.setTo B.length (by rw [hl1];omega) (k : Int)
        rw [show (PI B ++ [((f : Int),((k - 1 : Nat) : Int))]).set B.length (((PI B ++ [((f : Int),((k - 1 : Nat) : Int))]).getD B.length (0,0)).1,(k : Int)) = PI (scan P (k + 1)) by
         rw [Hs.out,PI_append];simp [PI,List.getD]] at hset
        rw [hl1] at hset hc1 ⊢
        have HS:=Lib.hid hset
        clear hP hQ hB HO hO hset hj
        have hlen : ((B.length + 1 : Nat) : Int) - 1 = (B.length : Int):=by omega
        clear hl1 HO2
        generalize B.length = m at *
        go_upto_region 13 with fail
        go_upto_region 15 with fail
        go_upto_region 16 with fail
        go_upto_region 17 with fail
        have hm1 : (m : Int) < ((m + 1 : Nat) : Int):=by omega
        have hm2 : m < m + 1:=by omega
        generalize m + 1 = n1 at *
        clear hc2 Hs
        have hm3 : (n1 : Int) ≤ 65536:=by omega
        go_wp2_with fail
        exact ⟨⟨k + 1,by omega,by go_num,HS,Lib.hid (HX.out.below (B:=b + 1) (Below.setCell (Below.refl _ _) hg _) (Nat.lt_succ_self _)),Lib.hid (Below.setCell HB.out (by simp only;omega) _)⟩,by simp [intOf];omega⟩
    ·obtain rfl : k = N:=by omega
     have hk5 : (k : Int) = 65536:=by have:=HN.out;omega
     go_wp2
     go_ret
     refine ⟨_,rfl,?_,by have:=HB.out;rwa [← Hbw.out] at this⟩
     rw [HPM.out]
     exact OwnP.weak (base:=b + 1) (base':=w.heap.size) HO.out (by have:=Hbw.out;omega)
end Go.Proofs.YthebgfnaomgcnaaGreat
