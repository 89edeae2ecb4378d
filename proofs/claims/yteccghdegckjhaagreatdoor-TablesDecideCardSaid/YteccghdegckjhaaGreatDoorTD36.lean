/-
  Squeeze of the program: the entries that stay.
-/
import Derived.Test.YteccghdegckjhaaGreatDoorTD22
import Derived.Test.YteccghdegckjhaaGreatDoorTD17
import Derived.Test.YteccghdegckjhaaGreatDoorTD16
set_option linter.unusedVariables false
namespace Go.Proofs.YteccghdegckjhaaGreatDoor
open Go.RowKit Go
set_option linter.unusedVariables false

theorem insideP {p q : Pf} (w : World) (hp : OkPf p) (hq : OkPf q) : Calls Tryz.prog 53 #[.agg (pfC p).toArray, .agg (pfC q).toArray] w (Ret (.bool (decide (q.2.2.2 ≤ p.2.2.2) && inP q (nuP p))) w) := by
  have h := spanInside_any p.1 p.2.1 p.2.2.1 p.2.2.2.toNat q.1 q.2.1 q.2.2.1 q.2.2.2.toNat w hp.ok.1.1 hp.ok.1.2.1 hq.ok.2.1
  have e : insB p.1 p.2.1 p.2.2.1 p.2.2.2.toNat q.1 q.2.1 q.2.2.1 q.2.2.2.toNat = (decide (q.2.2.2 ≤ p.2.2.2) && inP q (nuP p)) := by
    unfold insB
    rw [← hold_eq hq.ok hp.ok.1]
    have h1 : decide (q.2.2.2.toNat ≤ p.2.2.2.toNat) = decide (q.2.2.2 ≤ p.2.2.2) := by
      have := hp.nn
      have := hq.nn
      rw [decide_eq_decide]
      omega
    rw [h1]
    congr 1
    unfold holdsB inP spP
    rw [fill_num hq.ok.1, LN_six, hq.num.2.1]
    rfl
  rw [e] at h
  have ec : ∀ {p : Pf}, OkPf p → (pfC p).toArray = #[.bool p.1, .int .u64 ((p.2.1 : Nat) : Int), .int .u64 ((p.2.2.1 : Nat) : Int), .int .i64 ((p.2.2.2.toNat : Nat) : Int)] := fun {p} hp => by
    unfold pfC
    rw [← hp.nn]
  rw [ec hp, ec hq]
  exact h
def foldS (T : List En) (x : En) (k : Nat) : List UInt8 × Int := (T.take k).foldl (sqStep x) ([], -1)
theorem foldS_step {T : List En} {x : En} {k : Nat} {e : En} (h : T[k]? = some e) : foldS T x (k + 1) = sqStep x (foldS T x k) e := by
  unfold foldS
  rw [List.take_add_one, h, List.foldl_append]
  rfl
theorem foldS_all (T : List En) (x : En) : foldS T x T.length = T.foldl (sqStep x) ([], -1) := by
  unfold foldS
  rw [List.take_length]
set_option maxRecDepth 100000 in
set_option maxHeartbeats 8000000 in
theorem aSqueeze_any (ad : Option Addr) (n c : Nat) (T : List En) (w : World) (h : RdK layEn w ad T) (hn : T.length = n) (hs : n ≤ 100000) (hu : UE T) :
    Calls Tryz.prog 20 #[.slice ad n c] w fun e w' => ∃ v, e = .returned (.tuple #[v, .int .i64 (tabF T)]) ∧ OwnK layEn w' w.heap.size v (if tabF T = 0 then sqL T else []) ∧ Below w.heap.size w w' := by
  have HC := Lib.hid (checkTable_any ad n c T w h hn hs hu)
  have H0 := Lib.hid h
  have Hn := Lib.hid hn
  have HOk : Hid (tabF T = 0 → OkT T) := Lib.hid fun e => (tabF_ok e hu).1
  have HIn := Lib.hid fun (p q : Pf) wx (hp : OkPf p) (hq : OkPf q) => insideP wx hp hq
  have HFl := Lib.hid fun k x (hx : T[k]? = some x) => filt_take (sqB T) T k x hx
  have HF0 : Hid ((T.take 0).filter (sqB T) = []) := Lib.hid (by simp)
  have HFn : Hid ((T.take n).filter (sqB T) = sqL T) := Lib.hid (by rw [← hn, List.take_length]; rfl)
  have HFlen : Hid (∀ k, ((T.take k).filter (sqB T)).length ≤ n) := Lib.hid fun k => by
    have h1 := List.length_filter_le (sqB T) (T.take k)
    have h2 := List.length_take_le k T
    rw [List.length_take] at h1
    omega
  have HSt := Lib.hid fun (x : En) (k : Nat) (e : En) (h : T[k]? = some e) => foldS_step (x := x) h
  have HSe : Hid (∀ x s y, sqStep x s y = if y.1.2.2.2 < x.1.2.2.2 ∧ s.2 < y.1.2.2.2 ∧ inP y.1 (nuP x.1) = true then (y.2, y.1.2.2.2) else s) := Lib.hid fun x s y => rfl
  have HS0 : Hid (∀ x, foldS T x 0 = ([], -1)) := Lib.hid fun x => rfl
  have HSn : Hid (∀ x, sqB T x = decide ((foldS T x n).1 ≠ x.2)) := Lib.hid fun x => by rw [← hn, foldS_all, sqB_pass]
  clear h hn
  generalize hTF : tabF T = F at *
  clear hTF hu
  have HR0 : Hid (F = 0 → (if F = 0 then sqL T else []) = sqL T) := Lib.hid fun h => if_pos h
  have HR1 : Hid (F ≠ 0 → (if F = 0 then sqL T else []) = []) := Lib.hid fun h => if_neg h
  generalize (if F = 0 then sqL T else []) = RL at *
  generalize sqL T = SL at *
  generalize sqB T = q at *
  generalize hfs : foldS T = fs at *
  clear hfs
  obtain ⟨stp, hstp⟩ : ∃ q, sqStep = q := ⟨_, rfl⟩
  rw [hstp] at HSe HSt
  clear hstp
  go_enter Tryz.func20, Tryz.ntmps20
  go_wp2_with fail
  refine HC.out.mono ?_
  rintro e w1 ⟨rfl, hb⟩
  have HB1 := Lib.hid hb
  clear hb HC
  by_cases hF : F = 0
  · have HOkT := Lib.hid (HOk.out hF)
    subst hF
    have hRL : RL = SL := HR0.out rfl
    subst hRL
    clear HOk HR0 HR1
    go_wp2_with fail
    go_loopw [5, 7, 8, 9, 11, 19, 23, 24, 25] (fun v s7 s8 s9 s11 i s23 s24 s25 wr => ∃ (k : Nat) (V : Value), k ≤ n ∧ i = .int .i64 (k : Int) ∧ V = v ∧ Hid (OwnK layEn wr w.heap.size V ((T.take k).filter q)) ∧ Hid (Below w.heap.size w wr)) (fun _ _ _ _ _ i _ _ _ _ => n - (intOf i).toNat)
    case atStart => exact ⟨0, _, Nat.zero_le _, rfl, rfl, Lib.hid (by rw [HF0.out]; exact OwnK.nil _ _ _), HB1⟩
    case round =>
      clear HB1
      obtain ⟨k, v, hk, rfl, rfl, HO, HB⟩ := hrel
      by_cases hlt : k < n
      · have hS : k < T.length := by rw [Hn.out]; exact hlt
        obtain ⟨x, hx⟩ : ∃ x, T[k]? = some x := ⟨_, List.getElem?_eq_getElem hS⟩
        have HxO := Lib.hid (HOkT.out x (List.mem_of_getElem? hx)).1
        have HFk := Lib.hid (HFl.out k x hx)
        have HSx := Lib.hid (HSt.out x)
        have HSex := Lib.hid (HSe.out x)
        have HS0x := Lib.hid (HS0.out x)
        have HSnx := Lib.hid (HSn.out x)
        have HR := Lib.hid (H0.out.below HB.out)
        have HLen := Lib.hid (HFlen.out k)
        have HInx := Lib.hid fun p wx hp => HIn.out x.1 p wx HxO.out hp
        have hXb := okPf_bits HxO.out
        generalize hfx : fs x = fx at *
        generalize hsx : stp x = sx at *
        clear hfx hsx
        obtain ⟨inx, hinx⟩ : ∃ q, (fun p => inP p (nuP x.1)) = q := ⟨_, rfl⟩
        have hix : ∀ p, inP p (nuP x.1) = inx p := fun p => congrFun hinx p
        simp only [hix] at HInx HSex
        clear hinx hix
        obtain ⟨⟨a1, a2, a3, a4⟩, kx⟩ := x
        simp only at HSex HSnx HInx hXb
        rw [show (pfC (a1, a2, a3, a4)).toArray = #[.bool a1, .int .u64 (a2 : Int), .int .u64 (a3 : Int), .int .i64 a4] from rfl] at HInx
        obtain ⟨g, o, had, hg, c0, c1, c2, c3, c4⟩ := HR.out.en hx
        subst had
        have HXb := Lib.hid hXb
        have Hx := Lib.hid hx
        generalize hK : strL kx = KX at *
        have HKx := Lib.hid hK
        have HXx : Hid ((layEn.enc ((a1, a2, a3, a4), kx)).toArray = #[.bool a1, .int .u64 (a2 : Int), .int .u64 (a3 : Int), .int .i64 a4, .string KX]) := Lib.hid (by rw [← hK]; rfl)
        clear hx hS hg hXb hK HxO
        have HP : Hid (Blk (wr.alloc (.cells #[.bool a1, .int .u64 (a2 : Int), .int .u64 (a3 : Int), .int .i64 a4, .string KX] 48 (0, 0))) wr.heap.size 48 #[.bool a1, .int .u64 (a2 : Int), .int .u64 (a3 : Int), .int .i64 a4, .string KX]) := Lib.hid (Blk.new wr _ _)
        have HO1 := Lib.hid (HO.out.alloc (.cells #[.bool a1, .int .u64 (a2 : Int), .int .u64 (a3 : Int), .int .i64 a4, .string KX] 48 (0, 0)))
        have HB1 : Hid (Below w.heap.size w (wr.alloc (.cells #[.bool a1, .int .u64 (a2 : Int), .int .u64 (a3 : Int), .int .i64 a4, .string KX] 48 (0, 0)))) := Lib.hid (Below.alloc HB.out HB.out.size _)
        go_upto_region 8 with fail
        generalize wr.alloc (.cells #[.bool a1, .int .u64 (a2 : Int), .int .u64 (a3 : Int), .int .i64 a4, .string KX] 48 (0, 0)) = w3 at *
        generalize wr.heap.size = bx at *
        clear HB HO c0 c1 c2 c3 c4 HR
        go_wp2_with fail
        go_loopw [8, 9, 11, 25] (fun sv mv s11 i wr => ∃ (j : Nat), j ≤ n ∧ i = .int .i64 (j : Int) ∧ sv = .string (strL (fx j).1) ∧ mv = .int .i64 (fx j).2 ∧ Hid (OwnK layEn wr w.heap.size v ((T.take k).filter q)) ∧ Hid (Blk wr bx 48 #[.bool a1, .int .u64 (a2 : Int), .int .u64 (a3 : Int), .int .i64 a4, .string KX]) ∧ Hid (Below w.heap.size w wr)) (fun _ _ _ i _ => n - (intOf i).toNat)
        case atStart => exact ⟨0, Nat.zero_le _, rfl, by rw [HS0x.out]; rfl, by rw [HS0x.out], HO1, HP, HB1⟩
        case round =>
          clear HO1 HP HB1
          obtain ⟨j, hj, rfl, rfl, rfl, HO, HP, HB⟩ := hrel
          by_cases hlt2 : j < n
          · have hS : j < T.length := by rw [Hn.out]; exact hlt2
            obtain ⟨y, hy⟩ : ∃ y, T[j]? = some y := ⟨_, List.getElem?_eq_getElem hS⟩
            have HyO := Lib.hid (HOkT.out y (List.mem_of_getElem? hy)).1
            have HE : Hid (fx (j + 1) = if y.1.2.2.2 < a4 ∧ (fx j).2 < y.1.2.2.2 ∧ inx y.1 = true then (y.2, y.1.2.2.2) else fx j) := Lib.hid ((HSx.out j y hy).trans (HSex.out _ _))
            have HR := Lib.hid (H0.out.below HB.out)
            have HIy := Lib.hid fun wx => HInx.out y.1 wx HyO.out
            obtain ⟨s, hs2⟩ : ∃ s, fx j = s := ⟨_, rfl⟩
            rw [hs2] at HE ⊢
            clear hs2
            obtain ⟨st, m⟩ := s
            obtain ⟨⟨b1, b2, b3, b4⟩, kz⟩ := y
            simp only at HE HIy
            rw [show (pfC (b1, b2, b3, b4)).toArray = #[.bool b1, .int .u64 (b2 : Int), .int .u64 (b3 : Int), .int .i64 b4] from rfl] at HIy
            obtain ⟨g, o, had, hg, c0, c1, c2, c3, c4⟩ := HR.out.en hy
            injection had with had
            injection had with had1 had2
            subst had1 had2
            generalize inx (b1, b2, b3, b4) = ib at *
            generalize hK : strL kz = KY at *
            have HKy := Lib.hid hK
            generalize hST : strL st = ST at *
            have HSTy := Lib.hid hST
            clear hy hS hg hK hST HyO HR
            have HQ : Hid (Blk (wr.alloc (.cells #[.bool b1, .int .u64 (b2 : Int), .int .u64 (b3 : Int), .int .i64 b4, .string KY] 48 (0, 0))) wr.heap.size 48 #[.bool b1, .int .u64 (b2 : Int), .int .u64 (b3 : Int), .int .i64 b4, .string KY]) := Lib.hid (Blk.new wr _ _)
            have HO1 := Lib.hid (HO.out.alloc (.cells #[.bool b1, .int .u64 (b2 : Int), .int .u64 (b3 : Int), .int .i64 b4, .string KY] 48 (0, 0)))
            have HP1 := Lib.hid (HP.out.alloc (.cells #[.bool b1, .int .u64 (b2 : Int), .int .u64 (b3 : Int), .int .i64 b4, .string KY] 48 (0, 0)))
            have HB1 : Hid (Below w.heap.size w (wr.alloc (.cells #[.bool b1, .int .u64 (b2 : Int), .int .u64 (b3 : Int), .int .i64 b4, .string KY] 48 (0, 0)))) := Lib.hid (Below.alloc HB.out HB.out.size _)
            go_upto_region 12 with fail
            generalize wr.alloc (.cells #[.bool b1, .int .u64 (b2 : Int), .int .u64 (b3 : Int), .int .i64 b4, .string KY] 48 (0, 0)) = w4 at *
            generalize wr.heap.size = by_ at *
            clear HB HO HP c0 c1 c2 c3 c4
            have d0 := HP1.out.cell 0
            have d1 := HP1.out.cell 1
            have d2 := HP1.out.cell 2
            have d3 := HP1.out.cell 3
            simp at d0 d1 d2 d3
            have f0 := HQ.out.cell 0
            have f1 := HQ.out.cell 1
            have f2 := HQ.out.cell 2
            have f3 := HQ.out.cell 3
            have f4 := HQ.out.cell 4
            simp at f0 f1 f2 f3 f4
            have hneg : ∀ {P : Prop}, ¬ (b4 < a4 ∧ m < b4 ∧ ib = true) → Hid (fx (j + 1) = (st, m)) := fun {P} h => Lib.hid (HE.out.trans (if_neg h))
            by_cases h1 : b4 < a4
            · by_cases h2 : m < b4
              · have h2' : b4 > m := h2
                have h1' : b4 ≤ a4 := by omega
                rw [decide_eq_true h1', Bool.true_and] at HIy
                go_wp2_with fail
                refine (HIy.out _).mono ?_
                rintro e2 w5 ⟨rfl, hb⟩
                have HB5 := Lib.hid (HB1.out.trans (hb.mono HB1.out.size))
                have HP5 := Lib.hid (HP1.out.below hb HP1.out.lt)
                have HQ5 := Lib.hid (HQ.out.below hb HQ.out.lt)
                have HO5 := Lib.hid (HO1.out.later hb)
                clear hb HB1 HP1 HQ HO1 HIy d0 d1 d2 d3 f0 f1 f2 f3 f4
                cases ib
                · have HE2 := hneg (P := True) fun h => by cases h.2.2
                  clear HE hneg
                  go_wp2_with fail
                  exact ⟨⟨j + 1, by omega, by go_num, by rw [HE2.out, HSTy.out], by rw [HE2.out], HO5, HP5, HB5⟩, by simp [intOf]; omega⟩
                · have HE2 : Hid (fx (j + 1) = (kz, b4)) := Lib.hid (HE.out.trans (if_pos ⟨h1, h2, rfl⟩))
                  clear HE hneg
                  have f3 := HQ5.out.cell 3
                  have f4 := HQ5.out.cell 4
                  simp at f3 f4
                  have l3 := Later.cell_of f3
                  have l4 := Later.cell_of f4
                  go_upto_region 13 with fail
                  refine wp_region_later (by kernel_rfl) (by kernel_rfl) ?_
                  repeat (go_big_quiet_step (fail))
                  refine wpQuiet_nil ?_
                  rintro w6 ⟨n5, hn5⟩
                  have hb : Below w5.heap.size w5 w6 := by rw [hn5]; exact n5.2
                  clear hn5 n5 l3 l4 f3 f4
                  have HB6 := Lib.hid (HB5.out.trans (hb.mono HB5.out.size))
                  have HP6 := Lib.hid (HP5.out.below hb HP5.out.lt)
                  have HO6 := Lib.hid (HO5.out.later hb)
                  clear hb HB5 HP5 HO5 HQ5
                  go_wp2_with fail
                  exact ⟨⟨j + 1, by omega, by go_num, by rw [HE2.out, HKy.out], by rw [HE2.out], HO6, HP6, HB6⟩, by simp [intOf]; omega⟩
              · have HE2 := hneg (P := True) fun h => h2 h.2.1
                have h2' : ¬ b4 > m := h2
                clear HE hneg HIy
                go_wp2_with fail
                exact ⟨⟨j + 1, by omega, by go_num, by rw [HE2.out, HSTy.out], by rw [HE2.out], HO1, HP1, HB1⟩, by simp [intOf]; omega⟩
            · have HE2 := hneg (P := True) fun h => h1 h.1
              clear HE hneg HIy
              go_wp2_with fail
              exact ⟨⟨j + 1, by omega, by go_num, by rw [HE2.out, HSTy.out], by rw [HE2.out], HO1, HP1, HB1⟩, by simp [intOf]; omega⟩
          · obtain rfl : j = n := by omega
            obtain ⟨s, hs2⟩ : ∃ s, fx j = s := ⟨_, rfl⟩
            rw [hs2] at HSnx ⊢
            clear hs2
            obtain ⟨st, m⟩ := s
            simp only at HSnx
            generalize hST : strL st = ST at *
            have hcmp : (ST.toList == KX.toList) = decide (st = kx) := by
              rw [← hST, ← HKx.out]
              have h1 : ∀ l : List UInt8, (strL l).toList = l := fun l => by rw [ByteArray.toList_eq]; rfl
              rw [h1, h1]
              by_cases e : st = kx
              · rw [decide_eq_true e, e]; exact beq_self_eq_true _
              · rw [decide_eq_false e]; exact beq_eq_false_iff_ne.2 e
            clear hST
            have d0 := HP.out.cell 0
            have d1 := HP.out.cell 1
            have d2 := HP.out.cell 2
            have d3 := HP.out.cell 3
            have d4 := HP.out.cell 4
            simp at d0 d1 d2 d3 d4
            by_cases he : st = kx
            · have hq : q ((a1, a2, a3, a4), kx) = false := by rw [HSnx.out]; simp [he]
              have HF2 : Hid ((T.take (k + 1)).filter q = (T.take k).filter q) := Lib.hid (by rw [HFk.out, if_neg (by rw [hq]; decide), List.append_nil])
              rw [decide_eq_true he] at hcmp
              have hcmp2 : ST.toList = KX.toList := by simpa using hcmp
              clear hq HFk HSnx
              go_wp2_with fail
              exact ⟨⟨k + 1, _, by omega, by go_num, rfl, by rw [HF2.out]; exact HO, HB⟩, by simp [intOf]; omega⟩
            · have hq : q ((a1, a2, a3, a4), kx) = true := by rw [HSnx.out]; simp [he]
              have HF2 : Hid ((T.take (k + 1)).filter q = (T.take k).filter q ++ [((a1, a2, a3, a4), kx)]) := Lib.hid (by rw [HFk.out, if_pos hq])
              rw [decide_eq_false he] at hcmp
              have hcmp2 : ¬ ST.toList = KX.toList := by
                intro h
                rw [h] at hcmp
                simp at hcmp
              clear hq HFk HSnx
              generalize hLL : (T.take k).filter q = LL at *
              clear hLL
              go_wp2_with (at_builtin; refine wpList_app enE rfl (.tmp 60) (.tmp 62) rfl rfl (World.ownsRow.alloc HO.out _) rfl (src_new layEn _ ((a1, a2, a3, a4), kx) _ _ ?c0) ?c1 ?c2 ?c3 ?c4 ?_)
              case c0 => exact HXx.out.symm
              case c1 => exact layEn.one _
              case c2 => unfold maxLen; have := HLen.out; omega
              case c3 => have := HLen.out; omega
              case c4 => have := HB.out.size; simp; omega
              intro v' w7 hO hG
              have HO7 : Hid (OwnK layEn w7 w.heap.size v' (LL ++ [((a1, a2, a3, a4), kx)])) := Lib.hid (OwnK.snoc hO)
              have HB7 : Hid (Below w.heap.size w w7) := Lib.hid ((Below.alloc HB.out HB.out.size _).trans (hG.below (by have := HB.out.size; simp; omega) (own_base HO.out)))
              clear hO hG HO HB
              go_wp2_with fail
              exact ⟨⟨k + 1, _, by omega, by go_num, rfl, by rw [HF2.out]; exact HO7, HB7⟩, by simp [intOf]; omega⟩
      · obtain rfl : k = n := by omega
        have HOe : Hid (OwnK layEn wr w.heap.size v RL) := Lib.hid (by first | (rw [← HFn.out]; exact HO.out) | (have h := HFn.out; have h2 := HO.out; rw [h] at h2; exact h2))
        go_wp2_with fail
        go_ret2
        exact ⟨_, rfl, HOe.out, HB.out⟩
  · have hF2 : (F != 0) = true := by simpa using hF
    have hRL : RL = [] := HR1.out hF
    subst hRL
    clear HR0 HR1 HOk HFl HSt HSe HS0 HSn
    go_wp2_with fail
    go_ret2
    exact ⟨_, rfl, OwnK.nil _ _ _, HB1.out⟩
end Go.Proofs.YteccghdegckjhaaGreatDoor
