/-
  What a table says of an address: lookup of the program, LookupOf of the reference.
-/
import Derived.Test.YteccghdegckjhaaGreatDoorTD12
set_option linter.unusedVariables false
namespace Go.Proofs.YteccghdegckjhaaGreatDoor
open Go.RowKit Go
set_option linter.unusedVariables false

theorem containsP {p : Pf} {x : Nat} (w : World) (hp : OkPf p) (hx : VN x) : Calls Tryz.prog 95 #[.agg (pfC p).toArray, .agg (aN x)] w (Ret (.bool (inP p x)) w) := by
  have h := spanContains_any p.1 p.2.1 p.2.2.1 p.2.2.2.toNat (sixN x) (hiN x) (loN x) w (hiN_u x) (loN_u x) hp.ok.2.1
  have e : conB p.1 p.2.1 p.2.2.1 p.2.2.2.toNat (sixN x) (hiN x) (loN x) = inP p x := by
    rw [← hold_eq hp.ok (ok_aN hx)]
    unfold holdsB inP spP
    rw [num_aN hx, fill_num hp.ok.1, LN_six, hp.num.2.1]
    rfl
  rw [e] at h
  have ec : (pfC p).toArray = #[.bool p.1, .int .u64 ((p.2.1 : Nat) : Int), .int .u64 ((p.2.2.1 : Nat) : Int), .int .i64 ((p.2.2.2.toNat : Nat) : Int)] := by
    unfold pfC
    rw [← hp.nn]
  rw [ec]
  exact h
def foldK (L : List En) (x : Nat) (k : Nat) : List UInt8 × Int := (L.take k).foldl (lkStep x) ([], -1)
theorem foldK_step {L : List En} {x k : Nat} {e : En} (h : L[k]? = some e) : foldK L x (k + 1) = lkStep x (foldK L x k) e := by
  unfold foldK
  rw [List.take_add_one, h, List.foldl_append]
  rfl
theorem foldK_all (L : List En) (x : Nat) : (foldK L x L.length).1 = lkP L x := by
  unfold foldK lkP
  rw [List.take_length]
theorem foldK_bd {L : List En} (h : OkT L) (x : Nat) : ∀ k, -1 ≤ (foldK L x k).2 ∧ (foldK L x k).2 ≤ 128 := by
  have key : ∀ (T : List En), (∀ e ∈ T, OkPf e.1) → ∀ s : List UInt8 × Int, (-1 ≤ s.2 ∧ s.2 ≤ 128) → -1 ≤ (T.foldl (lkStep x) s).2 ∧ (T.foldl (lkStep x) s).2 ≤ 128 := by
    intro T
    induction T with
    | nil => intro _ s hs; exact hs
    | cons e T ih =>
      intro hT s hs
      rw [List.foldl_cons]
      refine ih (fun f hf => hT f (List.mem_cons_of_mem _ hf)) _ ?_
      unfold lkStep
      by_cases hc : s.2 < e.1.2.2.2 ∧ inP e.1 x = true
      · rw [if_pos hc]
        obtain ⟨n, hn, hl⟩ := okPf_bits (hT e (List.mem_cons_self ..))
        exact ⟨by show -1 ≤ e.1.2.2.2; omega, by show e.1.2.2.2 ≤ 128; omega⟩
      · rw [if_neg hc]; exact hs
  intro k
  exact key _ (fun e he => (h e (List.mem_of_mem_take he)).1) _ ⟨by decide, by decide⟩
set_option maxRecDepth 100000 in
set_option maxHeartbeats 8000000 in
theorem alookup_any (ad : Option Addr) (n c : Nat) (L : List En) (x : Nat) (w : World) (h : RdK layEn w ad L) (hn : L.length = n) (hs : n ≤ 100000) (hk : OkT L) (hx : VN x) :
    Calls Tryz.prog 52 #[.slice ad n c, .agg (aN x)] w (Ret (.string (strL (lkP L x))) w) := by
  have H0 := Lib.hid h
  have Hn := Lib.hid hn
  have Hk := Lib.hid hk
  have HBd := Lib.hid (foldK_bd hk x)
  have HC := Lib.hid fun (p : Pf) wx (hp : OkPf p) => containsP wx hp hx
  have HEnd : Hid ((foldK L x n).1 = lkP L x) := Lib.hid (by rw [← hn]; exact foldK_all L x)
  have HSt := Lib.hid fun (k : Nat) (e : En) (h : L[k]? = some e) => foldK_step (x := x) h
  have HS0 : Hid (foldK L x 0 = ([], -1)) := Lib.hid rfl
  have HLs : Hid (∀ s e, lkStep x s e = if s.2 < e.1.2.2.2 ∧ inP e.1 x = true then (e.2, e.1.2.2.2) else s) := Lib.hid fun s e => rfl
  clear h hn hk hx
  unfold aN at HC ⊢
  generalize lkP L x = LK at *
  generalize hfk : foldK L x = fk at *
  clear hfk
  obtain ⟨stp, hstp⟩ : ∃ q, lkStep x = q := ⟨_, rfl⟩
  rw [hstp] at HSt HLs
  obtain ⟨inx, hinx⟩ : ∃ q, (fun p => inP p x) = q := ⟨_, rfl⟩
  have hix : ∀ p, inP p x = inx p := fun p => congrFun hinx p
  simp only [hix] at HC HLs
  clear hstp hinx hix
  generalize sixN x = x1 at *
  generalize hiN x = x2 at *
  generalize loN x = x3 at *
  have HX : Hid (Blk (w.alloc (.cells #[.bool x1, .int .u64 (x2 : Int), .int .u64 (x3 : Int)] 28 (0, 0))) w.heap.size 28 #[.bool x1, .int .u64 (x2 : Int), .int .u64 (x3 : Int)]) := Lib.hid (Blk.new w _ _)
  have HB : Hid (Below w.heap.size w (w.alloc (.cells #[.bool x1, .int .u64 (x2 : Int), .int .u64 (x3 : Int)] 28 (0, 0)))) := Lib.hid (below_alloc (Below.refl _ _) _)
  have H1 := Lib.hid (H0.out.below (below_alloc (Below.refl _ _) (.cells #[.bool x1, .int .u64 (x2 : Int), .int .u64 (x3 : Int)] 28 (0, 0))))
  clear H0
  go_enter Tryz.func52, Tryz.ntmps52
  go_upto_region 1 with fail
  generalize w.alloc (.cells #[.bool x1, .int .u64 (x2 : Int), .int .u64 (x3 : Int)] 28 (0, 0)) = w1 at *
  obtain ⟨xb, hxb⟩ : ∃ q, w.heap.size = q := ⟨_, rfl⟩
  have Hxb := Lib.hid hxb
  rw [hxb] at HX HB ⊢
  clear hxb
  have hxl : xb ≤ w1.heap.size := Nat.le_of_lt HX.out.lt
  go_wp2_with fail
  go_loopw [5, 6, 8, 11] (fun sv mv bv i wr => ∃ (k : Nat), k ≤ n ∧ i = .int .i64 k ∧ sv = .string (strL (fk k).1) ∧ mv = .int .i64 (fk k).2 ∧ Hid (Below w1.heap.size w1 wr)) (fun _ _ _ i _ => n - (intOf i).toNat)
  case atStart => exact ⟨0, Nat.zero_le _, rfl, by rw [HS0.out]; rfl, by rw [HS0.out], Lib.hid (Below.refl _ _)⟩
  case round =>
    obtain ⟨k, hk, rfl, rfl, rfl, HBr⟩ := hrel
    by_cases hlt : k < n
    · have hS : k < L.length := by rw [Hn.out]; exact hlt
      obtain ⟨e, hp⟩ : ∃ e, L[k]? = some e := ⟨_, List.getElem?_eq_getElem hS⟩
      have HOk := Lib.hid (Hk.out e (List.mem_of_getElem? hp)).1
      have HE : Hid (fk (k + 1) = if (fk k).2 < e.1.2.2.2 ∧ inx e.1 = true then (e.2, e.1.2.2.2) else fk k) := Lib.hid ((HSt.out k e hp).trans (HLs.out _ _))
      have hbd := HBd.out k
      have HXr := Lib.hid (HX.out.below HBr.out HX.out.lt)
      have HRx := Lib.hid (H1.out.below HBr.out)
      have HBx := Lib.hid (HB.out.trans (HBr.out.mono hxl))
      have hxr : xb < wr.heap.size := HXr.out.lt
      obtain ⟨s, hs2⟩ : ∃ s, fk k = s := ⟨_, rfl⟩
      rw [hs2] at HE hbd ⊢
      have Hs := Lib.hid hs2
      clear hs2
      obtain ⟨st, m⟩ := s
      obtain ⟨⟨a1, a2, a3, a4⟩, ky⟩ := e
      simp only at HE hbd HOk
      obtain ⟨g, o, had, hg, c0, c1, c2, c3, c4⟩ := HRx.out.en hp
      subst had
      have HCx := Lib.hid fun wx => HC.out (a1, a2, a3, a4) wx HOk.out
      rw [show (pfC (a1, a2, a3, a4)).toArray = #[.bool a1, .int .u64 (a2 : Int), .int .u64 (a3 : Int), .int .i64 a4] from rfl] at HCx
      clear hp hS hg HOk HRx
      generalize inx (a1, a2, a3, a4) = ib at *
      generalize hK : strL ky = K at *
      have HKy := Lib.hid hK
      clear hK
      generalize hST : strL st = ST at *
      have HSTy := Lib.hid hST
      clear hST
      have HP1 : Hid (Blk (wr.alloc (.cells #[.bool a1, .int .u64 (a2 : Int), .int .u64 (a3 : Int), .int .i64 a4, .string K] 48 (0, 0))) wr.heap.size 48 #[.bool a1, .int .u64 (a2 : Int), .int .u64 (a3 : Int), .int .i64 a4, .string K]) := Lib.hid (Blk.new wr _ _)
      have HX1 := Lib.hid (HXr.out.alloc (.cells #[.bool a1, .int .u64 (a2 : Int), .int .u64 (a3 : Int), .int .i64 a4, .string K] 48 (0, 0)))
      have HB1 : Hid (Below w1.heap.size w1 (wr.alloc (.cells #[.bool a1, .int .u64 (a2 : Int), .int .u64 (a3 : Int), .int .i64 a4, .string K] 48 (0, 0)))) := Lib.hid (Below.alloc HBr.out HBr.out.size _)
      clear HXr HBx
      go_upto_region 5 with fail
      generalize wr.alloc (.cells #[.bool a1, .int .u64 (a2 : Int), .int .u64 (a3 : Int), .int .i64 a4, .string K] 48 (0, 0)) = w3 at *
      generalize wr.heap.size = bx at *
      clear HBr c0 c1 c2 c3 c4
      have d0 := HP1.out.cell 0
      have d1 := HP1.out.cell 1
      have d2 := HP1.out.cell 2
      have d3 := HP1.out.cell 3
      have d4 := HP1.out.cell 4
      simp at d0 d1 d2 d3 d4
      have f0 := HX1.out.cell 0
      have f1 := HX1.out.cell 1
      have f2 := HX1.out.cell 2
      simp at f0 f1 f2
      by_cases hm : m < a4
      · have hmi : decide (m < a4) = true := decide_eq_true hm
        go_wp2_with fail
        refine (HCx.out _).mono ?_
        rintro e2 w4 ⟨rfl, hb⟩
        have HB4 := Lib.hid (HB1.out.trans (hb.mono HB1.out.size))
        have HP4 := Lib.hid (HP1.out.below hb HP1.out.lt)
        clear hb HB1 HP1 HX1 HCx d0 d1 d2 d3 d4 f0 f1 f2
        cases ib
        · have HE2 : Hid (fk (k + 1) = (st, m)) := Lib.hid (HE.out.trans (if_neg fun h => by cases h.2))
          clear HE HP4
          go_wp2_with fail
          exact ⟨⟨k + 1, by omega, by go_num, by rw [HE2.out, HSTy.out], by rw [HE2.out], HB4⟩, by simp [intOf]; omega⟩
        · have HE2 : Hid (fk (k + 1) = (ky, a4)) := Lib.hid (HE.out.trans (if_pos ⟨hm, rfl⟩))
          clear HE
          have d0 := HP4.out.cell 0
          have d1 := HP4.out.cell 1
          have d2 := HP4.out.cell 2
          have d3 := HP4.out.cell 3
          have d4 := HP4.out.cell 4
          simp at d0 d1 d2 d3 d4
          have l3 := Later.cell_of d3
          have l4 := Later.cell_of d4
          go_upto_region 6 with fail
          refine wp_region_later (by kernel_rfl) (by kernel_rfl) ?_
          repeat (go_big_quiet_step (fail))
          refine wpQuiet_nil ?_
          rintro w6 ⟨n5, hn5⟩
          have hb : Below w4.heap.size w4 w6 := by rw [hn5]; exact n5.2
          clear hn5 n5 l3 l4 d0 d1 d2 d3 d4
          have HB6 := Lib.hid (HB4.out.trans (hb.mono HB4.out.size))
          clear hb HB4 HP4
          go_wp2_with fail
          exact ⟨⟨k + 1, by omega, by go_num, by rw [HE2.out, HKy.out], by rw [HE2.out], HB6⟩, by simp [intOf]; omega⟩
      · have HE2 : Hid (fk (k + 1) = (st, m)) := Lib.hid (HE.out.trans (if_neg fun h => hm h.1))
        have hmi : decide (m < a4) = false := decide_eq_false hm
        have hmi2 : ¬ a4 > m := hm
        clear HE HCx
        go_wp2_with fail
        exact ⟨⟨k + 1, by omega, by go_num, by rw [HE2.out, HSTy.out], by rw [HE2.out], HB1⟩, by simp [intOf]; omega⟩
    · obtain rfl : k = n := by omega
      have hE := HEnd.out
      have HBx := Lib.hid (HB.out.trans (HBr.out.mono hxl))
      go_wp2_with fail
      go_ret
      exact ⟨by rw [← hE]; rfl, by rw [Hxb.out]; exact HBx.out⟩
theorem find_at {α : Type} {p : α → Bool} : ∀ {L : List α} {k : Nat} {e : α}, L[k]? = some e → p e = true → (∀ (j : Nat) (y : α), j < k → L[j]? = some y → p y = false) → L.find? p = some e
  | [], k, e, h, _, _ => by simp at h
  | y :: L, 0, e, h, hp, _ => by
    simp at h
    subst h
    exact List.find?_cons_of_pos hp
  | y :: L, k + 1, e, h, hp, hn => by
    rw [List.find?_cons_of_neg (by rw [hn 0 y (Nat.succ_pos _) rfl]; decide)]
    exact find_at (by simpa using h) hp fun j z hj hz => hn (j + 1) z (by omega) (by simpa using hz)
theorem find_no {α : Type} {p : α → Bool} {L : List α} (hn : ∀ (j : Nat) (y : α), j < L.length → L[j]? = some y → p y = false) : L.find? p = none := by
  rw [List.find?_eq_none]
  intro y hy
  obtain ⟨j, hj, rfl⟩ := List.getElem_of_mem hy
  rw [hn j _ hj (List.getElem?_eq_getElem hj)]
  decide
def lkR (T : List En) (x : Nat) : Nat → Option En
  | 0 => none
  | j + 1 => match lkAt T x j with
    | some e => some e
    | none => lkR T x j
theorem lkQ_lkR (T : List En) (x : Nat) : ∀ b, lkQ T x b = lkR T x (b + 1)
  | 0 => by
    show lkAt T x 0 = _
    rw [lkR]
    cases lkAt T x 0 <;> rfl
  | b + 1 => by
    rw [lkQ, lkR, lkQ_lkR T x b]
    cases lkAt T x (b + 1) <;> rfl
def lqV : Option En → Value
  | some e => .tuple #[.string (strL e.2), .bool true]
  | none => .tuple #[.string ⟨#[]⟩, .bool false]
set_option maxRecDepth 100000 in
set_option maxHeartbeats 8000000 in
theorem lookupOf_any (ad : Option Addr) (n c : Nat) (L : List En) (x : Nat) (w : World) (h : RdK layEn w ad L) (hn : L.length = n) (hs : n ≤ 100000) (hk : OkT L) (hx : VN x) :
    Calls Tryz.prog 26 #[.slice ad n c, .agg (aN x)] w (Ret (lqV (lkQ L x 128)) w) := by
  have H0 := Lib.hid h
  have Hn := Lib.hid hn
  have Hk := Lib.hid hk
  have HC := Lib.hid fun (p : Pf) wx (hp : OkPf p) => holdsN wx hp hx
  have HAt : Hid (∀ (b k : Nat) (e : En), L[k]? = some e → (decide (e.1.2.2.2 = (b : Int)) && inP e.1 x) = true → (∀ (j : Nat) (y : En), j < k → L[j]? = some y → (decide (y.1.2.2.2 = (b : Int)) && inP y.1 x) = false) → lkR L x (b + 1) = some e) := Lib.hid fun b k e h1 h2 h3 => by
    have : lkAt L x b = some e := find_at h1 h2 h3
    rw [lkR, this]
  have HNo : Hid (∀ (b : Nat), (∀ (j : Nat) (y : En), j < n → L[j]? = some y → (decide (y.1.2.2.2 = (b : Int)) && inP y.1 x) = false) → lkR L x (b + 1) = lkR L x b) := Lib.hid fun b h => by
    have : lkAt L x b = none := find_no (by rw [hn]; exact h)
    rw [lkR, this]
  have H00 : Hid (lkR L x 0 = none) := Lib.hid rfl
  rw [lkQ_lkR]
  clear h hn hk hx
  unfold aN at HC ⊢
  generalize hlr : lkR L x = lr at *
  clear hlr
  obtain ⟨inx, hinx⟩ : ∃ q, (fun p => inP p x) = q := ⟨_, rfl⟩
  have hix : ∀ p, inP p x = inx p := fun p => congrFun hinx p
  simp only [hix] at HC HAt HNo
  clear hinx hix
  generalize sixN x = x1 at *
  generalize hiN x = x2 at *
  generalize loN x = x3 at *
  obtain ⟨RS, hRS⟩ : ∃ q, lr 129 = q := ⟨_, rfl⟩
  have HRS := Lib.hid hRS
  rw [show (128 : Nat) + 1 = 129 from rfl, hRS]
  clear hRS
  have HX : Hid (Blk (w.alloc (.cells #[.bool x1, .int .u64 (x2 : Int), .int .u64 (x3 : Int)] 28 (0, 0))) w.heap.size 28 #[.bool x1, .int .u64 (x2 : Int), .int .u64 (x3 : Int)]) := Lib.hid (Blk.new w _ _)
  have HB : Hid (Below w.heap.size w (w.alloc (.cells #[.bool x1, .int .u64 (x2 : Int), .int .u64 (x3 : Int)] 28 (0, 0)))) := Lib.hid (below_alloc (Below.refl _ _) _)
  have H1 := Lib.hid (H0.out.below (below_alloc (Below.refl _ _) (.cells #[.bool x1, .int .u64 (x2 : Int), .int .u64 (x3 : Int)] 28 (0, 0))))
  clear H0
  go_enter Tryz.func26, Tryz.ntmps26
  go_upto_region 1 with fail
  generalize w.alloc (.cells #[.bool x1, .int .u64 (x2 : Int), .int .u64 (x3 : Int)] 28 (0, 0)) = w1 at *
  obtain ⟨xb, hxb⟩ : ∃ q, w.heap.size = q := ⟨_, rfl⟩
  have Hxb := Lib.hid hxb
  rw [hxb] at HX HB ⊢
  clear hxb
  have hxl : xb ≤ w1.heap.size := Nat.le_of_lt HX.out.lt
  go_wp2_with fail
  go_loopw [6, 8, 13, 14, 15] (fun bv s8 s13 s14 s15 wr => ∃ (j : Nat), j ≤ 129 ∧ bv = .int .i64 ((j : Int) - 1) ∧ Hid (lr j = RS) ∧ Hid (Below w1.heap.size w1 wr)) (fun bv _ _ _ _ _ => (intOf bv + 1).toNat)
  case atStart => exact ⟨129, Nat.le_refl _, rfl, HRS, Lib.hid (Below.refl _ _)⟩
  case round =>
    obtain ⟨j, hj, rfl, HJ, HBr⟩ := hrel
    by_cases hj0 : j = 0
    · subst hj0
      have hR : RS = none := HJ.out.symm.trans H00.out
      subst hR
      have HBx := Lib.hid (HB.out.trans (HBr.out.mono hxl))
      have z0 : (((0 : Nat) : Int) - 1) = -1 := by omega
      rw [z0]
      go_wp2_with fail
      go_ret2
      exact ⟨rfl, by rw [Hxb.out]; exact HBx.out⟩
    · obtain ⟨b, rfl⟩ : ∃ b, j = b + 1 := ⟨j - 1, by omega⟩
      have ej : (((b + 1 : Nat) : Int) - 1) = (b : Int) := by omega
      rw [ej]
      have hb0 : (b : Int) ≥ 0 := by omega
      have hbl : (b : Int) ≤ 128 := by omega
      have HAb := Lib.hid (HAt.out b)
      have HNb := Lib.hid (HNo.out b)
      go_wp2_with fail
      go_loopw [8, 15] (fun s8 i wr => ∃ (k : Nat), k ≤ n ∧ i = .int .i64 k ∧ Hid (∀ (j : Nat) (y : En), j < k → L[j]? = some y → (decide (y.1.2.2.2 = (b : Int)) && inx y.1) = false) ∧ Hid (Below w1.heap.size w1 wr)) (fun _ i _ => n - (intOf i).toNat)
      case atStart => exact ⟨0, Nat.zero_le _, rfl, Lib.hid fun j y hj => absurd hj (Nat.not_lt_zero _), HBr⟩
      case round =>
        clear HBr
        obtain ⟨k, hk, rfl, HN, HBr⟩ := hrel
        by_cases hlt : k < n
        · have hS : k < L.length := by rw [Hn.out]; exact hlt
          obtain ⟨e, hp⟩ : ∃ e, L[k]? = some e := ⟨_, List.getElem?_eq_getElem hS⟩
          have HOk := Lib.hid (Hk.out e (List.mem_of_getElem? hp)).1
          have HAk : Hid ((decide (e.1.2.2.2 = (b : Int)) && inx e.1) = true → lr (b + 1) = some e) := Lib.hid fun h => HAb.out k e hp h HN.out
          have HNk : Hid ((decide (e.1.2.2.2 = (b : Int)) && inx e.1) = false → ∀ (j : Nat) (y : En), j < k + 1 → L[j]? = some y → (decide (y.1.2.2.2 = (b : Int)) && inx y.1) = false) := Lib.hid fun h j y hj hy => by
            rcases Nat.lt_or_ge j k with h1 | h1
            · exact HN.out j y h1 hy
            · obtain rfl : j = k := by omega
              rw [hp] at hy
              exact (Option.some.inj hy) ▸ h
          have HXr := Lib.hid (HX.out.below HBr.out HX.out.lt)
          have HRx := Lib.hid (H1.out.below HBr.out)
          have hxr : xb < wr.heap.size := HXr.out.lt
          obtain ⟨⟨a1, a2, a3, a4⟩, ky⟩ := e
          simp only at HOk HAk HNk
          obtain ⟨g, o, had, hg, c0, c1, c2, c3, c4⟩ := HRx.out.en hp
          subst had
          have HCx := Lib.hid fun wx => HC.out (a1, a2, a3, a4) wx HOk.out
          rw [show (pfC (a1, a2, a3, a4)).toArray = #[.bool a1, .int .u64 (a2 : Int), .int .u64 (a3 : Int), .int .i64 a4] from rfl] at HCx
          clear hp hS hg HOk HRx HN
          generalize inx (a1, a2, a3, a4) = ib at *
          generalize hK : strL ky = K at *
          have HKy := Lib.hid hK
          clear hK
          have HP1 : Hid (Blk (wr.alloc (.cells #[.bool a1, .int .u64 (a2 : Int), .int .u64 (a3 : Int), .int .i64 a4, .string K] 48 (0, 0))) wr.heap.size 48 #[.bool a1, .int .u64 (a2 : Int), .int .u64 (a3 : Int), .int .i64 a4, .string K]) := Lib.hid (Blk.new wr _ _)
          have HX1 := Lib.hid (HXr.out.alloc (.cells #[.bool a1, .int .u64 (a2 : Int), .int .u64 (a3 : Int), .int .i64 a4, .string K] 48 (0, 0)))
          have HB1 : Hid (Below w1.heap.size w1 (wr.alloc (.cells #[.bool a1, .int .u64 (a2 : Int), .int .u64 (a3 : Int), .int .i64 a4, .string K] 48 (0, 0)))) := Lib.hid (Below.alloc HBr.out HBr.out.size _)
          clear HXr
          go_upto_region 7 with fail
          generalize wr.alloc (.cells #[.bool a1, .int .u64 (a2 : Int), .int .u64 (a3 : Int), .int .i64 a4, .string K] 48 (0, 0)) = w3 at *
          generalize wr.heap.size = bx at *
          clear HBr c0 c1 c2 c3 c4
          have d0 := HP1.out.cell 0
          have d1 := HP1.out.cell 1
          have d2 := HP1.out.cell 2
          have d3 := HP1.out.cell 3
          have d4 := HP1.out.cell 4
          simp at d0 d1 d2 d3 d4
          have f0 := HX1.out.cell 0
          have f1 := HX1.out.cell 1
          have f2 := HX1.out.cell 2
          simp at f0 f1 f2
          by_cases hm : a4 = (b : Int)
          · subst hm
            rw [decide_eq_true rfl, Bool.true_and] at HAk HNk
            go_wp2_with fail
            refine (HCx.out _).mono ?_
            rintro e2 w4 ⟨rfl, hb⟩
            have HB4 := Lib.hid (HB1.out.trans (hb.mono HB1.out.size))
            have HP4 := Lib.hid (HP1.out.below hb HP1.out.lt)
            clear hb HB1 HP1 HX1 HCx d0 d1 d2 d3 d4 f0 f1 f2
            cases ib
            · have HN2 := Lib.hid (HNk.out rfl)
              clear HAk HNk HP4
              go_wp2_with fail
              exact ⟨⟨k + 1, by omega, by go_num, HN2, HB4⟩, by simp [intOf]; omega⟩
            · have HR : Hid (RS = some ((a1, a2, a3, (b : Int)), ky)) := Lib.hid (HJ.out.symm.trans (HAk.out rfl))
              have HBx := Lib.hid (HB.out.trans (HB4.out.mono hxl))
              clear HAk HNk
              have d0 := HP4.out.cell 0
              have d1 := HP4.out.cell 1
              have d2 := HP4.out.cell 2
              have d3 := HP4.out.cell 3
              have d4 := HP4.out.cell 4
              simp at d0 d1 d2 d3 d4
              go_wp2_with fail
              go_ret2
              exact ⟨by rw [HR.out]; show _ = Ending.returned (.tuple #[.string (strL ky), .bool true]); rw [HKy.out]; rfl, by rw [Hxb.out]; exact HBx.out⟩
          · have hm2 : decide (a4 = (b : Int)) = false := decide_eq_false hm
            have HN2 := Lib.hid (HNk.out (by rw [hm2]; rfl))
            have hm3 : (a4 == (b : Int)) = false := by simpa using hm
            clear HAk HNk HCx
            go_wp2_with fail
            exact ⟨⟨k + 1, by omega, by go_num, HN2, HB1⟩, by simp [intOf]; omega⟩
        · obtain rfl : k = n := by omega
          have HJ2 : Hid (lr b = RS) := Lib.hid ((HNb.out HN.out).symm.trans HJ.out)
          have e7 : IntKind.i64.wrap ((b : Int) - 1) = (b : Int) - 1 := by rw [IntKind.wrap_i64]; omega
          have e8 : wrap64 ((b : Int) - 1) = (b : Int) - 1 := by unfold wrap64; omega
          go_wp2_with fail
          exact ⟨⟨b, by omega, by go_num, HJ2, HBr⟩, by simp [intOf]⟩
end Go.Proofs.YteccghdegckjhaaGreatDoor
