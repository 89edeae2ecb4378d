/-
  The reference's joined: spans of wide numbers in order, put together where they touch.
-/
import Derived.Test.YtaeieigdibanlaaGreatDoorST6
import Derived.Test.YtaeieigdibanlaaGreatDoorST9
set_option linter.unusedVariables false
namespace Go.Proofs.YtaeieigdibanlaaGreatDoor
open Go.RowKit Go
set_option linter.unusedVariables false
/-- the cells of a span of wide numbers in a row -/
theorem RdK.qs {w : World} {ad : Option Addr} {L : List Sp} (h : RdK layQs w ad L) {k : Nat} {p : Sp} (hp : L[k]? = some p) :
    ∃ g o, ad = some ⟨g, o, none⟩ ∧ g < w.heap.size ∧ ∀ j v, (layQs.enc p)[j]? = some v → w.cell? ⟨g, o + k * 18 + j, none⟩ = some v := by
  obtain ⟨g, o, e, hg, h0⟩ := h k p hp
  refine ⟨g, o, e, hg, fun j v hv => ?_⟩
  rw [Nat.add_assoc]
  exact h0 j v hv
theorem OwnK.qs {w : World} {B g n c : Nat} {L : List Sp} (h : OwnK layQs w B (.slice (some ⟨g, 0, none⟩) n c) L) {k : Nat} {p : Sp} (hp : L[k]? = some p) :
    ∀ j v, (layQs.enc p)[j]? = some v → w.cell? ⟨g, k * 18 + j, none⟩ = some v := fun j v hv => h.get (E := layQs) hp hv
theorem srt_keyQ {S : List Sp} (hv : ∀ p ∈ S, VR p) (h : S.Pairwise (fun p q => keyQs p ≤ keyQs q)) : Srt S := by
  refine List.Pairwise.imp_of_mem (fun {a b} ha hb h => ?_) h
  rw [(hv a ha).key.2, (hv b hb).key.2] at h
  exact h
/-- setting some cells in a row -/
def setsAt (l : List Value) : Nat → List Value → List Value
  | _, [] => l
  | j, v :: vs => setsAt (l.set j v) (j + 1) vs
theorem flat_sets (K i : Nat) : ∀ (vs : List Value) (LL : List (List Value)) (j : Nat) (z : List Value), (∀ l ∈ LL, l.length = K) → LL[i]? = some z → j + vs.length ≤ K → setsAt LL.flatten (i * K + j) vs = (LL.set i (setsAt z j vs)).flatten
  | [], LL, j, z, hk, hz, hj => by
    show LL.flatten = (LL.set i z).flatten
    congr 1
    obtain ⟨hi, e⟩ := List.getElem?_eq_some_iff.1 hz
    subst e
    exact (List.set_getElem_self hi).symm
  | v :: vs, LL, j, z, hk, hz, hj => by
    have hi := (List.getElem?_eq_some_iff.1 hz).1
    have hzl : z.length = K := hk z (List.mem_of_getElem? hz)
    simp only [List.length_cons] at hj
    show setsAt (LL.flatten.set (i * K + j) v) (i * K + j + 1) vs = (LL.set i (setsAt (z.set j v) (j + 1) vs)).flatten
    rw [flat_set K LL i j z v hk hz (by omega), Nat.add_assoc, flat_sets K i vs (LL.set i (z.set j v)) (j + 1) (z.set j v) (fun l hl => by
      rcases List.mem_or_eq_of_mem_set hl with h1 | rfl
      · exact hk l h1
      · rw [List.length_set]; exact hzl) (by simp [hi]) (by omega), List.set_set]
def setCs (w : World) (g : Nat) : Nat → List Value → World
  | _, [] => w
  | j, v :: vs => setCs (w.setCell ⟨g, j, none⟩ v) g (j + 1) vs
theorem raw_sets {B ty K g n c : Nat} : ∀ (vs : List Value) (w : World) (t : Nat) (xs : List Value), w.ownsRow B ty K (.slice (some ⟨g, 0, none⟩) n c) n xs → (setCs w g t vs).ownsRow B ty K (.slice (some ⟨g, 0, none⟩) n c) n (setsAt xs t vs)
  | [], w, t, xs, h => h
  | v :: vs, w, t, xs, h => raw_sets vs _ _ _ (raw_set h t v)
theorem OwnK.sets {α : Type} {E : Lay α} {w : World} {B g n c : Nat} {L : List α} (h : OwnK E w B (.slice (some ⟨g, 0, none⟩) n c) L) {i j : Nat} {x y : α} (vs : List Value) (hx : L[i]? = some x) (hj : j + vs.length ≤ E.K) (hy : E.enc y = setsAt (E.enc x) j vs) :
    OwnK E (setCs w g (i * E.K + j) vs) B (.slice (some ⟨g, 0, none⟩) n c) (L.set i y) := by
  obtain ⟨rfl, _⟩ := h.block
  have := raw_sets vs w (i * E.K + j) _ h
  rw [E.all_flat, flat_sets E.K i vs (L.map E.enc) j (E.enc x) (fun l hl => by obtain ⟨z, _, rfl⟩ := List.mem_map.1 hl; exact E.len z) (by rw [List.getElem?_map, hx]; rfl) hj, ← hy, ← List.map_set, ← E.all_flat] at this
  show World.ownsRow _ _ _ _ _ _ _
  rw [List.length_set]
  exact this
theorem below_setCs {B : Nat} {u : World} {g : Nat} (hg : B ≤ g) : ∀ (vs : List Value) (w : World) (t : Nat), Below B u w → Below B u (setCs w g t vs)
  | [], w, t, h => h
  | v :: vs, w, t, h => below_setCs hg vs _ _ (Below.setCell (p := ⟨g, t, none⟩) h hg v)
theorem dig8 {x : Nat} (h : VN x) : digN x 8 = if sixN x = true then 1 else 0 := by
  have e : (65536 : Nat) ^ 8 = 2 ^ 128 := by decide
  unfold digN
  rw [e]
  rcases h.cases with ⟨a, _, _, d⟩ | ⟨a, b, c, d⟩
  · rw [a, if_neg (by simp), Nat.div_eq_of_lt (Nat.lt_trans d (by decide))]
  · have h1 : 2 ^ 128 ≤ x := by omega
    have h2 : x < 2 ^ 129 := by rcases h with h | h <;> omega
    have : x / 2 ^ 128 = 1 := by
      rw [Nat.div_eq_iff (by decide)]
      have e2 : (2 : Nat) ^ 129 = 2 ^ 128 + 2 ^ 128 := by decide
      omega
    rw [a, if_pos rfl, this]
theorem dig8_eq {x y : Nat} (hx : VN x) (hy : VN y) : digN x 8 = digN y 8 ↔ sixN x = sixN y := by
  rw [dig8 hx, dig8 hy]
  cases sixN x <;> cases sixN y <;> simp
theorem far_six {p q : Sp} (hp : VR p) (hq : VR q) (hpq : p.1 ≤ q.1) (h : sixN p.1 ≠ sixN q.1) : ¬ q.1 ≤ p.2 + 1 := by
  have := touch_num hp hq hpq
  rw [if_neg h] at this
  exact of_decide_eq_false this
theorem setsAt_wd (f g h : Nat → Nat) : setsAt ((wd f).toList ++ (wd g).toList) 9 (wd h).toList = (wd f).toList ++ (wd h).toList := rfl
theorem setCs_eq (g : Nat) : ∀ (vs : List Value) (w : World) (t : Nat), setCs w g t vs = w.setCells g t vs
  | [], _, _ => rfl
  | v :: vs, w, t => setCs_eq g vs _ _
set_option maxRecDepth 100000 in
set_option maxHeartbeats 8000000 in
theorem qjoined_any (ad : Option Addr) (n c : Nat) (L : List Sp) (w : World) (h : RdK layQs w ad L) (hn : L.length = n) (hs : n ≤ 100000) (hv : ∀ p ∈ L, VR p) :
    Calls Tryz.prog 113 #[.slice ad n c] w fun e w' => ∃ v, e = .returned v ∧ OwnK layQs w' w.heap.size v (jn L) ∧ Below w.heap.size w w' := by
  obtain ⟨R, hR⟩ : ∃ R, jn L = R := ⟨_, rfl⟩
  have HR : Hid (∀ S : List Sp, S.Perm L → Srt S → S.foldl stp [] = R) := Lib.hid fun S hp hso => by
    rw [← hR]; exact jn_of hp hso fun p hp => (hv p hp).le
  rw [hR]
  have Hv := Lib.hid hv
  have H0 := Lib.hid h
  have Hn := Lib.hid hn
  clear h hn hv hR
  go_enter Tryz.func113, Tryz.ntmps113
  go_wp2_with fail
  refine (clone_qs ad n c L w H0.out Hn.out (by omega)).mono ?_
  rintro e w1 ⟨v, rfl, hO, hB⟩
  obtain ⟨ad1, c1, hv1, _, _, _⟩ := hO.form
  rw [Hn.out] at hv1
  subst hv1
  have HO1 := Lib.hid hO
  have HB1 := Lib.hid hB
  clear hO hB
  go_wp2_with fail
  refine (sortQs_any w.heap.size n c1 ad1 L w1 HO1.out Hn.out (by omega) HB1.out.size).mono ?_
  rintro e w2 ⟨rfl, S, hp, hso, hO2, hB2⟩
  have hSv : ∀ p ∈ S, VR p := fun p h => Hv.out p (hp.mem_iff.1 h)
  have hSs := srt_keyQ hSv hso
  have HS : Hid (S.foldl stp [] = R) := Lib.hid (HR.out S hp hSs)
  have Hsl : Hid (S.length = n) := Lib.hid (hp.length_eq.trans Hn.out)
  have HSv := Lib.hid hSv
  have HVt := Lib.hid (vr_take hSs hSv)
  have HR2 : Hid (RdK layQs w2 ad1 S) := Lib.hid hO2.rd
  have HB2 : Hid (Below w.heap.size w w2) := Lib.hid (HB1.out.trans hB2)
  clear hp hso hO2 hB2 HO1 HB1 HR Hv Hn hSv hSs H0
  go_wp2_with fail
  go_loopw [3, 5, 6, 13] (fun out bx nn i wr => ∃ (k : Nat) (A : List Sp), k ≤ n ∧ i = .int .i64 k ∧ Hid ((S.take k).foldl stp [] = A) ∧ Hid (OwnK layQs wr w2.heap.size out A) ∧ Hid (Below w2.heap.size w2 wr)) (fun _ _ _ i _ => n - (intOf i).toNat)
  case atStart => exact ⟨0, [], Nat.zero_le _, rfl, Lib.hid rfl, Lib.hid (OwnK.nil _ _ _), Lib.hid (Below.refl _ _)⟩
  case round =>
    obtain ⟨k, A, hk, rfl, HA, HO, HB⟩ := hrel
    by_cases hlt : k < n
    · have hS : k < S.length := by rw [Hsl.out]; exact hlt
      obtain ⟨p, hp⟩ : ∃ p, S[k]? = some p := ⟨_, List.getElem?_eq_getElem hS⟩
      obtain ⟨g, o, had, hg, hcs⟩ := (HR2.out.below HB.out).qs hp
      subst had
      have hpm : p ∈ S := List.mem_of_getElem? hp
      have HA1 : Hid ((S.take (k + 1)).foldl stp [] = stp A p) := Lib.hid (by
        rw [List.take_succ_eq_append_getElem hS, List.foldl_append, HA.out]
        have : S[k] = p := by rw [List.getElem?_eq_getElem hS] at hp; injection hp
        rw [this]; rfl)
      have hVA := (HVt.out k (by omega)).1
      have hFA := (HVt.out k (by omega)).2 k p (Nat.le_refl _) hp
      rw [HA.out] at hVA hFA
      have HVA := Lib.hid hVA
      have HFA := Lib.hid hFA
      have HVp := Lib.hid (HSv.out p hpm)
      have hAl : Hid (A.length ≤ k) := Lib.hid (by
        have := fold_len (S.take k) []
        rw [HA.out] at this
        simp at this; omega)
      obtain ⟨X, hX⟩ : ∃ X, layQs.enc p = X := ⟨_, rfl⟩
      have HX1 : Hid (X.toArray.size = 18) := Lib.hid (by rw [List.size_toArray, ← hX]; rfl)
      have HX2 : Hid (X.toArray.all (·.oneCell') = true) := Lib.hid (all_oneCell_toArray (by rw [← hX]; exact layQs.one p))
      have HX := Lib.hid hX
      rw [hX] at hcs
      have HRA : Hid (wr.rangeAt g (o + k * 18) X) := Lib.hid hcs
      clear hp hpm HA hVA hFA hcs hX
      have HB1 : Hid (Below w2.heap.size w2 (wr.alloc (.cells X.toArray 138 (0, 0)))) := Lib.hid (Below.alloc HB.out HB.out.size _)
      have HP1 : Hid (Blk (wr.alloc (.cells X.toArray 138 (0, 0))) wr.heap.size 138 X.toArray) := Lib.hid (Blk.new wr _ _)
      have HO1 : Hid (OwnK layQs (wr.alloc (.cells X.toArray 138 (0, 0))) w2.heap.size u3 A) := Lib.hid (HO.out.alloc _)
      go_upto_region 7 with (first | (refine wpList_loadn rfl 138 _ rfl g (o + k * 18) rfl _ _ HRA.out Tryz.underlying138 rfl 18 size_qs (by simpa using HX1.out) ?_; go_simp) | (refine wpList_var X.toArray 138 Tryz.zeroValue138 rfl rfl rfl _ _ rfl _ rfl ?h1 ?h2 18 size_qs HX1.out ?h4 HX2.out ?h6; all_goals (try rfl); try go_simp))
      generalize wr.alloc (.cells X.toArray 138 (0, 0)) = w3 at *
      generalize wr.heap.size = bx at *
      clear HB HO HRA hg
      rcases snoc_cases A with rfl | ⟨D, q, rfl⟩
      · obtain ⟨ad3, c3, hv3, _, _, _⟩ := HO1.out.form
        rw [show ([] : List Sp).length = 0 from rfl] at hv3
        subst hv3
        clear hS
        go_upto_region 8 with fail
        refine wp_region_later (by kernel_rfl) (by kernel_rfl) ?_
        repeat (go_big_quiet_step (fail))
        refine wpQuiet_nil ?_
        rintro w4 ⟨n4, hn4⟩
        have hb : Below w3.heap.size w3 w4 := by rw [hn4]; exact n4.2
        clear hn4 n4
        have HP4 := Lib.hid (HP1.out.below hb HP1.out.lt)
        have HO4 := Lib.hid (HO1.out.later hb)
        have HB4 := Lib.hid (HB1.out.trans (hb.mono HB1.out.size))
        clear hb HP1 HO1 HB1
        go_wp2_with (first | (refine wpList_loadn rfl 138 _ rfl bx 0 rfl _ _ HP4.out.range Tryz.underlying138 rfl 18 size_qs (by simpa using HX1.out) ?_; go_simp) | (refine wpList_build1 rfl 98 138 _ rfl X.toArray rfl 18 Tryz.underlying98 zero_qs HX1.out (by decide) (by decide) ?_; go_simp) | (at_builtin; refine wpList_app qsE rfl (.tmp 61) (.tmp 63) rfl rfl (World.ownsRow.alloc HO4.out _) rfl (src_new layQs _ p _ _ ?c0) ?c1 ?c2 ?c3 ?c4 ?_))
        case c0 => first | exact (congrArg List.toArray HX.out).symm | exact HX.out.symm
        case c1 => exact layQs.one p
        case c2 => unfold maxLen; simp
        case c3 => simp
        case c4 => have := HB4.out.size; simp; omega
        intro v' w' hO hG
        have HO' : Hid (OwnK layQs w' w2.heap.size v' (stp [] p)) := Lib.hid (OwnK.snoc (L := []) hO)
        have HB' : Hid (Below w2.heap.size w2 w') := Lib.hid ((Below.alloc HB4.out HB4.out.size _).trans (hG.below (by have := HB4.out.size; simp; omega) (own_base HO4.out)))
        clear hO hG
        go_wp2
        exact ⟨⟨k + 1, _, by omega, by go_num, HA1, HO', HB'⟩, by simp [intOf]; omega⟩
      · obtain ⟨g2, c2, hv3, hg2, hgl, hc1, hc2⟩ := HO1.out.one (by simp)
        rw [show (D ++ [q]).length = D.length + 1 by simp] at hv3 hc1
        subst hv3
        have hDk : D.length + 1 ≤ k := by have := hAl.out; simpa using this
        have hqm : (D ++ [q])[D.length]? = some q := by simp
        have hVq := HVA.out q (by simp)
        have hqp := HFA.out q (by simp)
        have HM : Hid (stp (D ++ [q]) p = if p.1 ≤ q.2 + 1 then (if q.2 < p.2 then D ++ [(q.1, p.2)] else D ++ [q]) else D ++ [q] ++ [p]) := Lib.hid (stp_snoc _ _ _)
        have HL : Hid ((D ++ [q]).length = D.length + 1) := Lib.hid (by simp)
        have hrq : w3.rangeAt g2 (D.length * 18) ((wN q.1).toList ++ (wN q.2).toList) := by
          have := HO1.out.qs hqm
          rw [qs_split] at this
          exact this
        have hrp : w3.rangeAt bx 0 ((wN p.1).toList ++ (wN p.2).toList) := by
          have := HP1.out.range
          rw [← HX.out, qs_split] at this
          exact this
        have d8 : w3.cell? ⟨bx, 8, none⟩ = some (.int .i64 ((digN p.1 8 : Nat) : Int)) := (range_left hrp) 8 _ (wN_dig8 p.1)
        have q8 : w3.cell? ⟨g2, D.length * 18 + 8, none⟩ = some (.int .i64 ((digN q.1 8 : Nat) : Int)) := (range_left hrq) 8 _ (wN_dig8 q.1)
        have R1 : ∀ wx, (∃ x : Later w3, wx = x.1) → wx.rangeAt bx 0 (wN p.1).toList := by rintro wx ⟨x, rfl⟩; exact range_below (range_left hrp) x.2 HP1.out.lt
        have R2 : ∀ wx, (∃ x : Later w3, wx = x.1) → wx.rangeAt bx 9 (wN p.2).toList := by rintro wx ⟨x, rfl⟩; exact range_below (range_right hrp) x.2 HP1.out.lt
        have R3 : ∀ wx, (∃ x : Later w3, wx = x.1) → wx.rangeAt g2 (D.length * 18 + 9) (wN q.2).toList := by rintro wx ⟨x, rfl⟩; exact range_below (range_right hrq) x.2 hgl
        have S1 := Lib.hid (wN_size p.1)
        have S2 := Lib.hid (wN_size p.2)
        have S3 := Lib.hid (wN_size q.2)
        have HR1 := Lib.hid R1
        have HR2' := Lib.hid R2
        have HR3 := Lib.hid R3
        clear R1 R2 R3
        have HSet : Hid ((D ++ [q]).set D.length (q.1, p.2) = D ++ [(q.1, p.2)]) := Lib.hid (by simp)
        have HY : Hid (layQs.enc (q.1, p.2) = setsAt (layQs.enc q) 9 (wN p.2).toList) := Lib.hid (by rw [qs_split, qs_split]; exact (setsAt_wd _ _ _).symm)
        have HOne : Hid ((wN p.2).all (·.oneCell') = true) := Lib.hid (wd_one _)
        have HPl := Lib.hid fun wx => plusN q.2 wx
        have HC1 := Lib.hid fun wx => wideCmpN (x := p.1) (y := q.2 + 1) wx HVp.out.a.lt10.1 hVq.b.lt10.2
        have HC2 := Lib.hid fun wx => wideCmpN (x := p.2) (y := q.2) wx HVp.out.b.lt10.1 hVq.b.lt10.1
        have HD8 := Lib.hid (dig8_eq hVq.a HVp.out.a)
        have HFar := Lib.hid (far_six hVq HVp.out hqp)
        have HCle := Lib.hid (cN_le p.1 (q.2 + 1))
        have hlen : ((D.length + 1 : Nat) : Int) - 1 = (D.length : Int) := by omega
        have Hqm := Lib.hid hqm
        clear hAl hqm hc2 hS hrp hrq
        generalize wN p.1 = P1 at *
        generalize wN p.2 = P2 at *
        generalize wN q.2 = Q2 at *
        generalize wN (q.2 + 1) = Q3 at *
        generalize D.length = m at *
        have hm1 : (m : Int) < ((m + 1 : Nat) : Int) := by omega
        have hm2 : m < m + 1 := by omega
        have hm0 : ((m : Int) ≥ 0) := by omega
        generalize m + 1 = n1 at *
        have hm3 : (n1 : Int) ≤ 100000 := by omega
        have l8 := Later.cell_of d8
        have k8 := Later.cell_of q8
        have hP := fun x : Later w3 => Calls.later x (HPl.out x.1)
        have hC := fun x : Later w3 => Calls.later x (HC1.out x.1)
        go_upto_region 8 with fail
        by_cases hd : digN q.1 8 = digN p.1 8
        · rw [hd] at k8 q8
          generalize digN p.1 8 = e8 at *
          generalize cN p.1 (q.2 + 1) = C at *
          refine wp_region_later (by kernel_rfl) (by kernel_rfl) ?_
          repeat (first | go_big_quiet_step (first | (go_at_call 112; exact hP _) | (go_at_call 108; exact hC _)) | (refine wpQuiet_loadn rfl 131 _ rfl _ rfl bx 0 rfl P1 HR1.out _ Tryz.underlying131 rfl 9 size_wide S1.out ?_; go_simp) | (refine wpQuiet_loadn rfl 131 _ rfl _ rfl g2 (m * 18 + 9) rfl Q2 HR3.out _ Tryz.underlying131 rfl 9 size_wide S3.out ?_; go_simp))
          refine wpQuiet_nil ?_
          rintro ⟨w4, hb⟩
          dsimp only
          clear d8 q8 l8 k8 hP hC
          have HP4 := Lib.hid (HP1.out.below hb HP1.out.lt)
          have HO4 := Lib.hid (HO1.out.later hb)
          have HB4 := Lib.hid (HB1.out.trans (hb.mono HB1.out.size))
          have HU2 := Lib.hid (HR2'.out w4 ⟨⟨w4, hb⟩, rfl⟩)
          have HU3 := Lib.hid (HR3.out w4 ⟨⟨w4, hb⟩, rfl⟩)
          have HG : Hid (g2 < w4.heap.size) := Lib.hid (Nat.lt_of_lt_of_le hgl hb.size)
          clear hb HP1 HO1 HB1 HR1 HR2' HR3 hgl
          by_cases hle : p.1 ≤ q.2 + 1
          · have hC0 : C ≤ 0 := HCle.out.2 hle
            have HT2 : Hid (∀ wx, (∃ x : Later w4, wx = x.1) → wx.rangeAt bx 9 P2.toList) := Lib.hid (by rintro wx ⟨x, rfl⟩; exact range_below HU2.out x.2 HP4.out.lt)
            have HT3 : Hid (∀ wx, (∃ x : Later w4, wx = x.1) → wx.rangeAt g2 (m * 18 + 9) Q2.toList) := Lib.hid (by rintro wx ⟨x, rfl⟩; exact range_below HU3.out x.2 HG.out)
            have hC := fun x : Later w4 => Calls.later x (HC2.out x.1)
            have HC2p := Lib.hid (cN_pos p.2 q.2)
            generalize cN p.2 q.2 = C2 at *
            go_upto_region 9 with fail
            refine wp_region_later (by kernel_rfl) (by kernel_rfl) ?_
            repeat (first | go_big_quiet_step ((go_at_call 108; exact hC _)) | (refine wpQuiet_loadn rfl 131 _ rfl _ rfl bx 9 rfl P2 HT2.out _ Tryz.underlying131 rfl 9 size_wide S2.out ?_; go_simp) | (refine wpQuiet_loadn rfl 131 _ rfl _ rfl g2 (m * 18 + 9) rfl Q2 HT3.out _ Tryz.underlying131 rfl 9 size_wide S3.out ?_; go_simp))
            refine wpQuiet_nil ?_
            rintro ⟨w5, hb⟩
            dsimp only
            have HP5 := Lib.hid (HP4.out.below hb HP4.out.lt)
            have HO5 := Lib.hid (HO4.out.later hb)
            have HB5 := Lib.hid (HB4.out.trans (hb.mono HB4.out.size))
            have HU5 := Lib.hid (HT2.out w5 ⟨⟨w5, hb⟩, rfl⟩)
            have HV5 := Lib.hid (HT3.out w5 ⟨⟨w5, hb⟩, rfl⟩)
            clear hb HP4 HO4 HB4 HU2 HU3 HT2 HT3 hC HG
            by_cases hlt2 : q.2 < p.2
            · have hC2 : C2 > 0 := HC2p.out.2 hlt2
              have HA6 : Hid ((S.take (k + 1)).foldl stp [] = D ++ [(q.1, p.2)]) := Lib.hid (by rw [HA1.out, HM.out, if_pos hle, if_pos hlt2])
              have HTh : Hid (w5.there g2 (m * 18 + 9) 9) := Lib.hid fun j hj => ⟨by
                have hj2 : j < Q2.toList.length := by rw [Array.length_toList, S3.out]; exact hj
                rw [HV5.out j _ (List.getElem?_eq_getElem hj2)]; rfl, HO5.out.frozen _⟩
              have HS6 : Hid (OwnK layQs (w5.setCells g2 (m * 18 + 9) P2.toList) w2.heap.size (.slice (some ⟨g2, 0, none⟩) n1 c2) (D ++ [(q.1, p.2)])) := Lib.hid (by
                have := HO5.out.sets (i := m) (j := 9) (x := q) (y := (q.1, p.2)) P2.toList Hqm.out (by rw [Array.length_toList, S2.out]; decide) HY.out
                rw [setCs_eq, HSet.out] at this
                exact this)
              have hst : (storeCells ⟨g2, m * 18 + 9, none⟩ P2.toList 0).run Tryz.prog w5 = .ok () (w5.setCells g2 (m * 18 + 9) P2.toList) := by
                have hl : P2.toList.length = 9 := by rw [Array.length_toList]; exact S2.out
                have := run_storeCells_cells (P := Tryz.prog) g2 (m * 18 + 9) P2.toList 0 w5 (fun j hj => (HTh.out j (by omega)).1) (fun j hj => (HTh.out j (by omega)).2) (fun v hv => (Array.all_eq_true_iff_forall_mem.1 HOne.out) v (by simpa using hv))
                exact this
              have HB6 : Hid (Below w2.heap.size w2 (w5.setCells g2 (m * 18 + 9) P2.toList)) := Lib.hid (by
                rw [← setCs_eq]; exact below_setCs hg2 _ _ _ HB5.out)
              clear HA1 HM HVA HFA HVp HO5 HB5 HP5 HL HY HSet HC2p HCle HV5
              go_wp2_with (first | (refine wpList_loadn rfl 131 _ rfl bx 9 rfl P2.toList _ HU5.out Tryz.underlying131 rfl 9 size_wide (by simpa using S2.out) ?_; try go_simp))
              exact ⟨⟨k + 1, _, by omega, by go_num, HA6, HS6, HB6⟩, by simp [intOf]; omega⟩
            · have hC2 : ¬ C2 > 0 := fun h => hlt2 (HC2p.out.1 h)
              have HA6 : Hid ((S.take (k + 1)).foldl stp [] = D ++ [q]) := Lib.hid (by rw [HA1.out, HM.out, if_pos hle, if_neg hlt2])
              clear HA1 HM HVA HFA HVp HP5 HL HY HSet HC2p HCle HV5
              go_wp2_with fail
              exact ⟨⟨k + 1, _, by omega, by go_num, HA6, HO5, HB5⟩, by simp [intOf]; omega⟩
          · have hC0 : ¬ C ≤ 0 := fun h => hle (HCle.out.1 h)
            have HA6 : Hid ((S.take (k + 1)).foldl stp [] = D ++ [q] ++ [p]) := Lib.hid (by rw [HA1.out, HM.out, if_neg hle])
            have HO5 : Hid (w4.ownsRow w2.heap.size 138 18 (.slice (some ⟨g2, 0, none⟩) n1 c2) n1 (layQs.all (D ++ [q]))) := Lib.hid (by have := HO4.out; unfold OwnK at this; rw [HL.out] at this; exact this)
            clear HM HSet HY HC2 HFar HCle HD8
            go_wp2_with (first | (refine wpList_loadn rfl 138 _ rfl bx 0 rfl _ _ HP4.out.range Tryz.underlying138 rfl 18 size_qs (by simpa using HX1.out) ?_; go_simp) | (refine wpList_build1 rfl 98 138 _ rfl X.toArray rfl 18 Tryz.underlying98 zero_qs HX1.out (by decide) (by decide) ?_; go_simp) | (at_builtin; refine wpList_app qsE rfl (.tmp 61) (.tmp 63) rfl rfl (World.ownsRow.alloc HO5.out _) rfl (src_new layQs _ p _ _ ?c0) ?c1 ?c2 ?c3 ?c4 ?_))
            case c0 => first | exact (congrArg List.toArray HX.out).symm | exact HX.out.symm
            case c1 => exact layQs.one p
            case c2 => unfold maxLen; omega
            case c3 => omega
            case c4 => have := HB4.out.size; simp; omega
            intro v' w' hO hG
            have HO' : Hid (OwnK layQs w' w2.heap.size v' (D ++ [q] ++ [p])) := Lib.hid (by
              rw [← HL.out] at hO
              exact OwnK.snoc hO)
            have HB' : Hid (Below w2.heap.size w2 w') := Lib.hid ((Below.alloc HB4.out HB4.out.size _).trans (hG.below (by have := HB4.out.size; simp; omega) (own_base HO4.out)))
            clear hO hG
            go_wp2
            exact ⟨⟨k + 1, _, by omega, by go_num, HA6, HO', HB'⟩, by simp [intOf]; omega⟩
        · have hdi : (((digN q.1 8 : Nat) : Int) == ((digN p.1 8 : Nat) : Int)) = false := by rw [beq_eq_false_iff_ne]; omega
          generalize digN p.1 8 = e8 at *
          generalize digN q.1 8 = e9 at *
          refine wp_region_later (by kernel_rfl) (by kernel_rfl) ?_
          repeat (go_big_quiet_step (fail))
          refine wpQuiet_nil ?_
          rintro w4 ⟨⟨w4', hb⟩, rfl⟩
          try dsimp only
          have hle : ¬ p.1 ≤ q.2 + 1 := HFar.out (fun e => hd (HD8.out.2 e))
          have HP4 := Lib.hid (HP1.out.below hb HP1.out.lt)
          have HO4 := Lib.hid (HO1.out.later hb)
          have HB4 := Lib.hid (HB1.out.trans (hb.mono HB1.out.size))
          clear hb HP1 HO1 HB1 HR1 HR2' HR3 d8 q8 l8 k8 hP hC HPl HC1
          have HA6 : Hid ((S.take (k + 1)).foldl stp [] = D ++ [q] ++ [p]) := Lib.hid (by rw [HA1.out, HM.out, if_neg hle])
          have HO5 : Hid (w4.ownsRow w2.heap.size 138 18 (.slice (some ⟨g2, 0, none⟩) n1 c2) n1 (layQs.all (D ++ [q]))) := Lib.hid (by have := HO4.out; unfold OwnK at this; rw [HL.out] at this; exact this)
          clear HM HSet HY HC2 HFar HCle HD8
          go_wp2_with (first | (refine wpList_loadn rfl 138 _ rfl bx 0 rfl _ _ HP4.out.range Tryz.underlying138 rfl 18 size_qs (by simpa using HX1.out) ?_; go_simp) | (refine wpList_build1 rfl 98 138 _ rfl X.toArray rfl 18 Tryz.underlying98 zero_qs HX1.out (by decide) (by decide) ?_; go_simp) | (at_builtin; refine wpList_app qsE rfl (.tmp 61) (.tmp 63) rfl rfl (World.ownsRow.alloc HO5.out _) rfl (src_new layQs _ p _ _ ?c0) ?c1 ?c2 ?c3 ?c4 ?_))
          case c0 => first | exact (congrArg List.toArray HX.out).symm | exact HX.out.symm
          case c1 => exact layQs.one p
          case c2 => unfold maxLen; omega
          case c3 => omega
          case c4 => have := HB4.out.size; simp; omega
          intro v' w' hO hG
          have HO' : Hid (OwnK layQs w' w2.heap.size v' (D ++ [q] ++ [p])) := Lib.hid (by
            rw [← HL.out] at hO
            exact OwnK.snoc hO)
          have HB' : Hid (Below w2.heap.size w2 w') := Lib.hid ((Below.alloc HB4.out HB4.out.size _).trans (hG.below (by have := HB4.out.size; simp; omega) (own_base HO4.out)))
          clear hO hG
          go_wp2
          exact ⟨⟨k + 1, _, by omega, by go_num, HA6, HO', HB'⟩, by simp [intOf]; omega⟩
    · obtain rfl : k = n := by omega
      have HF : Hid (A = R) := Lib.hid (by rw [← HA.out, List.take_of_length_le (by rw [Hsl.out]; exact Nat.le_refl _)]; exact HS.out)
      go_wp2_with fail
      go_ret
      exact ⟨_, rfl, by rw [← HF.out]; exact HO.out.weak HB2.out.size, HB2.out.trans (HB.out.mono HB2.out.size)⟩
end Go.Proofs.YtaeieigdibanlaaGreatDoor
