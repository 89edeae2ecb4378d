/-
  Rows of entries of tables: how they lie; CheckTable and TableFault.
-/
import Derived.Test.YteccghdegckjhaaGreatDoorTD10
import Derived.Test.YteccghdegckjhaaGreatDoorTD9
set_option linter.unusedVariables false
namespace Go.Proofs.YteccghdegckjhaaGreatDoor
open Go.RowKit Go
set_option linter.unusedVariables false

def enC (x : En) : List Value := [.bool x.1.1, .int .u64 ((x.1.2.1 : Nat) : Int), .int .u64 ((x.1.2.2.1 : Nat) : Int), .int .i64 x.1.2.2.2, .string (strL x.2)]
def layEn : Lay En := ⟨enC, 5, 48, by decide, fun _ => rfl, fun p v hv => by simp [enC] at hv; rcases hv with rfl | rfl | rfl | rfl | rfl <;> rfl⟩
theorem enE : EI Tryz.prog 42 48 5 48 := EI.mk' (z := .agg #[.bool false, .int .u64 0, .int .u64 0, .int .i64 0, .string ⟨#[]⟩]) Tryz.underlying42 (by kernel_rfl) rfl (by decide)
theorem size_en : (Tryz.prog.info? 48).map (·.size) = some 5 := by kernel_rfl
theorem under_en : Tryz.prog.underlying 48 = some (.struct (Tryz.prog.fieldsOf 48)) := by kernel_rfl
theorem zval_en : ∃ z : Value, z.cells.size = 5 ∧ (∀ w, (zeroValue 48).run Tryz.prog w = .ok z w) ∧ ∀ v ∈ z.cells, v.oneCell' = true := ⟨.agg #[.bool false, .int .u64 0, .int .u64 0, .int .i64 0, .string ⟨#[]⟩], rfl, fun w => by kernel_rfl, fun v hv => by
  simp [Value.cells] at hv
  rcases hv with rfl | rfl | rfl | rfl | rfl <;> rfl⟩
theorem RdK.en {w : World} {ad : Option Addr} {L : List En} (h : RdK layEn w ad L) {k : Nat} {s : Bool} {a b : Nat} {n : Int} {t : List UInt8} (hp : L[k]? = some ((s, a, b, n), t)) :
    ∃ g o, ad = some ⟨g, o, none⟩ ∧ g < w.heap.size ∧ w.cell? ⟨g, o + k * 5, none⟩ = some (.bool s) ∧ w.cell? ⟨g, o + k * 5 + 1, none⟩ = some (.int .u64 (a : Int)) ∧ w.cell? ⟨g, o + k * 5 + 2, none⟩ = some (.int .u64 (b : Int)) ∧ w.cell? ⟨g, o + k * 5 + 3, none⟩ = some (.int .i64 n) ∧ w.cell? ⟨g, o + k * 5 + 4, none⟩ = some (.string (strL t)) := by
  obtain ⟨g, o, e, hg, h0⟩ := h k _ hp
  have hE : layEn.enc ((s, a, b, n), t) = [.bool s, .int .u64 (a : Int), .int .u64 (b : Int), .int .i64 n, .string (strL t)] := rfl
  have hK : layEn.K = 5 := rfl
  rw [hE, hK] at h0
  exact ⟨g, o, e, hg, h0 0 _ rfl, h0 1 _ rfl, h0 2 _ rfl, h0 3 _ rfl, h0 4 _ rfl⟩
/-- numbers that a uint64 holds, keys that are not too long -/
def UE (T : List En) : Prop := ∀ e ∈ T, u2P e.1 ∧ e.2.length ≤ 1000
theorem enF_ok {e : En} (h : enF e = 0) (hu : u2P e.1) : OkPf e.1 ∧ keyB e.2 = true := by
  unfold enF at h
  by_cases h1 : pfF e.1 ≠ 0
  · rw [if_pos h1] at h; exact absurd h h1
  · rw [if_neg h1] at h
    by_cases h2 : keyB e.2 = false
    · rw [if_pos h2] at h; cases h
    · exact ⟨okPf_of (Decidable.not_not.1 h1) hu.1 hu.2, by simpa using h2⟩
theorem keyB_ne {k : List UInt8} (h : keyB k = true) : k ≠ [] := fun e => by
  subst e
  revert h
  decide
theorem tabAt_zero {T : List En} {i : Nat} (h : tabAt T i = 0) : enF (T.getD i zEn) = 0 := by
  unfold tabAt at h
  by_cases h1 : enF (T.getD i zEn) ≠ 0
  · rw [if_pos h1] at h; exact h
  · simpa using h1
theorem tabF_ok {T : List En} (h : tabF T = 0) (hu : UE T) : OkT T ∧ T.length ≤ 500 := by
  unfold tabF at h
  by_cases hl : 500 < T.length
  · rw [if_pos hl] at h; cases h
  · rw [if_neg hl] at h
    refine ⟨fun e he => ?_, by omega⟩
    obtain ⟨i, hi, rfl⟩ := List.getElem_of_mem he
    have h1 := tabAt_zero (firstN_zero h i hi)
    simp only [List.getD, List.getElem?_eq_getElem hi, Option.getD_some] at h1
    obtain ⟨a, b⟩ := enF_ok h1 (hu _ he).1
    exact ⟨a, keyB_ne b⟩
-- walks
set_option maxRecDepth 100000 in
set_option maxHeartbeats 8000000 in
theorem checkTable_any (ad : Option Addr) (n c : Nat) (L : List En) (w : World) (h : RdK layEn w ad L) (hn : L.length = n) (hs : n ≤ 100000) (hu : UE L) :
    Calls Tryz.prog 25 #[.slice ad n c] w (Ret (.int .i64 (tabF L)) w) := by
  by_cases hb : 500 < n
  · have e : tabF L = 2 := by unfold tabF; rw [hn, if_pos hb]
    rw [e]
    have hb2 : (n : Int) > 500 := by omega
    clear h hu hn e
    go_enter Tryz.func25, Tryz.ntmps25
    go_wp2_with fail
    go_ret
    exact ⟨rfl, Below.refl _ _⟩
  · have hb2 : ¬ (n : Int) > 500 := by omega
    have H0 := Lib.hid h
    have Hn := Lib.hid hn
    have Hu := Lib.hid hu
    have HF : Hid (∀ k, k < n → (∀ j, j < k → tabAt L j = 0) → tabAt L k ≠ 0 → tabF L = tabAt L k) := Lib.hid fun k hk h1 h2 => by
      have e := firstN_hit (tabAt L) n k hk h1 h2
      unfold tabF
      rw [hn, if_neg hb, e]
    have HZ : Hid ((∀ j, j < n → tabAt L j = 0) → tabF L = 0) := Lib.hid fun h1 => by
      unfold tabF
      rw [hn, if_neg hb, firstN_none (tabAt L) n h1]
    obtain ⟨af, haf⟩ : ∃ z, tabF L = z := ⟨_, rfl⟩
    rw [haf] at HF HZ ⊢
    clear haf h hn hu hb
    go_enter Tryz.func25, Tryz.ntmps25
    go_wp2_with fail
    go_loopw [3, 4, 5, 11] (fun iv bx ev i wr => ∃ (k : Nat), k ≤ n ∧ i = .int .i64 k ∧ Hid (∀ j, j < k → tabAt L j = 0) ∧ Hid (Below w.heap.size w wr)) (fun _ _ _ i _ => n - (intOf i).toNat)
    case atStart => exact ⟨0, Nat.zero_le _, rfl, Lib.hid fun j hj => absurd hj (Nat.not_lt_zero _), Lib.hid (Below.refl _ _)⟩
    case round =>
      obtain ⟨k, hk, rfl, HX, HB⟩ := hrel
      by_cases hlt : k < n
      · have hS : k < L.length := by rw [Hn.out]; exact hlt
        obtain ⟨x, hp⟩ : ∃ x, L[k]? = some x := ⟨_, List.getElem?_eq_getElem hS⟩
        have hpd : L.getD k zEn = x := by simp [List.getD, hp]
        have HU := Lib.hid (Hu.out x (List.mem_of_getElem? hp))
        have HP := Lib.hid fun wx => checkPrefix_any x.1.1 x.1.2.1 x.1.2.2.1 x.1.2.2.2 wx HU.out.1.1 HU.out.1.2
        have HKy := Lib.hid fun wx => isKey_any x.2 wx (by have := HU.out.2; omega)
        have HFk := Lib.hid (HF.out k hlt HX.out)
        have HXk : Hid (tabAt L k = 0 → ∀ j, j < k + 1 → tabAt L j = 0) := Lib.hid fun e j hj => by
          rcases Nat.lt_or_ge j k with h1 | h1
          · exact HX.out j h1
          · obtain rfl : j = k := by omega
            exact e
        have HA : Hid (tabAt L k = if enF x ≠ 0 then enF x else if 0 < k ∧ prLt (L.getD (k - 1) zEn).1 x.1 = false then 7 else 0) := Lib.hid (by unfold tabAt; rw [hpd])
        have HEn : Hid (enF x = if pfF x.1 ≠ 0 then pfF x.1 else if keyB x.2 = false then 5 else 0) := Lib.hid rfl
        have HOk : Hid (pfF x.1 = 0 → OkPf x.1) := Lib.hid fun h => okPf_of h HU.out.1.1 HU.out.1.2
        have HOp : Hid (∀ j, j + 1 = k → ∀ y, L[j]? = some y → OkPf y.1) := Lib.hid fun j hj y hy => by
          have h1 := tabAt_zero (HX.out j (by omega))
          have : L.getD j zEn = y := by simp [List.getD, hy]
          rw [this] at h1
          exact (enF_ok h1 (Hu.out y (List.mem_of_getElem? hy)).1).1
        unfold pfF at HEn HOk
        obtain ⟨⟨a1, a2, a3, a4⟩, ky⟩ := x
        obtain ⟨g, o, had, hg, c0, c1, c2, c3, c4⟩ := (H0.out.below HB.out).en hp
        subst had
        simp only at HP HEn HOk HKy HU
        clear hp hS hpd hg HX
        generalize pFault a1 a2 a3 a4 = F at *
        generalize keyB ky = KB at *
        obtain ⟨EF, hEF⟩ : ∃ z, enF ((a1, a2, a3, a4), ky) = z := ⟨_, rfl⟩
        rw [hEF] at HA HEn
        generalize strL ky = K at *
        clear hEF
        have HB1 : Hid (Below w.heap.size w (wr.alloc (.cells #[.bool a1, .int .u64 (a2 : Int), .int .u64 (a3 : Int), .int .i64 a4, .string K] 48 (0, 0)))) := Lib.hid (Below.alloc HB.out HB.out.size _)
        have HP1 : Hid (Blk (wr.alloc (.cells #[.bool a1, .int .u64 (a2 : Int), .int .u64 (a3 : Int), .int .i64 a4, .string K] 48 (0, 0))) wr.heap.size 48 #[.bool a1, .int .u64 (a2 : Int), .int .u64 (a3 : Int), .int .i64 a4, .string K]) := Lib.hid (Blk.new wr _ _)
        go_upto_region 6 with fail
        generalize wr.alloc (.cells #[.bool a1, .int .u64 (a2 : Int), .int .u64 (a3 : Int), .int .i64 a4, .string K] 48 (0, 0)) = w3 at *
        generalize wr.heap.size = bx at *
        clear HB c0 c1 c2 c3 c4
        have d0 := HP1.out.cell 0
        have d1 := HP1.out.cell 1
        have d2 := HP1.out.cell 2
        have d3 := HP1.out.cell 3
        have d4 := HP1.out.cell 4
        simp at d0 d1 d2 d3 d4
        go_wp2_with fail
        refine (HP.out _).mono ?_
        rintro e w4 ⟨rfl, hb⟩
        have HB4 := Lib.hid (HB1.out.trans (hb.mono HB1.out.size))
        have HP4 := Lib.hid (HP1.out.below hb HP1.out.lt)
        clear hb HB1 HP1 HP d0 d1 d2 d3 d4
        by_cases hF0 : F = 0
        · have HOx := Lib.hid (HOk.out hF0)
          subst hF0
          have d0 := HP4.out.cell 0
          have d1 := HP4.out.cell 1
          have d2 := HP4.out.cell 2
          have d3 := HP4.out.cell 3
          have d4 := HP4.out.cell 4
          simp at d0 d1 d2 d3 d4
          go_wp2_with fail
          refine (HKy.out _).mono ?_
          rintro e w5 ⟨rfl, rfl⟩
          have HB5 := HB4
          have HP5 := HP4
          clear HB4 HP4 HKy d0 d1 d2 d3 d4 HOk
          cases KB
          · have hE5 : EF = 5 := HEn.out
            have hA5 : tabAt L k = 5 := by rw [HA.out, hE5]; rfl
            have HE : Hid (af = 5) := Lib.hid (by rw [HFk.out (by rw [hA5]; decide), hA5])
            clear HFk HXk HA HEn HU hE5 hA5 HOx HOp
            go_wp2_with fail
            go_ret
            exact ⟨by rw [HE.out]; rfl, HB5.out⟩
          · have hE0 : EF = 0 := HEn.out
            subst hE0
            clear HEn
            rcases Nat.eq_zero_or_pos k with hk0 | hk0
            · have HX2 := Lib.hid (HXk.out (by rw [HA.out, if_neg (by decide), if_neg (by omega)]))
              subst hk0
              have z0 : ((0 : Nat) : Int) = 0 := rfl
              simp only [z0]
              clear HFk HXk HA HU HOx HOp
              go_upto_region 11 with fail
              refine wp_region_later (by kernel_rfl) (by kernel_rfl) ?_
              repeat (go_big_quiet_step (fail))
              refine wpQuiet_nil ?_
              rintro w6 ⟨n5, hn5⟩
              have hb : Below w5.heap.size w5 w6 := by rw [hn5]; exact n5.2
              clear hn5 n5
              have HB6 := Lib.hid (HB5.out.trans (hb.mono HB5.out.size))
              clear hb
              go_wp2_with fail
              exact ⟨⟨1, by omega, by first | rfl | go_num, HX2, HB6⟩, by simp [intOf]; omega⟩
            · obtain ⟨j, hj⟩ : ∃ j, k = j + 1 := ⟨k - 1, by omega⟩
              have hjS : j < L.length := by rw [Hn.out]; omega
              obtain ⟨y, hq⟩ : ∃ y, L[j]? = some y := ⟨_, List.getElem?_eq_getElem hjS⟩
              have hqd : L.getD (k - 1) zEn = y := by rw [hj]; simp [List.getD, hq]
              have huq := (Hu.out y (List.mem_of_getElem? hq)).1
              have HOy := Lib.hid (HOp.out j hj.symm y hq)
              have HO := Lib.hid fun wx => comparePfx_any y.1 (a1, a2, a3, a4) wx huq HU.out.1
              have HGe := Lib.hid (ord_ge y.1 (a1, a2, a3, a4))
              have HA2 : Hid (tabAt L k = if prLt y.1 (a1, a2, a3, a4) = false then 7 else 0) := Lib.hid (by
                rw [HA.out, if_neg (by decide), hqd]
                by_cases h1 : prLt y.1 (a1, a2, a3, a4) = false
                · rw [if_pos h1, if_pos ⟨hk0, h1⟩]
                · rw [if_neg h1, if_neg (fun h => h1 h.2)])
              clear hqd hjS huq HA HOx HOy HOp HU
              obtain ⟨⟨e1, e2, e3, e4⟩, ky2⟩ := y
              simp only at HO HGe HA2
              obtain ⟨g', o', had, hg', b0, b1, b2, b3, b4⟩ := (H0.out.below HB5.out).en hq
              injection had with had
              injection had with had1 had2
              subst had1 had2
              clear hq hg'
              rw [show (pfC (a1, a2, a3, a4)).toArray = #[.bool a1, .int .u64 (a2 : Int), .int .u64 (a3 : Int), .int .i64 a4] from rfl, show (pfC (e1, e2, e3, e4)).toArray = #[.bool e1, .int .u64 (e2 : Int), .int .u64 (e3 : Int), .int .i64 e4] from rfl] at HO
              generalize prLt (e1, e2, e3, e4) (a1, a2, a3, a4) = pl at *
              generalize orI _ _ = C at HO HGe
              have i1 : (k : Int) - 1 = (j : Int) := by omega
              have i2 : decide (0 < k) = true := decide_eq_true hk0
              have i3 : (j : Int) < (n : Int) := by omega
              have i4 : (0 : Int) ≤ (j : Int) := by omega
              have i5 : (k : Int) ≤ 500 := by omega
              have i6 : (0 : Int) < (k : Int) := by omega
              have Hj := Lib.hid hj
              clear hj hk0
              have d0 := HP5.out.cell 0
              have d1 := HP5.out.cell 1
              have d2 := HP5.out.cell 2
              have d3 := HP5.out.cell 3
              simp at d0 d1 d2 d3
              have l0 := Later.cell_of d0
              have k0 := Later.cell_of b0
              have l1 := Later.cell_of d1
              have k1 := Later.cell_of b1
              have l2 := Later.cell_of d2
              have k2 := Later.cell_of b2
              have l3 := Later.cell_of d3
              have k3 := Later.cell_of b3
              have hO := fun x : Later w5 => Calls.later x ((HO.out x.1).mono fun _ _ h => h.ret)
              go_upto_region 11 with fail
              refine wp_region_later (by kernel_rfl) (by kernel_rfl) ?_
              repeat (go_big_quiet_step ((go_at_call 61; exact hO _)))
              refine wpQuiet_nil ?_
              rintro w6 ⟨n5, hn5⟩
              have hb : Below w5.heap.size w5 w6 := by rw [hn5]; exact n5.2
              clear hn5 n5 hO HO l0 l1 l2 l3 k0 k1 k2 k3 d0 d1 d2 d3 b0 b1 b2 b3 b4
              have HB6 := Lib.hid (HB5.out.trans (hb.mono HB5.out.size))
              clear hb HP5 HB5
              by_cases hnn : pl = false
              · have hC0 : C ≥ 0 := HGe.out.2 hnn
                have HE := Lib.hid (HFk.out (by rw [HA2.out, if_pos hnn]; decide))
                have HE2 : Hid (af = 7) := Lib.hid (by rw [HE.out, HA2.out, if_pos hnn])
                clear HFk HXk HA2 HE
                go_wp2_with fail
                go_ret
                exact ⟨by rw [HE2.out]; rfl, HB6.out⟩
              · have hC0 : ¬ C ≥ 0 := fun h => hnn (HGe.out.1 h)
                have HX2 := Lib.hid (HXk.out (by rw [HA2.out, if_neg hnn]))
                clear HFk HXk HA2
                go_wp2_with fail
                exact ⟨⟨k + 1, by omega, by go_num, HX2, HB6⟩, by simp [intOf]; omega⟩
        · have hF2 : (F != 0) = true := by simpa using hF0
          have hEF : EF = F := by rw [HEn.out, if_pos hF0]
          have hFA : tabAt L k = F := by rw [HA.out, hEF, if_pos hF0]
          have HE : Hid (af = F) := Lib.hid (by rw [HFk.out (by rw [hFA]; exact hF0), hFA])
          clear HFk HXk hF0 HA hFA HU HKy HEn hEF HOk HOp
          go_wp2_with fail
          go_ret
          exact ⟨by rw [HE.out]; rfl, HB4.out⟩
      · obtain rfl : k = n := by omega
        have HE := Lib.hid (HZ.out HX.out)
        go_wp2_with fail
        go_ret
        exact ⟨by rw [HE.out]; rfl, HB.out⟩
set_option maxRecDepth 100000 in
set_option maxHeartbeats 8000000 in
theorem tableFault_any (ad : Option Addr) (n c : Nat) (L : List En) (w : World) (h : RdK layEn w ad L) (hn : L.length = n) (hs : n ≤ 100000) (hu : UE L) :
    Calls Tryz.prog 22 #[.slice ad n c] w (Ret (.int .i64 (tabF L)) w) := by
  by_cases hb : 500 < n
  · have e : tabF L = 2 := by unfold tabF; rw [hn, if_pos hb]
    rw [e]
    have hb2 : (n : Int) > 500 := by omega
    clear h hu hn e
    go_enter Tryz.func22, Tryz.ntmps22
    go_wp2_with fail
    go_ret
    exact ⟨rfl, Below.refl _ _⟩
  · have hb2 : ¬ (n : Int) > 500 := by omega
    have H0 := Lib.hid h
    have Hn := Lib.hid hn
    have Hu := Lib.hid hu
    have HF : Hid (∀ k, k < n → (∀ j, j < k → tabAt L j = 0) → tabAt L k ≠ 0 → tabF L = tabAt L k) := Lib.hid fun k hk h1 h2 => by
      have e := firstN_hit (tabAt L) n k hk h1 h2
      unfold tabF
      rw [hn, if_neg hb, e]
    have HZ : Hid ((∀ j, j < n → tabAt L j = 0) → tabF L = 0) := Lib.hid fun h1 => by
      unfold tabF
      rw [hn, if_neg hb, firstN_none (tabAt L) n h1]
    obtain ⟨af, haf⟩ : ∃ z, tabF L = z := ⟨_, rfl⟩
    rw [haf] at HF HZ ⊢
    clear haf h hn hu hb
    go_enter Tryz.func22, Tryz.ntmps22
    go_wp2_with fail
    go_loopw [3, 4, 5, 11] (fun iv bx ev i wr => ∃ (k : Nat), k ≤ n ∧ i = .int .i64 k ∧ Hid (∀ j, j < k → tabAt L j = 0) ∧ Hid (Below w.heap.size w wr)) (fun _ _ _ i _ => n - (intOf i).toNat)
    case atStart => exact ⟨0, Nat.zero_le _, rfl, Lib.hid fun j hj => absurd hj (Nat.not_lt_zero _), Lib.hid (Below.refl _ _)⟩
    case round =>
      obtain ⟨k, hk, rfl, HX, HB⟩ := hrel
      by_cases hlt : k < n
      · have hS : k < L.length := by rw [Hn.out]; exact hlt
        obtain ⟨x, hp⟩ : ∃ x, L[k]? = some x := ⟨_, List.getElem?_eq_getElem hS⟩
        have hpd : L.getD k zEn = x := by simp [List.getD, hp]
        have HU := Lib.hid (Hu.out x (List.mem_of_getElem? hp))
        have HP := Lib.hid fun wx => prefixFault_any x.1.1 x.1.2.1 x.1.2.2.1 x.1.2.2.2 wx HU.out.1.1 HU.out.1.2
        have HKy := Lib.hid fun wx => qKey_any x.2 wx (by have := HU.out.2; omega)
        have HFk := Lib.hid (HF.out k hlt HX.out)
        have HXk : Hid (tabAt L k = 0 → ∀ j, j < k + 1 → tabAt L j = 0) := Lib.hid fun e j hj => by
          rcases Nat.lt_or_ge j k with h1 | h1
          · exact HX.out j h1
          · obtain rfl : j = k := by omega
            exact e
        have HA : Hid (tabAt L k = if enF x ≠ 0 then enF x else if 0 < k ∧ prLt (L.getD (k - 1) zEn).1 x.1 = false then 7 else 0) := Lib.hid (by unfold tabAt; rw [hpd])
        have HEn : Hid (enF x = if pfF x.1 ≠ 0 then pfF x.1 else if keyB x.2 = false then 5 else 0) := Lib.hid rfl
        have HOk : Hid (pfF x.1 = 0 → OkPf x.1) := Lib.hid fun h => okPf_of h HU.out.1.1 HU.out.1.2
        have HOp : Hid (∀ j, j + 1 = k → ∀ y, L[j]? = some y → OkPf y.1) := Lib.hid fun j hj y hy => by
          have h1 := tabAt_zero (HX.out j (by omega))
          have : L.getD j zEn = y := by simp [List.getD, hy]
          rw [this] at h1
          exact (enF_ok h1 (Hu.out y (List.mem_of_getElem? hy)).1).1
        unfold pfF at HEn HOk
        obtain ⟨⟨a1, a2, a3, a4⟩, ky⟩ := x
        obtain ⟨g, o, had, hg, c0, c1, c2, c3, c4⟩ := (H0.out.below HB.out).en hp
        subst had
        simp only at HP HEn HOk HKy HU
        clear hp hS hpd hg HX
        generalize pFault a1 a2 a3 a4 = F at *
        generalize keyB ky = KB at *
        obtain ⟨EF, hEF⟩ : ∃ z, enF ((a1, a2, a3, a4), ky) = z := ⟨_, rfl⟩
        rw [hEF] at HA HEn
        generalize strL ky = K at *
        clear hEF
        have HB1 : Hid (Below w.heap.size w (wr.alloc (.cells #[.bool a1, .int .u64 (a2 : Int), .int .u64 (a3 : Int), .int .i64 a4, .string K] 48 (0, 0)))) := Lib.hid (Below.alloc HB.out HB.out.size _)
        have HP1 : Hid (Blk (wr.alloc (.cells #[.bool a1, .int .u64 (a2 : Int), .int .u64 (a3 : Int), .int .i64 a4, .string K] 48 (0, 0))) wr.heap.size 48 #[.bool a1, .int .u64 (a2 : Int), .int .u64 (a3 : Int), .int .i64 a4, .string K]) := Lib.hid (Blk.new wr _ _)
        go_upto_region 6 with fail
        generalize wr.alloc (.cells #[.bool a1, .int .u64 (a2 : Int), .int .u64 (a3 : Int), .int .i64 a4, .string K] 48 (0, 0)) = w3 at *
        generalize wr.heap.size = bx at *
        clear HB c0 c1 c2 c3 c4
        have d0 := HP1.out.cell 0
        have d1 := HP1.out.cell 1
        have d2 := HP1.out.cell 2
        have d3 := HP1.out.cell 3
        have d4 := HP1.out.cell 4
        simp at d0 d1 d2 d3 d4
        go_wp2_with fail
        refine (HP.out _).mono ?_
        rintro e w4 ⟨rfl, hb⟩
        have HB4 := Lib.hid (HB1.out.trans (hb.mono HB1.out.size))
        have HP4 := Lib.hid (HP1.out.below hb HP1.out.lt)
        clear hb HB1 HP1 HP d0 d1 d2 d3 d4
        by_cases hF0 : F = 0
        · have HOx := Lib.hid (HOk.out hF0)
          subst hF0
          have d0 := HP4.out.cell 0
          have d1 := HP4.out.cell 1
          have d2 := HP4.out.cell 2
          have d3 := HP4.out.cell 3
          have d4 := HP4.out.cell 4
          simp at d0 d1 d2 d3 d4
          go_wp2_with fail
          refine (HKy.out _).mono ?_
          rintro e w5 ⟨rfl, hb⟩
          have HB5 := Lib.hid (HB4.out.trans (hb.mono HB4.out.size))
          have HP5 := Lib.hid (HP4.out.below hb HP4.out.lt)
          clear hb
          clear HB4 HP4 HKy d0 d1 d2 d3 d4 HOk
          cases KB
          · have hE5 : EF = 5 := HEn.out
            have hA5 : tabAt L k = 5 := by rw [HA.out, hE5]; rfl
            have HE : Hid (af = 5) := Lib.hid (by rw [HFk.out (by rw [hA5]; decide), hA5])
            clear HFk HXk HA HEn HU hE5 hA5 HOx HOp
            go_wp2_with fail
            go_ret
            exact ⟨by rw [HE.out]; rfl, HB5.out⟩
          · have hE0 : EF = 0 := HEn.out
            subst hE0
            clear HEn
            rcases Nat.eq_zero_or_pos k with hk0 | hk0
            · have HX2 := Lib.hid (HXk.out (by rw [HA.out, if_neg (by decide), if_neg (by omega)]))
              subst hk0
              have z0 : ((0 : Nat) : Int) = 0 := rfl
              simp only [z0]
              clear HFk HXk HA HU HOx HOp
              go_upto_region 11 with fail
              refine wp_region_later (by kernel_rfl) (by kernel_rfl) ?_
              repeat (go_big_quiet_step (fail))
              refine wpQuiet_nil ?_
              rintro w6 ⟨n5, hn5⟩
              have hb : Below w5.heap.size w5 w6 := by rw [hn5]; exact n5.2
              clear hn5 n5
              have HB6 := Lib.hid (HB5.out.trans (hb.mono HB5.out.size))
              clear hb
              go_wp2_with fail
              exact ⟨⟨1, by omega, by first | rfl | go_num, HX2, HB6⟩, by simp [intOf]; omega⟩
            · obtain ⟨j, hj⟩ : ∃ j, k = j + 1 := ⟨k - 1, by omega⟩
              have hjS : j < L.length := by rw [Hn.out]; omega
              obtain ⟨y, hq⟩ : ∃ y, L[j]? = some y := ⟨_, List.getElem?_eq_getElem hjS⟩
              have hqd : L.getD (k - 1) zEn = y := by rw [hj]; simp [List.getD, hq]
              have huq := (Hu.out y (List.mem_of_getElem? hq)).1
              have HOy := Lib.hid (HOp.out j hj.symm y hq)
              have hbx := okPf_bits HOx.out
              have hby := okPf_bits HOy.out
              have HO := Lib.hid fun wx => prefixOrder_any y.1 (a1, a2, a3, a4) wx huq HU.out.1 (by obtain ⟨n, e, hl⟩ := hby; omega) (by obtain ⟨n, e, hl⟩ := hbx; omega)
              have HGe := Lib.hid (ord_ge2 y.1 (a1, a2, a3, a4))
              clear hbx hby
              have HA2 : Hid (tabAt L k = if prLt y.1 (a1, a2, a3, a4) = false then 7 else 0) := Lib.hid (by
                rw [HA.out, if_neg (by decide), hqd]
                by_cases h1 : prLt y.1 (a1, a2, a3, a4) = false
                · rw [if_pos h1, if_pos ⟨hk0, h1⟩]
                · rw [if_neg h1, if_neg (fun h => h1 h.2)])
              clear hqd hjS huq HA HOx HOy HOp HU
              obtain ⟨⟨e1, e2, e3, e4⟩, ky2⟩ := y
              simp only at HO HGe HA2
              obtain ⟨g', o', had, hg', b0, b1, b2, b3, b4⟩ := (H0.out.below HB5.out).en hq
              injection had with had
              injection had with had1 had2
              subst had1 had2
              clear hq hg'
              rw [show (pfC (a1, a2, a3, a4)).toArray = #[.bool a1, .int .u64 (a2 : Int), .int .u64 (a3 : Int), .int .i64 a4] from rfl, show (pfC (e1, e2, e3, e4)).toArray = #[.bool e1, .int .u64 (e2 : Int), .int .u64 (e3 : Int), .int .i64 e4] from rfl] at HO
              generalize prLt (e1, e2, e3, e4) (a1, a2, a3, a4) = pl at *
              generalize orI _ _ = C at HO HGe
              have i1 : (k : Int) - 1 = (j : Int) := by omega
              have i2 : decide (0 < k) = true := decide_eq_true hk0
              have i3 : (j : Int) < (n : Int) := by omega
              have i4 : (0 : Int) ≤ (j : Int) := by omega
              have i5 : (k : Int) ≤ 500 := by omega
              have i6 : (0 : Int) < (k : Int) := by omega
              have Hj := Lib.hid hj
              clear hj hk0
              have d0 := HP5.out.cell 0
              have d1 := HP5.out.cell 1
              have d2 := HP5.out.cell 2
              have d3 := HP5.out.cell 3
              simp at d0 d1 d2 d3
              have l0 := Later.cell_of d0
              have k0 := Later.cell_of b0
              have l1 := Later.cell_of d1
              have k1 := Later.cell_of b1
              have l2 := Later.cell_of d2
              have k2 := Later.cell_of b2
              have l3 := Later.cell_of d3
              have k3 := Later.cell_of b3
              have hO := fun x : Later w5 => Calls.later x ((HO.out x.1).mono fun _ _ h => h.ret)
              go_upto_region 11 with fail
              refine wp_region_later (by kernel_rfl) (by kernel_rfl) ?_
              repeat (go_big_quiet_step ((go_at_call 59; exact hO _)))
              refine wpQuiet_nil ?_
              rintro w6 ⟨n5, hn5⟩
              have hb : Below w5.heap.size w5 w6 := by rw [hn5]; exact n5.2
              clear hn5 n5 hO HO l0 l1 l2 l3 k0 k1 k2 k3 d0 d1 d2 d3 b0 b1 b2 b3 b4
              have HB6 := Lib.hid (HB5.out.trans (hb.mono HB5.out.size))
              clear hb HP5 HB5
              by_cases hnn : pl = false
              · have hC0 : C ≥ 0 := HGe.out.2 hnn
                have HE := Lib.hid (HFk.out (by rw [HA2.out, if_pos hnn]; decide))
                have HE2 : Hid (af = 7) := Lib.hid (by rw [HE.out, HA2.out, if_pos hnn])
                clear HFk HXk HA2 HE
                go_wp2_with fail
                go_ret
                exact ⟨by rw [HE2.out]; rfl, HB6.out⟩
              · have hC0 : ¬ C ≥ 0 := fun h => hnn (HGe.out.1 h)
                have HX2 := Lib.hid (HXk.out (by rw [HA2.out, if_neg hnn]))
                clear HFk HXk HA2
                go_wp2_with fail
                exact ⟨⟨k + 1, by omega, by go_num, HX2, HB6⟩, by simp [intOf]; omega⟩
        · have hF2 : (F != 0) = true := by simpa using hF0
          have hEF : EF = F := by rw [HEn.out, if_pos hF0]
          have hFA : tabAt L k = F := by rw [HA.out, hEF, if_pos hF0]
          have HE : Hid (af = F) := Lib.hid (by rw [HFk.out (by rw [hFA]; exact hF0), hFA])
          clear HFk HXk hF0 HA hFA HU HKy HEn hEF HOk HOp
          go_wp2_with fail
          go_ret
          exact ⟨by rw [HE.out]; rfl, HB4.out⟩
      · obtain rfl : k = n := by omega
        have HE := Lib.hid (HZ.out HX.out)
        go_wp2_with fail
        go_ret
        exact ⟨by rw [HE.out]; rfl, HB.out⟩
end Go.Proofs.YteccghdegckjhaaGreatDoor
