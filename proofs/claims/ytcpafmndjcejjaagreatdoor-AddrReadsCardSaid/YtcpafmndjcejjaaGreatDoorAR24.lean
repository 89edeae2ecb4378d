/-
  Groups of an address, read by the reference. Condition: at most a million bytes.
-/
import Derived.Test.YtcpafmndjcejjaaGreatDoorAR23
set_option linter.unusedVariables false
namespace Go.Proofs.YtcpafmndjcejjaaGreatDoor
open Go.RowKit Go Go.Sort
set_option linter.unusedVariables false

set_option maxRecDepth 100000 in
set_option maxHeartbeats 4000000 in
theorem qGroups_any (s : List UInt8) (last : Bool) (w : World) (hv : Vr w) (hs : s.length ≤ 1000000) :
    Calls Tryz.prog 31 #[.string (strL s), .bool last] w (GrpPost w (grpF s last)) := by
  have HSp := Lib.hid (split_any s 58 w hv hs)
  have HV0 := Lib.hid hv
  have hxs : ∀ x ∈ spl 58 s, x.length ≤ 1000000 := fun x h => Nat.le_trans (spl_mem 58 s x h).2.2 hs
  have Hxs := Lib.hid hxs
  have hnl : (spl 58 s).length ≤ 1000001 := by
    rw [spl_len]
    have := List.count_le_length (a := (58 : UInt8)) (l := s)
    omega
  have HF : Hid (grpF s last = if s = [] then some [] else grpL last (spl 58 s) []) := Lib.hid rfl
  have hse := strL_list s
  obtain ⟨R, hR⟩ : ∃ q, grpF s last = q := ⟨_, rfl⟩
  rw [hR] at HF ⊢
  clear hR hv hxs
  generalize spl 58 s = L at *
  obtain ⟨n, hn⟩ : ∃ q, L.length = q := ⟨_, rfl⟩
  have Hn := Lib.hid hn
  rw [hn] at HSp hnl
  clear hn
  obtain ⟨SS, hSS⟩ : ∃ q, strL s = q := ⟨_, rfl⟩
  rw [hSS] at HSp hse ⊢
  clear hSS
  go_enter Tryz.func31, Tryz.ntmps31
  by_cases h0 : s = []
  · subst h0
    have hF := HF.out
    rw [if_pos rfl] at hF
    subst hF
    clear HF HSp
    go_wp2_with fail
    go_ret2
    exact ⟨none, 0, 0, rfl, fun G hG => (by injection hG with hG; subst hG; exact OwnK.nil _ _ _), Below.refl _ _⟩
  · have hF := HF.out
    rw [if_neg h0] at hF
    have HF2 := Lib.hid hF.symm
    have hem : s.isEmpty = false := by cases s with
      | nil => exact absurd rfl h0
      | cons _ _ => rfl
    clear HF hF
    go_wp2_with fail
    refine HSp.out.mono ?_
    rintro e w1 ⟨g, rfl, hr, hb⟩
    have HR1 := Lib.hid hr
    have HB1 := Lib.hid hb
    have HV1 := Lib.hid (HV0.out.below hb)
    clear hr hb HSp HV0 hse
    go_wp2_with fail
    go_loopw [7, 20] (fun u i wr => ∃ (k : Nat) (G : List Nat), k ≤ n ∧ i = .int .i64 (k : Int) ∧ Hid (OwnK layU wr w1.heap.size u G) ∧ Hid (G.length ≤ k + 1 ∧ (k < n → G.length ≤ k)) ∧ Hid (grpL last (L.drop k) G = R) ∧ Hid (Below w1.heap.size w1 wr)) (fun _ i _ => n - (intOf i).toNat)
    case atStart => exact ⟨0, [], Nat.zero_le _, rfl, Lib.hid (OwnK.nil _ _ _), Lib.hid ⟨by simp, fun _ => Nat.le_refl _⟩, HF2, Lib.hid (Below.refl _ _)⟩
    case round =>
      clear HF2
      obtain ⟨k, G, hk, rfl, HO, HL, HA, HB⟩ := hrel
      have HR := Lib.hid (HR1.out.below HB.out)
      have HV := Lib.hid (HV1.out.below HB.out)
      obtain ⟨ao, co, hvo, -⟩ := HO.out.form
      subst hvo
      obtain ⟨d, hd⟩ : ∃ q, G.length = q := ⟨_, rfl⟩
      have Hd := Lib.hid hd
      rw [hd] at HO HL ⊢
      have hdk1 := HL.out.1
      clear hd
      by_cases hlt : k < n
      · have hdk := HL.out.2 hlt
        obtain ⟨x, hx⟩ : ∃ x, L[k]? = some x := ⟨_, List.getElem?_eq_getElem (by rw [Hn.out]; exact hlt)⟩
        have HSt := Lib.hid (grpL_stepQ (last := last) (G := G) hx Hn.out)
        have hc := HR.out.2 k x hx
        have hgl := HR.out.1
        have hxl := Hxs.out x (List.mem_of_getElem? hx)
        have HFx := Lib.hid (qFour_any x wr HV.out hxl)
        have HTr := Lib.hid fun wx => only_any x hexSet wx hxl (by decide) hexSet_ascii
        rw [hexSet_all x] at HTr
        have HPu := Lib.hid fun wx (h1 : x.all isHx = true) (h2 : 1 ≤ x.length) (h3 : x.length ≤ 4) => pu16_any x 32 wx (.inr rfl) h1 h2 h3
        have HFl : Hid (∀ m, fourF x = some m → m < 4294967296) := Lib.hid fun m h => fourF_lt h
        have HHx : Hid (hexOk x = (!x.isEmpty && decide (x.length ≤ 4) && x.all isHx)) := Lib.hid rfl
        have hsz : (strL x).size = x.length := strL_size x
        have hls : (strL x).toList = x := strL_list x
        have e46 : strL hexSet = ⟨#[48, 49, 50, 51, 52, 53, 54, 55, 56, 57, 97, 98, 99, 100, 101, 102, 65, 66, 67, 68, 69, 70]⟩ := rfl
        have hHv : x.all isHx = true → x.length ≤ 4 → hxV x < 65536 := fun h1 h2 => hxV_lt h1 h2
        have HHv := Lib.hid hHv
        rw [e46] at HTr
        obtain ⟨SX, hSX⟩ : ∃ q, strL x = q := ⟨_, rfl⟩
        rw [hSX] at hc hsz hls HFx HTr HPu
        clear hx e46 hSX hHv
        generalize fourF x = FX at *
        generalize hxV x = XV at *
        generalize x.all isHx = AH at *
        generalize hexOk x = HK at *
        obtain ⟨q, hq⟩ : ∃ q, (FX.isSome && last && decide (k + 1 = n)) = q := ⟨_, rfl⟩
        rw [hq] at HSt
        have Hq := Lib.hid hq
        clear hq
        obtain ⟨m, hm⟩ : ∃ q : Nat, FX.getD 0 = q := ⟨_, rfl⟩
        have hm4 : m < 4294967296 := by
          cases FX with
          | none => have : 0 = m := hm
                    omega
          | some u => have : u = m := hm
                      subst this; exact HFl.out u rfl
        rw [hm] at HSt HFx
        obtain ⟨FB, hFB⟩ : ∃ q, FX.isSome = q := ⟨_, rfl⟩
        rw [hFB] at HFx Hq
        clear hm hFB HFl
        go_wp2_with fail
        refine HFx.out.mono ?_
        rintro e w2 ⟨rfl, hb⟩
        have HO2 := Lib.hid (HO.out.later hb)
        have HB2 := Lib.hid (HB.out.trans (hb.mono HB.out.size))
        clear hb HO HB HR HV HFx hc hgl
        go_upto_region 9 with fail
        go_cut [40] (fun v wx => v = .bool q ∧ OwnK layU wx w1.heap.size (.slice ao d co) G ∧ Below w1.heap.size w1 wx)
        case first =>
          have hqq := Hq.out
          clear HSt HA HTr HPu HHx HHv
          cases FB
          · have hq0 : q = false := by rw [← hqq]; rfl
            subst hq0
            go_wp2_with fail
            go_meet
            case rel => exact ⟨rfl, HO2.out, HB2.out⟩
          · cases last
            · have hq0 : q = false := by rw [← hqq]; rfl
              subst hq0
              go_wp2_with fail
              go_meet
              case rel => exact ⟨rfl, HO2.out, HB2.out⟩
            · by_cases hkn : k + 1 = n
              · have hq0 : q = true := by rw [← hqq, decide_eq_true hkn]; rfl
                subst hq0
                have hkn' : ((k : Int) = (n : Int) - 1) = True := eq_true (by omega)
                have hkn2 : ((k : Int) == (n : Int) - 1) = true := beq_iff_eq.2 (by omega)
                go_wp2_with fail
                all_goals first
                  | (go_meet
                     case rel => exact ⟨by first | rfl | (congr 1; exact hkn2), HO2.out, HB2.out⟩)
                  | (exfalso; omega)
              · have hq0 : q = false := by rw [← hqq, decide_eq_false hkn]; rfl
                subst hq0
                have hkn' : ((k : Int) = (n : Int) - 1) = False := eq_false (by omega)
                have hkn2 : ((k : Int) == (n : Int) - 1) = false := beq_eq_false_iff_ne.2 (by omega)
                go_wp2_with fail
                all_goals first
                  | (go_meet
                     case rel => exact ⟨by first | rfl | (congr 1; exact hkn2), HO2.out, HB2.out⟩)
                  | (exfalso; omega)
        case rest =>
          clear HO2 HB2
          obtain ⟨rfl, hO, hb⟩ := hcut
          have HO := Lib.hid hO
          have HB := Lib.hid hb
          clear hO hb
          cases q
          · have hS := HSt.out
            rw [if_neg (by decide)] at hS
            have HS := Lib.hid hS
            clear hS HSt Hq
            by_cases hK : HK = true
            · have hh := HHx.out
              rw [hK] at hh
              have hh1 : x.isEmpty = false ∧ x.length ≤ 4 ∧ AH = true := by
                have := hh.symm
                simp at this
                refine ⟨?_, this.1.2, this.2⟩
                cases x with
                | nil => simp at this
                | cons _ _ => rfl
              obtain ⟨hxe, hx4, hA⟩ := hh1
              have hx1 : 1 ≤ x.length := by cases x with
                | nil => simp at hxe
                | cons _ _ => simp
              have HS2 : Hid (grpL last (L.drop (k + 1)) (G ++ [XV]) = R) := Lib.hid (by rw [← HA.out, HS.out, if_pos hK])
              have HPx := Lib.hid fun wx => HPu.out wx hA hx1 hx4
              have hXV := HHv.out hA hx4
              have hib : inB (x.length : Int) 1 4 = true := by unfold inB; simp; omega
              subst hA
              clear HS HPu HHx hh HHv HA
              go_wp2_with fail
              refine (in_any _ _ _ _).mono ?_
              rintro e w3 ⟨rfl, rfl⟩
              rw [hib]
              go_wp2_with fail
              refine (HTr.out _).mono ?_
              rintro e w2 ⟨rfl, hb⟩
              have HO2 := Lib.hid (HO.out.later hb)
              have HB2 := Lib.hid (HB.out.trans (hb.mono HB.out.size))
              clear hb HO HB HTr
              go_wp2_with fail
              refine (HPx.out _).mono ?_
              rintro e w3 ⟨rfl, hb⟩
              have HO3 := Lib.hid (HO2.out.later hb)
              have HB3 := Lib.hid (HB2.out.trans (hb.mono HB2.out.size))
              clear hb HO2 HB2 HPx
              have HOr : Hid (w3.ownsRow w1.heap.size 27 1 (.slice ao d co) d (layU.all G)) := Lib.hid (by
                have this : w3.ownsRow w1.heap.size 27 1 (.slice ao d co) G.length (layU.all G) := HO3.out
                rw [Hd.out] at this
                exact this)
              go_wp2_with (at_builtin; refine wpList_app uE rfl (.tmp 64) (.tmp 66) rfl rfl (World.ownsRow.alloc HOr.out _) rfl (src_one_new _ _ _) ?c1 ?c2 ?c3 ?c4 ?_)
              case c1 => intro u hu; have : u = .int .u64 (XV : Int) := by simpa using hu
                         subst this; rfl
              case c2 => unfold maxLen; omega
              case c3 => omega
              case c4 => have := HB3.out.size; simp; omega
              intro v5 w5 hO5 hG5
              have hbz : w1.heap.size ≤ (w3.alloc (.cells #[.int .u64 (XV : Int)] 27 (0, 0))).heap.size := by have := HB3.out.size; simp; omega
              have HE1 : Hid (OwnK layU w5 w1.heap.size v5 (G ++ [XV])) := Lib.hid (OwnK.snoc (by rw [Hd.out]; exact hO5))
              have HE2 : Hid (Below w1.heap.size w1 w5) := Lib.hid ((Below.alloc HB3.out HB3.out.size _).trans (hG5.below hbz (own_base HOr.out)))
              have HE3 : Hid ((G ++ [XV]).length ≤ k + 1 + 1 ∧ (k + 1 < n → (G ++ [XV]).length ≤ k + 1)) := Lib.hid (by rw [List.length_append, Hd.out]; simp; omega)
              clear hO5 hG5 hbz HOr
              go_wp2_with fail
              exact ⟨⟨k + 1, G ++ [XV], by omega, by go_num, HE1, HE3, HS2, HE2⟩, by simp [intOf]; omega⟩
            · have hK0 : HK = false := eq_false_of_ne_true hK
              have hRn : R = none := by rw [← HA.out, HS.out, if_neg hK]
              subst hRn
              have hh := HHx.out
              rw [hK0] at hh
              clear HS HPu HHx HHv HA hK
              by_cases hxi : 1 ≤ x.length ∧ x.length ≤ 4
              · have hib : inB (x.length : Int) 1 4 = true := by unfold inB; simp; omega
                have hA : AH = false := by
                  have hxe : x.isEmpty = false := by cases x with
                    | nil => simp at hxi
                    | cons _ _ => rfl
                  rw [hxe, decide_eq_true hxi.2] at hh
                  simpa using hh.symm
                subst hA
                clear hh
                go_wp2_with fail
                refine (in_any _ _ _ _).mono ?_
                rintro e w3 ⟨rfl, rfl⟩
                rw [hib]
                go_wp2_with fail
                refine (HTr.out _).mono ?_
                rintro e w2 ⟨rfl, hb⟩
                have HB2 := Lib.hid (HB.out.trans (hb.mono HB.out.size))
                clear hb HTr
                go_wp2_with fail
                go_ret2
                exact ⟨none, 0, 0, rfl, fun G' hG => (by cases hG), HB1.out.trans (HB2.out.mono HB1.out.size)⟩
              · have hib : inB (x.length : Int) 1 4 = false := by unfold inB; simp; omega
                clear hh
                go_wp2_with fail
                refine (in_any _ _ _ _).mono ?_
                rintro e w3 ⟨rfl, rfl⟩
                rw [hib]
                go_wp2_with fail
                go_ret2
                exact ⟨none, 0, 0, rfl, fun G' hG => (by cases hG), HB1.out.trans (HB.out.mono HB1.out.size)⟩
          · have hS := HSt.out
            rw [if_pos rfl] at hS
            have HS : Hid (R = some (G ++ [m / 65536, m % 65536])) := Lib.hid (by rw [← HA.out]; exact hS)
            have hkn : k + 1 = n := by
              have := Hq.out
              simp at this
              exact this.2
            clear hS HSt HPu HHx HHv HTr Hq HA
            have hms := grp_mask m (by omega)
            have HOr : Hid (wc.ownsRow w1.heap.size 27 1 (.slice ao d co) d (layU.all G)) := Lib.hid (by
              have this : wc.ownsRow w1.heap.size 27 1 (.slice ao d co) G.length (layU.all G) := HO.out
              rw [Hd.out] at this
              exact this)
            go_wp2_with (at_builtin; refine wpList_app uE rfl (.tmp 41) (.tmp 46) rfl rfl (World.ownsRow.alloc HOr.out _) rfl (src_two _ _ _ _) ?d1 ?d2 ?d3 ?d4 ?_)
            case d1 => intro u hu; simp at hu; rcases hu with rfl | rfl <;> rfl
            case d2 => unfold maxLen; omega
            case d3 => omega
            case d4 => have := HB.out.size; simp; omega
            intro v5 w5 hO5 hG5
            have hbz : w1.heap.size ≤ (wc.alloc (.cells #[.int .u64 ((m : Int) / 65536), .int .u64 ((m : Int) % 65536)] 27 (0, 0))).heap.size := by have := HB.out.size; simp; omega
            have HE1 : Hid (OwnK layU w5 w1.heap.size v5 (G ++ [m / 65536, m % 65536])) := Lib.hid (OwnK.snoc2 (by
              rw [Hd.out, show ((m / 65536 : Nat) : Int) = (m : Int) / 65536 by omega, show ((m % 65536 : Nat) : Int) = (m : Int) % 65536 by omega]
              exact hO5))
            have HE2 : Hid (Below w1.heap.size w1 w5) := Lib.hid ((Below.alloc HB.out HB.out.size _).trans (hG5.below hbz (own_base HOr.out)))
            have HE3 : Hid ((G ++ [m / 65536, m % 65536]).length ≤ k + 1 + 1 ∧ (k + 1 < n → (G ++ [m / 65536, m % 65536]).length ≤ k + 1)) := Lib.hid (by rw [List.length_append, Hd.out]; simp; omega)
            have HE4 : Hid (grpL last (L.drop (k + 1)) (G ++ [m / 65536, m % 65536]) = R) := Lib.hid (by
              rw [List.drop_of_length_le (by rw [Hn.out]; omega), HS.out]
              rfl)
            clear hO5 hG5 hbz HOr hms
            go_wp2_with fail
            exact ⟨⟨k + 1, G ++ [m / 65536, m % 65536], by omega, by go_num, HE1, HE3, HE4, HE2⟩, by simp [intOf]; omega⟩
      · obtain rfl : k = n := by omega
        have hR : R = some G := by
          rw [← HA.out, List.drop_of_length_le (by rw [Hn.out]; exact Nat.le_refl _)]
          rfl
        subst hR
        go_wp2_with fail
        go_ret2
        exact ⟨ao, d, co, rfl, fun G' hG => (by injection hG with hG; subst hG; exact HO.out.weak HB1.out.size), HB1.out.trans (HB.out.mono HB1.out.size)⟩
end Go.Proofs.YtcpafmndjcejjaaGreatDoor
