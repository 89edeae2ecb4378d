/-
  Strings that a generator makes: Changed, AddrString.
-/
import Derived.Test.YtcpafmndjcejjaaGreatDoorAR36
import Derived.Test.YtcpafmndjcejjaaGreatDoorAR26
import Derived.Test.YtcpafmndjcejjaaGreatDoorAR3
import Derived.Test.YtcpafmndjcejjaaGreatDoorAR4
set_option linter.unusedVariables false
namespace Go.Proofs.YtcpafmndjcejjaaGreatDoor
open Go.RowKit Go Go.Sort
set_option linter.unusedVariables false

theorem enc_size {c : Nat} (h : c < 128) : (Utf8.encode (c : Int)).size ≤ 4 := by
  have key : ∀ n : Nat, n < 128 → (Utf8.encode (n : Int)).size ≤ 4 := by decide +kernel
  exact key c h
theorem i1_facts {i : Nat} (h : i < 1000000) : wrap64 ((i : Int) + 1) = (i : Int) + 1 ∧ IntKind.i64.wrap ((i : Int) + 1) = (i : Int) + 1 ∧ ((i : Int) + 1).toNat = i + 1 := by
  refine ⟨by unfold wrap64; omega, by rw [IntKind.wrap_i64]; omega, by omega⟩
theorem joinS_four_size (lo : Nat) : (joinS (fourL lo) ⟨#[46]⟩).size ≤ 800 := by
  have := joinS_size (L := fourL lo) (fourL_short lo) 46
  omega
theorem txtA_size (six : Bool) (hi lo : Nat) : (txtA six hi lo).size ≤ 800 := by
  cases six
  · exact joinS_four_size lo
  · show (sixT (dg hi lo)).size ≤ 800
    unfold sixT
    split
    · have := joinS_size (sixL_short (dg hi lo)) 58
      omega
    · unfold gapS
      have h1 := joinS_size ((sixL_short (dg hi lo)).take (zF (zB (dg hi lo)) 8 0 0 0).1) 58
      have h2 := joinS_size ((sixL_short (dg hi lo)).drop ((zF (zB (dg hi lo)) 8 0 0 0).1 + (zF (zB (dg hi lo)) 8 0 0 0).2)) 58
      rw [ByteArray.size_append, ByteArray.size_append]
      have : (⟨#[58, 58]⟩ : ByteArray).size = 2 := rfl
      omega
set_option maxRecDepth 100000 in
set_option maxHeartbeats 4000000 in
theorem changed_gen (b m : Nat) (T W : ByteArray) (w : World) (h : Strm w b m) (hm : m + 3 < 1099511627776) (hT : T.size ≤ 100000) (hW : W.size ≤ 100) (hWa : ∀ (j : Nat) (h : j < W.size), (W[j]'h).toNat < 128) :
    Calls Tryz.prog 24 #[.pointer (some ⟨b, 0, none⟩), .string T, .string W] w fun e w' => ∃ S : ByteArray, e = .returned (.string S) ∧ S.size ≤ T.size + 100 ∧ Gen b w w' (m + 3) := by
  have HS := Lib.hid h
  have HWa := Lib.hid hWa
  have hTe : T.size = 0 ↔ T.toList = [] := by
    rw [ByteArray.toList_eq]
    show T.data.size = 0 ↔ T.data.toList = []
    rw [← Array.length_toList, List.length_eq_zero_iff]
  have hWe : W.size = 0 ↔ W.toList = [] := by
    rw [ByteArray.toList_eq]
    show W.data.size = 0 ↔ W.data.toList = []
    rw [← Array.length_toList, List.length_eq_zero_iff]
  have HTe := Lib.hid hTe
  have HWe := Lib.hid hWe
  obtain ⟨tl, htl⟩ : ∃ q, T.toList = q := ⟨_, rfl⟩
  obtain ⟨wl, hwl⟩ : ∃ q, W.toList = q := ⟨_, rfl⟩
  rw [htl] at HTe
  rw [hwl] at HWe
  clear h hWa hTe hWe
  go_enter Tryz.func24, Tryz.ntmps24
  by_cases hw0 : W.size = 0
  · have hwn : wl = [] := HWe.out.1 hw0
    have hwe : wl.isEmpty = true := by rw [hwn]; rfl
    by_cases ht0 : T.size = 0
    · have htn : tl = [] := HTe.out.1 ht0
      have hte : tl.isEmpty = true := by rw [htn]; rfl
      go_wp2_with fail
      go_ret
      exact ⟨W, rfl, by omega, (Gen.start HS.out).mono (by omega)⟩
    · have htn : ¬ tl = [] := fun e => ht0 (HTe.out.2 e)
      have hte : tl.isEmpty = false := by cases tl with
        | nil => exact absurd rfl htn
        | cons _ _ => rfl
      go_wp2_with fail
      go_ret
      exact ⟨W, rfl, by omega, (Gen.start HS.out).mono (by omega)⟩
  · have hwn : ¬ wl = [] := fun e => hw0 (HWe.out.2 e)
    have hwe : wl.isEmpty = false := by cases wl with
      | nil => exact absurd rfl hwn
      | cons _ _ => rfl
    by_cases ht0 : T.size = 0
    · have htn : tl = [] := HTe.out.1 ht0
      have hte : tl.isEmpty = true := by rw [htn]; rfl
      go_wp2_with fail
      go_ret
      exact ⟨W, rfl, by omega, (Gen.start HS.out).mono (by omega)⟩
    · have htn : ¬ tl = [] := fun e => ht0 (HTe.out.2 e)
      have hte : tl.isEmpty = false := by cases tl with
        | nil => exact absurd rfl htn
        | cons _ _ => rfl
      go_wp2_with fail
      refine (next_gen b m _ _ HS.out (by omega) (by omega)).mono ?_
      rintro e w1 ⟨k, rfl, ⟨hk0, hk1⟩, hg⟩
      have HG1 := Lib.hid hg
      obtain ⟨i, rfl⟩ := Int.eq_ofNat_of_zero_le hk0
      have hi : i < T.size := by omega
      clear hg hk0 hk1 HS
      go_wp2_with fail
      refine (next_gen b (m + 1) _ _ HG1.out.s (by omega) (by omega)).mono ?_
      rintro e w2 ⟨k, rfl, ⟨hk0, hk1⟩, hg⟩
      have HG2 := Lib.hid (HG1.out.trans hg)
      obtain ⟨j, rfl⟩ := Int.eq_ofNat_of_zero_le hk0
      have hj : j < W.size := by omega
      obtain ⟨c, hc⟩ : ∃ q : Nat, (W[j]'hj).toNat = q := ⟨_, rfl⟩
      have hix : ∀ h : j < W.size, ((W[j]'h).toNat : Int) = (c : Int) := fun h => by rw [← hc]
      have hc128 : c < 128 := by rw [← hc]; exact HWa.out j hj
      clear hg hk0 hk1 HG1 hc
      go_wp2_with fail
      refine (next_gen b (m + 2) _ _ HG2.out.s (by omega) (by omega)).mono ?_
      rintro e w3 ⟨k, rfl, ⟨hk0, hk1⟩, hg⟩
      have HG3 := Lib.hid (HG2.out.trans hg)
      clear hg HG2
      have hes := enc_size hc128
      obtain ⟨E, hE⟩ : ∃ q, Utf8.encode (c : Int) = q := ⟨_, rfl⟩
      rw [hE] at hes
      have hx1 : (T.extract 0 i).size = i := by rw [ByteArray.size_extract]; omega
      have hx2 : (T.extract (i + 1) T.size).size ≤ T.size - i := by rw [ByteArray.size_extract]; omega
      have hx3 : (T.extract i T.size).size ≤ T.size - i := by rw [ByteArray.size_extract]; omega
      have ad1 := fun wx => add_str (T.extract 0 i) E (by omega) (by omega) wx
      have hs1 : (T.extract 0 i ++ E).size ≤ i + 4 := by rw [ByteArray.size_append]; omega
      have ad2 := fun wx => add_str (T.extract 0 i ++ E) (T.extract (i + 1) T.size) (by omega) (by omega) wx
      have ad3 := fun wx => add_str (T.extract 0 i ++ E) (T.extract i T.size) (by omega) (by omega) wx
      have ad4 := fun wx => add_str (T.extract 0 i) (T.extract (i + 1) T.size) (by omega) (by omega) wx
      have hf2 : (T.extract 0 i ++ E ++ T.extract (i + 1) T.size).size ≤ T.size + 100 := by rw [ByteArray.size_append]; omega
      have hf3 : (T.extract 0 i ++ E ++ T.extract i T.size).size ≤ T.size + 100 := by rw [ByteArray.size_append]; omega
      have hf4 : (T.extract 0 i ++ T.extract (i + 1) T.size).size ≤ T.size + 100 := by rw [ByteArray.size_append]; omega
      have Hf2 := Lib.hid hf2
      have Hf3 := Lib.hid hf3
      have Hf4 := Lib.hid hf4
      have hi1 : (i : Int) ≤ (T.size : Int) := by omega
      have hi2 : (i : Int) + 1 ≤ (T.size : Int) := by omega
      obtain ⟨e1, e2, e3⟩ := i1_facts (show i < 1000000 by omega)
      clear hf2 hf3 hf4 hs1 hx1 hx2 hx3
      have hcase : k = 0 ∨ k = 1 ∨ k = 2 := by omega
      clear hk0 hk1
      rcases hcase with rfl | rfl | rfl
      · go_upto_region 7 with fail
        refine wp_region_later (by kernel_rfl) (by kernel_rfl) ?_
        repeat (go_big_quiet_step (fail))
        refine wpQuiet_nil ?_
        rintro w4 ⟨m4, hm4⟩
        have hb4 : Below w3.heap.size w3 w4 := by rw [hm4]; exact m4.2
        have HG4 := Lib.hid (HG3.out.below hb4 HG3.out.g.size HG3.out.s.lt)
        clear hm4 m4 hb4 HG3
        go_wp2_with fail
        go_ret
        exact ⟨_, rfl, Hf2.out, HG4.out⟩
      · go_upto_region 9 with fail
        refine wp_region_later (by kernel_rfl) (by kernel_rfl) ?_
        repeat (go_big_quiet_step (fail))
        refine wpQuiet_nil ?_
        rintro w4 ⟨m4, hm4⟩
        have hb4 : Below w3.heap.size w3 w4 := by rw [hm4]; exact m4.2
        have HG4 := Lib.hid (HG3.out.below hb4 HG3.out.g.size HG3.out.s.lt)
        clear hm4 m4 hb4 HG3
        go_wp2_with fail
        go_ret
        exact ⟨_, rfl, Hf3.out, HG4.out⟩
      · go_upto_region 10 with fail
        refine wp_region_later (by kernel_rfl) (by kernel_rfl) ?_
        repeat (go_big_quiet_step (fail))
        refine wpQuiet_nil ?_
        rintro w4 ⟨m4, hm4⟩
        have hb4 : Below w3.heap.size w3 w4 := by rw [hm4]; exact m4.2
        have HG4 := Lib.hid (HG3.out.below hb4 HG3.out.g.size HG3.out.s.lt)
        clear hm4 m4 hb4 HG3
        go_wp2_with fail
        go_ret
        exact ⟨_, rfl, Hf4.out, HG4.out⟩
/-- what the generator of strings of addresses chooses from -/
def addrLits : List ByteArray := [⟨#[50, 48, 48, 49, 58, 68, 66, 56, 58, 58, 49]⟩, ⟨#[48, 58, 48, 58, 48, 58, 48, 58, 48, 58, 48, 58, 48, 58, 48]⟩, ⟨#[58, 58, 102, 102, 102, 102, 58, 49, 48, 46, 48, 46, 48, 46, 49]⟩, ⟨#[49, 58, 50, 58, 51, 58, 52, 58, 53, 58, 54, 58, 49, 46, 50, 46, 51, 46, 52]⟩, ⟨#[49, 58, 58, 50, 58, 58, 51]⟩, ⟨#[58, 58, 58]⟩, ⟨#[49, 58, 50, 58, 51, 58, 52, 58, 53, 58, 54, 58, 55, 58, 56, 58, 57]⟩, ⟨#[58, 58, 49, 46, 50, 46, 51]⟩, ⟨#[49, 48, 46, 48, 46, 48, 46, 50, 53, 54]⟩, ⟨#[48, 49, 48, 46, 48, 46, 48, 46, 49]⟩, ⟨#[49, 46, 50, 46, 51, 46, 52, 46, 53]⟩, ⟨#[49, 58, 50, 58, 51, 58, 52, 58, 53, 58, 54, 58, 55, 58, 58]⟩, ⟨#[58, 58, 50, 58, 51, 58, 52, 58, 53, 58, 54, 58, 55, 58, 56]⟩, ⟨#[49, 58, 48, 58, 48, 58, 50, 58, 48, 58, 48, 58, 48, 58, 51]⟩, ⟨#[103, 58, 58]⟩, ⟨#[49, 50, 51, 52, 53, 58, 58]⟩, ⟨#[]⟩, ⟨#[58, 58]⟩, ⟨#[49, 58, 58, 49, 58, 48, 58, 48, 58, 48]⟩, ⟨#[102, 101, 56, 48, 58, 58, 37, 49]⟩]
theorem addrLits_size : ∀ s ∈ addrLits, s.size ≤ 800 := by
  intro s hs
  have : addrLits.all (fun s => decide (s.size ≤ 800)) = true := by decide +kernel
  exact of_decide_eq_true (List.all_eq_true.1 this s hs)
set_option maxRecDepth 100000 in
set_option maxHeartbeats 4000000 in
theorem addrString_gen (b m : Nat) (w : World) (h : Strm w b m) (hm : m + 20 < 1099511627776) (ht : Tabs w) (htb : ∀ w', (∃ k, Gen b w w' k) → Tabs w') :
    Calls Tryz.prog 5 #[.pointer (some ⟨b, 0, none⟩)] w fun e w' => ∃ S : ByteArray, e = .returned (.string S) ∧ S.size ≤ 1000 ∧ Gen b w w' (m + 10) := by
  have HTb := Lib.hid htb
  clear ht htb
  go_enter Tryz.func5, Tryz.ntmps5
  go_wp2_with fail
  refine (flip_gen b m _ _ h (by omega) (by omega)).mono ?_
  rintro e w1 ⟨kk, rfl, hg⟩
  have HG1 := Lib.hid hg
  clear h hg
  cases kk
  · go_wp2_with fail
    refine (mAddr_gen b (m + 1) _ HG1.out.s (by omega)).mono ?_
    rintro e w2 ⟨six, hi0, lo0, rfl, ⟨hu1, hu2, hu3⟩, hg⟩
    obtain ⟨hi, rfl, h1⟩ := nat_of_U64 hu1
    obtain ⟨lo, rfl, h2⟩ := nat_of_U64 hu2
    have HG2 := Lib.hid (HG1.out.trans hg)
    have HTx := Lib.hid (addrText_any six hi lo w2 h1 h2 (by
      unfold aFault
      rw [if_neg]
      rintro ⟨e, h⟩
      have := hu3 e
      omega) (HTb.out w2 ⟨_, HG2.out⟩))
    have hsz := txtA_size six hi lo
    generalize txtA six hi lo = TX at *
    unfold vAddr
    clear hg HG1 hu1 hu2 hu3 h1 h2
    go_wp2_with fail
    refine HTx.out.mono ?_
    rintro e w3 ⟨rfl, hb⟩
    have HG3 := Lib.hid (HG2.out.below hb HG2.out.g.size HG2.out.s.lt)
    clear hb HG2 HTx
    go_wp2_with fail
    refine (pick_gen b (m + 1 + 3) w3.heap.size 0 3 3 [0, 0, 1] _ (HG3.out.s.alloc _) (by omega) (by omega) (rdInts_new w3 _ _ _ rfl) (by have := HG3.out.s.lt; omega)).mono ?_
    rintro e w4 ⟨k4, rfl, hk4, hg⟩
    have HG4 := Lib.hid ((HG3.out.alloc _).trans hg)
    obtain ⟨n, rfl, hn⟩ : ∃ n : Nat, k4 = (n : Int) ∧ n ≤ 1 := by
      have : k4 = 0 ∨ k4 = 1 := by simpa using hk4
      rcases this with rfl | rfl
      · exact ⟨0, rfl, by omega⟩
      · exact ⟨1, rfl, by omega⟩
    clear hg HG3 hk4
    have HCh := Lib.hid fun m T wx (h : Strm wx b m) (hm : m + 3 < 1099511627776) (hT : T.size ≤ 100000) => changed_gen b m T ⟨#[48, 49, 50, 51, 52, 53, 54, 55, 56, 57, 97, 98, 102, 65, 58, 46]⟩ wx h hm (by omega) (by decide) (by decide +kernel)
    go_wp2_with fail
    go_loopw [3, 15] (fun v i wr => ∃ (k : Nat) (S : ByteArray), k ≤ n ∧ i = .int .i64 (k : Int) ∧ v = .string S ∧ Hid (S.size ≤ 800 + 100 * k) ∧ Hid (Gen b w wr (m + 5 + 3 * k))) (fun _ i _ => n - (intOf i).toNat)
    case atStart => exact ⟨0, TX, Nat.zero_le _, rfl, rfl, Lib.hid (by omega), Lib.hid (HG4.out.mono (by omega))⟩
    case round =>
      clear HG4
      obtain ⟨k, S, hk, rfl, rfl, HS, HG⟩ := hrel
      by_cases hlt : k < n
      · have hss := HS.out
        have HCx := Lib.hid (HCh.out (m + 5 + 3 * k) S wr HG.out.s (by omega) (by omega))
        clear HCh
        go_wp2_with fail
        refine HCx.out.mono ?_
        rintro e w5 ⟨S2, rfl, hs2, hg⟩
        have HG5 : Hid (Gen b w w5 (m + 5 + 3 * (k + 1))) := Lib.hid ((HG.out.trans hg).mono (by omega))
        have HS5 : Hid (S2.size ≤ 800 + 100 * (k + 1)) := Lib.hid (by omega)
        clear hg HG HCx hs2
        go_wp2_with fail
        exact ⟨⟨k + 1, S2, by omega, by go_num, rfl, HS5, HG5⟩, by simp [intOf]; omega⟩
      · obtain rfl : k = n := by omega
        have hss := HS.out
        go_wp2_with fail
        go_ret
        exact ⟨S, rfl, by omega, HG.out.mono (by omega)⟩
  · have HA := Lib.hid (rdStr_new w1 9 addrLits _ rfl)
    go_wp2_with fail
    refine (some_gen b (m + 1) w1.heap.size 20 addrLits _ (HG1.out.s.alloc _) (by omega) rfl (by omega) HA.out (by have := HG1.out.s.lt; omega)).mono ?_
    rintro e w2 ⟨S, rfl, hS, hg⟩
    have hs := addrLits_size S hS
    have HG2 := Lib.hid ((HG1.out.alloc _).trans hg)
    clear hg hS HG1 HA
    go_wp2_with fail
    go_ret
    exact ⟨S, rfl, by omega, HG2.out.mono (by omega)⟩
end Go.Proofs.YtcpafmndjcejjaaGreatDoor
