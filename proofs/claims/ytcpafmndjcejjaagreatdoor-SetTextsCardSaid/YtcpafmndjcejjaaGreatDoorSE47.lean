/-
  The generator SetString: a string of at most 4300 bytes.
-/
import Derived.Test.YtcpafmndjcejjaaGreatDoorSE45
import Derived.Test.YtcpafmndjcejjaaGreatDoorSE46
import Derived.Test.YtcpafmndjcejjaaGreatDoorSE7
set_option linter.unusedVariables false
namespace Go.Proofs.YtcpafmndjcejjaaGreatDoor
open Go.RowKit Go Go.Sort
set_option linter.unusedVariables false

set_option maxRecDepth 100000 in
set_option maxHeartbeats 4000000 in
theorem setString_gen (b m : Nat) (w : World) (h : Strm w b m) (hm : m + 100 < 1099511627776) (htb : ∀ w', (∃ k, Gen b w w' k) → Tabs w') :
    Calls Tryz.prog 15 #[.pointer (some ⟨b, 0, none⟩)] w fun e w' => ∃ S : ByteArray, e = .returned (.string S) ∧ S.size ≤ 4300 ∧ Gen b w w' (m + 40) := by
  have HTb := Lib.hid htb
  clear htb
  go_enter Tryz.func15, Tryz.ntmps15
  go_wp2_with fail
  refine (rightSet_gen b m _ h (by omega)).mono ?_
  rintro e w2 ⟨v, L, rfl, hO, hl, hok, hg⟩
  have HG2 := Lib.hid hg
  obtain ⟨ad, c, hv, -⟩ := hO.form
  subst hv
  have HTx := Lib.hid (setLines_any ad L.length c L w2 hO.rd rfl (by omega) hok (HTb.out w2 ⟨_, HG2.out⟩))
  have hsz : (strL (setT L)).size ≤ 4025 := by
    rw [strL_size]
    have := setT_len hok
    omega
  generalize strL (setT L) = TX at *
  generalize L.length = n0 at *
  clear hg h hO hok hl
  go_wp2_with fail
  refine HTx.out.mono ?_
  rintro e w3 ⟨rfl, hb⟩
  have HG3 := Lib.hid (HG2.out.below hb HG2.out.g.size HG2.out.s.lt)
  clear hb HG2 HTx
  go_wp2_with fail
  refine (pick_gen b (m + 26) w3.heap.size 0 4 4 [0, 0, 1, 2] _ (HG3.out.s.alloc _) (by omega) (by omega) (rdInts_new w3 _ _ _ rfl) (by have := HG3.out.s.lt; omega)).mono ?_
  rintro e w4 ⟨k4, rfl, hk4, hg⟩
  have HG4 := Lib.hid ((HG3.out.alloc _).trans hg)
  obtain ⟨n, rfl, hn⟩ : ∃ n : Nat, k4 = (n : Int) ∧ n ≤ 2 := by
    have : k4 = 0 ∨ k4 = 1 ∨ k4 = 2 := by simpa using hk4
    rcases this with rfl | rfl | rfl
    · exact ⟨0, rfl, by omega⟩
    · exact ⟨1, rfl, by omega⟩
    · exact ⟨2, rfl, by omega⟩
  clear hg HG3 hk4
  have HCh := Lib.hid fun m T wx (h : Strm wx b m) (hm : m + 3 < 1099511627776) (hT : T.size ≤ 5000) => changed_gen b m T ⟨#[48, 49, 50, 51, 52, 53, 54, 55, 56, 57, 58, 46, 47, 10]⟩ wx h hm (by omega) (by decide) (by decide +kernel)
  go_wp2_with fail
  go_loopw [3, 10] (fun v i wr => ∃ (k : Nat) (S : ByteArray), k ≤ n ∧ i = .int .i64 (k : Int) ∧ v = .string S ∧ Hid (S.size ≤ 4025 + 100 * k) ∧ Hid (Gen b w wr (m + 31 + 3 * k))) (fun _ i _ => n - (intOf i).toNat)
  case atStart => exact ⟨0, TX, Nat.zero_le _, rfl, rfl, Lib.hid (by omega), Lib.hid (HG4.out.mono (by omega))⟩
  case round =>
    clear HG4
    obtain ⟨k, S, hk, rfl, rfl, HS, HG⟩ := hrel
    by_cases hlt : k < n
    · have hss := HS.out
      have HCx := Lib.hid (HCh.out (m + 31 + 3 * k) S wr HG.out.s (by omega) (by omega))
      clear HCh
      go_wp2_with fail
      refine HCx.out.mono ?_
      rintro e w5 ⟨S2, rfl, hs2, hg⟩
      have HG5 : Hid (Gen b w w5 (m + 31 + 3 * (k + 1))) := Lib.hid ((HG.out.trans hg).mono (by omega))
      have HS5 : Hid (S2.size ≤ 4025 + 100 * (k + 1)) := Lib.hid (by omega)
      clear hg HG HCx hs2
      go_wp2_with fail
      exact ⟨⟨k + 1, S2, by omega, by go_num, rfl, HS5, HG5⟩, by simp [intOf]; omega⟩
    · obtain rfl : k = n := by omega
      have hss := HS.out
      go_wp2_with fail
      go_ret
      exact ⟨S, rfl, by omega, HG.out.mono (by omega)⟩
end Go.Proofs.YtcpafmndjcejjaaGreatDoor
