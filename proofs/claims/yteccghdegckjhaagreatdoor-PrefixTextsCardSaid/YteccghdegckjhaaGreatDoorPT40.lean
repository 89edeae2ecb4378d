/-
  The generator PrefixString: a string of at most 1100 bytes.
-/
import Derived.Test.YteccghdegckjhaaGreatDoorPT37
import Derived.Test.YteccghdegckjhaaGreatDoorPT35
import Derived.Test.YteccghdegckjhaaGreatDoorPT6
set_option linter.unusedVariables false
namespace Go.Proofs.YteccghdegckjhaaGreatDoor
open Go.RowKit Go Go.Sort
set_option linter.unusedVariables false

theorem OkPf.aF {p : Pf} (h : OkPf p) : aFault p.1 (p.2.1 : Int) (p.2.2.1 : Int) = 0 := by
  obtain ⟨h1, h2, h3⟩ := h.ok.1
  unfold aFault
  rw [if_neg]
  rintro ⟨e, h⟩
  have := h3 e
  omega
set_option maxRecDepth 100000 in
set_option maxHeartbeats 4000000 in
theorem prefixString_gen (b m : Nat) (w : World) (h : Strm w b m) (hm : m + 40 < 1099511627776) (htb : ∀ w', (∃ k, Gen b w w' k) → Tabs w') :
    Calls Tryz.prog 6 #[.pointer (some ⟨b, 0, none⟩)] w fun e w' => ∃ S : ByteArray, e = .returned (.string S) ∧ S.size ≤ 1100 ∧ Gen b w w' (m + 20) := by
  have HTb := Lib.hid htb
  clear htb
  go_enter Tryz.func6, Tryz.ntmps6
  go_wp2_with fail
  refine (rightPrefix_ok b m _ h (by omega)).mono ?_
  rintro e w2 ⟨p, rfl, hp, hg⟩
  have HG2 := Lib.hid hg
  have haf := hp.aF
  have hnn := hp.nn
  have hbt := hp.bits
  have hll : LN (nuP p) ≤ 128 := by rw [LN_six]; exact lenN_le _
  obtain ⟨⟨h1, h2, -⟩, -⟩ := hp.ok
  obtain ⟨six, hi, lo, bits⟩ := p
  simp only at haf hnn h1 h2
  obtain ⟨n, hn⟩ : ∃ n : Nat, bits.toNat = n := ⟨_, rfl⟩
  have hn1 : n ≤ 128 := by rw [← hn]; exact Nat.le_trans hbt hll
  rw [hn] at hnn
  subst hnn
  have HTx := Lib.hid (prefixLine_any six hi lo n w2 h1 h2 haf (by omega) (HTb.out w2 ⟨_, HG2.out⟩))
  have hsz := pfxT_size (six := six) (hi := hi) (lo := lo) (n := n) (by omega)
  rw [show (pfC (six, hi, lo, (n : Int))).toArray = #[.bool six, .int .u64 (hi : Int), .int .u64 (lo : Int), .int .i64 (n : Int)] from rfl]
  generalize pfxT six hi lo n = TX at *
  clear hg h hp haf h1 h2 hbt hll hn hn1
  go_wp2_with fail
  refine HTx.out.mono ?_
  rintro e w3 ⟨rfl, hb⟩
  have HG3 := Lib.hid (HG2.out.below hb HG2.out.g.size HG2.out.s.lt)
  clear hb HG2 HTx
  go_wp2_with fail
  refine (pick_gen b (m + 5) w3.heap.size 0 4 4 [0, 0, 1, 2] _ (HG3.out.s.alloc _) (by omega) (by omega) (rdInts_new w3 _ _ _ rfl) (by have := HG3.out.s.lt; omega)).mono ?_
  rintro e w4 ⟨k4, rfl, hk4, hg⟩
  have HG4 := Lib.hid ((HG3.out.alloc _).trans hg)
  obtain ⟨n, rfl, hn⟩ : ∃ n : Nat, k4 = (n : Int) ∧ n ≤ 2 := by
    have : k4 = 0 ∨ k4 = 1 ∨ k4 = 2 := by simpa using hk4
    rcases this with rfl | rfl | rfl
    · exact ⟨0, rfl, by omega⟩
    · exact ⟨1, rfl, by omega⟩
    · exact ⟨2, rfl, by omega⟩
  clear hg HG3 hk4
  have HCh := Lib.hid fun m T wx (h : Strm wx b m) (hm : m + 3 < 1099511627776) (hT : T.size ≤ 950) => changed_gen b m T ⟨#[48, 49, 50, 51, 52, 53, 54, 55, 56, 57, 58, 46, 47]⟩ wx h hm (by omega) (by decide) (by decide +kernel)
  go_wp2_with fail
  go_loopw [3, 10] (fun v i wr => ∃ (k : Nat) (S : ByteArray), k ≤ n ∧ i = .int .i64 (k : Int) ∧ v = .string S ∧ Hid (S.size ≤ 804 + 100 * k) ∧ Hid (Gen b w wr (m + 10 + 3 * k))) (fun _ i _ => n - (intOf i).toNat)
  case atStart => exact ⟨0, TX, Nat.zero_le _, rfl, rfl, Lib.hid (by omega), Lib.hid (HG4.out.mono (by omega))⟩
  case round =>
    clear HG4
    obtain ⟨k, S, hk, rfl, rfl, HS, HG⟩ := hrel
    by_cases hlt : k < n
    · have hss := HS.out
      have HCx := Lib.hid (HCh.out (m + 10 + 3 * k) S wr HG.out.s (by omega) (by omega))
      clear HCh
      go_wp2_with fail
      refine HCx.out.mono ?_
      rintro e w5 ⟨S2, rfl, hs2, hg⟩
      have HG5 : Hid (Gen b w w5 (m + 10 + 3 * (k + 1))) := Lib.hid ((HG.out.trans hg).mono (by omega))
      have HS5 : Hid (S2.size ≤ 804 + 100 * (k + 1)) := Lib.hid (by omega)
      clear hg HG HCx hs2
      go_wp2_with fail
      exact ⟨⟨k + 1, S2, by omega, by go_num, rfl, HS5, HG5⟩, by simp [intOf]; omega⟩
    · obtain rfl : k = n := by omega
      have hss := HS.out
      go_wp2_with fail
      go_ret
      exact ⟨S, rfl, by omega, HG.out.mono (by omega)⟩
end Go.Proofs.YteccghdegckjhaaGreatDoor
