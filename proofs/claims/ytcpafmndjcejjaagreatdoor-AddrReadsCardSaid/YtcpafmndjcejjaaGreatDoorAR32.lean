/-
  The longest row of groups that are zero: zeros of the program; and what the reference looks for is the same.
-/
import Derived.Test.YtcpafmndjcejjaaGreatDoorAR31
set_option linter.unusedVariables false
namespace Go.Proofs.YtcpafmndjcejjaaGreatDoor
open Go.RowKit Go
set_option linter.unusedVariables false

def run0 (z : Nat → Bool) : Nat → Nat → Nat
  | 0, _ => 0
  | k + 1, i => if i < 8 ∧ z i = true then run0 z k (i + 1) + 1 else 0
theorem run0_le (z : Nat → Bool) : ∀ k i, run0 z k i ≤ k
  | 0, _ => Nat.le_refl _
  | k + 1, i => by
    have := run0_le z k (i + 1)
    unfold run0
    split <;> omega
theorem run0_stop {z : Nat → Bool} {i : Nat} (h : ¬ (i < 8 ∧ z i = true)) : ∀ k, run0 z k i = 0
  | 0 => rfl
  | k + 1 => by unfold run0; rw [if_neg h]
def zF (z : Nat → Bool) : Nat → Nat → Nat → Nat → Nat × Nat
  | 0, _, f, m => (f, m)
  | k + 1, i, f, m => if i < 8 then zF z k (i + run0 z 8 i + 1) (if m < run0 z 8 i then i else f) (if m < run0 z 8 i then run0 z 8 i else m) else (f, m)
theorem zF_stop {z : Nat → Bool} {i f m : Nat} (h : ¬ i < 8) : ∀ k, zF z k i f m = (f, m)
  | 0 => rfl
  | k + 1 => by unfold zF; rw [if_neg h]
theorem G8_get (g : Nat → Nat) (j : Nat) (h : j < 8) : (G8 g)[j]? = some (.int .u64 ((g (7 - j) : Nat) : Int)) := by
  have : j = 0 ∨ j = 1 ∨ j = 2 ∨ j = 3 ∨ j = 4 ∨ j = 5 ∨ j = 6 ∨ j = 7 := by omega
  rcases this with rfl | rfl | rfl | rfl | rfl | rfl | rfl | rfl <;> rfl
theorem G8_size (g : Nat → Nat) : (G8 g).size = 8 := rfl
/-- which groups are zero -/
def zB (g : Nat → Nat) (j : Nat) : Bool := g (7 - j) == 0
set_option maxRecDepth 100000 in
set_option maxHeartbeats 2000000 in
theorem zeros_any (g : Nat → Nat) (w : World) : Calls Tryz.prog 59 #[.agg (G8 g)] w (Ret (.tuple #[.int .i64 ((zF (zB g) 8 0 0 0).1 : Int), .int .i64 ((zF (zB g) 8 0 0 0).2 : Int)]) w) := by
  have hGs := G8_size g
  have Hg := Lib.hid (G8_get g)
  obtain ⟨Z, hZ⟩ : ∃ Z, zF (zB g) 8 0 0 0 = Z := ⟨_, rfl⟩
  rw [hZ]
  have HZ := Lib.hid hZ
  clear hZ
  have HP : Hid (Blk (w.alloc (.cells (G8 g) 60 (0, 0))) w.heap.size 60 (G8 g)) := Lib.hid (Blk.new w _ _)
  have HB : Hid (Below w.heap.size w (w.alloc (.cells (G8 g) 60 (0, 0)))) := Lib.hid (below_alloc (Below.refl _ _) _)
  have hsz := Tryz.sizeOf60
  go_enter Tryz.func59, Tryz.ntmps59
  go_upto_region 1 with fail
  generalize w.alloc (.cells (G8 g) 60 (0, 0)) = w1 at *
  go_wp2_with fail
  go_loopw [2, 3, 4, 5] (fun a b c d wr => ∃ k i f m : Nat, 8 - i ≤ k ∧ i ≤ 17 ∧ f ≤ 17 ∧ m ≤ 8 ∧ a = .int .i64 (f : Int) ∧ b = .int .i64 (m : Int) ∧ c = .int .i64 (i : Int) ∧ Hid (zF (zB g) k i f m = Z) ∧ wr = w1) (fun _ _ c _ _ => 20 - (intOf c).toNat)
  case atStart => exact ⟨8, 0, 0, 0, by omega, by omega, by omega, by omega, rfl, rfl, rfl, HZ, rfl⟩
  case round =>
    obtain ⟨k, i, f, m, hk, hi, hf, hm, rfl, rfl, rfl, HZk, rfl⟩ := hrel
    by_cases hlt : i < 8
    · obtain ⟨k, rfl⟩ : ∃ k', k = k' + 1 := ⟨k - 1, by omega⟩
      have hz := HZk.out
      unfold zF at hz
      rw [if_pos hlt] at hz
      obtain ⟨N, hN⟩ : ∃ N, run0 (zB g) 8 i = N := ⟨_, rfl⟩
      have hN8 := run0_le (zB g) 8 i
      rw [hN] at hz hN8
      have HN := Lib.hid hN
      have HZ2 := Lib.hid hz
      clear hz hN HZk HZ
      have hlt2 : (i : Int) < 8 := by omega
      go_wp2_with fail
      go_loopw [5] (fun d wx => ∃ q n : Nat, 8 - (i + n) ≤ q ∧ n ≤ 8 ∧ d = .int .i64 (n : Int) ∧ Hid (n + run0 (zB g) q (i + n) = N) ∧ wx = wr) (fun d _ => 8 - (intOf d).toNat)
      case atStart => exact ⟨8, 0, by omega, by omega, rfl, Lib.hid (by rw [Nat.zero_add]; exact HN.out), rfl⟩
      case round =>
        obtain ⟨q, n, hq, hn, rfl, HR, rfl⟩ := hrel
        by_cases hc : i + n < 8
        · have hj8 : (i : Int) + (n : Int) < 8 := by omega
          have p := HP.out.cell (i + n)
          rw [Hg.out (i + n) hc] at p
          have e1 : (i : Int) + (n : Int) = ((i + n : Nat) : Int) := by omega
          have hzb : zB g (i + n) = (g (7 - (i + n)) == 0) := rfl
          by_cases hx : g (7 - (i + n)) = 0
          · rw [hx] at p hzb
            obtain ⟨q, rfl⟩ : ∃ q', q = q' + 1 := ⟨q - 1, by omega⟩
            have hr := HR.out
            unfold run0 at hr
            rw [if_pos ⟨hc, by rw [hzb]; rfl⟩] at hr
            have HR2 : Hid ((n + 1) + run0 (zB g) q (i + (n + 1)) = N) := Lib.hid (by rw [← hr]; rw [Nat.add_assoc i n 1]; omega)
            obtain ⟨j, hj⟩ : ∃ j, i + n = j := ⟨_, rfl⟩
            rw [hj] at p e1
            have hj8n : j < 8 := by omega
            have z0 : ((0 : Nat) : Int) = 0 := rfl
            rw [z0] at p
            clear hr HR hzb hx hj z0
            go_wp2_with fail
            exact ⟨⟨q, n + 1, by omega, by omega, by go_num, HR2, by first | rfl | trivial⟩, by simp [intOf]; omega⟩
          · obtain ⟨x, hx2⟩ : ∃ x, g (7 - (i + n)) = x := ⟨_, rfl⟩
            rw [hx2] at p hx hzb
            have hx3 : ((x : Int) == 0) = false := by simpa using hx
            have hx4 : ¬ (x : Int) = 0 := by omega
            have hNn : n = N := by have h := HR.out; rw [run0_stop (by rw [hzb]; simp [hx])] at h; omega
            obtain ⟨j, hj⟩ : ∃ j, i + n = j := ⟨_, rfl⟩
            rw [hj] at p e1
            have hj8n : j < 8 := by omega
            clear hzb hx hx2
            subst hNn
            have hz2 := HZ2.out
            clear HZ2 HR HN
            by_cases hm2 : m < n
            · rw [if_pos hm2, if_pos hm2] at hz2
              have HZ3 := Lib.hid hz2
              clear hz2
              have hm3 : (n : Int) > (m : Int) := by omega
              go_wp2_with fail
              exact ⟨⟨k, i + n + 1, i, n, by omega, by omega, by omega, by omega, rfl, rfl, congrArg _ (by omega), HZ3, by first | rfl | trivial⟩, by simp [intOf]; omega⟩
            · rw [if_neg hm2, if_neg hm2] at hz2
              have HZ3 := Lib.hid hz2
              clear hz2
              have hm3 : ¬ (n : Int) > (m : Int) := by omega
              go_wp2_with fail
              exact ⟨⟨k, i + n + 1, f, m, by omega, by omega, by omega, by omega, rfl, rfl, congrArg _ (by omega), HZ3, by first | rfl | trivial⟩, by simp [intOf]; omega⟩
        · have hj8 : ¬ (i : Int) + (n : Int) < 8 := by omega
          have hNn : n = N := by have h := HR.out; rw [run0_stop (fun h => hc h.1)] at h; omega
          subst hNn
          have hz2 := HZ2.out
          clear HZ2 HR HN
          by_cases hm2 : m < n
          · rw [if_pos hm2, if_pos hm2] at hz2
            have HZ3 := Lib.hid hz2
            clear hz2
            have hm3 : (n : Int) > (m : Int) := by omega
            go_wp2_with fail
            exact ⟨⟨k, i + n + 1, i, n, by omega, by omega, by omega, by omega, rfl, rfl, congrArg _ (by omega), HZ3, by first | rfl | trivial⟩, by simp [intOf]; omega⟩
          · rw [if_neg hm2, if_neg hm2] at hz2
            have HZ3 := Lib.hid hz2
            clear hz2
            have hm3 : ¬ (n : Int) > (m : Int) := by omega
            go_wp2_with fail
            exact ⟨⟨k, i + n + 1, f, m, by omega, by omega, by omega, by omega, rfl, rfl, congrArg _ (by omega), HZ3, by first | rfl | trivial⟩, by simp [intOf]; omega⟩
    · have hz := HZk.out
      rw [zF_stop hlt] at hz
      have hlt2 : ¬ (i : Int) < 8 := by omega
      subst hz
      clear HZ HZk
      go_wp2_with fail
      go_ret2
      exact ⟨rfl, HB.out⟩
end Go.Proofs.YtcpafmndjcejjaaGreatDoor
