/-
  Bytes: put and big (a number in some bytes), Equal of two slices of bytes.
  The reference's sum of two numbers in decimal digits.
  The reference's SizeOf: a set's number of addresses, in decimal digits.
-/
import Derived.Test.YtaeieigdibanlaaGreatDoorST5
import Derived.Test.YtaeieigdibanlaaGreatDoorST15
import Derived.Test.YtaeieigdibanlaaGreatDoorST17
import Derived.Deep.Light
import Derived.Deep.OwnRows
import Derived.Test.YtaeieigdibanlaaGreatDoorST13
set_option linter.unusedVariables false
namespace Go.Proofs.YtaeieigdibanlaaGreatDoor
open Go.RowKit Go
set_option linter.unusedVariables false

def encB (c : UInt8) : Value := .int .u8 (c.toNat : Int)
def encBs (bs : List UInt8) : List Value := bs.map encB
def OwnB (w : World) (base : Nat) (v : Value) (bs : List UInt8) : Prop := w.ownsRow base 5 1 v bs.length (encBs bs)
theorem OwnB.nil (w : World) (base : Nat) : OwnB w base (.slice none 0 0) [] := World.ownsRow_nil w base _ 1

def be (n : Nat) : Nat → List UInt8
  | 0 => []
  | k + 1 => UInt8.ofNat (n / 256 ^ k) :: be n k
/-- a slice of bytes that can be read -/
theorem OwnB.src {w : World} {base : Nat} {v : Value} {bs : List UInt8} (h : OwnB w base v bs) : ∃ ad c, v = .slice ad bs.length c ∧ Src w ad bs.length 1 (encBs bs) ∧ bs.length ≤ c ∧ c ≤ maxLen := own_form h
end Go.Proofs.YtaeieigdibanlaaGreatDoor

namespace Go.Proofs.YtaeieigdibanlaaGreatDoor
open Go.RowKit Go
set_option linter.unusedVariables false

/-- the numeral of a number; its last n digits -/
def dS (x : Nat) : ByteArray := ⟨(Lib.decDigits x).toArray⟩
def gS (n x : Nat) : ByteArray := ⟨(dgs n x).toArray⟩
theorem wrap_u8 (x : Nat) (h : x < 256) : IntKind.u8.wrap (x : Int) = (x : Int) := by
  have : IntKind.u8.wrap (x : Int) = (x : Int) % 256 := rfl
  omega
theorem wrap_i64 (x : Nat) (h : x < 9223372036854775808) : IntKind.i64.wrap (x : Int) = (x : Int) := by
  rw [IntKind.wrap_i64]
  omega
theorem dS_gS (x : Nat) : dS x = gS (Lib.nDigits x) x := by unfold dS gS; rw [decDigits_dgs]
theorem gS_size (n x : Nat) : (gS n x).size = n := by simp [gS, ByteArray.size, dgs_len]
theorem dS_size (x : Nat) : (dS x).size = Lib.nDigits x := by rw [dS_gS, gS_size]
theorem ba_get (L : List UInt8) (i : Nat) (h : i < (⟨L.toArray⟩ : ByteArray).size) (h2 : i < L.length) : (⟨L.toArray⟩ : ByteArray)[i]'h = L[i]'h2 := rfl
set_option maxRecDepth 10000 in
theorem gS_idx (t : TypeId) (ht : Tryz.prog.underlying t = some .string) (n x i : Nat) (hi : i < n) (w : World) :
    (Instr.index t (.string (gS n x)) (.int .i64 (i : Int))).run Tryz.prog w = .ok (.int .u8 ((48 + x / 10 ^ (n - 1 - i) % 10 : Nat) : Int)) w := by
  have hs := gS_size n x
  rw [run_index_string w t (gS n x) .i64 (i : Int) ht, dif_pos (show 0 ≤ (i : Int) ∧ (i : Int) < ((gS n x).size : Int) from ⟨by omega, by rw [hs]; omega⟩)]
  have hg := dgs_get n x i hi
  have e : ∀ (j : Nat) (h : j < (gS n x).size), j = i → ((gS n x)[j]'h).toNat = (Lib.dg x (n - 1 - i)).toNat := fun j h hj => by
    subst hj
    have h2 : j < (dgs n x).length := by rw [dgs_len]; exact hi
    have h3 : (gS n x)[j]'h = (dgs n x)[j]'h2 := ba_get (dgs n x) j h h2
    rw [h3]
    rw [List.getElem?_eq_getElem h2] at hg
    injection hg with hg
    rw [hg]
  rw [e _ _ (by simp), dg_val]
theorem pad_gS {m n y : Nat} (h : Lib.nDigits y = m) (c : Nat) (hc : c + m = n) : (⟨(Lib.repeatL [48] c).toArray⟩ : ByteArray) ++ dS y = gS n y := by
  unfold dS gS
  rw [ByteArray.mk_append_mk]
  congr 1
  have e : Lib.repeatL [48] c = List.replicate c 48 := by
    have := Lib.repeatL_replicate 48 1 c
    simpa using this
  rw [e]
  have := dec_pad (x := y) (n := n) (by omega)
  rw [← this]
  congr 3
  omega
/-- what one place yields -/
def dcR (A B : ByteArray) (i da db c : Nat) : Nat → Value → World → Prop
  | 0, v, _ => v = .string A
  | 1, v, _ => v = .int .i64 (i : Int)
  | 2, v, _ => v = .int .u8 ((48 + da : Nat) : Int)
  | 3, v, _ => v = .int .u8 (da : Int)
  | 4, v, _ => v = .int .i64 (da : Int)
  | 5, v, _ => v = .string B
  | 6, v, _ => v = .int .i64 (i : Int)
  | 7, v, _ => v = .int .u8 ((48 + db : Nat) : Int)
  | 8, v, _ => v = .int .u8 (db : Int)
  | 9, v, _ => v = .int .i64 (db : Int)
  | 10, v, _ => v = .int .i64 ((da + db : Nat) : Int)
  | 11, v, _ => v = .int .i64 (c : Int)
  | _, v, _ => v = .int .i64 ((da + db + c : Nat) : Int)
theorem dcR_keep {A B : ByteArray} {i da db c : Nat} (p : Nat) (v : Value) (u w : World) (h : dcR A B i da db c p v u) (hb : Below u.heap.size u w) : dcR A B i da db c p v w := by
  rcases p with _ | _ | _ | _ | _ | _ | _ | _ | _ | _ | _ | _ | p <;> exact h
theorem made_zeroD (n : Nat) : madeCells #[.int .u8 0] n = (encBs (List.replicate n 0)).toArray := by
  apply Array.ext'
  simp only [madeCells, encBs, List.map_replicate]
  refine List.eq_replicate_iff.2 ⟨by simp, fun b hb => ?_⟩
  simp [Nat.mod_one] at hb
  rw [← hb.2]
  rfl
/-- one digit more is laid -/
theorem lay_digit (i k z : Nat) (n : Nat) (hn : i + 1 + k = n) : (encBs (List.replicate (i + 1) 0 ++ dgs k z)).toArray.setIfInBounds i (.int .u8 ((Lib.dg z k).toNat : Int)) = (encBs (List.replicate i 0 ++ dgs (k + 1) z)).toArray := by
  rw [List.setIfInBounds_toArray]
  congr 1
  unfold encBs
  rw [show (Value.int .u8 ((Lib.dg z k).toNat : Int)) = encB (Lib.dg z k) from rfl, ← List.map_set]
  congr 1
  rw [List.replicate_succ', List.append_assoc, List.set_append_right _ _ (by simp)]
  simp [dgs]
set_option maxRecDepth 100000 in
set_option maxHeartbeats 4000000 in
theorem decimal_any (x y : Nat) (w : World) (hx : Lib.nDigits x ≤ 1000) (hy : Lib.nDigits y ≤ 1000) :
    Calls Tryz.prog 87 #[.string (dS x), .string (dS y)] w (Ret (.string (dS (x + y))) w) := by
  obtain ⟨R, hR⟩ : ∃ R, dS (x + y) = R := ⟨_, rfl⟩
  have HR : Hid (∀ p q, p + q = x + y → dS (p + q) = R) := Lib.hid fun p q h => by rw [h, hR]
  rw [hR]
  clear hR
  obtain ⟨A, hA⟩ : ∃ A, dS x = A := ⟨_, rfl⟩
  obtain ⟨B, hB⟩ : ∃ B, dS y = B := ⟨_, rfl⟩
  have hAs : A.size = Lib.nDigits x := by rw [← hA, dS_size]
  have hBs : B.size = Lib.nDigits y := by rw [← hB, dS_size]
  have HP : Hid (∀ (P Q : ByteArray), ((P = A ∧ Q = B ∧ Lib.nDigits y ≤ Lib.nDigits x) ∨ (P = B ∧ Q = A ∧ Lib.nDigits x ≤ Lib.nDigits y)) → ∃ p q, P = dS p ∧ Q = dS q ∧ p + q = x + y ∧ Lib.nDigits q ≤ Lib.nDigits p ∧ Lib.nDigits p ≤ 1000) := Lib.hid fun P Q h => by
    rcases h with ⟨rfl, rfl, h⟩ | ⟨rfl, rfl, h⟩
    · exact ⟨x, y, hA.symm, hB.symm, rfl, h, hx⟩
    · exact ⟨y, x, hB.symm, hA.symm, Nat.add_comm _ _, h, hy⟩
  rw [hA, hB]
  generalize Lib.nDigits x = nx at *
  generalize Lib.nDigits y = ny at *
  clear hA hB
  go_enter Tryz.func87, Tryz.ntmps87
  go_upto_if 13 with fail
  go_cut [0, 1] (fun s0 s1 wx => w = wx ∧ ∃ p q, s0 = .string (dS p) ∧ s1 = .string (dS q) ∧ p + q = x + y ∧ Lib.nDigits q ≤ Lib.nDigits p ∧ Lib.nDigits p ≤ 1000)
  case first =>
    as_aux_lemma =>
      by_cases h : nx < ny
      · go_wp2_with fail
        go_meet
        case rel =>
          obtain ⟨p, q, e1, e2, h3⟩ := HP.out B A (.inr ⟨rfl, rfl, by omega⟩)
          exact ⟨rfl, p, q, by rw [e1], by rw [e2], h3⟩
      · go_wp2_with fail
        go_meet
        case rel =>
          obtain ⟨p, q, e1, e2, h3⟩ := HP.out A B (.inl ⟨rfl, rfl, by omega⟩)
          exact ⟨rfl, p, q, by rw [e1], by rw [e2], h3⟩
  case rest =>
    obtain ⟨rfl, p, q, rfl, rfl, hpq, hle, h1000⟩ := hcut
    clear HP hAs hBs
    obtain ⟨n, hn⟩ : ∃ n, Lib.nDigits p = n := ⟨_, rfl⟩
    obtain ⟨m, hm⟩ : ∃ m, Lib.nDigits q = m := ⟨_, rfl⟩
    obtain ⟨c, hc⟩ : ∃ c, c + m = n := ⟨n - m, by omega⟩
    have hPs : (dS p).size = n := by rw [dS_size, hn]
    have hQs : (dS q).size = m := by rw [dS_size, hm]
    have HPg : Hid (dS p = gS n p) := Lib.hid (by rw [dS_gS, hn])
    have HFin : Hid ((if cryK p q n > 0 then 49 :: dgs n (p + q) else dgs n (p + q)) = Lib.decDigits (p + q)) := Lib.hid (dec_sum (by omega) (by omega) (.inl hn))
    have HRe := Lib.hid (HR.out p q hpq)
    rw [hn] at h1000 hle
    rw [hm] at hle
    have hsub : (n : Int) - (m : Int) = (c : Int) := by omega
    have hRep : ∀ wx, Calls Tryz.prog 130 #[.string ⟨#[48]⟩, .int .i64 (c : Int)] wx (Ret (.string ⟨(Lib.repeatL [48] c).toArray⟩) wx) := fun wx => Tryz.strings_Repeat ⟨#[48]⟩ c wx (by omega) (by show 1 * c ≤ _; omega)
    have hadd : ∀ W, (Op.stringOp .add ⟨(Lib.repeatL [48] c).toArray⟩ (dS q)).run Tryz.prog W = .ok (.string (gS n q)) W := fun W => by
      have hl : (Lib.repeatL [48] c).length = c := by rw [Lib.repeatL_length]; simp
      have hz : (⟨(Lib.repeatL [48] c).toArray⟩ : ByteArray).size = c := by simp [ByteArray.size, hl]
      rw [run_string_add_sum W _ _ (by rw [hQs, hz]; omega), pad_gS hm c hc]
    rw [HPg.out] at hPs ⊢
    have HR1 := Lib.hid hRep
    have HGA := Lib.hid fun i (hi : i < n) W => gS_idx 9 Tryz.underlying9 n p i hi W
    have HGB := Lib.hid fun i (hi : i < n) W => gS_idx 9 Tryz.underlying9 n q i hi W
    have hGs : (gS n q).size = n := gS_size n q
    generalize (⟨(Lib.repeatL [48] c).toArray⟩ : ByteArray) = Z at *
    generalize dS q = Q at *
    generalize gS n p = P at *
    generalize gS n q = G at *
    clear HR hm hn hpq HPg hRep hc
    go_wp2_with fail
    refine (HR1.out _).mono ?_
    rintro e w1 ⟨rfl, hb⟩
    have HB1 := Lib.hid hb
    clear hb HR1
    have hmk : ∀ W, (Instr.makeSlice 158 (.int .i64 (n : Int)) (.int .i64 (n : Int))).run Tryz.prog W = .ok (.slice (some ⟨W.heap.size, 0, none⟩) n n) (W.alloc (.cells (encBs (List.replicate n 0)).toArray 5)) := fun W => by
      rw [← made_zeroD]
      exact run_make_row' 158 5 (.int .u8 0) 1 Tryz.underlying158 (by kernel_rfl) rfl .i64 .i64 n (by omega) (by omega) W
    have HK : Hid (Blk (w1.alloc (.cells (encBs (List.replicate n 0)).toArray 5)) w1.heap.size 5 (encBs (List.replicate n 0)).toArray) := Lib.hid (Blk.new w1 _ _)
    have HB2 : Hid (Below w.heap.size w (w1.alloc (.cells (encBs (List.replicate n 0)).toArray 5))) := Lib.hid (below_alloc HB1.out _)
    have hg1 : w.heap.size ≤ w1.heap.size := HB1.out.size
    go_upto_region 5 with fail
    generalize (w1.alloc (.cells (encBs (List.replicate n 0)).toArray 5)) = w2 at *
    generalize w1.heap.size = g at *
    clear HB1 hmk hadd
    go_wp2_with fail
    go_loopw [6, 7] (fun s6 s7 wr => ∃ r k : Nat, r + k = n ∧ s7 = .int .i64 ((r : Int) - 1) ∧ s6 = .int .i64 ((cryK p q k : Nat) : Int) ∧ Hid (Blk wr g 5 (encBs (List.replicate r 0 ++ dgs k (p + q))).toArray) ∧ Hid (Below w.heap.size w wr)) (fun _ i _ => (intOf i + 1).toNat)
    case atStart => exact ⟨n, 0, by omega, rfl, by rw [cryK_zero]; rfl, by simpa [dgs] using HK, HB2⟩
    case round =>
      clear HK HB2
      obtain ⟨r, k, hrk, rfl, rfl, HK, HB⟩ := hrel
      by_cases hr : 0 < r
      · obtain ⟨i, rfl⟩ : ∃ i, r = i + 1 := ⟨r - 1, by omega⟩
        have he : (((i + 1 : Nat) : Int) - 1) = (i : Int) := by omega
        rw [he]
        have hin : i < n := by omega
        have hik : n - 1 - i = k := by omega
        have HA := Lib.hid (fun W => HGA.out i hin W)
        have HB' := Lib.hid (fun W => HGB.out i hin W)
        rw [hik] at HA HB'
        have HS := Lib.hid (cryK_succ p q k)
        have HD := Lib.hid (dg_sum p q k)
        have hc1 := cryK_le p q k
        have hda : p / 10 ^ k % 10 < 10 := Nat.mod_lt _ (by decide)
        have hdb : q / 10 ^ k % 10 < 10 := Nat.mod_lt _ (by decide)
        have HL := Lib.hid (lay_digit i k (p + q) n (by omega))
        generalize p / 10 ^ k % 10 = da at *
        generalize q / 10 ^ k % 10 = db at *
        generalize cryK p q k = ck at *
        go_upto_region 9 with fail
        refine wp_region_inv 13 0 (dcR P G i da db ck) (fun _ wx => Below wr.heap.size wr wx) (fun u v => Below u.heap.size u v) (fun _ => 0)
          (by kernel_rfl) (by kernel_rfl) (by decide) dcR_keep (below_drew (Below.refl _ _)) ?hX
        case' hX => (apply Exists.intro; refine ⟨fun T => ?hA, ?hob, ?hend⟩)
        case hA =>
          simp only [setAll, List.take_succ_cons, List.take_zero, Act.put, List.setIfInBounds_toArray, List.set_cons_succ, List.set_cons_zero, Nat.reduceAdd]
          exact rfl
        case hob =>
          go_light
          refine ⟨?_, ?_, ?_, ?_, ?_, ?_, ?_, ?_, ?_, ?_, ?_, ?_, ?_, trivial⟩
          all_goals (intro T wx n0 hC hn hp; dsimp only at hn ⊢)
          · unfold Op1; go_simp; first | exact ⟨rfl, Below.refl _ _⟩ | exact ⟨rfl, hC, Below.refl _ _⟩
          · unfold Op1; go_simp; first | exact ⟨rfl, Below.refl _ _⟩ | exact ⟨rfl, hC, Below.refl _ _⟩
          · obtain ⟨h0, h1, -⟩ := hp
            have h0 : T 0 = .string P := h0
            have h1 : T 1 = .int .i64 (i : Int) := h1
            have hx := HA.out wx
            unfold Op1
            go_simp
            first | exact ⟨rfl, Below.refl _ _⟩ | exact ⟨rfl, hC, Below.refl _ _⟩
          · obtain ⟨h0, -⟩ := hp
            have h0 : T 2 = .int .u8 ((48 + da : Nat) : Int) := h0
            unfold Op1
            go_simp
            exact ⟨congrArg (Value.int .u8) ((congrArg IntKind.u8.wrap (show (48 + (da : Int) - 48) = ((da : Nat) : Int) by omega)).trans (wrap_u8 da (by omega))), Below.refl _ _⟩
          · obtain ⟨h0, -⟩ := hp
            have h0 : T 3 = .int .u8 (da : Int) := h0
            unfold Op1
            go_simp
            exact ⟨congrArg (Value.int .i64) (wrap_i64 da (by omega)), Below.refl _ _⟩
          · unfold Op1; go_simp; first | exact ⟨rfl, Below.refl _ _⟩ | exact ⟨rfl, hC, Below.refl _ _⟩
          · unfold Op1; go_simp; first | exact ⟨rfl, Below.refl _ _⟩ | exact ⟨rfl, hC, Below.refl _ _⟩
          · obtain ⟨h0, h1, -⟩ := hp
            have h0 : T 5 = .string G := h0
            have h1 : T 6 = .int .i64 (i : Int) := h1
            have hx := HB'.out wx
            unfold Op1
            go_simp
            first | exact ⟨rfl, Below.refl _ _⟩ | exact ⟨rfl, hC, Below.refl _ _⟩
          · obtain ⟨h0, -⟩ := hp
            have h0 : T 7 = .int .u8 ((48 + db : Nat) : Int) := h0
            unfold Op1
            go_simp
            exact ⟨congrArg (Value.int .u8) ((congrArg IntKind.u8.wrap (show (48 + (db : Int) - 48) = ((db : Nat) : Int) by omega)).trans (wrap_u8 db (by omega))), Below.refl _ _⟩
          · obtain ⟨h0, -⟩ := hp
            have h0 : T 8 = .int .u8 (db : Int) := h0
            unfold Op1
            go_simp
            exact ⟨congrArg (Value.int .i64) (wrap_i64 db (by omega)), Below.refl _ _⟩
          · obtain ⟨h0, h1, -⟩ := hp
            have h0 : T 4 = .int .i64 (da : Int) := h0
            have h1 : T 9 = .int .i64 (db : Int) := h1
            unfold Op1
            go_simp
            exact ⟨congrArg (Value.int .i64) ((congrArg IntKind.i64.wrap (show ((da : Int) + (db : Int)) = ((da + db : Nat) : Int) by omega)).trans (wrap_i64 (da + db) (by omega))), Below.refl _ _⟩
          · unfold Op1; go_simp; first | exact ⟨rfl, Below.refl _ _⟩ | exact ⟨rfl, hC, Below.refl _ _⟩
          · obtain ⟨h0, h1, -⟩ := hp
            have h0 : T 10 = .int .i64 ((da + db : Nat) : Int) := h0
            have h1 : T 11 = .int .i64 (ck : Int) := h1
            unfold Op1
            go_simp
            exact ⟨congrArg (Value.int .i64) ((congrArg IntKind.i64.wrap (show ((da : Int) + (db : Int) + (ck : Int)) = ((da + db + ck : Nat) : Int) by omega)).trans (wrap_i64 (da + db + ck) (by omega))), Below.refl _ _⟩
        case hend =>
          intro T w4 ⟨n0, hn0, hb⟩ hR
          have hT : T 12 = .int .i64 ((da + db + ck : Nat) : Int) := hR 12 (by omega)
          have HB4 := Lib.hid (HB.out.trans (hb.mono HB.out.size))
          have HK4 := Lib.hid (HK.out.below hb HK.out.lt)
          clear hR hb HB HK HA HB'
          obtain ⟨s, hs⟩ : ∃ s, da + db + ck = s := ⟨_, rfl⟩
          have hs20 : s < 20 := by omega
          rw [hs] at hT HS HD
          clear hs hda hdb hc1
          obtain ⟨v0, hv0⟩ : ∃ v0, (encBs (List.replicate (i + 1) 0 ++ dgs k (p + q))).toArray[i]? = some v0 := ⟨_, Array.getElem?_eq_getElem (by simp [encBs]; omega)⟩
          have kc := (HK4.out.cell i).trans hv0
          clear hv0
          have kf := HK4.out.free i
          simp only [List.drop_succ_cons, List.drop_zero]
          have hdg : (48 + (s : Int) % 10) = ((Lib.dg (p + q) k).toNat : Int) := by
            rw [HD.out, UInt8.toNat_ofNat']
            omega
          have HK5 : Hid (Blk (w4.setCell ⟨g, i, none⟩ (.int .u8 (48 + (s : Int) % 10))) g 5 (encBs (List.replicate i 0 ++ dgs (k + 1) (p + q))).toArray) := Lib.hid (by
            rw [← HL.out, hdg]
            exact HK4.out.set i _)
          have HB5 : Hid (Below w.heap.size w (w4.setCell ⟨g, i, none⟩ (.int .u8 (48 + (s : Int) % 10)))) := Lib.hid (below_set HB4.out hg1 _ _)
          have hS6 : Value.int .i64 ((s : Int) / 10) = Value.int .i64 ((cryK p q (k + 1) : Nat) : Int) := by
            rw [HS.out, Int.natCast_ediv]; rfl
          have HS6 := Lib.hid hS6
          clear hdg hS6 HL HD HS HK4 HB4
          go_wp2_with fail
          exact ⟨⟨i, k + 1, by omega, rfl, HS6.out, HK5, HB5⟩, by simp [intOf]⟩
      · obtain rfl : r = 0 := by omega
        obtain rfl : k = n := by omega
        have HK9 : Hid (Blk wr g 5 (encBs (dgs k (p + q))).toArray) := Lib.hid (by simpa using HK.out)
        clear HK HGA HGB
        have hcv : (convert 158 9 (.slice (some ⟨g, 0, none⟩) k k)).run Tryz.prog wr = .ok (.string (gS k (p + q))) wr := by
          have h := run_convert_bytes_back (P := Tryz.prog) wr 158 9 5 ⟨g, 0, none⟩ k (dgs k (p + q)) Tryz.underlying158 Tryz.underlying5 Tryz.underlying9 (fun j hj => by
            rw [Lib.add_plain, Nat.zero_add, HK9.out.cell j]
            simp [encBs, encB, hj])
          rw [dgs_len] at h
          exact h
        by_cases hc0 : 0 < cryK p q k
        · have hR2 : (⟨#[49]⟩ : ByteArray) ++ gS k (p + q) = R := by
            rw [← HRe.out]
            unfold gS dS
            rw [← HFin.out, if_pos hc0, show (⟨#[49]⟩ : ByteArray) = ⟨([49] : List UInt8).toArray⟩ from rfl, ByteArray.mk_append_mk]
            rfl
          have hadd2 : ∀ W, (Op.stringOp .add ⟨#[49]⟩ (gS k (p + q))).run Tryz.prog W = .ok (.string R) W := fun W => by
            rw [run_string_add_sum W _ _ (by rw [gS_size]; show 1 + k ≤ _; omega), hR2]
          clear HFin HRe hR2
          generalize cryK p q k = ck at *
          generalize gS k (p + q) = U at *
          go_wp2_with fail
          go_ret
          exact ⟨rfl, HB.out⟩
        · have hR2 : gS k (p + q) = R := by
            rw [← HRe.out]
            unfold gS dS
            rw [← HFin.out, if_neg hc0]
          rw [hR2] at hcv
          clear HFin HRe hR2
          generalize cryK p q k = ck at *
          go_wp2_with fail
          go_ret
          exact ⟨rfl, HB.out⟩
end Go.Proofs.YtaeieigdibanlaaGreatDoor

namespace Go.Proofs.YtaeieigdibanlaaGreatDoor
open Go.RowKit Go
set_option linter.unusedVariables false

/-- how many addresses prefixes have -/
def pExp (p : Pf) : Nat := lenN p.1 - p.2.2.2.toNat
def sizeL : List Pf → Nat
  | [] => 0
  | p :: L => 2 ^ pExp p + sizeL L
theorem sizeL_snoc : ∀ (L : List Pf) (p : Pf), sizeL (L ++ [p]) = sizeL L + 2 ^ pExp p
  | [], p => by simp [sizeL]
  | q :: L, p => by
    simp only [List.cons_append, sizeL, sizeL_snoc L p]
    omega
theorem pExp_le (p : Pf) : pExp p ≤ 128 := by
  unfold pExp lenN
  split <;> omega
theorem sizeL_le : ∀ L : List Pf, sizeL L ≤ L.length * 2 ^ 128
  | [] => by simp [sizeL]
  | p :: L => by
    have h1 := sizeL_le L
    have h2 : 2 ^ pExp p ≤ 2 ^ 128 := Nat.pow_le_pow_right (by decide) (pExp_le p)
    simp only [sizeL, List.length_cons, Nat.add_mul]
    omega
theorem nd_small {x : Nat} (h : x < 10 ^ 60) : Lib.nDigits x ≤ 1000 := Nat.le_trans (nDigits_lt (by decide) h) (by decide)
theorem sizeL_nd {L : List Pf} (h : L.length ≤ 100000) : sizeL L < 10 ^ 60 := by
  have h1 := sizeL_le L
  have h2 : L.length * 2 ^ 128 ≤ 100000 * 2 ^ 128 := Nat.mul_le_mul_right _ h
  have h3 : 100000 * 2 ^ 128 < 10 ^ 60 := by decide
  omega
theorem pow_nd {q : Nat} (h : q ≤ 130) : 2 ^ q < 10 ^ 60 := Nat.lt_of_le_of_lt (Nat.pow_le_pow_right (by decide) h) (by decide)
theorem dS_zero : dS 0 = ⟨#[48]⟩ := by unfold dS; rw [Lib.decDigits_one (by decide)]; rfl
theorem dS_one : dS 1 = ⟨#[49]⟩ := by unfold dS; rw [Lib.decDigits_one (by decide)]; rfl
set_option maxRecDepth 100000 in
set_option maxHeartbeats 2000000 in
theorem sizeOf_any (ad : Option Addr) (n c : Nat) (L : List Pf) (w : World) (h : RdK layPf w ad L) (hn : L.length = n) (hs : n ≤ 100000) (hv : ∀ p ∈ L, OkPf p) :
    Calls Tryz.prog 37 #[.slice ad n c] w (Ret (.string (dS (sizeL L))) w) := by
  have H0 := Lib.hid h
  have Hn := Lib.hid hn
  have Hv := Lib.hid hv
  obtain ⟨D, hD⟩ : ∃ D : Nat → ByteArray, ∀ q, D q = dS (2 ^ q) := ⟨fun q => dS (2 ^ q), fun _ => rfl⟩
  obtain ⟨S, hS⟩ : ∃ S : Nat → ByteArray, ∀ k, S k = dS (sizeL (L.take k)) := ⟨fun k => dS (sizeL (L.take k)), fun _ => rfl⟩
  have HD0 : Hid (⟨#[49]⟩ = D 0) := Lib.hid (by rw [hD]; exact dS_one.symm)
  have HS0 : Hid (⟨#[48]⟩ = S 0) := Lib.hid (by rw [hS]; exact dS_zero.symm)
  have HDD : Hid (∀ q, q ≤ 129 → ∀ wx, Calls Tryz.prog 87 #[.string (D q), .string (D q)] wx (Ret (.string (D (q + 1))) wx)) := Lib.hid fun q hq wx => by
    have := decimal_any (2 ^ q) (2 ^ q) wx (nd_small (pow_nd (by omega))) (nd_small (pow_nd (by omega)))
    rw [hD, hD, Nat.pow_succ, Nat.mul_two]
    exact this
  have HSD : Hid (∀ k p, L[k]? = some p → ∀ wx, Calls Tryz.prog 87 #[.string (S k), .string (D (pExp p))] wx (Ret (.string (S (k + 1))) wx)) := Lib.hid fun k p hp wx => by
    have hlt := (List.getElem?_eq_some_iff.1 hp).1
    have := decimal_any (sizeL (L.take k)) (2 ^ pExp p) wx (nd_small (sizeL_nd (by rw [List.length_take]; omega))) (nd_small (pow_nd (by have := pExp_le p; omega)))
    rw [hS, hS, hD, List.take_add_one, hp, Option.toList_some, sizeL_snoc]
    exact this
  have HSn : Hid (dS (sizeL L) = S n) := Lib.hid (by rw [hS, ← hn, List.take_length])
  rw [HSn.out]
  clear h hn hv hD hS HSn
  go_enter Tryz.func37, Tryz.ntmps37
  go_wp2_with fail
  go_loopw [3, 9] (fun s3 i wr => ∃ k : Nat, k ≤ n ∧ i = .int .i64 (k : Int) ∧ s3 = .string (S k) ∧ Hid (Below w.heap.size w wr)) (fun _ i _ => n - (intOf i).toNat)
  case atStart => exact ⟨0, Nat.zero_le _, rfl, by rw [← HS0.out], Lib.hid (Below.refl _ _)⟩
  case round =>
    obtain ⟨k, hk, rfl, rfl, HB⟩ := hrel
    by_cases hlt : k < n
    · have hlt2 : k < L.length := by rw [Hn.out]; exact hlt
      obtain ⟨p, hp⟩ : ∃ p, L[k]? = some p := ⟨_, List.getElem?_eq_getElem hlt2⟩
      obtain ⟨g, o, had, hg, c0, c1, c2, c3⟩ := (H0.out.below HB.out).pf hp rfl
      subst had
      have HSk := Lib.hid (HSD.out k p hp)
      have hok := Hv.out p (List.mem_of_getElem? hp)
      have hbits := hok.bits
      obtain ⟨e, he⟩ : ∃ e, pExp p = e := ⟨_, rfl⟩
      have he128 : e ≤ 128 := by rw [← he]; exact pExp_le p
      have hsub : ((lenN p.1 : Nat) : Int) - p.2.2.2 = (e : Int) := by
        have h1 := hok.num.2.1
        have h2 := hok.nn
        rw [← he]
        unfold pExp
        have h3 : LN (nuP p) = lenN p.1 := by rw [LN_six, h1]
        omega
      rw [he] at HSk
      have hLen := fun wx => lengthQ_any p.1 p.2.1 p.2.2.1 wx
      clear he hok hbits hp hlt2
      obtain ⟨p1, p2, p3, p4⟩ := p
      simp only at c0 c1 c2 c3 hsub hLen
      generalize lenN p1 = ll at *
      have hHS : Hid ((ll : Int) - p4 = (e : Int)) := Lib.hid hsub
      have HK1 : Hid (Blk (wr.alloc (.cells #[.bool p1, .int .u64 (p2 : Int), .int .u64 (p3 : Int), .int .i64 p4] 90 (0, 0))) wr.heap.size 90 #[.bool p1, .int .u64 (p2 : Int), .int .u64 (p3 : Int), .int .i64 p4]) := Lib.hid (Blk.new wr _ _)
      have HB1 : Hid (Below w.heap.size w (wr.alloc (.cells #[.bool p1, .int .u64 (p2 : Int), .int .u64 (p3 : Int), .int .i64 p4] 90 (0, 0)))) := Lib.hid (below_alloc HB.out _)
      go_upto_region 6 with fail
      generalize (wr.alloc (.cells #[.bool p1, .int .u64 (p2 : Int), .int .u64 (p3 : Int), .int .i64 p4] 90 (0, 0))) = w1 at *
      generalize wr.heap.size = b5 at *
      have d0 := HK1.out.cell 0
      have d1 := HK1.out.cell 1
      have d2 := HK1.out.cell 2
      have d3 := HK1.out.cell 3
      simp at d0 d1 d2 d3
      have l0 := Later.cell_of d0
      have l1 := Later.cell_of d1
      have l2 := Later.cell_of d2
      have l3 := Later.cell_of d3
      have hL := fun x : Later w1 => Calls.later x (hLen x.1)
      unfold vA at hL
      clear d0 d1 d2 d3 c0 c1 c2 c3 hLen HB HK1
      refine wp_region_later (by kernel_rfl) (by kernel_rfl) ?_
      repeat (go_big_quiet_step ((go_at_call 86; exact hL _)))
      refine wpQuiet_nil ?_
      rintro w2 ⟨m2, hm2⟩
      have HB2 : Hid (Below w.heap.size w w2) := Lib.hid (HB1.out.trans ((by rw [hm2]; exact m2.2 : Below w1.heap.size w1 w2).mono HB1.out.size))
      clear hm2 m2 HB1 l0 l1 l2 l3 hL
      go_wp2_with fail
      go_loopw [6, 19] (fun s6 j wx => ∃ q : Nat, q ≤ e ∧ j = .int .i64 (q : Int) ∧ s6 = .string (D q) ∧ Hid (Below w.heap.size w wx)) (fun _ j _ => e - (intOf j).toNat)
      case atStart => exact ⟨0, Nat.zero_le _, rfl, by rw [← HD0.out], HB2⟩
      case round =>
        clear HB2
        obtain ⟨q, hq, rfl, rfl, HB⟩ := hrel
        by_cases hqe : q < e
        · go_wp2_with fail
          refine (HDD.out q (by omega) _).mono ?_
          rintro e w3 ⟨rfl, hb⟩
          have HB3 := Lib.hid (HB.out.trans (hb.mono HB.out.size))
          clear hb HB
          go_wp2_with fail
          exact ⟨⟨q + 1, by omega, by go_num, rfl, HB3⟩, by simp [intOf]; omega⟩
        · obtain rfl : q = e := by omega
          go_wp2_with fail
          refine (HSk.out _).mono ?_
          rintro e w3 ⟨rfl, hb⟩
          have HB3 := Lib.hid (HB.out.trans (hb.mono HB.out.size))
          clear hb HB
          go_wp2_with fail
          exact ⟨⟨k + 1, by omega, by go_num, rfl, HB3⟩, by simp [intOf]; omega⟩
    · obtain rfl : k = n := by omega
      go_wp2_with fail
      go_ret
      exact ⟨rfl, HB.out⟩
end Go.Proofs.YtaeieigdibanlaaGreatDoor
