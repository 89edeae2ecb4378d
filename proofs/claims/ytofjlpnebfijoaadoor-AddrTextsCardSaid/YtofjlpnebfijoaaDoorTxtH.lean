/-
  addr.Text of the program, AddrText of the reference at any right address: one text.
-/
import Derived.Test.YtofjlpnebfijoaaDoorTxtG
import Derived.Test.YtofjlpnebfijoaaDoorCmpA
namespace Go.Proofs.YtofjlpnebfijoaaDoor
open Go.RowKit Go
set_option linter.unusedVariables false

/-- the text of an address -/
def txtA (six : Bool) (hi lo : Nat) : ByteArray := if six = true then sixT (dg hi lo) else joinS (fourL lo) ⟨#[46]⟩
theorem txtA_four {hi lo : Nat} : txtA false hi lo = joinS (fourL lo) ⟨#[46]⟩ := rfl
theorem txtA_six {hi lo : Nat} : txtA true hi lo = sixT (dg hi lo) := rfl
theorem aFault_lo {six : Bool} {hi lo : Nat} (h : aFault six (hi : Int) (lo : Int) = 0) : six = false → lo < 4294967296 := by
  rintro rfl
  unfold aFault at h
  by_cases h2 : false = false ∧ ((hi : Int) ≠ 0 ∨ 4294967296 ≤ (lo : Int))
  · rw [if_pos h2] at h; cases h
  · simp at h2; omega
theorem textOf_any (six : Bool) (hi lo : Nat) (w : World) (h1 : U64N hi) (h2 : U64N lo) (hf : aFault six (hi : Int) (lo : Int) = 0) (ht : Tabs w) :
    Calls Tryd.prog 16 #[.agg #[.bool six, .int .u64 (hi : Int), .int .u64 (lo : Int)]] w (Ret (.string (txtA six hi lo)) w) := by
  cases six
  · exact textFour_any hi lo w (aFault_lo hf rfl) ht
  · exact textSix_any hi lo w h1 h2 ht
theorem addrText_any (six : Bool) (hi lo : Nat) (w : World) (h1 : U64N hi) (h2 : U64N lo) (hf : aFault six (hi : Int) (lo : Int) = 0) (ht : Tabs w) :
    Calls Tryd.prog 9 #[.agg #[.bool six, .int .u64 (hi : Int), .int .u64 (lo : Int)]] w (Ret (.string (txtA six hi lo)) w) := by
  cases six
  · exact addrTextFour_any hi lo w h1 (aFault_lo hf rfl) ht
  · exact addrTextSix_any hi lo w h1 h2 ht
/-- the text, or none -/
def txtR (six : Bool) (hi lo : Nat) : ByteArray := if aFault six (hi : Int) (lo : Int) = 0 then txtA six hi lo else ⟨#[]⟩
set_option maxRecDepth 100000 in
set_option maxHeartbeats 1000000 in
theorem aText_any (six : Bool) (hi lo : Nat) (w : World) (h1 : U64N hi) (h2 : U64N lo) (ht : Tabs w) :
    Calls Tryd.prog 7 #[.agg #[.bool six, .int .u64 (hi : Int), .int .u64 (lo : Int)]] w (Ret (.tuple #[.string (txtR six hi lo), .int .i64 (aFault six (hi : Int) (lo : Int))]) w) := by
  have HC := Lib.hid fun wx => checkAddr_any six (hi : Int) (lo : Int) wx (u64_le h1) (u64_le h2)
  have HT := Lib.hid fun hf wx (ht : Tabs wx) => textOf_any six hi lo wx h1 h2 hf ht
  have HR : Hid (txtR six hi lo = if aFault six (hi : Int) (lo : Int) = 0 then txtA six hi lo else ⟨#[]⟩) := Lib.hid rfl
  have hv := aFault_vals six (hi : Int) (lo : Int)
  generalize txtR six hi lo = R at *
  generalize txtA six hi lo = X at *
  generalize aFault six (hi : Int) (lo : Int) = F at *
  unfold vAddr at HC
  have HP : Hid (Blk (w.alloc (.cells #[.bool six, .int .u64 (hi : Int), .int .u64 (lo : Int)] 28 (0, 0))) w.heap.size 28 #[.bool six, .int .u64 (hi : Int), .int .u64 (lo : Int)]) := Lib.hid (Blk.new w _ _)
  have HB : Hid (Below w.heap.size w (w.alloc (.cells #[.bool six, .int .u64 (hi : Int), .int .u64 (lo : Int)] 28 (0, 0)))) := Lib.hid (below_alloc (Below.refl _ _) _)
  have HT0 := Lib.hid (ht.below HB.out)
  clear ht
  go_enter Tryd.func7, Tryd.ntmps7
  go_upto_region 1 with fail
  generalize w.alloc (.cells #[.bool six, .int .u64 (hi : Int), .int .u64 (lo : Int)] 28 (0, 0)) = w0 at *
  have p0 := HP.out.cell 0
  have p1 := HP.out.cell 1
  have p2 := HP.out.cell 2
  simp at p0 p1 p2
  go_wp2_with fail
  refine (HC.out _).mono ?_
  rintro e w1 ⟨rfl, o, ho⟩
  have hb : Below w0.heap.size w0 w1 := by rw [ho]; exact below_alloc (Below.refl _ _) _
  clear ho o
  have HP1 := Lib.hid (HP.out.below hb HP.out.lt)
  have HB1 := Lib.hid (HB.out.trans (hb.mono HB.out.size))
  have HT1 := Lib.hid (HT0.out.below hb)
  clear hb HP HB HT0 p0 p1 p2 HC
  have p0 := HP1.out.cell 0
  have p1 := HP1.out.cell 1
  have p2 := HP1.out.cell 2
  simp at p0 p1 p2
  rcases hv with rfl | rfl
  · have hR := HR.out
    rw [if_pos rfl] at hR
    subst hR
    have HT2 := Lib.hid (HT.out rfl _ HT1.out)
    clear HR HT
    go_wp2_with fail
    refine HT2.out.mono ?_
    rintro e w2 ⟨rfl, hb⟩
    go_wp2_with fail
    go_ret2
    exact ⟨rfl, HB1.out.trans (hb.mono HB1.out.size)⟩
  · have hR := HR.out
    rw [if_neg (by decide)] at hR
    subst hR
    clear HR HT
    go_wp2_with fail
    go_ret2
    exact ⟨rfl, HB1.out⟩
end Go.Proofs.YtofjlpnebfijoaaDoor
