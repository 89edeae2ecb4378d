/-
  Keys: the program's IsKey, the reference's Key (by strings.Trim): both say keyB.
-/
import Derived.Test.YtcpafmndjcejjaaGreatDoorAR8
import Derived.Test.YtcpafmndjcejjaaGreatDoorAR5
import Derived.Test.YtcpafmndjcejjaaGreatDoorAR10
set_option linter.unusedVariables false
namespace Go.Proofs.YtcpafmndjcejjaaGreatDoor
open Go.RowKit Go
set_option linter.unusedVariables false

/-- a list of bytes as a string -/
def strL (L : List UInt8) : ByteArray := ⟨L.toArray⟩
theorem strL_of (s : ByteArray) : strL s.data.toList = s := by
  rcases s with ⟨⟨l⟩⟩
  rfl
theorem strL_size (L : List UInt8) : (strL L).size = L.length := by simp [strL, ByteArray.size]
theorem strL_get (L : List UInt8) (i : Nat) (x : UInt8) (hx : L[i]? = some x) (h : i < (strL L).size) : (strL L)[i]'h = x := by
  obtain ⟨h2, rfl⟩ := List.getElem?_eq_some_iff.1 hx
  rfl
theorem strL_take (L : List UInt8) (n : Nat) : (strL L).extract 0 n = strL (L.take n) := by
  unfold strL
  apply ByteArray.ext
  simp
theorem strL_drop (L : List UInt8) (m : Nat) : (strL L).extract m (strL L).size = strL (L.drop m) := by
  unfold strL
  apply ByteArray.ext
  simp [ByteArray.size]
  exact List.take_of_length_le (by simp)
theorem wrap_i64R (x : Nat) (h : x < 9223372036854775808) : IntKind.i64.wrap (x : Int) = (x : Int) := by
  rw [IntKind.wrap_i64]
  omega
end Go.Proofs.YtcpafmndjcejjaaGreatDoor
