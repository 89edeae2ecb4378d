/-
  A right packet's bytes: the function of the packet that the program and the reference both compute.
-/
import Derived.Test.YtaamonhhclffcaaBB
namespace Go.Proofs.Ytaamonhhclffcaa
open Go.RowKit Go
set_option linter.unusedVariables false

structure NP where
  s1 : Bool
  h1 : Nat
  l1 : Nat
  s2 : Bool
  h2 : Nat
  l2 : Nat
  hops : Nat
  proto : Nat
  fp : Nat
  tp : Nat
  syn : Bool
  fin : Bool
  rst : Bool
  has : Bool
  seq : Nat
  ack : Nat
  reply : Bool
  id : Nat
def NP.pv (x : NP) (v : Value) : PV := ⟨x.s1, x.h1, x.l1, x.s2, x.h2, x.l2, x.hops, x.proto, x.fp, x.tp, x.syn, x.fin, x.rst, x.has, x.seq, x.ack, x.reply, x.id, v⟩
structure NP.fit (x : NP) : Prop where
  h1 : x.h1 < 18446744073709551616
  l1 : x.l1 < 18446744073709551616
  h2 : x.h2 < 18446744073709551616
  l2 : x.l2 < 18446744073709551616
  hops : x.hops ≤ 255
  proto : x.proto = 1 ∨ x.proto = 6 ∨ x.proto = 17
  fp : x.fp ≤ 65535
  tp : x.tp ≤ 65535
  seq : x.seq ≤ 4294967295
  ack : x.ack ≤ 4294967295
  id : x.id ≤ 65535
  six : x.s1 = x.s2

def addrB (six : Bool) (hi lo : Nat) : List UInt8 := if six = true then be hi 8 ++ be lo 8 else be lo 4
theorem addrB_len (six : Bool) (hi lo : Nat) : (addrB six hi lo).length = if six = true then 16 else 4 := by
  unfold addrB; split <;> simp [be_len]
def flagN (x : NP) : Nat := (if x.fin = true then 1 else 0) + (if x.syn = true then 2 else 0) + (if x.rst = true then 4 else 0) + (if x.has = true then 16 else 0)
def kindN (x : NP) : Nat := if x.s1 = true then (if x.reply = true then 129 else 128) else if x.reply = true then 0 else 8
def codeN (x : NP) : Nat := if x.s1 = true ∧ x.proto = 1 then 58 else x.proto
def b8 (n : Nat) : UInt8 := UInt8.ofNat n
def partB (x : NP) (pay : List UInt8) : List UInt8 :=
  if x.proto = 6 then be x.fp 2 ++ be x.tp 2 ++ be x.seq 4 ++ be x.ack 4 ++ [80, b8 (flagN x), 255, 255, 0, 0, 0, 0] ++ pay
  else if x.proto = 17 then be x.fp 2 ++ be x.tp 2 ++ be (8 + pay.length) 2 ++ [0, 0] ++ pay
  else [b8 (kindN x), 0, 0, 0] ++ be x.id 2 ++ be x.seq 2 ++ pay
def leastN (p : Nat) : Nat := if p = 6 then 20 else 8
theorem partB_len (x : NP) (pay : List UInt8) : (partB x pay).length = leastN x.proto + pay.length := by
  unfold partB leastN; (repeat' split) <;> simp [be_len] <;> omega
def sumAtN (p : Nat) : Nat := if p = 6 then 16 else if p = 17 then 6 else 2
def sumN (bs : List UInt8) : Nat := 65535 - foldSum (sumB bs true)
theorem sumN_le (bs : List UInt8) : sumN bs ≤ 65535 := by unfold sumN; omega
def aheadB (x : NP) (n : Nat) : List UInt8 :=
  if x.s1 = true then addrB x.s1 x.h1 x.l1 ++ addrB x.s2 x.h2 x.l2 ++ be n 4 ++ [0, 0, 0, b8 (codeN x)]
  else if x.proto = 1 then [] else addrB x.s1 x.h1 x.l1 ++ addrB x.s2 x.h2 x.l2 ++ [0, b8 x.proto] ++ be n 2
theorem aheadB_len (x : NP) (n : Nat) : (aheadB x n).length ≤ 40 := by
  unfold aheadB; (repeat' split) <;> simp [be_len, addrB_len] <;> (repeat' split) <;> omega
def partSumN (x : NP) (part : List UInt8) : Nat := if x.proto = 17 ∧ sumN (aheadB x part.length ++ part) = 0 then 65535 else sumN (aheadB x part.length ++ part)
theorem partSumN_le (x : NP) (part : List UInt8) : partSumN x part ≤ 65535 := by
  unfold partSumN; split
  · omega
  · exact sumN_le _
def setSum (L : List UInt8) (i n : Nat) : List UInt8 := (L.set i (b8 (n / 256))).set (i + 1) (b8 n)
theorem setSum_len (L : List UInt8) (i n : Nat) : (setSum L i n).length = L.length := by simp [setSum]
def headB (x : NP) (n : Nat) : List UInt8 := [69, 0] ++ be (20 + n) 2 ++ [0, 0, 0, 0, b8 x.hops, b8 x.proto, 0, 0] ++ addrB x.s1 x.h1 x.l1 ++ addrB x.s2 x.h2 x.l2
def bodyB (x : NP) (pay : List UInt8) : List UInt8 := setSum (partB x pay) (sumAtN x.proto) (partSumN x (partB x pay))
theorem bodyB_len (x : NP) (pay : List UInt8) : (bodyB x pay).length = leastN x.proto + pay.length := by rw [bodyB, setSum_len, partB_len]
def pktB (x : NP) (pay : List UInt8) : List UInt8 :=
  if x.s1 = true then [96, 0, 0, 0] ++ be (bodyB x pay).length 2 ++ [b8 (codeN x), b8 x.hops] ++ addrB x.s1 x.h1 x.l1 ++ addrB x.s2 x.h2 x.l2 ++ bodyB x pay
  else setSum (headB x (bodyB x pay).length) 10 (sumN (headB x (bodyB x pay).length)) ++ bodyB x pay
theorem headB_len (x : NP) (n : Nat) : 12 ≤ (headB x n).length ∧ (headB x n).length ≤ 44 := by
  simp [headB, be_len, addrB_len]; (repeat' split) <;> omega
/-- the two bytes of a sum, laid over a row -/
theorem setSum_splice (L : List UInt8) (i n : Nat) (h : i + 2 ≤ L.length) (hn : n ≤ 65535) : L.take i ++ (be n 2 ++ L.drop (i + 2)) = setSum L i n := by
  have hb : be n 2 = [b8 (n / 256), b8 n] := by simp [be, b8]
  rw [hb]
  unfold setSum
  obtain ⟨A, B, rfl, hA⟩ : ∃ A B, L = A ++ B ∧ A.length = i := ⟨L.take i, L.drop i, (List.take_append_drop i L).symm, by simp; omega⟩
  subst hA
  match B, h with
  | a :: b :: B, _ => simp
  | [a], h => simp at h
  | [], h => simp at h; omega
end Go.Proofs.Ytaamonhhclffcaa
