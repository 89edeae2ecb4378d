/-
  hasPorts of both.
  Rows of ranges that a call owns: two cells an element.
  slices.Equal of two rows of ranges.
  Checks of ports, of rows of any length (more than a thousand: 2).
  Bytes: put and big (a number in some bytes), Equal of two slices of bytes.
  A packet: its cells, its block, the fields set one by one; what a generator keeps of it.
  Packets: CheckPacket and the reference's PacketFault are the same function of the packet.
  Check of rows, of the program and of the reference.
-/
import Derived.Test.YtgkhcdjoilgfmaaGreatDoorRPX21
import Derived.Test.YtgkhcdjoilgfmaaGreatDoorRPX3
import Derived.Test.YtgkhcdjoilgfmaaGreatDoorRPX20
import Derived.Laws.StructEq
import Derived.Test.YtgkhcdjoilgfmaaGreatDoorRPX7
import Derived.Test.YtgkhcdjoilgfmaaGreatDoorRPX1
import Derived.Laws.Tables
import Derived.BigQuiet
import Derived.Test.YtgkhcdjoilgfmaaGreatDoorRPX10
import Derived.Test.YtgkhcdjoilgfmaaGreatDoorRPX17
set_option linter.unusedVariables false
set_option maxRecDepth 100000
namespace Go.Proofs.YtgkhcdjoilgfmaaGreatDoor
open Go.RowKit Go
def be (n:Nat):Nat→List UInt8
 | 0 => []
 | k + 1 => UInt8.ofNat (n / 256 ^ k) :: be n k
structure PV where
 s1:Bool
 h1:Int
 l1:Int
 s2:Bool
 h2:Int
 l2:Int
 hops:Int
 proto:Int
 fp:Int
 tp:Int
 syn:Bool
 fin:Bool
 rst:Bool
 has:Bool
 seq:Int
 ack:Int
 reply:Bool
 id:Int
 pay:Value
def PV.cells (x:PV):Array Value:=#[.bool x.s1, .int .u64 x.h1, .int .u64 x.l1, .bool x.s2, .int .u64 x.h2, .int .u64 x.l2, .int .i64 x.hops, .int .i64 x.proto, .int .i64 x.fp, .int .i64 x.tp, .bool x.syn, .bool x.fin, .bool x.rst, .bool x.has, .int .i64 x.seq, .int .i64 x.ack, .bool x.reply, .int .i64 x.id,x.pay]
def PV.ok (x:PV):Prop:=U64 x.h1∧U64 x.l1∧U64 x.h2∧U64 x.l2∧x.pay.oneCell'=true
def PV.zero:PV:=⟨false,0,0,false,0,0,0,0,0,0,false,false,false,false,0,0,false,0, .slice none 0 0⟩
end Go.Proofs.YtgkhcdjoilgfmaaGreatDoor
