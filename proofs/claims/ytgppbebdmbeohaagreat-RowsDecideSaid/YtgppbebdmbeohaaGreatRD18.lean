/-
  A packet: its cells, its block, the fields set one by one; what a generator keeps of it.
  Packets: CheckPacket and the reference's PacketFault are the same function of the packet.
-/
import Derived.Test.YtgppbebdmbeohaaGreatRD17
import Derived.Test.YtgppbebdmbeohaaGreatRD1
import Derived.Laws.Tables
import Derived.Test.YtgppbebdmbeohaaGreatRD10
import Derived.BigQuiet
set_option linter.unusedVariables false
namespace Go.Proofs.YtgppbebdmbeohaaGreat
open Go.RowKit Go
set_option linter.unusedVariables false

structure PV where
  s1 : Bool
  h1 : Int
  l1 : Int
  s2 : Bool
  h2 : Int
  l2 : Int
  hops : Int
  proto : Int
  fp : Int
  tp : Int
  syn : Bool
  fin : Bool
  rst : Bool
  has : Bool
  seq : Int
  ack : Int
  reply : Bool
  id : Int
  pay : Value
def PV.cells (x : PV) : Array Value := #[.bool x.s1, .int .u64 x.h1, .int .u64 x.l1, .bool x.s2, .int .u64 x.h2, .int .u64 x.l2, .int .i64 x.hops, .int .i64 x.proto, .int .i64 x.fp, .int .i64 x.tp, .bool x.syn, .bool x.fin, .bool x.rst, .bool x.has, .int .i64 x.seq, .int .i64 x.ack, .bool x.reply, .int .i64 x.id, x.pay]
def PV.ok (x : PV) : Prop := U64 x.h1 ∧ U64 x.l1 ∧ U64 x.h2 ∧ U64 x.l2 ∧ x.pay.oneCell' = true
def PV.zero : PV := ⟨false, 0, 0, false, 0, 0, 0, 0, 0, 0, false, false, false, false, 0, 0, false, 0, .slice none 0 0⟩
def PBlk (w : World) (B : Nat) (x : PV) : Prop := Blk w B 60 #[.bool x.s1, .int .u64 x.h1, .int .u64 x.l1, .bool x.s2, .int .u64 x.h2, .int .u64 x.l2, .int .i64 x.hops, .int .i64 x.proto, .int .i64 x.fp, .int .i64 x.tp, .bool x.syn, .bool x.fin, .bool x.rst, .bool x.has, .int .i64 x.seq, .int .i64 x.ack, .bool x.reply, .int .i64 x.id, x.pay]
theorem PBlk.cells {w : World} {B : Nat} {x : PV} (h : PBlk w B x) : w.cell? ⟨B, 0, none⟩ = some (.bool x.s1) ∧ w.cell? ⟨B, 1, none⟩ = some (.int .u64 x.h1) ∧ w.cell? ⟨B, 2, none⟩ = some (.int .u64 x.l1) ∧ w.cell? ⟨B, 3, none⟩ = some (.bool x.s2) ∧ w.cell? ⟨B, 4, none⟩ = some (.int .u64 x.h2) ∧ w.cell? ⟨B, 5, none⟩ = some (.int .u64 x.l2) ∧ w.cell? ⟨B, 6, none⟩ = some (.int .i64 x.hops) ∧ w.cell? ⟨B, 7, none⟩ = some (.int .i64 x.proto) ∧ w.cell? ⟨B, 8, none⟩ = some (.int .i64 x.fp) ∧ w.cell? ⟨B, 9, none⟩ = some (.int .i64 x.tp) ∧ w.cell? ⟨B, 10, none⟩ = some (.bool x.syn) ∧ w.cell? ⟨B, 11, none⟩ = some (.bool x.fin) ∧ w.cell? ⟨B, 12, none⟩ = some (.bool x.rst) ∧ w.cell? ⟨B, 13, none⟩ = some (.bool x.has) ∧ w.cell? ⟨B, 14, none⟩ = some (.int .i64 x.seq) ∧ w.cell? ⟨B, 15, none⟩ = some (.int .i64 x.ack) ∧ w.cell? ⟨B, 16, none⟩ = some (.bool x.reply) ∧ w.cell? ⟨B, 17, none⟩ = some (.int .i64 x.id) ∧ w.cell? ⟨B, 18, none⟩ = some (x.pay) ∧ ∀ i, w.frozen? ⟨B, i, none⟩ = false :=
  ⟨Blk.cell h 0, Blk.cell h 1, Blk.cell h 2, Blk.cell h 3, Blk.cell h 4, Blk.cell h 5, Blk.cell h 6, Blk.cell h 7, Blk.cell h 8, Blk.cell h 9, Blk.cell h 10, Blk.cell h 11, Blk.cell h 12, Blk.cell h 13, Blk.cell h 14, Blk.cell h 15, Blk.cell h 16, Blk.cell h 17, Blk.cell h 18, Blk.free h⟩
theorem PBlk.set_s1 {w : World} {B : Nat} {x : PV} (h : PBlk w B x) (v : Bool) : PBlk (w.setCell ⟨B, 0, none⟩ (.bool v)) B { x with s1 := v } := Blk.set h 0 (.bool v)
theorem PBlk.set_h1 {w : World} {B : Nat} {x : PV} (h : PBlk w B x) (v : Int) : PBlk (w.setCell ⟨B, 1, none⟩ (.int .u64 v)) B { x with h1 := v } := Blk.set h 1 (.int .u64 v)
theorem PBlk.set_l1 {w : World} {B : Nat} {x : PV} (h : PBlk w B x) (v : Int) : PBlk (w.setCell ⟨B, 2, none⟩ (.int .u64 v)) B { x with l1 := v } := Blk.set h 2 (.int .u64 v)
theorem PBlk.set_s2 {w : World} {B : Nat} {x : PV} (h : PBlk w B x) (v : Bool) : PBlk (w.setCell ⟨B, 3, none⟩ (.bool v)) B { x with s2 := v } := Blk.set h 3 (.bool v)
theorem PBlk.set_h2 {w : World} {B : Nat} {x : PV} (h : PBlk w B x) (v : Int) : PBlk (w.setCell ⟨B, 4, none⟩ (.int .u64 v)) B { x with h2 := v } := Blk.set h 4 (.int .u64 v)
theorem PBlk.set_l2 {w : World} {B : Nat} {x : PV} (h : PBlk w B x) (v : Int) : PBlk (w.setCell ⟨B, 5, none⟩ (.int .u64 v)) B { x with l2 := v } := Blk.set h 5 (.int .u64 v)
theorem PBlk.set_hops {w : World} {B : Nat} {x : PV} (h : PBlk w B x) (v : Int) : PBlk (w.setCell ⟨B, 6, none⟩ (.int .i64 v)) B { x with hops := v } := Blk.set h 6 (.int .i64 v)
theorem PBlk.set_proto {w : World} {B : Nat} {x : PV} (h : PBlk w B x) (v : Int) : PBlk (w.setCell ⟨B, 7, none⟩ (.int .i64 v)) B { x with proto := v } := Blk.set h 7 (.int .i64 v)
theorem PBlk.set_fp {w : World} {B : Nat} {x : PV} (h : PBlk w B x) (v : Int) : PBlk (w.setCell ⟨B, 8, none⟩ (.int .i64 v)) B { x with fp := v } := Blk.set h 8 (.int .i64 v)
theorem PBlk.set_tp {w : World} {B : Nat} {x : PV} (h : PBlk w B x) (v : Int) : PBlk (w.setCell ⟨B, 9, none⟩ (.int .i64 v)) B { x with tp := v } := Blk.set h 9 (.int .i64 v)
theorem PBlk.set_syn {w : World} {B : Nat} {x : PV} (h : PBlk w B x) (v : Bool) : PBlk (w.setCell ⟨B, 10, none⟩ (.bool v)) B { x with syn := v } := Blk.set h 10 (.bool v)
theorem PBlk.set_fin {w : World} {B : Nat} {x : PV} (h : PBlk w B x) (v : Bool) : PBlk (w.setCell ⟨B, 11, none⟩ (.bool v)) B { x with fin := v } := Blk.set h 11 (.bool v)
theorem PBlk.set_rst {w : World} {B : Nat} {x : PV} (h : PBlk w B x) (v : Bool) : PBlk (w.setCell ⟨B, 12, none⟩ (.bool v)) B { x with rst := v } := Blk.set h 12 (.bool v)
theorem PBlk.set_has {w : World} {B : Nat} {x : PV} (h : PBlk w B x) (v : Bool) : PBlk (w.setCell ⟨B, 13, none⟩ (.bool v)) B { x with has := v } := Blk.set h 13 (.bool v)
theorem PBlk.set_seq {w : World} {B : Nat} {x : PV} (h : PBlk w B x) (v : Int) : PBlk (w.setCell ⟨B, 14, none⟩ (.int .i64 v)) B { x with seq := v } := Blk.set h 14 (.int .i64 v)
theorem PBlk.set_ack {w : World} {B : Nat} {x : PV} (h : PBlk w B x) (v : Int) : PBlk (w.setCell ⟨B, 15, none⟩ (.int .i64 v)) B { x with ack := v } := Blk.set h 15 (.int .i64 v)
theorem PBlk.set_reply {w : World} {B : Nat} {x : PV} (h : PBlk w B x) (v : Bool) : PBlk (w.setCell ⟨B, 16, none⟩ (.bool v)) B { x with reply := v } := Blk.set h 16 (.bool v)
theorem PBlk.set_id {w : World} {B : Nat} {x : PV} (h : PBlk w B x) (v : Int) : PBlk (w.setCell ⟨B, 17, none⟩ (.int .i64 v)) B { x with id := v } := Blk.set h 17 (.int .i64 v)
theorem PBlk.set_pay {w : World} {B : Nat} {x : PV} (h : PBlk w B x) (v : Value) : PBlk (w.setCell ⟨B, 18, none⟩ (v)) B { x with pay := v } := Blk.set h 18 (v)

/-- what a generator of packets keeps: the result's block A (still zero), the packet's block F, the stream -/
structure PG (b : Nat) (w0 : World) (m A F : Nat) (x : PV) (w : World) : Prop where
  f : PBlk w F x
  a : PBlk w A PV.zero
  g : Gen b w0 w m
  ok : x.ok
  ba : b < A
  bf : b < F
  ne : A ≠ F
  wa : w0.heap.size ≤ A
  wf : w0.heap.size ≤ F
theorem PG.mono {b m m' A F : Nat} {w0 w : World} {x : PV} (h : PG b w0 m A F x w) (hm : m ≤ m') : PG b w0 m' A F x w := { h with g := h.g.mono hm }
theorem PG.step {b m m' A F : Nat} {w0 w w' : World} {x : PV} (h : PG b w0 m A F x w) (hg : Gen b w w' m') : PG b w0 m' A F x w' :=
  ⟨Blk.keep h.f hg.g (by have := h.bf; omega), Blk.keep h.a hg.g (by have := h.ba; omega), h.g.trans hg, h.ok, h.ba, h.bf, h.ne, h.wa, h.wf⟩
theorem PG.alloc {b m A F : Nat} {w0 w : World} {x : PV} (h : PG b w0 m A F x w) (o : Obj) : PG b w0 m A F x (w.alloc o) :=
  ⟨Blk.alloc h.f o, Blk.alloc h.a o, h.g.alloc o, h.ok, h.ba, h.bf, h.ne, h.wa, h.wf⟩
theorem PG.drewN {b m A F : Nat} {w0 w : World} {x : PV} (h : PG b w0 m A F x w) (n : Nat) : PG b w0 m A F x (w.drewN n) :=
  ⟨Blk.drewN h.f n, Blk.drewN h.a n, h.g.drewN n, h.ok, h.ba, h.bf, h.ne, h.wa, h.wf⟩
theorem PG.set {b m A F : Nat} {w0 w : World} {x x' : PV} {i : Nat} {v : Value} (h : PG b w0 m A F x w) (hf : PBlk (w.setCell ⟨F, i, none⟩ v) F x') (ok : x'.ok) : PG b w0 m A F x' (w.setCell ⟨F, i, none⟩ v) :=
  ⟨hf, Blk.far h.a h.ne i v, h.g.setCell _ _ h.wf h.bf, ok, h.ba, h.bf, h.ne, h.wa, h.wf⟩
theorem PG.below {b m A F B : Nat} {w0 w w' : World} {x : PV} (h : PG b w0 m A F x w) (hb : Below B w w') (hB : w0.heap.size ≤ B) (h1 : b < B) (h2 : A < B) (h3 : F < B) : PG b w0 m A F x w' :=
  ⟨Blk.below h.f hb h3, Blk.below h.a hb h2, h.g.below hb hB h1, h.ok, h.ba, h.bf, h.ne, h.wa, h.wf⟩
theorem PG.set_hops {b m A F : Nat} {w0 w : World} {x : PV} (h : PG b w0 m A F x w) (v : Int) : PG b w0 m A F { x with hops := v } (w.setCell ⟨F, 6, none⟩ (.int .i64 v)) := h.set (PBlk.set_hops h.f v) h.ok
theorem PG.set_proto {b m A F : Nat} {w0 w : World} {x : PV} (h : PG b w0 m A F x w) (v : Int) : PG b w0 m A F { x with proto := v } (w.setCell ⟨F, 7, none⟩ (.int .i64 v)) := h.set (PBlk.set_proto h.f v) h.ok
theorem PG.set_fp {b m A F : Nat} {w0 w : World} {x : PV} (h : PG b w0 m A F x w) (v : Int) : PG b w0 m A F { x with fp := v } (w.setCell ⟨F, 8, none⟩ (.int .i64 v)) := h.set (PBlk.set_fp h.f v) h.ok
theorem PG.set_tp {b m A F : Nat} {w0 w : World} {x : PV} (h : PG b w0 m A F x w) (v : Int) : PG b w0 m A F { x with tp := v } (w.setCell ⟨F, 9, none⟩ (.int .i64 v)) := h.set (PBlk.set_tp h.f v) h.ok
theorem PG.set_syn {b m A F : Nat} {w0 w : World} {x : PV} (h : PG b w0 m A F x w) (v : Bool) : PG b w0 m A F { x with syn := v } (w.setCell ⟨F, 10, none⟩ (.bool v)) := h.set (PBlk.set_syn h.f v) h.ok
theorem PG.set_fin {b m A F : Nat} {w0 w : World} {x : PV} (h : PG b w0 m A F x w) (v : Bool) : PG b w0 m A F { x with fin := v } (w.setCell ⟨F, 11, none⟩ (.bool v)) := h.set (PBlk.set_fin h.f v) h.ok
theorem PG.set_rst {b m A F : Nat} {w0 w : World} {x : PV} (h : PG b w0 m A F x w) (v : Bool) : PG b w0 m A F { x with rst := v } (w.setCell ⟨F, 12, none⟩ (.bool v)) := h.set (PBlk.set_rst h.f v) h.ok
theorem PG.set_has {b m A F : Nat} {w0 w : World} {x : PV} (h : PG b w0 m A F x w) (v : Bool) : PG b w0 m A F { x with has := v } (w.setCell ⟨F, 13, none⟩ (.bool v)) := h.set (PBlk.set_has h.f v) h.ok
theorem PG.set_seq {b m A F : Nat} {w0 w : World} {x : PV} (h : PG b w0 m A F x w) (v : Int) : PG b w0 m A F { x with seq := v } (w.setCell ⟨F, 14, none⟩ (.int .i64 v)) := h.set (PBlk.set_seq h.f v) h.ok
theorem PG.set_ack {b m A F : Nat} {w0 w : World} {x : PV} (h : PG b w0 m A F x w) (v : Int) : PG b w0 m A F { x with ack := v } (w.setCell ⟨F, 15, none⟩ (.int .i64 v)) := h.set (PBlk.set_ack h.f v) h.ok
theorem PG.set_reply {b m A F : Nat} {w0 w : World} {x : PV} (h : PG b w0 m A F x w) (v : Bool) : PG b w0 m A F { x with reply := v } (w.setCell ⟨F, 16, none⟩ (.bool v)) := h.set (PBlk.set_reply h.f v) h.ok
theorem PG.set_id {b m A F : Nat} {w0 w : World} {x : PV} (h : PG b w0 m A F x w) (v : Int) : PG b w0 m A F { x with id := v } (w.setCell ⟨F, 17, none⟩ (.int .i64 v)) := h.set (PBlk.set_id h.f v) h.ok
theorem PV.one (x : PV) (h : x.pay.oneCell' = true) : x.cells.all (·.oneCell') = true := by
  unfold PV.cells
  simp only [Value.oneCell'] at h
  simp [Value.oneCell']
  exact h
theorem PV.size (x : PV) : x.cells.size = 19 := rfl
theorem PBlk.store {w : World} {B : Nat} {y : PV} (h : PBlk w B y) (x : PV) : PBlk (w.setRow B x.cells) B x := setRow_heap w B _ _ _ _ h
theorem Blk.setRowP {w : World} {A B : Nat} {t : TypeId} {cs : Array Value} (h : Blk w A t cs) (hne : A ≠ B) (c2 : Array Value) : Blk (w.setRow B c2) A t cs := (setRow_other w B A c2 hne).trans h
theorem below_setRowP {u v : World} (h : Below u.heap.size u v) {B : Nat} (hB : u.heap.size ≤ B) (c : Array Value) : Below u.heap.size u (v.setRow B c) :=
  ⟨h.os, h.tape, h.output, by rw [setRow_size]; exact h.size, fun i hi => (setRow_other v B i c (by omega)).trans (h.block i hi)⟩
theorem Gen.setRow {b m B : Nat} {u w : World} (h : Gen b u w m) (hB : u.heap.size ≤ B) (hb : b < B) (c : Array Value) : Gen b u (w.setRow B c) m :=
  ⟨⟨h.g.os, h.g.tape, h.g.output, by rw [setRow_size]; exact h.g.size, fun i hi hne => (setRow_other w B i c (by omega)).trans (h.g.block i hi hne)⟩, h.s.keep fun i hi => setRow_other w B i c (by omega)⟩
theorem PG.store {b m A F : Nat} {w0 w : World} {y : PV} (h : PG b w0 m A F y w) (x : PV) (ok : x.ok) : PG b w0 m A F x (w.setRow F x.cells) :=
  ⟨PBlk.store h.f x, Blk.setRowP h.a h.ne _, Gen.setRow h.g h.wf h.bf _, ok, h.ba, h.bf, h.ne, h.wa, h.wf⟩
theorem PG.set_pay {b m A F : Nat} {w0 w : World} {x : PV} (h : PG b w0 m A F x w) (v : Value) (hv : v.oneCell' = true) : PG b w0 m A F { x with pay := v } (w.setCell ⟨F, 18, none⟩ v) := h.set (PBlk.set_pay h.f v) ⟨h.ok.1, h.ok.2.1, h.ok.2.2.1, h.ok.2.2.2.1, hv⟩
theorem PG.set_from {b m A F : Nat} {w0 w : World} {x : PV} (h : PG b w0 m A F x w) (s : Bool) (hi lo : Int) (h1 : U64 hi) (h2 : U64 lo) :
    PG b w0 m A F { x with s1 := s, h1 := hi, l1 := lo } (((w.setCell ⟨F, 0, none⟩ (.bool s)).setCell ⟨F, 1, none⟩ (.int .u64 hi)).setCell ⟨F, 2, none⟩ (.int .u64 lo)) :=
  ((h.set (PBlk.set_s1 h.f s) h.ok).set (PBlk.set_h1 (PBlk.set_s1 h.f s) hi) ⟨h1, h.ok.2⟩).set (PBlk.set_l1 (PBlk.set_h1 (PBlk.set_s1 h.f s) hi) lo) ⟨h1, h2, h.ok.2.2⟩
theorem OwnB.gen {w w' : World} {b B m : Nat} {v : Value} {zs : List UInt8} (h : OwnB w B v zs) (hg : Gen b w w' m) (hb : b < B) : OwnB w' B v zs :=
  World.ownsRow.kept h hg.g (by
    cases hv : v.ownBlock with
    | none => exact .inl rfl
    | some k => exact .inr (by have := own_base h k hv; simp; omega))
theorem OwnB.apart {w : World} {B F : Nat} {v : Value} {L : List UInt8} {x : PV} (h : OwnB w B v L) (hF : PBlk w F x) : ∀ k, v.ownBlock = some k → B ≤ k ∧ k < w.heap.size ∧ k ≠ F := by
  intro k hk
  refine ⟨own_base h k hk, own_lt h k hk, ?_⟩
  rintro rfl
  rcases h.2 with ⟨rfl, _⟩ | ⟨g, cap, cur, rfl, hb, hg, r⟩
  · cases hk
  · obtain rfl : g = k := by simpa [Value.ownBlock] using hk
    have h2 : w.heap[g]? = some (.cells _ 60 (0, 0)) := hF
    rw [hg] at h2
    injection h2 with h2
    injection h2 with _ h3 _
    revert h3
    decide
theorem OwnB.block {w w' : World} {B : Nat} {v : Value} {L : List UInt8} (h : OwnB w B v L) (hk : ∀ k, v.ownBlock = some k → w'.heap[k]? = w.heap[k]?) : OwnB w' B v L := by
  refine ⟨h.1, ?_⟩
  rcases h.2 with h2 | ⟨g, cap, cur, rfl, hb, hg, r⟩
  · exact .inl h2
  · exact .inr ⟨g, cap, cur, rfl, hb, (hk g rfl).trans hg, r⟩
theorem OwnB.setCell {w : World} {B F : Nat} {v : Value} {L : List UInt8} {x : PV} (h : OwnB w B v L) (hF : PBlk w F x) (i : Nat) (u : Value) : OwnB (w.setCell ⟨F, i, none⟩ u) B v L :=
  h.block fun k hk => heap_setCell_other w ⟨F, i, none⟩ k u (h.apart hF k hk).2.2
theorem OwnB.setRow {w : World} {B F : Nat} {v : Value} {L : List UInt8} {x : PV} (h : OwnB w B v L) (hF : PBlk w F x) (c : Array Value) : OwnB (w.setRow F c) B v L :=
  h.block fun k hk => setRow_other w F k c (h.apart hF k hk).2.2
theorem OwnB.one {w : World} {B : Nat} {v : Value} {L : List UInt8} (h : OwnB w B v L) : v.oneCell' = true := by
  obtain ⟨ad, c, rfl, _⟩ := own_form h
  rfl
theorem PG.grew {b m A F : Nat} {w0 w w' : World} {x : PV} {v v' : Value} {L : List UInt8} (h : PG b w0 m A F x w) (hO : OwnB w w0.heap.size v L) (hG : Grew w w' v v') (hb : b < w0.heap.size) : PG b w0 m A F x w' := by
  have hF := hO.apart h.f
  have hA := hO.apart h.a
  have hblk : ∀ i, i < w.heap.size → (i < w0.heap.size ∨ i = F ∨ i = A) → w'.heap[i]? = w.heap[i]? := fun i hi hor => hG.g.block i hi (by
    intro e
    have h1 := hF i e.symm
    have h2 := hA i e.symm
    omega)
  have hs := h.g.g.size
  refine ⟨(hblk F (Blk.lt h.f) (.inr (.inl rfl))).trans h.f, (hblk A (Blk.lt h.a) (.inr (.inr rfl))).trans h.a, ⟨⟨hG.g.os.trans h.g.g.os, hG.g.tape.trans h.g.g.tape, hG.g.output.trans h.g.g.output, Nat.le_trans h.g.g.size hG.g.size, fun i hi hne => (hblk i (by omega) (.inl hi)).trans (h.g.g.block i hi hne)⟩, h.g.s.keep fun i hi => hblk i (by omega) (.inl (by omega))⟩, h.ok, h.ba, h.bf, h.ne, h.wa, h.wf⟩
theorem src_one (w : World) (g : Nat) (x : Value) (t : TypeId) (h : w.heap[g]? = some (.cells #[x] t (0, 0))) : Src w (some ⟨g, 0, none⟩) 1 1 [x] := by
  refine ⟨rfl, fun j u hu => ?_⟩
  cases j with
  | zero =>
    simp at hu
    subst hu
    refine ⟨_, rfl, lt_of_block h, ?_⟩
    have hadd : (⟨g, 0, none⟩ : Addr).add 0 = ⟨g, 0, none⟩ := by unfold Addr.add; split <;> simp_all
    rw [hadd, cell_of_row w g 0 _ _ _ h]
    rfl
  | succ j => simp at hu
theorem OwnB.alloc {w : World} {B : Nat} {v : Value} {L : List UInt8} (h : OwnB w B v L) (o : Obj) : OwnB (w.alloc o) B v L := World.ownsRow.alloc h o
theorem Op1.app {P : Program} {t e : TypeId} {size bytes : Nat} (E : EI P t e size bytes) {o : Oper} {ρ : Operand → Value} {w : World} {post : Value → World → Prop} {s x : Operand}
    (ho : o.op = .call { callee := .builtin .append, args := #[s, x], argTypes := #[t, t] })
    {base : Nat} {v : Value} {n : Nat} {xs : List Value} (hs : ρ s = v) (hown : w.ownsRow base e size v n xs)
    {ad : Option Addr} {m c : Nat} {news : List Value} (hx : ρ x = .slice ad m c) (hsrc : Src w ad m size news) (h1 : ∀ u ∈ news, u.oneCell' = true)
    (h63 : n + m ≤ maxLen) (hbytes : (n + m) * bytes ≤ 140737488355328) (hbase : base ≤ w.heap.size)
    (h : ∀ v' w', w'.ownsRow base e size v' (n + m) (xs ++ news) → Grew w w' v v' → post v' w') : Op1 P o ρ w post := by
  obtain ⟨v', w', hr, h2, h3⟩ := run_append_src E w base o.type v n xs hown ad m c news hsrc h1 h63 hbytes hbase
  unfold Op1 execOp
  simp only [ho, resolve, invoke, builtin, Sem.run_bind, Sem.run_pure, Result.andThen_ok, List.map_toArray, List.map_cons, List.map_nil, hs, hx, hr]
  exact h _ _ h2 h3
end Go.Proofs.YtgppbebdmbeohaaGreat

namespace Go.Proofs.YtgppbebdmbeohaaGreat
open Go.RowKit Go
set_option linter.unusedVariables false

def unusedB (x : PV) : Bool :=
  (x.proto == 1 && (x.fp != 0 || x.tp != 0)) || (x.proto != 6 && (x.syn || x.fin || x.rst || x.has || x.ack != 0)) || (x.proto != 6 && x.proto != 1 && x.seq != 0) || (x.proto != 1 && (x.reply || x.id != 0))
set_option maxRecDepth 100000 in
set_option maxHeartbeats 4000000 in
theorem unused_any (x : PV) (w : World) : Calls Tryz.prog 106 #[.agg x.cells] w (Ret (.bool (unusedB x)) w) := by
  have HP : Hid (PBlk (w.alloc (.cells x.cells 60 (0, 0))) w.heap.size x) := Lib.hid (Blk.new w _ _)
  have HB : Hid (Below w.heap.size w (w.alloc (.cells x.cells 60 (0, 0)))) := Lib.hid (below_alloc (Below.refl _ _) _)
  go_enter Tryz.func106, Tryz.ntmps106
  go_upto_region 1 with fail
  generalize w.alloc (.cells x.cells 60 (0, 0)) = w1 at *
  generalize hP0 : w.heap.size = P0 at *
  have HP0 := Lib.hid hP0
  clear hP0
  obtain ⟨-, -, -, -, -, -, -, c7, c8, c9, c10, c11, c12, c13, c14, c15, c16, c17, -, f0⟩ := PBlk.cells HP.out
  clear HP
  have hproto : x.proto = 1 ∨ x.proto = 6 ∨ ((x.proto == 1) = false ∧ (x.proto == 6) = false) := by
    by_cases h1 : x.proto = 1
    · exact .inl h1
    · by_cases h6 : x.proto = 6
      · exact .inr (.inl h6)
      · exact .inr (.inr ⟨by simpa using h1, by simpa using h6⟩)
  have hU := Lib.hid (show unusedB x = ((x.proto == 1 && (x.fp != 0 || x.tp != 0)) || (x.proto != 6 && (x.syn || x.fin || x.rst || x.has || x.ack != 0)) || (x.proto != 6 && x.proto != 1 && x.seq != 0) || (x.proto != 1 && (x.reply || x.id != 0))) from rfl)
  generalize x.proto = proto at *
  generalize x.fp = fp at *
  generalize x.tp = tp at *
  generalize x.syn = syn at *
  generalize x.fin = fin at *
  generalize x.rst = rst at *
  generalize x.has = has at *
  generalize x.seq = seq at *
  generalize x.ack = ack at *
  generalize x.reply = reply at *
  generalize x.id = id at *
  rcases hproto with rfl | rfl | ⟨h1, h6⟩
  all_goals
    go_quiet (fail)
    go_wp2_with fail
  all_goals (go_ret; refine ⟨?_, by (have hP0 := HP0.out; subst hP0; repeat (first | exact HB.out | apply below_drewN))⟩; refine congrArg (fun b => Ending.returned (Value.bool b)) ?_; rw [hU.out]; clear hU; first | (simp_all; done) | (rw [Bool.eq_iff_iff]; simp_all; done))
theorem fhasPorts_any (p : Int) (w : World) : Calls Tryz.prog 42 #[.int .i64 p] w fun e w' => e = .returned (.bool (hasPorts p)) ∧ w = w' := by
  go_enter Tryz.func42, Tryz.ntmps42
  go_wp2
  all_goals (go_ret; exact ⟨by simp_all [hasPorts], rfl⟩)
theorem isKnown_any (p : Int) (w : World) : Calls Tryz.prog 105 #[.int .i64 p] w fun e w' => e = .returned (.bool (p == 1 || hasPorts p)) ∧ w = w' := by
  go_enter Tryz.func105, Tryz.ntmps105
  go_wp2_with (go_at_call 42; refine (fhasPorts_any _ _).mono ?_; rintro e w' ⟨rfl, rfl⟩)
  all_goals (go_ret; refine ⟨?_, rfl⟩; simp_all)

theorem gen_world {P : Program} {c : Code} {Q : Exit → Act → World → Prop} {a : Act} {w : World} (R : World → Prop) (hw : R w) (h : ∀ w', R w' → c.wp P Q a w') : c.wp P Q a w := h w hw

def pktFault (x : PV) (n : Nat) : Int :=
  if aFault x.s1 x.h1 x.l1 ≠ 0 then aFault x.s1 x.h1 x.l1
  else if aFault x.s2 x.h2 x.l2 ≠ 0 then aFault x.s2 x.h2 x.l2
  else if x.s1 ≠ x.s2 then 10
  else if outB x.hops 0 255 = true then 1
  else if (x.proto == 1 || hasPorts x.proto) = false then 4
  else if outB x.fp 0 65535 = true ∨ outB x.tp 0 65535 = true then 1
  else if outB x.seq 0 4294967295 = true ∨ outB x.ack 0 4294967295 = true ∨ outB x.id 0 65535 = true ∨ (x.proto = 1 ∧ 65535 < x.seq) then 1
  else if unusedB x = true ∨ (x.ack ≠ 0 ∧ x.has = false) then 3
  else if 1400 < n then 2 else 0

end Go.Proofs.YtgppbebdmbeohaaGreat
