import Derived.Test.YthmejhpfhkddiaaJf
/- The types that come in: structures, and how they are read. Printed by rd.py. -/
set_option linter.unusedVariables false
set_option linter.unusedSimpArgs false
set_option maxRecDepth 100000
namespace Go.Proofs.Ythmejhpfhkddiaa
open Go Go.Eng Go.RowKit Go.ChangeShapes Go.WideShapes Go.ChangeAt

def lim : Nat := 4398046511104
def R64 (n : Int) : Prop := -9223372036854775808 ≤ n ∧ n ≤ 9223372036854775807
def R8 (n : Int) : Prop := -128 ≤ n ∧ n ≤ 127
abbrev S (s : ByteArray) : Value := .string s
abbrev encS (s : ByteArray) : List Value := [.string s]
abbrev encI64 (n : Int) : List Value := [I n]
abbrev encU64 (n : Int) : List Value := [.int .u64 n]
abbrev encU8 (n : Int) : List Value := [.int .u8 n]
abbrev encB (b : Bool) : List Value := [.bool b]
/-- A slice that came in: its value, its elements. -/
structure Sl (α : Type) where
  v : Value
  l : List α
abbrev Sl.enc {α : Type} (s : Sl α) : List Value := [s.v]
structure SlGood {α : Type} (V : Vw) (enc : α → List Value) (sz : Nat) (Good : α → Prop) (s : Sl α) : Prop where
  sl : SlOf V enc sz s.v s.l
  max : s.l.length ≤ maxLen
  all : ∀ a ∈ s.l, Good a

structure Span where
  lo : Int
  hi : Int

abbrev Span.cells (a : Span) : List Value := [I a.lo, I a.hi]
abbrev Span.val (a : Span) : Value := .agg #[I a.lo, I a.hi]
structure Span.Ok (a : Span) : Prop where
  lo : R64 a.lo
  hi : R64 a.hi

structure Slot where
  key : Int
  claim : Int

abbrev Slot.cells (a : Slot) : List Value := [I a.key, I a.claim]
abbrev Slot.val (a : Slot) : Value := .agg #[I a.key, I a.claim]
structure Slot.Ok (a : Slot) : Prop where
  key : R64 a.key
  claim : R64 a.claim

structure Hold where
  key : Int
  lo : Int
  hi : Int
  mode : Int

abbrev Hold.cells (a : Hold) : List Value := [I a.key, I a.lo, I a.hi, I8 a.mode]
abbrev Hold.val (a : Hold) : Value := .agg #[I a.key, I a.lo, I a.hi, I8 a.mode]
structure Hold.Ok (a : Hold) : Prop where
  key : R64 a.key
  lo : R64 a.lo
  hi : R64 a.hi
  mode : R8 a.mode

structure Table where
  slots : Sl Slot
  holds : Sl Hold
  queue : Sl Hold

abbrev Table.cells (a : Table) : List Value := [a.slots.v, a.holds.v, a.queue.v]
abbrev Table.val (a : Table) : Value := .agg #[a.slots.v, a.holds.v, a.queue.v]
structure Table.Ok (V : Vw) (a : Table) : Prop where
  slots : SlGood V Slot.cells 2 (fun a => Slot.Ok a) a.slots
  holds : SlGood V Hold.cells 4 (fun a => Hold.Ok a) a.holds
  queue : SlGood V Hold.cells 4 (fun a => Hold.Ok a) a.queue

structure Geo where
  nodes : Int
  slots : Int
  blocks : Int
  per : Int
  journal : Int
  log : Int
  lease : Int
  wait : Int

abbrev Geo.cells (a : Geo) : List Value := [I a.nodes, I a.slots, I a.blocks, I a.per, I a.journal, I a.log, I a.lease, I a.wait]
abbrev Geo.val (a : Geo) : Value := .agg #[I a.nodes, I a.slots, I a.blocks, I a.per, I a.journal, I a.log, I a.lease, I a.wait]
structure Geo.Ok (a : Geo) : Prop where
  nodes : R64 a.nodes
  slots : R64 a.slots
  blocks : R64 a.blocks
  per : R64 a.per
  journal : R64 a.journal
  log : R64 a.log
  lease : R64 a.lease
  wait : R64 a.wait

structure Cmd where
  kind : Int
  by_ : Int
  serial : Int
  dead : Int
  was : Int
  lo : Int
  hi : Int
  mode : Int

abbrev Cmd.cells (a : Cmd) : List Value := [I8 a.kind, I a.by_, I a.serial, I a.dead, I a.was, I a.lo, I a.hi, I8 a.mode]
abbrev Cmd.val (a : Cmd) : Value := .agg #[I8 a.kind, I a.by_, I a.serial, I a.dead, I a.was, I a.lo, I a.hi, I8 a.mode]
structure Cmd.Ok (a : Cmd) : Prop where
  kind : R8 a.kind
  by_ : R64 a.by_
  serial : R64 a.serial
  dead : R64 a.dead
  was : R64 a.was
  lo : R64 a.lo
  hi : R64 a.hi
  mode : R8 a.mode

theorem own : ownKnob Try.prog.godebug = none := by kernel_rfl
theorem laidOut : laidOutB Try.prog = true := by kernel_rfl

section
variable {H : Type} {enc : TypeId × Value → H} {w : World} {base : Nat} {spare : Nat → Bool} {held : Bool}

theorem Geo_rd_23 {cs : List Value} {fuel : Nat} {x : DataW H × List MemPlace} (h : DataW.trod enc Try.prog w base spare held fuel 23 cs = some x) : ∃ a : Geo, Geo.cells a = cs ∧ Geo.Ok a := by
  have h2 := rd_flat tok 8 23 _ rfl h
  match cs, h2 with
  | [c0, c1, c2, c3, c4, c5, c6, c7], ⟨h0, h1, h2, h3, h4, h5, h6, h7, _⟩ =>
    obtain ⟨n0, rfl, b0⟩ := leaf_int tok rfl h0
    obtain ⟨n1, rfl, b1⟩ := leaf_int tok rfl h1
    obtain ⟨n2, rfl, b2⟩ := leaf_int tok rfl h2
    obtain ⟨n3, rfl, b3⟩ := leaf_int tok rfl h3
    obtain ⟨n4, rfl, b4⟩ := leaf_int tok rfl h4
    obtain ⟨n5, rfl, b5⟩ := leaf_int tok rfl h5
    obtain ⟨n6, rfl, b6⟩ := leaf_int tok rfl h6
    obtain ⟨n7, rfl, b7⟩ := leaf_int tok rfl h7
    exact ⟨⟨n0, n1, n2, n3, n4, n5, n6, n7⟩, rfl, ⟨bounds_i64 b0, bounds_i64 b1, bounds_i64 b2, bounds_i64 b3, bounds_i64 b4, bounds_i64 b5, bounds_i64 b6, bounds_i64 b7⟩⟩

theorem Cmd_rd_38 {cs : List Value} {fuel : Nat} {x : DataW H × List MemPlace} (h : DataW.trod enc Try.prog w base spare held fuel 38 cs = some x) : ∃ a : Cmd, Cmd.cells a = cs ∧ Cmd.Ok a := by
  have h2 := rd_flat tok 8 38 _ rfl h
  match cs, h2 with
  | [c0, c1, c2, c3, c4, c5, c6, c7], ⟨h0, h1, h2, h3, h4, h5, h6, h7, _⟩ =>
    obtain ⟨n0, rfl, b0⟩ := leaf_int tok rfl h0
    obtain ⟨n1, rfl, b1⟩ := leaf_int tok rfl h1
    obtain ⟨n2, rfl, b2⟩ := leaf_int tok rfl h2
    obtain ⟨n3, rfl, b3⟩ := leaf_int tok rfl h3
    obtain ⟨n4, rfl, b4⟩ := leaf_int tok rfl h4
    obtain ⟨n5, rfl, b5⟩ := leaf_int tok rfl h5
    obtain ⟨n6, rfl, b6⟩ := leaf_int tok rfl h6
    obtain ⟨n7, rfl, b7⟩ := leaf_int tok rfl h7
    exact ⟨⟨n0, n1, n2, n3, n4, n5, n6, n7⟩, rfl, ⟨bounds_i8 b0, bounds_i64 b1, bounds_i64 b2, bounds_i64 b3, bounds_i64 b4, bounds_i64 b5, bounds_i64 b6, bounds_i8 b7⟩⟩

theorem rd_23 {v : Value} {d : DataW H} {p : List MemPlace} {r : Reach} {b : Nat} (hv : Value.okWide Try.prog w r b 23 v) (h : DataW.Trod enc Try.prog w base spare held 23 v d p) : ∃ a : Geo, v = a.val ∧ Geo.Ok a := by
  obtain ⟨cs, rfl, _⟩ := okWide_struct Try.underlying23 hv
  obtain ⟨fuel, hf⟩ := h
  obtain ⟨a, ha, hg⟩ := Geo_rd_23 hf
  refine ⟨a, ?_, hg⟩
  have : cs = a.cells.toArray := by apply Array.ext'; exact ha.symm
  rw [this]

theorem rd_24 {v : Value} {d : DataW H} {p : List MemPlace} {r : Reach} {b : Nat} (hv : Value.okWide Try.prog w r b 24 v) (h : DataW.Trod enc Try.prog w base spare held 24 v d p) : ∃ l : List Cmd, SlOf (vw w) Cmd.cells 8 v l ∧ l.length ≤ maxLen ∧ ∀ a ∈ l, Cmd.Ok a := by
  obtain ⟨a, n, c, rfl⟩ := okWide_slice Try.underlying24 hv
  exact leaf_slice (enc' := Cmd.cells) (Good := fun a => Cmd.Ok a) tok rfl rfl rfl (fun _ => rfl) (fun _ _ _ hx => Cmd_rd_38 hx) (trod_leaf h rfl)

theorem rd_3 {v : Value} {d : DataW H} {p : List MemPlace} {r : Reach} {b : Nat} (hv : Value.okWide Try.prog w r b 3 v) (h : DataW.Trod enc Try.prog w base spare held 3 v d p) : ∃ n : Int, v = I n ∧ R64 n := by
  obtain ⟨n, rfl⟩ := okWide_int Try.underlying3 hv
  obtain ⟨m, hm, hw⟩ := leaf_int tok rfl (trod_leaf h rfl)
  cases hm
  exact ⟨n, rfl, bounds_i64 hw⟩
end
end Go.Proofs.Ythmejhpfhkddiaa
