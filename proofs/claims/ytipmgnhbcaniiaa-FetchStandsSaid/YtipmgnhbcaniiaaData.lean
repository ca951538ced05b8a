import Derived.Test.YtipmgnhbcaniiaaJf
/- The types that come in: structures, and how they are read. Printed by rd.py. -/
set_option linter.unusedVariables false
set_option linter.unusedSimpArgs false
set_option maxRecDepth 100000
namespace Go.Proofs.Ytipmgnhbcaniiaa
open Go Go.Eng Go.RowKit Go.ChangeShapes Go.WideShapes Go.ChangeAt

def lim : Nat := 4398046511104
def R64 (n : Int) : Prop := -9223372036854775808 ≤ n ∧ n ≤ 9223372036854775807
def R8 (n : Int) : Prop := -128 ≤ n ∧ n ≤ 127
abbrev S (s : ByteArray) : Value := .string s
abbrev encS (s : ByteArray) : List Value := [.string s]
abbrev encI64 (n : Int) : List Value := [I n]
abbrev encU64 (n : Int) : List Value := [.int .u64 n]
abbrev encU8 (n : Int) : List Value := [.int .u8 n]
abbrev encB (b : Bool) : List Value := [.bool b]
/-- A slice that came in: its value, its elements. -/
structure Sl (α : Type) where
  v : Value
  l : List α
abbrev Sl.enc {α : Type} (s : Sl α) : List Value := [s.v]
structure SlGood {α : Type} (V : Vw) (enc : α → List Value) (sz : Nat) (Good : α → Prop) (s : Sl α) : Prop where
  sl : SlOf V enc sz s.v s.l
  max : s.l.length ≤ maxLen
  all : ∀ a ∈ s.l, Good a

structure Block where
  n : Int
  text : ByteArray

abbrev Block.cells (a : Block) : List Value := [I a.n, .string a.text]
abbrev Block.val (a : Block) : Value := .agg #[I a.n, .string a.text]
structure Block.Ok (a : Block) : Prop where
  n : R64 a.n
  text : a.text.size ≤ maxLen

structure Cell where
  sector : Int
  b : ByteArray

abbrev Cell.cells (a : Cell) : List Value := [I a.sector, .string a.b]
abbrev Cell.val (a : Cell) : Value := .agg #[I a.sector, .string a.b]
structure Cell.Ok (a : Cell) : Prop where
  sector : R64 a.sector
  b : a.b.size ≤ maxLen

structure Device where
  s : Sl ByteArray
  cache : Sl (Sl Cell)
  keys : Sl Int
  next_ : Int
  fenced : Sl Int

abbrev Device.cells (a : Device) : List Value := [a.s.v, a.cache.v, a.keys.v, I a.next_, a.fenced.v]
abbrev Device.val (a : Device) : Value := .agg #[a.s.v, a.cache.v, a.keys.v, I a.next_, a.fenced.v]
structure Device.Ok (V : Vw) (a : Device) : Prop where
  s : SlGood V encS 1 (fun a => a.size ≤ maxLen) a.s
  cache : SlGood V Sl.enc 1 (fun a => SlGood V Cell.cells 2 (fun a => Cell.Ok a) a) a.cache
  keys : SlGood V encI64 1 (fun a => R64 a) a.keys
  next_ : R64 a.next_
  fenced : SlGood V encI64 1 (fun a => R64 a) a.fenced

structure Fetching where
  block : Int
  k : Int
  parts : Sl ByteArray

abbrev Fetching.cells (a : Fetching) : List Value := [I a.block, I a.k, a.parts.v]
abbrev Fetching.val (a : Fetching) : Value := .agg #[I a.block, I a.k, a.parts.v]
structure Fetching.Ok (V : Vw) (a : Fetching) : Prop where
  block : R64 a.block
  k : R64 a.k
  parts : SlGood V encS 1 (fun a => a.size ≤ maxLen) a.parts

structure Geo where
  nodes : Int
  slots : Int
  blocks : Int
  per : Int
  journal : Int
  log : Int
  lease : Int
  wait : Int

abbrev Geo.cells (a : Geo) : List Value := [I a.nodes, I a.slots, I a.blocks, I a.per, I a.journal, I a.log, I a.lease, I a.wait]
abbrev Geo.val (a : Geo) : Value := .agg #[I a.nodes, I a.slots, I a.blocks, I a.per, I a.journal, I a.log, I a.lease, I a.wait]
structure Geo.Ok (a : Geo) : Prop where
  nodes : R64 a.nodes
  slots : R64 a.slots
  blocks : R64 a.blocks
  per : R64 a.per
  journal : R64 a.journal
  log : R64 a.log
  lease : R64 a.lease
  wait : R64 a.wait

theorem own : ownKnob Try.prog.godebug = none := by kernel_rfl
theorem laidOut : laidOutB Try.prog = true := by kernel_rfl

section
variable {H : Type} {enc : TypeId × Value → H} {w : World} {base : Nat} {spare : Nat → Bool} {held : Bool}

theorem Geo_rd_23 {cs : List Value} {fuel : Nat} {x : DataW H × List MemPlace} (h : DataW.trod enc Try.prog w base spare held fuel 23 cs = some x) : ∃ a : Geo, Geo.cells a = cs ∧ Geo.Ok a := by
  have h2 := rd_flat tok 8 23 _ rfl h
  match cs, h2 with
  | [c0, c1, c2, c3, c4, c5, c6, c7], ⟨h0, h1, h2, h3, h4, h5, h6, h7, _⟩ =>
    obtain ⟨n0, rfl, b0⟩ := leaf_int tok rfl h0
    obtain ⟨n1, rfl, b1⟩ := leaf_int tok rfl h1
    obtain ⟨n2, rfl, b2⟩ := leaf_int tok rfl h2
    obtain ⟨n3, rfl, b3⟩ := leaf_int tok rfl h3
    obtain ⟨n4, rfl, b4⟩ := leaf_int tok rfl h4
    obtain ⟨n5, rfl, b5⟩ := leaf_int tok rfl h5
    obtain ⟨n6, rfl, b6⟩ := leaf_int tok rfl h6
    obtain ⟨n7, rfl, b7⟩ := leaf_int tok rfl h7
    exact ⟨⟨n0, n1, n2, n3, n4, n5, n6, n7⟩, rfl, ⟨bounds_i64 b0, bounds_i64 b1, bounds_i64 b2, bounds_i64 b3, bounds_i64 b4, bounds_i64 b5, bounds_i64 b6, bounds_i64 b7⟩⟩

theorem Block_rd_60 {cs : List Value} {fuel : Nat} {x : DataW H × List MemPlace} (h : DataW.trod enc Try.prog w base spare held fuel 60 cs = some x) : ∃ a : Block, Block.cells a = cs ∧ Block.Ok a := by
  have h2 := rd_flat tok 8 60 _ rfl h
  match cs, h2 with
  | [c0, c1], ⟨h0, h1, _⟩ =>
    obtain ⟨n0, rfl, b0⟩ := leaf_int tok rfl h0
    obtain ⟨n1, rfl, b1⟩ := leaf_str tok rfl h1
    exact ⟨⟨n0, n1⟩, rfl, ⟨bounds_i64 b0, b1⟩⟩

theorem rd_23 {v : Value} {d : DataW H} {p : List MemPlace} {r : Reach} {b : Nat} (hv : Value.okWide Try.prog w r b 23 v) (h : DataW.Trod enc Try.prog w base spare held 23 v d p) : ∃ a : Geo, v = a.val ∧ Geo.Ok a := by
  obtain ⟨cs, rfl, _⟩ := okWide_struct Try.underlying23 hv
  obtain ⟨fuel, hf⟩ := h
  obtain ⟨a, ha, hg⟩ := Geo_rd_23 hf
  refine ⟨a, ?_, hg⟩
  have : cs = a.cells.toArray := by apply Array.ext'; exact ha.symm
  rw [this]

theorem rd_24 {v : Value} {d : DataW H} {p : List MemPlace} {r : Reach} {b : Nat} (hv : Value.okWide Try.prog w r b 24 v) (h : DataW.Trod enc Try.prog w base spare held 24 v d p) : ∃ l : List Block, SlOf (vw w) Block.cells 2 v l ∧ l.length ≤ maxLen ∧ ∀ a ∈ l, Block.Ok a := by
  obtain ⟨a, n, c, rfl⟩ := okWide_slice Try.underlying24 hv
  exact leaf_slice (enc' := Block.cells) (Good := fun a => Block.Ok a) tok rfl rfl rfl (fun _ => rfl) (fun _ _ _ hx => Block_rd_60 hx) (trod_leaf h rfl)

theorem rd_3 {v : Value} {d : DataW H} {p : List MemPlace} {r : Reach} {b : Nat} (hv : Value.okWide Try.prog w r b 3 v) (h : DataW.Trod enc Try.prog w base spare held 3 v d p) : ∃ n : Int, v = I n ∧ R64 n := by
  obtain ⟨n, rfl⟩ := okWide_int Try.underlying3 hv
  obtain ⟨m, hm, hw⟩ := leaf_int tok rfl (trod_leaf h rfl)
  cases hm
  exact ⟨n, rfl, bounds_i64 hw⟩
end
end Go.Proofs.Ytipmgnhbcaniiaa
