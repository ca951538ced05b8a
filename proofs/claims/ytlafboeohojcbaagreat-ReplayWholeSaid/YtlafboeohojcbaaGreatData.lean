import Derived.Test.YtlafboeohojcbaaGreatJf
/- The types that come in: structures, and how they are read. Printed by rd.py. -/
set_option linter.unusedVariables false
set_option linter.unusedSimpArgs false
set_option maxRecDepth 100000
namespace Go.Proofs.YtlafboeohojcbaaGreat
open Go Go.Eng Go.RowKit Go.ChangeShapes Go.WideShapes Go.ChangeAt
def lim : Nat := 4398046511104
def R64 (n : Int) : Prop := -9223372036854775808 ≤ n ∧ n ≤ 9223372036854775807
def R8 (n : Int) : Prop := -128 ≤ n ∧ n ≤ 127
abbrev S (s : ByteArray) : Value := .string s
abbrev encS (s : ByteArray) : List Value := [.string s]
abbrev encI64 (n : Int) : List Value := [I n]
abbrev encU64 (n : Int) : List Value := [.int .u64 n]
abbrev encU8 (n : Int) : List Value := [.int .u8 n]
abbrev encB (b : Bool) : List Value := [.bool b]
structure Sl (α : Type) where
 v : Value
 l : List α
abbrev Sl.enc {α : Type} (s : Sl α) : List Value := [s.v]
structure SlGood {α : Type} (V : Vw) (enc : α → List Value) (sz : Nat) (Good : α → Prop) (s : Sl α) : Prop where
 sl : SlOf V enc sz s.v s.l
 max : s.l.length ≤ maxLen
 all : ∀ a ∈ s.l, Good a
structure Record where
 key : Int
 lsn : Int
 block : Int
 k : Int
 text : ByteArray
 count : Int
abbrev Record.cells (a : Record) : List Value := [I a.key, I a.lsn, I a.block, I a.k, .string a.text, I a.count]
abbrev Record.val (a : Record) : Value := .agg #[I a.key, I a.lsn, I a.block, I a.k, .string a.text, I a.count]
structure Record.Ok (a : Record) : Prop where
 key : R64 a.key
 lsn : R64 a.lsn
 block : R64 a.block
 k : R64 a.k
 text : a.text.size ≤ maxLen
 count : R64 a.count
structure Block where
 n : Int
 text : ByteArray
abbrev Block.cells (a : Block) : List Value := [I a.n, .string a.text]
abbrev Block.val (a : Block) : Value := .agg #[I a.n, .string a.text]
structure Block.Ok (a : Block) : Prop where
 n : R64 a.n
 text : a.text.size ≤ maxLen
structure Cell where
 sector : Int
 b : ByteArray
abbrev Cell.cells (a : Cell) : List Value := [I a.sector, .string a.b]
abbrev Cell.val (a : Cell) : Value := .agg #[I a.sector, .string a.b]
structure Cell.Ok (a : Cell) : Prop where
 sector : R64 a.sector
 b : a.b.size ≤ maxLen
structure Geo where
 nodes : Int
 slots : Int
 blocks : Int
 per : Int
 journal : Int
 log : Int
 lease : Int
 wait : Int
abbrev Geo.cells (a : Geo) : List Value := [I a.nodes, I a.slots, I a.blocks, I a.per, I a.journal, I a.log, I a.lease, I a.wait]
abbrev Geo.val (a : Geo) : Value := .agg #[I a.nodes, I a.slots, I a.blocks, I a.per, I a.journal, I a.log, I a.lease, I a.wait]
structure Geo.Ok (a : Geo) : Prop where
 nodes : R64 a.nodes
 slots : R64 a.slots
 blocks : R64 a.blocks
 per : R64 a.per
 journal : R64 a.journal
 log : R64 a.log
 lease : R64 a.lease
 wait : R64 a.wait
structure Device where
 s : Sl ByteArray
 cache : Sl (Sl Cell)
 keys : Sl Int
 next_ : Int
 fenced : Sl Int
abbrev Device.cells (a : Device) : List Value := [a.s.v, a.cache.v, a.keys.v, I a.next_, a.fenced.v]
abbrev Device.val (a : Device) : Value := .agg #[a.s.v, a.cache.v, a.keys.v, I a.next_, a.fenced.v]
structure Device.Ok (V : Vw) (a : Device) : Prop where
 s : SlGood V encS 1 (fun a => a.size ≤ maxLen) a.s
 cache : SlGood V Sl.enc 1 (fun a => SlGood V Cell.cells 2 (fun a => Cell.Ok a) a) a.cache
 keys : SlGood V encI64 1 (fun a => R64 a) a.keys
 next_ : R64 a.next_
 fenced : SlGood V encI64 1 (fun a => R64 a) a.fenced
theorem own : ownKnob Tryz.prog.godebug = none := by kernel_rfl
theorem laidOut : laidOutB Tryz.prog = true := by kernel_rfl
section
variable {H : Type} {enc : TypeId × Value → H} {w : World} {base : Nat} {spare : Nat → Bool} {held : Bool}
theorem Geo_rd_23 {cs : List Value} {fuel : Nat} {x : DataW H × List MemPlace} (h : DataW.trod enc Tryz.prog w base spare held fuel 23 cs = some x) : ∃ a : Geo, Geo.cells a = cs ∧ Geo.Ok a := by
 have h2 := rd_flat tok 8 23 _ rfl h
 match cs, h2 with
 | [c0, c1, c2, c3, c4, c5, c6, c7], ⟨h0, h1, h2, h3, h4, h5, h6, h7, _⟩ =>
  obtain ⟨n0, rfl, b0⟩ := leaf_int tok rfl h0
  obtain ⟨n1, rfl, b1⟩ := leaf_int tok rfl h1
  obtain ⟨n2, rfl, b2⟩ := leaf_int tok rfl h2
  obtain ⟨n3, rfl, b3⟩ := leaf_int tok rfl h3
  obtain ⟨n4, rfl, b4⟩ := leaf_int tok rfl h4
  obtain ⟨n5, rfl, b5⟩ := leaf_int tok rfl h5
  obtain ⟨n6, rfl, b6⟩ := leaf_int tok rfl h6
  obtain ⟨n7, rfl, b7⟩ := leaf_int tok rfl h7
  exact ⟨⟨n0, n1, n2, n3, n4, n5, n6, n7⟩, rfl, ⟨bounds_i64 b0, bounds_i64 b1, bounds_i64 b2, bounds_i64 b3, bounds_i64 b4, bounds_i64 b5, bounds_i64 b6, bounds_i64 b7⟩⟩
theorem str_rd_9 {cs : List Value} {fuel : Nat} {x : DataW H × List MemPlace} (h : DataW.trod enc Tryz.prog w base spare held fuel 9 cs = some x) : ∃ a : ByteArray, encS a = cs ∧ a.size ≤ maxLen := by
 have h2 := rd_flat tok 8 9 _ rfl h
 match cs, h2 with
 | [c0], ⟨h0, _⟩ =>
  obtain ⟨n0, rfl, b0⟩ := leaf_str tok rfl h0
  exact ⟨n0, rfl, b0⟩
theorem Cell_rd_126 {cs : List Value} {fuel : Nat} {x : DataW H × List MemPlace} (h : DataW.trod enc Tryz.prog w base spare held fuel 126 cs = some x) : ∃ a : Cell, Cell.cells a = cs ∧ Cell.Ok a := by
 have h2 := rd_flat tok 8 126 _ rfl h
 match cs, h2 with
 | [c0, c1], ⟨h0, h1, _⟩ =>
  obtain ⟨n0, rfl, b0⟩ := leaf_int tok rfl h0
  obtain ⟨n1, rfl, b1⟩ := leaf_str tok rfl h1
  exact ⟨⟨n0, n1⟩, rfl, ⟨bounds_i64 b0, b1⟩⟩
theorem sl42_rd_42 {cs : List Value} {fuel : Nat} {x : DataW H × List MemPlace} (h : DataW.trod enc Tryz.prog w base spare held fuel 42 cs = some x) : ∃ a : Sl Cell, Sl.enc a = cs ∧ SlGood (vw w) Cell.cells 2 (fun a => Cell.Ok a) a := by
 have h2 := rd_flat tok 8 42 _ rfl h
 match cs, h2 with
 | [c0], ⟨h0, _⟩ =>
  obtain ⟨l0, s0, m0, g0⟩ := leaf_slice (enc' := Cell.cells) (Good := fun a => Cell.Ok a) tok rfl rfl rfl (fun _ => rfl) (fun _ _ _ hx => Cell_rd_126 hx) h0
  exact ⟨⟨c0, l0⟩, rfl, ⟨s0, m0, g0⟩⟩
theorem inti64_rd_3 {cs : List Value} {fuel : Nat} {x : DataW H × List MemPlace} (h : DataW.trod enc Tryz.prog w base spare held fuel 3 cs = some x) : ∃ a : Int, encI64 a = cs ∧ R64 a := by
 have h2 := rd_flat tok 8 3 _ rfl h
 match cs, h2 with
 | [c0], ⟨h0, _⟩ =>
  obtain ⟨n0, rfl, b0⟩ := leaf_int tok rfl h0
  exact ⟨n0, rfl, bounds_i64 b0⟩
theorem Device_rd_28 {cs : List Value} {fuel : Nat} {x : DataW H × List MemPlace} (h : DataW.trod enc Tryz.prog w base spare held fuel 28 cs = some x) : ∃ a : Device, Device.cells a = cs ∧ Device.Ok (vw w) a := by
 have h2 := rd_flat tok 8 28 _ rfl h
 match cs, h2 with
 | [c0, c1, c2, c3, c4], ⟨h0, h1, h2, h3, h4, _⟩ =>
  obtain ⟨l0, s0, m0, g0⟩ := leaf_slice (enc' := encS) (Good := fun a => a.size ≤ maxLen) tok rfl rfl rfl (fun _ => rfl) (fun _ _ _ hx => str_rd_9 hx) h0
  obtain ⟨l1, s1, m1, g1⟩ := leaf_slice (enc' := Sl.enc) (Good := fun a => SlGood (vw w) Cell.cells 2 (fun a => Cell.Ok a) a) tok rfl rfl rfl (fun _ => rfl) (fun _ _ _ hx => sl42_rd_42 hx) h1
  obtain ⟨l2, s2, m2, g2⟩ := leaf_slice (enc' := encI64) (Good := fun a => R64 a) tok rfl rfl rfl (fun _ => rfl) (fun _ _ _ hx => inti64_rd_3 hx) h2
  obtain ⟨n3, rfl, b3⟩ := leaf_int tok rfl h3
  obtain ⟨l4, s4, m4, g4⟩ := leaf_slice (enc' := encI64) (Good := fun a => R64 a) tok rfl rfl rfl (fun _ => rfl) (fun _ _ _ hx => inti64_rd_3 hx) h4
  exact ⟨⟨⟨c0, l0⟩, ⟨c1, l1⟩, ⟨c2, l2⟩, n3, ⟨c4, l4⟩⟩, rfl, ⟨⟨s0, m0, g0⟩, ⟨s1, m1, g1⟩, ⟨s2, m2, g2⟩, bounds_i64 b3, ⟨s4, m4, g4⟩⟩⟩
theorem rd_23 {v : Value} {d : DataW H} {p : List MemPlace} {r : Reach} {b : Nat} (hv : Value.okWide Tryz.prog w r b 23 v) (h : DataW.Trod enc Tryz.prog w base spare held 23 v d p) : ∃ a : Geo, v = a.val ∧ Geo.Ok a := by
 obtain ⟨cs, rfl, _⟩ := okWide_struct Tryz.underlying23 hv
 obtain ⟨fuel, hf⟩ := h
 obtain ⟨a, ha, hg⟩ := Geo_rd_23 hf
 refine ⟨a, ?_, hg⟩
 have : cs = a.cells.toArray := by apply Array.ext'; exact ha.symm
 rw [this]
theorem rd_28 {v : Value} {d : DataW H} {p : List MemPlace} {r : Reach} {b : Nat} (hv : Value.okWide Tryz.prog w r b 28 v) (h : DataW.Trod enc Tryz.prog w base spare held 28 v d p) : ∃ a : Device, v = a.val ∧ Device.Ok (vw w) a := by
 obtain ⟨cs, rfl, _⟩ := okWide_struct Tryz.underlying28 hv
 obtain ⟨fuel, hf⟩ := h
 obtain ⟨a, ha, hg⟩ := Device_rd_28 hf
 refine ⟨a, ?_, hg⟩
 have : cs = a.cells.toArray := by apply Array.ext'; exact ha.symm
 rw [this]
theorem rd_3 {v : Value} {d : DataW H} {p : List MemPlace} {r : Reach} {b : Nat} (hv : Value.okWide Tryz.prog w r b 3 v) (h : DataW.Trod enc Tryz.prog w base spare held 3 v d p) : ∃ n : Int, v = I n ∧ R64 n := by
 obtain ⟨n, rfl⟩ := okWide_int Tryz.underlying3 hv
 obtain ⟨m, hm, hw⟩ := leaf_int tok rfl (trod_leaf h rfl)
 cases hm
 exact ⟨n, rfl, bounds_i64 hw⟩
end
end Go.Proofs.YtlafboeohojcbaaGreat
