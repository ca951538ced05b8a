/- Spans: what comes in. -/
import Derived.Test.YtjddnkjeilmejaaSp3
set_option linter.unusedVariables false
set_option linter.unusedSimpArgs false
namespace Go.Proofs.Ytjddnkjeilmejaa
open Go Go.Eng Go.RowKit Go.ChangeShapes Go.WideShapes Go.ChangeAt

theorem own : ownKnob Try.prog.godebug = none := by kernel_rfl
theorem laidOut : laidOutB Try.prog = true := by kernel_rfl

section
variable {H : Type} {enc : TypeId × Value → H} {w : World} {base : Nat} {spare : Nat → Bool} {held : Bool}

theorem hold_cells {cs : List Value} {fuel : Nat} {x : DataW H × List MemPlace} (h : DataW.trod enc Try.prog w base spare held fuel 26 cs = some x) : ∃ a : Hold, a.cells = cs ∧ True := by
  have h2 := rd_flat tok 5 26 _ rfl h
  match cs, h2 with
  | [c0, c1, c2, c3], ⟨h0, h1, h2, h3, _⟩ =>
    obtain ⟨n0, rfl, _⟩ := leaf_int tok rfl h0
    obtain ⟨n1, rfl, _⟩ := leaf_int tok rfl h1
    obtain ⟨n2, rfl, _⟩ := leaf_int tok rfl h2
    obtain ⟨n3, rfl, _⟩ := leaf_int tok rfl h3
    exact ⟨⟨n0, n1, n2, n3⟩, rfl, trivial⟩

theorem rd_26 {v : Value} {d : DataW H} {p : List MemPlace} {r : Reach} {b : Nat} (hv : Value.okWide Try.prog w r b 26 v) (h : DataW.Trod enc Try.prog w base spare held 26 v d p) : ∃ a : Hold, v = a.val := by
  obtain ⟨cs, rfl, _⟩ := okWide_struct Try.underlying26 hv
  obtain ⟨fuel, hf⟩ := h
  obtain ⟨a, ha, _⟩ := hold_cells hf
  refine ⟨a, ?_⟩
  have : cs = a.cells.toArray := by apply Array.ext'; exact ha.symm
  rw [this]

theorem rd_23 {v : Value} {d : DataW H} {p : List MemPlace} {r : Reach} {b : Nat} (hv : Value.okWide Try.prog w r b 23 v) (h : DataW.Trod enc Try.prog w base spare held 23 v d p) : ∃ lo hi : Int, v = .agg #[I lo, I hi] := by
  obtain ⟨cs, rfl, _⟩ := okWide_struct Try.underlying23 hv
  obtain ⟨fuel, hf⟩ := h
  have h2 := rd_flat tok 5 23 _ rfl hf
  have hc : (Value.agg cs).cells.toList = cs.toList := rfl
  rw [hc] at h2
  match hcs : cs.toList, h2 with
  | [c0, c1], ⟨h0, h1, _⟩ =>
    obtain ⟨n0, rfl, _⟩ := leaf_int tok rfl h0
    obtain ⟨n1, rfl, _⟩ := leaf_int tok rfl h1
    refine ⟨n0, n1, ?_⟩
    have : cs = #[I n0, I n1] := by apply Array.ext'; exact hcs
    rw [this]

theorem rd_38 {v : Value} {d : DataW H} {p : List MemPlace} {r : Reach} {b : Nat} (hv : Value.okWide Try.prog w r b 38 v) (h : DataW.Trod enc Try.prog w base spare held 38 v d p) : ∃ g : Geo, v = g.val := by
  obtain ⟨cs, rfl, _⟩ := okWide_struct Try.underlying38 hv
  obtain ⟨fuel, hf⟩ := h
  have h2 := rd_flat tok 5 38 _ rfl hf
  have hc : (Value.agg cs).cells.toList = cs.toList := rfl
  rw [hc] at h2
  match hcs : cs.toList, h2 with
  | [c0, c1, c2, c3, c4, c5, c6, c7], ⟨h0, h1, h2, h3, h4, h5, h6, h7, _⟩ =>
    obtain ⟨n0, rfl, _⟩ := leaf_int tok rfl h0
    obtain ⟨n1, rfl, _⟩ := leaf_int tok rfl h1
    obtain ⟨n2, rfl, _⟩ := leaf_int tok rfl h2
    obtain ⟨n3, rfl, _⟩ := leaf_int tok rfl h3
    obtain ⟨n4, rfl, _⟩ := leaf_int tok rfl h4
    obtain ⟨n5, rfl, _⟩ := leaf_int tok rfl h5
    obtain ⟨n6, rfl, _⟩ := leaf_int tok rfl h6
    obtain ⟨n7, rfl, _⟩ := leaf_int tok rfl h7
    refine ⟨⟨n0, n1, n2, n3, n4, n5, n6, n7⟩, ?_⟩
    have : cs = #[I n0, I n1, I n2, I n3, I n4, I n5, I n6, I n7] := by apply Array.ext'; exact hcs
    rw [this]

theorem rd_3 {v : Value} {d : DataW H} {p : List MemPlace} {r : Reach} {b : Nat} (hv : Value.okWide Try.prog w r b 3 v) (h : DataW.Trod enc Try.prog w base spare held 3 v d p) : ∃ n : Int, v = I n ∧ -9223372036854775808 ≤ n ∧ n ≤ 9223372036854775807 := by
  obtain ⟨n, rfl⟩ := okWide_int Try.underlying3 hv
  obtain ⟨m, hm, hw⟩ := leaf_int tok rfl (trod_leaf h rfl)
  cases hm
  exact ⟨n, rfl, bounds_i64 hw⟩

theorem rd_24 {v : Value} {d : DataW H} {p : List MemPlace} {r : Reach} {b : Nat} (hv : Value.okWide Try.prog w r b 24 v) (h : DataW.Trod enc Try.prog w base spare held 24 v d p) : ∃ n : Int, v = I8 n := by
  obtain ⟨n, rfl⟩ := okWide_int Try.underlying24 hv
  exact ⟨n, rfl⟩

theorem rd_31 {v : Value} {d : DataW H} {p : List MemPlace} {r : Reach} {b : Nat} (hv : Value.okWide Try.prog w r b 31 v) (h : DataW.Trod enc Try.prog w base spare held 31 v d p) : ∃ l : List Hold, SlOf (vw w) Hold.cells 4 v l ∧ l.length ≤ maxLen := by
  obtain ⟨a, n, c, rfl⟩ := okWide_slice Try.underlying31 hv
  obtain ⟨l, h1, h2, _⟩ := leaf_slice (enc' := Hold.cells) (Good := fun _ => True) tok rfl rfl rfl (fun _ => rfl) (fun fuel cs x hx => hold_cells hx) (trod_leaf h rfl)
  exact ⟨l, h1, h2⟩
end
end Go.Proofs.Ytjddnkjeilmejaa
