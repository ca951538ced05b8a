/- Whole transactions, one behind the other: plain law. -/
import Derived.Test.YtlcpfhjbhogdiaaRTexts
set_option linter.unusedVariables false
set_option linter.unusedSimpArgs false
set_option maxRecDepth 100000
namespace Go.Proofs.Ytlcpfhjbhogdiaa
open Go Go.Eng Go.RowKit

/-- Records that are whole transactions, wherever they begin. -/
def Chain (A : List Record) : Prop := ∀ r i, wholeFrom (A ++ r) i i 0 = wholeFrom r (i + A.length) (i + A.length) 0

theorem chain_nil : Chain [] := fun r i => rfl

theorem chain_app {A B : List Record} (ha : Chain A) (hb : Chain B) : Chain (A ++ B) := fun r i => by
  rw [List.append_assoc, ha, hb, List.length_append]
  congr 1 <;> omega

theorem from_data : ∀ (ds r : List Record) (i n d : Nat), (∀ x ∈ ds, x.count = 0) → wholeFrom (ds ++ r) i n d = wholeFrom r (i + ds.length) n (d + ds.length)
  | [], r, i, n, d, _ => rfl
  | x :: ds, r, i, n, d, h => by
    rw [List.cons_append, wholeFrom, if_pos (h x (by simp)), from_data ds r _ _ _ (fun y hy => h y (by simp [hy]))]
    simp only [List.length_cons]
    congr 1 <;> omega

def Txn (t : List Record) : Prop := ∃ ds c, t = ds ++ [c] ∧ (∀ x ∈ ds, x.count = 0) ∧ c.count = (ds.length : Int) ∧ 1 ≤ ds.length

theorem chain_txn {t : List Record} (h : Txn t) : Chain t := by
  obtain ⟨ds, c, rfl, hz, hc, h1⟩ := h
  intro r i
  rw [List.append_assoc, from_data _ _ _ _ _ hz, List.singleton_append, wholeFrom, if_neg (by omega), if_neg (by simp only [ne_eq, Nat.zero_add]; omega)]
  simp only [List.length_append, List.length_singleton]
  congr 1

theorem whole_chain {A : List Record} (h : Chain A) : whole A = A.length := by
  have := h [] 0
  rw [List.append_nil] at this
  rw [whole, this]
  simp [wholeFrom]

theorem whole_data {A ds : List Record} (h : Chain A) (hz : ∀ x ∈ ds, x.count = 0) : whole (A ++ ds) = A.length := by
  rw [whole, h]
  have := from_data ds [] (0 + A.length) (0 + A.length) 0 hz
  rw [List.append_nil] at this
  rw [this]
  simp [wholeFrom]

theorem whole_bad {A ds r : List Record} {c : Record} (h : Chain A) (hz : ∀ x ∈ ds, x.count = 0) (h0 : c.count ≠ 0) (hc : c.count ≠ (ds.length : Int)) : whole (A ++ (ds ++ c :: r)) = A.length := by
  rw [whole, h, from_data _ _ _ _ _ hz, wholeFrom, if_neg h0, if_pos (by simpa using hc)]
  simp

/-- One of the last transaction's records left out. -/
theorem whole_less {A t : List Record} (h : Chain A) (ht : Txn t) {j : Nat} (hj : j < t.length) : whole ((A ++ t).take (A.length + j) ++ (A ++ t).drop (A.length + j + 1)) = A.length := by
  obtain ⟨ds, c, rfl, hz, hc, h1⟩ := ht
  have e1 : (A ++ (ds ++ [c])).take (A.length + j) = A ++ (ds ++ [c]).take j := by
    rw [List.take_append, List.take_of_length_le (by omega)]
    congr 2; omega
  have e2 : (A ++ (ds ++ [c])).drop (A.length + j + 1) = (ds ++ [c]).drop (j + 1) := by
    rw [List.drop_append, List.drop_of_length_le (by omega), List.nil_append]
    congr 1; omega
  rw [e1, e2, List.append_assoc]
  by_cases hd : j < ds.length
  · have e3 : (ds ++ [c]).take j ++ (ds ++ [c]).drop (j + 1) = (ds.take j ++ ds.drop (j + 1)) ++ c :: [] := by
      rw [List.take_append_of_le_length (by omega), List.drop_append_of_le_length (by omega), List.append_assoc]
    rw [e3]
    refine whole_bad h (fun x hx => ?_) (by omega) ?_
    · rcases List.mem_append.1 hx with hx | hx
      · exact hz x (List.mem_of_mem_take hx)
      · exact hz x (List.mem_of_mem_drop hx)
    · rw [List.length_append, List.length_take, List.length_drop]; omega
  · have hj' : j = ds.length := by simp at hj; omega
    subst hj'
    rw [List.take_left', List.drop_of_length_le (by simp), List.append_nil]
    · exact whole_data h hz
    · rfl

theorem txn_all {g : Geo} {key lsn : Int} {l : List Block} (h : 1 ≤ l.length * g.per.toNat) : Txn (allRecs g key lsn l) := by
  refine ⟨_, _, rfl, fun x hx => ?_, ?_, ?_⟩
  · simp only [recs, List.mem_map, List.mem_range] at hx
    obtain ⟨j, _, rfl⟩ := hx
    rfl
  · rw [recs_len]; rfl
  · rw [recs_len]; exact h

structure WInv (n i : Nat) (B t : List Record) : Prop where
  le : i ≤ n
  chB : Chain B
  tx : (B = [] ∧ t = []) ∨ Txn t
  len : (B ++ t).length ≤ 65 * i

theorem WInv.ch {n i : Nat} {B t : List Record} (h : WInv n i B t) : Chain (B ++ t) := by
  rcases h.tx with ⟨rfl, rfl⟩ | ht
  · exact chain_nil
  · exact chain_app h.chB (chain_txn ht)

theorem take_last {l : List Record} (ht : Txn l) : ∀ x ∈ l.take (l.length - 1), x.count = 0 := by
  obtain ⟨ds, c, rfl, hz, hc, h1⟩ := ht
  intro x hx
  rw [List.length_append, List.length_singleton, Nat.add_sub_cancel, List.take_left'] at hx
  · exact hz x hx
  · rfl
end Go.Proofs.Ytlcpfhjbhogdiaa
