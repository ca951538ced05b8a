/- A text's pieces put together: plain law. -/
import Derived.Test.YtlcpfhjbhogdiaaW16
set_option linter.unusedVariables false
set_option linter.unusedSimpArgs false
set_option maxRecDepth 100000
namespace Go.Proofs.Ytlcpfhjbhogdiaa
open Go Go.Eng Go.RowKit

theorem size_extract' (s : ByteArray) (a b : Nat) (h : b ≤ s.size) : (s.extract a b).size = b - a := by
  rw [ByteArray.size_extract]; omega

theorem head_size (s : ByteArray) : (headOf s).size = min s.size 256 := by
  unfold headOf; rw [size_extract' _ _ _ (by omega)]; omega

theorem tail_size (s : ByteArray) : (tailOf s).size = s.size - 256 := by
  unfold tailOf; rw [size_extract' _ _ _ (Nat.le_refl _)]; omega

theorem head_tail (s : ByteArray) : headOf s ++ tailOf s = s := by
  unfold headOf tailOf
  apply ByteArray.ext
  rw [ByteArray.data_append, ByteArray.data_extract, ByteArray.data_extract]
  apply Array.ext'
  have hz : s.size = s.data.toList.length := by simp
  simp only [Array.toList_append, Array.toList_extract, List.extract_eq_take_drop, List.drop_zero, Nat.sub_zero]
  rw [hz]
  rw [List.take_of_length_le (l := List.drop _ _) (by simp)]
  exact List.take_append_drop _ _

theorem rest_size (t : ByteArray) : ∀ k, (restAt t k).size = t.size - 256 * k
  | 0 => by simp [restAt]
  | k + 1 => by rw [restAt, tail_size, rest_size t k]; omega

/-- The first k pieces. -/
def catTo (t : ByteArray) : Nat → ByteArray
  | 0 => ByteArray.empty
  | k + 1 => catTo t k ++ headOf (restAt t k)

theorem cat_rest (t : ByteArray) : ∀ k, catTo t k ++ restAt t k = t
  | 0 => by simp [catTo, restAt]
  | k + 1 => by
    rw [catTo, restAt, ByteArray.append_assoc, head_tail, cat_rest t k]

theorem cat_size (t : ByteArray) (k : Nat) : (catTo t k).size = min t.size (256 * k) := by
  have h := congrArg ByteArray.size (cat_rest t k)
  rw [ByteArray.size_append, rest_size] at h
  omega

theorem cat_all {t : ByteArray} {k : Nat} (h : t.size ≤ 256 * k) : catTo t k = t := by
  have h1 := cat_rest t k
  have h2 : restAt t k = ByteArray.empty := size_zero (by rw [rest_size]; omega)
  rw [h2] at h1
  simpa using h1
end Go.Proofs.Ytlcpfhjbhogdiaa
