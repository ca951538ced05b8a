import Derived.Test.YtlcpfhjbhogdiaaMA
/- A text's pieces put together: plain law. -/
set_option linter.unusedVariables false
set_option linter.unusedSimpArgs false
set_option maxRecDepth 100000
namespace Go.Proofs.Ytlcpfhjbhogdiaa
open Go Go.Eng Go.RowKit

theorem size_extract' (s : ByteArray) (a b : Nat) (h : b ≤ s.size) : (s.extract a b).size = b - a := by
  rw [ByteArray.size_extract]; omega

theorem head_size (s : ByteArray) : (headOf s).size = min s.size 256 := by
  unfold headOf; rw [size_extract' _ _ _ (by omega)]; omega

theorem tail_size (s : ByteArray) : (tailOf s).size = s.size - 256 := by
  unfold tailOf; rw [size_extract' _ _ _ (Nat.le_refl _)]; omega

theorem head_tail (s : ByteArray) : headOf s ++ tailOf s = s := by
  unfold headOf tailOf
  apply ByteArray.ext
  rw [ByteArray.data_append, ByteArray.data_extract, ByteArray.data_extract]
  apply Array.ext'
  have hz : s.size = s.data.toList.length := by simp
  simp only [Array.toList_append, Array.toList_extract, List.extract_eq_take_drop, List.drop_zero, Nat.sub_zero]
  rw [hz]
  rw [List.take_of_length_le (l := List.drop _ _) (by simp)]
  exact List.take_append_drop _ _

theorem rest_size (t : ByteArray) : ∀ k, (restAt t k).size = t.size - 256 * k
  | 0 => by simp [restAt]
  | k + 1 => by rw [restAt, tail_size, rest_size t k]; omega

/-- The first k pieces. -/
def catTo (t : ByteArray) : Nat → ByteArray
  | 0 => ByteArray.empty
  | k + 1 => catTo t k ++ headOf (restAt t k)

theorem cat_rest (t : ByteArray) : ∀ k, catTo t k ++ restAt t k = t
  | 0 => by simp [catTo, restAt]
  | k + 1 => by
    rw [catTo, restAt, ByteArray.append_assoc, head_tail, cat_rest t k]

theorem cat_size (t : ByteArray) (k : Nat) : (catTo t k).size = min t.size (256 * k) := by
  have h := congrArg ByteArray.size (cat_rest t k)
  rw [ByteArray.size_append, rest_size] at h
  omega

theorem cat_all {t : ByteArray} {k : Nat} (h : t.size ≤ 256 * k) : catTo t k = t := by
  have h1 := cat_rest t k
  have h2 : restAt t k = ByteArray.empty := size_zero (by rw [rest_size]; omega)
  rw [h2] at h1
  simpa using h1
end Go.Proofs.Ytlcpfhjbhogdiaa

/- The law RecordTexts from what comes in. -/
set_option linter.unusedVariables false
set_option linter.unusedSimpArgs false
set_option maxRecDepth 100000
namespace Go.Proofs.Ytlcpfhjbhogdiaa
open Go Go.Eng Go.RowKit

theorem all_at {g : Geo} {key lsn : Int} {l : List Block} {j : Nat} (h : j < l.length * g.per.toNat) : (allRecs g key lsn l)[j]? = some (recAt key lsn g.per.toNat l j) := by
  unfold allRecs
  rw [List.getElem?_append_left (by rw [recs_len]; exact h)]
  simp [recs, h]

theorem all_last {g : Geo} {key lsn : Int} {l : List Block} : (allRecs g key lsn l)[l.length * g.per.toNat]? = some (commitOf key lsn (l.length * g.per.toNat)) := by
  unfold allRecs
  rw [List.getElem?_append_right (by rw [recs_len]; omega), recs_len]
  simp

theorem all_len (g : Geo) (key lsn : Int) (l : List Block) : (allRecs g key lsn l).length = l.length * g.per.toNat + 1 := by
  simp [allRecs, recs_len]

theorem all_facts {g : Geo} {key lsn : Int} {l : List Block} {i : Nat} {r : Record} (hm : 1 ≤ l.length * g.per.toNat) (hr : (allRecs g key lsn l)[i]? = some r) :
    r.lsn = lsn + i ∧ r.key = key ∧ (r.count == 0) = decide (i < l.length * g.per.toNat) := by
  have hlt := (List.getElem?_eq_some_iff.1 hr).1
  rw [all_len] at hlt
  by_cases h : i < l.length * g.per.toNat
  · rw [all_at h] at hr
    cases hr
    exact ⟨rfl, rfl, by simp [recAt, h]⟩
  · have : i = l.length * g.per.toNat := by omega
    subst this
    rw [all_last] at hr
    cases hr
    refine ⟨rfl, rfl, ?_⟩
    simp only [commitOf, h, decide_false, beq_eq_false_iff_ne, ne_eq]
    omega

theorem great_no {l : List Block} (h : greatB l = false) : l.length ≤ 70 := by
  simp only [greatB, Bool.or_eq_false_iff, decide_eq_false_iff_not] at h
  omega

theorem recordTexts_law (w : World) {v0 v1 v2 v3 : Value} (R0 : ∃ g : Geo, v0 = g.val ∧ g.Ok) (R1 : ∃ n : Int, v1 = I n ∧ R64 n) (R2 : ∃ n : Int, v2 = I n ∧ R64 n)
    (R3 : ∃ l : List Block, SlOf (vw w) Block.cells 2 v3 l ∧ l.length ≤ maxLen ∧ ∀ a ∈ l, a.Ok) : Calls Try.prog 4 #[v0, v1, v2, v3] w fun e w' => e = .returned (.bool true) ∧ Below w.heap.size w w' := by
  obtain ⟨g, rfl, ok⟩ := R0
  obtain ⟨key, rfl, _⟩ := R1
  obtain ⟨lsn, rfl, _⟩ := R2
  obtain ⟨l, hs, hmax, _⟩ := R3
  refine enter (E := E0) (O := []) (nl := 0) (V := vw w) [.a (.v g.val), .a (.v (I key)), .a (.v (I lsn)), .a (.v v3)] Try.func4 rfl rfl (mem0 E0 0 w) rfl rfl ?_
  refine c_seq ?_
  refine c_region ?_
  refine o_new tok rfl rfl rfl rfl ?_
  refine o_yield rfl rfl rfl (y_val tok rfl) ?_
  refine o_end [1, 2, 3, 4] rfl ?_
  refine x_then ?_
  refine c_seq ?_
  refine c_seq ?_
  refine c_region ?_
  refine o_yield rfl rfl rfl (y_val tok rfl) ?_
  refine o_call (.a (.v _)) rfl rfl fnok17 rfl rfl rfl (fun hg E w1 hm => by exact great_c (vw w) _ l _ hm.leV hs hmax) ?_
  refine o_end [1, 2, 3, 4, 17] rfl ?_
  refine x_then ?_
  refine c_cond rfl (fun h => ?_) (fun h => ?_)
  ·
    refine c_seq ?_
    refine c_region ?_
    refine o_call (.a (.v _)) rfl rfl fnok16 rfl rfl rfl (fun hg E w1 hm => by exact wakes16_c _) ?_
    refine o_yield rfl rfl rfl (y_val tok rfl) ?_
    refine o_end [8] rfl ?_
    refine x_then ?_
    refine c_ret ?_
    refine x_then_ret ?_
    refine b_ret tok rfl ?_
    intro E w' hm _
    exact ⟨rfl, hm.below (Vw.le.refl _)⟩
  ·
    refine c_skip ?_
    refine x_then ?_
    refine c_seq ?_
    refine c_region ?_
    refine o_yield rfl rfl rfl (y_val tok rfl) ?_
    refine o_yield rfl rfl rfl (y_val tok rfl) ?_
    refine o_yield rfl rfl rfl (y_val tok rfl) ?_
    refine o_yield rfl rfl rfl (y_val tok rfl) ?_
    have hlen := great_no h
    have hlim : l.length ≤ lim := by unfold lim; omega
    clear h
    refine o_callV (OfVal g key lsn l) rfl rfl fnok18 rfl rfl (fun hg E w1 hm => by exact of_cV (vw w) g ok key lsn _ l _ hm.leV hs hlim) ?_
    rintro x V1 hle1 hx
    rcases hx rfl with ⟨hok, v, rfl, hsl⟩ | ⟨hno, rfl⟩
    rotate_left
    ·
      refine o_yield rfl rfl rfl (y_val tok rfl) ?_
      refine o_yield rfl rfl rfl (y_val tok rfl) ?_
      refine o_yield rfl rfl rfl (y_val tok rfl) ?_
      refine o_yield rfl rfl rfl (y_val tok rfl) ?_
      refine o_yield rfl rfl rfl (y_val tok rfl) ?_
      refine o_end [1, 2, 3, 4, 9, 10] rfl ?_
      refine x_then ?_
      refine c_seq ?_
      refine c_seq ?_
      refine c_region ?_
      refine o_yield rfl rfl rfl (y_val tok rfl) ?_
      refine o_yield rfl rfl rfl (y_val tok rfl) ?_
      refine o_end [1, 2, 3, 4, 9, 10, 28] rfl ?_
      refine x_then ?_
      refine c_cond rfl (fun h => ?_) (fun h => ?_)
      ·
        refine c_seq ?_
        refine c_region ?_
        refine o_yield rfl rfl rfl (y_val tok rfl) ?_
        refine o_yield rfl rfl rfl (y_val tok rfl) ?_
        refine o_yield rfl rfl rfl (y_val tok rfl) ?_
        refine o_yield rfl rfl rfl (y_val tok rfl) ?_
        refine o_yield rfl rfl rfl (y_len tok rfl (fun hg => (⟨rfl, .inl ⟨none, 0, rfl, rfl⟩⟩ : IsSl V1 (.slice none 0 0) 6 0 []))) ?_
        refine o_yield rfl rfl rfl (y_val tok rfl) ?_
        refine o_yield rfl rfl rfl (y_val tok rfl) ?_
        refine o_yield rfl rfl rfl (y_val tok rfl) ?_
        refine o_call (.a (.v _)) rfl rfl fnok16 rfl rfl rfl (fun hg E w1 hm => by exact wakes16_c _) ?_
        refine o_yield rfl rfl rfl (y_val tok rfl) ?_
        refine o_yield rfl rfl rfl (y_val tok rfl) ?_
        refine o_end [8] rfl ?_
        refine x_then ?_
        refine c_ret ?_
        refine x_then_ret ?_
        refine b_ret tok rfl ?_
        intro E w' hm _
        exact ⟨rfl, hm.below hle1⟩
      ·
        refine c_skip ?_
        refine x_then ?_
        refine c_seq ?_
        refine c_seq ?_
        refine c_region ?_
        refine o_yield rfl rfl rfl (y_val tok rfl) ?_
        exact absurd h (by decide)
    refine o_yield rfl rfl rfl (y_val tok rfl) ?_
    refine o_yield rfl rfl rfl (y_val tok rfl) ?_
    refine o_yield rfl rfl rfl (y_val tok rfl) ?_
    refine o_yield rfl rfl rfl (y_val tok rfl) ?_
    refine o_yield rfl rfl rfl (y_val tok rfl) ?_
    refine o_end [1, 2, 3, 4, 9, 10] rfl ?_
    refine x_then ?_
    refine c_seq ?_
    refine c_seq ?_
    refine c_region ?_
    refine o_yield rfl rfl rfl (y_val tok rfl) ?_
    refine o_yield rfl rfl rfl (y_val tok rfl) ?_
    refine o_end [1, 2, 3, 4, 9, 10, 28] rfl ?_
    refine x_then ?_
    refine c_cond rfl (fun h => ?_) (fun h => ?_)
    ·
      refine c_seq ?_
      refine c_region ?_
      refine o_yield rfl rfl rfl (y_val tok rfl) ?_
      refine o_yield rfl rfl rfl (y_val tok rfl) ?_
      refine o_yield rfl rfl rfl (y_val tok rfl) ?_
      refine o_yield rfl rfl rfl (y_val tok rfl) ?_
      exact absurd h (by decide)
    ·
      refine c_skip ?_
      refine x_then ?_
      refine c_seq ?_
      refine c_seq ?_
      refine c_region ?_
      refine o_yield rfl rfl rfl (y_val tok rfl) ?_
      clear h
      have hgeo := hok.geo
      simp only [geoB, decide_eq_true_eq] at hgeo
      obtain ⟨per, hper⟩ : ∃ per : Nat, g.per = per := ⟨g.per.toNat, by omega⟩
      have hpn : g.per.toNat = per := by omega
      have hfew := hok.few
      have hlsn := hok.lsnB
      simp only [belowB, Bool.and_eq_true, decide_eq_true_eq] at hlsn
      have hl0 : 0 < l.length := List.length_pos_iff.2 hok.some_
      have hm512 : l.length * per ≤ 512 := by
        have h1 : l.length * per ≤ 64 * per := Nat.mul_le_mul_right _ (by omega)
        omega
      have hm1 : 1 ≤ l.length * per := Nat.mul_pos hl0 (by omega)
      have hal := all_len g key lsn l
      rw [hpn] at hal
      have hsl' := hsl
      refine o_call (.a (.v _)) rfl rfl fnok15 rfl rfl rfl (fun hg E w1 hm => by exact refMay_c g ok _) ?_
      refine o_yield rfl rfl rfl (y_val tok rfl) ?_
      refine o_yield rfl rfl rfl (y_val tok rfl) ?_
      refine o_yield rfl rfl rfl (y_val tok rfl) ?_
      refine o_yield rfl rfl rfl (y_len tok rfl (fun hg => hsl.sl)) ?_
      refine o_yield rfl rfl rfl (y_val tok rfl) ?_
      refine o_yield rfl rfl rfl (y_val tok rfl) ?_
      refine o_yield rfl rfl rfl (y_val tok rfl) ?_
      refine o_yield rfl rfl rfl (y_len tok rfl (fun hg => (hs.mono hle1).sl)) ?_
      refine o_yield rfl rfl rfl (y_val tok rfl) ?_
      refine o_yield rfl rfl rfl (y_val tok rfl) ?_
      refine o_yield rfl rfl rfl (y_val tok rfl) ?_
      refine o_yield rfl rfl rfl (y_val tok rfl) ?_
      refine o_end [1, 2, 3, 4, 9, 52] rfl ?_
      refine x_then ?_
      refine c_cond rfl (fun h => ?_) (fun h => ?_)
      ·
        refine c_seq ?_
        refine c_region ?_
        refine o_yield rfl rfl rfl (y_val tok rfl) ?_
        refine o_end [8] rfl ?_
        refine x_then ?_
        refine c_ret ?_
        refine x_then_ret ?_
        refine b_ret tok rfl ?_
        exfalso
        revert h
        rw [hok.geo, hal, hper, wrapI (n := (per : Int) * (l.length : Int)) (by rw [Int.mul_comm, ← Int.natCast_mul]; omega) (by rw [Int.mul_comm, ← Int.natCast_mul]; omega)]
        rw [show (per : Int) * (l.length : Int) = ((l.length * per : Nat) : Int) by rw [Int.mul_comm, ← Int.natCast_mul], wrapI (by omega) (by omega)]
        simp
      ·
        refine c_skip ?_
        refine x_then ?_
        refine c_seq ?_
        refine c_seq ?_
        refine c_region ?_
        refine o_yield rfl rfl rfl (y_val tok rfl) ?_
        refine o_end [1, 2, 3, 4, 9, 11] rfl ?_
        refine x_then ?_
        refine c_block ?_
        clear h
        refine c_loop (σ := Nat) (fun i => [(1, .a (.v (I key))), (2, .a (.v (I lsn))), (3, .a (.v v3)), (4, .a (.ptr 0 0)), (9, .a (.v v)), (11, .a (.v (I i)))])
          (fun _ => [(0, .lit [.v (I g.nodes), .v (I g.slots), .v (I g.blocks), .v (I g.per), .v (I g.journal), .v (I g.log), .v (I g.lease), .v (I g.wait)] 23)]) 1 (fun _ => V1)
          (fun i => i ≤ (allRecs g key lsn l).length) (fun i => (allRecs g key lsn l).length - i) 0 (by omega) ⟨rfl, rfl, rfl, rfl, rfl, rfl, trivial⟩ ⟨rfl, trivial⟩ rfl (Vw.le.refl _) ?_
        rintro i hi
        refine c_seq ?_
        refine c_seq ?_
        refine c_region ?_
        refine o_yield rfl rfl rfl (y_val tok rfl) ?_
        refine o_yield rfl rfl rfl (y_val tok rfl) ?_
        refine o_yield rfl rfl rfl (y_len tok rfl (fun hg => hsl.sl)) ?_
        refine o_yield rfl rfl rfl (y_val tok rfl) ?_
        refine o_end [1, 2, 3, 4, 9, 11, 56] rfl ?_
        refine x_then ?_
        refine c_cond rfl (fun h => ?_) (fun h => ?_)
        ·
          refine c_skip ?_
          refine x_then ?_
          refine c_seq ?_
          refine c_block ?_
          refine c_seq ?_
          refine c_region ?_
          refine o_yield rfl rfl rfl (y_val tok rfl) ?_
          refine o_yield rfl rfl rfl (y_val tok rfl) ?_
          have hlt : i < (allRecs g key lsn l).length := by simp at h; omega
          obtain ⟨r, hr⟩ : ∃ r, (allRecs g key lsn l)[i]? = some r := ⟨_, List.getElem?_eq_getElem hlt⟩
          obtain ⟨f1, f2, f3⟩ := all_facts (by rw [hpn]; exact hm1) hr
          refine o_yield rfl rfl rfl (y_idx tok rfl (fun hg => hsl.sl) (fun hg => ⟨by omega, by omega⟩)) ?_
          refine o_yield rfl rfl rfl (y_fel tok rfl (fun hg => hsl.sl) (fun hg => by omega)) ?_
          refine o_yield rfl rfl rfl (y_lel tok (i) 1 (r) rfl (fun hg => hsl) (fun hg => hr) rfl rfl) ?_
          refine o_yield rfl rfl rfl (y_val tok rfl) ?_
          refine o_yield rfl rfl rfl (y_val tok rfl) ?_
          refine o_yield rfl rfl rfl (y_val tok rfl) ?_
          refine o_yield rfl rfl rfl (y_val tok rfl) ?_
          refine o_yield rfl rfl rfl (y_val tok rfl) ?_
          refine o_yield rfl rfl rfl (y_val tok rfl) ?_
          refine o_yield rfl rfl rfl (y_val tok rfl) ?_
          refine o_yield rfl rfl rfl (y_idx tok rfl (fun hg => hsl.sl) (fun hg => ⟨by omega, by omega⟩)) ?_
          refine o_yield rfl rfl rfl (y_fel tok rfl (fun hg => hsl.sl) (fun hg => by omega)) ?_
          refine o_yield rfl rfl rfl (y_lel tok (i) 0 (r) rfl (fun hg => hsl) (fun hg => hr) rfl rfl) ?_
          refine o_yield rfl rfl rfl (y_val tok rfl) ?_
          refine o_yield rfl rfl rfl (y_val tok rfl) ?_
          refine o_yield rfl rfl rfl (y_val tok rfl) ?_
          refine o_yield rfl rfl rfl (y_val tok rfl) ?_
          refine o_yield rfl rfl rfl (y_val tok rfl) ?_
          refine o_yield rfl rfl rfl (y_val tok rfl) ?_
          refine o_yield rfl rfl rfl (y_idx tok rfl (fun hg => hsl.sl) (fun hg => ⟨by omega, by omega⟩)) ?_
          refine o_yield rfl rfl rfl (y_fel tok rfl (fun hg => hsl.sl) (fun hg => by omega)) ?_
          refine o_yield rfl rfl rfl (y_lel tok (i) 5 (r) rfl (fun hg => hsl) (fun hg => hr) rfl rfl) ?_
          refine o_yield rfl rfl rfl (y_val tok rfl) ?_
          refine o_yield rfl rfl rfl (y_val tok rfl) ?_
          refine o_yield rfl rfl rfl (y_val tok rfl) ?_
          refine o_yield rfl rfl rfl (y_len tok rfl (fun hg => hsl.sl)) ?_
          refine o_yield rfl rfl rfl (y_val tok rfl) ?_
          refine o_yield rfl rfl rfl (y_val tok rfl) ?_
          refine o_yield rfl rfl rfl (y_val tok rfl) ?_
          refine o_yield rfl rfl rfl (y_val tok rfl) ?_
          refine o_end [1, 2, 3, 4, 9, 11, 90] rfl ?_
          refine x_then ?_
          refine c_cond rfl (fun h => ?_) (fun h => ?_)
          ·
            refine c_seq ?_
            refine c_region ?_
            refine o_yield rfl rfl rfl (y_val tok rfl) ?_
            refine o_end [8] rfl ?_
            refine x_then ?_
            refine c_ret ?_
            refine x_block_ret ?_
            refine x_then_ret ?_
            refine x_then_ret ?_
            refine x_block_ret ?_
            refine x_then_ret ?_
            refine b_ret tok rfl ?_
            exfalso
            revert h
            rw [f1, f2, f3, hpn, hal, wrapI (n := lsn + (i : Int)) (by omega) (by omega), wrapI (by omega) (by omega)]
            have : decide (i < l.length * per) = decide ((i : Int) < ((l.length * per + 1 : Nat) : Int) - 1) := by
              rw [Bool.eq_iff_iff]; simp only [decide_eq_true_eq]; omega
            rw [this]
            simp
          ·
            refine c_skip ?_
            refine x_block ?_
            refine x_then ?_
            refine c_region ?_
            refine o_yield rfl rfl rfl (y_val tok rfl) ?_
            refine o_yield rfl rfl rfl (y_val tok rfl) ?_
            refine o_yield rfl rfl rfl (y_val tok rfl) ?_
            refine o_end [1, 2, 3, 4, 9, 11] rfl ?_
            refine x_then ?_
            rw [wrapI (n := (i : Int) + 1) (by omega) (by omega)]
            exact x_round (i + 1) (by omega) (by omega) ⟨rfl, rfl, rfl, rfl, rfl, rfl, trivial⟩ ⟨rfl, trivial⟩ rfl (Vw.le.refl _)
        ·
          refine c_exit ?_
          refine x_then_exit ?_
          refine x_then_exit ?_
          refine x_block_hit ?_
          refine x_then ?_
          refine c_seq ?_
          refine c_seq ?_
          refine c_region ?_
          refine o_yield rfl rfl rfl (y_val tok rfl) ?_
          refine o_end [3, 4, 9, 12] rfl ?_
          refine x_then ?_
          refine c_block ?_
          clear h
          have hs1 := hs.mono hle1
          refine c_loop (σ := Nat) (fun i => [(3, .a (.v v3)), (4, .a (.ptr 0 0)), (9, .a (.v v)), (12, .a (.v (I i)))]) (fun _ => [(0, .lit [.v (I g.nodes), .v (I g.slots), .v (I g.blocks), .v (I g.per), .v (I g.journal), .v (I g.log), .v (I g.lease), .v (I g.wait)] 23)]) 1 (fun _ => V1)
            (fun i => i ≤ l.length) (fun i => l.length - i) 0 (by omega) ⟨rfl, rfl, rfl, rfl, trivial⟩ ⟨rfl, trivial⟩ rfl (Vw.le.refl _) ?_
          rintro i hi
          refine c_seq ?_
          refine c_seq ?_
          refine c_region ?_
          refine o_yield rfl rfl rfl (y_val tok rfl) ?_
          refine o_yield rfl rfl rfl (y_val tok rfl) ?_
          refine o_yield rfl rfl rfl (y_len tok rfl (fun hg => hs1.sl)) ?_
          refine o_yield rfl rfl rfl (y_val tok rfl) ?_
          refine o_end [3, 4, 9, 12, 94] rfl ?_
          refine x_then ?_
          refine c_cond rfl (fun h => ?_) (fun h => ?_)
          ·
            refine c_skip ?_
            refine x_then ?_
            refine c_seq ?_
            refine c_block ?_
            refine c_seq ?_
            refine c_region ?_
            refine o_yield rfl rfl rfl (y_val tok rfl) ?_
            refine o_end [3, 4, 9, 12, 13] rfl ?_
            refine x_then ?_
            refine c_seq ?_
            refine c_seq ?_
            refine c_region ?_
            refine o_yield rfl rfl rfl (y_val tok rfl) ?_
            refine o_end [3, 4, 9, 12, 13, 14] rfl ?_
            refine x_then ?_
            refine c_block ?_
            have hlt : i < l.length := by simp at h; omega
            clear h
            obtain ⟨b, hb⟩ : ∃ b, l[i]? = some b := ⟨_, List.getElem?_eq_getElem hlt⟩
            have hbo := hok.blks i b hb
            have hsz := hbo.size
            rw [hper] at hsz
            refine c_loop (σ := Nat) (fun k => [(3, .a (.v v3)), (4, .a (.ptr 0 0)), (9, .a (.v v)), (12, .a (.v (I i))), (13, .a (.v (S (catTo b.text k)))), (14, .a (.v (I k)))]) (fun _ => [(0, .lit [.v (I g.nodes), .v (I g.slots), .v (I g.blocks), .v (I g.per), .v (I g.journal), .v (I g.log), .v (I g.lease), .v (I g.wait)] 23)]) 1 (fun _ => V1)
              (fun k => k ≤ per) (fun k => per - k) 0 (by omega) ⟨rfl, rfl, rfl, rfl, rfl, rfl, trivial⟩ ⟨rfl, trivial⟩ rfl (Vw.le.refl _) ?_
            rintro k hk
            refine c_seq ?_
            refine c_seq ?_
            refine c_region ?_
            refine o_yield rfl rfl rfl (y_val tok rfl) ?_
            refine o_yield rfl rfl rfl (y_val tok rfl) ?_
            refine o_yield rfl rfl rfl (y_val tok rfl) ?_
            refine o_yield rfl rfl rfl (y_val tok rfl) ?_
            refine o_end [3, 4, 9, 12, 13, 14, 100] rfl ?_
            refine x_then ?_
            refine c_cond rfl (fun h => ?_) (fun h => ?_)
            ·
              refine c_skip ?_
              refine x_then ?_
              refine c_seq ?_
              refine c_block ?_
              refine c_seq ?_
              refine c_region ?_
              refine o_yield rfl rfl rfl (y_val tok rfl) ?_
              refine o_yield rfl rfl rfl (y_val tok rfl) ?_
              refine o_yield rfl rfl rfl (y_val tok rfl) ?_
              refine o_yield rfl rfl rfl (y_val tok rfl) ?_
              refine o_yield rfl rfl rfl (y_val tok rfl) ?_
              refine o_yield rfl rfl rfl (y_val tok rfl) ?_
              refine o_yield rfl rfl rfl (y_val tok rfl) ?_
              have hklt : k < per := by simp at h; omega
              clear h
              have hjl : i * per + k < l.length * per := by
                have h1 : (i + 1) * per ≤ l.length * per := Nat.mul_le_mul_right _ (by omega)
                rw [Nat.add_mul] at h1
                omega
              have hix : IntKind.i64.wrap (IntKind.i64.wrap ((i : Int) * g.per) + (k : Int)) = ((i * per + k : Nat) : Int) := by
                rw [hper, ← Int.natCast_mul, wrapI (n := ((i * per : Nat) : Int)) (by omega) (by omega), wrapI (by omega) (by omega)]
                omega
              have hat : (allRecs g key lsn l)[i * per + k]? = some (⟨key, lsn + (i * per + k : Nat), b.n, (k : Nat), headOf (restAt b.text k), 0⟩ : Record) := by
                rw [all_at (by rw [hpn]; exact hjl), hpn, recAt_at key lsn per l hb hklt]
              rw [hix]
              refine o_yield rfl rfl rfl (y_idx tok rfl (fun hg => hsl.sl) (fun hg => ⟨by omega, by omega⟩)) ?_
              refine o_yield rfl rfl rfl (y_lel tok (i * per + k) 0 (_) rfl (fun hg => hsl) (fun hg => hat) rfl rfl) ?_
              refine o_new tok rfl rfl rfl rfl ?_
              refine o_store tok rfl rfl rfl (by first | exact ⟨trivial, trivial⟩ | simp [onesP, oneP, lk, Value.oneCell']) ?_
              refine o_end [3, 4, 9, 12, 13, 14, 15] rfl ?_
              refine x_then ?_
              refine c_seq ?_
              refine c_seq ?_
              refine c_draw mixed (by kernel_rfl) ?_
              refine d_yield rfl rfl rfl (y_val tok rfl) rfl ?_
              refine d_yield rfl rfl rfl (y_val tok rfl) rfl ?_
              refine d_yield rfl rfl rfl (y_val tok rfl) rfl ?_
              refine d_yield rfl rfl rfl (y_val tok rfl) rfl ?_
              refine d_yield rfl rfl rfl (y_idx tok rfl (fun hg => hs1.sl) (fun hg => ⟨by omega, by omega⟩)) rfl ?_
              refine d_yield rfl rfl rfl (y_fel tok rfl (fun hg => hs1.sl) (fun hg => by omega)) rfl ?_
              refine d_yield rfl rfl rfl (y_lel tok (i) 0 (b) rfl (fun hg => hs1) (fun hg => hb) rfl rfl) rfl ?_
              refine d_yield rfl rfl rfl (y_val tok rfl) rfl ?_
              refine d_yield rfl rfl rfl (y_val tok rfl) rfl ?_
              refine d_yield rfl rfl rfl (y_val tok rfl) rfl ?_
              refine d_yield rfl rfl rfl (y_val tok rfl) rfl ?_
              refine d_yield rfl rfl rfl (y_val tok rfl) rfl ?_
              refine d_yield rfl rfl rfl (y_val tok rfl) rfl ?_
              refine d_yield rfl rfl rfl (y_val tok rfl) rfl ?_
              refine d_yield rfl rfl rfl (y_val tok rfl) rfl ?_
              refine d_yield rfl rfl rfl (y_val tok rfl) rfl ?_
              refine d_yield rfl rfl rfl (y_val tok rfl) rfl ?_
              refine d_yield rfl rfl rfl (y_val tok rfl) rfl ?_
              refine d_yield rfl rfl rfl (y_val tok rfl) rfl ?_
              refine d_yield rfl rfl rfl (y_val tok rfl) rfl ?_
              refine d_yield rfl rfl rfl (y_val tok rfl) rfl ?_
              refine d_yield rfl rfl rfl (y_val tok rfl) rfl ?_
              refine d_yield rfl rfl rfl (y_val tok rfl) rfl ?_
              refine d_yield rfl rfl rfl (y_val tok rfl) rfl ?_
              refine d_yield rfl rfl rfl (y_val tok rfl) rfl ?_
              refine d_yield rfl rfl rfl (y_idx tok rfl (fun hg => hs1.sl) (fun hg => ⟨by omega, by omega⟩)) rfl ?_
              refine d_yield rfl rfl rfl (y_fel tok rfl (fun hg => hs1.sl) (fun hg => by omega)) rfl ?_
              refine d_yield rfl rfl rfl (y_lel tok (i) 1 (b) rfl (fun hg => hs1) (fun hg => hb) rfl rfl) rfl ?_
              refine d_yield rfl rfl rfl (y_val tok rfl) rfl ?_
              refine d_yield rfl rfl rfl (y_val tok rfl) rfl ?_
              refine d_yield rfl rfl rfl (y_val tok rfl) rfl ?_
              refine d_yield rfl rfl rfl (y_val tok rfl) rfl ?_
              refine d_yield rfl rfl rfl (y_val tok rfl) rfl ?_
              refine d_yield rfl rfl rfl (y_rem rfl (fun hg => by decide)) rfl ?_
              refine d_yield rfl rfl rfl (y_val tok rfl) rfl ?_
              refine d_yield rfl rfl rfl (y_val tok rfl) rfl ?_
              refine d_yield rfl rfl rfl (y_val tok rfl) rfl ?_
              refine d_end [3, 4, 9, 12, 13, 14, 15, 148] rfl ?_
              refine x_then ?_
              refine c_cond rfl (fun h => ?_) (fun h => ?_)
              ·
                refine c_seq ?_
                refine c_region ?_
                refine o_yield rfl rfl rfl (y_val tok rfl) ?_
                refine o_end [8] rfl ?_
                refine x_then ?_
                refine c_ret ?_
                refine x_then_ret ?_
                refine x_block_ret ?_
                refine x_then_ret ?_
                refine x_then_ret ?_
                refine x_block_ret ?_
                refine x_then_ret ?_
                refine x_block_ret ?_
                refine x_then_ret ?_
                refine x_then_ret ?_
                refine x_block_ret ?_
                refine x_then_ret ?_
                refine b_ret tok rfl ?_
                exfalso
                have hc := cat_size b.text k
                have hh := head_size (restAt b.text k)
                dsimp only at h
                rw [Int.tmod_eq_emod_of_nonneg (by omega)] at h
                simp only [Bool.or_eq_true, Bool.and_eq_true, decide_eq_true_eq, bne_iff_ne, ne_eq, not_true_eq_false, false_or] at h
                omega
              ·
                refine c_skip ?_
                refine x_then ?_
                refine c_region ?_
                refine o_yield rfl rfl rfl (y_val tok rfl) ?_
                refine o_yield rfl rfl rfl (y_val tok rfl) ?_
                refine o_yield rfl rfl rfl (y_val tok rfl) ?_
                clear h
                have hc := cat_size b.text k
                have hh := head_size (restAt b.text k)
                refine o_yield rfl rfl rfl (y_cat rfl (fun hg => by dsimp only; omega)) ?_
                refine o_yield rfl rfl rfl (y_val tok rfl) ?_
                refine o_end [3, 4, 9, 12, 13, 14] rfl ?_
                refine x_block ?_
                refine x_then ?_
                refine c_region ?_
                refine o_yield rfl rfl rfl (y_val tok rfl) ?_
                refine o_yield rfl rfl rfl (y_val tok rfl) ?_
                refine o_yield rfl rfl rfl (y_val tok rfl) ?_
                refine o_end [3, 4, 9, 12, 13, 14] rfl ?_
                refine x_then ?_
                rw [wrapI (n := (k : Int) + 1) (by omega) (by omega)]
                exact x_round (k + 1) (by omega) (by omega) ⟨rfl, rfl, rfl, rfl, rfl, rfl, trivial⟩ ⟨rfl, trivial⟩ rfl (Vw.le.refl _)
            ·
              refine c_exit ?_
              refine x_then_exit ?_
              refine x_then_exit ?_
              refine x_block_hit ?_
              refine x_then ?_
              refine c_seq ?_
              refine c_region ?_
              refine o_yield rfl rfl rfl (y_val tok rfl) ?_
              refine o_yield rfl rfl rfl (y_val tok rfl) ?_
              refine o_yield rfl rfl rfl (y_val tok rfl) ?_
              have hkp : k = per := by simp at h; omega
              subst hkp
              clear h
              refine o_yield rfl rfl rfl (y_idx tok rfl (fun hg => hs1.sl) (fun hg => ⟨by omega, by omega⟩)) ?_
              refine o_yield rfl rfl rfl (y_fel tok rfl (fun hg => hs1.sl) (fun hg => by omega)) ?_
              refine o_yield rfl rfl rfl (y_lel tok (i) 1 (b) rfl (fun hg => hs1) (fun hg => hb) rfl rfl) ?_
              refine o_yield rfl rfl rfl (y_val tok rfl) ?_
              refine o_end [3, 4, 9, 12, 159] rfl ?_
              refine x_then ?_
              refine c_cond rfl (fun h => ?_) (fun h => ?_)
              ·
                refine c_seq ?_
                refine c_region ?_
                refine o_yield rfl rfl rfl (y_val tok rfl) ?_
                refine o_end [8] rfl ?_
                refine x_then ?_
                refine c_ret ?_
                refine x_block_ret ?_
                refine x_then_ret ?_
                refine x_then_ret ?_
                refine x_block_ret ?_
                refine x_then_ret ?_
                refine b_ret tok rfl ?_
                rw [cat_all (by omega)] at h
                simp at h
              ·
                refine c_skip ?_
                refine x_block ?_
                refine x_then ?_
                refine c_region ?_
                refine o_yield rfl rfl rfl (y_val tok rfl) ?_
                refine o_yield rfl rfl rfl (y_val tok rfl) ?_
                refine o_yield rfl rfl rfl (y_val tok rfl) ?_
                refine o_end [3, 4, 9, 12] rfl ?_
                refine x_then ?_
                rw [wrapI (n := (i : Int) + 1) (by omega) (by omega)]
                exact x_round (i + 1) (by omega) (by omega) ⟨rfl, rfl, rfl, rfl, trivial⟩ ⟨rfl, trivial⟩ rfl (Vw.le.refl _)
          ·
            refine c_exit ?_
            refine x_then_exit ?_
            refine x_then_exit ?_
            refine x_block_hit ?_
            refine x_then ?_
            refine c_seq ?_
            refine c_region ?_
            refine o_call (.a (.v _)) rfl rfl fnok16 rfl rfl rfl (fun hg E w1 hm => by exact wakes16_c _) ?_
            refine o_yield rfl rfl rfl (y_val tok rfl) ?_
            refine o_end [8] rfl ?_
            refine x_then ?_
            refine c_ret ?_
            refine b_ret tok rfl ?_
            intro E w' hm _
            exact ⟨rfl, hm.below hle1⟩
end Go.Proofs.Ytlcpfhjbhogdiaa

/- Whole transactions, one behind the other: plain law. -/
set_option linter.unusedVariables false
set_option linter.unusedSimpArgs false
set_option maxRecDepth 100000
namespace Go.Proofs.Ytlcpfhjbhogdiaa
open Go Go.Eng Go.RowKit

/-- Records that are whole transactions, wherever they begin. -/
def Chain (A : List Record) : Prop := ∀ r i, wholeFrom (A ++ r) i i 0 = wholeFrom r (i + A.length) (i + A.length) 0

theorem chain_nil : Chain [] := fun r i => rfl

theorem chain_app {A B : List Record} (ha : Chain A) (hb : Chain B) : Chain (A ++ B) := fun r i => by
  rw [List.append_assoc, ha, hb, List.length_append]
  congr 1 <;> omega

theorem from_data : ∀ (ds r : List Record) (i n d : Nat), (∀ x ∈ ds, x.count = 0) → wholeFrom (ds ++ r) i n d = wholeFrom r (i + ds.length) n (d + ds.length)
  | [], r, i, n, d, _ => rfl
  | x :: ds, r, i, n, d, h => by
    rw [List.cons_append, wholeFrom, if_pos (h x (by simp)), from_data ds r _ _ _ (fun y hy => h y (by simp [hy]))]
    simp only [List.length_cons]
    congr 1 <;> omega

def Txn (t : List Record) : Prop := ∃ ds c, t = ds ++ [c] ∧ (∀ x ∈ ds, x.count = 0) ∧ c.count = (ds.length : Int) ∧ 1 ≤ ds.length

theorem chain_txn {t : List Record} (h : Txn t) : Chain t := by
  obtain ⟨ds, c, rfl, hz, hc, h1⟩ := h
  intro r i
  rw [List.append_assoc, from_data _ _ _ _ _ hz, List.singleton_append, wholeFrom, if_neg (by omega), if_neg (by simp only [ne_eq, Nat.zero_add]; omega)]
  simp only [List.length_append, List.length_singleton]
  congr 1

theorem whole_chain {A : List Record} (h : Chain A) : whole A = A.length := by
  have := h [] 0
  rw [List.append_nil] at this
  rw [whole, this]
  simp [wholeFrom]

theorem whole_data {A ds : List Record} (h : Chain A) (hz : ∀ x ∈ ds, x.count = 0) : whole (A ++ ds) = A.length := by
  rw [whole, h]
  have := from_data ds [] (0 + A.length) (0 + A.length) 0 hz
  rw [List.append_nil] at this
  rw [this]
  simp [wholeFrom]

theorem whole_bad {A ds r : List Record} {c : Record} (h : Chain A) (hz : ∀ x ∈ ds, x.count = 0) (h0 : c.count ≠ 0) (hc : c.count ≠ (ds.length : Int)) : whole (A ++ (ds ++ c :: r)) = A.length := by
  rw [whole, h, from_data _ _ _ _ _ hz, wholeFrom, if_neg h0, if_pos (by simpa using hc)]
  simp

/-- One of the last transaction's records left out. -/
theorem whole_less {A t : List Record} (h : Chain A) (ht : Txn t) {j : Nat} (hj : j < t.length) : whole ((A ++ t).take (A.length + j) ++ (A ++ t).drop (A.length + j + 1)) = A.length := by
  obtain ⟨ds, c, rfl, hz, hc, h1⟩ := ht
  have e1 : (A ++ (ds ++ [c])).take (A.length + j) = A ++ (ds ++ [c]).take j := by
    rw [List.take_append, List.take_of_length_le (by omega)]
    congr 2; omega
  have e2 : (A ++ (ds ++ [c])).drop (A.length + j + 1) = (ds ++ [c]).drop (j + 1) := by
    rw [List.drop_append, List.drop_of_length_le (by omega), List.nil_append]
    congr 1; omega
  rw [e1, e2, List.append_assoc]
  by_cases hd : j < ds.length
  · have e3 : (ds ++ [c]).take j ++ (ds ++ [c]).drop (j + 1) = (ds.take j ++ ds.drop (j + 1)) ++ c :: [] := by
      rw [List.take_append_of_le_length (by omega), List.drop_append_of_le_length (by omega), List.append_assoc]
    rw [e3]
    refine whole_bad h (fun x hx => ?_) (by omega) ?_
    · rcases List.mem_append.1 hx with hx | hx
      · exact hz x (List.mem_of_mem_take hx)
      · exact hz x (List.mem_of_mem_drop hx)
    · rw [List.length_append, List.length_take, List.length_drop]; omega
  · have hj' : j = ds.length := by simp at hj; omega
    subst hj'
    rw [List.take_left', List.drop_of_length_le (by simp), List.append_nil]
    · exact whole_data h hz
    · rfl

theorem txn_all {g : Geo} {key lsn : Int} {l : List Block} (h : 1 ≤ l.length * g.per.toNat) : Txn (allRecs g key lsn l) := by
  refine ⟨_, _, rfl, fun x hx => ?_, ?_, ?_⟩
  · simp only [recs, List.mem_map, List.mem_range] at hx
    obtain ⟨j, _, rfl⟩ := hx
    rfl
  · rw [recs_len]; rfl
  · rw [recs_len]; exact h

structure WInv (n i : Nat) (B t : List Record) : Prop where
  le : i ≤ n
  chB : Chain B
  tx : (B = [] ∧ t = []) ∨ Txn t
  len : (B ++ t).length ≤ 65 * i

theorem WInv.ch {n i : Nat} {B t : List Record} (h : WInv n i B t) : Chain (B ++ t) := by
  rcases h.tx with ⟨rfl, rfl⟩ | ht
  · exact chain_nil
  · exact chain_app h.chB (chain_txn ht)

theorem take_last {l : List Record} (ht : Txn l) : ∀ x ∈ l.take (l.length - 1), x.count = 0 := by
  obtain ⟨ds, c, rfl, hz, hc, h1⟩ := ht
  intro x hx
  rw [List.length_append, List.length_singleton, Nat.add_sub_cancel, List.take_left'] at hx
  · exact hz x hx
  · rfl
end Go.Proofs.Ytlcpfhjbhogdiaa

/- The law RecordWhole from what comes in. -/
set_option linter.unusedVariables false
set_option linter.unusedSimpArgs false
set_option maxRecDepth 100000
namespace Go.Proofs.Ytlcpfhjbhogdiaa
open Go Go.Eng Go.RowKit

theorem recordWhole_law (w : World) {v0 v1 v2 : Value} (R0 : ∃ g : Geo, v0 = g.val ∧ g.Ok) (R1 : ∃ l : List (Sl Block), SlOf (vw w) Sl.enc 1 v1 l ∧ l.length ≤ maxLen ∧ ∀ a ∈ l, SlGood (vw w) Block.cells 2 (fun a => a.Ok) a)
    (R2 : ∃ n : Int, v2 = I n ∧ R64 n) : Calls Try.prog 3 #[v0, v1, v2] w fun e w' => e = .returned (.bool true) ∧ Below w.heap.size w w' := by
  obtain ⟨g, rfl, ok⟩ := R0
  obtain ⟨rows, hr, _, hrall⟩ := R1
  obtain ⟨cut, rfl, hcut⟩ := R2
  refine enter (E := E0) (O := []) (nl := 0) (V := vw w) [.a (.v g.val), .a (.v v1), .a (.v (I cut))] Try.func3 rfl rfl (mem0 E0 0 w) rfl rfl ?_
  refine c_seq ?_
  refine c_region ?_
  refine o_new tok rfl rfl rfl rfl ?_
  refine o_yield rfl rfl rfl (y_val tok rfl) ?_
  refine o_end [1, 2, 3] rfl ?_
  refine x_then ?_
  refine c_seq ?_
  refine c_seq ?_
  refine c_region ?_
  refine o_yield rfl rfl rfl (y_val tok rfl) ?_
  refine o_yield rfl rfl rfl (y_len tok rfl (fun hg => hr.sl)) ?_
  refine o_yield rfl rfl rfl (y_val tok rfl) ?_
  refine o_yield rfl rfl rfl (y_val tok rfl) ?_
  refine o_yield rfl rfl rfl (y_val tok rfl) ?_
  refine o_call (.a (.v _)) rfl rfl fnok15 rfl rfl rfl (fun hg E w1 hm => by exact refMay_c g ok _) ?_
  refine o_yield rfl rfl rfl (y_val tok rfl) ?_
  refine o_yield rfl rfl rfl (y_val tok rfl) ?_
  refine o_end [1, 2, 3, 21] rfl ?_
  refine x_then ?_
  refine c_cond rfl (fun h => ?_) (fun h => ?_)
  ·
    simp only [Bool.and_eq_true, Bool.or_eq_true, Bool.not_eq_true', Bool.or_eq_false_iff, Bool.and_eq_false_iff, decide_eq_true_eq, decide_eq_false_iff_not, beq_iff_eq, bne_iff_ne, Bool.not_eq_false', beq_eq_false_iff_ne, bne_eq_false_iff_eq, ne_eq, Decidable.not_not, Int.not_lt, Int.not_le] at h
    refine c_seq ?_
    refine c_region ?_
    refine o_call (.a (.v _)) rfl rfl fnok16 rfl rfl rfl (fun hg E w1 hm => by exact wakes16_c _) ?_
    refine o_yield rfl rfl rfl (y_val tok rfl) ?_
    refine o_end [6] rfl ?_
    refine x_then ?_
    refine c_ret ?_
    refine x_then_ret ?_
    refine b_ret tok rfl ?_
    intro E w' hm _
    refine ⟨?_, hm.below (Vw.le.refl _)⟩
    rfl
  ·
    simp only [Bool.and_eq_true, Bool.or_eq_true, Bool.not_eq_true', Bool.or_eq_false_iff, Bool.and_eq_false_iff, decide_eq_true_eq, decide_eq_false_iff_not, beq_iff_eq, bne_iff_ne, Bool.not_eq_false', beq_eq_false_iff_ne, bne_eq_false_iff_eq, ne_eq, Decidable.not_not, Int.not_lt, Int.not_le] at h
    refine c_skip ?_
    refine x_then ?_
    refine c_seq ?_
    refine c_region ?_
    refine o_yield rfl rfl rfl (y_val tok rfl) ?_
    refine o_end [1, 2, 3, 7] rfl ?_
    refine x_then ?_
    refine c_seq ?_
    refine c_region ?_
    refine o_yield rfl rfl rfl (y_val tok rfl) ?_
    refine o_end [1, 2, 3, 7, 8] rfl ?_
    refine x_then ?_
    refine c_seq ?_
    refine c_seq ?_
    refine c_region ?_
    refine o_yield rfl rfl rfl (y_val tok rfl) ?_
    refine o_end [1, 2, 3, 7, 8, 9] rfl ?_
    refine x_then ?_
    refine c_block ?_
    obtain ⟨hrl, hgeo⟩ := h
    have hgeo' := hgeo
    simp only [geoB, decide_eq_true_eq] at hgeo'
    obtain ⟨per, hper⟩ : ∃ per : Nat, g.per = per := ⟨g.per.toNat, by omega⟩
    have hpn : g.per.toNat = per := by omega
    refine k_nil 7 37 6 rfl rfl ?_
    refine c_loopK [1, 2, 3] [1] rfl rfl (σ := Nat × List Record × List Record) (fun (i, B, t) => [(7, .a (.row 1)), (8, .a (.v (I B.length))), (9, .a (.v (I i)))]) (fun (i, B, t) => [(1, .row 37 6 (B ++ t).length ((B ++ t).flatMap Record.cells))]) (fun (i, B, t) => WInv rows.length i B t) (fun (i, B, t) => rows.length - i) ((0, [], [])) (⟨by omega, chain_nil, .inl ⟨rfl, rfl⟩, by simp⟩) (by repeat (first | exact SubF.nil | refine SubF.cons rfl ?_)) (by repeat (first | exact SubO.nil | refine SubO.cons rfl ?_)) rfl ?_
    rintro ⟨i, B, t⟩ hI
    have hI1 := hI.le
    have hI2 := hI.len
    refine c_seq ?_
    refine c_seq ?_
    refine c_region ?_
    refine o_yield rfl rfl rfl (y_val tok rfl) ?_
    refine o_yield rfl rfl rfl (y_val tok rfl) ?_
    refine o_yield rfl rfl rfl (y_len tok rfl (fun hg => hr.sl)) ?_
    refine o_yield rfl rfl rfl (y_val tok rfl) ?_
    refine o_end [1, 2, 3, 7, 8, 9, 26] rfl ?_
    refine x_then ?_
    refine c_cond rfl (fun h => ?_) (fun h => ?_)
    ·
      simp only [Bool.and_eq_true, Bool.or_eq_true, Bool.not_eq_true', Bool.or_eq_false_iff, Bool.and_eq_false_iff, decide_eq_true_eq, decide_eq_false_iff_not, beq_iff_eq, bne_iff_ne, Bool.not_eq_false', beq_eq_false_iff_ne, bne_eq_false_iff_eq, ne_eq, Decidable.not_not, Int.not_lt, Int.not_le] at h
      refine c_skip ?_
      refine x_then ?_
      refine c_seq ?_
      refine c_block ?_
      refine c_seq ?_
      refine c_seq ?_
      refine c_region ?_
      refine o_yield rfl rfl rfl (y_val tok rfl) ?_
      refine o_yield rfl rfl rfl (y_val tok rfl) ?_
      obtain ⟨r, h_r⟩ := hr.at (k := i) (by omega)
      have hlt_r := lt_of_at h_r
      refine o_yield rfl rfl rfl (y_idx tok rfl (fun hg => hr.sl) (fun hg => ⟨by omega, by omega⟩)) ?_
      refine o_yield rfl rfl rfl (y_lel tok (i) 0 (r) rfl (fun hg => hr) (fun hg => h_r) rfl rfl) ?_
      have hgd := hrall r (List.mem_of_getElem? h_r)
      refine o_call (.a (.v _)) rfl rfl fnok17 rfl rfl rfl (fun hg E w1 hm => by exact great_c (vw w) _ r.l _ hm.leV hgd.sl hgd.max) ?_
      refine o_yield rfl rfl rfl (y_val tok rfl) ?_
      refine o_yield rfl rfl rfl (y_val tok rfl) ?_
      refine o_yield rfl rfl rfl (y_val tok rfl) ?_
      have hlt_r := lt_of_at h_r
      refine o_yield rfl rfl rfl (y_idx tok rfl (fun hg => hr.sl) (fun hg => ⟨by omega, by omega⟩)) ?_
      refine o_yield rfl rfl rfl (y_lel tok (i) 0 (r) rfl (fun hg => hr) (fun hg => h_r) rfl rfl) ?_
      refine o_yield rfl rfl rfl (y_len tok rfl (fun hg => hgd.sl.sl)) ?_
      refine o_yield rfl rfl rfl (y_val tok rfl) ?_
      refine o_yield rfl rfl rfl (y_val tok rfl) ?_
      refine o_end [1, 2, 3, 7, 9, 41] rfl ?_
      refine x_then ?_
      refine c_cond rfl (fun h => ?_) (fun h => ?_)
      ·
        simp only [Bool.and_eq_true, Bool.or_eq_true, Bool.not_eq_true', Bool.or_eq_false_iff, Bool.and_eq_false_iff, decide_eq_true_eq, decide_eq_false_iff_not, beq_iff_eq, bne_iff_ne, Bool.not_eq_false', beq_eq_false_iff_ne, bne_eq_false_iff_eq, ne_eq, Decidable.not_not, Int.not_lt, Int.not_le] at h
        refine c_seq ?_
        refine c_region ?_
        refine o_call (.a (.v _)) rfl rfl fnok16 rfl rfl rfl (fun hg E w1 hm => by exact wakes16_c _) ?_
        refine o_yield rfl rfl rfl (y_val tok rfl) ?_
        refine o_end [6] rfl ?_
        refine x_then ?_
        refine c_ret ?_
        refine x_then_ret ?_
        refine x_block_ret ?_
        refine x_then_ret ?_
        refine x_then_ret ?_
        refine x_block_ret ?_
        refine x_then_ret ?_
        refine b_ret tok rfl ?_
        intro E w' hm _
        refine ⟨?_, hm.below (Vw.le.refl _)⟩
        rfl
      ·
        simp only [Bool.and_eq_true, Bool.or_eq_true, Bool.not_eq_true', Bool.or_eq_false_iff, Bool.and_eq_false_iff, decide_eq_true_eq, decide_eq_false_iff_not, beq_iff_eq, bne_iff_ne, Bool.not_eq_false', beq_eq_false_iff_ne, bne_eq_false_iff_eq, ne_eq, Decidable.not_not, Int.not_lt, Int.not_le] at h
        refine c_skip ?_
        refine x_then ?_
        refine c_seq ?_
        refine c_heldR mixed rfl (by repeat (first | exact SubO.nil | refine SubO.cons rfl ?_)) rfl ?_
        refine t_take 0 rfl (by kernel_rfl) rfl rfl rfl (y_val tok rfl) rfl ?_
        refine t_take 1 rfl (by kernel_rfl) rfl rfl rfl (y_val tok rfl) rfl ?_
        obtain ⟨hgr, hl8⟩ := h
        have hlim : r.l.length ≤ lim := by unfold lim; omega
        refine t_take 2 rfl (by kernel_rfl) rfl rfl rfl (y_val tok rfl) rfl ?_
        refine t_take 3 rfl (by kernel_rfl) rfl rfl rfl (y_val tok rfl) rfl ?_
        refine t_take 4 rfl (by kernel_rfl) rfl rfl rfl (y_val tok rfl) rfl ?_
        have hlt_r := lt_of_at h_r
        refine t_take 5 rfl (by kernel_rfl) rfl rfl rfl (y_idx tok rfl (fun hg => hr.sl) (fun hg => ⟨by omega, by omega⟩)) rfl ?_
        refine t_take 6 rfl (by kernel_rfl) rfl rfl rfl (y_lel tok (i) 0 (r) rfl (fun hg => hr) (fun hg => h_r) rfl rfl) rfl ?_
        refine t_go ?_
        refine h_one 7 (by kernel_rfl) ?_
        refine h_callV 7 (OfVal g 16 (B ++ t).length r.l) rfl rfl rfl fnok18 rfl rfl (fun hg E w1 hm => by exact of_cV (vw w) g ok 16 (B ++ t).length _ r.l _ hm.leV hgd.sl hlim) ?_
        rintro x V1 hle1 hx
        rcases hx rfl with ⟨hok, v, rfl, hsl⟩ | ⟨hno, rfl⟩
        rotate_left
        ·
          refine h_one 8 (by kernel_rfl) ?_
          refine h_yield 8 rfl rfl rfl rfl (y_val tok rfl) ?_
          refine h_take 9 rfl (by kernel_rfl) rfl rfl rfl rfl (y_val tok rfl) rfl ?_
          refine h_take 10 rfl (by kernel_rfl) rfl rfl rfl rfl (y_val tok rfl) rfl ?_
          refine h_one 11 (by kernel_rfl) ?_
          refine h_yield 11 rfl rfl rfl rfl (y_val tok rfl) ?_
          refine h_one 12 (by kernel_rfl) ?_
          refine h_yield 12 rfl rfl rfl rfl (y_val tok rfl) ?_
          refine h_done [1, 2, 3, 7, 9, 10, 11] (by kernel_rfl) rfl ?_
          refine x_then ?_
          refine c_seq ?_
          refine c_seq ?_
          refine c_region ?_
          refine o_yield rfl rfl rfl (y_val tok rfl) ?_
          refine o_yield rfl rfl rfl (y_val tok rfl) ?_
          refine o_end [1, 2, 3, 7, 9, 10, 55] rfl ?_
          refine x_then ?_
          refine c_cond rfl (fun h => ?_) (fun h => ?_)
          ·
            refine c_seq ?_
            refine c_region ?_
            refine o_yield rfl rfl rfl (y_val tok rfl) ?_
            refine o_yield rfl rfl rfl (y_len tok rfl (fun hg => (⟨rfl, .inl ⟨none, 0, rfl, rfl⟩⟩ : IsSl V1 (.slice none 0 0) 6 0 []))) ?_
            refine o_yield rfl rfl rfl (y_val tok rfl) ?_
            refine o_yield rfl rfl rfl (y_val tok rfl) ?_
            refine o_call (.a (.v _)) rfl rfl fnok16 rfl rfl rfl (fun hg E w1 hm => by exact wakes16_c _) ?_
            refine o_yield rfl rfl rfl (y_val tok rfl) ?_
            refine o_yield rfl rfl rfl (y_val tok rfl) ?_
            refine o_end [6] rfl ?_
            refine x_then ?_
            refine c_ret ?_
            refine x_then_ret ?_
            refine x_block_ret ?_
            refine x_then_ret ?_
            refine x_then_ret ?_
            refine x_block_ret ?_
            refine x_then_ret ?_
            refine b_ret tok rfl ?_
            intro E w' hm _
            exact ⟨rfl, hm.below hle1⟩
          ·
            refine c_skip ?_
            refine x_then ?_
            refine c_seq ?_
            refine c_seq ?_
            refine c_draw mixed (by kernel_rfl) ?_
            refine d_yield rfl rfl rfl (y_val tok rfl) rfl ?_
            exact absurd h (by decide)
        refine h_one 8 (by kernel_rfl) ?_
        refine h_yield 8 rfl rfl rfl rfl (y_val tok rfl) ?_
        refine h_take 9 rfl (by kernel_rfl) rfl rfl rfl rfl (y_val tok rfl) rfl ?_
        refine h_take 10 rfl (by kernel_rfl) rfl rfl rfl rfl (y_val tok rfl) rfl ?_
        refine h_one 11 (by kernel_rfl) ?_
        refine h_yield 11 rfl rfl rfl rfl (y_val tok rfl) ?_
        refine h_one 12 (by kernel_rfl) ?_
        refine h_yield 12 rfl rfl rfl rfl (y_val tok rfl) ?_
        refine h_done [1, 2, 3, 7, 9, 10, 11] (by kernel_rfl) rfl ?_
        refine x_then ?_
        refine c_seq ?_
        refine c_seq ?_
        refine c_region ?_
        refine o_yield rfl rfl rfl (y_val tok rfl) ?_
        refine o_yield rfl rfl rfl (y_val tok rfl) ?_
        refine o_end [1, 2, 3, 7, 9, 10, 55] rfl ?_
        refine x_then ?_
        refine c_cond rfl (fun h => ?_) (fun h => ?_)
        ·
          refine c_seq ?_
          refine c_region ?_
          refine o_yield rfl rfl rfl (y_val tok rfl) ?_
          exact absurd h (by decide)
        ·
          refine c_skip ?_
          refine x_then ?_
          refine c_seq ?_
          refine c_seq ?_
          refine c_draw mixed (by kernel_rfl) ?_
          refine d_yield rfl rfl rfl (y_val tok rfl) rfl ?_
          clear h
          have hal := all_len g 16 (B ++ t).length r.l
          rw [hpn] at hal
          have hlp := hok.some_
          have hl0 : 0 < r.l.length := List.length_pos_iff.2 hlp
          have hm1 : 1 ≤ r.l.length * per := Nat.mul_pos hl0 (by omega)
          have hm64 : r.l.length * per ≤ 64 := by
            have h1 : r.l.length * per ≤ 8 * per := Nat.mul_le_mul_right _ (by omega)
            omega
          have htx : Txn (allRecs g 16 (B ++ t).length r.l) := txn_all (by rw [hpn]; exact hm1)
          have hch := chain_txn htx
          clear hx
          generalize allRecs g 16 (B ++ t).length r.l = L at hsl hal htx hch
          refine d_yield rfl rfl rfl (y_len tok rfl (fun hg => hsl.sl)) rfl ?_
          refine d_yield rfl rfl rfl (y_val tok rfl) rfl ?_
          refine d_yield rfl rfl rfl (y_val tok rfl) rfl ?_
          refine d_yield rfl rfl rfl (y_val tok rfl) rfl ?_
          refine d_yield rfl rfl rfl (y_len tok rfl (fun hg => hsl.sl)) rfl ?_
          refine d_yield rfl rfl rfl (y_val tok rfl) rfl ?_
          refine d_yield rfl rfl rfl (y_val tok rfl) rfl ?_
          refine d_yield rfl rfl rfl (y_val tok rfl) rfl ?_
          have hr1 := hr.mono hle1
          have hgd1 := hgd.sl.mono hle1
          have hlt_r := lt_of_at h_r
          refine d_yield rfl rfl rfl (y_idx tok rfl (fun hg => hr1.sl) (fun hg => ⟨by omega, by omega⟩)) rfl ?_
          refine d_yield rfl rfl rfl (y_lel tok (i) 0 (r) rfl (fun hg => hr1) (fun hg => h_r) rfl rfl) rfl ?_
          refine d_yield rfl rfl rfl (y_len tok rfl (fun hg => hgd1.sl)) rfl ?_
          refine d_call (.a (.v _)) rfl rfl fnok19 rfl rfl rfl (fun hg E w1 hm => by exact many_c g ok _ _) ?_
          refine d_yield rfl rfl rfl (y_val tok rfl) rfl ?_
          refine d_yield rfl rfl rfl (y_val tok rfl) rfl ?_
          refine d_yield rfl rfl rfl (y_val tok rfl) rfl ?_
          refine d_yield rfl rfl rfl (y_val tok rfl) rfl ?_
          refine d_call (.a (.v _)) rfl rfl fnok20 rfl rfl rfl (fun hg E w1 hm => by exact whole_c V1 _ L _ hm.leV hsl (by rw [hal]; unfold lim; omega)) ?_
          refine d_yield rfl rfl rfl (y_val tok rfl) rfl ?_
          refine d_yield rfl rfl rfl (y_len tok rfl (fun hg => hsl.sl)) rfl ?_
          refine d_yield rfl rfl rfl (y_val tok rfl) rfl ?_
          refine d_yield rfl rfl rfl (y_val tok rfl) rfl ?_
          refine d_end [1, 2, 3, 7, 9, 10, 83] rfl ?_
          refine x_then ?_
          refine c_cond rfl (fun h => ?_) (fun h => ?_)
          ·
            simp only [Bool.and_eq_true, Bool.or_eq_true, Bool.not_eq_true', Bool.or_eq_false_iff, Bool.and_eq_false_iff, decide_eq_true_eq, decide_eq_false_iff_not, beq_iff_eq, bne_iff_ne, Bool.not_eq_false', beq_eq_false_iff_ne, bne_eq_false_iff_eq, ne_eq, Decidable.not_not, Int.not_lt, Int.not_le] at h
            refine c_seq ?_
            refine c_region ?_
            refine o_yield rfl rfl rfl (y_val tok rfl) ?_
            refine o_end [6] rfl ?_
            refine x_then ?_
            refine c_ret ?_
            refine x_then_ret ?_
            refine x_block_ret ?_
            refine x_then_ret ?_
            refine x_then_ret ?_
            refine x_block_ret ?_
            refine x_then_ret ?_
            refine b_ret tok rfl ?_
            exfalso
            have hmany : manyOf g r.l.length = ((r.l.length * per + 1 : Nat) : Int) := by
              unfold manyOf
              rw [if_pos ⟨hgeo, by omega⟩, hper, show min (r.l.length : Int) 1099511627776 = r.l.length by omega, Int.mul_comm]
              simp
            rw [hmany, whole_chain hch, hal] at h
            simp at h
            omega
          ·
            simp only [Bool.and_eq_true, Bool.or_eq_true, Bool.not_eq_true', Bool.or_eq_false_iff, Bool.and_eq_false_iff, decide_eq_true_eq, decide_eq_false_iff_not, beq_iff_eq, bne_iff_ne, Bool.not_eq_false', beq_eq_false_iff_ne, bne_eq_false_iff_eq, ne_eq, Decidable.not_not, Int.not_lt, Int.not_le] at h
            refine c_skip ?_
            refine x_then ?_
            refine c_seq ?_
            refine c_region ?_
            refine o_yield rfl rfl rfl (y_val tok rfl) ?_
            clear h
            refine o_yield rfl rfl rfl (y_val tok rfl) ?_
            refine o_yield rfl rfl rfl (y_val tok rfl) ?_
            refine o_end [1, 2, 3, 7, 8, 9, 10] rfl ?_
            refine x_then ?_
            refine c_seq ?_
            refine c_region ?_
            refine o_yield rfl rfl rfl (y_val tok rfl) ?_
            refine o_yield rfl rfl rfl (y_val tok rfl) ?_
            refine o_step rfl rfl rfl rfl rfl (s_app tok (L.flatMap Record.cells) rfl (fun E w hm => hsl.sl.src hm.get) (fun _ _ _ => rec_ones _) (by dsimp only; rw [hal]; omega)) (fun _ _ => ?_)
            refine o_yield rfl rfl rfl (y_val tok rfl) ?_
            refine o_end [1, 2, 3, 7, 8, 9, 10] rfl ?_
            refine x_then ?_
            refine c_seq ?_
            refine c_heldR mixed rfl (by repeat (first | exact SubO.nil | refine SubO.cons rfl ?_)) rfl ?_
            refine t_take 0 rfl (by kernel_rfl) rfl rfl rfl (y_val tok rfl) rfl ?_
            refine t_take 2 rfl (by kernel_rfl) rfl rfl rfl (y_val tok rfl) rfl ?_
            rw [← List.flatMap_append, ← List.length_append]
            have hI' := hI
            simp only at hI'
            have hchA : Chain (B ++ t ++ L) := chain_app hI'.ch hch
            have hlA : (B ++ t ++ L).length ≤ 65 * (i + 1) := by rw [List.length_append, hal]; omega
            refine t_take 3 rfl (by kernel_rfl) rfl rfl rfl (y_val tok rfl) rfl ?_
            refine t_go ?_
            refine h_one 1 (by kernel_rfl) ?_
            refine h_call 1 (.a (.v _)) rfl rfl rfl fnok20 rfl rfl rfl (fun hg E w1 hm => by exact whole_c _ _ (B ++ t ++ L) _ (Vw.le.refl _) (hm.rowOf 2 rfl (fun _ => rfl)) (by unfold lim; omega)) ?_
            refine h_one 4 (by kernel_rfl) ?_
            refine h_yield 4 rfl rfl rfl rfl (y_val tok rfl) ?_
            refine h_one 5 (by kernel_rfl) ?_
            refine h_yield 5 rfl rfl rfl rfl (y_val tok rfl) ?_
            refine h_take 7 rfl (by kernel_rfl) rfl rfl rfl rfl (y_val tok rfl) rfl ?_
            refine h_take 9 rfl (by kernel_rfl) rfl rfl rfl rfl (y_val tok rfl) rfl ?_
            refine h_take 10 rfl (by kernel_rfl) rfl rfl rfl rfl (y_val tok rfl) rfl ?_
            rw [whole_chain hchA, show (((B ++ t ++ L).length : Int) != ((B ++ t ++ L).length : Int)) = false by simp]
            refine h_take 11 rfl (by kernel_rfl) rfl rfl rfl rfl (y_len tok rfl (fun hg => hsl.sl)) rfl ?_
            refine h_take 12 rfl (by kernel_rfl) rfl rfl rfl rfl (y_val tok rfl) rfl ?_
            rw [wrapI (n := (L.length : Int) - 1) (by omega) (by omega)]
            refine h_take 13 rfl (by kernel_rfl) rfl rfl rfl rfl (y_sl tok rfl (fun hg => hsl.sl) (fun hg => by dsimp only [Option.getD]; omega)) rfl ?_
            refine h_take 16 rfl (by kernel_rfl) rfl rfl rfl rfl (y_val tok rfl) rfl ?_
            rw [show ((some ((L.length : Int) - 1)).getD (L.length : Int)).toNat = L.length - 1 by simp only [Option.getD]; omega]
            have hsc : SlOf V1 Record.cells 6 (sliceV v 0 (L.length - 1) 6) (L.take (L.length - 1)) := by
              have := hsl.cut (lo := 0) (hi := L.length - 1) (by omega) (by omega)
              simpa using this
            have hlt : (L.take (L.length - 1)).length = L.length - 1 := by simp
            refine h_take 17 rfl (by kernel_rfl) rfl rfl rfl rfl (y_val tok rfl) rfl ?_
            refine h_one 6 (by kernel_rfl) ?_
            refine h_to 6 rfl rfl rfl rfl rfl rfl (s_bs tok 6 rfl rfl rfl) (.inr fun _ _ => ⟨(by repeat (first | exact SubO.nil | refine SubO.cons rfl ?_)), rfl, Vw.le.refl _⟩) (fun _ _ => ?_)
            refine h_one 8 (by kernel_rfl) ?_
            refine h_to 8 rfl rfl rfl rfl rfl rfl (s_app tok ((B ++ t ++ L).flatMap Record.cells) rfl (fun E w hm => ownsRow_src (hm.row 2 _ _ _ _ rfl)) (fun _ _ _ => rec_ones _) (by dsimp only; omega)) (.inr fun _ _ => ⟨(by repeat (first | exact SubO.nil | refine SubO.cons rfl ?_)), rfl, Vw.le.refl _⟩) (fun _ _ => ?_)
            refine h_one 14 (by kernel_rfl) ?_
            rw [List.nil_append, Nat.zero_add (B ++ t ++ L).length]
            refine h_to 14 rfl rfl rfl rfl rfl rfl (s_app tok ((L.take (L.length - 1)).flatMap Record.cells) rfl (fun E w hm => hsc.sl.src hm.get) (fun _ _ _ => rec_ones _) (by dsimp only; omega)) (.inr fun _ _ => ⟨(by repeat (first | exact SubO.nil | refine SubO.cons rfl ?_)), rfl, Vw.le.refl _⟩) (fun _ _ => ?_)
            refine h_one 15 (by kernel_rfl) ?_
            rw [← List.flatMap_append, ← List.length_append]
            refine h_call 15 (.a (.v _)) rfl rfl rfl fnok20 rfl rfl rfl (fun hg E w1 hm => by exact whole_c _ _ (B ++ t ++ L ++ L.take (L.length - 1)) _ (Vw.le.refl _) (hm.rowOf 5 rfl (fun _ => rfl)) (by rw [List.length_append]; unfold lim; omega)) ?_
            refine h_one 18 (by kernel_rfl) ?_
            refine h_yield 18 rfl rfl rfl rfl (y_val tok rfl) ?_
            refine h_one 19 (by kernel_rfl) ?_
            refine h_yield 19 rfl rfl rfl rfl (y_val tok rfl) ?_
            refine h_done [1, 2, 3, 7, 8, 9, 108] (by kernel_rfl) rfl ?_
            refine x_then ?_
            refine c_cond rfl (fun h => ?_) (fun h => ?_)
            ·
              simp only [Bool.and_eq_true, Bool.or_eq_true, Bool.not_eq_true', Bool.or_eq_false_iff, Bool.and_eq_false_iff, decide_eq_true_eq, decide_eq_false_iff_not, beq_iff_eq, bne_iff_ne, Bool.not_eq_false', beq_eq_false_iff_ne, bne_eq_false_iff_eq, ne_eq, Decidable.not_not, Int.not_lt, Int.not_le] at h
              refine c_seq ?_
              refine c_region ?_
              refine o_yield rfl rfl rfl (y_val tok rfl) ?_
              refine o_end [6] rfl ?_
              refine x_then ?_
              refine c_ret ?_
              refine x_block_ret ?_
              refine x_then_ret ?_
              refine x_then_ret ?_
              refine x_block_ret ?_
              refine x_then_ret ?_
              refine b_ret tok rfl ?_
              rw [whole_data hchA (take_last htx)] at h
              simp at h
            ·
              simp only [Bool.and_eq_true, Bool.or_eq_true, Bool.not_eq_true', Bool.or_eq_false_iff, Bool.and_eq_false_iff, decide_eq_true_eq, decide_eq_false_iff_not, beq_iff_eq, bne_iff_ne, Bool.not_eq_false', beq_eq_false_iff_ne, bne_eq_false_iff_eq, ne_eq, Decidable.not_not, Int.not_lt, Int.not_le] at h
              refine c_skip ?_
              refine x_block ?_
              refine x_then ?_
              refine c_region ?_
              refine o_yield rfl rfl rfl (y_val tok rfl) ?_
              refine o_yield rfl rfl rfl (y_val tok rfl) ?_
              refine o_yield rfl rfl rfl (y_val tok rfl) ?_
              refine o_end [1, 2, 3, 7, 8, 9] rfl ?_
              refine x_then ?_
              clear h
              rw [wrapI (n := (i : Int) + 1) (by omega) (by omega)]
              refine k_swap 1 2 rfl ?_
              refine x_round ((i + 1, B ++ t, L)) (⟨by omega, hI'.ch, .inr htx, hlA⟩) (by first | omega | (dsimp only; omega)) (by repeat (first | exact SubF.nil | refine SubF.cons rfl ?_)) (by repeat (first | exact SubO.nil | refine SubO.cons rfl ?_)) rfl (hle1)
    ·
      simp only [Bool.and_eq_true, Bool.or_eq_true, Bool.not_eq_true', Bool.or_eq_false_iff, Bool.and_eq_false_iff, decide_eq_true_eq, decide_eq_false_iff_not, beq_iff_eq, bne_iff_ne, Bool.not_eq_false', beq_eq_false_iff_ne, bne_eq_false_iff_eq, ne_eq, Decidable.not_not, Int.not_lt, Int.not_le] at h
      refine c_exit ?_
      refine x_then_exit ?_
      refine x_then_exit ?_
      refine x_block_hit ?_
      refine x_then ?_
      refine c_seq ?_
      refine c_seq ?_
      refine c_region ?_
      refine o_yield rfl rfl rfl (y_val tok rfl) ?_
      have hI' := hI
      simp only at hI'
      refine o_yield rfl rfl rfl (y_val tok rfl) ?_
      refine o_yield rfl rfl rfl (y_val tok rfl) ?_
      refine o_end [2, 7, 8, 111] rfl ?_
      refine x_then ?_
      refine c_cond rfl (fun h => ?_) (fun h => ?_)
      ·
        simp only [Bool.and_eq_true, Bool.or_eq_true, Bool.not_eq_true', Bool.or_eq_false_iff, Bool.and_eq_false_iff, decide_eq_true_eq, decide_eq_false_iff_not, beq_iff_eq, bne_iff_ne, Bool.not_eq_false', beq_eq_false_iff_ne, bne_eq_false_iff_eq, ne_eq, Decidable.not_not, Int.not_lt, Int.not_le] at h
        refine c_seq ?_
        refine c_region ?_
        have hnil : B ++ t = [] := List.eq_nil_of_length_eq_zero (by omega)
        refine o_call (.a (.v _)) rfl rfl fnok20 rfl rfl rfl (fun hg E w1 hm => by exact whole_c (vw w) _ [] _ hm.leV (slNil _ _ _ _ fun _ => rfl) (by simp)) ?_
        refine o_yield rfl rfl rfl (y_val tok rfl) ?_
        refine o_yield rfl rfl rfl (y_val tok rfl) ?_
        refine o_call (.a (.v _)) rfl rfl fnok16 rfl rfl rfl (fun hg E w1 hm => by exact wakes16_c _) ?_
        refine o_yield rfl rfl rfl (y_val tok rfl) ?_
        refine o_yield rfl rfl rfl (y_val tok rfl) ?_
        refine o_end [6] rfl ?_
        refine x_then ?_
        refine c_ret ?_
        refine x_then_ret ?_
        refine b_ret tok rfl ?_
        intro E w' hm _
        refine ⟨?_, hm.below (Vw.le.refl _)⟩
        rfl
      ·
        simp only [Bool.and_eq_true, Bool.or_eq_true, Bool.not_eq_true', Bool.or_eq_false_iff, Bool.and_eq_false_iff, decide_eq_true_eq, decide_eq_false_iff_not, beq_iff_eq, bne_iff_ne, Bool.not_eq_false', beq_eq_false_iff_ne, bne_eq_false_iff_eq, ne_eq, Decidable.not_not, Int.not_lt, Int.not_le] at h
        refine c_skip ?_
        refine x_then ?_
        refine c_seq ?_
        refine c_region ?_
        refine o_yield rfl rfl rfl (y_val tok rfl) ?_
        have htx : Txn t := by
          rcases hI'.tx with ⟨rfl, rfl⟩ | ht
          · simp at h
          · exact ht
        refine k_freeze 1 rfl (fun v V2 hle2 hsl2 hfr => ?_)
        have hs2 : SlOf V2 Record.cells 6 v (B ++ t) := ⟨hsl2, fun _ => rfl⟩
        have hlen : (B ++ t).length = B.length + t.length := List.length_append
        have ht1 : 1 ≤ t.length := by
          obtain ⟨ds, c, rfl, _⟩ := htx
          simp
        refine o_yield rfl rfl rfl (y_len tok rfl (fun hg => hs2.sl)) ?_
        refine o_yield rfl rfl rfl (y_val tok rfl) ?_
        refine o_yield rfl rfl rfl (y_val tok rfl) ?_
        refine o_yield rfl rfl rfl (y_val tok rfl) ?_
        refine o_end [2, 7, 8, 12] rfl ?_
        refine x_then ?_
        refine c_seq ?_
        refine c_region ?_
        refine o_yield rfl rfl rfl (y_val tok rfl) ?_
        refine o_yield rfl rfl rfl (y_val tok rfl) ?_
        refine o_yield rfl rfl rfl (y_val tok rfl) ?_
        rw [show IntKind.i64.wrap (((B ++ t).length : Int) - (B.length : Int)) = (t.length : Int) by rw [wrapI (by omega) (by omega)]; omega]
        refine o_yield rfl rfl rfl (y_rem rfl (fun hg => by omega)) ?_
        refine o_yield rfl rfl rfl (y_val tok rfl) ?_
        refine o_yield rfl rfl rfl (y_val tok rfl) ?_
        refine o_yield rfl rfl rfl (y_val tok rfl) ?_
        have hb1 : -(t.length : Int) < cut.tmod t.length ∧ cut.tmod t.length < t.length := by
          have := Int.tmod_lt_of_pos cut (show (0 : Int) < t.length by omega)
          have := Int.lt_tmod_of_pos cut (show (0 : Int) < t.length by omega)
          omega
        rw [wrapI (n := cut.tmod t.length + t.length) (by omega) (by omega)]
        refine o_yield rfl rfl rfl (y_rem rfl (fun hg => by omega)) ?_
        refine o_yield rfl rfl rfl (y_val tok rfl) ?_
        refine o_yield rfl rfl rfl (y_val tok rfl) ?_
        refine o_end [7, 8, 13] rfl ?_
        refine x_then ?_
        refine c_seq ?_
        refine c_heldR mixed rfl (by repeat (first | exact SubO.nil | refine SubO.cons rfl ?_)) rfl ?_
        refine t_take 1 rfl (by kernel_rfl) rfl rfl rfl (y_val tok rfl) rfl ?_
        refine t_take 2 rfl (by kernel_rfl) rfl rfl rfl (y_val tok rfl) rfl ?_
        obtain ⟨j, hj, hjl⟩ : ∃ j : Nat, (cut.tmod t.length + t.length).tmod t.length = (j : Int) ∧ j < t.length := by
          have h1 := Int.tmod_nonneg (t.length : Int) (show 0 ≤ cut.tmod t.length + t.length by omega)
          have h2 := Int.tmod_lt_of_pos (cut.tmod t.length + t.length) (show (0 : Int) < t.length by omega)
          exact ⟨((cut.tmod t.length + t.length).tmod t.length).toNat, by omega, by omega⟩
        rw [hj, wrapI (n := (B.length : Int) + j) (by omega) (by omega)]
        rw [show (B.length : Int) + (j : Int) = ((B.length + j : Nat) : Int) by omega]
        have hc1 : SlOf V2 Record.cells 6 (sliceV v 0 (B.length + j) 6) ((B ++ t).take (B.length + j)) := by
          have := hs2.cut (lo := 0) (hi := B.length + j) (by omega) (by omega)
          simpa using this
        have hc2 : SlOf V2 Record.cells 6 (sliceV v (B.length + j + 1) (B ++ t).length 6) ((B ++ t).drop (B.length + j + 1)) := by
          have := hs2.cut (lo := B.length + j + 1) (hi := (B ++ t).length) (by omega) (by omega)
          rw [List.take_of_length_le (by simp)] at this
          exact this
        have hL1 : ((B ++ t).take (B.length + j)).length = B.length + j := by rw [List.length_take]; omega
        have hL2 : ((B ++ t).drop (B.length + j + 1)).length ≤ 400 := by rw [List.length_drop]; omega
        refine t_take 3 rfl (by kernel_rfl) rfl rfl rfl (y_sl tok rfl (fun hg => hs2.sl) (fun hg => by dsimp only [Option.getD]; omega)) rfl ?_
        refine t_take 5 rfl (by kernel_rfl) rfl rfl rfl (y_val tok rfl) rfl ?_
        refine t_take 6 rfl (by kernel_rfl) rfl rfl rfl (y_val tok rfl) rfl ?_
        refine t_take 7 rfl (by kernel_rfl) rfl rfl rfl (y_val tok rfl) rfl ?_
        rw [show IntKind.i64.wrap (((B.length + j : Nat) : Int) + 1) = ((B.length + j + 1 : Nat) : Int) by rw [wrapI (by omega) (by omega)]; omega]
        refine t_take 8 rfl (by kernel_rfl) rfl rfl rfl (y_sl tok rfl (fun hg => hs2.sl) (fun hg => by dsimp only [Option.getD]; omega)) rfl ?_
        refine t_take 11 rfl (by kernel_rfl) rfl rfl rfl (y_val tok rfl) rfl ?_
        refine t_go ?_
        refine h_one 0 (by kernel_rfl) ?_
        refine h_to 0 rfl rfl rfl rfl rfl rfl (s_bs tok 6 rfl rfl rfl) (.inr fun _ _ => ⟨(by repeat (first | exact SubO.nil | refine SubO.cons rfl ?_)), rfl, Vw.le.refl _⟩) (fun _ _ => ?_)
        refine h_one 4 (by kernel_rfl) ?_
        refine h_to 4 rfl rfl rfl rfl rfl rfl (s_app tok (((B ++ t).take (B.length + j)).flatMap Record.cells) rfl (fun E w hm => hc1.sl.src hm.get) (fun _ _ _ => rec_ones _) (by dsimp only; omega)) (.inr fun _ _ => ⟨(by repeat (first | exact SubO.nil | refine SubO.cons rfl ?_)), rfl, Vw.le.refl _⟩) (fun _ _ => ?_)
        refine h_one 9 (by kernel_rfl) ?_
        rw [List.nil_append, Nat.zero_add ((B ++ t).take (B.length + j)).length]
        refine h_to 9 rfl rfl rfl rfl rfl rfl (s_app tok (((B ++ t).drop (B.length + j + 1)).flatMap Record.cells) rfl (fun E w hm => hc2.sl.src hm.get) (fun _ _ _ => rec_ones _) (by dsimp only; omega)) (.inr fun _ _ => ⟨(by repeat (first | exact SubO.nil | refine SubO.cons rfl ?_)), rfl, Vw.le.refl _⟩) (fun _ _ => ?_)
        refine h_one 10 (by kernel_rfl) ?_
        rw [← List.flatMap_append, ← List.length_append]
        refine h_call 10 (.a (.v _)) rfl rfl rfl fnok20 rfl rfl rfl (fun hg E w1 hm => by exact whole_c _ _ ((B ++ t).take (B.length + j) ++ (B ++ t).drop (B.length + j + 1)) _ (Vw.le.refl _) (hm.rowOf 4 rfl (fun _ => rfl)) (by rw [List.length_append]; unfold lim; omega)) ?_
        refine h_one 12 (by kernel_rfl) ?_
        refine h_yield 12 rfl rfl rfl rfl (y_val tok rfl) ?_
        refine h_one 13 (by kernel_rfl) ?_
        refine h_yield 13 rfl rfl rfl rfl (y_val tok rfl) ?_
        refine h_one 14 (by kernel_rfl) ?_
        rw [whole_less hI'.chB htx hjl]
        refine h_call 14 (.a (.v _)) rfl rfl rfl fnok16 rfl rfl rfl (fun hg E w1 hm => by exact wakes16_c _) ?_
        refine h_one 15 (by kernel_rfl) ?_
        refine h_yield 15 rfl rfl rfl rfl (y_val tok rfl) ?_
        refine h_one 16 (by kernel_rfl) ?_
        refine h_yield 16 rfl rfl rfl rfl (y_val tok rfl) ?_
        refine h_done [6] (by kernel_rfl) rfl ?_
        refine x_then ?_
        refine c_ret ?_
        refine b_ret tok rfl ?_
        intro E w' hm _
        refine ⟨?_, hm.below (hle2)⟩
        show Ending.returned (.bool (((B.length : Int) == (B.length : Int)) && true)) = _
        simp
end Go.Proofs.Ytlcpfhjbhogdiaa
