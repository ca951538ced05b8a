/- The law RecordTexts from what comes in. -/
import Derived.Test.YtlcpfhjbhogdiaaTxt
set_option linter.unusedVariables false
set_option linter.unusedSimpArgs false
set_option maxRecDepth 100000
namespace Go.Proofs.Ytlcpfhjbhogdiaa
open Go Go.Eng Go.RowKit

theorem all_at {g : Geo} {key lsn : Int} {l : List Block} {j : Nat} (h : j < l.length * g.per.toNat) : (allRecs g key lsn l)[j]? = some (recAt key lsn g.per.toNat l j) := by
  unfold allRecs
  rw [List.getElem?_append_left (by rw [recs_len]; exact h)]
  simp [recs, h]

theorem all_last {g : Geo} {key lsn : Int} {l : List Block} : (allRecs g key lsn l)[l.length * g.per.toNat]? = some (commitOf key lsn (l.length * g.per.toNat)) := by
  unfold allRecs
  rw [List.getElem?_append_right (by rw [recs_len]; omega), recs_len]
  simp

theorem all_len (g : Geo) (key lsn : Int) (l : List Block) : (allRecs g key lsn l).length = l.length * g.per.toNat + 1 := by
  simp [allRecs, recs_len]

theorem all_facts {g : Geo} {key lsn : Int} {l : List Block} {i : Nat} {r : Record} (hm : 1 ≤ l.length * g.per.toNat) (hr : (allRecs g key lsn l)[i]? = some r) :
    r.lsn = lsn + i ∧ r.key = key ∧ (r.count == 0) = decide (i < l.length * g.per.toNat) := by
  have hlt := (List.getElem?_eq_some_iff.1 hr).1
  rw [all_len] at hlt
  by_cases h : i < l.length * g.per.toNat
  · rw [all_at h] at hr
    cases hr
    exact ⟨rfl, rfl, by simp [recAt, h]⟩
  · have : i = l.length * g.per.toNat := by omega
    subst this
    rw [all_last] at hr
    cases hr
    refine ⟨rfl, rfl, ?_⟩
    simp only [commitOf, h, decide_false, beq_eq_false_iff_ne, ne_eq]
    omega

theorem great_no {l : List Block} (h : greatB l = false) : l.length ≤ 70 := by
  simp only [greatB, Bool.or_eq_false_iff, decide_eq_false_iff_not] at h
  omega

theorem recordTexts_law (w : World) {v0 v1 v2 v3 : Value} (R0 : ∃ g : Geo, v0 = g.val ∧ g.Ok) (R1 : ∃ n : Int, v1 = I n ∧ R64 n) (R2 : ∃ n : Int, v2 = I n ∧ R64 n)
    (R3 : ∃ l : List Block, SlOf (vw w) Block.cells 2 v3 l ∧ l.length ≤ maxLen ∧ ∀ a ∈ l, a.Ok) : Calls Try.prog 4 #[v0, v1, v2, v3] w fun e w' => e = .returned (.bool true) ∧ Below w.heap.size w w' := by
  obtain ⟨g, rfl, ok⟩ := R0
  obtain ⟨key, rfl, _⟩ := R1
  obtain ⟨lsn, rfl, _⟩ := R2
  obtain ⟨l, hs, hmax, _⟩ := R3
  refine enter (E := E0) (O := []) (nl := 0) (V := vw w) [.a (.v g.val), .a (.v (I key)), .a (.v (I lsn)), .a (.v v3)] Try.func4 rfl rfl (mem0 E0 0 w) rfl rfl ?_
  refine c_seq ?_
  refine c_region ?_
  refine o_new tok rfl rfl rfl rfl ?_
  refine o_yield rfl rfl rfl (y_val tok rfl) ?_
  refine o_end [1, 2, 3, 4] rfl ?_
  refine x_then ?_
  refine c_seq ?_
  refine c_seq ?_
  refine c_region ?_
  refine o_yield rfl rfl rfl (y_val tok rfl) ?_
  refine o_call (.a (.v _)) rfl rfl fnok17 rfl rfl rfl (fun hg E w1 hm => by exact great_c (vw w) _ l _ hm.leV hs hmax) ?_
  refine o_end [1, 2, 3, 4, 17] rfl ?_
  refine x_then ?_
  refine c_cond rfl (fun h => ?_) (fun h => ?_)
  ·
    refine c_seq ?_
    refine c_region ?_
    refine o_call (.a (.v _)) rfl rfl fnok16 rfl rfl rfl (fun hg E w1 hm => by exact wakes16_c _) ?_
    refine o_yield rfl rfl rfl (y_val tok rfl) ?_
    refine o_end [8] rfl ?_
    refine x_then ?_
    refine c_ret ?_
    refine x_then_ret ?_
    refine b_ret tok rfl ?_
    intro E w' hm _
    exact ⟨rfl, hm.below (Vw.le.refl _)⟩
  ·
    refine c_skip ?_
    refine x_then ?_
    refine c_seq ?_
    refine c_region ?_
    refine o_yield rfl rfl rfl (y_val tok rfl) ?_
    refine o_yield rfl rfl rfl (y_val tok rfl) ?_
    refine o_yield rfl rfl rfl (y_val tok rfl) ?_
    refine o_yield rfl rfl rfl (y_val tok rfl) ?_
    have hlen := great_no h
    have hlim : l.length ≤ lim := by unfold lim; omega
    clear h
    refine o_callV (OfVal g key lsn l) rfl rfl fnok18 rfl rfl (fun hg E w1 hm => by exact of_cV (vw w) g ok key lsn _ l _ hm.leV hs hlim) ?_
    rintro x V1 hle1 hx
    rcases hx rfl with ⟨hok, v, rfl, hsl⟩ | ⟨hno, rfl⟩
    rotate_left
    ·
      refine o_yield rfl rfl rfl (y_val tok rfl) ?_
      refine o_yield rfl rfl rfl (y_val tok rfl) ?_
      refine o_yield rfl rfl rfl (y_val tok rfl) ?_
      refine o_yield rfl rfl rfl (y_val tok rfl) ?_
      refine o_yield rfl rfl rfl (y_val tok rfl) ?_
      refine o_end [1, 2, 3, 4, 9, 10] rfl ?_
      refine x_then ?_
      refine c_seq ?_
      refine c_seq ?_
      refine c_region ?_
      refine o_yield rfl rfl rfl (y_val tok rfl) ?_
      refine o_yield rfl rfl rfl (y_val tok rfl) ?_
      refine o_end [1, 2, 3, 4, 9, 10, 28] rfl ?_
      refine x_then ?_
      refine c_cond rfl (fun h => ?_) (fun h => ?_)
      ·
        refine c_seq ?_
        refine c_region ?_
        refine o_yield rfl rfl rfl (y_val tok rfl) ?_
        refine o_yield rfl rfl rfl (y_val tok rfl) ?_
        refine o_yield rfl rfl rfl (y_val tok rfl) ?_
        refine o_yield rfl rfl rfl (y_val tok rfl) ?_
        refine o_yield rfl rfl rfl (y_len tok rfl (fun hg => (⟨rfl, .inl ⟨none, 0, rfl, rfl⟩⟩ : IsSl V1 (.slice none 0 0) 6 0 []))) ?_
        refine o_yield rfl rfl rfl (y_val tok rfl) ?_
        refine o_yield rfl rfl rfl (y_val tok rfl) ?_
        refine o_yield rfl rfl rfl (y_val tok rfl) ?_
        refine o_call (.a (.v _)) rfl rfl fnok16 rfl rfl rfl (fun hg E w1 hm => by exact wakes16_c _) ?_
        refine o_yield rfl rfl rfl (y_val tok rfl) ?_
        refine o_yield rfl rfl rfl (y_val tok rfl) ?_
        refine o_end [8] rfl ?_
        refine x_then ?_
        refine c_ret ?_
        refine x_then_ret ?_
        refine b_ret tok rfl ?_
        intro E w' hm _
        exact ⟨rfl, hm.below hle1⟩
      ·
        refine c_skip ?_
        refine x_then ?_
        refine c_seq ?_
        refine c_seq ?_
        refine c_region ?_
        refine o_yield rfl rfl rfl (y_val tok rfl) ?_
        exact absurd h (by decide)
    refine o_yield rfl rfl rfl (y_val tok rfl) ?_
    refine o_yield rfl rfl rfl (y_val tok rfl) ?_
    refine o_yield rfl rfl rfl (y_val tok rfl) ?_
    refine o_yield rfl rfl rfl (y_val tok rfl) ?_
    refine o_yield rfl rfl rfl (y_val tok rfl) ?_
    refine o_end [1, 2, 3, 4, 9, 10] rfl ?_
    refine x_then ?_
    refine c_seq ?_
    refine c_seq ?_
    refine c_region ?_
    refine o_yield rfl rfl rfl (y_val tok rfl) ?_
    refine o_yield rfl rfl rfl (y_val tok rfl) ?_
    refine o_end [1, 2, 3, 4, 9, 10, 28] rfl ?_
    refine x_then ?_
    refine c_cond rfl (fun h => ?_) (fun h => ?_)
    ·
      refine c_seq ?_
      refine c_region ?_
      refine o_yield rfl rfl rfl (y_val tok rfl) ?_
      refine o_yield rfl rfl rfl (y_val tok rfl) ?_
      refine o_yield rfl rfl rfl (y_val tok rfl) ?_
      refine o_yield rfl rfl rfl (y_val tok rfl) ?_
      exact absurd h (by decide)
    ·
      refine c_skip ?_
      refine x_then ?_
      refine c_seq ?_
      refine c_seq ?_
      refine c_region ?_
      refine o_yield rfl rfl rfl (y_val tok rfl) ?_
      clear h
      have hgeo := hok.geo
      simp only [geoB, decide_eq_true_eq] at hgeo
      obtain ⟨per, hper⟩ : ∃ per : Nat, g.per = per := ⟨g.per.toNat, by omega⟩
      have hpn : g.per.toNat = per := by omega
      have hfew := hok.few
      have hlsn := hok.lsnB
      simp only [belowB, Bool.and_eq_true, decide_eq_true_eq] at hlsn
      have hl0 : 0 < l.length := List.length_pos_iff.2 hok.some_
      have hm512 : l.length * per ≤ 512 := by
        have h1 : l.length * per ≤ 64 * per := Nat.mul_le_mul_right _ (by omega)
        omega
      have hm1 : 1 ≤ l.length * per := Nat.mul_pos hl0 (by omega)
      have hal := all_len g key lsn l
      rw [hpn] at hal
      have hsl' := hsl
      refine o_call (.a (.v _)) rfl rfl fnok15 rfl rfl rfl (fun hg E w1 hm => by exact refMay_c g ok _) ?_
      refine o_yield rfl rfl rfl (y_val tok rfl) ?_
      refine o_yield rfl rfl rfl (y_val tok rfl) ?_
      refine o_yield rfl rfl rfl (y_val tok rfl) ?_
      refine o_yield rfl rfl rfl (y_len tok rfl (fun hg => hsl.sl)) ?_
      refine o_yield rfl rfl rfl (y_val tok rfl) ?_
      refine o_yield rfl rfl rfl (y_val tok rfl) ?_
      refine o_yield rfl rfl rfl (y_val tok rfl) ?_
      refine o_yield rfl rfl rfl (y_len tok rfl (fun hg => (hs.mono hle1).sl)) ?_
      refine o_yield rfl rfl rfl (y_val tok rfl) ?_
      refine o_yield rfl rfl rfl (y_val tok rfl) ?_
      refine o_yield rfl rfl rfl (y_val tok rfl) ?_
      refine o_yield rfl rfl rfl (y_val tok rfl) ?_
      refine o_end [1, 2, 3, 4, 9, 52] rfl ?_
      refine x_then ?_
      refine c_cond rfl (fun h => ?_) (fun h => ?_)
      ·
        refine c_seq ?_
        refine c_region ?_
        refine o_yield rfl rfl rfl (y_val tok rfl) ?_
        refine o_end [8] rfl ?_
        refine x_then ?_
        refine c_ret ?_
        refine x_then_ret ?_
        refine b_ret tok rfl ?_
        exfalso
        revert h
        rw [hok.geo, hal, hper, wrapI (n := (per : Int) * (l.length : Int)) (by rw [Int.mul_comm, ← Int.natCast_mul]; omega) (by rw [Int.mul_comm, ← Int.natCast_mul]; omega)]
        rw [show (per : Int) * (l.length : Int) = ((l.length * per : Nat) : Int) by rw [Int.mul_comm, ← Int.natCast_mul], wrapI (by omega) (by omega)]
        simp
      ·
        refine c_skip ?_
        refine x_then ?_
        refine c_seq ?_
        refine c_seq ?_
        refine c_region ?_
        refine o_yield rfl rfl rfl (y_val tok rfl) ?_
        refine o_end [1, 2, 3, 4, 9, 11] rfl ?_
        refine x_then ?_
        refine c_block ?_
        clear h
        refine c_loop (σ := Nat) (fun i => [(1, .a (.v (I key))), (2, .a (.v (I lsn))), (3, .a (.v v3)), (4, .a (.ptr 0 0)), (9, .a (.v v)), (11, .a (.v (I i)))])
          (fun _ => [(0, .lit [.v (I g.nodes), .v (I g.slots), .v (I g.blocks), .v (I g.per), .v (I g.journal), .v (I g.log), .v (I g.lease), .v (I g.wait)] 23)]) 1 (fun _ => V1)
          (fun i => i ≤ (allRecs g key lsn l).length) (fun i => (allRecs g key lsn l).length - i) 0 (by omega) ⟨rfl, rfl, rfl, rfl, rfl, rfl, trivial⟩ ⟨rfl, trivial⟩ rfl (Vw.le.refl _) ?_
        rintro i hi
        refine c_seq ?_
        refine c_seq ?_
        refine c_region ?_
        refine o_yield rfl rfl rfl (y_val tok rfl) ?_
        refine o_yield rfl rfl rfl (y_val tok rfl) ?_
        refine o_yield rfl rfl rfl (y_len tok rfl (fun hg => hsl.sl)) ?_
        refine o_yield rfl rfl rfl (y_val tok rfl) ?_
        refine o_end [1, 2, 3, 4, 9, 11, 56] rfl ?_
        refine x_then ?_
        refine c_cond rfl (fun h => ?_) (fun h => ?_)
        ·
          refine c_skip ?_
          refine x_then ?_
          refine c_seq ?_
          refine c_block ?_
          refine c_seq ?_
          refine c_region ?_
          refine o_yield rfl rfl rfl (y_val tok rfl) ?_
          refine o_yield rfl rfl rfl (y_val tok rfl) ?_
          have hlt : i < (allRecs g key lsn l).length := by simp at h; omega
          obtain ⟨r, hr⟩ : ∃ r, (allRecs g key lsn l)[i]? = some r := ⟨_, List.getElem?_eq_getElem hlt⟩
          obtain ⟨f1, f2, f3⟩ := all_facts (by rw [hpn]; exact hm1) hr
          refine o_yield rfl rfl rfl (y_idx tok rfl (fun hg => hsl.sl) (fun hg => ⟨by omega, by omega⟩)) ?_
          refine o_yield rfl rfl rfl (y_fel tok rfl (fun hg => hsl.sl) (fun hg => by omega)) ?_
          refine o_yield rfl rfl rfl (y_lel tok (i) 1 (r) rfl (fun hg => hsl) (fun hg => hr) rfl rfl) ?_
          refine o_yield rfl rfl rfl (y_val tok rfl) ?_
          refine o_yield rfl rfl rfl (y_val tok rfl) ?_
          refine o_yield rfl rfl rfl (y_val tok rfl) ?_
          refine o_yield rfl rfl rfl (y_val tok rfl) ?_
          refine o_yield rfl rfl rfl (y_val tok rfl) ?_
          refine o_yield rfl rfl rfl (y_val tok rfl) ?_
          refine o_yield rfl rfl rfl (y_val tok rfl) ?_
          refine o_yield rfl rfl rfl (y_idx tok rfl (fun hg => hsl.sl) (fun hg => ⟨by omega, by omega⟩)) ?_
          refine o_yield rfl rfl rfl (y_fel tok rfl (fun hg => hsl.sl) (fun hg => by omega)) ?_
          refine o_yield rfl rfl rfl (y_lel tok (i) 0 (r) rfl (fun hg => hsl) (fun hg => hr) rfl rfl) ?_
          refine o_yield rfl rfl rfl (y_val tok rfl) ?_
          refine o_yield rfl rfl rfl (y_val tok rfl) ?_
          refine o_yield rfl rfl rfl (y_val tok rfl) ?_
          refine o_yield rfl rfl rfl (y_val tok rfl) ?_
          refine o_yield rfl rfl rfl (y_val tok rfl) ?_
          refine o_yield rfl rfl rfl (y_val tok rfl) ?_
          refine o_yield rfl rfl rfl (y_idx tok rfl (fun hg => hsl.sl) (fun hg => ⟨by omega, by omega⟩)) ?_
          refine o_yield rfl rfl rfl (y_fel tok rfl (fun hg => hsl.sl) (fun hg => by omega)) ?_
          refine o_yield rfl rfl rfl (y_lel tok (i) 5 (r) rfl (fun hg => hsl) (fun hg => hr) rfl rfl) ?_
          refine o_yield rfl rfl rfl (y_val tok rfl) ?_
          refine o_yield rfl rfl rfl (y_val tok rfl) ?_
          refine o_yield rfl rfl rfl (y_val tok rfl) ?_
          refine o_yield rfl rfl rfl (y_len tok rfl (fun hg => hsl.sl)) ?_
          refine o_yield rfl rfl rfl (y_val tok rfl) ?_
          refine o_yield rfl rfl rfl (y_val tok rfl) ?_
          refine o_yield rfl rfl rfl (y_val tok rfl) ?_
          refine o_yield rfl rfl rfl (y_val tok rfl) ?_
          refine o_end [1, 2, 3, 4, 9, 11, 90] rfl ?_
          refine x_then ?_
          refine c_cond rfl (fun h => ?_) (fun h => ?_)
          ·
            refine c_seq ?_
            refine c_region ?_
            refine o_yield rfl rfl rfl (y_val tok rfl) ?_
            refine o_end [8] rfl ?_
            refine x_then ?_
            refine c_ret ?_
            refine x_block_ret ?_
            refine x_then_ret ?_
            refine x_then_ret ?_
            refine x_block_ret ?_
            refine x_then_ret ?_
            refine b_ret tok rfl ?_
            exfalso
            revert h
            rw [f1, f2, f3, hpn, hal, wrapI (n := lsn + (i : Int)) (by omega) (by omega), wrapI (by omega) (by omega)]
            have : decide (i < l.length * per) = decide ((i : Int) < ((l.length * per + 1 : Nat) : Int) - 1) := by
              rw [Bool.eq_iff_iff]; simp only [decide_eq_true_eq]; omega
            rw [this]
            simp
          ·
            refine c_skip ?_
            refine x_block ?_
            refine x_then ?_
            refine c_region ?_
            refine o_yield rfl rfl rfl (y_val tok rfl) ?_
            refine o_yield rfl rfl rfl (y_val tok rfl) ?_
            refine o_yield rfl rfl rfl (y_val tok rfl) ?_
            refine o_end [1, 2, 3, 4, 9, 11] rfl ?_
            refine x_then ?_
            rw [wrapI (n := (i : Int) + 1) (by omega) (by omega)]
            exact x_round (i + 1) (by omega) (by omega) ⟨rfl, rfl, rfl, rfl, rfl, rfl, trivial⟩ ⟨rfl, trivial⟩ rfl (Vw.le.refl _)
        ·
          refine c_exit ?_
          refine x_then_exit ?_
          refine x_then_exit ?_
          refine x_block_hit ?_
          refine x_then ?_
          refine c_seq ?_
          refine c_seq ?_
          refine c_region ?_
          refine o_yield rfl rfl rfl (y_val tok rfl) ?_
          refine o_end [3, 4, 9, 12] rfl ?_
          refine x_then ?_
          refine c_block ?_
          clear h
          have hs1 := hs.mono hle1
          refine c_loop (σ := Nat) (fun i => [(3, .a (.v v3)), (4, .a (.ptr 0 0)), (9, .a (.v v)), (12, .a (.v (I i)))]) (fun _ => [(0, .lit [.v (I g.nodes), .v (I g.slots), .v (I g.blocks), .v (I g.per), .v (I g.journal), .v (I g.log), .v (I g.lease), .v (I g.wait)] 23)]) 1 (fun _ => V1)
            (fun i => i ≤ l.length) (fun i => l.length - i) 0 (by omega) ⟨rfl, rfl, rfl, rfl, trivial⟩ ⟨rfl, trivial⟩ rfl (Vw.le.refl _) ?_
          rintro i hi
          refine c_seq ?_
          refine c_seq ?_
          refine c_region ?_
          refine o_yield rfl rfl rfl (y_val tok rfl) ?_
          refine o_yield rfl rfl rfl (y_val tok rfl) ?_
          refine o_yield rfl rfl rfl (y_len tok rfl (fun hg => hs1.sl)) ?_
          refine o_yield rfl rfl rfl (y_val tok rfl) ?_
          refine o_end [3, 4, 9, 12, 94] rfl ?_
          refine x_then ?_
          refine c_cond rfl (fun h => ?_) (fun h => ?_)
          ·
            refine c_skip ?_
            refine x_then ?_
            refine c_seq ?_
            refine c_block ?_
            refine c_seq ?_
            refine c_region ?_
            refine o_yield rfl rfl rfl (y_val tok rfl) ?_
            refine o_end [3, 4, 9, 12, 13] rfl ?_
            refine x_then ?_
            refine c_seq ?_
            refine c_seq ?_
            refine c_region ?_
            refine o_yield rfl rfl rfl (y_val tok rfl) ?_
            refine o_end [3, 4, 9, 12, 13, 14] rfl ?_
            refine x_then ?_
            refine c_block ?_
            have hlt : i < l.length := by simp at h; omega
            clear h
            obtain ⟨b, hb⟩ : ∃ b, l[i]? = some b := ⟨_, List.getElem?_eq_getElem hlt⟩
            have hbo := hok.blks i b hb
            have hsz := hbo.size
            rw [hper] at hsz
            refine c_loop (σ := Nat) (fun k => [(3, .a (.v v3)), (4, .a (.ptr 0 0)), (9, .a (.v v)), (12, .a (.v (I i))), (13, .a (.v (S (catTo b.text k)))), (14, .a (.v (I k)))]) (fun _ => [(0, .lit [.v (I g.nodes), .v (I g.slots), .v (I g.blocks), .v (I g.per), .v (I g.journal), .v (I g.log), .v (I g.lease), .v (I g.wait)] 23)]) 1 (fun _ => V1)
              (fun k => k ≤ per) (fun k => per - k) 0 (by omega) ⟨rfl, rfl, rfl, rfl, rfl, rfl, trivial⟩ ⟨rfl, trivial⟩ rfl (Vw.le.refl _) ?_
            rintro k hk
            refine c_seq ?_
            refine c_seq ?_
            refine c_region ?_
            refine o_yield rfl rfl rfl (y_val tok rfl) ?_
            refine o_yield rfl rfl rfl (y_val tok rfl) ?_
            refine o_yield rfl rfl rfl (y_val tok rfl) ?_
            refine o_yield rfl rfl rfl (y_val tok rfl) ?_
            refine o_end [3, 4, 9, 12, 13, 14, 100] rfl ?_
            refine x_then ?_
            refine c_cond rfl (fun h => ?_) (fun h => ?_)
            ·
              refine c_skip ?_
              refine x_then ?_
              refine c_seq ?_
              refine c_block ?_
              refine c_seq ?_
              refine c_region ?_
              refine o_yield rfl rfl rfl (y_val tok rfl) ?_
              refine o_yield rfl rfl rfl (y_val tok rfl) ?_
              refine o_yield rfl rfl rfl (y_val tok rfl) ?_
              refine o_yield rfl rfl rfl (y_val tok rfl) ?_
              refine o_yield rfl rfl rfl (y_val tok rfl) ?_
              refine o_yield rfl rfl rfl (y_val tok rfl) ?_
              refine o_yield rfl rfl rfl (y_val tok rfl) ?_
              have hklt : k < per := by simp at h; omega
              clear h
              have hjl : i * per + k < l.length * per := by
                have h1 : (i + 1) * per ≤ l.length * per := Nat.mul_le_mul_right _ (by omega)
                rw [Nat.add_mul] at h1
                omega
              have hix : IntKind.i64.wrap (IntKind.i64.wrap ((i : Int) * g.per) + (k : Int)) = ((i * per + k : Nat) : Int) := by
                rw [hper, ← Int.natCast_mul, wrapI (n := ((i * per : Nat) : Int)) (by omega) (by omega), wrapI (by omega) (by omega)]
                omega
              have hat : (allRecs g key lsn l)[i * per + k]? = some (⟨key, lsn + (i * per + k : Nat), b.n, (k : Nat), headOf (restAt b.text k), 0⟩ : Record) := by
                rw [all_at (by rw [hpn]; exact hjl), hpn, recAt_at key lsn per l hb hklt]
              rw [hix]
              refine o_yield rfl rfl rfl (y_idx tok rfl (fun hg => hsl.sl) (fun hg => ⟨by omega, by omega⟩)) ?_
              refine o_yield rfl rfl rfl (y_lel tok (i * per + k) 0 (_) rfl (fun hg => hsl) (fun hg => hat) rfl rfl) ?_
              refine o_new tok rfl rfl rfl rfl ?_
              refine o_store tok rfl rfl rfl (by first | exact ⟨trivial, trivial⟩ | simp [onesP, oneP, lk, Value.oneCell']) ?_
              refine o_end [3, 4, 9, 12, 13, 14, 15] rfl ?_
              refine x_then ?_
              refine c_seq ?_
              refine c_seq ?_
              refine c_draw mixed (by kernel_rfl) ?_
              refine d_yield rfl rfl rfl (y_val tok rfl) rfl ?_
              refine d_yield rfl rfl rfl (y_val tok rfl) rfl ?_
              refine d_yield rfl rfl rfl (y_val tok rfl) rfl ?_
              refine d_yield rfl rfl rfl (y_val tok rfl) rfl ?_
              refine d_yield rfl rfl rfl (y_idx tok rfl (fun hg => hs1.sl) (fun hg => ⟨by omega, by omega⟩)) rfl ?_
              refine d_yield rfl rfl rfl (y_fel tok rfl (fun hg => hs1.sl) (fun hg => by omega)) rfl ?_
              refine d_yield rfl rfl rfl (y_lel tok (i) 0 (b) rfl (fun hg => hs1) (fun hg => hb) rfl rfl) rfl ?_
              refine d_yield rfl rfl rfl (y_val tok rfl) rfl ?_
              refine d_yield rfl rfl rfl (y_val tok rfl) rfl ?_
              refine d_yield rfl rfl rfl (y_val tok rfl) rfl ?_
              refine d_yield rfl rfl rfl (y_val tok rfl) rfl ?_
              refine d_yield rfl rfl rfl (y_val tok rfl) rfl ?_
              refine d_yield rfl rfl rfl (y_val tok rfl) rfl ?_
              refine d_yield rfl rfl rfl (y_val tok rfl) rfl ?_
              refine d_yield rfl rfl rfl (y_val tok rfl) rfl ?_
              refine d_yield rfl rfl rfl (y_val tok rfl) rfl ?_
              refine d_yield rfl rfl rfl (y_val tok rfl) rfl ?_
              refine d_yield rfl rfl rfl (y_val tok rfl) rfl ?_
              refine d_yield rfl rfl rfl (y_val tok rfl) rfl ?_
              refine d_yield rfl rfl rfl (y_val tok rfl) rfl ?_
              refine d_yield rfl rfl rfl (y_val tok rfl) rfl ?_
              refine d_yield rfl rfl rfl (y_val tok rfl) rfl ?_
              refine d_yield rfl rfl rfl (y_val tok rfl) rfl ?_
              refine d_yield rfl rfl rfl (y_val tok rfl) rfl ?_
              refine d_yield rfl rfl rfl (y_val tok rfl) rfl ?_
              refine d_yield rfl rfl rfl (y_idx tok rfl (fun hg => hs1.sl) (fun hg => ⟨by omega, by omega⟩)) rfl ?_
              refine d_yield rfl rfl rfl (y_fel tok rfl (fun hg => hs1.sl) (fun hg => by omega)) rfl ?_
              refine d_yield rfl rfl rfl (y_lel tok (i) 1 (b) rfl (fun hg => hs1) (fun hg => hb) rfl rfl) rfl ?_
              refine d_yield rfl rfl rfl (y_val tok rfl) rfl ?_
              refine d_yield rfl rfl rfl (y_val tok rfl) rfl ?_
              refine d_yield rfl rfl rfl (y_val tok rfl) rfl ?_
              refine d_yield rfl rfl rfl (y_val tok rfl) rfl ?_
              refine d_yield rfl rfl rfl (y_val tok rfl) rfl ?_
              refine d_yield rfl rfl rfl (y_rem rfl (fun hg => by decide)) rfl ?_
              refine d_yield rfl rfl rfl (y_val tok rfl) rfl ?_
              refine d_yield rfl rfl rfl (y_val tok rfl) rfl ?_
              refine d_yield rfl rfl rfl (y_val tok rfl) rfl ?_
              refine d_end [3, 4, 9, 12, 13, 14, 15, 148] rfl ?_
              refine x_then ?_
              refine c_cond rfl (fun h => ?_) (fun h => ?_)
              ·
                refine c_seq ?_
                refine c_region ?_
                refine o_yield rfl rfl rfl (y_val tok rfl) ?_
                refine o_end [8] rfl ?_
                refine x_then ?_
                refine c_ret ?_
                refine x_then_ret ?_
                refine x_block_ret ?_
                refine x_then_ret ?_
                refine x_then_ret ?_
                refine x_block_ret ?_
                refine x_then_ret ?_
                refine x_block_ret ?_
                refine x_then_ret ?_
                refine x_then_ret ?_
                refine x_block_ret ?_
                refine x_then_ret ?_
                refine b_ret tok rfl ?_
                exfalso
                have hc := cat_size b.text k
                have hh := head_size (restAt b.text k)
                dsimp only at h
                rw [Int.tmod_eq_emod_of_nonneg (by omega)] at h
                simp only [Bool.or_eq_true, Bool.and_eq_true, decide_eq_true_eq, bne_iff_ne, ne_eq, not_true_eq_false, false_or] at h
                omega
              ·
                refine c_skip ?_
                refine x_then ?_
                refine c_region ?_
                refine o_yield rfl rfl rfl (y_val tok rfl) ?_
                refine o_yield rfl rfl rfl (y_val tok rfl) ?_
                refine o_yield rfl rfl rfl (y_val tok rfl) ?_
                clear h
                have hc := cat_size b.text k
                have hh := head_size (restAt b.text k)
                refine o_yield rfl rfl rfl (y_cat rfl (fun hg => by dsimp only; omega)) ?_
                refine o_yield rfl rfl rfl (y_val tok rfl) ?_
                refine o_end [3, 4, 9, 12, 13, 14] rfl ?_
                refine x_block ?_
                refine x_then ?_
                refine c_region ?_
                refine o_yield rfl rfl rfl (y_val tok rfl) ?_
                refine o_yield rfl rfl rfl (y_val tok rfl) ?_
                refine o_yield rfl rfl rfl (y_val tok rfl) ?_
                refine o_end [3, 4, 9, 12, 13, 14] rfl ?_
                refine x_then ?_
                rw [wrapI (n := (k : Int) + 1) (by omega) (by omega)]
                exact x_round (k + 1) (by omega) (by omega) ⟨rfl, rfl, rfl, rfl, rfl, rfl, trivial⟩ ⟨rfl, trivial⟩ rfl (Vw.le.refl _)
            ·
              refine c_exit ?_
              refine x_then_exit ?_
              refine x_then_exit ?_
              refine x_block_hit ?_
              refine x_then ?_
              refine c_seq ?_
              refine c_region ?_
              refine o_yield rfl rfl rfl (y_val tok rfl) ?_
              refine o_yield rfl rfl rfl (y_val tok rfl) ?_
              refine o_yield rfl rfl rfl (y_val tok rfl) ?_
              have hkp : k = per := by simp at h; omega
              subst hkp
              clear h
              refine o_yield rfl rfl rfl (y_idx tok rfl (fun hg => hs1.sl) (fun hg => ⟨by omega, by omega⟩)) ?_
              refine o_yield rfl rfl rfl (y_fel tok rfl (fun hg => hs1.sl) (fun hg => by omega)) ?_
              refine o_yield rfl rfl rfl (y_lel tok (i) 1 (b) rfl (fun hg => hs1) (fun hg => hb) rfl rfl) ?_
              refine o_yield rfl rfl rfl (y_val tok rfl) ?_
              refine o_end [3, 4, 9, 12, 159] rfl ?_
              refine x_then ?_
              refine c_cond rfl (fun h => ?_) (fun h => ?_)
              ·
                refine c_seq ?_
                refine c_region ?_
                refine o_yield rfl rfl rfl (y_val tok rfl) ?_
                refine o_end [8] rfl ?_
                refine x_then ?_
                refine c_ret ?_
                refine x_block_ret ?_
                refine x_then_ret ?_
                refine x_then_ret ?_
                refine x_block_ret ?_
                refine x_then_ret ?_
                refine b_ret tok rfl ?_
                rw [cat_all (by omega)] at h
                simp at h
              ·
                refine c_skip ?_
                refine x_block ?_
                refine x_then ?_
                refine c_region ?_
                refine o_yield rfl rfl rfl (y_val tok rfl) ?_
                refine o_yield rfl rfl rfl (y_val tok rfl) ?_
                refine o_yield rfl rfl rfl (y_val tok rfl) ?_
                refine o_end [3, 4, 9, 12] rfl ?_
                refine x_then ?_
                rw [wrapI (n := (i : Int) + 1) (by omega) (by omega)]
                exact x_round (i + 1) (by omega) (by omega) ⟨rfl, rfl, rfl, rfl, trivial⟩ ⟨rfl, trivial⟩ rfl (Vw.le.refl _)
          ·
            refine c_exit ?_
            refine x_then_exit ?_
            refine x_then_exit ?_
            refine x_block_hit ?_
            refine x_then ?_
            refine c_seq ?_
            refine c_region ?_
            refine o_call (.a (.v _)) rfl rfl fnok16 rfl rfl rfl (fun hg E w1 hm => by exact wakes16_c _) ?_
            refine o_yield rfl rfl rfl (y_val tok rfl) ?_
            refine o_end [8] rfl ?_
            refine x_then ?_
            refine c_ret ?_
            refine b_ret tok rfl ?_
            intro E w' hm _
            exact ⟨rfl, hm.below hle1⟩
end Go.Proofs.Ytlcpfhjbhogdiaa
