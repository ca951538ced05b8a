import Derived.Test.YtipmgnhbcaniiaaData
import Derived.Test.YtipmgnhbcaniiaaEng28
/- Geometries that may be: the program and the document agree. -/
set_option linter.unusedVariables false
set_option linter.unusedSimpArgs false
set_option maxRecDepth 100000
namespace Go.Proofs.Ytipmgnhbcaniiaa
open Go Go.Eng Go.RowKit

def inB (n a b : Int) : Bool := decide (a ≤ n) && decide (n ≤ b)

theorem in_c (n a b : Int) (w : World) : Calls Try.prog 46 #[I n, I a, I b] w fun e w' => e = .returned (.bool (inB n a b)) ∧ Below w.heap.size w w' := by
  refine enter (E := E0) (O := []) (nl := 0) (V := vw w) [.a (.v (I n)), .a (.v (I a)), .a (.v (I b))] Try.func46 rfl rfl (mem0 E0 0 w) rfl rfl ?_
  refine c_seq ?_
  refine c_region ?_
  refine o_yield rfl rfl rfl (y_val tok rfl) ?_
  refine o_end [0, 1, 2] rfl ?_
  refine x_then ?_
  refine c_seq ?_
  refine c_region ?_
  refine o_yield rfl rfl rfl (y_val tok rfl) ?_
  refine o_yield rfl rfl rfl (y_val tok rfl) ?_
  refine o_yield rfl rfl rfl (y_val tok rfl) ?_
  refine o_yield rfl rfl rfl (y_val tok rfl) ?_
  refine o_yield rfl rfl rfl (y_val tok rfl) ?_
  refine o_yield rfl rfl rfl (y_val tok rfl) ?_
  refine o_yield rfl rfl rfl (y_val tok rfl) ?_
  refine o_yield rfl rfl rfl (y_val tok rfl) ?_
  refine o_yield rfl rfl rfl (y_val tok rfl) ?_
  refine o_end [6] rfl ?_
  refine x_then ?_
  refine c_ret ?_
  refine b_ret tok rfl ?_
  intro E w' hm _
  exact ⟨rfl, hm.below (Vw.le.refl _)⟩

/-- A geometry that may be. -/
def geoB (g : Geo) : Bool := decide ((1 ≤ g.nodes ∧ g.nodes ≤ 16) ∧ (1 ≤ g.slots ∧ g.slots ≤ g.nodes) ∧ (1 ≤ g.blocks ∧ g.blocks ≤ 64) ∧ (1 ≤ g.per ∧ g.per ≤ 8) ∧ (g.per + 2 ≤ g.journal ∧ g.journal ≤ 64) ∧
  (8 * g.slots ≤ g.log ∧ g.log ≤ 512) ∧ (1 ≤ g.lease ∧ g.lease < g.wait ∧ g.wait ≤ 1048576))

theorem refMay_c (g : Geo) (ok : g.Ok) (w : World) : Calls Try.prog 18 #[g.val] w fun e w' => e = .returned (.bool (geoB g)) ∧ Below w.heap.size w w' := by
  refine enter (E := E0) (O := []) (nl := 0) (V := vw w) [.a (.v g.val)] Try.func18 rfl rfl (mem0 E0 0 w) rfl rfl ?_
  refine c_seq ?_
  refine c_region ?_
  refine o_new tok rfl rfl rfl rfl ?_
  refine o_yield rfl rfl rfl (y_val tok rfl) ?_
  refine o_end [1] rfl ?_
  refine x_then ?_
  refine c_seq ?_
  refine c_region ?_
  refine o_yield rfl rfl rfl (y_val tok rfl) ?_
  refine o_yield rfl rfl rfl (y_val tok rfl) ?_
  refine o_call (.a (.v _)) rfl rfl fnok46 rfl rfl rfl (fun hg E w1 hm => by exact in_c _ _ _ _) ?_
  refine o_yield rfl rfl rfl (y_val tok rfl) ?_
  refine o_yield rfl rfl rfl (y_val tok rfl) ?_
  refine o_yield rfl rfl rfl (y_val tok rfl) ?_
  refine o_yield rfl rfl rfl (y_val tok rfl) ?_
  refine o_yield rfl rfl rfl (y_val tok rfl) ?_
  refine o_call (.a (.v _)) rfl rfl fnok46 rfl rfl rfl (fun hg E w1 hm => by exact in_c _ _ _ _) ?_
  refine o_yield rfl rfl rfl (y_val tok rfl) ?_
  refine o_yield rfl rfl rfl (y_val tok rfl) ?_
  refine o_yield rfl rfl rfl (y_val tok rfl) ?_
  refine o_yield rfl rfl rfl (y_val tok rfl) ?_
  refine o_call (.a (.v _)) rfl rfl fnok46 rfl rfl rfl (fun hg E w1 hm => by exact in_c _ _ _ _) ?_
  refine o_yield rfl rfl rfl (y_val tok rfl) ?_
  refine o_yield rfl rfl rfl (y_val tok rfl) ?_
  refine o_yield rfl rfl rfl (y_val tok rfl) ?_
  refine o_yield rfl rfl rfl (y_val tok rfl) ?_
  refine o_call (.a (.v _)) rfl rfl fnok46 rfl rfl rfl (fun hg E w1 hm => by exact in_c _ _ _ _) ?_
  refine o_yield rfl rfl rfl (y_val tok rfl) ?_
  refine o_yield rfl rfl rfl (y_val tok rfl) ?_
  refine o_yield rfl rfl rfl (y_val tok rfl) ?_
  refine o_yield rfl rfl rfl (y_val tok rfl) ?_
  refine o_yield rfl rfl rfl (y_val tok rfl) ?_
  refine o_yield rfl rfl rfl (y_val tok rfl) ?_
  refine o_yield rfl rfl rfl (y_val tok rfl) ?_
  refine o_call (.a (.v _)) rfl rfl fnok46 rfl rfl rfl (fun hg E w1 hm => by exact in_c _ _ _ _) ?_
  refine o_yield rfl rfl rfl (y_val tok rfl) ?_
  refine o_yield rfl rfl rfl (y_val tok rfl) ?_
  refine o_yield rfl rfl rfl (y_val tok rfl) ?_
  refine o_yield rfl rfl rfl (y_val tok rfl) ?_
  refine o_yield rfl rfl rfl (y_val tok rfl) ?_
  refine o_yield rfl rfl rfl (y_val tok rfl) ?_
  refine o_yield rfl rfl rfl (y_val tok rfl) ?_
  refine o_call (.a (.v _)) rfl rfl fnok46 rfl rfl rfl (fun hg E w1 hm => by exact in_c _ _ _ _) ?_
  refine o_yield rfl rfl rfl (y_val tok rfl) ?_
  refine o_yield rfl rfl rfl (y_val tok rfl) ?_
  refine o_yield rfl rfl rfl (y_val tok rfl) ?_
  refine o_yield rfl rfl rfl (y_val tok rfl) ?_
  refine o_yield rfl rfl rfl (y_val tok rfl) ?_
  refine o_yield rfl rfl rfl (y_val tok rfl) ?_
  refine o_yield rfl rfl rfl (y_val tok rfl) ?_
  refine o_yield rfl rfl rfl (y_val tok rfl) ?_
  refine o_yield rfl rfl rfl (y_val tok rfl) ?_
  refine o_yield rfl rfl rfl (y_val tok rfl) ?_
  refine o_yield rfl rfl rfl (y_val tok rfl) ?_
  refine o_yield rfl rfl rfl (y_val tok rfl) ?_
  refine o_yield rfl rfl rfl (y_val tok rfl) ?_
  refine o_yield rfl rfl rfl (y_val tok rfl) ?_
  refine o_yield rfl rfl rfl (y_val tok rfl) ?_
  refine o_yield rfl rfl rfl (y_val tok rfl) ?_
  refine o_yield rfl rfl rfl (y_val tok rfl) ?_
  refine o_yield rfl rfl rfl (y_val tok rfl) ?_
  refine o_yield rfl rfl rfl (y_val tok rfl) ?_
  refine o_end [2] rfl ?_
  refine x_then ?_
  refine c_ret ?_
  refine b_ret tok rfl ?_
  intro E w' hm _
  refine ⟨?_, hm.below (Vw.le.refl _)⟩
  show Ending.returned (.bool ((((((((inB g.nodes 1 16 && inB g.slots 1 g.nodes) && inB g.blocks 1 64) && inB g.per 1 8) && inB g.journal (IntKind.i64.wrap (g.per + 2)) 64) && inB g.log (IntKind.i64.wrap (8 * g.slots)) 512) &&
    decide (1 ≤ g.lease)) && decide (g.lease < g.wait)) && decide (g.wait ≤ 1048576))) = _
  congr 2
  by_cases h : (1 ≤ g.nodes ∧ g.nodes ≤ 16) ∧ (1 ≤ g.slots ∧ g.slots ≤ g.nodes) ∧ (1 ≤ g.per ∧ g.per ≤ 8)
  · rw [wrapI (by omega) (by omega), wrapI (by omega) (by omega), Bool.eq_iff_iff]
    simp only [inB, geoB, Bool.and_eq_true, decide_eq_true_eq]
    omega
  · have : geoB g = false := by
      simp only [geoB, decide_eq_false_iff_not]
      omega
    rw [this, Bool.eq_false_iff]
    simp only [inB, ne_eq, Bool.and_eq_true, decide_eq_true_eq]
    omega

/-! The program's. -/

abbrev encI (n : Int) : List Value := [I n]

def sortedB : List Int → Bool
  | a :: b :: r => decide (a ≤ b) && sortedB (b :: r)
  | _ => true

theorem sorted_iff : ∀ (l : List Int), sortedB l = true ↔ ∀ j x y, l[j]? = some x → l[j + 1]? = some y → x ≤ y
  | [] => by simp [sortedB]
  | [a] => by simp [sortedB]
  | a :: b :: r => by
    simp only [sortedB, Bool.and_eq_true, decide_eq_true_eq, sorted_iff (b :: r)]
    constructor
    · rintro ⟨h1, h2⟩ j x y hx hy
      cases j with
      | zero => simp at hx hy; subst hx hy; exact h1
      | succ j => exact h2 j x y (by simpa using hx) (by simpa using hy)
    · intro h
      exact ⟨h 0 a b rfl rfl, fun j x y hx hy => h (j + 1) x y (by simpa using hx) (by simpa using hy)⟩

theorem within_c (V : Vw) (sv : Value) (l : List Int) (w : World) (hV : V.le (vw w)) (hs : SlOf V encI 1 sv l) (hn : l.length ≤ lim) :
    Calls Try.prog 56 #[sv] w fun e w' => e = .returned (.bool (sortedB l)) ∧ Below w.heap.size w w' := by
  simp only [lim] at hn
  have hs' := hs.mono hV
  refine enter (E := E0) (O := []) (nl := 0) (V := vw w) [.a (.v sv)] Try.func56 rfl rfl (mem0 E0 0 w) rfl rfl ?_
  refine c_seq ?_
  refine c_region ?_
  refine o_yield rfl rfl rfl (y_val tok rfl) ?_
  refine o_end [0] rfl ?_
  refine x_then ?_
  refine c_seq ?_
  refine c_seq ?_
  refine c_region ?_
  refine o_yield rfl rfl rfl (y_val tok rfl) ?_
  refine o_end [0, 3] rfl ?_
  refine x_then ?_
  refine c_block ?_
  refine c_loop (σ := Nat) (fun k => [(0, .a (.v sv)), (3, .a (.v (I (k + 1 : Nat))))]) (fun _ => []) 0 (fun _ => vw w)
    (fun k => k + 1 ≤ l.length + 1 ∧ ∀ j x y, j < k → l[j]? = some x → l[j + 1]? = some y → x ≤ y) (fun k => l.length - k) 0 ⟨by omega, by omega⟩ ⟨rfl, rfl, trivial⟩ trivial rfl (Vw.le.refl _) ?_
  rintro k ⟨hk, hall⟩
  refine c_seq ?_
  refine c_seq ?_
  refine c_region ?_
  refine o_yield rfl rfl rfl (y_val tok rfl) ?_
  refine o_yield rfl rfl rfl (y_val tok rfl) ?_
  refine o_yield rfl rfl rfl (y_len tok rfl (fun hg => hs'.sl)) ?_
  refine o_yield rfl rfl rfl (y_val tok rfl) ?_
  refine o_end [0, 3, 7] rfl ?_
  refine x_then ?_
  refine c_cond rfl (fun h => ?_) (fun h => ?_)
  ·
    refine c_skip ?_
    refine x_then ?_
    refine c_seq ?_
    refine c_block ?_
    refine c_seq ?_
    refine c_draw mixed (by kernel_rfl) ?_
    refine d_yield rfl rfl rfl (y_val tok rfl) rfl ?_
    refine d_yield rfl rfl rfl (y_val tok rfl) rfl ?_
    refine d_yield rfl rfl rfl (y_val tok rfl) rfl ?_
    have hlt : k + 1 < l.length := by simp at h; omega
    have hx : l[k]? = some (l[k]'(by omega)) := by simp
    have hy : l[k + 1]? = some l[k + 1] := by simp [hlt]
    have hw : IntKind.i64.wrap (((k + 1 : Nat) : Int) - 1) = (k : Int) := by rw [wrapI (by omega) (by omega)]; omega
    rw [hw]
    refine d_yield rfl rfl rfl (y_idx tok rfl (fun hg => hs'.sl) (fun hg => ⟨by omega, by omega⟩)) rfl ?_
    refine d_yield rfl rfl rfl (y_lel tok (k) 0 ((l[k]'(by omega))) rfl (fun hg => hs') (fun hg => hx) rfl rfl) rfl ?_
    refine d_yield rfl rfl rfl (y_val tok rfl) rfl ?_
    refine d_yield rfl rfl rfl (y_val tok rfl) rfl ?_
    refine d_yield rfl rfl rfl (y_idx tok rfl (fun hg => hs'.sl) (fun hg => ⟨by omega, by omega⟩)) rfl ?_
    refine d_yield rfl rfl rfl (y_lel tok (k + 1) 0 (l[k + 1]) rfl (fun hg => hs') (fun hg => hy) rfl rfl) rfl ?_
    refine d_yield rfl rfl rfl (y_val tok rfl) rfl ?_
    refine d_end [0, 3, 19] rfl ?_
    refine x_then ?_
    refine c_cond rfl (fun h => ?_) (fun h => ?_)
    ·
      refine c_seq ?_
      refine c_region ?_
      refine o_yield rfl rfl rfl (y_val tok rfl) ?_
      refine o_end [2] rfl ?_
      refine x_then ?_
      refine c_ret ?_
      refine x_block_ret ?_
      refine x_then_ret ?_
      refine x_then_ret ?_
      refine x_block_ret ?_
      refine x_then_ret ?_
      refine b_ret tok rfl ?_
      intro E w' hm _
      refine ⟨?_, hm.below (Vw.le.refl _)⟩
      have : sortedB l = false := by
        rw [Bool.eq_false_iff]
        intro hc
        have := (sorted_iff l).1 hc k _ _ hx hy
        simp at h; omega
      rw [this]; rfl
    ·
      refine c_skip ?_
      refine x_block ?_
      refine x_then ?_
      refine c_region ?_
      refine o_yield rfl rfl rfl (y_val tok rfl) ?_
      refine o_yield rfl rfl rfl (y_val tok rfl) ?_
      refine o_yield rfl rfl rfl (y_val tok rfl) ?_
      refine o_end [0, 3] rfl ?_
      refine x_then ?_
      have hwr : IntKind.i64.wrap (((k + 1 : Nat) : Int) + 1) = ((k + 1 + 1 : Nat) : Int) := by rw [wrapI (by omega) (by omega)]; omega
      rw [hwr]
      refine x_round (k + 1) ⟨by omega, fun j x y hj hx' hy' => ?_⟩ (by omega) ⟨rfl, rfl, trivial⟩ trivial rfl (Vw.le.refl _)
      by_cases hjk : j = k
      · subst hjk
        rw [hx] at hx'; rw [hy] at hy'
        cases hx'; cases hy'
        simp at h; omega
      · exact hall j x y (by omega) hx' hy'
  ·
    refine c_exit ?_
    refine x_then_exit ?_
    refine x_then_exit ?_
    refine x_block_hit ?_
    refine x_then ?_
    refine c_seq ?_
    refine c_region ?_
    refine o_yield rfl rfl rfl (y_val tok rfl) ?_
    refine o_end [2] rfl ?_
    refine x_then ?_
    refine c_ret ?_
    refine b_ret tok rfl ?_
    intro E w' hm _
    refine ⟨?_, hm.below (Vw.le.refl _)⟩
    have : sortedB l = true := by
      rw [sorted_iff]
      intro j x y hx hy
      have := (List.getElem?_eq_some_iff.1 hy).1
      simp at h
      exact hall j x y (by omega) hx hy
    rw [this]; rfl

theorem geoMay_c (g : Geo) (ok : g.Ok) (w : World) : Calls Try.prog 43 #[g.val] w fun e w' => e = .returned (.bool (geoB g)) ∧ Below w.heap.size w w' := by
  refine enter (E := E0) (O := []) (nl := 0) (V := vw w) [.a (.v g.val)] Try.func43 rfl rfl (mem0 E0 0 w) rfl rfl ?_
  refine c_seq ?_
  refine c_region ?_
  refine o_new tok rfl rfl rfl rfl ?_
  refine o_yield rfl rfl rfl (y_val tok rfl) ?_
  refine o_end [1] rfl ?_
  refine x_then ?_
  refine c_seq ?_
  refine c_region ?_
  refine o_yield rfl rfl rfl (y_val tok rfl) ?_
  refine o_yield rfl rfl rfl (y_val tok rfl) ?_
  refine o_yield rfl rfl rfl (y_val tok rfl) ?_
  refine o_yield rfl rfl rfl (y_val tok rfl) ?_
  refine o_bs tok rfl rfl rfl rfl (fun b1 V1 hle1 hb1 => ?_)
  refine o_call (.a (.v _)) rfl rfl fnok56 rfl rfl rfl (fun hg E w1 hm => by exact within_c V1 _ [1, g.slots, g.nodes, 16] _ hm.leV (SlOf.ofBlock (enc := encI) (sz := 1) (l := [1, g.slots, g.nodes, 16]) (hb1 hg) rfl (fun _ => rfl) (Nat.le_refl _)) (by simp [lim])) ?_
  refine o_yield rfl rfl rfl (y_val tok rfl) ?_
  refine o_yield rfl rfl rfl (y_val tok rfl) ?_
  refine o_yield rfl rfl rfl (y_val tok rfl) ?_
  refine o_bs tok rfl rfl rfl rfl (fun b2 V2 hle2 hb2 => ?_)
  refine o_call (.a (.v _)) rfl rfl fnok56 rfl rfl rfl (fun hg E w1 hm => by exact within_c V2 _ [1, g.blocks, 64] _ hm.leV (SlOf.ofBlock (enc := encI) (sz := 1) (l := [1, g.blocks, 64]) (hb2 hg) rfl (fun _ => rfl) (Nat.le_refl _)) (by simp [lim])) ?_
  refine o_yield rfl rfl rfl (y_val tok rfl) ?_
  refine o_yield rfl rfl rfl (y_val tok rfl) ?_
  refine o_yield rfl rfl rfl (y_val tok rfl) ?_
  refine o_yield rfl rfl rfl (y_val tok rfl) ?_
  refine o_bs tok rfl rfl rfl rfl (fun b3 V3 hle3 hb3 => ?_)
  refine o_call (.a (.v _)) rfl rfl fnok56 rfl rfl rfl (fun hg E w1 hm => by exact within_c V3 _ [1, g.per, 8] _ hm.leV (SlOf.ofBlock (enc := encI) (sz := 1) (l := [1, g.per, 8]) (hb3 hg) rfl (fun _ => rfl) (Nat.le_refl _)) (by simp [lim])) ?_
  refine o_yield rfl rfl rfl (y_val tok rfl) ?_
  refine o_yield rfl rfl rfl (y_val tok rfl) ?_
  refine o_yield rfl rfl rfl (y_val tok rfl) ?_
  refine o_yield rfl rfl rfl (y_val tok rfl) ?_
  refine o_yield rfl rfl rfl (y_val tok rfl) ?_
  refine o_yield rfl rfl rfl (y_val tok rfl) ?_
  refine o_yield rfl rfl rfl (y_val tok rfl) ?_
  refine o_bs tok rfl rfl rfl rfl (fun b4 V4 hle4 hb4 => ?_)
  refine o_call (.a (.v _)) rfl rfl fnok56 rfl rfl rfl (fun hg E w1 hm => by exact within_c V4 _ [IntKind.i64.wrap (g.per + 2), g.journal, 64] _ hm.leV (SlOf.ofBlock (enc := encI) (sz := 1) (l := [IntKind.i64.wrap (g.per + 2), g.journal, 64]) (hb4 hg) rfl (fun _ => rfl) (Nat.le_refl _)) (by simp [lim])) ?_
  refine o_yield rfl rfl rfl (y_val tok rfl) ?_
  refine o_yield rfl rfl rfl (y_val tok rfl) ?_
  refine o_yield rfl rfl rfl (y_val tok rfl) ?_
  refine o_yield rfl rfl rfl (y_val tok rfl) ?_
  refine o_yield rfl rfl rfl (y_val tok rfl) ?_
  refine o_yield rfl rfl rfl (y_val tok rfl) ?_
  refine o_yield rfl rfl rfl (y_val tok rfl) ?_
  refine o_bs tok rfl rfl rfl rfl (fun b5 V5 hle5 hb5 => ?_)
  refine o_call (.a (.v _)) rfl rfl fnok56 rfl rfl rfl (fun hg E w1 hm => by exact within_c V5 _ [IntKind.i64.wrap (8 * g.slots), g.log, 512] _ hm.leV (SlOf.ofBlock (enc := encI) (sz := 1) (l := [IntKind.i64.wrap (8 * g.slots), g.log, 512]) (hb5 hg) rfl (fun _ => rfl) (Nat.le_refl _)) (by simp [lim])) ?_
  refine o_yield rfl rfl rfl (y_val tok rfl) ?_
  refine o_yield rfl rfl rfl (y_val tok rfl) ?_
  refine o_yield rfl rfl rfl (y_val tok rfl) ?_
  refine o_yield rfl rfl rfl (y_val tok rfl) ?_
  refine o_yield rfl rfl rfl (y_val tok rfl) ?_
  refine o_yield rfl rfl rfl (y_val tok rfl) ?_
  refine o_yield rfl rfl rfl (y_val tok rfl) ?_
  refine o_bs tok rfl rfl rfl rfl (fun b6 V6 hle6 hb6 => ?_)
  refine o_call (.a (.v _)) rfl rfl fnok56 rfl rfl rfl (fun hg E w1 hm => by exact within_c V6 _ [1, g.lease, IntKind.i64.wrap (g.wait - 1), 1048575] _ hm.leV (SlOf.ofBlock (enc := encI) (sz := 1) (l := [1, g.lease, IntKind.i64.wrap (g.wait - 1), 1048575]) (hb6 hg) rfl (fun _ => rfl) (Nat.le_refl _)) (by simp [lim])) ?_
  refine o_yield rfl rfl rfl (y_val tok rfl) ?_
  refine o_yield rfl rfl rfl (y_val tok rfl) ?_
  refine o_end [2] rfl ?_
  refine x_then ?_
  refine c_ret ?_
  refine b_ret tok rfl ?_
  intro E w' hm _
  refine ⟨?_, hm.below (((((hle1.trans hle2).trans hle3).trans hle4).trans hle5).trans hle6)⟩
  show Ending.returned (.bool (((((sortedB [1, g.slots, g.nodes, 16] && sortedB [1, g.blocks, 64]) && sortedB [1, g.per, 8]) && sortedB [IntKind.i64.wrap (g.per + 2), g.journal, 64]) && sortedB [IntKind.i64.wrap (8 * g.slots), g.log, 512]) &&
    sortedB [1, g.lease, IntKind.i64.wrap (g.wait - 1), 1048575])) = _
  congr 2
  have hw := ok.wait
  simp only [R64] at hw
  by_cases h : (1 ≤ g.nodes ∧ g.nodes ≤ 16) ∧ (1 ≤ g.slots ∧ g.slots ≤ g.nodes) ∧ (1 ≤ g.per ∧ g.per ≤ 8)
  · rw [wrapI (n := g.per + 2) (by omega) (by omega), wrapI (n := 8 * g.slots) (by omega) (by omega)]
    by_cases hwait : g.wait = -9223372036854775808
    · have : geoB g = false := by
        simp only [geoB, decide_eq_false_iff_not]
        omega
      rw [this, hwait]
      simp [sortedB]
      intros
      decide
    · rw [wrapI (n := g.wait - 1) (by omega) (by omega), Bool.eq_iff_iff]
      simp only [sortedB, geoB, Bool.and_eq_true, decide_eq_true_eq, and_true]
      omega
  · have : geoB g = false := by
      simp only [geoB, decide_eq_false_iff_not]
      omega
    rw [this, Bool.eq_false_iff]
    simp only [sortedB, ne_eq, Bool.and_eq_true, decide_eq_true_eq]
    omega
end Go.Proofs.Ytipmgnhbcaniiaa

/- Records: which may be. -/
set_option linter.unusedVariables false
set_option linter.unusedSimpArgs false
set_option maxRecDepth 100000
namespace Go.Proofs.Ytipmgnhbcaniiaa
open Go Go.Eng Go.RowKit

def belowB (n m : Int) : Bool := decide (0 ≤ n) && decide (n < m)

def keyB (n : Int) : Bool := decide (16 ≤ n) && decide (n ≤ 1099511627776)

end Go.Proofs.Ytipmgnhbcaniiaa

/- A transaction's records: cutting texts, the closure that puts. -/
set_option linter.unusedVariables false
set_option linter.unusedSimpArgs false
set_option maxRecDepth 100000
namespace Go.Proofs.Ytipmgnhbcaniiaa
open Go Go.Eng Go.RowKit


def headOf (s : ByteArray) : ByteArray := s.extract 0 (min s.size 256)
def tailOf (s : ByteArray) : ByteArray := s.extract (min s.size 256) s.size

abbrev Ptr (b : Nat) : Value := .pointer (some ⟨b, 0, none⟩)

section
variable {o : Oper} {n : Nat} {F : Frame0} {C : List Nat} {O : Go.Eng.Own} {nl : Nat} {V : Vw}

end
end Go.Proofs.Ytipmgnhbcaniiaa

/- A transaction's records: the walk of record.Of. -/
set_option linter.unusedVariables false
set_option linter.unusedSimpArgs false
set_option maxRecDepth 100000
namespace Go.Proofs.Ytipmgnhbcaniiaa
open Go Go.Eng Go.RowKit

def restAt (t : ByteArray) : Nat → ByteArray
  | 0 => t
  | k + 1 => tailOf (restAt t k)

def blkAt (l : List Block) (i : Nat) : Block := l.getD i ⟨0, ByteArray.empty⟩

theorem blkAt_eq {l : List Block} {i : Nat} {b : Block} (h : l[i]? = some b) : blkAt l i = b := by simp [blkAt, List.getD, h]

def lastN (l : List Block) : Nat → Int
  | 0 => -1
  | i + 1 => (blkAt l i).n

structure BlkOk (g : Geo) (l : List Block) (i : Nat) (b : Block) : Prop where
  last : lastN l i < b.n
  blocks : b.n < g.blocks
  size : (b.text.size : Int) ≤ g.per * 256

end Go.Proofs.Ytipmgnhbcaniiaa

/- How many records are whole, how many a transaction has; blocks that are too great. -/
set_option linter.unusedVariables false
set_option linter.unusedSimpArgs false
set_option maxRecDepth 100000
namespace Go.Proofs.Ytipmgnhbcaniiaa
open Go Go.Eng Go.RowKit

theorem drop_at {α : Type} {l : List α} {k : Nat} {x : α} (h : l[k]? = some x) : l.drop k = x :: l.drop (k + 1) := by
  have hlt := (List.getElem?_eq_some_iff.1 h).1
  rw [List.drop_eq_getElem_cons hlt, (List.getElem?_eq_some_iff.1 h).2]

def manyOf (g : Geo) (n : Int) : Int := if geoB g = true ∧ 1 ≤ n then g.per * min n 1099511627776 + 1 else 0

def greatB (l : List Block) : Bool := ((l.take 71).any fun b => decide (5000 < (b.text.size : Int))) || decide (70 < (l.length : Int))

theorem great_c (V : Vw) (sv : Value) (l : List Block) (w : World) (hV : V.le (vw w)) (hs : SlOf V Block.cells 2 sv l) (hn : l.length ≤ maxLen) :
    Calls Try.prog 4 #[sv] w fun e w' => e = .returned (.bool (greatB l)) ∧ Below w.heap.size w w' := by
  have hs' := hs.mono hV
  refine enter (E := E0) (O := []) (nl := 0) (V := vw w) [.a (.v sv)] Try.func4 rfl rfl (mem0 E0 0 w) rfl rfl ?_
  refine c_seq ?_
  refine c_region ?_
  refine o_yield rfl rfl rfl (y_val tok rfl) ?_
  refine o_end [0] rfl ?_
  refine x_then ?_
  refine c_seq ?_
  refine c_seq ?_
  refine c_region ?_
  refine o_yield rfl rfl rfl (y_val tok rfl) ?_
  refine o_end [0, 3] rfl ?_
  refine x_then ?_
  refine c_block ?_
  refine c_loop (σ := Nat) (fun k => [(0, .a (.v sv)), (3, .a (.v (I k)))]) (fun _ => []) 0 (fun _ => vw w)
    (fun k => k ≤ l.length ∧ k ≤ 71 ∧ ∀ j b, j < k → l[j]? = some b → (fun b : Block => decide (5000 < (b.text.size : Int))) b = false) (fun k => 71 - k) 0 ⟨by omega, by omega, by omega⟩ ⟨rfl, rfl, trivial⟩ trivial rfl (Vw.le.refl _) ?_
  rintro k ⟨hk, hk71, hall⟩
  refine c_seq ?_
  refine c_seq ?_
  refine c_region ?_
  refine o_yield rfl rfl rfl (y_val tok rfl) ?_
  refine o_yield rfl rfl rfl (y_val tok rfl) ?_
  refine o_yield rfl rfl rfl (y_len tok rfl (fun hg => hs'.sl)) ?_
  refine o_yield rfl rfl rfl (y_val tok rfl) ?_
  refine o_yield rfl rfl rfl (y_val tok rfl) ?_
  refine o_yield rfl rfl rfl (y_val tok rfl) ?_
  refine o_yield rfl rfl rfl (y_val tok rfl) ?_
  refine o_yield rfl rfl rfl (y_val tok rfl) ?_
  refine o_end [0, 3, 11] rfl ?_
  refine x_then ?_
  refine c_cond rfl (fun h => ?_) (fun h => ?_)
  ·
    refine c_skip ?_
    refine x_then ?_
    refine c_seq ?_
    refine c_block ?_
    refine c_seq ?_
    refine c_region ?_
    refine o_yield rfl rfl rfl (y_val tok rfl) ?_
    refine o_yield rfl rfl rfl (y_val tok rfl) ?_
    have hlt : k < l.length ∧ k ≤ 70 := by simp at h; omega
    obtain ⟨b, hb⟩ : ∃ b, l[k]? = some b := ⟨l[k]'hlt.1, by simp [hlt.1]⟩
    refine o_yield rfl rfl rfl (y_idx tok rfl (fun hg => hs'.sl) (fun hg => ⟨by omega, by omega⟩)) ?_
    refine o_yield rfl rfl rfl (y_fel tok rfl (fun hg => hs'.sl) (fun hg => by omega)) ?_
    refine o_yield rfl rfl rfl (y_lel tok (k) 1 (b) rfl (fun hg => hs') (fun hg => hb) rfl rfl) ?_
    refine o_yield rfl rfl rfl (y_val tok rfl) ?_
    refine o_yield rfl rfl rfl (y_val tok rfl) ?_
    refine o_end [0, 3, 20] rfl ?_
    refine x_then ?_
    refine c_cond rfl (fun h => ?_) (fun h => ?_)
    ·
      refine c_seq ?_
      refine c_region ?_
      refine o_yield rfl rfl rfl (y_val tok rfl) ?_
      refine o_end [2] rfl ?_
      refine x_then ?_
      refine c_ret ?_
      refine x_block_ret ?_
      refine x_then_ret ?_
      refine x_then_ret ?_
      refine x_block_ret ?_
      refine x_then_ret ?_
      refine b_ret tok rfl ?_
      intro E w' hm _
      refine ⟨?_, hm.below (Vw.le.refl _)⟩
      have : greatB l = true := by
        unfold greatB
        rw [Bool.or_eq_true]
        left
        rw [List.any_eq_true]
        exact ⟨b, List.mem_of_getElem? (i := k) (by rw [List.getElem?_take_of_lt (by omega)]; exact hb), h⟩
      rw [this]; rfl
    ·
      refine c_skip ?_
      refine x_block ?_
      refine x_then ?_
      refine c_region ?_
      refine o_yield rfl rfl rfl (y_val tok rfl) ?_
      refine o_yield rfl rfl rfl (y_val tok rfl) ?_
      refine o_yield rfl rfl rfl (y_val tok rfl) ?_
      refine o_end [0, 3] rfl ?_
      refine x_then ?_
      rw [wrapI (by omega) (by omega)]
      exact x_round (k + 1) ⟨by omega, by omega, ahead_succ hb hall h⟩ (by omega) ⟨rfl, rfl, trivial⟩ trivial rfl (Vw.le.refl _)
  ·
    refine c_exit ?_
    refine x_then_exit ?_
    refine x_then_exit ?_
    refine x_block_hit ?_
    refine x_then ?_
    refine c_seq ?_
    refine c_region ?_
    refine o_yield rfl rfl rfl (y_val tok rfl) ?_
    refine o_yield rfl rfl rfl (y_len tok rfl (fun hg => hs'.sl)) ?_
    refine o_yield rfl rfl rfl (y_val tok rfl) ?_
    refine o_yield rfl rfl rfl (y_val tok rfl) ?_
    refine o_end [2] rfl ?_
    refine x_then ?_
    refine c_ret ?_
    refine b_ret tok rfl ?_
    intro E w' hm _
    refine ⟨?_, hm.below (Vw.le.refl _)⟩
    have : greatB l = decide (70 < (l.length : Int)) := by
      unfold greatB
      have h1 : ((l.take 71).any fun b => decide (5000 < (b.text.size : Int))) = false := by
        rw [Bool.eq_false_iff]
        intro hc
        rw [List.any_eq_true] at hc
        obtain ⟨b, hb, hb2⟩ := hc
        obtain ⟨j, hj⟩ := List.getElem?_of_mem hb
        rw [List.getElem?_take] at hj
        split at hj
        · rename_i hj71
          have hjl := (List.getElem?_eq_some_iff.1 hj).1
          have := hall j b (by simp at h; omega) hj
          simp only at this
          rw [this] at hb2
          cases hb2
        · cases hj
      rw [h1, Bool.false_or]
    rw [this]; rfl
end Go.Proofs.Ytipmgnhbcaniiaa

/- A text's pieces put together: plain law. -/
set_option linter.unusedVariables false
set_option linter.unusedSimpArgs false
set_option maxRecDepth 100000
namespace Go.Proofs.Ytipmgnhbcaniiaa
open Go Go.Eng Go.RowKit

/-- The first k pieces. -/
def catTo (t : ByteArray) : Nat → ByteArray
  | 0 => ByteArray.empty
  | k + 1 => catTo t k ++ headOf (restAt t k)

end Go.Proofs.Ytipmgnhbcaniiaa

/- The law RecordTexts from what comes in. -/
set_option linter.unusedVariables false
set_option linter.unusedSimpArgs false
set_option maxRecDepth 100000
namespace Go.Proofs.Ytipmgnhbcaniiaa
open Go Go.Eng Go.RowKit

end Go.Proofs.Ytipmgnhbcaniiaa

/- Whole transactions, one behind the other: plain law. -/
set_option linter.unusedVariables false
set_option linter.unusedSimpArgs false
set_option maxRecDepth 100000
namespace Go.Proofs.Ytipmgnhbcaniiaa
open Go Go.Eng Go.RowKit

end Go.Proofs.Ytipmgnhbcaniiaa

/- Numbers as bytes: widths, what fits, what stands somewhere. -/
set_option linter.unusedVariables false
set_option linter.unusedSimpArgs false
set_option maxRecDepth 100000
namespace Go.Proofs.Ytipmgnhbcaniiaa
open Go Go.Eng Go.RowKit

def widthB (w : Int) : Bool := decide (1 ≤ w) && decide (w ≤ 6)

/-- The greatest number of a width. -/
def mostN (k : Nat) : Nat := min (256 ^ k - 1) 1099511627776

def fitsB (n w : Int) : Bool := widthB w && decide (0 ≤ n) && decide (n ≤ mostN w.toNat)

/-- A width's greatest number; -1: it is none. -/
def mostI (k : Int) : Int := if widthB k = true then mostN k.toNat else -1

/-- A power of 256. -/
def pw (k : Nat) : Nat := 256 ^ k
theorem pw_succ (k : Nat) : pw (k + 1) = pw k * 256 := by simp [pw, Nat.pow_succ]
theorem pw_pos (k : Nat) : 1 ≤ pw k := Nat.pow_pos (by omega)
theorem pw_le {k m : Nat} (h : k ≤ m) : pw k ≤ pw m := Nat.pow_le_pow_right (by omega) h
theorem pw6 : pw 6 = 281474976710656 := by decide
theorem pw_le6 {k : Nat} (h : k ≤ 6) : pw k ≤ 281474976710656 := pw6 ▸ pw_le h

theorem refMost_c (k : Int) (w : World) : Calls Try.prog 52 #[I k] w fun e w' => e = .returned (I (mostI k)) ∧ Below w.heap.size w w' := by
  refine enter (E := E0) (O := []) (nl := 0) (V := vw w) [.a (.v (I k))] Try.func52 rfl rfl (mem0 E0 0 w) rfl rfl ?_
  refine c_seq ?_
  refine c_region ?_
  refine o_yield rfl rfl rfl (y_val tok rfl) ?_
  refine o_end [0] rfl ?_
  refine x_then ?_
  refine c_seq ?_
  refine c_seq ?_
  refine c_region ?_
  refine o_yield rfl rfl rfl (y_val tok rfl) ?_
  refine o_yield rfl rfl rfl (y_val tok rfl) ?_
  refine o_yield rfl rfl rfl (y_val tok rfl) ?_
  refine o_yield rfl rfl rfl (y_val tok rfl) ?_
  refine o_yield rfl rfl rfl (y_val tok rfl) ?_
  refine o_yield rfl rfl rfl (y_val tok rfl) ?_
  refine o_end [0, 10] rfl ?_
  refine x_then ?_
  refine c_cond rfl (fun h => ?_) (fun h => ?_)
  ·
    simp only [Bool.and_eq_true, Bool.or_eq_true, Bool.not_eq_true', Bool.or_eq_false_iff, Bool.and_eq_false_iff, decide_eq_true_eq, decide_eq_false_iff_not, beq_iff_eq, bne_iff_ne, Bool.not_eq_false', beq_eq_false_iff_ne, bne_eq_false_iff_eq, ne_eq, Decidable.not_not, Int.not_lt, Int.not_le] at h
    refine c_seq ?_
    refine c_region ?_
    refine o_yield rfl rfl rfl (y_val tok rfl) ?_
    refine o_end [2] rfl ?_
    refine x_then ?_
    refine c_ret ?_
    refine x_then_ret ?_
    refine b_ret tok rfl ?_
    intro E w' hm _
    refine ⟨?_, hm.below (Vw.le.refl _)⟩
    rw [mostI, if_neg (by simp [widthB]; omega)]
    rfl
  ·
    simp only [Bool.and_eq_true, Bool.or_eq_true, Bool.not_eq_true', Bool.or_eq_false_iff, Bool.and_eq_false_iff, decide_eq_true_eq, decide_eq_false_iff_not, beq_iff_eq, bne_iff_ne, Bool.not_eq_false', beq_eq_false_iff_ne, bne_eq_false_iff_eq, ne_eq, Decidable.not_not, Int.not_lt, Int.not_le] at h
    refine c_skip ?_
    refine x_then ?_
    refine c_seq ?_
    refine c_region ?_
    refine o_yield rfl rfl rfl (y_val tok rfl) ?_
    refine o_end [0, 3] rfl ?_
    refine x_then ?_
    refine c_seq ?_
    refine c_seq ?_
    refine c_region ?_
    refine o_yield rfl rfl rfl (y_val tok rfl) ?_
    refine o_end [0, 3, 4] rfl ?_
    refine x_then ?_
    refine c_block ?_
    obtain ⟨m, hm⟩ : ∃ m : Nat, k = m := ⟨k.toNat, by omega⟩
    subst hm
    refine c_loopK [0] [] rfl rfl (σ := Nat) (fun i => [(3, .a (.v (I (pw i)))), (4, .a (.v (I i)))]) (fun i => []) (fun i => i ≤ m) (fun i => m - i) (0) (by omega) (by repeat (first | exact SubF.nil | refine SubF.cons rfl ?_)) (by repeat (first | exact SubO.nil | refine SubO.cons rfl ?_)) rfl ?_
    rintro i hi
    refine c_seq ?_
    refine c_seq ?_
    refine c_region ?_
    refine o_yield rfl rfl rfl (y_val tok rfl) ?_
    refine o_yield rfl rfl rfl (y_val tok rfl) ?_
    refine o_yield rfl rfl rfl (y_val tok rfl) ?_
    refine o_end [0, 3, 4, 13] rfl ?_
    refine x_then ?_
    refine c_cond rfl (fun h => ?_) (fun h => ?_)
    ·
      simp only [Bool.and_eq_true, Bool.or_eq_true, Bool.not_eq_true', Bool.or_eq_false_iff, Bool.and_eq_false_iff, decide_eq_true_eq, decide_eq_false_iff_not, beq_iff_eq, bne_iff_ne, Bool.not_eq_false', beq_eq_false_iff_ne, bne_eq_false_iff_eq, ne_eq, Decidable.not_not, Int.not_lt, Int.not_le] at h
      refine c_skip ?_
      refine x_then ?_
      refine c_seq ?_
      refine c_block ?_
      refine c_region ?_
      refine o_yield rfl rfl rfl (y_val tok rfl) ?_
      refine o_yield rfl rfl rfl (y_val tok rfl) ?_
      refine o_yield rfl rfl rfl (y_val tok rfl) ?_
      refine o_end [0, 3, 4] rfl ?_
      refine x_block ?_
      refine x_then ?_
      refine c_region ?_
      refine o_yield rfl rfl rfl (y_val tok rfl) ?_
      refine o_yield rfl rfl rfl (y_val tok rfl) ?_
      refine o_yield rfl rfl rfl (y_val tok rfl) ?_
      refine o_end [0, 3, 4] rfl ?_
      refine x_then ?_
      have hp := pw_le6 (k := i) (by omega)
      rw [wrapI (n := (pw i : Int) * 256) (by omega) (by omega), wrapI (n := (i : Int) + 1) (by omega) (by omega), show (pw i : Int) * 256 = (pw (i + 1) : Int) by rw [pw_succ]; omega]
      refine x_round (i + 1) (by omega) (by first | omega | (dsimp only; omega)) (by repeat (first | exact SubF.nil | refine SubF.cons rfl ?_)) (by repeat (first | exact SubO.nil | refine SubO.cons rfl ?_)) rfl (Vw.le.refl _)
    ·
      simp only [Bool.and_eq_true, Bool.or_eq_true, Bool.not_eq_true', Bool.or_eq_false_iff, Bool.and_eq_false_iff, decide_eq_true_eq, decide_eq_false_iff_not, beq_iff_eq, bne_iff_ne, Bool.not_eq_false', beq_eq_false_iff_ne, bne_eq_false_iff_eq, ne_eq, Decidable.not_not, Int.not_lt, Int.not_le] at h
      refine c_exit ?_
      refine x_then_exit ?_
      refine x_then_exit ?_
      refine x_block_hit ?_
      refine x_then ?_
      refine c_seq ?_
      refine c_region ?_
      refine o_yield rfl rfl rfl (y_val tok rfl) ?_
      refine o_yield rfl rfl rfl (y_val tok rfl) ?_
      have him : i = m := by omega
      subst him
      have hp := pw_le6 (k := i) (by omega)
      have h1 := pw_pos i
      rw [wrapI (n := (pw i : Int) - 1) (by omega) (by omega)]
      refine o_yield rfl rfl rfl (y_mm rfl) ?_
      refine o_yield rfl rfl rfl (y_val tok rfl) ?_
      refine o_end [2] rfl ?_
      refine x_then ?_
      refine c_ret ?_
      refine b_ret tok rfl ?_
      intro E w' hm _
      refine ⟨?_, hm.below (Vw.le.refl _)⟩
      rw [mostI, if_pos (by simp [widthB]; omega), Int.toNat_natCast, mostN]
      show Ending.returned (I (min ((pw i : Int) - 1) 1099511627776)) = _
      rw [show min ((pw i : Int) - 1) 1099511627776 = ((min (pw i - 1) 1099511627776 : Nat) : Int) by omega]
      rfl

theorem refFits_c (n k : Int) (w : World) : Calls Try.prog 53 #[I n, I k] w fun e w' => e = .returned (.bool (fitsB n k)) ∧ Below w.heap.size w w' := by
  refine enter (E := E0) (O := []) (nl := 0) (V := vw w) [.a (.v (I n)), .a (.v (I k))] Try.func53 rfl rfl (mem0 E0 0 w) rfl rfl ?_
  refine c_seq ?_
  refine c_region ?_
  refine o_yield rfl rfl rfl (y_val tok rfl) ?_
  refine o_end [0, 1] rfl ?_
  refine x_then ?_
  refine c_seq ?_
  refine c_region ?_
  refine o_yield rfl rfl rfl (y_val tok rfl) ?_
  refine o_yield rfl rfl rfl (y_val tok rfl) ?_
  refine o_yield rfl rfl rfl (y_val tok rfl) ?_
  refine o_yield rfl rfl rfl (y_val tok rfl) ?_
  refine o_yield rfl rfl rfl (y_val tok rfl) ?_
  refine o_call (.a (.v _)) rfl rfl fnok52 rfl rfl rfl (fun hg E w1 hm => by exact refMost_c _ _) ?_
  refine o_yield rfl rfl rfl (y_val tok rfl) ?_
  refine o_yield rfl rfl rfl (y_val tok rfl) ?_
  refine o_yield rfl rfl rfl (y_val tok rfl) ?_
  refine o_end [4] rfl ?_
  refine x_then ?_
  refine c_ret ?_
  refine b_ret tok rfl ?_
  intro E w' hm _
  refine ⟨?_, hm.below (Vw.le.refl _)⟩
  show Ending.returned (.bool (decide (0 ≤ n) && decide (n ≤ mostI k))) = _
  congr 2
  unfold mostI fitsB
  cases hw : widthB k with
  | true => simp
  | false => simp; omega

/-- Digits to the base of 256, the least first. -/
def leTo (f : Nat → Nat) : Nat → Nat
  | 0 => 0
  | k + 1 => leTo f k + f k * pw k

theorem pw_two (k : Nat) : pw k = 2 ^ (8 * k) := by rw [pw, Nat.pow_mul]

def digit (s : ByteArray) (at_ j : Nat) : Nat := (byteAt s (at_ + j)).toNat

/-- The number that stands at a place, or why there is none. -/
def getSpec (s : ByteArray) (at_ k : Int) : Int × Int :=
  if widthB k = false then (0, 2)
  else if at_ < 0 ∨ (s.size : Int) < at_ ∨ (s.size : Int) - at_ < k then (0, 10)
  else if 1099511627776 < leTo (digit s at_.toNat) k.toNat then (0, 10)
  else ((leTo (digit s at_.toNat) k.toNat : Nat), 0)

end Go.Proofs.Ytipmgnhbcaniiaa

/- Sums of bytes: the program's table and the document's steps. -/
set_option linter.unusedVariables false
set_option linter.unusedSimpArgs false
set_option maxRecDepth 100000
namespace Go.Proofs.Ytipmgnhbcaniiaa
open Go Go.Eng Go.RowKit

def crcStep (x : Nat) : Nat := if x % 2 = 1 then x / 2 ^^^ 2197175160 else x / 2

theorem crcStep_lt {x : Nat} (h : x < 4294967296) : crcStep x < 4294967296 := by
  unfold crcStep
  split
  · exact Nat.xor_lt_two_pow (n := 32) (by omega) (by omega)
  · omega

def stepN : Nat → Nat → Nat
  | 0, x => x
  | k + 1, x => crcStep (stepN k x)

theorem stepN_lt : ∀ (k : Nat) {x : Nat}, x < 4294967296 → stepN k x < 4294967296
  | 0, _, h => h
  | k + 1, _, h => crcStep_lt (stepN_lt k h)

abbrev U (n : Nat) : Value := .int .u32 (n : Int)

/-- A sum's bytes, one by one. -/
def crcFold (x : Nat) (l : List UInt8) : Nat := l.foldl (fun x b => stepN 8 (x ^^^ b.toNat)) x

theorem byte_lt (b : UInt8) : b.toNat < 4294967296 := by have := UInt8.toNat_lt b; omega

theorem crcFold_lt : ∀ (l : List UInt8) {x : Nat}, x < 4294967296 → crcFold x l < 4294967296
  | [], _, h => h
  | b :: r, x, h => crcFold_lt r (stepN_lt 8 (Nat.xor_lt_two_pow (n := 32) h (byte_lt b)))

theorem crcFold_snoc (x : Nat) (l : List UInt8) (b : UInt8) : crcFold x (l ++ [b]) = stepN 8 (crcFold x l ^^^ b.toNat) := by simp [crcFold]

def crcOf (l : List UInt8) : Nat := crcFold 4294967295 l ^^^ 4294967295

theorem crcOf_lt (l : List UInt8) : crcOf l < 4294967296 := Nat.xor_lt_two_pow (n := 32) (crcFold_lt l (by omega)) (by omega)

/-- The table as it is filled, behind the register. -/
def tabC (i : Nat) : List Value := (List.range 16).map fun j => U (if j < i then stepN 4 j else 0)
def regC (x : Nat) (i : Nat) : List Value := U x :: tabC i

/-! The document's steps. -/

theorem refStep_c (x : Nat) (hx : x < 4294967296) (w : World) : Calls Try.prog 84 #[I x] w fun e w' => e = .returned (I (crcStep x)) ∧ Below w.heap.size w w' := by
  have h1 : bits .and .i64 (x : Int) 1 = ((x % 2 : Nat) : Int) := by
    have := i64_and x 1 (by omega) (by omega)
    rw [nat_mask1] at this
    exact this
  have h2 : (x : Int) / 2 ^ (1 : Int).toNat = ((x / 2 : Nat) : Int) := by
    show (x : Int) / 2 ^ 1 = _
    omega
  refine enter (E := E0) (O := []) (nl := 0) (V := vw w) [.a (.v (I x))] Try.func84 rfl rfl (mem0 E0 0 w) rfl rfl ?_
  refine c_seq ?_
  refine c_region ?_
  refine o_yield rfl rfl rfl (y_val tok rfl) ?_
  refine o_end [0] rfl ?_
  refine x_then ?_
  refine c_seq ?_
  refine c_seq ?_
  refine c_region ?_
  refine o_yield rfl rfl rfl (y_val tok rfl) ?_
  refine o_yield rfl rfl rfl (y_val tok rfl) ?_
  refine o_yield rfl rfl rfl (y_val tok rfl) ?_
  refine o_end [0, 5] rfl ?_
  refine x_then ?_
  refine c_cond rfl (fun h => ?_) (fun h => ?_)
  ·
    simp only [Bool.and_eq_true, Bool.or_eq_true, Bool.not_eq_true', Bool.or_eq_false_iff, Bool.and_eq_false_iff, decide_eq_true_eq, decide_eq_false_iff_not, beq_iff_eq, bne_iff_ne, Bool.not_eq_false', beq_eq_false_iff_ne, bne_eq_false_iff_eq, ne_eq, Decidable.not_not, Int.not_lt, Int.not_le] at h
    refine c_seq ?_
    refine c_region ?_
    refine o_yield rfl rfl rfl (y_val tok rfl) ?_
    rw [h1] at h
    refine o_yield rfl rfl rfl (y_shr rfl (fun hg => ⟨by decide, by decide⟩)) ?_
    refine o_yield rfl rfl rfl (y_val tok rfl) ?_
    refine o_yield rfl rfl rfl (y_val tok rfl) ?_
    refine o_end [2] rfl ?_
    refine x_then ?_
    refine c_ret ?_
    refine x_then_ret ?_
    refine b_ret tok rfl ?_
    intro E w' hm _
    refine ⟨?_, hm.below (Vw.le.refl _)⟩
    show Ending.returned (I (bits .xor .i64 ((x : Int) / 2 ^ (1 : Int).toNat) ((2197175160 : Nat) : Int))) = _
    rw [h2, i64_xor _ _ (by omega) (by omega), crcStep, if_pos (by omega)]
  ·
    simp only [Bool.and_eq_true, Bool.or_eq_true, Bool.not_eq_true', Bool.or_eq_false_iff, Bool.and_eq_false_iff, decide_eq_true_eq, decide_eq_false_iff_not, beq_iff_eq, bne_iff_ne, Bool.not_eq_false', beq_eq_false_iff_ne, bne_eq_false_iff_eq, ne_eq, Decidable.not_not, Int.not_lt, Int.not_le] at h
    refine c_skip ?_
    refine x_then ?_
    refine c_seq ?_
    refine c_region ?_
    refine o_yield rfl rfl rfl (y_val tok rfl) ?_
    rw [h1] at h
    refine o_yield rfl rfl rfl (y_shr rfl (fun hg => ⟨by decide, by decide⟩)) ?_
    refine o_yield rfl rfl rfl (y_val tok rfl) ?_
    refine o_end [2] rfl ?_
    refine x_then ?_
    refine c_ret ?_
    refine b_ret tok rfl ?_
    intro E w' hm _
    refine ⟨?_, hm.below (Vw.le.refl _)⟩
    show Ending.returned (I ((x : Int) / 2 ^ (1 : Int).toNat)) = _
    rw [h2, crcStep, if_neg (by omega)]

theorem mask_low {x : Nat} (h : x < 4294967296) : x &&& 4294967295 = x := by
  have := Nat.and_two_pow_sub_one_eq_mod x 32
  rw [show (2 : Nat) ^ 32 - 1 = 4294967295 by decide] at this
  rw [this]; omega

theorem refMove_c (x : Nat) (hx : x < 4294967296) (w : World) : Calls Try.prog 83 #[I x, I 1] w fun e w' => e = .returned (I (stepN 8 x)) ∧ Below w.heap.size w w' := by
  have hmk : bits .and .i64 (x : Int) 4294967295 = (x : Int) := by
    have := i64_and x 4294967295 (by omega) (by omega)
    rw [mask_low hx] at this
    exact this
  refine enter (E := E0) (O := []) (nl := 0) (V := vw w) [.a (.v (I x)), .a (.v (I 1))] Try.func83 rfl rfl (mem0 E0 0 w) rfl rfl ?_
  refine c_seq ?_
  refine c_region ?_
  refine o_yield rfl rfl rfl (y_val tok rfl) ?_
  refine o_end [0, 1] rfl ?_
  refine x_then ?_
  refine c_seq ?_
  refine c_region ?_
  refine o_yield rfl rfl rfl (y_val tok rfl) ?_
  refine o_yield rfl rfl rfl (y_val tok rfl) ?_
  refine o_yield rfl rfl rfl (y_val tok rfl) ?_
  refine o_end [0, 1] rfl ?_
  refine x_then ?_
  refine c_seq ?_
  refine c_seq ?_
  refine c_region ?_
  refine o_yield rfl rfl rfl (y_val tok rfl) ?_
  refine o_end [0, 1, 5] rfl ?_
  refine x_then ?_
  refine c_block ?_
  rw [hmk]
  refine c_loopK [1] [] rfl rfl (σ := Nat) (fun i => [(0, .a (.v (I (stepN (8 * i) x)))), (5, .a (.v (I i)))]) (fun i => []) (fun i => i ≤ 1) (fun i => 1 - i) (0) (by omega) (by repeat (first | exact SubF.nil | refine SubF.cons rfl ?_)) (by repeat (first | exact SubO.nil | refine SubO.cons rfl ?_)) rfl ?_
  rintro i hi
  refine c_seq ?_
  refine c_seq ?_
  refine c_region ?_
  refine o_yield rfl rfl rfl (y_val tok rfl) ?_
  refine o_yield rfl rfl rfl (y_val tok rfl) ?_
  refine o_yield rfl rfl rfl (y_val tok rfl) ?_
  refine o_end [0, 1, 5, 11] rfl ?_
  refine x_then ?_
  refine c_cond rfl (fun h => ?_) (fun h => ?_)
  ·
    simp only [Bool.and_eq_true, Bool.or_eq_true, Bool.not_eq_true', Bool.or_eq_false_iff, Bool.and_eq_false_iff, decide_eq_true_eq, decide_eq_false_iff_not, beq_iff_eq, bne_iff_ne, Bool.not_eq_false', beq_eq_false_iff_ne, bne_eq_false_iff_eq, ne_eq, Decidable.not_not, Int.not_lt, Int.not_le] at h
    refine c_skip ?_
    refine x_then ?_
    refine c_seq ?_
    refine c_block ?_
    refine c_seq ?_
    refine c_region ?_
    refine o_yield rfl rfl rfl (y_val tok rfl) ?_
    refine o_end [0, 1, 5, 6] rfl ?_
    refine x_then ?_
    refine c_block ?_
    have hi0 : i = 0 := by omega
    subst hi0
    refine c_loopK [1, 5] [] rfl rfl (σ := Nat) (fun k => [(0, .a (.v (I (stepN k x)))), (6, .a (.v (I k)))]) (fun k => []) (fun k => k ≤ 8) (fun k => 8 - k) (0) (by omega) (by repeat (first | exact SubF.nil | refine SubF.cons rfl ?_)) (by repeat (first | exact SubO.nil | refine SubO.cons rfl ?_)) rfl ?_
    rintro k hk
    refine c_seq ?_
    refine c_seq ?_
    refine c_region ?_
    refine o_yield rfl rfl rfl (y_val tok rfl) ?_
    refine o_yield rfl rfl rfl (y_val tok rfl) ?_
    refine o_end [0, 1, 5, 6, 15] rfl ?_
    refine x_then ?_
    refine c_cond rfl (fun h => ?_) (fun h => ?_)
    ·
      simp only [Bool.and_eq_true, Bool.or_eq_true, Bool.not_eq_true', Bool.or_eq_false_iff, Bool.and_eq_false_iff, decide_eq_true_eq, decide_eq_false_iff_not, beq_iff_eq, bne_iff_ne, Bool.not_eq_false', beq_eq_false_iff_ne, bne_eq_false_iff_eq, ne_eq, Decidable.not_not, Int.not_lt, Int.not_le] at h
      refine c_skip ?_
      refine x_then ?_
      refine c_seq ?_
      refine c_block ?_
      refine c_region ?_
      refine o_yield rfl rfl rfl (y_val tok rfl) ?_
      refine o_call (.a (.v _)) rfl rfl fnok84 rfl rfl rfl (fun hg E w1 hm => by exact refStep_c _ (stepN_lt k hx) _) ?_
      refine o_yield rfl rfl rfl (y_val tok rfl) ?_
      refine o_end [0, 1, 5, 6] rfl ?_
      refine x_block ?_
      refine x_then ?_
      refine c_region ?_
      refine o_yield rfl rfl rfl (y_val tok rfl) ?_
      refine o_yield rfl rfl rfl (y_val tok rfl) ?_
      refine o_yield rfl rfl rfl (y_val tok rfl) ?_
      refine o_end [0, 1, 5, 6] rfl ?_
      refine x_then ?_
      rw [wrapI (n := (k : Int) + 1) (by omega) (by omega)]
      refine x_round (k + 1) (by omega) (by first | omega | (dsimp only; omega)) (by repeat (first | exact SubF.nil | refine SubF.cons rfl ?_)) (by repeat (first | exact SubO.nil | refine SubO.cons rfl ?_)) rfl (Vw.le.refl _)
    ·
      simp only [Bool.and_eq_true, Bool.or_eq_true, Bool.not_eq_true', Bool.or_eq_false_iff, Bool.and_eq_false_iff, decide_eq_true_eq, decide_eq_false_iff_not, beq_iff_eq, bne_iff_ne, Bool.not_eq_false', beq_eq_false_iff_ne, bne_eq_false_iff_eq, ne_eq, Decidable.not_not, Int.not_lt, Int.not_le] at h
      refine c_exit ?_
      refine x_then_exit ?_
      refine x_then_exit ?_
      refine x_block_hit ?_
      refine x_block ?_
      refine x_then ?_
      refine c_region ?_
      refine o_yield rfl rfl rfl (y_val tok rfl) ?_
      refine o_yield rfl rfl rfl (y_val tok rfl) ?_
      refine o_yield rfl rfl rfl (y_val tok rfl) ?_
      refine o_end [0, 1, 5] rfl ?_
      refine x_then ?_
      have hk8 : k = 8 := by omega
      subst hk8
      refine x_round (1) (by omega) (by first | omega | (dsimp only; omega)) (by repeat (first | exact SubF.nil | refine SubF.cons rfl ?_)) (by repeat (first | exact SubO.nil | refine SubO.cons rfl ?_)) rfl (Vw.le.refl _)
  ·
    simp only [Bool.and_eq_true, Bool.or_eq_true, Bool.not_eq_true', Bool.or_eq_false_iff, Bool.and_eq_false_iff, decide_eq_true_eq, decide_eq_false_iff_not, beq_iff_eq, bne_iff_ne, Bool.not_eq_false', beq_eq_false_iff_ne, bne_eq_false_iff_eq, ne_eq, Decidable.not_not, Int.not_lt, Int.not_le] at h
    refine c_exit ?_
    refine x_then_exit ?_
    refine x_then_exit ?_
    refine x_block_hit ?_
    refine x_then ?_
    refine c_seq ?_
    refine c_region ?_
    refine o_yield rfl rfl rfl (y_val tok rfl) ?_
    refine o_yield rfl rfl rfl (y_val tok rfl) ?_
    refine o_end [4] rfl ?_
    refine x_then ?_
    refine c_ret ?_
    refine b_ret tok rfl ?_
    have hi1 : i = 1 := by omega
    subst hi1
    intro E w' hm _
    refine ⟨?_, hm.below (Vw.le.refl _)⟩
    rfl

theorem refAdd_c (V : Vw) (lv : Value) (l : List UInt8) (w : World) (hV : V.le (vw w)) (hs : SlOf V encByte 1 lv l) (hn : l.length ≤ maxLen) :
    Calls Try.prog 81 #[I 0, lv] w fun e w' => e = .returned (I (crcOf l)) ∧ Below w.heap.size w w' := by
  have hs' := hs.mono hV
  simp only [maxLen] at hn
  refine enter (E := E0) (O := []) (nl := 0) (V := vw w) [.a (.v (I 0)), .a (.v lv)] Try.func81 rfl rfl (mem0 E0 0 w) rfl rfl ?_
  refine c_seq ?_
  refine c_region ?_
  refine o_yield rfl rfl rfl (y_val tok rfl) ?_
  refine o_end [0, 1] rfl ?_
  refine x_then ?_
  refine c_seq ?_
  refine c_region ?_
  refine o_yield rfl rfl rfl (y_val tok rfl) ?_
  refine o_yield rfl rfl rfl (y_val tok rfl) ?_
  refine o_yield rfl rfl rfl (y_val tok rfl) ?_
  refine o_yield rfl rfl rfl (y_val tok rfl) ?_
  refine o_end [1, 5] rfl ?_
  refine x_then ?_
  refine c_seq ?_
  refine c_seq ?_
  refine c_region ?_
  refine o_yield rfl rfl rfl (y_val tok rfl) ?_
  refine o_end [1, 5, 6] rfl ?_
  refine x_then ?_
  refine c_block ?_
  rw [show bits .xor .i64 (bits .and .i64 0 4294967295) 4294967295 = ((4294967295 : Nat) : Int) by decide +kernel]
  refine c_loopK [1] [] rfl rfl (σ := Nat) (fun i => [(5, .a (.v (I (crcFold 4294967295 (l.take i))))), (6, .a (.v (I i)))]) (fun i => []) (fun i => i ≤ l.length) (fun i => l.length - i) (0) (by omega) (by repeat (first | exact SubF.nil | refine SubF.cons rfl ?_)) (by repeat (first | exact SubO.nil | refine SubO.cons rfl ?_)) rfl ?_
  rintro i hi
  refine c_seq ?_
  refine c_seq ?_
  refine c_region ?_
  refine o_yield rfl rfl rfl (y_val tok rfl) ?_
  refine o_yield rfl rfl rfl (y_val tok rfl) ?_
  refine o_yield rfl rfl rfl (y_len tok rfl (fun hg => hs'.sl)) ?_
  refine o_yield rfl rfl rfl (y_val tok rfl) ?_
  refine o_end [1, 5, 6, 13] rfl ?_
  refine x_then ?_
  refine c_cond rfl (fun h => ?_) (fun h => ?_)
  ·
    simp only [Bool.and_eq_true, Bool.or_eq_true, Bool.not_eq_true', Bool.or_eq_false_iff, Bool.and_eq_false_iff, decide_eq_true_eq, decide_eq_false_iff_not, beq_iff_eq, bne_iff_ne, Bool.not_eq_false', beq_eq_false_iff_ne, bne_eq_false_iff_eq, ne_eq, Decidable.not_not, Int.not_lt, Int.not_le] at h
    refine c_skip ?_
    refine x_then ?_
    refine c_seq ?_
    refine c_block ?_
    refine c_region ?_
    refine o_yield rfl rfl rfl (y_val tok rfl) ?_
    refine o_yield rfl rfl rfl (y_val tok rfl) ?_
    refine o_yield rfl rfl rfl (y_val tok rfl) ?_
    obtain ⟨c, h_c⟩ := hs'.at (k := i) (by omega)
    have hlt_c := lt_of_at h_c
    refine o_yield rfl rfl rfl (y_idx tok rfl (fun hg => hs'.sl) (fun hg => ⟨by omega, by omega⟩)) ?_
    refine o_yield rfl rfl rfl (y_lel tok (i) 0 (c) rfl (fun hg => hs') (fun hg => h_c) rfl rfl) ?_
    refine o_yield rfl rfl rfl (y_val tok rfl) ?_
    refine o_yield rfl rfl rfl (y_val tok rfl) ?_
    have hx1 := crcFold_lt (l.take i) (x := 4294967295) (by omega)
    have hc := UInt8.toNat_lt c
    have hx2 : crcFold 4294967295 (l.take i) ^^^ c.toNat < 4294967296 := Nat.xor_lt_two_pow (n := 32) hx1 (by omega)
    rw [wrapI (n := (c.toNat : Int)) (by omega) (by omega), i64_xor _ _ (by omega) (by omega)]
    refine o_call (.a (.v _)) rfl rfl fnok83 rfl rfl rfl (fun hg E w1 hm => by exact refMove_c _ hx2 _) ?_
    refine o_yield rfl rfl rfl (y_val tok rfl) ?_
    refine o_end [1, 5, 6] rfl ?_
    refine x_block ?_
    refine x_then ?_
    refine c_region ?_
    refine o_yield rfl rfl rfl (y_val tok rfl) ?_
    refine o_yield rfl rfl rfl (y_val tok rfl) ?_
    refine o_yield rfl rfl rfl (y_val tok rfl) ?_
    refine o_end [1, 5, 6] rfl ?_
    refine x_then ?_
    rw [wrapI (n := (i : Int) + 1) (by omega) (by omega), ← crcFold_snoc, ← take_succ_at h_c]
    refine x_round (i + 1) (by omega) (by first | omega | (dsimp only; omega)) (by repeat (first | exact SubF.nil | refine SubF.cons rfl ?_)) (by repeat (first | exact SubO.nil | refine SubO.cons rfl ?_)) rfl (Vw.le.refl _)
  ·
    simp only [Bool.and_eq_true, Bool.or_eq_true, Bool.not_eq_true', Bool.or_eq_false_iff, Bool.and_eq_false_iff, decide_eq_true_eq, decide_eq_false_iff_not, beq_iff_eq, bne_iff_ne, Bool.not_eq_false', beq_eq_false_iff_ne, bne_eq_false_iff_eq, ne_eq, Decidable.not_not, Int.not_lt, Int.not_le] at h
    refine c_exit ?_
    refine x_then_exit ?_
    refine x_then_exit ?_
    refine x_block_hit ?_
    refine x_then ?_
    refine c_seq ?_
    refine c_region ?_
    refine o_yield rfl rfl rfl (y_val tok rfl) ?_
    refine o_yield rfl rfl rfl (y_val tok rfl) ?_
    refine o_yield rfl rfl rfl (y_val tok rfl) ?_
    refine o_end [4] rfl ?_
    refine x_then ?_
    refine c_ret ?_
    refine b_ret tok rfl ?_
    have hil : i = l.length := by omega
    subst hil
    intro E w' hm _
    refine ⟨?_, hm.below (Vw.le.refl _)⟩
    rw [List.take_length]
    have hx1 := crcFold_lt l (x := 4294967295) (by omega)
    have := i64_xor (crcFold 4294967295 l) 4294967295 (by omega) (by omega)
    show Ending.returned (I (bits .xor .i64 (crcFold 4294967295 l : Nat) ((4294967295 : Nat) : Int))) = _
    rw [this]
    rfl

theorem refSum_c (V : Vw) (lv : Value) (l : List UInt8) (w : World) (hV : V.le (vw w)) (hs : SlOf V encByte 1 lv l) (hn : l.length ≤ maxLen) :
    Calls Try.prog 74 #[lv] w fun e w' => e = .returned (I (crcOf l)) ∧ Below w.heap.size w w' := by
  refine enter (E := E0) (O := []) (nl := 0) (V := vw w) [.a (.v lv)] Try.func74 rfl rfl (mem0 E0 0 w) rfl rfl ?_
  refine c_seq ?_
  refine c_region ?_
  refine o_yield rfl rfl rfl (y_val tok rfl) ?_
  refine o_end [0] rfl ?_
  refine x_then ?_
  refine c_seq ?_
  refine c_region ?_
  refine o_yield rfl rfl rfl (y_val tok rfl) ?_
  refine o_call (.a (.v _)) rfl rfl fnok81 rfl rfl rfl (fun hg E w1 hm => by exact refAdd_c V _ l _ (hV.trans hm.leV) hs hn) ?_
  refine o_yield rfl rfl rfl (y_val tok rfl) ?_
  refine o_end [2] rfl ?_
  refine x_then ?_
  refine c_ret ?_
  refine b_ret tok rfl ?_
  intro E w' hm _
  refine ⟨?_, hm.below (Vw.le.refl _)⟩
  rfl

/-! A sum tells one byte that was turned. -/

end Go.Proofs.Ytipmgnhbcaniiaa

/- Numbers' bytes put behind others. -/
set_option linter.unusedVariables false
set_option linter.unusedSimpArgs false
set_option maxRecDepth 100000
namespace Go.Proofs.Ytipmgnhbcaniiaa
open Go Go.Eng Go.RowKit

/-- A number's bytes, the least first. -/
def leTake (n j : Nat) : List UInt8 := (List.range j).map fun i => UInt8.ofNat (n / pw i % 256)
def leB (k n : Int) : List UInt8 := leTake n.toNat k.toNat

theorem leTake_succ (n j : Nat) : leTake n (j + 1) = leTake n j ++ [UInt8.ofNat (n / pw j % 256)] := by simp [leTake, List.range_succ]
theorem leTake_len (n j : Nat) : (leTake n j).length = j := by simp [leTake]

theorem ofNat_mod (n : Nat) : (UInt8.ofNat (n % 256)).toNat = n % 256 := by
  rw [UInt8.toNat_ofNat']
  omega

def putOk (k : Int) (ls : List Int) : Bool := widthB k && ls.all fun n => fitsB n k
def putL (bl : List UInt8) (k : Int) (ls : List Int) : List UInt8 := bl ++ ls.flatMap (leB k)

theorem flat_snoc (L : List UInt8) (b : UInt8) : L.flatMap encByte ++ [.int .u8 b.toNat] = (L ++ [b]).flatMap encByte := by
  rw [List.flatMap_append]; rfl

/-- What putting comes to. -/
def PutPost (bl : List UInt8) (k : Int) (ls : List Int) (w : World) (e : Ending) (w' : World) : Prop :=
  ((putOk k ls = true ∧ ∃ v, e = .returned (.tuple #[v, I 0]) ∧ w'.ownsRow w.heap.size 5 1 v (putL bl k ls).length ((putL bl k ls).flatMap encByte)) ∨
    (putOk k ls = false ∧ e = .returned (.tuple #[.slice none 0 0, I 2]))) ∧ Below w.heap.size w w'

theorem putOk_no {k : Int} {ls : List Int} {i : Nat} {n : Int} (hn : ls[i]? = some n) (h : fitsB n k = false) : putOk k ls = false := by
  have : (ls.all fun n => fitsB n k) = false := all_no hn h
  rw [putOk, this, Bool.and_false]

theorem refPut_c (V : Vw) (bv : Value) (bl : List UInt8) (k : Int) (lv : Value) (ls : List Int) (w : World) (hV : V.le (vw w)) (hb : SlOf V encByte 1 bv bl) (hl : SlOf V encI64 1 lv ls)
    (hbn : bl.length ≤ 1099511627776) (hln : ls.length ≤ 1099511627776) : Calls Try.prog 37 #[bv, I k, lv] w (PutPost bl k ls w) := by
  have hb' := hb.mono hV
  have hl' := hl.mono hV
  refine enter (E := E0) (O := []) (nl := 0) (V := vw w) [.a (.v bv), .a (.v (I k)), .a (.v lv)] Try.func37 rfl rfl (mem0 E0 0 w) rfl rfl ?_
  refine c_seq ?_
  refine c_region ?_
  refine o_yield rfl rfl rfl (y_val tok rfl) ?_
  refine o_yield rfl rfl rfl (y_val tok rfl) ?_
  refine o_end [0, 1, 2] rfl ?_
  refine x_then ?_
  refine c_seq ?_
  refine c_seq ?_
  refine c_region ?_
  refine o_yield rfl rfl rfl (y_val tok rfl) ?_
  refine o_call (.a (.v _)) rfl rfl fnok52 rfl rfl rfl (fun hg E w1 hm => by exact refMost_c _ _) ?_
  refine o_yield rfl rfl rfl (y_val tok rfl) ?_
  refine o_end [0, 1, 2, 14] rfl ?_
  refine x_then ?_
  refine c_cond rfl (fun h => ?_) (fun h => ?_)
  ·
    simp only [Bool.and_eq_true, Bool.or_eq_true, Bool.not_eq_true', Bool.or_eq_false_iff, Bool.and_eq_false_iff, decide_eq_true_eq, decide_eq_false_iff_not, beq_iff_eq, bne_iff_ne, Bool.not_eq_false', beq_eq_false_iff_ne, bne_eq_false_iff_eq, ne_eq, Decidable.not_not, Int.not_lt, Int.not_le] at h
    refine c_seq ?_
    refine c_region ?_
    refine o_yield rfl rfl rfl (y_val tok rfl) ?_
    refine o_yield rfl rfl rfl (y_val tok rfl) ?_
    refine o_end [6, 7] rfl ?_
    refine x_then ?_
    refine c_ret ?_
    refine x_then_ret ?_
    refine b_ret tok rfl ?_
    have hw : widthB k = false := by
      cases hq : widthB k with
      | false => rfl
      | true => rw [mostI, if_pos hq] at h; omega
    intro E w' hm _
    exact ⟨.inr ⟨by rw [putOk, hw]; rfl, rfl⟩, hm.below (Vw.le.refl _)⟩
  ·
    simp only [Bool.and_eq_true, Bool.or_eq_true, Bool.not_eq_true', Bool.or_eq_false_iff, Bool.and_eq_false_iff, decide_eq_true_eq, decide_eq_false_iff_not, beq_iff_eq, bne_iff_ne, Bool.not_eq_false', beq_eq_false_iff_ne, bne_eq_false_iff_eq, ne_eq, Decidable.not_not, Int.not_lt, Int.not_le] at h
    refine c_skip ?_
    refine x_then ?_
    refine c_seq ?_
    refine c_region ?_
    refine o_yield rfl rfl rfl (y_val tok rfl) ?_
    refine o_end [0, 1, 2, 8] rfl ?_
    refine x_then ?_
    refine c_seq ?_
    refine c_region ?_
    refine o_yield rfl rfl rfl (y_val tok rfl) ?_
    refine o_yield rfl rfl rfl (y_val tok rfl) ?_
    have hw : widthB k = true := by
      cases hq : widthB k with
      | true => rfl
      | false => rw [mostI, if_neg (by simp [hq])] at h; omega
    have hk := hw
    simp only [widthB, Bool.and_eq_true, decide_eq_true_eq] at hk
    obtain ⟨m, rfl⟩ : ∃ m : Nat, k = m := ⟨k.toNat, by omega⟩
    clear h
    refine k_nil 15 5 1 rfl rfl ?_
    refine o_step rfl rfl rfl rfl rfl (s_app tok (bl.flatMap encByte) rfl (fun E w hm => hb'.sl.src hm.get) (fun _ _ _ => bytes_ones _) (by dsimp only; omega)) (fun _ _ => ?_)
    refine o_yield rfl rfl rfl (y_val tok rfl) ?_
    refine o_end [1, 2, 8] rfl ?_
    refine x_then ?_
    refine c_seq ?_
    refine c_seq ?_
    refine c_region ?_
    refine o_yield rfl rfl rfl (y_val tok rfl) ?_
    refine o_end [1, 2, 8, 9] rfl ?_
    refine x_then ?_
    refine c_block ?_
    rw [Nat.zero_add bl.length, List.nil_append]
    have e0 : putL bl m (ls.take 0) = bl := by simp [putL]
    refine c_loopK [1, 2] [1] rfl rfl (σ := Nat) (fun i => [(8, .a (.row 1)), (9, .a (.v (I i)))]) (fun i => [(1, .row 5 1 (putL bl m (ls.take i)).length ((putL bl m (ls.take i)).flatMap encByte))]) (fun i => i ≤ ls.length ∧ (∀ j n, j < i → ls[j]? = some n → fitsB n m = true) ∧ (putL bl m (ls.take i)).length ≤ bl.length + 6 * i) (fun i => ls.length - i) (0) (⟨by omega, by omega, by simp [putL]⟩) (by repeat (first | exact SubF.nil | refine SubF.cons rfl ?_ | refine SubF.cons (by simp only [e0]; first | done | rfl) ?_)) (by repeat (first | exact SubO.nil | refine SubO.cons rfl ?_ | refine SubO.cons (by simp only [e0]; first | done | rfl) ?_)) rfl ?_
    rintro i ⟨hi, hall, hsz⟩
    refine c_seq ?_
    refine c_seq ?_
    refine c_region ?_
    refine o_yield rfl rfl rfl (y_val tok rfl) ?_
    refine o_yield rfl rfl rfl (y_val tok rfl) ?_
    refine o_yield rfl rfl rfl (y_len tok rfl (fun hg => hl'.sl)) ?_
    refine o_yield rfl rfl rfl (y_val tok rfl) ?_
    refine o_end [1, 2, 8, 9, 21] rfl ?_
    refine x_then ?_
    refine c_cond rfl (fun h => ?_) (fun h => ?_)
    ·
      simp only [Bool.and_eq_true, Bool.or_eq_true, Bool.not_eq_true', Bool.or_eq_false_iff, Bool.and_eq_false_iff, decide_eq_true_eq, decide_eq_false_iff_not, beq_iff_eq, bne_iff_ne, Bool.not_eq_false', beq_eq_false_iff_ne, bne_eq_false_iff_eq, ne_eq, Decidable.not_not, Int.not_lt, Int.not_le] at h
      refine c_skip ?_
      refine x_then ?_
      refine c_seq ?_
      refine c_block ?_
      refine c_seq ?_
      refine c_seq ?_
      refine c_region ?_
      refine o_yield rfl rfl rfl (y_val tok rfl) ?_
      refine o_yield rfl rfl rfl (y_val tok rfl) ?_
      obtain ⟨n, h_n⟩ := hl'.at (k := i) (by omega)
      have hlt_n := lt_of_at h_n
      refine o_yield rfl rfl rfl (y_idx tok rfl (fun hg => hl'.sl) (fun hg => ⟨by omega, by omega⟩)) ?_
      refine o_yield rfl rfl rfl (y_lel tok (i) 0 (n) rfl (fun hg => hl') (fun hg => h_n) rfl rfl) ?_
      refine o_yield rfl rfl rfl (y_val tok rfl) ?_
      refine o_call (.a (.v _)) rfl rfl fnok53 rfl rfl rfl (fun hg E w1 hm => by exact refFits_c _ _ _) ?_
      refine o_yield rfl rfl rfl (y_val tok rfl) ?_
      refine o_end [1, 2, 8, 9, 30] rfl ?_
      refine x_then ?_
      refine c_cond rfl (fun h => ?_) (fun h => ?_)
      ·
        simp only [Bool.and_eq_true, Bool.or_eq_true, Bool.not_eq_true', Bool.or_eq_false_iff, Bool.and_eq_false_iff, decide_eq_true_eq, decide_eq_false_iff_not, beq_iff_eq, bne_iff_ne, Bool.not_eq_false', beq_eq_false_iff_ne, bne_eq_false_iff_eq, ne_eq, Decidable.not_not, Int.not_lt, Int.not_le] at h
        refine c_seq ?_
        refine c_region ?_
        refine o_yield rfl rfl rfl (y_val tok rfl) ?_
        refine o_yield rfl rfl rfl (y_val tok rfl) ?_
        refine o_end [6, 7] rfl ?_
        refine x_then ?_
        refine c_ret ?_
        refine x_then_ret ?_
        refine x_block_ret ?_
        refine x_then_ret ?_
        refine x_then_ret ?_
        refine x_block_ret ?_
        refine x_then_ret ?_
        refine b_ret tok rfl ?_
        intro E w' hm _
        exact ⟨.inr ⟨putOk_no h_n h, rfl⟩, hm.below (Vw.le.refl _)⟩
      ·
        simp only [Bool.and_eq_true, Bool.or_eq_true, Bool.not_eq_true', Bool.or_eq_false_iff, Bool.and_eq_false_iff, decide_eq_true_eq, decide_eq_false_iff_not, beq_iff_eq, bne_iff_ne, Bool.not_eq_false', beq_eq_false_iff_ne, bne_eq_false_iff_eq, ne_eq, Decidable.not_not, Int.not_lt, Int.not_le] at h
        refine c_skip ?_
        refine x_then ?_
        refine c_seq ?_
        refine c_region ?_
        refine o_yield rfl rfl rfl (y_val tok rfl) ?_
        refine o_yield rfl rfl rfl (y_val tok rfl) ?_
        have hf := h
        clear h
        have hf' := hf
        simp only [fitsB, Bool.and_eq_true, decide_eq_true_eq] at hf'
        obtain ⟨⟨_, hn0⟩, hn1⟩ := hf'
        obtain ⟨q, rfl⟩ : ∃ q : Nat, n = q := ⟨n.toNat, by omega⟩
        have hq : q ≤ 1099511627776 := by unfold mostN at hn1; omega
        have hlt__q___Int_ := lt_of_at h_n
        refine o_yield rfl rfl rfl (y_idx tok rfl (fun hg => hl'.sl) (fun hg => ⟨by omega, by omega⟩)) ?_
        refine o_yield rfl rfl rfl (y_lel tok (i) 0 ((q : Int)) rfl (fun hg => hl') (fun hg => h_n) rfl rfl) ?_
        refine o_yield rfl rfl rfl (y_val tok rfl) ?_
        refine o_end [1, 2, 8, 9, 10] rfl ?_
        refine x_then ?_
        refine c_seq ?_
        refine c_region ?_
        refine o_yield rfl rfl rfl (y_val tok rfl) ?_
        refine o_end [1, 2, 8, 9, 10, 11] rfl ?_
        refine x_then ?_
        refine c_block ?_
        have ep : q / pw 0 = q := by simp [pw]
        have el : leTake q 0 = [] := rfl
        refine c_loopK [1, 2, 9] [1] rfl rfl (σ := Nat) (fun j => [(8, .a (.row 1)), (10, .a (.v (I (q / pw j : Nat)))), (11, .a (.v (I j)))]) (fun j => [(1, .row 5 1 (putL bl m (ls.take i) ++ leTake q j).length ((putL bl m (ls.take i) ++ leTake q j).flatMap encByte))]) (fun j => j ≤ m) (fun j => m - j) (0) (by omega) (by repeat (first | exact SubF.nil | refine SubF.cons rfl ?_ | refine SubF.cons (by simp only [ep, el, List.append_nil]; first | done | rfl) ?_)) (by repeat (first | exact SubO.nil | refine SubO.cons rfl ?_ | refine SubO.cons (by simp only [ep, el, List.append_nil]; first | done | rfl) ?_)) rfl ?_
        rintro j hj
        refine c_seq ?_
        refine c_seq ?_
        refine c_region ?_
        refine o_yield rfl rfl rfl (y_val tok rfl) ?_
        refine o_yield rfl rfl rfl (y_val tok rfl) ?_
        refine o_yield rfl rfl rfl (y_val tok rfl) ?_
        refine o_end [1, 2, 8, 9, 10, 11, 37] rfl ?_
        refine x_then ?_
        refine c_cond rfl (fun h => ?_) (fun h => ?_)
        ·
          simp only [Bool.and_eq_true, Bool.or_eq_true, Bool.not_eq_true', Bool.or_eq_false_iff, Bool.and_eq_false_iff, decide_eq_true_eq, decide_eq_false_iff_not, beq_iff_eq, bne_iff_ne, Bool.not_eq_false', beq_eq_false_iff_ne, bne_eq_false_iff_eq, ne_eq, Decidable.not_not, Int.not_lt, Int.not_le] at h
          refine c_skip ?_
          refine x_then ?_
          refine c_seq ?_
          refine c_block ?_
          refine c_seq ?_
          refine c_region ?_
          refine o_yield rfl rfl rfl (y_val tok rfl) ?_
          refine o_yield rfl rfl rfl (y_val tok rfl) ?_
          have hqj : q / pw j ≤ q := Nat.div_le_self _ _
          have hnx : q / pw (j + 1) = q / pw j / 256 := by rw [pw_succ, Nat.div_div_eq_div_mul]
          have hlt := leTake_succ q j
          obtain ⟨r, hr⟩ : ∃ r, q / pw j = r := ⟨_, rfl⟩
          rw [hr] at hqj hlt hnx ⊢
          refine o_yield rfl rfl rfl (y_rem rfl (fun hg => by decide)) ?_
          refine o_yield rfl rfl rfl (y_val tok rfl) ?_
          rw [Int.tmod_eq_emod_of_nonneg (by omega), show (r : Int) % 256 = ((r % 256 : Nat) : Int) by omega, wrapU8 (n := r % 256) (by omega), ← ofNat_mod]
          refine o_step rfl rfl rfl rfl rfl (s_bs tok 1 rfl rfl rfl) (fun _ _ => ?_)
          refine o_step rfl rfl rfl rfl rfl (s_app tok [.int .u8 (UInt8.ofNat (r % 256)).toNat] rfl (fun E w hm => ownsRow_src (hm.row 2 _ _ _ _ rfl)) (fun _ _ _ => bytes_ones [_]) (by dsimp only; simp only [List.length_append, leTake_len]; omega)) (fun _ _ => ?_)
          refine o_yield rfl rfl rfl (y_val tok rfl) ?_
          refine o_end [1, 2, 8, 9, 10, 11] rfl ?_
          refine x_then ?_
          refine c_region ?_
          refine o_yield rfl rfl rfl (y_val tok rfl) ?_
          rw [flat_snoc, List.append_assoc, ← hlt, show (putL bl m (ls.take i) ++ leTake q j).length + 1 = (putL bl m (ls.take i) ++ leTake q (j + 1)).length by simp only [List.length_append, leTake_len]; omega]
          refine k_swap 1 3 rfl ?_
          refine o_yield rfl rfl rfl (y_quo rfl (fun hg => by decide)) ?_
          refine o_yield rfl rfl rfl (y_val tok rfl) ?_
          refine o_end [1, 2, 8, 9, 10, 11] rfl ?_
          refine x_block ?_
          refine x_then ?_
          refine c_region ?_
          refine o_yield rfl rfl rfl (y_val tok rfl) ?_
          refine o_yield rfl rfl rfl (y_val tok rfl) ?_
          refine o_yield rfl rfl rfl (y_val tok rfl) ?_
          refine o_end [1, 2, 8, 9, 10, 11] rfl ?_
          refine x_then ?_
          rw [Int.tdiv_eq_ediv_of_nonneg (by omega), show (r : Int) / 256 = ((r / 256 : Nat) : Int) by omega, wrapI (n := ((r / 256 : Nat) : Int)) (by omega) (by omega), ← hnx, wrapI (n := (j : Int) + 1) (by omega) (by omega)]
          refine x_round (j + 1) (by omega) (by first | omega | (dsimp only; omega)) (by repeat (first | exact SubF.nil | refine SubF.cons rfl ?_)) (by repeat (first | exact SubO.nil | refine SubO.cons rfl ?_)) rfl (Vw.le.refl _)
        ·
          simp only [Bool.and_eq_true, Bool.or_eq_true, Bool.not_eq_true', Bool.or_eq_false_iff, Bool.and_eq_false_iff, decide_eq_true_eq, decide_eq_false_iff_not, beq_iff_eq, bne_iff_ne, Bool.not_eq_false', beq_eq_false_iff_ne, bne_eq_false_iff_eq, ne_eq, Decidable.not_not, Int.not_lt, Int.not_le] at h
          refine c_exit ?_
          refine x_then_exit ?_
          refine x_then_exit ?_
          refine x_block_hit ?_
          refine x_block ?_
          refine x_then ?_
          refine c_region ?_
          refine o_yield rfl rfl rfl (y_val tok rfl) ?_
          refine o_yield rfl rfl rfl (y_val tok rfl) ?_
          refine o_yield rfl rfl rfl (y_val tok rfl) ?_
          refine o_end [1, 2, 8, 9] rfl ?_
          refine x_then ?_
          have hjm : j = m := by omega
          subst hjm
          have hnew : putL bl j (ls.take i) ++ leTake q j = putL bl j (ls.take (i + 1)) := by
            rw [take_succ_at h_n, putL, putL, List.flatMap_append, List.append_assoc]
            simp [leB]
          have hsz2 : (putL bl j (ls.take (i + 1))).length ≤ bl.length + 6 * (i + 1) := by rw [← hnew, List.length_append, leTake_len]; omega
          rw [hnew, wrapI (n := (i : Int) + 1) (by omega) (by omega)]
          refine x_round (i + 1) (⟨by omega, ahead_succ h_n hall hf, hsz2⟩) (by first | omega | (dsimp only; omega)) (by repeat (first | exact SubF.nil | refine SubF.cons rfl ?_)) (by repeat (first | exact SubO.nil | refine SubO.cons rfl ?_)) rfl (Vw.le.refl _)
    ·
      simp only [Bool.and_eq_true, Bool.or_eq_true, Bool.not_eq_true', Bool.or_eq_false_iff, Bool.and_eq_false_iff, decide_eq_true_eq, decide_eq_false_iff_not, beq_iff_eq, bne_iff_ne, Bool.not_eq_false', beq_eq_false_iff_ne, bne_eq_false_iff_eq, ne_eq, Decidable.not_not, Int.not_lt, Int.not_le] at h
      refine c_exit ?_
      refine x_then_exit ?_
      refine x_then_exit ?_
      refine x_block_hit ?_
      refine x_then ?_
      refine c_seq ?_
      refine c_region ?_
      refine o_yield rfl rfl rfl (y_val tok rfl) ?_
      refine o_yield rfl rfl rfl (y_val tok rfl) ?_
      refine o_yield rfl rfl rfl (y_val tok rfl) ?_
      refine o_end [6, 7] rfl ?_
      refine x_then ?_
      refine c_ret ?_
      refine b_ret tok rfl ?_
      have hil : i = ls.length := by omega
      subst hil
      rw [List.take_length]
      intro E w' hm _
      have hok : putOk m ls = true := by
        rw [putOk, hw, Bool.true_and]
        exact all_of_ahead hall
      exact ⟨.inl ⟨hok, E.κ 1, rfl, hm.rowFresh (Vw.le.refl _) (l := 1) rfl⟩, hm.below (Vw.le.refl _)⟩

/-- A number of two bytes put behind a byte: fits. -/
theorem putOk_two {n : Nat} (h : n ≤ 505) : putOk 2 [(n : Int)] = true := by
  have : mostN (2 : Int).toNat = 65535 := by decide
  simp only [putOk, List.all_cons, List.all_nil, Bool.and_true, fitsB, this]
  simp [widthB]
  omega
end Go.Proofs.Ytipmgnhbcaniiaa

/- Sectors that are sealed: the document's. -/
set_option linter.unusedVariables false
set_option linter.unusedSimpArgs false
set_option maxRecDepth 100000
namespace Go.Proofs.Ytipmgnhbcaniiaa
open Go Go.Eng Go.RowKit

def body (k : UInt8) (load : List UInt8) : List UInt8 := putL [k] 2 [(load.length : Int)] ++ load
def sealL (k : UInt8) (load : List UInt8) : List UInt8 := body k load ++ leTake (crcOf (body k load)) 4

theorem body_eq (k : UInt8) (load : List UInt8) : body k load = k :: UInt8.ofNat (load.length / pw 0 % 256) :: UInt8.ofNat (load.length / pw 1 % 256) :: load := by
  simp [body, putL, leB, leTake, List.range_succ]

theorem body_len (k : UInt8) (load : List UInt8) : (body k load).length = 3 + load.length := by rw [body_eq]; simp; omega
theorem sealL_len (k : UInt8) (load : List UInt8) : (sealL k load).length = 7 + load.length := by rw [sealL, List.length_append, body_len, leTake_len]; omega

def kindOf8 (kind : Int) : UInt8 := UInt8.ofNat kind.toNat

/-- Sealing: the sector, or why there is none. -/
def sealS (kind : Int) (s : ByteArray) : ByteArray × Int :=
  if kind < 1 ∨ 505 < s.size then (ByteArray.empty, 2) else (strOf (sealL (kindOf8 kind) s.data.toList), 0)

theorem str_ext {a b : ByteArray} (h : a.data.toList = b.data.toList) : a = b := by
  apply ByteArray.ext
  apply Array.ext'
  exact h

theorem size_list (s : ByteArray) : s.data.toList.length = s.size := by rw [Array.length_toList]; rfl

section
variable {o : Oper} {n : Nat} {F : Frame0} {C : List Nat} {O : Go.Eng.Own} {nl : Nat} {V : Vw}

/-- Putting what fits. -/
theorem s_refPut {p : List (Nat × Bool)} (bl : List UInt8) (k : Int) (ls : List Int) {ss : List SV} (hv : evalC F p o.op = some (37, ss)) (hok : putOk k ls = true)
    (hbn : bl.length ≤ 1099511627776) (hln : ls.length ≤ 1099511627776)
    (hargs : ∀ E w, Mem E O nl V w → ∃ bv lv, ss.map (SV.den E) = [bv, I k, lv] ∧ SlOf (vw w) encByte 1 bv bl ∧ SlOf (vw w) encI64 1 lv ls) :
    StepTo Try.prog o p n F C O nl V (σ := Unit) (fun _ => True) (fun _ => .tup [.row nl, .v (I 0)]) (fun _ => (nl, .row 5 1 (putL bl k ls).length ((putL bl k ls).flatMap encByte)) :: O) (nl + 1) (fun _ => V) := by
  refine s_callR (fun _ => True) (fun _ => .tup [.row nl, .v (I 0)]) 5 1 (fun _ => (putL bl k ls).length) (fun _ => (putL bl k ls).flatMap encByte) hv fnok37 (fun _ => by simp [SV.ok, allOk, A.ok, blt_iff]) ?_
  intro E w hm
  obtain ⟨bv, lv, ha, hb, hl⟩ := hargs E w hm
  rw [ha]
  refine (refPut_c (vw w) bv bl k lv ls w (Vw.le.refl _) hb hl hbn hln).mono ?_
  rintro e w' ⟨⟨_, v, rfl, hown⟩ | ⟨hno, _⟩, hbl⟩
  · exact ⟨(), v, by simp [SV.den, A.den, Env.setκ], hown, hbl, trivial⟩
  · rw [hok] at hno; cases hno
end

theorem byteOf {c j : Nat} {d : Int} (hd : d = ((c / pw j : Nat) : Int)) : IntKind.u8.wrap d = (((UInt8.ofNat (c / pw j % 256)).toNat : Nat) : Int) := by
  subst hd
  obtain ⟨r, hr⟩ : ∃ r, c / pw j = r := ⟨_, rfl⟩
  rw [hr, IntKind.wrap_u8', ofNat_mod]
  omega

theorem refSeal_c (kind : Int) (hk : R8 kind) (s : ByteArray) (hs : s.size ≤ maxLen) (w : World) :
    Calls Try.prog 63 #[I8 kind, S s] w fun e w' => e = .returned (.tuple #[S (sealS kind s).1, I (sealS kind s).2]) ∧ Below w.heap.size w w' := by
  unfold R8 at hk
  simp only [maxLen] at hs
  refine enter (E := E0) (O := []) (nl := 0) (V := vw w) [.a (.v (I8 kind)), .a (.v (S s))] Try.func63 rfl rfl (mem0 E0 0 w) rfl rfl ?_
  refine c_seq ?_
  refine c_region ?_
  refine o_yield rfl rfl rfl (y_val tok rfl) ?_
  refine o_yield rfl rfl rfl (y_val tok rfl) ?_
  refine o_end [0, 1] rfl ?_
  refine x_then ?_
  refine c_seq ?_
  refine c_seq ?_
  refine c_region ?_
  refine o_yield rfl rfl rfl (y_val tok rfl) ?_
  refine o_yield rfl rfl rfl (y_val tok rfl) ?_
  refine o_yield rfl rfl rfl (y_val tok rfl) ?_
  refine o_yield rfl rfl rfl (y_val tok rfl) ?_
  refine o_yield rfl rfl rfl (y_val tok rfl) ?_
  refine o_yield rfl rfl rfl (y_val tok rfl) ?_
  refine o_yield rfl rfl rfl (y_val tok rfl) ?_
  refine o_end [0, 1, 15] rfl ?_
  refine x_then ?_
  refine c_cond rfl (fun h => ?_) (fun h => ?_)
  ·
    simp only [Bool.and_eq_true, Bool.or_eq_true, Bool.not_eq_true', Bool.or_eq_false_iff, Bool.and_eq_false_iff, decide_eq_true_eq, decide_eq_false_iff_not, beq_iff_eq, bne_iff_ne, Bool.not_eq_false', beq_eq_false_iff_ne, bne_eq_false_iff_eq, ne_eq, Decidable.not_not, Int.not_lt, Int.not_le] at h
    refine c_seq ?_
    refine c_region ?_
    refine o_yield rfl rfl rfl (y_val tok rfl) ?_
    refine o_yield rfl rfl rfl (y_val tok rfl) ?_
    refine o_end [4, 5] rfl ?_
    refine x_then ?_
    refine c_ret ?_
    refine x_then_ret ?_
    refine b_ret tok rfl ?_
    intro E w' hm _
    refine ⟨?_, hm.below (Vw.le.refl _)⟩
    rw [sealS, if_pos (by omega)]
    rfl
  ·
    simp only [Bool.and_eq_true, Bool.or_eq_true, Bool.not_eq_true', Bool.or_eq_false_iff, Bool.and_eq_false_iff, decide_eq_true_eq, decide_eq_false_iff_not, beq_iff_eq, bne_iff_ne, Bool.not_eq_false', beq_eq_false_iff_ne, bne_eq_false_iff_eq, ne_eq, Decidable.not_not, Int.not_lt, Int.not_le] at h
    refine c_skip ?_
    refine x_then ?_
    refine c_seq ?_
    refine c_region ?_
    refine o_yield rfl rfl rfl (y_val tok rfl) ?_
    refine o_yield rfl rfl rfl (y_val tok rfl) ?_
    obtain ⟨h1, h2⟩ := h
    have hsz := size_list s
    have hk8 : (kindOf8 kind).toNat = kind.toNat := by
      rw [kindOf8, UInt8.toNat_ofNat']; omega
    rw [show IntKind.u8.wrap kind = (((kindOf8 kind).toNat : Nat) : Int) by rw [hk8, IntKind.wrap_u8']; omega]
    refine o_step rfl rfl rfl rfl rfl (s_bs tok 1 rfl rfl rfl) (fun _ _ => ?_)
    refine o_yield rfl rfl rfl (y_val tok rfl) ?_
    refine o_yield rfl rfl rfl (y_val tok rfl) ?_
    refine o_step rfl rfl rfl rfl rfl (s_bs tok 1 rfl rfl rfl) (fun _ _ => ?_)
    refine o_step rfl rfl rfl rfl rfl (s_refPut [kindOf8 kind] 2 [(s.size : Int)] rfl (putOk_two (by omega)) (by simp) (by simp) (fun E w hm => ⟨_, _, rfl, hm.rowOf (enc := encByte) (L := [kindOf8 kind]) 0 rfl (fun _ => rfl), hm.rowOf (enc := encI64) (L := [(s.size : Int)]) 1 rfl (fun _ => rfl)⟩)) (fun _ _ => ?_)
    refine o_yield rfl rfl rfl (y_val tok rfl) ?_
    refine o_yield rfl rfl rfl (y_val tok rfl) ?_
    refine o_yield rfl rfl rfl (y_val tok rfl) ?_
    refine o_yield rfl rfl rfl (y_val tok rfl) ?_
    refine o_yield rfl rfl rfl (y_val tok rfl) ?_
    refine o_end [1, 6] rfl ?_
    refine x_then ?_
    refine c_seq ?_
    refine c_region ?_
    refine o_yield rfl rfl rfl (y_val tok rfl) ?_
    refine o_yield rfl rfl rfl (y_val tok rfl) ?_
    have hb3 : (putL [kindOf8 kind] 2 [(s.size : Int)]).length = 3 := by simp [putL, leB, leTake_len]
    refine o_step rfl rfl rfl rfl rfl (s_app tok (byteVs s) rfl (fun _ _ _ => Src.str s) (fun _ _ _ => by rw [byteVs_eq]; exact bytes_ones _) (by dsimp only; rw [hb3]; omega)) (fun _ _ => ?_)
    refine o_yield rfl rfl rfl (y_val tok rfl) ?_
    refine o_end [6] rfl ?_
    refine x_then ?_
    refine c_seq ?_
    refine c_region ?_
    refine o_yield rfl rfl rfl (y_val tok rfl) ?_
    rw [byteVs_eq, ← List.flatMap_append, ← hsz, ← List.length_append, show putL [kindOf8 kind] 2 [(s.data.toList.length : Int)] ++ s.data.toList = body (kindOf8 kind) s.data.toList from rfl]
    have hbl := body_len (kindOf8 kind) s.data.toList
    obtain ⟨B, hB⟩ : ∃ B, body (kindOf8 kind) s.data.toList = B := ⟨_, rfl⟩
    rw [hB] at hbl ⊢
    refine o_call (.a (.v _)) rfl rfl fnok74 rfl rfl rfl (fun hg E w1 hm => by exact refSum_c _ _ B _ (Vw.le.refl _) (hm.rowOf 3 rfl (fun _ => rfl)) (by simp only [maxLen]; omega)) ?_
    refine o_yield rfl rfl rfl (y_val tok rfl) ?_
    refine o_end [6, 8] rfl ?_
    refine x_then ?_
    refine c_seq ?_
    refine c_region ?_
    refine o_yield rfl rfl rfl (y_val tok rfl) ?_
    refine o_yield rfl rfl rfl (y_val tok rfl) ?_
    refine o_yield rfl rfl rfl (y_val tok rfl) ?_
    refine o_yield rfl rfl rfl (y_val tok rfl) ?_
    have hc := crcOf_lt B
    have hsh : ∀ (j : Nat) (e : Int), e.toNat = 8 * j → ((crcOf B : Nat) : Int) / 2 ^ e.toNat = ((crcOf B / pw j : Nat) : Int) := fun j e he => by
      rw [he, pw_two]
      norm_cast
    refine o_yield rfl rfl rfl (y_shr rfl (fun hg => ⟨by decide, by decide⟩)) ?_
    refine o_yield rfl rfl rfl (y_val tok rfl) ?_
    refine o_yield rfl rfl rfl (y_val tok rfl) ?_
    refine o_yield rfl rfl rfl (y_shr rfl (fun hg => ⟨by decide, by decide⟩)) ?_
    refine o_yield rfl rfl rfl (y_val tok rfl) ?_
    refine o_yield rfl rfl rfl (y_val tok rfl) ?_
    refine o_yield rfl rfl rfl (y_shr rfl (fun hg => ⟨by decide, by decide⟩)) ?_
    refine o_yield rfl rfl rfl (y_val tok rfl) ?_
    rw [byteOf (d := ((crcOf B : Nat) : Int)) (c := crcOf B) (j := 0) (by simp [pw]), byteOf (c := crcOf B) (j := 1) (hsh 1 8 rfl), byteOf (c := crcOf B) (j := 2) (hsh 2 16 rfl), byteOf (c := crcOf B) (j := 3) (hsh 3 24 rfl)]
    refine o_step rfl rfl rfl rfl rfl (s_bs tok 1 rfl rfl rfl) (fun _ _ => ?_)
    refine o_step rfl rfl rfl rfl rfl (s_app tok ((leTake (crcOf B) 4).flatMap encByte) rfl (fun E w hm => ownsRow_src (hm.row 4 _ _ _ _ rfl)) (fun _ _ _ => bytes_ones _) (by dsimp only; omega)) (fun _ _ => ?_)
    rw [← List.flatMap_append]
    refine o_yield rfl rfl rfl (y_own (s := .a (.v (.string (strOf (B ++ leTake (crcOf B) 4))))) 5 rfl rfl (fun v V' hs => y_b2s tok _ rfl (fun hg => by rw [List.length_append, leTake_len]; exact hs))) ?_
    refine o_yield rfl rfl rfl (y_val tok rfl) ?_
    refine o_yield rfl rfl rfl (y_val tok rfl) ?_
    refine o_end [4, 5] rfl ?_
    refine x_then ?_
    refine c_ret ?_
    refine b_ret tok rfl ?_
    intro E w' hm _
    refine ⟨?_, hm.below (Vw.le.refl _)⟩
    rw [sealS, if_neg (by omega), sealL, hB]
    rfl

/-- What was sealed. -/
def loadOf (s : ByteArray) : ByteArray := s.extract 3 (s.size - 4)

/-- Whether a sector is sealed. -/
def openB (s : ByteArray) : Bool := decide (7 ≤ s.size) && decide (s.size ≤ 512) && decide (1 ≤ (byteAt s 0).toNat) && decide ((byteAt s 0).toNat ≤ 127) && decide (sealL (byteAt s 0) (loadOf s).data.toList = s.data.toList)

def openK (s : ByteArray) : Int := if openB s = true then ((byteAt s 0).toNat : Int) else 0
def openL (s : ByteArray) : ByteArray := if openB s = true then loadOf s else ByteArray.empty
def openE (s : ByteArray) : Int := if openB s = true then 0 else 30

/-- The load of a sector of a kind. -/
def ofB (kind : Int) (s : ByteArray) : Bool := openB s && decide (((byteAt s 0).toNat : Int) = kind)
def ofL (kind : Int) (s : ByteArray) : ByteArray := if ofB kind s = true then loadOf s else ByteArray.empty
def ofE (kind : Int) (s : ByteArray) : Int := if ofB kind s = true then 0 else 30

/-! The program's. -/

/-- A sector's parts. -/
theorem parts (L : List UInt8) (h : 7 ≤ L.length) : ∃ b0 b1 b2 load c0 c1 c2 c3, L = b0 :: b1 :: b2 :: (load ++ [c0, c1, c2, c3]) ∧ load.length = L.length - 7 := by
  match L, h with
  | b0 :: b1 :: b2 :: r, h =>
    have hr : 4 ≤ r.length := by simp at h; omega
    have e := List.take_append_drop (r.length - 4) r
    have hd : (r.drop (r.length - 4)).length = 4 := by simp; omega
    match hq : r.drop (r.length - 4), hd with
    | [c0, c1, c2, c3], _ => exact ⟨b0, b1, b2, r.take (r.length - 4), c0, c1, c2, c3, by rw [← hq, e], by simp⟩

/-- Whether a sector is sealed, as the program asks it. -/
def openP (s : ByteArray) : Bool :=
  decide (3 ≤ s.size) && decide (s.size = 7 + (digit s 1 0 + digit s 1 1 * 256)) && decide (digit s 1 0 + digit s 1 1 * 256 ≤ 505) && decide (1 ≤ (byteAt s 0).toNat) && decide ((byteAt s 0).toNat ≤ 127) &&
    decide (digit s (s.size - 4) 0 + digit s (s.size - 4) 1 * 256 + digit s (s.size - 4) 2 * 65536 + digit s (s.size - 4) 3 * 16777216 = crcOf (s.data.toList.take (s.size - 4)))

end Go.Proofs.Ytipmgnhbcaniiaa

/- A sealed sector's numbers, and what is left. -/
set_option linter.unusedVariables false
set_option linter.unusedSimpArgs false
set_option maxRecDepth 100000
namespace Go.Proofs.Ytipmgnhbcaniiaa
open Go Go.Eng Go.RowKit

def restOf (s : ByteArray) (k : Nat) : ByteArray := s.extract k s.size

/-- The numbers that stand one behind the other, and what is left. -/
def fldA (acc : List Int) (rest : ByteArray) : List Int → Option (List Int × ByteArray)
  | [] => some (acc, rest)
  | k :: ks => if (getSpec rest 0 k).2 ≠ 0 then none else fldA (acc ++ [(getSpec rest 0 k).1]) (restOf rest k.toNat) ks

def fieldsR (kind : Int) (s : ByteArray) (ks : List Int) : Option (List Int × ByteArray) := if ofB kind s = true then fldA [] (loadOf s) ks else none

def FPost (kind : Int) (s : ByteArray) (ks : List Int) (w : World) (e : Ending) (w' : World) : Prop :=
  ((∃ l r v, fieldsR kind s ks = some (l, r) ∧ e = .returned (.tuple #[v, S r, I 0]) ∧ w'.ownsRow w.heap.size 3 1 v l.length (l.flatMap encI64)) ∨
    (fieldsR kind s ks = none ∧ e = .returned (.tuple #[.slice none 0 0, S ByteArray.empty, I 30]))) ∧ Below w.heap.size w w'

theorem int_ones (l : List Int) : ∀ u ∈ l.flatMap encI64, u.oneCell' = true := by
  intro u hu
  obtain ⟨x, _, hx⟩ := List.mem_flatMap.1 hu
  simp only [List.mem_singleton] at hx
  subst hx
  rfl

structure FInv (ks acc : List Int) (load rest : ByteArray) (i : Nat) : Prop where
  le : i ≤ ks.length
  eq : fldA [] load ks = fldA acc rest (ks.drop i)
  len : acc.length = i
  size : rest.size ≤ 505

/-- The fields' rows as ones that nobody writes. -/
def FVal (kind : Int) (s : ByteArray) (ks : List Int) (x : Value) (V' : Vw) : Prop :=
  (∃ l r v, fieldsR kind s ks = some (l, r) ∧ x = .tuple #[v, S r, I 0] ∧ SlOf V' encI64 1 v l) ∨ (fieldsR kind s ks = none ∧ x = .tuple #[.slice none 0 0, S ByteArray.empty, I 30])

end Go.Proofs.Ytipmgnhbcaniiaa

/- Records that are read: the program and the document agree; the law RecordReads. -/
set_option linter.unusedVariables false
set_option linter.unusedSimpArgs false
set_option maxRecDepth 100000
namespace Go.Proofs.Ytipmgnhbcaniiaa
open Go Go.Eng Go.RowKit

def rWidths : List Int := [6, 6, 2, 1, 2]
end Go.Proofs.Ytipmgnhbcaniiaa

/- The program's putting of numbers' bytes. -/
set_option linter.unusedVariables false
set_option linter.unusedSimpArgs false
set_option maxRecDepth 100000
namespace Go.Proofs.Ytipmgnhbcaniiaa
open Go Go.Eng Go.RowKit

section
variable {o : Oper} {n : Nat} {F : Frame0} {C : List Nat} {O : Go.Eng.Own} {nl : Nat} {V : Vw}

end
end Go.Proofs.Ytipmgnhbcaniiaa

/- Sectors that are sealed: the program's. -/
set_option linter.unusedVariables false
set_option linter.unusedSimpArgs false
set_option maxRecDepth 100000
namespace Go.Proofs.Ytipmgnhbcaniiaa
open Go Go.Eng Go.RowKit

section
variable {o : Oper} {n : Nat} {F : Frame0} {C : List Nat} {O : Go.Eng.Own} {nl : Nat} {V : Vw}

end

theorem putL_one (bl : List UInt8) (k : Int) (n : Int) : putL bl k [n] = bl ++ leB k n := by simp [putL]

/-- Numbers put one behind the other. -/
def packL : List Int → List Int → List UInt8
  | k :: ks, n :: ns => leB k n ++ packL ks ns
  | _, _ => []

theorem packL_succ : ∀ {ks ns : List Int} {i : Nat} {k n : Int}, ks[i]? = some k → ns[i]? = some n → packL (ks.take (i + 1)) (ns.take (i + 1)) = packL (ks.take i) (ns.take i) ++ leB k n
  | k0 :: ks, n0 :: ns, 0, k, n, hk, hn => by
    simp at hk hn
    subst hk hn
    simp [packL]
  | k0 :: ks, n0 :: ns, i + 1, k, n, hk, hn => by
    simp only [List.getElem?_cons_succ] at hk hn
    have := packL_succ hk hn
    simp only [List.take_succ_cons, packL, this, List.append_assoc]
  | [], _, _, _, _, hk, _ => by simp at hk
  | _ :: _, [], _, _, _, _, hn => by simp at hn

theorem putOk_of {k n : Int} (h : fitsB n k = true) : putOk k [n] = true := by
  have hw : widthB k = true := by
    simp only [fitsB, Bool.and_eq_true] at h; exact h.1.1
  simp [putOk, hw, h]

theorem pack_len : ∀ (ks ns : List Int), (packL ks ns).length ≤ (ks.map Int.toNat).sum
  | k :: ks, n :: ns => by
    have := pack_len ks ns
    simp only [packL, leB, List.length_append, leTake_len, List.map_cons, List.sum_cons]; omega
  | [], _ => by simp [packL]
  | _ :: _, [] => by simp [packL]

end Go.Proofs.Ytipmgnhbcaniiaa

/- Sealed numbers are read back; a sector of which one byte was turned is none: plain law. -/
set_option linter.unusedVariables false
set_option linter.unusedSimpArgs false
set_option maxRecDepth 100000
namespace Go.Proofs.Ytipmgnhbcaniiaa
open Go Go.Eng Go.RowKit

end Go.Proofs.Ytipmgnhbcaniiaa

/- The law RecordBack from what comes in. -/
set_option linter.unusedVariables false
set_option linter.unusedSimpArgs false
set_option maxRecDepth 100000
namespace Go.Proofs.Ytipmgnhbcaniiaa
open Go Go.Eng Go.RowKit

end Go.Proofs.Ytipmgnhbcaniiaa

/- Rows of blocks: the program's, and the document's. -/
set_option linter.unusedVariables false
set_option linter.unusedSimpArgs false
set_option maxRecDepth 100000
namespace Go.Proofs.Ytipmgnhbcaniiaa
open Go Go.Eng Go.RowKit

theorem hasFn_c (b : Block) (k : Int) (bk : Nat) (w : World) (hk : w.heap[bk]? = some (.cells [I k].toArray 3 (0, 0))) :
    Calls Try.prog 73 #[b.val, .pointer (some ⟨bk, 0, none⟩)] w fun e w' => e = .returned (.bool (b.n == k)) ∧ Below w.heap.size w w' := by
  refine enter1 [.a (.v b.val), .a (.ptr 0 0)] hk Try.func73 rfl rfl rfl rfl ?_
  refine c_seq ?_
  refine c_region ?_
  refine o_new tok rfl rfl rfl rfl ?_
  refine o_yield rfl rfl rfl (y_val tok rfl) ?_
  refine o_end [1, 2] rfl ?_
  refine x_then ?_
  refine c_seq ?_
  refine c_region ?_
  refine o_yield rfl rfl rfl (y_val tok rfl) ?_
  refine o_yield rfl rfl rfl (y_val tok rfl) ?_
  refine o_yield rfl rfl rfl (y_val tok rfl) ?_
  refine o_yield rfl rfl rfl (y_val tok rfl) ?_
  refine o_yield rfl rfl rfl (y_val tok rfl) ?_
  refine o_end [3] rfl ?_
  refine x_then ?_
  refine c_ret ?_
  refine b_ret tok rfl ?_
  intro E w' hm _
  exact ⟨rfl, below1 hk hm (Vw.le.refl _) rfl rfl rfl⟩

/-- A function value that tells pr, wherever V is read. -/
def TellsB (V : Vw) (fv : Value) (pr : Block → Bool) : Prop :=
  ∀ (x : Block) w', V.le (vw w') → CallsFn Try.prog fv [x.val] w' fun e w'' => e = .returned (.bool (pr x)) ∧ Below w'.heap.size w' w''

/-- The first block of which pr is told. -/
def idxB (pr : Block → Bool) : List Block → Nat → Int
  | [], _ => -1
  | b :: r, i => if pr b = true then i else idxB pr r (i + 1)

theorem indexB_c (V : Vw) (fv sv : Value) (pr : Block → Bool) (l : List Block) (w : World) (hV : V.le (vw w)) (hs0 : SlOf V Block.cells 2 sv l) (hn : l.length ≤ 4398046511104) (hf : TellsB V fv pr) :
    Calls Try.prog 72 #[sv, fv] w fun e w' => e = .returned (I (idxB pr l 0)) ∧ Below w.heap.size w w' := by
  have hs := hs0.mono hV
  refine enter (E := E0) (O := []) (nl := 0) (V := vw w) [.a (.v sv), .a (.v fv)] Try.func72 rfl rfl (mem0 E0 0 w) rfl rfl ?_
  refine c_seq ?_
  refine c_region ?_
  refine o_yield rfl rfl rfl (y_val tok rfl) ?_
  refine o_end [0, 1] rfl ?_
  refine x_then ?_
  refine c_seq ?_
  refine c_seq ?_
  refine c_region ?_
  refine o_yield rfl rfl rfl (y_val tok rfl) ?_
  refine o_yield rfl rfl rfl (y_len tok rfl (fun hg => hs.sl)) ?_
  refine o_yield rfl rfl rfl (y_val tok rfl) ?_
  refine o_end [0, 1, 7, 8] rfl ?_
  refine x_then ?_
  refine c_block ?_
  refine c_loopK [0, 1, 7] [] rfl rfl (σ := Nat) (fun k => [(8, .a (.v (I k)))]) (fun k => []) (fun k => k ≤ l.length ∧ idxB pr l 0 = idxB pr (l.drop k) k) (fun k => l.length - k) (0) (⟨by omega, rfl⟩) (by repeat (first | exact SubF.nil | refine SubF.cons rfl ?_)) (by repeat (first | exact SubO.nil | refine SubO.cons rfl ?_)) rfl ?_
  rintro k ⟨hk, heq⟩
  refine c_seq ?_
  refine c_region ?_
  refine o_yield rfl rfl rfl (y_val tok rfl) ?_
  refine o_end [0, 1, 7, 8, 9] rfl ?_
  refine x_then ?_
  refine c_seq ?_
  refine c_cond rfl (fun h => ?_) (fun h => ?_)
  ·
    simp only [Bool.and_eq_true, Bool.or_eq_true, Bool.not_eq_true', Bool.or_eq_false_iff, Bool.and_eq_false_iff, decide_eq_true_eq, decide_eq_false_iff_not, beq_iff_eq, bne_iff_ne, Bool.not_eq_false', beq_eq_false_iff_ne, bne_eq_false_iff_eq, ne_eq, Decidable.not_not, Int.not_lt, Int.not_le] at h
    refine c_skip ?_
    refine x_then ?_
    refine c_seq ?_
    refine c_block ?_
    refine c_seq ?_
    refine c_region ?_
    refine o_yield rfl rfl rfl (y_val tok rfl) ?_
    refine o_yield rfl rfl rfl (y_val tok rfl) ?_
    refine o_end [0, 1, 5, 7, 8] rfl ?_
    refine x_then ?_
    refine c_seq ?_
    refine c_region ?_
    refine o_yield rfl rfl rfl (y_val tok rfl) ?_
    refine o_yield rfl rfl rfl (y_val tok rfl) ?_
    refine o_yield rfl rfl rfl (y_val tok rfl) ?_
    obtain ⟨x, h_x⟩ := hs.at (k := k) (by omega)
    have hlt_x := lt_of_at h_x
    refine o_yield rfl rfl rfl (y_idx tok rfl (fun hg => hs.sl) (fun hg => ⟨by omega, by omega⟩)) ?_
    refine o_yield rfl rfl rfl (y_lel tok (k) 0 (x) rfl (fun hg => hs) (fun hg => h_x) rfl rfl) ?_
    rw [drop_at h_x, idxB] at heq
    refine o_callF (.a (.v _)) rfl rfl rfl rfl rfl (fun hg E w1 hm => by exact hf x w1 (hV.trans hm.leV)) ?_
    refine o_end [0, 1, 5, 7, 8, 16] rfl ?_
    refine x_then ?_
    refine c_cond rfl (fun h => ?_) (fun h => ?_)
    ·
      refine c_seq ?_
      refine c_region ?_
      refine o_yield rfl rfl rfl (y_val tok rfl) ?_
      refine o_yield rfl rfl rfl (y_val tok rfl) ?_
      refine o_end [4] rfl ?_
      refine x_then ?_
      refine c_ret ?_
      refine x_block_ret ?_
      refine x_then_ret ?_
      refine x_then_ret ?_
      refine x_block_ret ?_
      refine x_then_ret ?_
      refine b_ret tok rfl ?_
      rw [if_pos h] at heq
      intro E w' hm _
      refine ⟨?_, hm.below (Vw.le.refl _)⟩
      rw [heq]; rfl
    ·
      refine c_skip ?_
      refine x_block ?_
      refine x_then ?_
      refine c_region ?_
      refine o_yield rfl rfl rfl (y_val tok rfl) ?_
      refine o_yield rfl rfl rfl (y_val tok rfl) ?_
      refine o_end [0, 1, 7, 8] rfl ?_
      refine x_then ?_
      rw [if_neg (by simp [h])] at heq
      rw [wrapI (n := (k : Int) + 1) (by omega) (by omega)]
      refine x_round (k + 1) (⟨by omega, heq⟩) (by first | omega | (dsimp only; omega)) (by repeat (first | exact SubF.nil | refine SubF.cons rfl ?_)) (by repeat (first | exact SubO.nil | refine SubO.cons rfl ?_)) rfl (Vw.le.refl _)
  ·
    simp only [Bool.and_eq_true, Bool.or_eq_true, Bool.not_eq_true', Bool.or_eq_false_iff, Bool.and_eq_false_iff, decide_eq_true_eq, decide_eq_false_iff_not, beq_iff_eq, bne_iff_ne, Bool.not_eq_false', beq_eq_false_iff_ne, bne_eq_false_iff_eq, ne_eq, Decidable.not_not, Int.not_lt, Int.not_le] at h
    refine c_exit ?_
    refine x_then_exit ?_
    refine x_then_exit ?_
    refine x_block_hit ?_
    refine x_then ?_
    refine c_seq ?_
    refine c_region ?_
    refine o_yield rfl rfl rfl (y_val tok rfl) ?_
    refine o_end [4] rfl ?_
    refine x_then ?_
    refine c_ret ?_
    refine b_ret tok rfl ?_
    have hkL : k = l.length := by omega
    subst hkL
    rw [List.drop_length, idxB] at heq
    intro E w' hm _
    refine ⟨?_, hm.below (Vw.le.refl _)⟩
    rw [heq]; rfl

theorem has_c (sv : Value) (l : List Block) (k : Int) (b : Nat) (w : World) (hb : w.heap[b]? = some (.cells [sv].toArray 124 (0, 0))) (hs : SlOf ((vw w).del b) Block.cells 2 sv l) (hn : l.length ≤ 4398046511104) :
    Calls Try.prog 62 #[.pointer (some ⟨b, 0, none⟩), I k] w fun e w' => e = .returned (I (idxB (fun x => x.n == k) l 0)) ∧ Below w.heap.size w w' := by
  refine enter1 [.a (.ptr 0 0), .a (.v (I k))] hb Try.func62 rfl rfl rfl rfl ?_
  refine c_seq ?_
  refine c_region ?_
  refine o_new tok rfl rfl rfl rfl ?_
  refine o_yield rfl rfl rfl (y_val tok rfl) ?_
  refine o_end [0, 3] rfl ?_
  refine x_then ?_
  refine c_seq ?_
  refine c_region ?_
  refine o_yield rfl rfl rfl (y_val tok rfl) ?_
  refine o_yield rfl rfl rfl (y_val tok rfl) ?_
  refine o_yield rfl rfl rfl (y_val tok rfl) ?_
  refine o_yield rfl rfl rfl (y_val tok rfl) ?_
  refine o_yield rfl rfl rfl (y_val tok rfl) ?_
  refine o_call (.a (.v _)) rfl rfl fnok72 rfl rfl rfl (fun hg E w1 hm => by exact indexB_c (vw w1) _ sv (fun x => x.n == k) l _ (Vw.le.refl _) (hs.mono hm.leV) hn (fun x w' hle => ⟨73, _, rfl, fnok73, hasFn_c x k _ w' (hle.get _ _ (hm.lit 3 _ _ rfl))⟩)) ?_
  refine o_yield rfl rfl rfl (y_val tok rfl) ?_
  refine o_end [4] rfl ?_
  refine x_then ?_
  refine c_ret ?_
  refine b_ret tok rfl ?_
  intro E w' hm _
  exact ⟨rfl, below1 hb hm (Vw.le.refl _) rfl rfl rfl⟩

/-- What a row tells of a place. -/
def getB : List Block → Int → ByteArray × Bool
  | [], _ => (ByteArray.empty, false)
  | b :: r, k => if b.n = k then (b.text, true) else getB r k

theorem idx_get (k : Int) : ∀ (l : List Block) (i : Nat), (idxB (fun x => x.n == k) l i = -1 ∧ getB l k = (ByteArray.empty, false)) ∨ ∃ (j : Nat) (b : Block), idxB (fun x => x.n == k) l i = ((i + j : Nat) : Int) ∧ l[j]? = some b ∧ getB l k = (b.text, true)
  | [], _ => .inl ⟨rfl, rfl⟩
  | b :: r, i => by
    rw [idxB, getB]
    by_cases h : b.n = k
    · exact .inr ⟨0, b, by rw [if_pos (by simpa using h)]; rfl, rfl, by rw [if_pos h]⟩
    · rw [if_neg (by simpa using h), if_neg h]
      rcases idx_get k r (i + 1) with ⟨h1, h2⟩ | ⟨j, c, h1, h2, h3⟩
      · exact .inl ⟨h1, h2⟩
      · exact .inr ⟨j + 1, c, by rw [h1]; congr 1; omega, by simpa using h2, h3⟩

theorem sl_shape {V : Vw} {v : Value} {sz m : Nat} {xs : List Value} (h : IsSl V v sz m xs) : ∃ a n c, v = .slice a n c := by
  rcases h.2 with ⟨a, c, rfl, _⟩ | ⟨g, o, cap, cur, e, f, rfl, _⟩
  · exact ⟨_, _, _, rfl⟩
  · exact ⟨_, _, _, rfl⟩

theorem get_c (V : Vw) (sv : Value) (l : List Block) (k : Int) (w : World) (hV : V.le (vw w)) (hs0 : SlOf V Block.cells 2 sv l) (hn : l.length ≤ 4398046511104) :
    Calls Try.prog 47 #[sv, I k] w fun e w' => e = .returned (.tuple #[S (getB l k).1, .bool (getB l k).2]) ∧ Below w.heap.size w w' := by
  obtain ⟨a, n, c, rfl⟩ := sl_shape hs0.sl
  have hs := hs0.mono hV
  have hig := idx_get k l 0
  refine enter (E := E0) (O := []) (nl := 0) (V := vw w) [.a (.v (.slice a n c)), .a (.v (I k))] Try.func47 rfl rfl (mem0 E0 0 w) rfl rfl ?_
  refine c_seq ?_
  refine c_region ?_
  refine o_yield rfl rfl rfl (y_val tok rfl) ?_
  refine o_yield rfl rfl rfl (y_val tok rfl) ?_
  refine o_end [0, 1] rfl ?_
  refine x_then ?_
  refine c_seq ?_
  refine c_region ?_
  refine o_yield rfl rfl rfl (y_val tok rfl) ?_
  refine o_yield rfl rfl rfl (y_val tok rfl) ?_
  refine o_new tok rfl rfl rfl rfl ?_
  refine o_store tok rfl rfl rfl (by first | exact ⟨trivial, trivial⟩ | (repeat' first | exact trivial | exact rfl | apply And.intro); done | simp [onesP, oneP, lk, Value.oneCell']) ?_
  refine o_end [0, 1, 6] rfl ?_
  refine x_then ?_
  refine c_seq ?_
  refine c_seq ?_
  refine c_region ?_
  refine o_yield rfl rfl rfl (y_val tok rfl) ?_
  refine o_call (.a (.v _)) rfl rfl fnok62 rfl rfl rfl (fun hg E w1 hm => by exact has_c _ l k _ _ (hm.lit 0 _ _ rfl) (hs.mono (hm.leDel (l := 0) rfl)) hn) ?_
  refine o_yield rfl rfl rfl (y_val tok rfl) ?_
  refine o_end [0, 7] rfl ?_
  refine x_then ?_
  refine c_seq ?_
  refine c_region ?_
  refine o_yield rfl rfl rfl (y_val tok rfl) ?_
  refine o_yield rfl rfl rfl (y_val tok rfl) ?_
  refine o_end [0, 7, 13] rfl ?_
  refine x_then ?_
  refine c_cond rfl (fun h => ?_) (fun h => ?_)
  ·
    simp only [Bool.and_eq_true, Bool.or_eq_true, Bool.not_eq_true', Bool.or_eq_false_iff, Bool.and_eq_false_iff, decide_eq_true_eq, decide_eq_false_iff_not, beq_iff_eq, bne_iff_ne, Bool.not_eq_false', beq_eq_false_iff_ne, bne_eq_false_iff_eq, ne_eq, Decidable.not_not, Int.not_lt, Int.not_le] at h
    refine c_seq ?_
    refine c_region ?_
    refine o_yield rfl rfl rfl (y_val tok rfl) ?_
    refine o_yield rfl rfl rfl (y_val tok rfl) ?_
    rcases hig with ⟨h1, _⟩ | ⟨j, b, h1, h2, h3⟩
    · omega
    · rw [Nat.zero_add] at h1
      rw [h1]
      have hlt_b := lt_of_at h2
      refine o_yield rfl rfl rfl (y_idx tok rfl (fun hg => hs.sl) (fun hg => ⟨by omega, by omega⟩)) ?_
      refine o_yield rfl rfl rfl (y_fel tok rfl (fun hg => hs.sl) (fun hg => by omega)) ?_
      refine o_yield rfl rfl rfl (y_lel tok (j) 1 (b) rfl (fun hg => hs) (fun hg => h2) rfl rfl) ?_
      refine o_yield rfl rfl rfl (y_val tok rfl) ?_
      refine o_yield rfl rfl rfl (y_val tok rfl) ?_
      refine o_end [4, 5] rfl ?_
      refine x_then ?_
      refine c_ret ?_
      refine x_then_ret ?_
      refine b_ret tok rfl ?_
      intro E w' hm _
      refine ⟨?_, hm.below (Vw.le.refl _)⟩
      rw [h3]; rfl
  ·
    simp only [Bool.and_eq_true, Bool.or_eq_true, Bool.not_eq_true', Bool.or_eq_false_iff, Bool.and_eq_false_iff, decide_eq_true_eq, decide_eq_false_iff_not, beq_iff_eq, bne_iff_ne, Bool.not_eq_false', beq_eq_false_iff_ne, bne_eq_false_iff_eq, ne_eq, Decidable.not_not, Int.not_lt, Int.not_le] at h
    refine c_skip ?_
    refine x_then ?_
    refine c_seq ?_
    refine c_region ?_
    refine o_yield rfl rfl rfl (y_val tok rfl) ?_
    refine o_yield rfl rfl rfl (y_val tok rfl) ?_
    refine o_end [4, 5] rfl ?_
    refine x_then ?_
    refine c_ret ?_
    refine b_ret tok rfl ?_
    rcases hig with ⟨_, h3⟩ | ⟨j, b, h1, _⟩
    ·
      intro E w' hm _
      refine ⟨?_, hm.below (Vw.le.refl _)⟩
      rw [h3]; rfl
    · omega

theorem refGet18_c (V : Vw) (sv : Value) (l : List Block) (k : Int) (w : World) (hV : V.le (vw w)) (hs0 : SlOf V Block.cells 2 sv l) (hn : l.length ≤ 4398046511104) :
    Calls Try.prog 15 #[sv, I k] w fun e w' => e = .returned (.tuple #[S (getB l k).1, .bool (getB l k).2]) ∧ Below w.heap.size w w' := by
  have hs := hs0.mono hV
  refine enter (E := E0) (O := []) (nl := 0) (V := vw w) [.a (.v sv), .a (.v (I k))] Try.func15 rfl rfl (mem0 E0 0 w) rfl rfl ?_
  refine c_seq ?_
  refine c_region ?_
  refine o_yield rfl rfl rfl (y_val tok rfl) ?_
  refine o_yield rfl rfl rfl (y_val tok rfl) ?_
  refine o_end [0, 1] rfl ?_
  refine x_then ?_
  refine c_seq ?_
  refine c_seq ?_
  refine c_region ?_
  refine o_yield rfl rfl rfl (y_val tok rfl) ?_
  refine o_end [0, 1, 6] rfl ?_
  refine x_then ?_
  refine c_block ?_
  refine c_loopK [0, 1] [] rfl rfl (σ := Nat) (fun i => [(6, .a (.v (I i)))]) (fun i => []) (fun i => i ≤ l.length ∧ getB l k = getB (l.drop i) k) (fun i => l.length - i) (0) (⟨by omega, rfl⟩) (by repeat (first | exact SubF.nil | refine SubF.cons rfl ?_)) (by repeat (first | exact SubO.nil | refine SubO.cons rfl ?_)) rfl ?_
  rintro i ⟨hi, heq⟩
  refine c_seq ?_
  refine c_seq ?_
  refine c_region ?_
  refine o_yield rfl rfl rfl (y_val tok rfl) ?_
  refine o_yield rfl rfl rfl (y_val tok rfl) ?_
  refine o_yield rfl rfl rfl (y_len tok rfl (fun hg => hs.sl)) ?_
  refine o_yield rfl rfl rfl (y_val tok rfl) ?_
  refine o_end [0, 1, 6, 10] rfl ?_
  refine x_then ?_
  refine c_cond rfl (fun h => ?_) (fun h => ?_)
  ·
    simp only [Bool.and_eq_true, Bool.or_eq_true, Bool.not_eq_true', Bool.or_eq_false_iff, Bool.and_eq_false_iff, decide_eq_true_eq, decide_eq_false_iff_not, beq_iff_eq, bne_iff_ne, Bool.not_eq_false', beq_eq_false_iff_ne, bne_eq_false_iff_eq, ne_eq, Decidable.not_not, Int.not_lt, Int.not_le] at h
    refine c_skip ?_
    refine x_then ?_
    refine c_seq ?_
    refine c_block ?_
    refine c_seq ?_
    refine c_region ?_
    refine o_yield rfl rfl rfl (y_val tok rfl) ?_
    refine o_yield rfl rfl rfl (y_val tok rfl) ?_
    obtain ⟨x, h_x⟩ := hs.at (k := i) (by omega)
    have hlt_x := lt_of_at h_x
    refine o_yield rfl rfl rfl (y_idx tok rfl (fun hg => hs.sl) (fun hg => ⟨by omega, by omega⟩)) ?_
    refine o_yield rfl rfl rfl (y_fel tok rfl (fun hg => hs.sl) (fun hg => by omega)) ?_
    refine o_yield rfl rfl rfl (y_lel tok (i) 0 (x) rfl (fun hg => hs) (fun hg => h_x) rfl rfl) ?_
    refine o_yield rfl rfl rfl (y_val tok rfl) ?_
    refine o_yield rfl rfl rfl (y_val tok rfl) ?_
    refine o_end [0, 1, 6, 19] rfl ?_
    refine x_then ?_
    refine c_cond rfl (fun h => ?_) (fun h => ?_)
    ·
      simp only [Bool.and_eq_true, Bool.or_eq_true, Bool.not_eq_true', Bool.or_eq_false_iff, Bool.and_eq_false_iff, decide_eq_true_eq, decide_eq_false_iff_not, beq_iff_eq, bne_iff_ne, Bool.not_eq_false', beq_eq_false_iff_ne, bne_eq_false_iff_eq, ne_eq, Decidable.not_not, Int.not_lt, Int.not_le] at h
      refine c_seq ?_
      refine c_region ?_
      refine o_yield rfl rfl rfl (y_val tok rfl) ?_
      refine o_yield rfl rfl rfl (y_val tok rfl) ?_
      rw [drop_at h_x, getB, if_pos h] at heq
      have hlt_x := lt_of_at h_x
      refine o_yield rfl rfl rfl (y_idx tok rfl (fun hg => hs.sl) (fun hg => ⟨by omega, by omega⟩)) ?_
      refine o_yield rfl rfl rfl (y_fel tok rfl (fun hg => hs.sl) (fun hg => by omega)) ?_
      refine o_yield rfl rfl rfl (y_lel tok (i) 1 (x) rfl (fun hg => hs) (fun hg => h_x) rfl rfl) ?_
      refine o_yield rfl rfl rfl (y_val tok rfl) ?_
      refine o_yield rfl rfl rfl (y_val tok rfl) ?_
      refine o_end [4, 5] rfl ?_
      refine x_then ?_
      refine c_ret ?_
      refine x_block_ret ?_
      refine x_then_ret ?_
      refine x_then_ret ?_
      refine x_block_ret ?_
      refine x_then_ret ?_
      refine b_ret tok rfl ?_
      intro E w' hm _
      refine ⟨?_, hm.below (Vw.le.refl _)⟩
      rw [heq]; rfl
    ·
      simp only [Bool.and_eq_true, Bool.or_eq_true, Bool.not_eq_true', Bool.or_eq_false_iff, Bool.and_eq_false_iff, decide_eq_true_eq, decide_eq_false_iff_not, beq_iff_eq, bne_iff_ne, Bool.not_eq_false', beq_eq_false_iff_ne, bne_eq_false_iff_eq, ne_eq, Decidable.not_not, Int.not_lt, Int.not_le] at h
      refine c_skip ?_
      refine x_block ?_
      refine x_then ?_
      refine c_region ?_
      refine o_yield rfl rfl rfl (y_val tok rfl) ?_
      refine o_yield rfl rfl rfl (y_val tok rfl) ?_
      refine o_yield rfl rfl rfl (y_val tok rfl) ?_
      refine o_end [0, 1, 6] rfl ?_
      refine x_then ?_
      rw [drop_at h_x, getB, if_neg h] at heq
      rw [wrapI (n := (i : Int) + 1) (by omega) (by omega)]
      refine x_round (i + 1) (⟨by omega, heq⟩) (by first | omega | (dsimp only; omega)) (by repeat (first | exact SubF.nil | refine SubF.cons rfl ?_)) (by repeat (first | exact SubO.nil | refine SubO.cons rfl ?_)) rfl (Vw.le.refl _)
  ·
    simp only [Bool.and_eq_true, Bool.or_eq_true, Bool.not_eq_true', Bool.or_eq_false_iff, Bool.and_eq_false_iff, decide_eq_true_eq, decide_eq_false_iff_not, beq_iff_eq, bne_iff_ne, Bool.not_eq_false', beq_eq_false_iff_ne, bne_eq_false_iff_eq, ne_eq, Decidable.not_not, Int.not_lt, Int.not_le] at h
    refine c_exit ?_
    refine x_then_exit ?_
    refine x_then_exit ?_
    refine x_block_hit ?_
    refine x_then ?_
    refine c_seq ?_
    refine c_region ?_
    refine o_yield rfl rfl rfl (y_val tok rfl) ?_
    refine o_yield rfl rfl rfl (y_val tok rfl) ?_
    refine o_end [4, 5] rfl ?_
    refine x_then ?_
    refine c_ret ?_
    refine b_ret tok rfl ?_
    have hkL : i = l.length := by omega
    subst hkL
    rw [List.drop_length, getB] at heq
    intro E w' hm _
    refine ⟨?_, hm.below (Vw.le.refl _)⟩
    rw [heq]; rfl
end Go.Proofs.Ytipmgnhbcaniiaa

/- What rows of blocks tell: the program's. -/
set_option linter.unusedVariables false
set_option linter.unusedSimpArgs false
set_option maxRecDepth 100000
namespace Go.Proofs.Ytipmgnhbcaniiaa
open Go Go.Eng Go.RowKit

/-- What the first row that has a place tells of it. -/
def knownB : List (Sl Block) → Int → ByteArray × Bool
  | [], _ => (ByteArray.empty, false)
  | r :: rs, k => if (getB r.l k).2 = true then ((getB r.l k).1, true) else knownB rs k

theorem known_c (V : Vw) (sv : Value) (l : List (Sl Block)) (k : Int) (w : World) (hV : V.le (vw w)) (hs0 : SlOf V Sl.enc 1 sv l) (hg : ∀ r ∈ l, SlOf V Block.cells 2 r.v r.l ∧ r.l.length ≤ 4398046511104) (hn : l.length ≤ 4398046511104) :
    Calls Try.prog 20 #[I k, sv] w fun e w' => e = .returned (.tuple #[S (knownB l k).1, .bool (knownB l k).2]) ∧ Below w.heap.size w w' := by
  have hs := hs0.mono hV
  refine enter (E := E0) (O := []) (nl := 0) (V := vw w) [.a (.v (I k)), .a (.v sv)] Try.func20 rfl rfl (mem0 E0 0 w) rfl rfl ?_
  refine c_seq ?_
  refine c_region ?_
  refine o_yield rfl rfl rfl (y_val tok rfl) ?_
  refine o_yield rfl rfl rfl (y_val tok rfl) ?_
  refine o_end [0, 1] rfl ?_
  refine x_then ?_
  refine c_seq ?_
  refine c_seq ?_
  refine c_region ?_
  refine o_yield rfl rfl rfl (y_val tok rfl) ?_
  refine o_yield rfl rfl rfl (y_len tok rfl (fun hg => hs.sl)) ?_
  refine o_yield rfl rfl rfl (y_val tok rfl) ?_
  refine o_end [0, 10, 11, 12] rfl ?_
  refine x_then ?_
  refine c_block ?_
  refine c_loopK [0, 10, 11] [] rfl rfl (σ := Nat) (fun i => [(12, .a (.v (I i)))]) (fun i => []) (fun i => i ≤ l.length ∧ knownB l k = knownB (l.drop i) k) (fun i => l.length - i) (0) (⟨by omega, rfl⟩) (by repeat (first | exact SubF.nil | refine SubF.cons rfl ?_)) (by repeat (first | exact SubO.nil | refine SubO.cons rfl ?_)) rfl ?_
  rintro i ⟨hi, heq⟩
  refine c_seq ?_
  refine c_region ?_
  refine o_yield rfl rfl rfl (y_val tok rfl) ?_
  refine o_end [0, 10, 11, 12, 13] rfl ?_
  refine x_then ?_
  refine c_seq ?_
  refine c_cond rfl (fun h => ?_) (fun h => ?_)
  ·
    simp only [Bool.and_eq_true, Bool.or_eq_true, Bool.not_eq_true', Bool.or_eq_false_iff, Bool.and_eq_false_iff, decide_eq_true_eq, decide_eq_false_iff_not, beq_iff_eq, bne_iff_ne, Bool.not_eq_false', beq_eq_false_iff_ne, bne_eq_false_iff_eq, ne_eq, Decidable.not_not, Int.not_lt, Int.not_le] at h
    refine c_skip ?_
    refine x_then ?_
    refine c_seq ?_
    refine c_block ?_
    refine c_seq ?_
    refine c_region ?_
    obtain ⟨x, h_x⟩ := hs.at (k := i) (by omega)
    have hlt_x := lt_of_at h_x
    refine o_yield rfl rfl rfl (y_idx tok rfl (fun hg => hs.sl) (fun hg => ⟨by omega, by omega⟩)) ?_
    refine o_yield rfl rfl rfl (y_lel tok (i) 0 (x) rfl (fun hg => hs) (fun hg => h_x) rfl rfl) ?_
    refine o_yield rfl rfl rfl (y_val tok rfl) ?_
    refine o_end [0, 7, 10, 11, 12] rfl ?_
    refine x_then ?_
    refine c_seq ?_
    refine c_region ?_
    refine o_yield rfl rfl rfl (y_val tok rfl) ?_
    refine o_yield rfl rfl rfl (y_val tok rfl) ?_
    obtain ⟨hx, hxn⟩ := hg x (List.mem_of_getElem? h_x)
    rw [drop_at h_x, knownB] at heq
    refine o_call (.a (.v _)) rfl rfl fnok47 rfl rfl rfl (fun hg E w1 hm => by exact get_c _ x.v x.l k _ hm.leV (hx.mono hV) hxn) ?_
    refine o_yield rfl rfl rfl (y_val tok rfl) ?_
    refine o_yield rfl rfl rfl (y_val tok rfl) ?_
    refine o_yield rfl rfl rfl (y_val tok rfl) ?_
    refine o_yield rfl rfl rfl (y_val tok rfl) ?_
    refine o_yield rfl rfl rfl (y_val tok rfl) ?_
    refine o_end [0, 8, 9, 10, 11, 12] rfl ?_
    refine x_then ?_
    refine c_seq ?_
    refine c_region ?_
    refine o_yield rfl rfl rfl (y_val tok rfl) ?_
    refine o_end [0, 8, 10, 11, 12, 22] rfl ?_
    refine x_then ?_
    refine c_cond rfl (fun h => ?_) (fun h => ?_)
    ·
      refine c_seq ?_
      refine c_region ?_
      refine o_yield rfl rfl rfl (y_val tok rfl) ?_
      refine o_yield rfl rfl rfl (y_val tok rfl) ?_
      refine o_yield rfl rfl rfl (y_val tok rfl) ?_
      refine o_end [4, 5] rfl ?_
      refine x_then ?_
      refine c_ret ?_
      refine x_block_ret ?_
      refine x_then_ret ?_
      refine x_then_ret ?_
      refine x_block_ret ?_
      refine x_then_ret ?_
      refine b_ret tok rfl ?_
      rw [if_pos h] at heq
      intro E w' hm _
      refine ⟨?_, hm.below (Vw.le.refl _)⟩
      rw [heq]; rfl
    ·
      refine c_skip ?_
      refine x_block ?_
      refine x_then ?_
      refine c_region ?_
      refine o_yield rfl rfl rfl (y_val tok rfl) ?_
      refine o_yield rfl rfl rfl (y_val tok rfl) ?_
      refine o_end [0, 10, 11, 12] rfl ?_
      refine x_then ?_
      rw [if_neg (by simp [h])] at heq
      rw [wrapI (n := (i : Int) + 1) (by omega) (by omega)]
      refine x_round (i + 1) (⟨by omega, heq⟩) (by first | omega | (dsimp only; omega)) (by repeat (first | exact SubF.nil | refine SubF.cons rfl ?_)) (by repeat (first | exact SubO.nil | refine SubO.cons rfl ?_)) rfl (Vw.le.refl _)
  ·
    simp only [Bool.and_eq_true, Bool.or_eq_true, Bool.not_eq_true', Bool.or_eq_false_iff, Bool.and_eq_false_iff, decide_eq_true_eq, decide_eq_false_iff_not, beq_iff_eq, bne_iff_ne, Bool.not_eq_false', beq_eq_false_iff_ne, bne_eq_false_iff_eq, ne_eq, Decidable.not_not, Int.not_lt, Int.not_le] at h
    refine c_exit ?_
    refine x_then_exit ?_
    refine x_then_exit ?_
    refine x_block_hit ?_
    refine x_then ?_
    refine c_seq ?_
    refine c_region ?_
    refine o_yield rfl rfl rfl (y_val tok rfl) ?_
    refine o_yield rfl rfl rfl (y_val tok rfl) ?_
    refine o_end [4, 5] rfl ?_
    refine x_then ?_
    refine c_ret ?_
    refine b_ret tok rfl ?_
    have hkL : i = l.length := by omega
    subst hkL
    rw [List.drop_length, knownB] at heq
    intro E w' hm _
    refine ⟨?_, hm.below (Vw.le.refl _)⟩
    rw [heq]; rfl
end Go.Proofs.Ytipmgnhbcaniiaa

/- Where everything stands: the program's regions. -/
set_option linter.unusedVariables false
set_option linter.unusedSimpArgs false
set_option maxRecDepth 100000
namespace Go.Proofs.Ytipmgnhbcaniiaa
open Go Go.Eng Go.RowKit

/-- A stretch of things of a kind. -/
structure Reg where
  first : Int
  many : Int
  kind : Int
  per : Int
abbrev Reg.cells (r : Reg) : List Value := [I r.first, I r.many, I8 r.kind, I r.per]
abbrev Reg.val (r : Reg) : Value := .agg #[I r.first, I r.many, I8 r.kind, I r.per]

/-- The first sector of data. -/
def dataAt (g : Geo) : Int := 1 + 2 * g.nodes + g.log + g.slots * (1 + g.journal)

def regs (g : Geo) : List Reg :=
  [⟨0, 1, 1, 1⟩, ⟨1, g.nodes, 2, 1⟩, ⟨1 + g.nodes, g.nodes, 3, 1⟩, ⟨1 + 2 * g.nodes, g.log, 4, 1⟩, ⟨1 + 2 * g.nodes + g.log, g.slots * (1 + g.journal), 6, 1 + g.journal⟩, ⟨dataAt g, g.blocks * g.per, 7, g.per⟩]

theorem stretchEnd_c (a b : Int) (w : World) : Calls Try.prog 58 #[.agg #[I a, I b]] w fun e w' => e = .returned (I (IntKind.i64.wrap (a + b))) ∧ Below w.heap.size w w' := by
  refine enter (E := E0) (O := []) (nl := 0) (V := vw w) [.a (.v (.agg #[I a, I b]))] Try.func58 rfl rfl (mem0 E0 0 w) rfl rfl ?_
  refine c_seq ?_
  refine c_region ?_
  refine o_new tok rfl rfl rfl rfl ?_
  refine o_yield rfl rfl rfl (y_val tok rfl) ?_
  refine o_end [1] rfl ?_
  refine x_then ?_
  refine c_seq ?_
  refine c_region ?_
  refine o_yield rfl rfl rfl (y_val tok rfl) ?_
  refine o_yield rfl rfl rfl (y_val tok rfl) ?_
  refine o_yield rfl rfl rfl (y_val tok rfl) ?_
  refine o_yield rfl rfl rfl (y_val tok rfl) ?_
  refine o_yield rfl rfl rfl (y_val tok rfl) ?_
  refine o_yield rfl rfl rfl (y_val tok rfl) ?_
  refine o_end [2] rfl ?_
  refine x_then ?_
  refine c_ret ?_
  refine b_ret tok rfl ?_
  intro E w' hm _
  refine ⟨?_, hm.below (Vw.le.refl _)⟩
  rfl

theorem stretchAt_c (a b k : Int) (w : World) : Calls Try.prog 65 #[.agg #[I a, I b], I k] w fun e w' => e = .returned (I (if k < 0 ∨ b ≤ k then -1 else IntKind.i64.wrap (a + k))) ∧ Below w.heap.size w w' := by
  refine enter (E := E0) (O := []) (nl := 0) (V := vw w) [.a (.v (.agg #[I a, I b])), .a (.v (I k))] Try.func65 rfl rfl (mem0 E0 0 w) rfl rfl ?_
  refine c_seq ?_
  refine c_region ?_
  refine o_new tok rfl rfl rfl rfl ?_
  refine o_yield rfl rfl rfl (y_val tok rfl) ?_
  refine o_end [1, 2] rfl ?_
  refine x_then ?_
  refine c_seq ?_
  refine c_seq ?_
  refine c_region ?_
  refine o_yield rfl rfl rfl (y_val tok rfl) ?_
  refine o_yield rfl rfl rfl (y_val tok rfl) ?_
  refine o_yield rfl rfl rfl (y_val tok rfl) ?_
  refine o_yield rfl rfl rfl (y_val tok rfl) ?_
  refine o_yield rfl rfl rfl (y_val tok rfl) ?_
  refine o_yield rfl rfl rfl (y_val tok rfl) ?_
  refine o_yield rfl rfl rfl (y_val tok rfl) ?_
  refine o_yield rfl rfl rfl (y_val tok rfl) ?_
  refine o_end [1, 2, 12] rfl ?_
  refine x_then ?_
  refine c_cond rfl (fun h => ?_) (fun h => ?_)
  ·
    simp only [Bool.and_eq_true, Bool.or_eq_true, Bool.not_eq_true', Bool.or_eq_false_iff, Bool.and_eq_false_iff, decide_eq_true_eq, decide_eq_false_iff_not, beq_iff_eq, bne_iff_ne, Bool.not_eq_false', beq_eq_false_iff_ne, bne_eq_false_iff_eq, ne_eq, Decidable.not_not, Int.not_lt, Int.not_le] at h
    refine c_seq ?_
    refine c_region ?_
    refine o_yield rfl rfl rfl (y_val tok rfl) ?_
    refine o_end [4] rfl ?_
    refine x_then ?_
    refine c_ret ?_
    refine x_then_ret ?_
    refine b_ret tok rfl ?_
    intro E w' hm _
    refine ⟨?_, hm.below (Vw.le.refl _)⟩
    rw [if_pos (by omega)]; rfl
  ·
    simp only [Bool.and_eq_true, Bool.or_eq_true, Bool.not_eq_true', Bool.or_eq_false_iff, Bool.and_eq_false_iff, decide_eq_true_eq, decide_eq_false_iff_not, beq_iff_eq, bne_iff_ne, Bool.not_eq_false', beq_eq_false_iff_ne, bne_eq_false_iff_eq, ne_eq, Decidable.not_not, Int.not_lt, Int.not_le] at h
    refine c_skip ?_
    refine x_then ?_
    refine c_seq ?_
    refine c_region ?_
    refine o_yield rfl rfl rfl (y_val tok rfl) ?_
    refine o_yield rfl rfl rfl (y_val tok rfl) ?_
    refine o_yield rfl rfl rfl (y_val tok rfl) ?_
    refine o_yield rfl rfl rfl (y_val tok rfl) ?_
    refine o_yield rfl rfl rfl (y_val tok rfl) ?_
    refine o_end [4] rfl ?_
    refine x_then ?_
    refine c_ret ?_
    refine b_ret tok rfl ?_
    intro E w' hm _
    refine ⟨?_, hm.below (Vw.le.refl _)⟩
    rw [if_neg (by omega)]; rfl

theorem geo_facts {g : Geo} (h : geoB g = true) : (1 ≤ g.nodes ∧ g.nodes ≤ 16) ∧ (1 ≤ g.slots ∧ g.slots ≤ g.nodes) ∧ (1 ≤ g.blocks ∧ g.blocks ≤ 64) ∧ (1 ≤ g.per ∧ g.per ≤ 8) ∧ (g.per + 2 ≤ g.journal ∧ g.journal ≤ 64) ∧
  (8 * g.slots ≤ g.log ∧ g.log ≤ 512) ∧ (1 ≤ g.lease ∧ g.lease < g.wait ∧ g.wait ≤ 1048576) := by simpa [geoB] using h

theorem prod_bound {a b A B : Int} (ha : 0 ≤ a) (hb : 0 ≤ b) (h1 : a ≤ A) (h2 : b ≤ B) : 0 ≤ a * b ∧ a * b ≤ A * B :=
  ⟨Int.mul_nonneg ha hb, Int.le_trans (Int.mul_le_mul_of_nonneg_right h1 hb) (Int.mul_le_mul_of_nonneg_left h2 (by omega))⟩

theorem reg_ones (l : List Reg) : ∀ u ∈ l.flatMap Reg.cells, u.oneCell' = true := by
  intro u hu
  obtain ⟨x, _, hx⟩ := List.mem_flatMap.1 hu
  simp only [Reg.cells, List.mem_cons, List.not_mem_nil, or_false] at hx
  rcases hx with rfl | rfl | rfl | rfl <;> rfl

theorem regions_c (g : Geo) (ok : g.Ok) (w : World) :
    Calls Try.prog 69 #[g.val] w fun e w' => ((geoB g = true ∧ ∃ v, e = .returned v ∧ w'.ownsRow w.heap.size 112 4 v 6 ((regs g).flatMap Reg.cells)) ∨ (geoB g = false ∧ e = .returned (.slice none 0 0))) ∧ Below w.heap.size w w' := by
  refine enter (E := E0) (O := []) (nl := 0) (V := vw w) [.a (.v g.val)] Try.func69 rfl rfl (mem0 E0 0 w) rfl rfl ?_
  refine c_seq ?_
  refine c_region ?_
  refine o_new tok rfl rfl rfl rfl ?_
  refine o_new tok rfl rfl rfl rfl ?_
  refine o_end [1, 2] rfl ?_
  refine x_then ?_
  refine c_seq ?_
  refine c_seq ?_
  refine c_region ?_
  refine o_yield rfl rfl rfl (y_val tok rfl) ?_
  refine o_call (.a (.v _)) rfl rfl fnok43 rfl rfl rfl (fun hg E w1 hm => by exact geoMay_c g ok _) ?_
  refine o_yield rfl rfl rfl (y_val tok rfl) ?_
  refine o_end [1, 2, 7] rfl ?_
  refine x_then ?_
  refine c_cond rfl (fun h => ?_) (fun h => ?_)
  ·
    simp only [Bool.and_eq_true, Bool.or_eq_true, Bool.not_eq_true', Bool.or_eq_false_iff, Bool.and_eq_false_iff, decide_eq_true_eq, decide_eq_false_iff_not, beq_iff_eq, bne_iff_ne, Bool.not_eq_false', beq_eq_false_iff_ne, bne_eq_false_iff_eq, ne_eq, Decidable.not_not, Int.not_lt, Int.not_le] at h
    refine c_seq ?_
    refine c_region ?_
    refine o_store tok rfl rfl rfl (by first | exact ⟨trivial, trivial⟩ | (repeat' first | exact trivial | exact rfl | apply And.intro); done | simp [onesP, oneP, lk, Value.oneCell']) ?_
    refine o_end [2] rfl ?_
    refine x_then ?_
    refine c_ret ?_
    refine x_then_ret ?_
    refine b_ret tok rfl ?_
    intro E w' hm _
    exact ⟨.inr ⟨by simpa using h, rfl⟩, hm.below (Vw.le.refl _)⟩
  ·
    simp only [Bool.and_eq_true, Bool.or_eq_true, Bool.not_eq_true', Bool.or_eq_false_iff, Bool.and_eq_false_iff, decide_eq_true_eq, decide_eq_false_iff_not, beq_iff_eq, bne_iff_ne, Bool.not_eq_false', beq_eq_false_iff_ne, bne_eq_false_iff_eq, ne_eq, Decidable.not_not, Int.not_lt, Int.not_le] at h
    refine c_skip ?_
    refine x_then ?_
    refine c_seq ?_
    refine c_region ?_
    refine o_new tok rfl rfl rfl rfl ?_
    refine o_store tok rfl rfl rfl (by first | exact ⟨trivial, trivial⟩ | (repeat' first | exact trivial | exact rfl | apply And.intro); done | simp [onesP, oneP, lk, Value.oneCell']) ?_
    refine o_end [1, 2, 3] rfl ?_
    refine x_then ?_
    refine c_seq ?_
    refine c_region ?_
    refine o_yield rfl rfl rfl (y_val tok rfl) ?_
    refine o_yield rfl rfl rfl (y_val tok rfl) ?_
    refine o_end [1, 2, 4] rfl ?_
    refine x_then ?_
    refine c_seq ?_
    refine c_region ?_
    refine o_yield rfl rfl rfl (y_val tok rfl) ?_
    have hgeo : geoB g = true := by simpa using h
    clear h
    have hf := geo_facts hgeo
    have hs := prod_bound (a := g.slots) (b := 1 + g.journal) (A := 16) (B := 65) (by omega) (by omega) (by omega) (by omega)
    have hb := prod_bound (a := g.blocks) (b := g.per) (A := 64) (B := 8) (by omega) (by omega) (by omega) (by omega)
    have hda : dataAt g = 1 + 2 * g.nodes + g.log + g.slots * (1 + g.journal) := rfl
    refine k_nilO 1 0 112 4 rfl rfl ?_
    refine o_inl rfl rfl rfl rfl rfl fnok78 Try.func78 rfl rfl rfl (fun E => ?_)
    refine c_seq ?_
    refine c_region ?_
    refine o_yield rfl rfl rfl (y_val tok rfl) ?_
    refine o_yield rfl rfl rfl (y_val tok rfl) ?_
    refine o_yield rfl rfl rfl (y_val tok rfl) ?_
    refine o_yield rfl rfl rfl (y_val tok rfl) ?_
    refine o_yield rfl rfl rfl (y_val tok rfl) ?_
    refine o_yield rfl rfl rfl (y_val tok rfl) ?_
    refine o_yield rfl rfl rfl (y_val tok rfl) ?_
    refine o_yield rfl rfl rfl (y_val tok rfl) ?_
    refine o_new tok rfl rfl rfl rfl ?_
    refine o_store tok rfl rfl rfl (by first | exact ⟨trivial, trivial⟩ | (repeat' first | exact trivial | exact rfl | apply And.intro); done | simp [onesP, oneP, lk, Value.oneCell']) ?_
    refine o_end [3, 4, 8] rfl ?_
    refine x_then ?_
    refine c_seq ?_
    refine c_region ?_
    refine o_yield rfl rfl rfl (y_val tok rfl) ?_
    refine o_yield rfl rfl rfl (y_val tok rfl) ?_
    rw [show IntKind.i64.wrap (1 * 1) = 1 by rw [wrapI (by omega) (by omega)]; try omega]
    refine o_step rfl rfl rfl rfl rfl (s_bs tok 4 rfl rfl rfl) (fun _ _ => ?_)
    refine o_step rfl rfl rfl rfl rfl (s_app tok (⟨0, 1, 1, 1⟩ : Reg).cells rfl (fun E w hm => ownsRow_src (hm.row _ _ _ _ _ rfl)) (fun _ _ _ => by simpa using reg_ones [(⟨0, 1, 1, 1⟩ : Reg)]) (by dsimp only; omega)) (fun _ _ => ?_)
    refine o_store tok rfl rfl rfl (by first | exact ⟨trivial, trivial⟩ | (repeat' first | exact trivial | exact rfl | apply And.intro); done | simp [onesP, oneP, lk, Value.oneCell']) ?_
    refine o_end [3, 8] rfl ?_
    refine x_then ?_
    refine c_region ?_
    refine o_yield rfl rfl rfl (y_val tok rfl) ?_
    refine o_yield rfl rfl rfl (y_val tok rfl) ?_
    refine o_call (.a (.v _)) rfl rfl fnok58 rfl rfl rfl (fun hg E w1 hm => by exact stretchEnd_c _ _ _) ?_
    refine o_store tok rfl rfl rfl (by first | exact ⟨trivial, trivial⟩ | (repeat' first | exact trivial | exact rfl | apply And.intro); done | simp [onesP, oneP, lk, Value.oneCell']) ?_
    refine o_end [] rfl ?_
    refine b_end tok rfl ?_
    rw [show IntKind.i64.wrap (0 + 1) = 1 by rw [wrapI (by omega) (by omega)]; try omega]
    intro E1 w1 hm1 hok1
    refine inl_end (E := E) hm1 hok1 rfl rfl (by repeat (first | exact KeepsIn.zero | refine KeepsIn.succ rfl ?_)) rfl (by repeat (first | exact SubO.nil | refine SubO.cons rfl ?_)) rfl ?_
    clear hm1 hok1 w1 E1 E
    refine k_swap 3 10 rfl ?_
    refine weaken (l := [(1, .a (.ptr 0 0)), (2, .a (.ptr 1 0)), (4, .a (.fn 78 [(2, 0), (1, 0)]))]) (O' := [(0, .lit (g.cells.map .v) 23), (1, .lit [.row 3] 130), (2, .lit [.v (I (1))] 3), (3, .row 112 4 1 (((regs g).take 1).flatMap Reg.cells))]) (nl' := 4) ?_ (by repeat (first | exact SubF.nil | refine SubF.cons rfl ?_)) (by repeat (first | exact SubO.nil | refine SubO.cons rfl ?_)) rfl (Vw.le.refl _)
    refine o_end [1, 2, 4] rfl ?_
    refine x_then ?_
    refine c_seq ?_
    refine c_region ?_
    refine o_yield rfl rfl rfl (y_val tok rfl) ?_
    refine o_yield rfl rfl rfl (y_val tok rfl) ?_
    refine o_yield rfl rfl rfl (y_val tok rfl) ?_
    refine o_inl rfl rfl rfl rfl rfl fnok78 Try.func78 rfl rfl rfl (fun E => ?_)
    refine c_seq ?_
    refine c_region ?_
    refine o_yield rfl rfl rfl (y_val tok rfl) ?_
    refine o_yield rfl rfl rfl (y_val tok rfl) ?_
    refine o_yield rfl rfl rfl (y_val tok rfl) ?_
    refine o_yield rfl rfl rfl (y_val tok rfl) ?_
    refine o_yield rfl rfl rfl (y_val tok rfl) ?_
    refine o_yield rfl rfl rfl (y_val tok rfl) ?_
    refine o_yield rfl rfl rfl (y_val tok rfl) ?_
    refine o_yield rfl rfl rfl (y_val tok rfl) ?_
    refine o_new tok rfl rfl rfl rfl ?_
    refine o_store tok rfl rfl rfl (by first | exact ⟨trivial, trivial⟩ | (repeat' first | exact trivial | exact rfl | apply And.intro); done | simp [onesP, oneP, lk, Value.oneCell']) ?_
    refine o_end [3, 4, 8] rfl ?_
    refine x_then ?_
    refine c_seq ?_
    refine c_region ?_
    refine o_yield rfl rfl rfl (y_val tok rfl) ?_
    refine o_yield rfl rfl rfl (y_val tok rfl) ?_
    rw [show IntKind.i64.wrap (g.nodes * 1) = g.nodes by rw [wrapI (by omega) (by omega)]; try omega]
    refine o_step rfl rfl rfl rfl rfl (s_bs tok 4 rfl rfl rfl) (fun _ _ => ?_)
    refine o_step rfl rfl rfl rfl rfl (s_app tok (⟨1, g.nodes, 2, 1⟩ : Reg).cells rfl (fun E w hm => ownsRow_src (hm.row _ _ _ _ _ rfl)) (fun _ _ _ => by simpa using reg_ones [(⟨1, g.nodes, 2, 1⟩ : Reg)]) (by dsimp only; omega)) (fun _ _ => ?_)
    refine o_store tok rfl rfl rfl (by first | exact ⟨trivial, trivial⟩ | (repeat' first | exact trivial | exact rfl | apply And.intro); done | simp [onesP, oneP, lk, Value.oneCell']) ?_
    refine o_end [3, 8] rfl ?_
    refine x_then ?_
    refine c_region ?_
    refine o_yield rfl rfl rfl (y_val tok rfl) ?_
    refine o_yield rfl rfl rfl (y_val tok rfl) ?_
    refine o_call (.a (.v _)) rfl rfl fnok58 rfl rfl rfl (fun hg E w1 hm => by exact stretchEnd_c _ _ _) ?_
    refine o_store tok rfl rfl rfl (by first | exact ⟨trivial, trivial⟩ | (repeat' first | exact trivial | exact rfl | apply And.intro); done | simp [onesP, oneP, lk, Value.oneCell']) ?_
    refine o_end [] rfl ?_
    refine b_end tok rfl ?_
    rw [show IntKind.i64.wrap (1 + g.nodes) = 1 + g.nodes by rw [wrapI (by omega) (by omega)]; try omega]
    intro E1 w1 hm1 hok1
    refine inl_end (E := E) hm1 hok1 rfl rfl (by repeat (first | exact KeepsIn.zero | refine KeepsIn.succ rfl ?_)) rfl (by repeat (first | exact SubO.nil | refine SubO.cons rfl ?_)) rfl ?_
    clear hm1 hok1 w1 E1 E
    refine k_swap 3 10 rfl ?_
    refine weaken (l := [(1, .a (.ptr 0 0)), (2, .a (.ptr 1 0)), (4, .a (.fn 78 [(2, 0), (1, 0)]))]) (O' := [(0, .lit (g.cells.map .v) 23), (1, .lit [.row 3] 130), (2, .lit [.v (I (1 + g.nodes))] 3), (3, .row 112 4 2 (((regs g).take 2).flatMap Reg.cells))]) (nl' := 4) ?_ (by repeat (first | exact SubF.nil | refine SubF.cons rfl ?_)) (by repeat (first | exact SubO.nil | refine SubO.cons rfl ?_)) rfl (Vw.le.refl _)
    refine o_end [1, 2, 4] rfl ?_
    refine x_then ?_
    refine c_seq ?_
    refine c_region ?_
    refine o_yield rfl rfl rfl (y_val tok rfl) ?_
    refine o_yield rfl rfl rfl (y_val tok rfl) ?_
    refine o_yield rfl rfl rfl (y_val tok rfl) ?_
    refine o_inl rfl rfl rfl rfl rfl fnok78 Try.func78 rfl rfl rfl (fun E => ?_)
    refine c_seq ?_
    refine c_region ?_
    refine o_yield rfl rfl rfl (y_val tok rfl) ?_
    refine o_yield rfl rfl rfl (y_val tok rfl) ?_
    refine o_yield rfl rfl rfl (y_val tok rfl) ?_
    refine o_yield rfl rfl rfl (y_val tok rfl) ?_
    refine o_yield rfl rfl rfl (y_val tok rfl) ?_
    refine o_yield rfl rfl rfl (y_val tok rfl) ?_
    refine o_yield rfl rfl rfl (y_val tok rfl) ?_
    refine o_yield rfl rfl rfl (y_val tok rfl) ?_
    refine o_new tok rfl rfl rfl rfl ?_
    refine o_store tok rfl rfl rfl (by first | exact ⟨trivial, trivial⟩ | (repeat' first | exact trivial | exact rfl | apply And.intro); done | simp [onesP, oneP, lk, Value.oneCell']) ?_
    refine o_end [3, 4, 8] rfl ?_
    refine x_then ?_
    refine c_seq ?_
    refine c_region ?_
    refine o_yield rfl rfl rfl (y_val tok rfl) ?_
    refine o_yield rfl rfl rfl (y_val tok rfl) ?_
    rw [show IntKind.i64.wrap (g.nodes * 1) = g.nodes by rw [wrapI (by omega) (by omega)]; try omega]
    refine o_step rfl rfl rfl rfl rfl (s_bs tok 4 rfl rfl rfl) (fun _ _ => ?_)
    refine o_step rfl rfl rfl rfl rfl (s_app tok (⟨1 + g.nodes, g.nodes, 3, 1⟩ : Reg).cells rfl (fun E w hm => ownsRow_src (hm.row _ _ _ _ _ rfl)) (fun _ _ _ => by simpa using reg_ones [(⟨1 + g.nodes, g.nodes, 3, 1⟩ : Reg)]) (by dsimp only; omega)) (fun _ _ => ?_)
    refine o_store tok rfl rfl rfl (by first | exact ⟨trivial, trivial⟩ | (repeat' first | exact trivial | exact rfl | apply And.intro); done | simp [onesP, oneP, lk, Value.oneCell']) ?_
    refine o_end [3, 8] rfl ?_
    refine x_then ?_
    refine c_region ?_
    refine o_yield rfl rfl rfl (y_val tok rfl) ?_
    refine o_yield rfl rfl rfl (y_val tok rfl) ?_
    refine o_call (.a (.v _)) rfl rfl fnok58 rfl rfl rfl (fun hg E w1 hm => by exact stretchEnd_c _ _ _) ?_
    refine o_store tok rfl rfl rfl (by first | exact ⟨trivial, trivial⟩ | (repeat' first | exact trivial | exact rfl | apply And.intro); done | simp [onesP, oneP, lk, Value.oneCell']) ?_
    refine o_end [] rfl ?_
    refine b_end tok rfl ?_
    rw [show IntKind.i64.wrap ((1 + g.nodes) + g.nodes) = 1 + 2 * g.nodes by rw [wrapI (by omega) (by omega)]; try omega]
    intro E1 w1 hm1 hok1
    refine inl_end (E := E) hm1 hok1 rfl rfl (by repeat (first | exact KeepsIn.zero | refine KeepsIn.succ rfl ?_)) rfl (by repeat (first | exact SubO.nil | refine SubO.cons rfl ?_)) rfl ?_
    clear hm1 hok1 w1 E1 E
    refine k_swap 3 10 rfl ?_
    refine weaken (l := [(1, .a (.ptr 0 0)), (2, .a (.ptr 1 0)), (4, .a (.fn 78 [(2, 0), (1, 0)]))]) (O' := [(0, .lit (g.cells.map .v) 23), (1, .lit [.row 3] 130), (2, .lit [.v (I (1 + 2 * g.nodes))] 3), (3, .row 112 4 3 (((regs g).take 3).flatMap Reg.cells))]) (nl' := 4) ?_ (by repeat (first | exact SubF.nil | refine SubF.cons rfl ?_)) (by repeat (first | exact SubO.nil | refine SubO.cons rfl ?_)) rfl (Vw.le.refl _)
    refine o_end [1, 2, 4] rfl ?_
    refine x_then ?_
    refine c_seq ?_
    refine c_region ?_
    refine o_yield rfl rfl rfl (y_val tok rfl) ?_
    refine o_yield rfl rfl rfl (y_val tok rfl) ?_
    refine o_yield rfl rfl rfl (y_val tok rfl) ?_
    refine o_inl rfl rfl rfl rfl rfl fnok78 Try.func78 rfl rfl rfl (fun E => ?_)
    refine c_seq ?_
    refine c_region ?_
    refine o_yield rfl rfl rfl (y_val tok rfl) ?_
    refine o_yield rfl rfl rfl (y_val tok rfl) ?_
    refine o_yield rfl rfl rfl (y_val tok rfl) ?_
    refine o_yield rfl rfl rfl (y_val tok rfl) ?_
    refine o_yield rfl rfl rfl (y_val tok rfl) ?_
    refine o_yield rfl rfl rfl (y_val tok rfl) ?_
    refine o_yield rfl rfl rfl (y_val tok rfl) ?_
    refine o_yield rfl rfl rfl (y_val tok rfl) ?_
    refine o_new tok rfl rfl rfl rfl ?_
    refine o_store tok rfl rfl rfl (by first | exact ⟨trivial, trivial⟩ | (repeat' first | exact trivial | exact rfl | apply And.intro); done | simp [onesP, oneP, lk, Value.oneCell']) ?_
    refine o_end [3, 4, 8] rfl ?_
    refine x_then ?_
    refine c_seq ?_
    refine c_region ?_
    refine o_yield rfl rfl rfl (y_val tok rfl) ?_
    refine o_yield rfl rfl rfl (y_val tok rfl) ?_
    rw [show IntKind.i64.wrap (g.log * 1) = g.log by rw [wrapI (by omega) (by omega)]; try omega]
    refine o_step rfl rfl rfl rfl rfl (s_bs tok 4 rfl rfl rfl) (fun _ _ => ?_)
    refine o_step rfl rfl rfl rfl rfl (s_app tok (⟨1 + 2 * g.nodes, g.log, 4, 1⟩ : Reg).cells rfl (fun E w hm => ownsRow_src (hm.row _ _ _ _ _ rfl)) (fun _ _ _ => by simpa using reg_ones [(⟨1 + 2 * g.nodes, g.log, 4, 1⟩ : Reg)]) (by dsimp only; omega)) (fun _ _ => ?_)
    refine o_store tok rfl rfl rfl (by first | exact ⟨trivial, trivial⟩ | (repeat' first | exact trivial | exact rfl | apply And.intro); done | simp [onesP, oneP, lk, Value.oneCell']) ?_
    refine o_end [3, 8] rfl ?_
    refine x_then ?_
    refine c_region ?_
    refine o_yield rfl rfl rfl (y_val tok rfl) ?_
    refine o_yield rfl rfl rfl (y_val tok rfl) ?_
    refine o_call (.a (.v _)) rfl rfl fnok58 rfl rfl rfl (fun hg E w1 hm => by exact stretchEnd_c _ _ _) ?_
    refine o_store tok rfl rfl rfl (by first | exact ⟨trivial, trivial⟩ | (repeat' first | exact trivial | exact rfl | apply And.intro); done | simp [onesP, oneP, lk, Value.oneCell']) ?_
    refine o_end [] rfl ?_
    refine b_end tok rfl ?_
    rw [show IntKind.i64.wrap ((1 + 2 * g.nodes) + g.log) = 1 + 2 * g.nodes + g.log by rw [wrapI (by omega) (by omega)]; try omega]
    intro E1 w1 hm1 hok1
    refine inl_end (E := E) hm1 hok1 rfl rfl (by repeat (first | exact KeepsIn.zero | refine KeepsIn.succ rfl ?_)) rfl (by repeat (first | exact SubO.nil | refine SubO.cons rfl ?_)) rfl ?_
    clear hm1 hok1 w1 E1 E
    refine k_swap 3 10 rfl ?_
    refine weaken (l := [(1, .a (.ptr 0 0)), (2, .a (.ptr 1 0)), (4, .a (.fn 78 [(2, 0), (1, 0)]))]) (O' := [(0, .lit (g.cells.map .v) 23), (1, .lit [.row 3] 130), (2, .lit [.v (I (1 + 2 * g.nodes + g.log))] 3), (3, .row 112 4 4 (((regs g).take 4).flatMap Reg.cells))]) (nl' := 4) ?_ (by repeat (first | exact SubF.nil | refine SubF.cons rfl ?_)) (by repeat (first | exact SubO.nil | refine SubO.cons rfl ?_)) rfl (Vw.le.refl _)
    refine o_end [1, 2, 4] rfl ?_
    refine x_then ?_
    refine c_seq ?_
    refine c_region ?_
    refine o_yield rfl rfl rfl (y_val tok rfl) ?_
    refine o_yield rfl rfl rfl (y_val tok rfl) ?_
    refine o_yield rfl rfl rfl (y_val tok rfl) ?_
    refine o_yield rfl rfl rfl (y_val tok rfl) ?_
    refine o_yield rfl rfl rfl (y_val tok rfl) ?_
    refine o_yield rfl rfl rfl (y_val tok rfl) ?_
    refine o_inl rfl rfl rfl rfl rfl fnok78 Try.func78 rfl rfl rfl (fun E => ?_)
    refine c_seq ?_
    refine c_region ?_
    refine o_yield rfl rfl rfl (y_val tok rfl) ?_
    refine o_yield rfl rfl rfl (y_val tok rfl) ?_
    refine o_yield rfl rfl rfl (y_val tok rfl) ?_
    refine o_yield rfl rfl rfl (y_val tok rfl) ?_
    refine o_yield rfl rfl rfl (y_val tok rfl) ?_
    refine o_yield rfl rfl rfl (y_val tok rfl) ?_
    refine o_yield rfl rfl rfl (y_val tok rfl) ?_
    refine o_yield rfl rfl rfl (y_val tok rfl) ?_
    refine o_new tok rfl rfl rfl rfl ?_
    refine o_store tok rfl rfl rfl (by first | exact ⟨trivial, trivial⟩ | (repeat' first | exact trivial | exact rfl | apply And.intro); done | simp [onesP, oneP, lk, Value.oneCell']) ?_
    refine o_end [3, 4, 8] rfl ?_
    refine x_then ?_
    refine c_seq ?_
    refine c_region ?_
    refine o_yield rfl rfl rfl (y_val tok rfl) ?_
    refine o_yield rfl rfl rfl (y_val tok rfl) ?_
    rw [wrapI (n := 1 + g.journal) (by omega) (by omega)]
    rw [show IntKind.i64.wrap (g.slots * (1 + g.journal)) = g.slots * (1 + g.journal) by rw [wrapI (by omega) (by omega)]; try omega]
    refine o_step rfl rfl rfl rfl rfl (s_bs tok 4 rfl rfl rfl) (fun _ _ => ?_)
    refine o_step rfl rfl rfl rfl rfl (s_app tok (⟨1 + 2 * g.nodes + g.log, g.slots * (1 + g.journal), 6, 1 + g.journal⟩ : Reg).cells rfl (fun E w hm => ownsRow_src (hm.row _ _ _ _ _ rfl)) (fun _ _ _ => by simpa using reg_ones [(⟨1 + 2 * g.nodes + g.log, g.slots * (1 + g.journal), 6, 1 + g.journal⟩ : Reg)]) (by dsimp only; omega)) (fun _ _ => ?_)
    refine o_store tok rfl rfl rfl (by first | exact ⟨trivial, trivial⟩ | (repeat' first | exact trivial | exact rfl | apply And.intro); done | simp [onesP, oneP, lk, Value.oneCell']) ?_
    refine o_end [3, 8] rfl ?_
    refine x_then ?_
    refine c_region ?_
    refine o_yield rfl rfl rfl (y_val tok rfl) ?_
    refine o_yield rfl rfl rfl (y_val tok rfl) ?_
    refine o_call (.a (.v _)) rfl rfl fnok58 rfl rfl rfl (fun hg E w1 hm => by exact stretchEnd_c _ _ _) ?_
    refine o_store tok rfl rfl rfl (by first | exact ⟨trivial, trivial⟩ | (repeat' first | exact trivial | exact rfl | apply And.intro); done | simp [onesP, oneP, lk, Value.oneCell']) ?_
    refine o_end [] rfl ?_
    refine b_end tok rfl ?_
    rw [show IntKind.i64.wrap ((1 + 2 * g.nodes + g.log) + g.slots * (1 + g.journal)) = dataAt g by rw [wrapI (by omega) (by omega)]; try omega]
    intro E1 w1 hm1 hok1
    refine inl_end (E := E) hm1 hok1 rfl rfl (by repeat (first | exact KeepsIn.zero | refine KeepsIn.succ rfl ?_)) rfl (by repeat (first | exact SubO.nil | refine SubO.cons rfl ?_)) rfl ?_
    clear hm1 hok1 w1 E1 E
    refine k_swap 3 10 rfl ?_
    refine weaken (l := [(1, .a (.ptr 0 0)), (2, .a (.ptr 1 0)), (4, .a (.fn 78 [(2, 0), (1, 0)]))]) (O' := [(0, .lit (g.cells.map .v) 23), (1, .lit [.row 3] 130), (2, .lit [.v (I (dataAt g))] 3), (3, .row 112 4 5 (((regs g).take 5).flatMap Reg.cells))]) (nl' := 4) ?_ (by repeat (first | exact SubF.nil | refine SubF.cons rfl ?_)) (by repeat (first | exact SubO.nil | refine SubO.cons rfl ?_)) rfl (Vw.le.refl _)
    refine o_end [1, 2, 4] rfl ?_
    refine x_then ?_
    refine c_seq ?_
    refine c_region ?_
    refine o_yield rfl rfl rfl (y_val tok rfl) ?_
    refine o_yield rfl rfl rfl (y_val tok rfl) ?_
    refine o_yield rfl rfl rfl (y_val tok rfl) ?_
    refine o_yield rfl rfl rfl (y_val tok rfl) ?_
    refine o_yield rfl rfl rfl (y_val tok rfl) ?_
    refine o_inl rfl rfl rfl rfl rfl fnok78 Try.func78 rfl rfl rfl (fun E => ?_)
    refine c_seq ?_
    refine c_region ?_
    refine o_yield rfl rfl rfl (y_val tok rfl) ?_
    refine o_yield rfl rfl rfl (y_val tok rfl) ?_
    refine o_yield rfl rfl rfl (y_val tok rfl) ?_
    refine o_yield rfl rfl rfl (y_val tok rfl) ?_
    refine o_yield rfl rfl rfl (y_val tok rfl) ?_
    refine o_yield rfl rfl rfl (y_val tok rfl) ?_
    refine o_yield rfl rfl rfl (y_val tok rfl) ?_
    refine o_yield rfl rfl rfl (y_val tok rfl) ?_
    refine o_new tok rfl rfl rfl rfl ?_
    refine o_store tok rfl rfl rfl (by first | exact ⟨trivial, trivial⟩ | (repeat' first | exact trivial | exact rfl | apply And.intro); done | simp [onesP, oneP, lk, Value.oneCell']) ?_
    refine o_end [3, 4, 8] rfl ?_
    refine x_then ?_
    refine c_seq ?_
    refine c_region ?_
    refine o_yield rfl rfl rfl (y_val tok rfl) ?_
    refine o_yield rfl rfl rfl (y_val tok rfl) ?_
    rw [show IntKind.i64.wrap (g.blocks * g.per) = g.blocks * g.per by rw [wrapI (by omega) (by omega)]; try omega]
    refine o_step rfl rfl rfl rfl rfl (s_bs tok 4 rfl rfl rfl) (fun _ _ => ?_)
    refine o_step rfl rfl rfl rfl rfl (s_app tok (⟨dataAt g, g.blocks * g.per, 7, g.per⟩ : Reg).cells rfl (fun E w hm => ownsRow_src (hm.row _ _ _ _ _ rfl)) (fun _ _ _ => by simpa using reg_ones [(⟨dataAt g, g.blocks * g.per, 7, g.per⟩ : Reg)]) (by dsimp only; omega)) (fun _ _ => ?_)
    refine o_store tok rfl rfl rfl (by first | exact ⟨trivial, trivial⟩ | (repeat' first | exact trivial | exact rfl | apply And.intro); done | simp [onesP, oneP, lk, Value.oneCell']) ?_
    refine o_end [3, 8] rfl ?_
    refine x_then ?_
    refine c_region ?_
    refine o_yield rfl rfl rfl (y_val tok rfl) ?_
    refine o_yield rfl rfl rfl (y_val tok rfl) ?_
    refine o_call (.a (.v _)) rfl rfl fnok58 rfl rfl rfl (fun hg E w1 hm => by exact stretchEnd_c _ _ _) ?_
    refine o_store tok rfl rfl rfl (by first | exact ⟨trivial, trivial⟩ | (repeat' first | exact trivial | exact rfl | apply And.intro); done | simp [onesP, oneP, lk, Value.oneCell']) ?_
    refine o_end [] rfl ?_
    refine b_end tok rfl ?_
    rw [show IntKind.i64.wrap (dataAt g + g.blocks * g.per) = dataAt g + g.blocks * g.per by rw [wrapI (by omega) (by omega)]; try omega]
    intro E1 w1 hm1 hok1
    refine inl_end (E := E) hm1 hok1 rfl rfl (by repeat (first | exact KeepsIn.zero | refine KeepsIn.succ rfl ?_)) rfl (by repeat (first | exact SubO.nil | refine SubO.cons rfl ?_)) rfl ?_
    clear hm1 hok1 w1 E1 E
    refine o_end [2] rfl ?_
    refine x_then ?_
    refine c_seq ?_
    refine c_region ?_
    refine o_yield rfl rfl rfl (y_val tok rfl) ?_
    refine o_store tok rfl rfl rfl (by first | exact ⟨trivial, trivial⟩ | (repeat' first | exact trivial | exact rfl | apply And.intro); done | simp [onesP, oneP, lk, Value.oneCell']) ?_
    refine o_end [2] rfl ?_
    refine x_then ?_
    refine c_ret ?_
    refine b_ret tok rfl ?_
    intro E w' hm _
    refine ⟨.inl ⟨hgeo, E.κ 10, rfl, ?_⟩, hm.below (Vw.le.refl _)⟩
    have hrow := hm.rowFresh (Vw.le.refl _) (l := 10) rfl
    simpa [regs] using hrow

def regL (g : Geo) : List Reg := if geoB g = true then regs g else []

/-- The regions as ones that nobody writes. -/
theorem regions_cV (V : Vw) (g : Geo) (ok : g.Ok) (w : World) (hV : V.le (vw w)) :
    Calls Try.prog 69 #[g.val] w fun e w' => ∃ x V', e = .returned x ∧ Below w.heap.size w w' ∧ Vext w.heap.size V V' w' ∧ SlOf V' Reg.cells 4 x (regL g) := by
  refine (regions_c g ok w).mono ?_
  rintro e w' ⟨⟨h, v, rfl, hown⟩ | ⟨h, rfl⟩, hb⟩
  · obtain ⟨V', hx, hsl⟩ := ownsRow_vext hV hb hown
    exact ⟨_, V', rfl, hb, hx, by rw [regL, if_pos h]; exact ⟨hsl, fun _ => rfl⟩⟩
  · exact ⟨_, V, rfl, hb, Vext.same hV hb, by rw [regL, if_neg (by simp [h])]; exact slNil V Reg.cells 4 0 (fun _ => rfl)⟩

def findR (k : Int) : List Reg → Reg
  | [] => ⟨0, 0, 0, 1⟩
  | r :: t => if r.kind = k then r else findR k t

theorem find_c (g : Geo) (ok : g.Ok) (k : Int) (w : World) : Calls Try.prog 57 #[g.val, I8 k] w fun e w' => e = .returned (findR k (regL g)).val ∧ Below w.heap.size w w' := by
  refine enter (E := E0) (O := []) (nl := 0) (V := vw w) [.a (.v g.val), .a (.v (I8 k))] Try.func57 rfl rfl (mem0 E0 0 w) rfl rfl ?_
  refine c_seq ?_
  refine c_region ?_
  refine o_new tok rfl rfl rfl rfl ?_
  refine o_new tok rfl rfl rfl rfl ?_
  refine o_end [1, 2, 4] rfl ?_
  refine x_then ?_
  refine c_seq ?_
  refine c_seq ?_
  refine c_region ?_
  refine o_yield rfl rfl rfl (y_val tok rfl) ?_
  refine o_callV (fun x V' => SlOf V' Reg.cells 4 x (regL g)) rfl rfl fnok69 rfl rfl (fun hg E w1 hm => by exact regions_cV (vw w) g ok _ hm.leV) ?_
  rintro x V1 hle1 hx
  have hs := hx rfl
  clear hx
  refine o_yield rfl rfl rfl (y_len tok rfl (fun hg => hs.sl)) ?_
  refine o_yield rfl rfl rfl (y_val tok rfl) ?_
  refine o_end [1, 4, 8, 9, 10] rfl ?_
  refine x_then ?_
  refine c_block ?_
  have hl6 : (regL g).length ≤ 6 := by unfold regL; split <;> simp [regs]
  refine c_loopV [1, 4, 8, 9] [] rfl rfl (σ := Nat) (fun i => [(10, .a (.v (I i)))]) (fun i => []) (fun i => V1) (fun i => i ≤ (regL g).length ∧ findR k (regL g) = findR k ((regL g).drop i)) (fun i => (regL g).length - i) (0) (⟨by omega, rfl⟩) (by repeat (first | exact SubF.nil | refine SubF.cons rfl ?_)) (by repeat (first | exact SubO.nil | refine SubO.cons rfl ?_)) rfl (Vw.le.refl _) ?_
  rintro i ⟨hi, heq⟩
  refine c_seq ?_
  refine c_region ?_
  refine o_yield rfl rfl rfl (y_val tok rfl) ?_
  refine o_end [1, 4, 8, 9, 10, 11] rfl ?_
  refine x_then ?_
  refine c_seq ?_
  refine c_cond rfl (fun h => ?_) (fun h => ?_)
  ·
    simp only [Bool.and_eq_true, Bool.or_eq_true, Bool.not_eq_true', Bool.or_eq_false_iff, Bool.and_eq_false_iff, decide_eq_true_eq, decide_eq_false_iff_not, beq_iff_eq, bne_iff_ne, Bool.not_eq_false', beq_eq_false_iff_ne, bne_eq_false_iff_eq, ne_eq, Decidable.not_not, Int.not_lt, Int.not_le] at h
    refine c_skip ?_
    refine x_then ?_
    refine c_seq ?_
    refine c_block ?_
    refine c_seq ?_
    refine c_region ?_
    obtain ⟨r, h_r⟩ := hs.at (k := i) (by omega)
    rw [drop_at h_r, findR] at heq
    have hlt_r := lt_of_at h_r
    refine o_yield rfl rfl rfl (y_idx tok rfl (fun hg => hs.sl) (fun hg => ⟨by omega, by omega⟩)) ?_
    refine o_yield rfl rfl rfl (y_lel tok (i) 0 (r) rfl (fun hg => hs) (fun hg => h_r) rfl rfl) ?_
    refine o_new tok rfl rfl rfl rfl ?_
    refine o_store tok rfl rfl rfl (by first | exact ⟨trivial, trivial⟩ | (repeat' first | exact trivial | exact rfl | apply And.intro); done | simp [onesP, oneP, lk, Value.oneCell']) ?_
    refine o_end [1, 4, 6, 8, 9, 10] rfl ?_
    refine x_then ?_
    refine c_seq ?_
    refine c_region ?_
    refine o_yield rfl rfl rfl (y_val tok rfl) ?_
    refine o_yield rfl rfl rfl (y_val tok rfl) ?_
    refine o_yield rfl rfl rfl (y_val tok rfl) ?_
    refine o_yield rfl rfl rfl (y_val tok rfl) ?_
    refine o_end [1, 4, 6, 8, 9, 10, 17] rfl ?_
    refine x_then ?_
    refine c_cond rfl (fun h => ?_) (fun h => ?_)
    ·
      simp only [Bool.and_eq_true, Bool.or_eq_true, Bool.not_eq_true', Bool.or_eq_false_iff, Bool.and_eq_false_iff, decide_eq_true_eq, decide_eq_false_iff_not, beq_iff_eq, bne_iff_ne, Bool.not_eq_false', beq_eq_false_iff_ne, bne_eq_false_iff_eq, ne_eq, Decidable.not_not, Int.not_lt, Int.not_le] at h
      refine c_seq ?_
      refine c_region ?_
      refine o_yield rfl rfl rfl (y_val tok rfl) ?_
      refine o_store tok rfl rfl rfl (by first | exact ⟨trivial, trivial⟩ | (repeat' first | exact trivial | exact rfl | apply And.intro); done | simp [onesP, oneP, lk, Value.oneCell']) ?_
      refine o_end [4] rfl ?_
      refine x_then ?_
      refine c_ret ?_
      refine x_block_ret ?_
      refine x_then_ret ?_
      refine x_then_ret ?_
      refine x_block_ret ?_
      refine x_then_ret ?_
      refine b_ret tok rfl ?_
      rw [if_pos h] at heq
      intro E w' hm _
      refine ⟨?_, hm.below (hle1)⟩
      rw [heq]; rfl
    ·
      simp only [Bool.and_eq_true, Bool.or_eq_true, Bool.not_eq_true', Bool.or_eq_false_iff, Bool.and_eq_false_iff, decide_eq_true_eq, decide_eq_false_iff_not, beq_iff_eq, bne_iff_ne, Bool.not_eq_false', beq_eq_false_iff_ne, bne_eq_false_iff_eq, ne_eq, Decidable.not_not, Int.not_lt, Int.not_le] at h
      refine c_skip ?_
      refine x_block ?_
      refine x_then ?_
      refine c_region ?_
      refine o_yield rfl rfl rfl (y_val tok rfl) ?_
      refine o_yield rfl rfl rfl (y_val tok rfl) ?_
      refine o_end [1, 4, 8, 9, 10] rfl ?_
      refine x_then ?_
      rw [if_neg h] at heq
      rw [wrapI (n := (i : Int) + 1) (by omega) (by omega)]
      refine x_round (i + 1) (⟨by omega, heq⟩) (by first | omega | (dsimp only; omega)) (by repeat (first | exact SubF.nil | refine SubF.cons rfl ?_)) (by repeat (first | exact SubO.nil | refine SubO.cons rfl ?_)) rfl (Vw.le.refl _)
  ·
    simp only [Bool.and_eq_true, Bool.or_eq_true, Bool.not_eq_true', Bool.or_eq_false_iff, Bool.and_eq_false_iff, decide_eq_true_eq, decide_eq_false_iff_not, beq_iff_eq, bne_iff_ne, Bool.not_eq_false', beq_eq_false_iff_ne, bne_eq_false_iff_eq, ne_eq, Decidable.not_not, Int.not_lt, Int.not_le] at h
    refine c_exit ?_
    refine x_then_exit ?_
    refine x_then_exit ?_
    refine x_block_hit ?_
    refine x_then ?_
    refine c_seq ?_
    refine c_region ?_
    refine o_yield rfl rfl rfl (y_val tok rfl) ?_
    refine o_store tok rfl rfl rfl (by first | exact ⟨trivial, trivial⟩ | (repeat' first | exact trivial | exact rfl | apply And.intro); done | simp [onesP, oneP, lk, Value.oneCell']) ?_
    refine o_end [4] rfl ?_
    refine x_then ?_
    refine c_ret ?_
    refine b_ret tok rfl ?_
    have hkL : i = (regL g).length := by omega
    subst hkL
    rw [List.drop_length, findR] at heq
    intro E w' hm _
    refine ⟨?_, hm.below (hle1)⟩
    rw [heq]; rfl

theorem of_c' (g : Geo) (ok : g.Ok) (kd i k : Int) (r : Reg) (hr : findR kd (regL g) = r) (m : Int) (hm0 : 0 ≤ m) (hm : r.many = m * r.per) (hp : 1 ≤ r.per) (hb : m * r.per ≤ 4096) (hf : 0 ≤ r.first) (hf2 : r.first ≤ 4096) (v : Int) (hv : v = if i < 0 ∨ m ≤ i ∨ k < 0 ∨ r.per ≤ k then -1 else r.first + i * r.per + k) (w : World) :
    Calls Try.prog 54 #[g.val, I8 kd, I i, I k] w fun e w' => e = .returned (I v) ∧ Below w.heap.size w w' := by
  have hq : r.many.tdiv r.per = m := by rw [hm]; exact Int.mul_tdiv_cancel m (by omega)
  have hpb : r.per ≤ m * r.per ∨ m = 0 := by
    by_cases h : m = 0
    · exact .inr h
    · left
      have := Int.mul_le_mul_of_nonneg_right (show 1 ≤ m by omega) (show 0 ≤ r.per by omega)
      omega
  have hmb : m ≤ m * r.per := by
    have := Int.mul_le_mul_of_nonneg_left hp hm0
    omega
  refine enter (E := E0) (O := []) (nl := 0) (V := vw w) [.a (.v g.val), .a (.v (I8 kd)), .a (.v (I i)), .a (.v (I k))] Try.func54 rfl rfl (mem0 E0 0 w) rfl rfl ?_
  refine c_seq ?_
  refine c_region ?_
  refine o_new tok rfl rfl rfl rfl ?_
  refine o_yield rfl rfl rfl (y_val tok rfl) ?_
  refine o_end [1, 2, 3, 4] rfl ?_
  refine x_then ?_
  refine c_seq ?_
  refine c_region ?_
  refine o_yield rfl rfl rfl (y_val tok rfl) ?_
  refine o_yield rfl rfl rfl (y_val tok rfl) ?_
  refine o_call (.a (.v _)) rfl rfl fnok57 rfl rfl rfl (fun hg E w1 hm => by exact find_c g ok kd _) ?_
  refine o_new tok rfl rfl rfl rfl ?_
  refine o_store tok rfl rfl rfl (by first | exact ⟨trivial, trivial⟩ | (repeat' first | exact trivial | exact rfl | apply And.intro); done | simp [onesP, oneP, lk, Value.oneCell']) ?_
  refine o_end [2, 3, 9] rfl ?_
  refine x_then ?_
  refine c_seq ?_
  refine c_seq ?_
  refine c_region ?_
  refine o_yield rfl rfl rfl (y_val tok rfl) ?_
  refine o_yield rfl rfl rfl (y_val tok rfl) ?_
  refine o_yield rfl rfl rfl (y_val tok rfl) ?_
  refine o_yield rfl rfl rfl (y_val tok rfl) ?_
  refine o_yield rfl rfl rfl (y_val tok rfl) ?_
  refine o_yield rfl rfl rfl (y_val tok rfl) ?_
  refine o_yield rfl rfl rfl (y_val tok rfl) ?_
  refine o_yield rfl rfl rfl (y_val tok rfl) ?_
  refine o_yield rfl rfl rfl (y_val tok rfl) ?_
  rw [hr]
  have hqw : IntKind.i64.wrap (r.many.tdiv r.per) = m := by rw [hq, wrapI (by omega) (by omega)]
  refine o_yield rfl rfl rfl (y_quo rfl (fun hg => by omega)) ?_
  refine o_yield rfl rfl rfl (y_val tok rfl) ?_
  refine o_yield rfl rfl rfl (y_val tok rfl) ?_
  refine o_yield rfl rfl rfl (y_val tok rfl) ?_
  refine o_yield rfl rfl rfl (y_val tok rfl) ?_
  refine o_yield rfl rfl rfl (y_val tok rfl) ?_
  refine o_yield rfl rfl rfl (y_val tok rfl) ?_
  refine o_yield rfl rfl rfl (y_val tok rfl) ?_
  refine o_yield rfl rfl rfl (y_val tok rfl) ?_
  refine o_yield rfl rfl rfl (y_val tok rfl) ?_
  refine o_yield rfl rfl rfl (y_val tok rfl) ?_
  refine o_yield rfl rfl rfl (y_val tok rfl) ?_
  refine o_yield rfl rfl rfl (y_val tok rfl) ?_
  refine o_end [2, 3, 9, 34] rfl ?_
  refine x_then ?_
  refine c_cond rfl (fun h => ?_) (fun h => ?_)
  ·
    simp only [Bool.and_eq_true, Bool.or_eq_true, Bool.not_eq_true', Bool.or_eq_false_iff, Bool.and_eq_false_iff, decide_eq_true_eq, decide_eq_false_iff_not, beq_iff_eq, bne_iff_ne, Bool.not_eq_false', beq_eq_false_iff_ne, bne_eq_false_iff_eq, ne_eq, Decidable.not_not, Int.not_lt, Int.not_le] at h
    refine c_seq ?_
    refine c_region ?_
    refine o_yield rfl rfl rfl (y_val tok rfl) ?_
    refine o_end [8] rfl ?_
    refine x_then ?_
    refine c_ret ?_
    refine x_then_ret ?_
    refine b_ret tok rfl ?_
    intro E w' hm _
    refine ⟨?_, hm.below (Vw.le.refl _)⟩
    rw [hv, if_pos (by omega)]; rfl
  ·
    simp only [Bool.and_eq_true, Bool.or_eq_true, Bool.not_eq_true', Bool.or_eq_false_iff, Bool.and_eq_false_iff, decide_eq_true_eq, decide_eq_false_iff_not, beq_iff_eq, bne_iff_ne, Bool.not_eq_false', beq_eq_false_iff_ne, bne_eq_false_iff_eq, ne_eq, Decidable.not_not, Int.not_lt, Int.not_le] at h
    refine c_skip ?_
    refine x_then ?_
    refine c_seq ?_
    refine c_region ?_
    refine o_yield rfl rfl rfl (y_val tok rfl) ?_
    refine o_yield rfl rfl rfl (y_val tok rfl) ?_
    refine o_yield rfl rfl rfl (y_val tok rfl) ?_
    refine o_yield rfl rfl rfl (y_val tok rfl) ?_
    refine o_yield rfl rfl rfl (y_val tok rfl) ?_
    refine o_yield rfl rfl rfl (y_val tok rfl) ?_
    refine o_yield rfl rfl rfl (y_val tok rfl) ?_
    refine o_yield rfl rfl rfl (y_val tok rfl) ?_
    have hik := prod_bound (a := i) (b := r.per) (A := m) (B := r.per) (by omega) (by omega) (by omega) (by omega)
    have h2 : i * r.per + r.per ≤ m * r.per := by
      have := Int.mul_le_mul_of_nonneg_right (show i + 1 ≤ m by omega) (show 0 ≤ r.per by omega)
      rw [Int.add_mul, Int.one_mul] at this
      exact this
    rw [wrapI (n := i * r.per) (by omega) (by omega), wrapI (n := i * r.per + k) (by omega) (by omega)]
    refine o_call (.a (.v _)) rfl rfl fnok65 rfl rfl rfl (fun hg E w1 hm => by exact stretchAt_c r.first r.many _ _) ?_
    refine o_yield rfl rfl rfl (y_val tok rfl) ?_
    refine o_end [8] rfl ?_
    refine x_then ?_
    refine c_ret ?_
    refine b_ret tok rfl ?_
    intro E w' hm _
    refine ⟨?_, hm.below (Vw.le.refl _)⟩
    rw [hv, if_neg (by omega), if_neg (by omega), wrapI (by omega) (by omega), Int.add_assoc]; rfl
end Go.Proofs.Ytipmgnhbcaniiaa

/- Where everything stands: the program's answer and the document's. -/
set_option linter.unusedVariables false
set_option linter.unusedSimpArgs false
set_option maxRecDepth 100000
namespace Go.Proofs.Ytipmgnhbcaniiaa
open Go Go.Eng Go.RowKit

def dataV (g : Geo) (b k : Int) : Int := if geoB g = true ∧ 0 ≤ b ∧ b < g.blocks ∧ 0 ≤ k ∧ k < g.per then dataAt g + b * g.per + k else -1
def headV (g : Geo) (s : Int) : Int := if geoB g = true ∧ 0 ≤ s ∧ s < g.slots then 1 + 2 * g.nodes + g.log + s * (1 + g.journal) else -1
def jourV (g : Geo) (s lsn : Int) : Int := if headV g s < 0 ∨ lsn < 0 then -1 else headV g s + 1 + lsn % g.journal
def totV (g : Geo) : Int := if geoB g = true then dataAt g + g.blocks * g.per else 0

theorem find_data (g : Geo) : findR 7 (regL g) = if geoB g = true then ⟨dataAt g, g.blocks * g.per, 7, g.per⟩ else ⟨0, 0, 0, 1⟩ := by
  unfold regL
  split <;> simp [regs, findR]
theorem geo_sizes {g : Geo} (h : geoB g = true) : 0 ≤ g.slots * (1 + g.journal) ∧ g.slots * (1 + g.journal) ≤ 1040 ∧ 0 ≤ g.blocks * g.per ∧ g.blocks * g.per ≤ 512 ∧ 1 ≤ dataAt g ∧ dataAt g ≤ 1585 := by
  have hf := geo_facts h
  have hs := prod_bound (a := g.slots) (b := 1 + g.journal) (A := 16) (B := 65) (by omega) (by omega) (by omega) (by omega)
  have hb := prod_bound (a := g.blocks) (b := g.per) (A := 64) (B := 8) (by omega) (by omega) (by omega) (by omega)
  unfold dataAt
  omega

theorem data_c (g : Geo) (ok : g.Ok) (b k : Int) (w : World) : Calls Try.prog 38 #[g.val, I b, I k] w fun e w' => e = .returned (I (dataV g b k)) ∧ Below w.heap.size w w' := by
  refine enter (E := E0) (O := []) (nl := 0) (V := vw w) [.a (.v g.val), .a (.v (I b)), .a (.v (I k))] Try.func38 rfl rfl (mem0 E0 0 w) rfl rfl ?_
  refine c_seq ?_
  refine c_region ?_
  refine o_new tok rfl rfl rfl rfl ?_
  refine o_yield rfl rfl rfl (y_val tok rfl) ?_
  refine o_end [1, 2, 3] rfl ?_
  refine x_then ?_
  refine c_seq ?_
  refine c_region ?_
  refine o_yield rfl rfl rfl (y_val tok rfl) ?_
  refine o_yield rfl rfl rfl (y_val tok rfl) ?_
  refine o_yield rfl rfl rfl (y_val tok rfl) ?_
  cases hgg : geoB g with
  | false =>
    have hr := find_data g
    rw [if_neg (by simp [hgg])] at hr
    refine o_call (.a (.v _)) rfl rfl fnok54 rfl rfl rfl (fun hg E w1 hm => by exact of_c' g ok 7 b k _ hr 0 (by omega) (by simp) (by simp) (by simp) (by simp) (by simp) (dataV g b k) (by rw [dataV, if_neg (by simp [hgg]), if_pos (by dsimp only; omega)]) _) ?_
    refine o_yield rfl rfl rfl (y_val tok rfl) ?_
    refine o_end [6] rfl ?_
    refine x_then ?_
    refine c_ret ?_
    refine b_ret tok rfl ?_
    intro E w' hm _
    refine ⟨?_, hm.below (Vw.le.refl _)⟩
    rfl
  | true =>
    have hr := find_data g
    rw [if_pos hgg] at hr
    have hf := geo_facts hgg
    have hz := geo_sizes hgg
    have hv : dataV g b k = if b < 0 ∨ g.blocks ≤ b ∨ k < 0 ∨ g.per ≤ k then -1 else dataAt g + b * g.per + k := by
      unfold dataV
      by_cases h : 0 ≤ b ∧ b < g.blocks ∧ 0 ≤ k ∧ k < g.per
      · rw [if_pos ⟨hgg, h⟩, if_neg (by omega)]
      · rw [if_neg (by rintro ⟨_, hc⟩; exact h hc), if_pos (by omega)]
    refine o_call (.a (.v _)) rfl rfl fnok54 rfl rfl rfl (fun hg E w1 hm => by exact of_c' g ok 7 b k _ hr g.blocks (by omega) rfl (by dsimp only; omega) (by dsimp only; omega) (by dsimp only; omega) (by dsimp only; omega) _ hv _) ?_
    refine o_yield rfl rfl rfl (y_val tok rfl) ?_
    refine o_end [6] rfl ?_
    refine x_then ?_
    refine c_ret ?_
    refine b_ret tok rfl ?_
    intro E w' hm _
    refine ⟨?_, hm.below (Vw.le.refl _)⟩
    rfl

theorem total_c (g : Geo) (ok : g.Ok) (w : World) : Calls Try.prog 44 #[g.val] w fun e w' => e = .returned (I (totV g)) ∧ Below w.heap.size w w' := by
  refine enter (E := E0) (O := []) (nl := 0) (V := vw w) [.a (.v g.val)] Try.func44 rfl rfl (mem0 E0 0 w) rfl rfl ?_
  refine c_seq ?_
  refine c_region ?_
  refine o_new tok rfl rfl rfl rfl ?_
  refine o_yield rfl rfl rfl (y_val tok rfl) ?_
  refine o_end [1] rfl ?_
  refine x_then ?_
  refine c_seq ?_
  refine c_region ?_
  refine o_yield rfl rfl rfl (y_val tok rfl) ?_
  refine o_call (.a (.v _)) rfl rfl fnok57 rfl rfl rfl (fun hg E w1 hm => by exact find_c g ok 7 _) ?_
  refine o_yield rfl rfl rfl (y_val tok rfl) ?_
  refine o_call (.a (.v _)) rfl rfl fnok58 rfl rfl rfl (fun hg E w1 hm => by exact stretchEnd_c _ _ _) ?_
  refine o_yield rfl rfl rfl (y_val tok rfl) ?_
  refine o_end [2] rfl ?_
  refine x_then ?_
  refine c_ret ?_
  refine b_ret tok rfl ?_
  intro E w' hm _
  refine ⟨?_, hm.below (Vw.le.refl _)⟩
  rw [find_data, totV]
  cases hg : geoB g with
  | false => rfl
  | true =>
    have hz := geo_sizes hg
    show Ending.returned (I (IntKind.i64.wrap (dataAt g + g.blocks * g.per))) = _
    rw [wrapI (by omega) (by omega)]; rfl

/-! The document's. -/

theorem inB_iff (n a b : Int) : inB n a b = decide (a ≤ n ∧ n ≤ b) := by
  unfold inB; rw [Bool.eq_iff_iff]; simp

theorem refHead_c (g : Geo) (ok : g.Ok) (s : Int) (w : World) : Calls Try.prog 25 #[g.val, I s] w fun e w' => e = .returned (I (headV g s)) ∧ Below w.heap.size w w' := by
  refine enter (E := E0) (O := []) (nl := 0) (V := vw w) [.a (.v g.val), .a (.v (I s))] Try.func25 rfl rfl (mem0 E0 0 w) rfl rfl ?_
  refine c_seq ?_
  refine c_region ?_
  refine o_new tok rfl rfl rfl rfl ?_
  refine o_yield rfl rfl rfl (y_val tok rfl) ?_
  refine o_end [1, 2] rfl ?_
  refine x_then ?_
  refine c_seq ?_
  refine c_seq ?_
  refine c_region ?_
  refine o_yield rfl rfl rfl (y_val tok rfl) ?_
  refine o_call (.a (.v _)) rfl rfl fnok18 rfl rfl rfl (fun hg E w1 hm => by exact refMay_c g ok _) ?_
  refine o_yield rfl rfl rfl (y_val tok rfl) ?_
  refine o_yield rfl rfl rfl (y_val tok rfl) ?_
  refine o_yield rfl rfl rfl (y_val tok rfl) ?_
  refine o_yield rfl rfl rfl (y_val tok rfl) ?_
  refine o_yield rfl rfl rfl (y_val tok rfl) ?_
  refine o_yield rfl rfl rfl (y_val tok rfl) ?_
  refine o_call (.a (.v _)) rfl rfl fnok46 rfl rfl rfl (fun hg E w1 hm => by exact in_c _ _ _ _) ?_
  refine o_yield rfl rfl rfl (y_val tok rfl) ?_
  refine o_yield rfl rfl rfl (y_val tok rfl) ?_
  refine o_end [1, 2, 15] rfl ?_
  refine x_then ?_
  refine c_cond rfl (fun h => ?_) (fun h => ?_)
  ·
    refine c_seq ?_
    refine c_region ?_
    refine o_yield rfl rfl rfl (y_val tok rfl) ?_
    refine o_end [4] rfl ?_
    refine x_then ?_
    refine c_ret ?_
    refine x_then_ret ?_
    refine b_ret tok rfl ?_
    rw [inB_iff] at h
    simp only [Bool.or_eq_true, Bool.not_eq_true', decide_eq_false_iff_not] at h
    intro E w' hm _
    refine ⟨?_, hm.below (Vw.le.refl _)⟩
    rw [headV, if_neg]
    · rfl
    · rintro ⟨h1, h2, h3⟩
      have hf := geo_facts h1
      rw [wrapI (by omega) (by omega)] at h
      rcases h with h | h
      · rw [h1] at h; cases h
      · omega
  ·
    rw [inB_iff] at h
    simp only [Bool.or_eq_false_iff, Bool.not_eq_false', decide_eq_true_eq] at h
    obtain ⟨hg, h1⟩ := h
    have hf := geo_facts hg
    have hz := geo_sizes hg
    rw [wrapI (by omega) (by omega)] at h1
    have hp := prod_bound (a := s) (b := 1 + g.journal) (A := 16) (B := 65) (by omega) (by omega) (by omega) (by omega)
    refine c_skip ?_
    refine x_then ?_
    refine c_seq ?_
    refine c_region ?_
    refine o_yield rfl rfl rfl (y_val tok rfl) ?_
    refine o_yield rfl rfl rfl (y_val tok rfl) ?_
    refine o_yield rfl rfl rfl (y_val tok rfl) ?_
    refine o_yield rfl rfl rfl (y_val tok rfl) ?_
    refine o_yield rfl rfl rfl (y_val tok rfl) ?_
    refine o_yield rfl rfl rfl (y_val tok rfl) ?_
    refine o_yield rfl rfl rfl (y_val tok rfl) ?_
    refine o_yield rfl rfl rfl (y_val tok rfl) ?_
    refine o_yield rfl rfl rfl (y_val tok rfl) ?_
    refine o_yield rfl rfl rfl (y_val tok rfl) ?_
    refine o_yield rfl rfl rfl (y_val tok rfl) ?_
    refine o_yield rfl rfl rfl (y_val tok rfl) ?_
    refine o_yield rfl rfl rfl (y_val tok rfl) ?_
    refine o_yield rfl rfl rfl (y_val tok rfl) ?_
    refine o_end [4] rfl ?_
    refine x_then ?_
    refine c_ret ?_
    refine b_ret tok rfl ?_
    intro E w' hm _
    refine ⟨?_, hm.below (Vw.le.refl _)⟩
    rw [headV, if_pos ⟨hg, by omega, by omega⟩, wrapI (n := 2 * g.nodes) (by omega) (by omega), wrapI (n := 1 + 2 * g.nodes) (by omega) (by omega), wrapI (n := 1 + 2 * g.nodes + g.log) (by omega) (by omega), wrapI (n := 1 + g.journal) (by omega) (by omega),
      wrapI (n := s * (1 + g.journal)) (by omega) (by omega), wrapI (by omega) (by omega)]
    rfl

theorem refData_c (g : Geo) (ok : g.Ok) (b k : Int) (w : World) : Calls Try.prog 21 #[g.val, I b, I k] w fun e w' => e = .returned (I (dataV g b k)) ∧ Below w.heap.size w w' := by
  refine enter (E := E0) (O := []) (nl := 0) (V := vw w) [.a (.v g.val), .a (.v (I b)), .a (.v (I k))] Try.func21 rfl rfl (mem0 E0 0 w) rfl rfl ?_
  refine c_seq ?_
  refine c_region ?_
  refine o_new tok rfl rfl rfl rfl ?_
  refine o_yield rfl rfl rfl (y_val tok rfl) ?_
  refine o_end [1, 2, 3] rfl ?_
  refine x_then ?_
  refine c_seq ?_
  refine c_seq ?_
  refine c_region ?_
  refine o_yield rfl rfl rfl (y_val tok rfl) ?_
  refine o_call (.a (.v _)) rfl rfl fnok18 rfl rfl rfl (fun hg E w1 hm => by exact refMay_c g ok _) ?_
  refine o_yield rfl rfl rfl (y_val tok rfl) ?_
  refine o_yield rfl rfl rfl (y_val tok rfl) ?_
  refine o_yield rfl rfl rfl (y_val tok rfl) ?_
  refine o_yield rfl rfl rfl (y_val tok rfl) ?_
  refine o_yield rfl rfl rfl (y_val tok rfl) ?_
  refine o_yield rfl rfl rfl (y_val tok rfl) ?_
  refine o_call (.a (.v _)) rfl rfl fnok46 rfl rfl rfl (fun hg E w1 hm => by exact in_c _ _ _ _) ?_
  refine o_yield rfl rfl rfl (y_val tok rfl) ?_
  refine o_yield rfl rfl rfl (y_val tok rfl) ?_
  refine o_yield rfl rfl rfl (y_val tok rfl) ?_
  refine o_yield rfl rfl rfl (y_val tok rfl) ?_
  refine o_yield rfl rfl rfl (y_val tok rfl) ?_
  refine o_yield rfl rfl rfl (y_val tok rfl) ?_
  refine o_yield rfl rfl rfl (y_val tok rfl) ?_
  refine o_call (.a (.v _)) rfl rfl fnok46 rfl rfl rfl (fun hg E w1 hm => by exact in_c _ _ _ _) ?_
  refine o_yield rfl rfl rfl (y_val tok rfl) ?_
  refine o_yield rfl rfl rfl (y_val tok rfl) ?_
  refine o_end [1, 2, 3, 25] rfl ?_
  refine x_then ?_
  refine c_cond rfl (fun h => ?_) (fun h => ?_)
  ·
    refine c_seq ?_
    refine c_region ?_
    refine o_yield rfl rfl rfl (y_val tok rfl) ?_
    refine o_end [6] rfl ?_
    refine x_then ?_
    refine c_ret ?_
    refine x_then_ret ?_
    refine b_ret tok rfl ?_
    rw [inB_iff, inB_iff] at h
    simp only [Bool.or_eq_true, Bool.not_eq_true', decide_eq_false_iff_not] at h
    intro E w' hm _
    refine ⟨?_, hm.below (Vw.le.refl _)⟩
    rw [dataV, if_neg]
    · rfl
    · rintro ⟨h1, h2⟩
      have hf := geo_facts h1
      rw [wrapI (by omega) (by omega), wrapI (by omega) (by omega), h1] at h
      simp only [Bool.true_eq_false, false_or] at h
      omega
  ·
    rw [inB_iff, inB_iff] at h
    simp only [Bool.or_eq_false_iff, Bool.not_eq_false', decide_eq_true_eq] at h
    obtain ⟨⟨hgg, h1⟩, h2⟩ := h
    have hf := geo_facts hgg
    have hz := geo_sizes hgg
    rw [wrapI (by omega) (by omega)] at h1 h2
    have hp := prod_bound (a := b) (b := g.per) (A := 64) (B := 8) (by omega) (by omega) (by omega) (by omega)
    have hda : dataAt g = 1 + 2 * g.nodes + g.log + g.slots * (1 + g.journal) := rfl
    refine c_skip ?_
    refine x_then ?_
    refine c_seq ?_
    refine c_region ?_
    refine o_yield rfl rfl rfl (y_val tok rfl) ?_
    refine o_yield rfl rfl rfl (y_val tok rfl) ?_
    refine o_yield rfl rfl rfl (y_val tok rfl) ?_
    refine o_yield rfl rfl rfl (y_val tok rfl) ?_
    refine o_yield rfl rfl rfl (y_val tok rfl) ?_
    refine o_yield rfl rfl rfl (y_val tok rfl) ?_
    refine o_yield rfl rfl rfl (y_val tok rfl) ?_
    refine o_yield rfl rfl rfl (y_val tok rfl) ?_
    refine o_yield rfl rfl rfl (y_val tok rfl) ?_
    refine o_yield rfl rfl rfl (y_val tok rfl) ?_
    refine o_yield rfl rfl rfl (y_val tok rfl) ?_
    refine o_yield rfl rfl rfl (y_val tok rfl) ?_
    refine o_yield rfl rfl rfl (y_val tok rfl) ?_
    refine o_yield rfl rfl rfl (y_val tok rfl) ?_
    refine o_yield rfl rfl rfl (y_val tok rfl) ?_
    refine o_yield rfl rfl rfl (y_val tok rfl) ?_
    refine o_yield rfl rfl rfl (y_val tok rfl) ?_
    refine o_yield rfl rfl rfl (y_val tok rfl) ?_
    refine o_yield rfl rfl rfl (y_val tok rfl) ?_
    refine o_yield rfl rfl rfl (y_val tok rfl) ?_
    refine o_yield rfl rfl rfl (y_val tok rfl) ?_
    refine o_yield rfl rfl rfl (y_val tok rfl) ?_
    refine o_end [6] rfl ?_
    refine x_then ?_
    refine c_ret ?_
    refine b_ret tok rfl ?_
    intro E w' hm _
    refine ⟨?_, hm.below (Vw.le.refl _)⟩
    rw [dataV, if_pos ⟨hgg, by omega, by omega, by omega, by omega⟩, wrapI (n := 2 * g.nodes) (by omega) (by omega), wrapI (n := 1 + 2 * g.nodes) (by omega) (by omega), wrapI (n := 1 + 2 * g.nodes + g.log) (by omega) (by omega), wrapI (n := 1 + g.journal) (by omega) (by omega),
      wrapI (n := g.slots * (1 + g.journal)) (by omega) (by omega), wrapI (n := 1 + 2 * g.nodes + g.log + g.slots * (1 + g.journal)) (by omega) (by omega), ← hda, wrapI (n := b * g.per) (by omega) (by omega), wrapI (n := dataAt g + b * g.per) (by omega) (by omega), wrapI (by omega) (by omega)]
    rfl

theorem refTotal_c (g : Geo) (ok : g.Ok) (w : World) : Calls Try.prog 24 #[g.val] w fun e w' => e = .returned (I (totV g)) ∧ Below w.heap.size w w' := by
  refine enter (E := E0) (O := []) (nl := 0) (V := vw w) [.a (.v g.val)] Try.func24 rfl rfl (mem0 E0 0 w) rfl rfl ?_
  refine c_seq ?_
  refine c_region ?_
  refine o_new tok rfl rfl rfl rfl ?_
  refine o_yield rfl rfl rfl (y_val tok rfl) ?_
  refine o_end [1] rfl ?_
  refine x_then ?_
  refine c_seq ?_
  refine c_seq ?_
  refine c_region ?_
  refine o_yield rfl rfl rfl (y_val tok rfl) ?_
  refine o_call (.a (.v _)) rfl rfl fnok18 rfl rfl rfl (fun hg E w1 hm => by exact refMay_c g ok _) ?_
  refine o_yield rfl rfl rfl (y_val tok rfl) ?_
  refine o_end [1, 5] rfl ?_
  refine x_then ?_
  refine c_cond rfl (fun h => ?_) (fun h => ?_)
  ·
    simp only [Bool.and_eq_true, Bool.or_eq_true, Bool.not_eq_true', Bool.or_eq_false_iff, Bool.and_eq_false_iff, decide_eq_true_eq, decide_eq_false_iff_not, beq_iff_eq, bne_iff_ne, Bool.not_eq_false', beq_eq_false_iff_ne, bne_eq_false_iff_eq, ne_eq, Decidable.not_not, Int.not_lt, Int.not_le] at h
    refine c_seq ?_
    refine c_region ?_
    refine o_yield rfl rfl rfl (y_val tok rfl) ?_
    refine o_end [2] rfl ?_
    refine x_then ?_
    refine c_ret ?_
    refine x_then_ret ?_
    refine b_ret tok rfl ?_
    intro E w' hm _
    refine ⟨?_, hm.below (Vw.le.refl _)⟩
    rw [totV, if_neg (by simp [h])]; rfl
  ·
    simp only [Bool.and_eq_true, Bool.or_eq_true, Bool.not_eq_true', Bool.or_eq_false_iff, Bool.and_eq_false_iff, decide_eq_true_eq, decide_eq_false_iff_not, beq_iff_eq, bne_iff_ne, Bool.not_eq_false', beq_eq_false_iff_ne, bne_eq_false_iff_eq, ne_eq, Decidable.not_not, Int.not_lt, Int.not_le] at h
    have hf := geo_facts h
    have hz := geo_sizes h
    refine c_skip ?_
    refine x_then ?_
    refine c_seq ?_
    refine c_region ?_
    refine o_yield rfl rfl rfl (y_val tok rfl) ?_
    refine o_yield rfl rfl rfl (y_val tok rfl) ?_
    refine o_yield rfl rfl rfl (y_val tok rfl) ?_
    refine o_yield rfl rfl rfl (y_val tok rfl) ?_
    refine o_yield rfl rfl rfl (y_val tok rfl) ?_
    refine o_yield rfl rfl rfl (y_val tok rfl) ?_
    refine o_yield rfl rfl rfl (y_val tok rfl) ?_
    rw [wrapI (n := g.blocks - 1) (by omega) (by omega), wrapI (n := g.per - 1) (by omega) (by omega)]
    refine o_call (.a (.v _)) rfl rfl fnok21 rfl rfl rfl (fun hg E w1 hm => by exact refData_c g ok _ _ _) ?_
    refine o_yield rfl rfl rfl (y_val tok rfl) ?_
    refine o_yield rfl rfl rfl (y_val tok rfl) ?_
    refine o_end [2] rfl ?_
    refine x_then ?_
    refine c_ret ?_
    refine b_ret tok rfl ?_
    have hb := prod_bound (a := g.blocks) (b := g.per) (A := 64) (B := 8) (by omega) (by omega) (by omega) (by omega)
    have e : dataV g (g.blocks - 1) (g.per - 1) + 1 = totV g := by
      rw [dataV, if_pos ⟨h, by omega, by omega, by omega, by omega⟩, totV, if_pos h, Int.sub_mul, Int.one_mul]
      omega
    have ht : totV g ≤ 2097 ∧ 0 ≤ totV g := by rw [totV, if_pos h]; omega
    intro E w' hm _
    refine ⟨?_, hm.below (Vw.le.refl _)⟩
    rw [← e, wrapI (by omega) (by omega)]; rfl
end Go.Proofs.Ytipmgnhbcaniiaa

/- A text's pieces: the program's. -/
set_option linter.unusedVariables false
set_option linter.unusedSimpArgs false
set_option maxRecDepth 100000
namespace Go.Proofs.Ytipmgnhbcaniiaa
open Go Go.Eng Go.RowKit

def pieceAt (text : ByteArray) (k : Nat) : ByteArray := headOf (restAt text k)
def pieceL (per : Nat) (text : ByteArray) : List ByteArray := (List.range per).map (pieceAt text)

theorem str_ones (l : List ByteArray) : ∀ u ∈ l.flatMap encS, u.oneCell' = true := by
  intro u hu
  obtain ⟨x, _, hx⟩ := List.mem_flatMap.1 hu
  simp only [encS, List.mem_singleton] at hx
  subst hx
  rfl

def PcPost (g : Geo) (text : ByteArray) (w : World) (e : Ending) (w' : World) : Prop :=
  ((geoB g = true ∧ (text.size : Int) ≤ g.per * 256 ∧ ∃ v, e = .returned (.tuple #[v, I 0]) ∧ w'.ownsRow w.heap.size 9 1 v (pieceL g.per.toNat text).length ((pieceL g.per.toNat text).flatMap encS)) ∨
    (geoB g = false ∧ e = .returned (.tuple #[.slice none 0 0, I 2])) ∨ (geoB g = true ∧ g.per * 256 < (text.size : Int) ∧ e = .returned (.tuple #[.slice none 0 0, I 60]))) ∧ Below w.heap.size w w'

end Go.Proofs.Ytipmgnhbcaniiaa
