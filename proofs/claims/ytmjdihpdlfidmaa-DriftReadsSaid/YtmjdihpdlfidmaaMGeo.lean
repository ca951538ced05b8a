import Derived.Test.YtmjdihpdlfidmaaData
import Derived.Test.YtmjdihpdlfidmaaEng28
import Derived.Test.YtmjdihpdlfidmaaEng30
/- Geometries that may be: the program and the document agree. -/
set_option linter.unusedVariables false
set_option linter.unusedSimpArgs false
set_option maxRecDepth 100000
namespace Go.Proofs.Ytmjdihpdlfidmaa
open Go Go.Eng Go.RowKit

def inB (n a b : Int) : Bool := decide (a ≤ n) && decide (n ≤ b)

theorem in_c (n a b : Int) (w : World) : Calls Try.prog 29 #[I n, I a, I b] w fun e w' => e = .returned (.bool (inB n a b)) ∧ Below w.heap.size w w' := by
  refine enter (E := E0) (O := []) (nl := 0) (V := vw w) [.a (.v (I n)), .a (.v (I a)), .a (.v (I b))] Try.func29 rfl rfl (mem0 E0 0 w) rfl rfl ?_
  refine c_seq ?_
  refine c_region ?_
  refine o_yield rfl rfl rfl (y_val tok rfl) ?_
  refine o_end [0, 1, 2] rfl ?_
  refine x_then ?_
  refine c_seq ?_
  refine c_region ?_
  refine o_yield rfl rfl rfl (y_val tok rfl) ?_
  refine o_yield rfl rfl rfl (y_val tok rfl) ?_
  refine o_yield rfl rfl rfl (y_val tok rfl) ?_
  refine o_yield rfl rfl rfl (y_val tok rfl) ?_
  refine o_yield rfl rfl rfl (y_val tok rfl) ?_
  refine o_yield rfl rfl rfl (y_val tok rfl) ?_
  refine o_yield rfl rfl rfl (y_val tok rfl) ?_
  refine o_yield rfl rfl rfl (y_val tok rfl) ?_
  refine o_yield rfl rfl rfl (y_val tok rfl) ?_
  refine o_end [6] rfl ?_
  refine x_then ?_
  refine c_ret ?_
  refine b_ret tok rfl ?_
  intro E w' hm _
  exact ⟨rfl, hm.below (Vw.le.refl _)⟩

/-- A geometry that may be. -/
def geoB (g : Geo) : Bool := decide ((1 ≤ g.nodes ∧ g.nodes ≤ 16) ∧ (1 ≤ g.slots ∧ g.slots ≤ g.nodes) ∧ (1 ≤ g.blocks ∧ g.blocks ≤ 64) ∧ (1 ≤ g.per ∧ g.per ≤ 8) ∧ (g.per + 2 ≤ g.journal ∧ g.journal ≤ 64) ∧
  (8 * g.slots ≤ g.log ∧ g.log ≤ 512) ∧ (1 ≤ g.lease ∧ g.lease < g.wait ∧ g.wait ≤ 1048576))

theorem refMay_c (g : Geo) (ok : g.Ok) (w : World) : Calls Try.prog 14 #[g.val] w fun e w' => e = .returned (.bool (geoB g)) ∧ Below w.heap.size w w' := by
  refine enter (E := E0) (O := []) (nl := 0) (V := vw w) [.a (.v g.val)] Try.func14 rfl rfl (mem0 E0 0 w) rfl rfl ?_
  refine c_seq ?_
  refine c_region ?_
  refine o_new tok rfl rfl rfl rfl ?_
  refine o_yield rfl rfl rfl (y_val tok rfl) ?_
  refine o_end [1] rfl ?_
  refine x_then ?_
  refine c_seq ?_
  refine c_region ?_
  refine o_yield rfl rfl rfl (y_val tok rfl) ?_
  refine o_yield rfl rfl rfl (y_val tok rfl) ?_
  refine o_call (.a (.v _)) rfl rfl fnok29 rfl rfl rfl (fun hg E w1 hm => by exact in_c _ _ _ _) ?_
  refine o_yield rfl rfl rfl (y_val tok rfl) ?_
  refine o_yield rfl rfl rfl (y_val tok rfl) ?_
  refine o_yield rfl rfl rfl (y_val tok rfl) ?_
  refine o_yield rfl rfl rfl (y_val tok rfl) ?_
  refine o_yield rfl rfl rfl (y_val tok rfl) ?_
  refine o_call (.a (.v _)) rfl rfl fnok29 rfl rfl rfl (fun hg E w1 hm => by exact in_c _ _ _ _) ?_
  refine o_yield rfl rfl rfl (y_val tok rfl) ?_
  refine o_yield rfl rfl rfl (y_val tok rfl) ?_
  refine o_yield rfl rfl rfl (y_val tok rfl) ?_
  refine o_yield rfl rfl rfl (y_val tok rfl) ?_
  refine o_call (.a (.v _)) rfl rfl fnok29 rfl rfl rfl (fun hg E w1 hm => by exact in_c _ _ _ _) ?_
  refine o_yield rfl rfl rfl (y_val tok rfl) ?_
  refine o_yield rfl rfl rfl (y_val tok rfl) ?_
  refine o_yield rfl rfl rfl (y_val tok rfl) ?_
  refine o_yield rfl rfl rfl (y_val tok rfl) ?_
  refine o_call (.a (.v _)) rfl rfl fnok29 rfl rfl rfl (fun hg E w1 hm => by exact in_c _ _ _ _) ?_
  refine o_yield rfl rfl rfl (y_val tok rfl) ?_
  refine o_yield rfl rfl rfl (y_val tok rfl) ?_
  refine o_yield rfl rfl rfl (y_val tok rfl) ?_
  refine o_yield rfl rfl rfl (y_val tok rfl) ?_
  refine o_yield rfl rfl rfl (y_val tok rfl) ?_
  refine o_yield rfl rfl rfl (y_val tok rfl) ?_
  refine o_yield rfl rfl rfl (y_val tok rfl) ?_
  refine o_call (.a (.v _)) rfl rfl fnok29 rfl rfl rfl (fun hg E w1 hm => by exact in_c _ _ _ _) ?_
  refine o_yield rfl rfl rfl (y_val tok rfl) ?_
  refine o_yield rfl rfl rfl (y_val tok rfl) ?_
  refine o_yield rfl rfl rfl (y_val tok rfl) ?_
  refine o_yield rfl rfl rfl (y_val tok rfl) ?_
  refine o_yield rfl rfl rfl (y_val tok rfl) ?_
  refine o_yield rfl rfl rfl (y_val tok rfl) ?_
  refine o_yield rfl rfl rfl (y_val tok rfl) ?_
  refine o_call (.a (.v _)) rfl rfl fnok29 rfl rfl rfl (fun hg E w1 hm => by exact in_c _ _ _ _) ?_
  refine o_yield rfl rfl rfl (y_val tok rfl) ?_
  refine o_yield rfl rfl rfl (y_val tok rfl) ?_
  refine o_yield rfl rfl rfl (y_val tok rfl) ?_
  refine o_yield rfl rfl rfl (y_val tok rfl) ?_
  refine o_yield rfl rfl rfl (y_val tok rfl) ?_
  refine o_yield rfl rfl rfl (y_val tok rfl) ?_
  refine o_yield rfl rfl rfl (y_val tok rfl) ?_
  refine o_yield rfl rfl rfl (y_val tok rfl) ?_
  refine o_yield rfl rfl rfl (y_val tok rfl) ?_
  refine o_yield rfl rfl rfl (y_val tok rfl) ?_
  refine o_yield rfl rfl rfl (y_val tok rfl) ?_
  refine o_yield rfl rfl rfl (y_val tok rfl) ?_
  refine o_yield rfl rfl rfl (y_val tok rfl) ?_
  refine o_yield rfl rfl rfl (y_val tok rfl) ?_
  refine o_yield rfl rfl rfl (y_val tok rfl) ?_
  refine o_yield rfl rfl rfl (y_val tok rfl) ?_
  refine o_yield rfl rfl rfl (y_val tok rfl) ?_
  refine o_yield rfl rfl rfl (y_val tok rfl) ?_
  refine o_yield rfl rfl rfl (y_val tok rfl) ?_
  refine o_end [2] rfl ?_
  refine x_then ?_
  refine c_ret ?_
  refine b_ret tok rfl ?_
  intro E w' hm _
  refine ⟨?_, hm.below (Vw.le.refl _)⟩
  show Ending.returned (.bool ((((((((inB g.nodes 1 16 && inB g.slots 1 g.nodes) && inB g.blocks 1 64) && inB g.per 1 8) && inB g.journal (IntKind.i64.wrap (g.per + 2)) 64) && inB g.log (IntKind.i64.wrap (8 * g.slots)) 512) &&
    decide (1 ≤ g.lease)) && decide (g.lease < g.wait)) && decide (g.wait ≤ 1048576))) = _
  congr 2
  by_cases h : (1 ≤ g.nodes ∧ g.nodes ≤ 16) ∧ (1 ≤ g.slots ∧ g.slots ≤ g.nodes) ∧ (1 ≤ g.per ∧ g.per ≤ 8)
  · rw [wrapI (by omega) (by omega), wrapI (by omega) (by omega), Bool.eq_iff_iff]
    simp only [inB, geoB, Bool.and_eq_true, decide_eq_true_eq]
    omega
  · have : geoB g = false := by
      simp only [geoB, decide_eq_false_iff_not]
      omega
    rw [this, Bool.eq_false_iff]
    simp only [inB, ne_eq, Bool.and_eq_true, decide_eq_true_eq]
    omega

/-! The program's. -/

abbrev encI (n : Int) : List Value := [I n]

def sortedB : List Int → Bool
  | a :: b :: r => decide (a ≤ b) && sortedB (b :: r)
  | _ => true

theorem sorted_iff : ∀ (l : List Int), sortedB l = true ↔ ∀ j x y, l[j]? = some x → l[j + 1]? = some y → x ≤ y
  | [] => by simp [sortedB]
  | [a] => by simp [sortedB]
  | a :: b :: r => by
    simp only [sortedB, Bool.and_eq_true, decide_eq_true_eq, sorted_iff (b :: r)]
    constructor
    · rintro ⟨h1, h2⟩ j x y hx hy
      cases j with
      | zero => simp at hx hy; subst hx hy; exact h1
      | succ j => exact h2 j x y (by simpa using hx) (by simpa using hy)
    · intro h
      exact ⟨h 0 a b rfl rfl, fun j x y hx hy => h (j + 1) x y (by simpa using hx) (by simpa using hy)⟩

theorem within_c (V : Vw) (sv : Value) (l : List Int) (w : World) (hV : V.le (vw w)) (hs : SlOf V encI 1 sv l) (hn : l.length ≤ lim) :
    Calls Try.prog 48 #[sv] w fun e w' => e = .returned (.bool (sortedB l)) ∧ Below w.heap.size w w' := by
  simp only [lim] at hn
  have hs' := hs.mono hV
  refine enter (E := E0) (O := []) (nl := 0) (V := vw w) [.a (.v sv)] Try.func48 rfl rfl (mem0 E0 0 w) rfl rfl ?_
  refine c_seq ?_
  refine c_region ?_
  refine o_yield rfl rfl rfl (y_val tok rfl) ?_
  refine o_end [0] rfl ?_
  refine x_then ?_
  refine c_seq ?_
  refine c_seq ?_
  refine c_region ?_
  refine o_yield rfl rfl rfl (y_val tok rfl) ?_
  refine o_end [0, 3] rfl ?_
  refine x_then ?_
  refine c_block ?_
  refine c_loop (σ := Nat) (fun k => [(0, .a (.v sv)), (3, .a (.v (I (k + 1 : Nat))))]) (fun _ => []) 0 (fun _ => vw w)
    (fun k => k + 1 ≤ l.length + 1 ∧ ∀ j x y, j < k → l[j]? = some x → l[j + 1]? = some y → x ≤ y) (fun k => l.length - k) 0 ⟨by omega, by omega⟩ ⟨rfl, rfl, trivial⟩ trivial rfl (Vw.le.refl _) ?_
  rintro k ⟨hk, hall⟩
  refine c_seq ?_
  refine c_seq ?_
  refine c_region ?_
  refine o_yield rfl rfl rfl (y_val tok rfl) ?_
  refine o_yield rfl rfl rfl (y_val tok rfl) ?_
  refine o_yield rfl rfl rfl (y_len tok rfl (fun hg => hs'.sl)) ?_
  refine o_yield rfl rfl rfl (y_val tok rfl) ?_
  refine o_end [0, 3, 7] rfl ?_
  refine x_then ?_
  refine c_cond rfl (fun h => ?_) (fun h => ?_)
  ·
    refine c_skip ?_
    refine x_then ?_
    refine c_seq ?_
    refine c_block ?_
    refine c_seq ?_
    refine c_draw mixed (by kernel_rfl) ?_
    refine d_yield rfl rfl rfl (y_val tok rfl) rfl ?_
    refine d_yield rfl rfl rfl (y_val tok rfl) rfl ?_
    refine d_yield rfl rfl rfl (y_val tok rfl) rfl ?_
    have hlt : k + 1 < l.length := by simp at h; omega
    have hx : l[k]? = some (l[k]'(by omega)) := by simp
    have hy : l[k + 1]? = some l[k + 1] := by simp [hlt]
    have hw : IntKind.i64.wrap (((k + 1 : Nat) : Int) - 1) = (k : Int) := by rw [wrapI (by omega) (by omega)]; omega
    rw [hw]
    refine d_yield rfl rfl rfl (y_idx tok rfl (fun hg => hs'.sl) (fun hg => ⟨by omega, by omega⟩)) rfl ?_
    refine d_yield rfl rfl rfl (y_lel tok (k) 0 ((l[k]'(by omega))) rfl (fun hg => hs') (fun hg => hx) rfl rfl) rfl ?_
    refine d_yield rfl rfl rfl (y_val tok rfl) rfl ?_
    refine d_yield rfl rfl rfl (y_val tok rfl) rfl ?_
    refine d_yield rfl rfl rfl (y_idx tok rfl (fun hg => hs'.sl) (fun hg => ⟨by omega, by omega⟩)) rfl ?_
    refine d_yield rfl rfl rfl (y_lel tok (k + 1) 0 (l[k + 1]) rfl (fun hg => hs') (fun hg => hy) rfl rfl) rfl ?_
    refine d_yield rfl rfl rfl (y_val tok rfl) rfl ?_
    refine d_end [0, 3, 19] rfl ?_
    refine x_then ?_
    refine c_cond rfl (fun h => ?_) (fun h => ?_)
    ·
      refine c_seq ?_
      refine c_region ?_
      refine o_yield rfl rfl rfl (y_val tok rfl) ?_
      refine o_end [2] rfl ?_
      refine x_then ?_
      refine c_ret ?_
      refine x_block_ret ?_
      refine x_then_ret ?_
      refine x_then_ret ?_
      refine x_block_ret ?_
      refine x_then_ret ?_
      refine b_ret tok rfl ?_
      intro E w' hm _
      refine ⟨?_, hm.below (Vw.le.refl _)⟩
      have : sortedB l = false := by
        rw [Bool.eq_false_iff]
        intro hc
        have := (sorted_iff l).1 hc k _ _ hx hy
        simp at h; omega
      rw [this]; rfl
    ·
      refine c_skip ?_
      refine x_block ?_
      refine x_then ?_
      refine c_region ?_
      refine o_yield rfl rfl rfl (y_val tok rfl) ?_
      refine o_yield rfl rfl rfl (y_val tok rfl) ?_
      refine o_yield rfl rfl rfl (y_val tok rfl) ?_
      refine o_end [0, 3] rfl ?_
      refine x_then ?_
      have hwr : IntKind.i64.wrap (((k + 1 : Nat) : Int) + 1) = ((k + 1 + 1 : Nat) : Int) := by rw [wrapI (by omega) (by omega)]; omega
      rw [hwr]
      refine x_round (k + 1) ⟨by omega, fun j x y hj hx' hy' => ?_⟩ (by omega) ⟨rfl, rfl, trivial⟩ trivial rfl (Vw.le.refl _)
      by_cases hjk : j = k
      · subst hjk
        rw [hx] at hx'; rw [hy] at hy'
        cases hx'; cases hy'
        simp at h; omega
      · exact hall j x y (by omega) hx' hy'
  ·
    refine c_exit ?_
    refine x_then_exit ?_
    refine x_then_exit ?_
    refine x_block_hit ?_
    refine x_then ?_
    refine c_seq ?_
    refine c_region ?_
    refine o_yield rfl rfl rfl (y_val tok rfl) ?_
    refine o_end [2] rfl ?_
    refine x_then ?_
    refine c_ret ?_
    refine b_ret tok rfl ?_
    intro E w' hm _
    refine ⟨?_, hm.below (Vw.le.refl _)⟩
    have : sortedB l = true := by
      rw [sorted_iff]
      intro j x y hx hy
      have := (List.getElem?_eq_some_iff.1 hy).1
      simp at h
      exact hall j x y (by omega) hx hy
    rw [this]; rfl

theorem geoMay_c (g : Geo) (ok : g.Ok) (w : World) : Calls Try.prog 37 #[g.val] w fun e w' => e = .returned (.bool (geoB g)) ∧ Below w.heap.size w w' := by
  refine enter (E := E0) (O := []) (nl := 0) (V := vw w) [.a (.v g.val)] Try.func37 rfl rfl (mem0 E0 0 w) rfl rfl ?_
  refine c_seq ?_
  refine c_region ?_
  refine o_new tok rfl rfl rfl rfl ?_
  refine o_yield rfl rfl rfl (y_val tok rfl) ?_
  refine o_end [1] rfl ?_
  refine x_then ?_
  refine c_seq ?_
  refine c_region ?_
  refine o_yield rfl rfl rfl (y_val tok rfl) ?_
  refine o_yield rfl rfl rfl (y_val tok rfl) ?_
  refine o_yield rfl rfl rfl (y_val tok rfl) ?_
  refine o_yield rfl rfl rfl (y_val tok rfl) ?_
  refine o_bs tok rfl rfl rfl rfl (fun b1 V1 hle1 hb1 => ?_)
  refine o_call (.a (.v _)) rfl rfl fnok48 rfl rfl rfl (fun hg E w1 hm => by exact within_c V1 _ [1, g.slots, g.nodes, 16] _ hm.leV (SlOf.ofBlock (enc := encI) (sz := 1) (l := [1, g.slots, g.nodes, 16]) (hb1 hg) rfl (fun _ => rfl) (Nat.le_refl _)) (by simp [lim])) ?_
  refine o_yield rfl rfl rfl (y_val tok rfl) ?_
  refine o_yield rfl rfl rfl (y_val tok rfl) ?_
  refine o_yield rfl rfl rfl (y_val tok rfl) ?_
  refine o_bs tok rfl rfl rfl rfl (fun b2 V2 hle2 hb2 => ?_)
  refine o_call (.a (.v _)) rfl rfl fnok48 rfl rfl rfl (fun hg E w1 hm => by exact within_c V2 _ [1, g.blocks, 64] _ hm.leV (SlOf.ofBlock (enc := encI) (sz := 1) (l := [1, g.blocks, 64]) (hb2 hg) rfl (fun _ => rfl) (Nat.le_refl _)) (by simp [lim])) ?_
  refine o_yield rfl rfl rfl (y_val tok rfl) ?_
  refine o_yield rfl rfl rfl (y_val tok rfl) ?_
  refine o_yield rfl rfl rfl (y_val tok rfl) ?_
  refine o_yield rfl rfl rfl (y_val tok rfl) ?_
  refine o_bs tok rfl rfl rfl rfl (fun b3 V3 hle3 hb3 => ?_)
  refine o_call (.a (.v _)) rfl rfl fnok48 rfl rfl rfl (fun hg E w1 hm => by exact within_c V3 _ [1, g.per, 8] _ hm.leV (SlOf.ofBlock (enc := encI) (sz := 1) (l := [1, g.per, 8]) (hb3 hg) rfl (fun _ => rfl) (Nat.le_refl _)) (by simp [lim])) ?_
  refine o_yield rfl rfl rfl (y_val tok rfl) ?_
  refine o_yield rfl rfl rfl (y_val tok rfl) ?_
  refine o_yield rfl rfl rfl (y_val tok rfl) ?_
  refine o_yield rfl rfl rfl (y_val tok rfl) ?_
  refine o_yield rfl rfl rfl (y_val tok rfl) ?_
  refine o_yield rfl rfl rfl (y_val tok rfl) ?_
  refine o_yield rfl rfl rfl (y_val tok rfl) ?_
  refine o_bs tok rfl rfl rfl rfl (fun b4 V4 hle4 hb4 => ?_)
  refine o_call (.a (.v _)) rfl rfl fnok48 rfl rfl rfl (fun hg E w1 hm => by exact within_c V4 _ [IntKind.i64.wrap (g.per + 2), g.journal, 64] _ hm.leV (SlOf.ofBlock (enc := encI) (sz := 1) (l := [IntKind.i64.wrap (g.per + 2), g.journal, 64]) (hb4 hg) rfl (fun _ => rfl) (Nat.le_refl _)) (by simp [lim])) ?_
  refine o_yield rfl rfl rfl (y_val tok rfl) ?_
  refine o_yield rfl rfl rfl (y_val tok rfl) ?_
  refine o_yield rfl rfl rfl (y_val tok rfl) ?_
  refine o_yield rfl rfl rfl (y_val tok rfl) ?_
  refine o_yield rfl rfl rfl (y_val tok rfl) ?_
  refine o_yield rfl rfl rfl (y_val tok rfl) ?_
  refine o_yield rfl rfl rfl (y_val tok rfl) ?_
  refine o_bs tok rfl rfl rfl rfl (fun b5 V5 hle5 hb5 => ?_)
  refine o_call (.a (.v _)) rfl rfl fnok48 rfl rfl rfl (fun hg E w1 hm => by exact within_c V5 _ [IntKind.i64.wrap (8 * g.slots), g.log, 512] _ hm.leV (SlOf.ofBlock (enc := encI) (sz := 1) (l := [IntKind.i64.wrap (8 * g.slots), g.log, 512]) (hb5 hg) rfl (fun _ => rfl) (Nat.le_refl _)) (by simp [lim])) ?_
  refine o_yield rfl rfl rfl (y_val tok rfl) ?_
  refine o_yield rfl rfl rfl (y_val tok rfl) ?_
  refine o_yield rfl rfl rfl (y_val tok rfl) ?_
  refine o_yield rfl rfl rfl (y_val tok rfl) ?_
  refine o_yield rfl rfl rfl (y_val tok rfl) ?_
  refine o_yield rfl rfl rfl (y_val tok rfl) ?_
  refine o_yield rfl rfl rfl (y_val tok rfl) ?_
  refine o_bs tok rfl rfl rfl rfl (fun b6 V6 hle6 hb6 => ?_)
  refine o_call (.a (.v _)) rfl rfl fnok48 rfl rfl rfl (fun hg E w1 hm => by exact within_c V6 _ [1, g.lease, IntKind.i64.wrap (g.wait - 1), 1048575] _ hm.leV (SlOf.ofBlock (enc := encI) (sz := 1) (l := [1, g.lease, IntKind.i64.wrap (g.wait - 1), 1048575]) (hb6 hg) rfl (fun _ => rfl) (Nat.le_refl _)) (by simp [lim])) ?_
  refine o_yield rfl rfl rfl (y_val tok rfl) ?_
  refine o_yield rfl rfl rfl (y_val tok rfl) ?_
  refine o_end [2] rfl ?_
  refine x_then ?_
  refine c_ret ?_
  refine b_ret tok rfl ?_
  intro E w' hm _
  refine ⟨?_, hm.below (((((hle1.trans hle2).trans hle3).trans hle4).trans hle5).trans hle6)⟩
  show Ending.returned (.bool (((((sortedB [1, g.slots, g.nodes, 16] && sortedB [1, g.blocks, 64]) && sortedB [1, g.per, 8]) && sortedB [IntKind.i64.wrap (g.per + 2), g.journal, 64]) && sortedB [IntKind.i64.wrap (8 * g.slots), g.log, 512]) &&
    sortedB [1, g.lease, IntKind.i64.wrap (g.wait - 1), 1048575])) = _
  congr 2
  have hw := ok.wait
  simp only [R64] at hw
  by_cases h : (1 ≤ g.nodes ∧ g.nodes ≤ 16) ∧ (1 ≤ g.slots ∧ g.slots ≤ g.nodes) ∧ (1 ≤ g.per ∧ g.per ≤ 8)
  · rw [wrapI (n := g.per + 2) (by omega) (by omega), wrapI (n := 8 * g.slots) (by omega) (by omega)]
    by_cases hwait : g.wait = -9223372036854775808
    · have : geoB g = false := by
        simp only [geoB, decide_eq_false_iff_not]
        omega
      rw [this, hwait]
      simp [sortedB]
      intros
      decide
    · rw [wrapI (n := g.wait - 1) (by omega) (by omega), Bool.eq_iff_iff]
      simp only [sortedB, geoB, Bool.and_eq_true, decide_eq_true_eq, and_true]
      omega
  · have : geoB g = false := by
      simp only [geoB, decide_eq_false_iff_not]
      omega
    rw [this, Bool.eq_false_iff]
    simp only [sortedB, ne_eq, Bool.and_eq_true, decide_eq_true_eq]
    omega
end Go.Proofs.Ytmjdihpdlfidmaa

/- Records: which may be. -/
set_option linter.unusedVariables false
set_option linter.unusedSimpArgs false
set_option maxRecDepth 100000
namespace Go.Proofs.Ytmjdihpdlfidmaa
open Go Go.Eng Go.RowKit

def belowB (n m : Int) : Bool := decide (0 ≤ n) && decide (n < m)

def keyB (n : Int) : Bool := decide (16 ≤ n) && decide (n ≤ 1099511627776)

end Go.Proofs.Ytmjdihpdlfidmaa

/- A transaction's records: cutting texts, the closure that puts. -/
set_option linter.unusedVariables false
set_option linter.unusedSimpArgs false
set_option maxRecDepth 100000
namespace Go.Proofs.Ytmjdihpdlfidmaa
open Go Go.Eng Go.RowKit


def headOf (s : ByteArray) : ByteArray := s.extract 0 (min s.size 256)
def tailOf (s : ByteArray) : ByteArray := s.extract (min s.size 256) s.size

abbrev Ptr (b : Nat) : Value := .pointer (some ⟨b, 0, none⟩)

section
variable {o : Oper} {n : Nat} {F : Frame0} {C : List Nat} {O : Go.Eng.Own} {nl : Nat} {V : Vw}

end
end Go.Proofs.Ytmjdihpdlfidmaa

/- A transaction's records: the walk of record.Of. -/
set_option linter.unusedVariables false
set_option linter.unusedSimpArgs false
set_option maxRecDepth 100000
namespace Go.Proofs.Ytmjdihpdlfidmaa
open Go Go.Eng Go.RowKit

def restAt (t : ByteArray) : Nat → ByteArray
  | 0 => t
  | k + 1 => tailOf (restAt t k)

def blkAt (l : List Block) (i : Nat) : Block := l.getD i ⟨0, ByteArray.empty⟩

theorem blkAt_eq {l : List Block} {i : Nat} {b : Block} (h : l[i]? = some b) : blkAt l i = b := by simp [blkAt, List.getD, h]

def lastN (l : List Block) : Nat → Int
  | 0 => -1
  | i + 1 => (blkAt l i).n

structure BlkOk (g : Geo) (l : List Block) (i : Nat) (b : Block) : Prop where
  last : lastN l i < b.n
  blocks : b.n < g.blocks
  size : (b.text.size : Int) ≤ g.per * 256

end Go.Proofs.Ytmjdihpdlfidmaa

/- How many records are whole, how many a transaction has; blocks that are too great. -/
set_option linter.unusedVariables false
set_option linter.unusedSimpArgs false
set_option maxRecDepth 100000
namespace Go.Proofs.Ytmjdihpdlfidmaa
open Go Go.Eng Go.RowKit

theorem drop_at {α : Type} {l : List α} {k : Nat} {x : α} (h : l[k]? = some x) : l.drop k = x :: l.drop (k + 1) := by
  have hlt := (List.getElem?_eq_some_iff.1 h).1
  rw [List.drop_eq_getElem_cons hlt, (List.getElem?_eq_some_iff.1 h).2]

def manyOf (g : Geo) (n : Int) : Int := if geoB g = true ∧ 1 ≤ n then g.per * min n 1099511627776 + 1 else 0

theorem many_c (g : Geo) (ok : g.Ok) (n : Int) (w : World) : Calls Try.prog 27 #[g.val, I n] w fun e w' => e = .returned (I (manyOf g n)) ∧ Below w.heap.size w w' := by
  refine enter (E := E0) (O := []) (nl := 0) (V := vw w) [.a (.v g.val), .a (.v (I n))] Try.func27 rfl rfl (mem0 E0 0 w) rfl rfl ?_
  refine c_seq ?_
  refine c_region ?_
  refine o_new tok rfl rfl rfl rfl ?_
  refine o_yield rfl rfl rfl (y_val tok rfl) ?_
  refine o_end [1, 2] rfl ?_
  refine x_then ?_
  refine c_seq ?_
  refine c_seq ?_
  refine c_region ?_
  refine o_yield rfl rfl rfl (y_val tok rfl) ?_
  refine o_call (.a (.v _)) rfl rfl fnok37 rfl rfl rfl (fun hg E w1 hm => by exact geoMay_c g ok _) ?_
  refine o_yield rfl rfl rfl (y_val tok rfl) ?_
  refine o_yield rfl rfl rfl (y_val tok rfl) ?_
  refine o_yield rfl rfl rfl (y_val tok rfl) ?_
  refine o_yield rfl rfl rfl (y_val tok rfl) ?_
  refine o_yield rfl rfl rfl (y_val tok rfl) ?_
  refine o_end [1, 2, 11] rfl ?_
  refine x_then ?_
  refine c_cond rfl (fun h => ?_) (fun h => ?_)
  ·
    refine c_seq ?_
    refine c_region ?_
    refine o_yield rfl rfl rfl (y_val tok rfl) ?_
    refine o_end [4] rfl ?_
    refine x_then ?_
    refine c_ret ?_
    refine x_then_ret ?_
    refine b_ret tok rfl ?_
    intro E w' hm _
    refine ⟨?_, hm.below (Vw.le.refl _)⟩
    have : manyOf g n = 0 := by
      unfold manyOf
      rw [if_neg]
      intro hc
      simp [hc.1] at h
      omega
    rw [this]; rfl
  ·
    refine c_skip ?_
    refine x_then ?_
    refine c_seq ?_
    refine c_region ?_
    refine o_yield rfl rfl rfl (y_val tok rfl) ?_
    refine o_yield rfl rfl rfl (y_val tok rfl) ?_
    refine o_yield rfl rfl rfl (y_val tok rfl) ?_
    refine o_yield rfl rfl rfl (y_mm rfl) ?_
    refine o_yield rfl rfl rfl (y_val tok rfl) ?_
    refine o_yield rfl rfl rfl (y_val tok rfl) ?_
    refine o_yield rfl rfl rfl (y_val tok rfl) ?_
    refine o_end [4] rfl ?_
    refine x_then ?_
    refine c_ret ?_
    refine b_ret tok rfl ?_
    intro E w' hm _
    refine ⟨?_, hm.below (Vw.le.refl _)⟩
    simp only [Bool.or_eq_false_iff, Bool.not_eq_false', decide_eq_false_iff_not] at h
    have hg := h.1
    simp only [geoB, decide_eq_true_eq] at hg
    have hm1 : (bif false then max n 1099511627776 else min n 1099511627776) = min n 1099511627776 := rfl
    have h1 : g.per * min n 1099511627776 ≤ 8 * 1099511627776 := by
      have := Int.mul_le_mul (show g.per ≤ 8 by omega) (show min n 1099511627776 ≤ 1099511627776 by omega) (by omega) (by omega)
      exact this
    have h0 : 0 ≤ g.per * min n 1099511627776 := Int.mul_nonneg (by omega) (by omega)
    show Ending.returned (I (IntKind.i64.wrap (IntKind.i64.wrap (g.per * (bif false then max n 1099511627776 else min n 1099511627776)) + 1))) = _
    rw [hm1, wrapI (n := g.per * min n 1099511627776) (by omega) (by omega), wrapI (by omega) (by omega)]
    unfold manyOf
    rw [if_pos ⟨h.1, by omega⟩]

def greatB (l : List Block) : Bool := ((l.take 71).any fun b => decide (5000 < (b.text.size : Int))) || decide (70 < (l.length : Int))

end Go.Proofs.Ytmjdihpdlfidmaa

/- Rows of blocks: the program's, and the document's. -/
set_option linter.unusedVariables false
set_option linter.unusedSimpArgs false
set_option maxRecDepth 100000
namespace Go.Proofs.Ytmjdihpdlfidmaa
open Go Go.Eng Go.RowKit

theorem hasFn_c (b : Block) (k : Int) (bk : Nat) (w : World) (hk : w.heap[bk]? = some (.cells [I k].toArray 3 (0, 0))) :
    Calls Try.prog 56 #[b.val, .pointer (some ⟨bk, 0, none⟩)] w fun e w' => e = .returned (.bool (b.n == k)) ∧ Below w.heap.size w w' := by
  refine enter1 [.a (.v b.val), .a (.ptr 0 0)] hk Try.func56 rfl rfl rfl rfl ?_
  refine c_seq ?_
  refine c_region ?_
  refine o_new tok rfl rfl rfl rfl ?_
  refine o_yield rfl rfl rfl (y_val tok rfl) ?_
  refine o_end [1, 2] rfl ?_
  refine x_then ?_
  refine c_seq ?_
  refine c_region ?_
  refine o_yield rfl rfl rfl (y_val tok rfl) ?_
  refine o_yield rfl rfl rfl (y_val tok rfl) ?_
  refine o_yield rfl rfl rfl (y_val tok rfl) ?_
  refine o_yield rfl rfl rfl (y_val tok rfl) ?_
  refine o_yield rfl rfl rfl (y_val tok rfl) ?_
  refine o_end [3] rfl ?_
  refine x_then ?_
  refine c_ret ?_
  refine b_ret tok rfl ?_
  intro E w' hm _
  exact ⟨rfl, below1 hk hm (Vw.le.refl _) rfl rfl rfl⟩

/-- A function value that tells pr, wherever V is read. -/
def TellsB (V : Vw) (fv : Value) (pr : Block → Bool) : Prop :=
  ∀ (x : Block) w', V.le (vw w') → CallsFn Try.prog fv [x.val] w' fun e w'' => e = .returned (.bool (pr x)) ∧ Below w'.heap.size w' w''

/-- The first block of which pr is told. -/
def idxB (pr : Block → Bool) : List Block → Nat → Int
  | [], _ => -1
  | b :: r, i => if pr b = true then i else idxB pr r (i + 1)

theorem indexB_c (V : Vw) (fv sv : Value) (pr : Block → Bool) (l : List Block) (w : World) (hV : V.le (vw w)) (hs0 : SlOf V Block.cells 2 sv l) (hn : l.length ≤ 4398046511104) (hf : TellsB V fv pr) :
    Calls Try.prog 49 #[sv, fv] w fun e w' => e = .returned (I (idxB pr l 0)) ∧ Below w.heap.size w w' := by
  have hs := hs0.mono hV
  refine enter (E := E0) (O := []) (nl := 0) (V := vw w) [.a (.v sv), .a (.v fv)] Try.func49 rfl rfl (mem0 E0 0 w) rfl rfl ?_
  refine c_seq ?_
  refine c_region ?_
  refine o_yield rfl rfl rfl (y_val tok rfl) ?_
  refine o_end [0, 1] rfl ?_
  refine x_then ?_
  refine c_seq ?_
  refine c_seq ?_
  refine c_region ?_
  refine o_yield rfl rfl rfl (y_val tok rfl) ?_
  refine o_yield rfl rfl rfl (y_len tok rfl (fun hg => hs.sl)) ?_
  refine o_yield rfl rfl rfl (y_val tok rfl) ?_
  refine o_end [0, 1, 7, 8] rfl ?_
  refine x_then ?_
  refine c_block ?_
  refine c_loopK [0, 1, 7] [] rfl rfl (σ := Nat) (fun k => [(8, .a (.v (I k)))]) (fun k => []) (fun k => k ≤ l.length ∧ idxB pr l 0 = idxB pr (l.drop k) k) (fun k => l.length - k) (0) (⟨by omega, rfl⟩) (by repeat (first | exact SubF.nil | refine SubF.cons rfl ?_)) (by repeat (first | exact SubO.nil | refine SubO.cons rfl ?_)) rfl ?_
  rintro k ⟨hk, heq⟩
  refine c_seq ?_
  refine c_region ?_
  refine o_yield rfl rfl rfl (y_val tok rfl) ?_
  refine o_end [0, 1, 7, 8, 9] rfl ?_
  refine x_then ?_
  refine c_seq ?_
  refine c_cond rfl (fun h => ?_) (fun h => ?_)
  ·
    simp only [Bool.and_eq_true, Bool.or_eq_true, Bool.not_eq_true', Bool.or_eq_false_iff, Bool.and_eq_false_iff, decide_eq_true_eq, decide_eq_false_iff_not, beq_iff_eq, bne_iff_ne, Bool.not_eq_false', beq_eq_false_iff_ne, bne_eq_false_iff_eq, ne_eq, Decidable.not_not, Int.not_lt, Int.not_le] at h
    refine c_skip ?_
    refine x_then ?_
    refine c_seq ?_
    refine c_block ?_
    refine c_seq ?_
    refine c_region ?_
    refine o_yield rfl rfl rfl (y_val tok rfl) ?_
    refine o_yield rfl rfl rfl (y_val tok rfl) ?_
    refine o_end [0, 1, 5, 7, 8] rfl ?_
    refine x_then ?_
    refine c_seq ?_
    refine c_region ?_
    refine o_yield rfl rfl rfl (y_val tok rfl) ?_
    refine o_yield rfl rfl rfl (y_val tok rfl) ?_
    refine o_yield rfl rfl rfl (y_val tok rfl) ?_
    obtain ⟨x, h_x⟩ := hs.at (k := k) (by omega)
    have hlt_x := lt_of_at h_x
    refine o_yield rfl rfl rfl (y_idx tok rfl (fun hg => hs.sl) (fun hg => ⟨by omega, by omega⟩)) ?_
    refine o_yield rfl rfl rfl (y_lel tok (k) 0 (x) rfl (fun hg => hs) (fun hg => h_x) rfl rfl) ?_
    rw [drop_at h_x, idxB] at heq
    refine o_callF (.a (.v _)) rfl rfl rfl rfl rfl (fun hg E w1 hm => by exact hf x w1 (hV.trans hm.leV)) ?_
    refine o_end [0, 1, 5, 7, 8, 16] rfl ?_
    refine x_then ?_
    refine c_cond rfl (fun h => ?_) (fun h => ?_)
    ·
      refine c_seq ?_
      refine c_region ?_
      refine o_yield rfl rfl rfl (y_val tok rfl) ?_
      refine o_yield rfl rfl rfl (y_val tok rfl) ?_
      refine o_end [4] rfl ?_
      refine x_then ?_
      refine c_ret ?_
      refine x_block_ret ?_
      refine x_then_ret ?_
      refine x_then_ret ?_
      refine x_block_ret ?_
      refine x_then_ret ?_
      refine b_ret tok rfl ?_
      rw [if_pos h] at heq
      intro E w' hm _
      refine ⟨?_, hm.below (Vw.le.refl _)⟩
      rw [heq]; rfl
    ·
      refine c_skip ?_
      refine x_block ?_
      refine x_then ?_
      refine c_region ?_
      refine o_yield rfl rfl rfl (y_val tok rfl) ?_
      refine o_yield rfl rfl rfl (y_val tok rfl) ?_
      refine o_end [0, 1, 7, 8] rfl ?_
      refine x_then ?_
      rw [if_neg (by simp [h])] at heq
      rw [wrapI (n := (k : Int) + 1) (by omega) (by omega)]
      refine x_round (k + 1) (⟨by omega, heq⟩) (by first | omega | (dsimp only; omega)) (by repeat (first | exact SubF.nil | refine SubF.cons rfl ?_)) (by repeat (first | exact SubO.nil | refine SubO.cons rfl ?_)) rfl (Vw.le.refl _)
  ·
    simp only [Bool.and_eq_true, Bool.or_eq_true, Bool.not_eq_true', Bool.or_eq_false_iff, Bool.and_eq_false_iff, decide_eq_true_eq, decide_eq_false_iff_not, beq_iff_eq, bne_iff_ne, Bool.not_eq_false', beq_eq_false_iff_ne, bne_eq_false_iff_eq, ne_eq, Decidable.not_not, Int.not_lt, Int.not_le] at h
    refine c_exit ?_
    refine x_then_exit ?_
    refine x_then_exit ?_
    refine x_block_hit ?_
    refine x_then ?_
    refine c_seq ?_
    refine c_region ?_
    refine o_yield rfl rfl rfl (y_val tok rfl) ?_
    refine o_end [4] rfl ?_
    refine x_then ?_
    refine c_ret ?_
    refine b_ret tok rfl ?_
    have hkL : k = l.length := by omega
    subst hkL
    rw [List.drop_length, idxB] at heq
    intro E w' hm _
    refine ⟨?_, hm.below (Vw.le.refl _)⟩
    rw [heq]; rfl

theorem has_c (sv : Value) (l : List Block) (k : Int) (b : Nat) (w : World) (hb : w.heap[b]? = some (.cells [sv].toArray 81 (0, 0))) (hs : SlOf ((vw w).del b) Block.cells 2 sv l) (hn : l.length ≤ 4398046511104) :
    Calls Try.prog 47 #[.pointer (some ⟨b, 0, none⟩), I k] w fun e w' => e = .returned (I (idxB (fun x => x.n == k) l 0)) ∧ Below w.heap.size w w' := by
  refine enter1 [.a (.ptr 0 0), .a (.v (I k))] hb Try.func47 rfl rfl rfl rfl ?_
  refine c_seq ?_
  refine c_region ?_
  refine o_new tok rfl rfl rfl rfl ?_
  refine o_yield rfl rfl rfl (y_val tok rfl) ?_
  refine o_end [0, 3] rfl ?_
  refine x_then ?_
  refine c_seq ?_
  refine c_region ?_
  refine o_yield rfl rfl rfl (y_val tok rfl) ?_
  refine o_yield rfl rfl rfl (y_val tok rfl) ?_
  refine o_yield rfl rfl rfl (y_val tok rfl) ?_
  refine o_yield rfl rfl rfl (y_val tok rfl) ?_
  refine o_yield rfl rfl rfl (y_val tok rfl) ?_
  refine o_call (.a (.v _)) rfl rfl fnok49 rfl rfl rfl (fun hg E w1 hm => by exact indexB_c (vw w1) _ sv (fun x => x.n == k) l _ (Vw.le.refl _) (hs.mono hm.leV) hn (fun x w' hle => ⟨56, _, rfl, fnok56, hasFn_c x k _ w' (hle.get _ _ (hm.lit 3 _ _ rfl))⟩)) ?_
  refine o_yield rfl rfl rfl (y_val tok rfl) ?_
  refine o_end [4] rfl ?_
  refine x_then ?_
  refine c_ret ?_
  refine b_ret tok rfl ?_
  intro E w' hm _
  exact ⟨rfl, below1 hb hm (Vw.le.refl _) rfl rfl rfl⟩

/-- What a row tells of a place. -/
def getB : List Block → Int → ByteArray × Bool
  | [], _ => (ByteArray.empty, false)
  | b :: r, k => if b.n = k then (b.text, true) else getB r k

theorem idx_get (k : Int) : ∀ (l : List Block) (i : Nat), (idxB (fun x => x.n == k) l i = -1 ∧ getB l k = (ByteArray.empty, false)) ∨ ∃ (j : Nat) (b : Block), idxB (fun x => x.n == k) l i = ((i + j : Nat) : Int) ∧ l[j]? = some b ∧ getB l k = (b.text, true)
  | [], _ => .inl ⟨rfl, rfl⟩
  | b :: r, i => by
    rw [idxB, getB]
    by_cases h : b.n = k
    · exact .inr ⟨0, b, by rw [if_pos (by simpa using h)]; rfl, rfl, by rw [if_pos h]⟩
    · rw [if_neg (by simpa using h), if_neg h]
      rcases idx_get k r (i + 1) with ⟨h1, h2⟩ | ⟨j, c, h1, h2, h3⟩
      · exact .inl ⟨h1, h2⟩
      · exact .inr ⟨j + 1, c, by rw [h1]; congr 1; omega, by simpa using h2, h3⟩

theorem sl_shape {V : Vw} {v : Value} {sz m : Nat} {xs : List Value} (h : IsSl V v sz m xs) : ∃ a n c, v = .slice a n c := by
  rcases h.2 with ⟨a, c, rfl, _⟩ | ⟨g, o, cap, cur, e, f, rfl, _⟩
  · exact ⟨_, _, _, rfl⟩
  · exact ⟨_, _, _, rfl⟩

theorem get_c (V : Vw) (sv : Value) (l : List Block) (k : Int) (w : World) (hV : V.le (vw w)) (hs0 : SlOf V Block.cells 2 sv l) (hn : l.length ≤ 4398046511104) :
    Calls Try.prog 36 #[sv, I k] w fun e w' => e = .returned (.tuple #[S (getB l k).1, .bool (getB l k).2]) ∧ Below w.heap.size w w' := by
  obtain ⟨a, n, c, rfl⟩ := sl_shape hs0.sl
  have hs := hs0.mono hV
  have hig := idx_get k l 0
  refine enter (E := E0) (O := []) (nl := 0) (V := vw w) [.a (.v (.slice a n c)), .a (.v (I k))] Try.func36 rfl rfl (mem0 E0 0 w) rfl rfl ?_
  refine c_seq ?_
  refine c_region ?_
  refine o_yield rfl rfl rfl (y_val tok rfl) ?_
  refine o_yield rfl rfl rfl (y_val tok rfl) ?_
  refine o_end [0, 1] rfl ?_
  refine x_then ?_
  refine c_seq ?_
  refine c_region ?_
  refine o_yield rfl rfl rfl (y_val tok rfl) ?_
  refine o_yield rfl rfl rfl (y_val tok rfl) ?_
  refine o_new tok rfl rfl rfl rfl ?_
  refine o_store tok rfl rfl rfl (by first | exact ⟨trivial, trivial⟩ | (repeat' first | exact trivial | exact rfl | apply And.intro); done | simp [onesP, oneP, lk, Value.oneCell']) ?_
  refine o_end [0, 1, 6] rfl ?_
  refine x_then ?_
  refine c_seq ?_
  refine c_seq ?_
  refine c_region ?_
  refine o_yield rfl rfl rfl (y_val tok rfl) ?_
  refine o_call (.a (.v _)) rfl rfl fnok47 rfl rfl rfl (fun hg E w1 hm => by exact has_c _ l k _ _ (hm.lit 0 _ _ rfl) (hs.mono (hm.leDel (l := 0) rfl)) hn) ?_
  refine o_yield rfl rfl rfl (y_val tok rfl) ?_
  refine o_end [0, 7] rfl ?_
  refine x_then ?_
  refine c_seq ?_
  refine c_region ?_
  refine o_yield rfl rfl rfl (y_val tok rfl) ?_
  refine o_yield rfl rfl rfl (y_val tok rfl) ?_
  refine o_end [0, 7, 13] rfl ?_
  refine x_then ?_
  refine c_cond rfl (fun h => ?_) (fun h => ?_)
  ·
    simp only [Bool.and_eq_true, Bool.or_eq_true, Bool.not_eq_true', Bool.or_eq_false_iff, Bool.and_eq_false_iff, decide_eq_true_eq, decide_eq_false_iff_not, beq_iff_eq, bne_iff_ne, Bool.not_eq_false', beq_eq_false_iff_ne, bne_eq_false_iff_eq, ne_eq, Decidable.not_not, Int.not_lt, Int.not_le] at h
    refine c_seq ?_
    refine c_region ?_
    refine o_yield rfl rfl rfl (y_val tok rfl) ?_
    refine o_yield rfl rfl rfl (y_val tok rfl) ?_
    rcases hig with ⟨h1, _⟩ | ⟨j, b, h1, h2, h3⟩
    · omega
    · rw [Nat.zero_add] at h1
      rw [h1]
      have hlt_b := lt_of_at h2
      refine o_yield rfl rfl rfl (y_idx tok rfl (fun hg => hs.sl) (fun hg => ⟨by omega, by omega⟩)) ?_
      refine o_yield rfl rfl rfl (y_fel tok rfl (fun hg => hs.sl) (fun hg => by omega)) ?_
      refine o_yield rfl rfl rfl (y_lel tok (j) 1 (b) rfl (fun hg => hs) (fun hg => h2) rfl rfl) ?_
      refine o_yield rfl rfl rfl (y_val tok rfl) ?_
      refine o_yield rfl rfl rfl (y_val tok rfl) ?_
      refine o_end [4, 5] rfl ?_
      refine x_then ?_
      refine c_ret ?_
      refine x_then_ret ?_
      refine b_ret tok rfl ?_
      intro E w' hm _
      refine ⟨?_, hm.below (Vw.le.refl _)⟩
      rw [h3]; rfl
  ·
    simp only [Bool.and_eq_true, Bool.or_eq_true, Bool.not_eq_true', Bool.or_eq_false_iff, Bool.and_eq_false_iff, decide_eq_true_eq, decide_eq_false_iff_not, beq_iff_eq, bne_iff_ne, Bool.not_eq_false', beq_eq_false_iff_ne, bne_eq_false_iff_eq, ne_eq, Decidable.not_not, Int.not_lt, Int.not_le] at h
    refine c_skip ?_
    refine x_then ?_
    refine c_seq ?_
    refine c_region ?_
    refine o_yield rfl rfl rfl (y_val tok rfl) ?_
    refine o_yield rfl rfl rfl (y_val tok rfl) ?_
    refine o_end [4, 5] rfl ?_
    refine x_then ?_
    refine c_ret ?_
    refine b_ret tok rfl ?_
    rcases hig with ⟨_, h3⟩ | ⟨j, b, h1, _⟩
    ·
      intro E w' hm _
      refine ⟨?_, hm.below (Vw.le.refl _)⟩
      rw [h3]; rfl
    · omega

theorem refGet18_c (V : Vw) (sv : Value) (l : List Block) (k : Int) (w : World) (hV : V.le (vw w)) (hs0 : SlOf V Block.cells 2 sv l) (hn : l.length ≤ 4398046511104) :
    Calls Try.prog 18 #[sv, I k] w fun e w' => e = .returned (.tuple #[S (getB l k).1, .bool (getB l k).2]) ∧ Below w.heap.size w w' := by
  have hs := hs0.mono hV
  refine enter (E := E0) (O := []) (nl := 0) (V := vw w) [.a (.v sv), .a (.v (I k))] Try.func18 rfl rfl (mem0 E0 0 w) rfl rfl ?_
  refine c_seq ?_
  refine c_region ?_
  refine o_yield rfl rfl rfl (y_val tok rfl) ?_
  refine o_yield rfl rfl rfl (y_val tok rfl) ?_
  refine o_end [0, 1] rfl ?_
  refine x_then ?_
  refine c_seq ?_
  refine c_seq ?_
  refine c_region ?_
  refine o_yield rfl rfl rfl (y_val tok rfl) ?_
  refine o_end [0, 1, 6] rfl ?_
  refine x_then ?_
  refine c_block ?_
  refine c_loopK [0, 1] [] rfl rfl (σ := Nat) (fun i => [(6, .a (.v (I i)))]) (fun i => []) (fun i => i ≤ l.length ∧ getB l k = getB (l.drop i) k) (fun i => l.length - i) (0) (⟨by omega, rfl⟩) (by repeat (first | exact SubF.nil | refine SubF.cons rfl ?_)) (by repeat (first | exact SubO.nil | refine SubO.cons rfl ?_)) rfl ?_
  rintro i ⟨hi, heq⟩
  refine c_seq ?_
  refine c_seq ?_
  refine c_region ?_
  refine o_yield rfl rfl rfl (y_val tok rfl) ?_
  refine o_yield rfl rfl rfl (y_val tok rfl) ?_
  refine o_yield rfl rfl rfl (y_len tok rfl (fun hg => hs.sl)) ?_
  refine o_yield rfl rfl rfl (y_val tok rfl) ?_
  refine o_end [0, 1, 6, 10] rfl ?_
  refine x_then ?_
  refine c_cond rfl (fun h => ?_) (fun h => ?_)
  ·
    simp only [Bool.and_eq_true, Bool.or_eq_true, Bool.not_eq_true', Bool.or_eq_false_iff, Bool.and_eq_false_iff, decide_eq_true_eq, decide_eq_false_iff_not, beq_iff_eq, bne_iff_ne, Bool.not_eq_false', beq_eq_false_iff_ne, bne_eq_false_iff_eq, ne_eq, Decidable.not_not, Int.not_lt, Int.not_le] at h
    refine c_skip ?_
    refine x_then ?_
    refine c_seq ?_
    refine c_block ?_
    refine c_seq ?_
    refine c_region ?_
    refine o_yield rfl rfl rfl (y_val tok rfl) ?_
    refine o_yield rfl rfl rfl (y_val tok rfl) ?_
    obtain ⟨x, h_x⟩ := hs.at (k := i) (by omega)
    have hlt_x := lt_of_at h_x
    refine o_yield rfl rfl rfl (y_idx tok rfl (fun hg => hs.sl) (fun hg => ⟨by omega, by omega⟩)) ?_
    refine o_yield rfl rfl rfl (y_fel tok rfl (fun hg => hs.sl) (fun hg => by omega)) ?_
    refine o_yield rfl rfl rfl (y_lel tok (i) 0 (x) rfl (fun hg => hs) (fun hg => h_x) rfl rfl) ?_
    refine o_yield rfl rfl rfl (y_val tok rfl) ?_
    refine o_yield rfl rfl rfl (y_val tok rfl) ?_
    refine o_end [0, 1, 6, 19] rfl ?_
    refine x_then ?_
    refine c_cond rfl (fun h => ?_) (fun h => ?_)
    ·
      simp only [Bool.and_eq_true, Bool.or_eq_true, Bool.not_eq_true', Bool.or_eq_false_iff, Bool.and_eq_false_iff, decide_eq_true_eq, decide_eq_false_iff_not, beq_iff_eq, bne_iff_ne, Bool.not_eq_false', beq_eq_false_iff_ne, bne_eq_false_iff_eq, ne_eq, Decidable.not_not, Int.not_lt, Int.not_le] at h
      refine c_seq ?_
      refine c_region ?_
      refine o_yield rfl rfl rfl (y_val tok rfl) ?_
      refine o_yield rfl rfl rfl (y_val tok rfl) ?_
      rw [drop_at h_x, getB, if_pos h] at heq
      have hlt_x := lt_of_at h_x
      refine o_yield rfl rfl rfl (y_idx tok rfl (fun hg => hs.sl) (fun hg => ⟨by omega, by omega⟩)) ?_
      refine o_yield rfl rfl rfl (y_fel tok rfl (fun hg => hs.sl) (fun hg => by omega)) ?_
      refine o_yield rfl rfl rfl (y_lel tok (i) 1 (x) rfl (fun hg => hs) (fun hg => h_x) rfl rfl) ?_
      refine o_yield rfl rfl rfl (y_val tok rfl) ?_
      refine o_yield rfl rfl rfl (y_val tok rfl) ?_
      refine o_end [4, 5] rfl ?_
      refine x_then ?_
      refine c_ret ?_
      refine x_block_ret ?_
      refine x_then_ret ?_
      refine x_then_ret ?_
      refine x_block_ret ?_
      refine x_then_ret ?_
      refine b_ret tok rfl ?_
      intro E w' hm _
      refine ⟨?_, hm.below (Vw.le.refl _)⟩
      rw [heq]; rfl
    ·
      simp only [Bool.and_eq_true, Bool.or_eq_true, Bool.not_eq_true', Bool.or_eq_false_iff, Bool.and_eq_false_iff, decide_eq_true_eq, decide_eq_false_iff_not, beq_iff_eq, bne_iff_ne, Bool.not_eq_false', beq_eq_false_iff_ne, bne_eq_false_iff_eq, ne_eq, Decidable.not_not, Int.not_lt, Int.not_le] at h
      refine c_skip ?_
      refine x_block ?_
      refine x_then ?_
      refine c_region ?_
      refine o_yield rfl rfl rfl (y_val tok rfl) ?_
      refine o_yield rfl rfl rfl (y_val tok rfl) ?_
      refine o_yield rfl rfl rfl (y_val tok rfl) ?_
      refine o_end [0, 1, 6] rfl ?_
      refine x_then ?_
      rw [drop_at h_x, getB, if_neg h] at heq
      rw [wrapI (n := (i : Int) + 1) (by omega) (by omega)]
      refine x_round (i + 1) (⟨by omega, heq⟩) (by first | omega | (dsimp only; omega)) (by repeat (first | exact SubF.nil | refine SubF.cons rfl ?_)) (by repeat (first | exact SubO.nil | refine SubO.cons rfl ?_)) rfl (Vw.le.refl _)
  ·
    simp only [Bool.and_eq_true, Bool.or_eq_true, Bool.not_eq_true', Bool.or_eq_false_iff, Bool.and_eq_false_iff, decide_eq_true_eq, decide_eq_false_iff_not, beq_iff_eq, bne_iff_ne, Bool.not_eq_false', beq_eq_false_iff_ne, bne_eq_false_iff_eq, ne_eq, Decidable.not_not, Int.not_lt, Int.not_le] at h
    refine c_exit ?_
    refine x_then_exit ?_
    refine x_then_exit ?_
    refine x_block_hit ?_
    refine x_then ?_
    refine c_seq ?_
    refine c_region ?_
    refine o_yield rfl rfl rfl (y_val tok rfl) ?_
    refine o_yield rfl rfl rfl (y_val tok rfl) ?_
    refine o_end [4, 5] rfl ?_
    refine x_then ?_
    refine c_ret ?_
    refine b_ret tok rfl ?_
    have hkL : i = l.length := by omega
    subst hkL
    rw [List.drop_length, getB] at heq
    intro E w' hm _
    refine ⟨?_, hm.below (Vw.le.refl _)⟩
    rw [heq]; rfl
end Go.Proofs.Ytmjdihpdlfidmaa

/- What rows of blocks tell: the program's. -/
set_option linter.unusedVariables false
set_option linter.unusedSimpArgs false
set_option maxRecDepth 100000
namespace Go.Proofs.Ytmjdihpdlfidmaa
open Go Go.Eng Go.RowKit

/-- What the first row that has a place tells of it. -/
def knownB : List (Sl Block) → Int → ByteArray × Bool
  | [], _ => (ByteArray.empty, false)
  | r :: rs, k => if (getB r.l k).2 = true then ((getB r.l k).1, true) else knownB rs k

theorem known_c (V : Vw) (sv : Value) (l : List (Sl Block)) (k : Int) (w : World) (hV : V.le (vw w)) (hs0 : SlOf V Sl.enc 1 sv l) (hg : ∀ r ∈ l, SlOf V Block.cells 2 r.v r.l ∧ r.l.length ≤ 4398046511104) (hn : l.length ≤ 4398046511104) :
    Calls Try.prog 24 #[I k, sv] w fun e w' => e = .returned (.tuple #[S (knownB l k).1, .bool (knownB l k).2]) ∧ Below w.heap.size w w' := by
  have hs := hs0.mono hV
  refine enter (E := E0) (O := []) (nl := 0) (V := vw w) [.a (.v (I k)), .a (.v sv)] Try.func24 rfl rfl (mem0 E0 0 w) rfl rfl ?_
  refine c_seq ?_
  refine c_region ?_
  refine o_yield rfl rfl rfl (y_val tok rfl) ?_
  refine o_yield rfl rfl rfl (y_val tok rfl) ?_
  refine o_end [0, 1] rfl ?_
  refine x_then ?_
  refine c_seq ?_
  refine c_seq ?_
  refine c_region ?_
  refine o_yield rfl rfl rfl (y_val tok rfl) ?_
  refine o_yield rfl rfl rfl (y_len tok rfl (fun hg => hs.sl)) ?_
  refine o_yield rfl rfl rfl (y_val tok rfl) ?_
  refine o_end [0, 10, 11, 12] rfl ?_
  refine x_then ?_
  refine c_block ?_
  refine c_loopK [0, 10, 11] [] rfl rfl (σ := Nat) (fun i => [(12, .a (.v (I i)))]) (fun i => []) (fun i => i ≤ l.length ∧ knownB l k = knownB (l.drop i) k) (fun i => l.length - i) (0) (⟨by omega, rfl⟩) (by repeat (first | exact SubF.nil | refine SubF.cons rfl ?_)) (by repeat (first | exact SubO.nil | refine SubO.cons rfl ?_)) rfl ?_
  rintro i ⟨hi, heq⟩
  refine c_seq ?_
  refine c_region ?_
  refine o_yield rfl rfl rfl (y_val tok rfl) ?_
  refine o_end [0, 10, 11, 12, 13] rfl ?_
  refine x_then ?_
  refine c_seq ?_
  refine c_cond rfl (fun h => ?_) (fun h => ?_)
  ·
    simp only [Bool.and_eq_true, Bool.or_eq_true, Bool.not_eq_true', Bool.or_eq_false_iff, Bool.and_eq_false_iff, decide_eq_true_eq, decide_eq_false_iff_not, beq_iff_eq, bne_iff_ne, Bool.not_eq_false', beq_eq_false_iff_ne, bne_eq_false_iff_eq, ne_eq, Decidable.not_not, Int.not_lt, Int.not_le] at h
    refine c_skip ?_
    refine x_then ?_
    refine c_seq ?_
    refine c_block ?_
    refine c_seq ?_
    refine c_region ?_
    obtain ⟨x, h_x⟩ := hs.at (k := i) (by omega)
    have hlt_x := lt_of_at h_x
    refine o_yield rfl rfl rfl (y_idx tok rfl (fun hg => hs.sl) (fun hg => ⟨by omega, by omega⟩)) ?_
    refine o_yield rfl rfl rfl (y_lel tok (i) 0 (x) rfl (fun hg => hs) (fun hg => h_x) rfl rfl) ?_
    refine o_yield rfl rfl rfl (y_val tok rfl) ?_
    refine o_end [0, 7, 10, 11, 12] rfl ?_
    refine x_then ?_
    refine c_seq ?_
    refine c_region ?_
    refine o_yield rfl rfl rfl (y_val tok rfl) ?_
    refine o_yield rfl rfl rfl (y_val tok rfl) ?_
    obtain ⟨hx, hxn⟩ := hg x (List.mem_of_getElem? h_x)
    rw [drop_at h_x, knownB] at heq
    refine o_call (.a (.v _)) rfl rfl fnok36 rfl rfl rfl (fun hg E w1 hm => by exact get_c _ x.v x.l k _ hm.leV (hx.mono hV) hxn) ?_
    refine o_yield rfl rfl rfl (y_val tok rfl) ?_
    refine o_yield rfl rfl rfl (y_val tok rfl) ?_
    refine o_yield rfl rfl rfl (y_val tok rfl) ?_
    refine o_yield rfl rfl rfl (y_val tok rfl) ?_
    refine o_yield rfl rfl rfl (y_val tok rfl) ?_
    refine o_end [0, 8, 9, 10, 11, 12] rfl ?_
    refine x_then ?_
    refine c_seq ?_
    refine c_region ?_
    refine o_yield rfl rfl rfl (y_val tok rfl) ?_
    refine o_end [0, 8, 10, 11, 12, 22] rfl ?_
    refine x_then ?_
    refine c_cond rfl (fun h => ?_) (fun h => ?_)
    ·
      refine c_seq ?_
      refine c_region ?_
      refine o_yield rfl rfl rfl (y_val tok rfl) ?_
      refine o_yield rfl rfl rfl (y_val tok rfl) ?_
      refine o_yield rfl rfl rfl (y_val tok rfl) ?_
      refine o_end [4, 5] rfl ?_
      refine x_then ?_
      refine c_ret ?_
      refine x_block_ret ?_
      refine x_then_ret ?_
      refine x_then_ret ?_
      refine x_block_ret ?_
      refine x_then_ret ?_
      refine b_ret tok rfl ?_
      rw [if_pos h] at heq
      intro E w' hm _
      refine ⟨?_, hm.below (Vw.le.refl _)⟩
      rw [heq]; rfl
    ·
      refine c_skip ?_
      refine x_block ?_
      refine x_then ?_
      refine c_region ?_
      refine o_yield rfl rfl rfl (y_val tok rfl) ?_
      refine o_yield rfl rfl rfl (y_val tok rfl) ?_
      refine o_end [0, 10, 11, 12] rfl ?_
      refine x_then ?_
      rw [if_neg (by simp [h])] at heq
      rw [wrapI (n := (i : Int) + 1) (by omega) (by omega)]
      refine x_round (i + 1) (⟨by omega, heq⟩) (by first | omega | (dsimp only; omega)) (by repeat (first | exact SubF.nil | refine SubF.cons rfl ?_)) (by repeat (first | exact SubO.nil | refine SubO.cons rfl ?_)) rfl (Vw.le.refl _)
  ·
    simp only [Bool.and_eq_true, Bool.or_eq_true, Bool.not_eq_true', Bool.or_eq_false_iff, Bool.and_eq_false_iff, decide_eq_true_eq, decide_eq_false_iff_not, beq_iff_eq, bne_iff_ne, Bool.not_eq_false', beq_eq_false_iff_ne, bne_eq_false_iff_eq, ne_eq, Decidable.not_not, Int.not_lt, Int.not_le] at h
    refine c_exit ?_
    refine x_then_exit ?_
    refine x_then_exit ?_
    refine x_block_hit ?_
    refine x_then ?_
    refine c_seq ?_
    refine c_region ?_
    refine o_yield rfl rfl rfl (y_val tok rfl) ?_
    refine o_yield rfl rfl rfl (y_val tok rfl) ?_
    refine o_end [4, 5] rfl ?_
    refine x_then ?_
    refine c_ret ?_
    refine b_ret tok rfl ?_
    have hkL : i = l.length := by omega
    subst hkL
    rw [List.drop_length, knownB] at heq
    intro E w' hm _
    refine ⟨?_, hm.below (Vw.le.refl _)⟩
    rw [heq]; rfl
end Go.Proofs.Ytmjdihpdlfidmaa

/- Where everything stands: the program's regions. -/
set_option linter.unusedVariables false
set_option linter.unusedSimpArgs false
set_option maxRecDepth 100000
namespace Go.Proofs.Ytmjdihpdlfidmaa
open Go Go.Eng Go.RowKit

/-- A stretch of things of a kind. -/
structure Reg where
  first : Int
  many : Int
  kind : Int
  per : Int
abbrev Reg.cells (r : Reg) : List Value := [I r.first, I r.many, I8 r.kind, I r.per]
abbrev Reg.val (r : Reg) : Value := .agg #[I r.first, I r.many, I8 r.kind, I r.per]

/-- The first sector of data. -/
def dataAt (g : Geo) : Int := 1 + 2 * g.nodes + g.log + g.slots * (1 + g.journal)

def regs (g : Geo) : List Reg :=
  [⟨0, 1, 1, 1⟩, ⟨1, g.nodes, 2, 1⟩, ⟨1 + g.nodes, g.nodes, 3, 1⟩, ⟨1 + 2 * g.nodes, g.log, 4, 1⟩, ⟨1 + 2 * g.nodes + g.log, g.slots * (1 + g.journal), 6, 1 + g.journal⟩, ⟨dataAt g, g.blocks * g.per, 7, g.per⟩]

theorem stretchEnd_c (a b : Int) (w : World) : Calls Try.prog 63 #[.agg #[I a, I b]] w fun e w' => e = .returned (I (IntKind.i64.wrap (a + b))) ∧ Below w.heap.size w w' := by
  refine enter (E := E0) (O := []) (nl := 0) (V := vw w) [.a (.v (.agg #[I a, I b]))] Try.func63 rfl rfl (mem0 E0 0 w) rfl rfl ?_
  refine c_seq ?_
  refine c_region ?_
  refine o_new tok rfl rfl rfl rfl ?_
  refine o_yield rfl rfl rfl (y_val tok rfl) ?_
  refine o_end [1] rfl ?_
  refine x_then ?_
  refine c_seq ?_
  refine c_region ?_
  refine o_yield rfl rfl rfl (y_val tok rfl) ?_
  refine o_yield rfl rfl rfl (y_val tok rfl) ?_
  refine o_yield rfl rfl rfl (y_val tok rfl) ?_
  refine o_yield rfl rfl rfl (y_val tok rfl) ?_
  refine o_yield rfl rfl rfl (y_val tok rfl) ?_
  refine o_yield rfl rfl rfl (y_val tok rfl) ?_
  refine o_end [2] rfl ?_
  refine x_then ?_
  refine c_ret ?_
  refine b_ret tok rfl ?_
  intro E w' hm _
  refine ⟨?_, hm.below (Vw.le.refl _)⟩
  rfl

theorem stretchAt_c (a b k : Int) (w : World) : Calls Try.prog 53 #[.agg #[I a, I b], I k] w fun e w' => e = .returned (I (if k < 0 ∨ b ≤ k then -1 else IntKind.i64.wrap (a + k))) ∧ Below w.heap.size w w' := by
  refine enter (E := E0) (O := []) (nl := 0) (V := vw w) [.a (.v (.agg #[I a, I b])), .a (.v (I k))] Try.func53 rfl rfl (mem0 E0 0 w) rfl rfl ?_
  refine c_seq ?_
  refine c_region ?_
  refine o_new tok rfl rfl rfl rfl ?_
  refine o_yield rfl rfl rfl (y_val tok rfl) ?_
  refine o_end [1, 2] rfl ?_
  refine x_then ?_
  refine c_seq ?_
  refine c_seq ?_
  refine c_region ?_
  refine o_yield rfl rfl rfl (y_val tok rfl) ?_
  refine o_yield rfl rfl rfl (y_val tok rfl) ?_
  refine o_yield rfl rfl rfl (y_val tok rfl) ?_
  refine o_yield rfl rfl rfl (y_val tok rfl) ?_
  refine o_yield rfl rfl rfl (y_val tok rfl) ?_
  refine o_yield rfl rfl rfl (y_val tok rfl) ?_
  refine o_yield rfl rfl rfl (y_val tok rfl) ?_
  refine o_yield rfl rfl rfl (y_val tok rfl) ?_
  refine o_end [1, 2, 12] rfl ?_
  refine x_then ?_
  refine c_cond rfl (fun h => ?_) (fun h => ?_)
  ·
    simp only [Bool.and_eq_true, Bool.or_eq_true, Bool.not_eq_true', Bool.or_eq_false_iff, Bool.and_eq_false_iff, decide_eq_true_eq, decide_eq_false_iff_not, beq_iff_eq, bne_iff_ne, Bool.not_eq_false', beq_eq_false_iff_ne, bne_eq_false_iff_eq, ne_eq, Decidable.not_not, Int.not_lt, Int.not_le] at h
    refine c_seq ?_
    refine c_region ?_
    refine o_yield rfl rfl rfl (y_val tok rfl) ?_
    refine o_end [4] rfl ?_
    refine x_then ?_
    refine c_ret ?_
    refine x_then_ret ?_
    refine b_ret tok rfl ?_
    intro E w' hm _
    refine ⟨?_, hm.below (Vw.le.refl _)⟩
    rw [if_pos (by omega)]; rfl
  ·
    simp only [Bool.and_eq_true, Bool.or_eq_true, Bool.not_eq_true', Bool.or_eq_false_iff, Bool.and_eq_false_iff, decide_eq_true_eq, decide_eq_false_iff_not, beq_iff_eq, bne_iff_ne, Bool.not_eq_false', beq_eq_false_iff_ne, bne_eq_false_iff_eq, ne_eq, Decidable.not_not, Int.not_lt, Int.not_le] at h
    refine c_skip ?_
    refine x_then ?_
    refine c_seq ?_
    refine c_region ?_
    refine o_yield rfl rfl rfl (y_val tok rfl) ?_
    refine o_yield rfl rfl rfl (y_val tok rfl) ?_
    refine o_yield rfl rfl rfl (y_val tok rfl) ?_
    refine o_yield rfl rfl rfl (y_val tok rfl) ?_
    refine o_yield rfl rfl rfl (y_val tok rfl) ?_
    refine o_end [4] rfl ?_
    refine x_then ?_
    refine c_ret ?_
    refine b_ret tok rfl ?_
    intro E w' hm _
    refine ⟨?_, hm.below (Vw.le.refl _)⟩
    rw [if_neg (by omega)]; rfl

theorem geo_facts {g : Geo} (h : geoB g = true) : (1 ≤ g.nodes ∧ g.nodes ≤ 16) ∧ (1 ≤ g.slots ∧ g.slots ≤ g.nodes) ∧ (1 ≤ g.blocks ∧ g.blocks ≤ 64) ∧ (1 ≤ g.per ∧ g.per ≤ 8) ∧ (g.per + 2 ≤ g.journal ∧ g.journal ≤ 64) ∧
  (8 * g.slots ≤ g.log ∧ g.log ≤ 512) ∧ (1 ≤ g.lease ∧ g.lease < g.wait ∧ g.wait ≤ 1048576) := by simpa [geoB] using h

theorem prod_bound {a b A B : Int} (ha : 0 ≤ a) (hb : 0 ≤ b) (h1 : a ≤ A) (h2 : b ≤ B) : 0 ≤ a * b ∧ a * b ≤ A * B :=
  ⟨Int.mul_nonneg ha hb, Int.le_trans (Int.mul_le_mul_of_nonneg_right h1 hb) (Int.mul_le_mul_of_nonneg_left h2 (by omega))⟩

theorem reg_ones (l : List Reg) : ∀ u ∈ l.flatMap Reg.cells, u.oneCell' = true := by
  intro u hu
  obtain ⟨x, _, hx⟩ := List.mem_flatMap.1 hu
  simp only [Reg.cells, List.mem_cons, List.not_mem_nil, or_false] at hx
  rcases hx with rfl | rfl | rfl | rfl <;> rfl

theorem regions_c (g : Geo) (ok : g.Ok) (w : World) :
    Calls Try.prog 59 #[g.val] w fun e w' => ((geoB g = true ∧ ∃ v, e = .returned v ∧ w'.ownsRow w.heap.size 103 4 v 6 ((regs g).flatMap Reg.cells)) ∨ (geoB g = false ∧ e = .returned (.slice none 0 0))) ∧ Below w.heap.size w w' := by
  refine enter (E := E0) (O := []) (nl := 0) (V := vw w) [.a (.v g.val)] Try.func59 rfl rfl (mem0 E0 0 w) rfl rfl ?_
  refine c_seq ?_
  refine c_region ?_
  refine o_new tok rfl rfl rfl rfl ?_
  refine o_new tok rfl rfl rfl rfl ?_
  refine o_end [1, 2] rfl ?_
  refine x_then ?_
  refine c_seq ?_
  refine c_seq ?_
  refine c_region ?_
  refine o_yield rfl rfl rfl (y_val tok rfl) ?_
  refine o_call (.a (.v _)) rfl rfl fnok37 rfl rfl rfl (fun hg E w1 hm => by exact geoMay_c g ok _) ?_
  refine o_yield rfl rfl rfl (y_val tok rfl) ?_
  refine o_end [1, 2, 7] rfl ?_
  refine x_then ?_
  refine c_cond rfl (fun h => ?_) (fun h => ?_)
  ·
    simp only [Bool.and_eq_true, Bool.or_eq_true, Bool.not_eq_true', Bool.or_eq_false_iff, Bool.and_eq_false_iff, decide_eq_true_eq, decide_eq_false_iff_not, beq_iff_eq, bne_iff_ne, Bool.not_eq_false', beq_eq_false_iff_ne, bne_eq_false_iff_eq, ne_eq, Decidable.not_not, Int.not_lt, Int.not_le] at h
    refine c_seq ?_
    refine c_region ?_
    refine o_store tok rfl rfl rfl (by first | exact ⟨trivial, trivial⟩ | (repeat' first | exact trivial | exact rfl | apply And.intro); done | simp [onesP, oneP, lk, Value.oneCell']) ?_
    refine o_end [2] rfl ?_
    refine x_then ?_
    refine c_ret ?_
    refine x_then_ret ?_
    refine b_ret tok rfl ?_
    intro E w' hm _
    exact ⟨.inr ⟨by simpa using h, rfl⟩, hm.below (Vw.le.refl _)⟩
  ·
    simp only [Bool.and_eq_true, Bool.or_eq_true, Bool.not_eq_true', Bool.or_eq_false_iff, Bool.and_eq_false_iff, decide_eq_true_eq, decide_eq_false_iff_not, beq_iff_eq, bne_iff_ne, Bool.not_eq_false', beq_eq_false_iff_ne, bne_eq_false_iff_eq, ne_eq, Decidable.not_not, Int.not_lt, Int.not_le] at h
    refine c_skip ?_
    refine x_then ?_
    refine c_seq ?_
    refine c_region ?_
    refine o_new tok rfl rfl rfl rfl ?_
    refine o_store tok rfl rfl rfl (by first | exact ⟨trivial, trivial⟩ | (repeat' first | exact trivial | exact rfl | apply And.intro); done | simp [onesP, oneP, lk, Value.oneCell']) ?_
    refine o_end [1, 2, 3] rfl ?_
    refine x_then ?_
    refine c_seq ?_
    refine c_region ?_
    refine o_yield rfl rfl rfl (y_val tok rfl) ?_
    refine o_yield rfl rfl rfl (y_val tok rfl) ?_
    refine o_end [1, 2, 4] rfl ?_
    refine x_then ?_
    refine c_seq ?_
    refine c_region ?_
    refine o_yield rfl rfl rfl (y_val tok rfl) ?_
    have hgeo : geoB g = true := by simpa using h
    clear h
    have hf := geo_facts hgeo
    have hs := prod_bound (a := g.slots) (b := 1 + g.journal) (A := 16) (B := 65) (by omega) (by omega) (by omega) (by omega)
    have hb := prod_bound (a := g.blocks) (b := g.per) (A := 64) (B := 8) (by omega) (by omega) (by omega) (by omega)
    have hda : dataAt g = 1 + 2 * g.nodes + g.log + g.slots * (1 + g.journal) := rfl
    refine k_nilO 1 0 103 4 rfl rfl ?_
    refine o_inl rfl rfl rfl rfl rfl fnok62 Try.func62 rfl rfl rfl (fun E => ?_)
    refine c_seq ?_
    refine c_region ?_
    refine o_yield rfl rfl rfl (y_val tok rfl) ?_
    refine o_yield rfl rfl rfl (y_val tok rfl) ?_
    refine o_yield rfl rfl rfl (y_val tok rfl) ?_
    refine o_yield rfl rfl rfl (y_val tok rfl) ?_
    refine o_yield rfl rfl rfl (y_val tok rfl) ?_
    refine o_yield rfl rfl rfl (y_val tok rfl) ?_
    refine o_yield rfl rfl rfl (y_val tok rfl) ?_
    refine o_yield rfl rfl rfl (y_val tok rfl) ?_
    refine o_new tok rfl rfl rfl rfl ?_
    refine o_store tok rfl rfl rfl (by first | exact ⟨trivial, trivial⟩ | (repeat' first | exact trivial | exact rfl | apply And.intro); done | simp [onesP, oneP, lk, Value.oneCell']) ?_
    refine o_end [3, 4, 8] rfl ?_
    refine x_then ?_
    refine c_seq ?_
    refine c_region ?_
    refine o_yield rfl rfl rfl (y_val tok rfl) ?_
    refine o_yield rfl rfl rfl (y_val tok rfl) ?_
    rw [show IntKind.i64.wrap (1 * 1) = 1 by rw [wrapI (by omega) (by omega)]; try omega]
    refine o_step rfl rfl rfl rfl rfl (s_bs tok 4 rfl rfl rfl) (fun _ _ => ?_)
    refine o_step rfl rfl rfl rfl rfl (s_app tok (⟨0, 1, 1, 1⟩ : Reg).cells rfl (fun E w hm => ownsRow_src (hm.row _ _ _ _ _ rfl)) (fun _ _ _ => by simpa using reg_ones [(⟨0, 1, 1, 1⟩ : Reg)]) (by dsimp only; omega)) (fun _ _ => ?_)
    refine o_store tok rfl rfl rfl (by first | exact ⟨trivial, trivial⟩ | (repeat' first | exact trivial | exact rfl | apply And.intro); done | simp [onesP, oneP, lk, Value.oneCell']) ?_
    refine o_end [3, 8] rfl ?_
    refine x_then ?_
    refine c_region ?_
    refine o_yield rfl rfl rfl (y_val tok rfl) ?_
    refine o_yield rfl rfl rfl (y_val tok rfl) ?_
    refine o_call (.a (.v _)) rfl rfl fnok63 rfl rfl rfl (fun hg E w1 hm => by exact stretchEnd_c _ _ _) ?_
    refine o_store tok rfl rfl rfl (by first | exact ⟨trivial, trivial⟩ | (repeat' first | exact trivial | exact rfl | apply And.intro); done | simp [onesP, oneP, lk, Value.oneCell']) ?_
    refine o_end [] rfl ?_
    refine b_end tok rfl ?_
    rw [show IntKind.i64.wrap (0 + 1) = 1 by rw [wrapI (by omega) (by omega)]; try omega]
    intro E1 w1 hm1 hok1
    refine inl_end (E := E) hm1 hok1 rfl rfl (by repeat (first | exact KeepsIn.zero | refine KeepsIn.succ rfl ?_)) rfl (by repeat (first | exact SubO.nil | refine SubO.cons rfl ?_)) rfl ?_
    clear hm1 hok1 w1 E1 E
    refine k_swap 3 10 rfl ?_
    refine weaken (l := [(1, .a (.ptr 0 0)), (2, .a (.ptr 1 0)), (4, .a (.fn 62 [(2, 0), (1, 0)]))]) (O' := [(0, .lit (g.cells.map .v) 23), (1, .lit [.row 3] 108), (2, .lit [.v (I (1))] 3), (3, .row 103 4 1 (((regs g).take 1).flatMap Reg.cells))]) (nl' := 4) ?_ (by repeat (first | exact SubF.nil | refine SubF.cons rfl ?_)) (by repeat (first | exact SubO.nil | refine SubO.cons rfl ?_)) rfl (Vw.le.refl _)
    refine o_end [1, 2, 4] rfl ?_
    refine x_then ?_
    refine c_seq ?_
    refine c_region ?_
    refine o_yield rfl rfl rfl (y_val tok rfl) ?_
    refine o_yield rfl rfl rfl (y_val tok rfl) ?_
    refine o_yield rfl rfl rfl (y_val tok rfl) ?_
    refine o_inl rfl rfl rfl rfl rfl fnok62 Try.func62 rfl rfl rfl (fun E => ?_)
    refine c_seq ?_
    refine c_region ?_
    refine o_yield rfl rfl rfl (y_val tok rfl) ?_
    refine o_yield rfl rfl rfl (y_val tok rfl) ?_
    refine o_yield rfl rfl rfl (y_val tok rfl) ?_
    refine o_yield rfl rfl rfl (y_val tok rfl) ?_
    refine o_yield rfl rfl rfl (y_val tok rfl) ?_
    refine o_yield rfl rfl rfl (y_val tok rfl) ?_
    refine o_yield rfl rfl rfl (y_val tok rfl) ?_
    refine o_yield rfl rfl rfl (y_val tok rfl) ?_
    refine o_new tok rfl rfl rfl rfl ?_
    refine o_store tok rfl rfl rfl (by first | exact ⟨trivial, trivial⟩ | (repeat' first | exact trivial | exact rfl | apply And.intro); done | simp [onesP, oneP, lk, Value.oneCell']) ?_
    refine o_end [3, 4, 8] rfl ?_
    refine x_then ?_
    refine c_seq ?_
    refine c_region ?_
    refine o_yield rfl rfl rfl (y_val tok rfl) ?_
    refine o_yield rfl rfl rfl (y_val tok rfl) ?_
    rw [show IntKind.i64.wrap (g.nodes * 1) = g.nodes by rw [wrapI (by omega) (by omega)]; try omega]
    refine o_step rfl rfl rfl rfl rfl (s_bs tok 4 rfl rfl rfl) (fun _ _ => ?_)
    refine o_step rfl rfl rfl rfl rfl (s_app tok (⟨1, g.nodes, 2, 1⟩ : Reg).cells rfl (fun E w hm => ownsRow_src (hm.row _ _ _ _ _ rfl)) (fun _ _ _ => by simpa using reg_ones [(⟨1, g.nodes, 2, 1⟩ : Reg)]) (by dsimp only; omega)) (fun _ _ => ?_)
    refine o_store tok rfl rfl rfl (by first | exact ⟨trivial, trivial⟩ | (repeat' first | exact trivial | exact rfl | apply And.intro); done | simp [onesP, oneP, lk, Value.oneCell']) ?_
    refine o_end [3, 8] rfl ?_
    refine x_then ?_
    refine c_region ?_
    refine o_yield rfl rfl rfl (y_val tok rfl) ?_
    refine o_yield rfl rfl rfl (y_val tok rfl) ?_
    refine o_call (.a (.v _)) rfl rfl fnok63 rfl rfl rfl (fun hg E w1 hm => by exact stretchEnd_c _ _ _) ?_
    refine o_store tok rfl rfl rfl (by first | exact ⟨trivial, trivial⟩ | (repeat' first | exact trivial | exact rfl | apply And.intro); done | simp [onesP, oneP, lk, Value.oneCell']) ?_
    refine o_end [] rfl ?_
    refine b_end tok rfl ?_
    rw [show IntKind.i64.wrap (1 + g.nodes) = 1 + g.nodes by rw [wrapI (by omega) (by omega)]; try omega]
    intro E1 w1 hm1 hok1
    refine inl_end (E := E) hm1 hok1 rfl rfl (by repeat (first | exact KeepsIn.zero | refine KeepsIn.succ rfl ?_)) rfl (by repeat (first | exact SubO.nil | refine SubO.cons rfl ?_)) rfl ?_
    clear hm1 hok1 w1 E1 E
    refine k_swap 3 10 rfl ?_
    refine weaken (l := [(1, .a (.ptr 0 0)), (2, .a (.ptr 1 0)), (4, .a (.fn 62 [(2, 0), (1, 0)]))]) (O' := [(0, .lit (g.cells.map .v) 23), (1, .lit [.row 3] 108), (2, .lit [.v (I (1 + g.nodes))] 3), (3, .row 103 4 2 (((regs g).take 2).flatMap Reg.cells))]) (nl' := 4) ?_ (by repeat (first | exact SubF.nil | refine SubF.cons rfl ?_)) (by repeat (first | exact SubO.nil | refine SubO.cons rfl ?_)) rfl (Vw.le.refl _)
    refine o_end [1, 2, 4] rfl ?_
    refine x_then ?_
    refine c_seq ?_
    refine c_region ?_
    refine o_yield rfl rfl rfl (y_val tok rfl) ?_
    refine o_yield rfl rfl rfl (y_val tok rfl) ?_
    refine o_yield rfl rfl rfl (y_val tok rfl) ?_
    refine o_inl rfl rfl rfl rfl rfl fnok62 Try.func62 rfl rfl rfl (fun E => ?_)
    refine c_seq ?_
    refine c_region ?_
    refine o_yield rfl rfl rfl (y_val tok rfl) ?_
    refine o_yield rfl rfl rfl (y_val tok rfl) ?_
    refine o_yield rfl rfl rfl (y_val tok rfl) ?_
    refine o_yield rfl rfl rfl (y_val tok rfl) ?_
    refine o_yield rfl rfl rfl (y_val tok rfl) ?_
    refine o_yield rfl rfl rfl (y_val tok rfl) ?_
    refine o_yield rfl rfl rfl (y_val tok rfl) ?_
    refine o_yield rfl rfl rfl (y_val tok rfl) ?_
    refine o_new tok rfl rfl rfl rfl ?_
    refine o_store tok rfl rfl rfl (by first | exact ⟨trivial, trivial⟩ | (repeat' first | exact trivial | exact rfl | apply And.intro); done | simp [onesP, oneP, lk, Value.oneCell']) ?_
    refine o_end [3, 4, 8] rfl ?_
    refine x_then ?_
    refine c_seq ?_
    refine c_region ?_
    refine o_yield rfl rfl rfl (y_val tok rfl) ?_
    refine o_yield rfl rfl rfl (y_val tok rfl) ?_
    rw [show IntKind.i64.wrap (g.nodes * 1) = g.nodes by rw [wrapI (by omega) (by omega)]; try omega]
    refine o_step rfl rfl rfl rfl rfl (s_bs tok 4 rfl rfl rfl) (fun _ _ => ?_)
    refine o_step rfl rfl rfl rfl rfl (s_app tok (⟨1 + g.nodes, g.nodes, 3, 1⟩ : Reg).cells rfl (fun E w hm => ownsRow_src (hm.row _ _ _ _ _ rfl)) (fun _ _ _ => by simpa using reg_ones [(⟨1 + g.nodes, g.nodes, 3, 1⟩ : Reg)]) (by dsimp only; omega)) (fun _ _ => ?_)
    refine o_store tok rfl rfl rfl (by first | exact ⟨trivial, trivial⟩ | (repeat' first | exact trivial | exact rfl | apply And.intro); done | simp [onesP, oneP, lk, Value.oneCell']) ?_
    refine o_end [3, 8] rfl ?_
    refine x_then ?_
    refine c_region ?_
    refine o_yield rfl rfl rfl (y_val tok rfl) ?_
    refine o_yield rfl rfl rfl (y_val tok rfl) ?_
    refine o_call (.a (.v _)) rfl rfl fnok63 rfl rfl rfl (fun hg E w1 hm => by exact stretchEnd_c _ _ _) ?_
    refine o_store tok rfl rfl rfl (by first | exact ⟨trivial, trivial⟩ | (repeat' first | exact trivial | exact rfl | apply And.intro); done | simp [onesP, oneP, lk, Value.oneCell']) ?_
    refine o_end [] rfl ?_
    refine b_end tok rfl ?_
    rw [show IntKind.i64.wrap ((1 + g.nodes) + g.nodes) = 1 + 2 * g.nodes by rw [wrapI (by omega) (by omega)]; try omega]
    intro E1 w1 hm1 hok1
    refine inl_end (E := E) hm1 hok1 rfl rfl (by repeat (first | exact KeepsIn.zero | refine KeepsIn.succ rfl ?_)) rfl (by repeat (first | exact SubO.nil | refine SubO.cons rfl ?_)) rfl ?_
    clear hm1 hok1 w1 E1 E
    refine k_swap 3 10 rfl ?_
    refine weaken (l := [(1, .a (.ptr 0 0)), (2, .a (.ptr 1 0)), (4, .a (.fn 62 [(2, 0), (1, 0)]))]) (O' := [(0, .lit (g.cells.map .v) 23), (1, .lit [.row 3] 108), (2, .lit [.v (I (1 + 2 * g.nodes))] 3), (3, .row 103 4 3 (((regs g).take 3).flatMap Reg.cells))]) (nl' := 4) ?_ (by repeat (first | exact SubF.nil | refine SubF.cons rfl ?_)) (by repeat (first | exact SubO.nil | refine SubO.cons rfl ?_)) rfl (Vw.le.refl _)
    refine o_end [1, 2, 4] rfl ?_
    refine x_then ?_
    refine c_seq ?_
    refine c_region ?_
    refine o_yield rfl rfl rfl (y_val tok rfl) ?_
    refine o_yield rfl rfl rfl (y_val tok rfl) ?_
    refine o_yield rfl rfl rfl (y_val tok rfl) ?_
    refine o_inl rfl rfl rfl rfl rfl fnok62 Try.func62 rfl rfl rfl (fun E => ?_)
    refine c_seq ?_
    refine c_region ?_
    refine o_yield rfl rfl rfl (y_val tok rfl) ?_
    refine o_yield rfl rfl rfl (y_val tok rfl) ?_
    refine o_yield rfl rfl rfl (y_val tok rfl) ?_
    refine o_yield rfl rfl rfl (y_val tok rfl) ?_
    refine o_yield rfl rfl rfl (y_val tok rfl) ?_
    refine o_yield rfl rfl rfl (y_val tok rfl) ?_
    refine o_yield rfl rfl rfl (y_val tok rfl) ?_
    refine o_yield rfl rfl rfl (y_val tok rfl) ?_
    refine o_new tok rfl rfl rfl rfl ?_
    refine o_store tok rfl rfl rfl (by first | exact ⟨trivial, trivial⟩ | (repeat' first | exact trivial | exact rfl | apply And.intro); done | simp [onesP, oneP, lk, Value.oneCell']) ?_
    refine o_end [3, 4, 8] rfl ?_
    refine x_then ?_
    refine c_seq ?_
    refine c_region ?_
    refine o_yield rfl rfl rfl (y_val tok rfl) ?_
    refine o_yield rfl rfl rfl (y_val tok rfl) ?_
    rw [show IntKind.i64.wrap (g.log * 1) = g.log by rw [wrapI (by omega) (by omega)]; try omega]
    refine o_step rfl rfl rfl rfl rfl (s_bs tok 4 rfl rfl rfl) (fun _ _ => ?_)
    refine o_step rfl rfl rfl rfl rfl (s_app tok (⟨1 + 2 * g.nodes, g.log, 4, 1⟩ : Reg).cells rfl (fun E w hm => ownsRow_src (hm.row _ _ _ _ _ rfl)) (fun _ _ _ => by simpa using reg_ones [(⟨1 + 2 * g.nodes, g.log, 4, 1⟩ : Reg)]) (by dsimp only; omega)) (fun _ _ => ?_)
    refine o_store tok rfl rfl rfl (by first | exact ⟨trivial, trivial⟩ | (repeat' first | exact trivial | exact rfl | apply And.intro); done | simp [onesP, oneP, lk, Value.oneCell']) ?_
    refine o_end [3, 8] rfl ?_
    refine x_then ?_
    refine c_region ?_
    refine o_yield rfl rfl rfl (y_val tok rfl) ?_
    refine o_yield rfl rfl rfl (y_val tok rfl) ?_
    refine o_call (.a (.v _)) rfl rfl fnok63 rfl rfl rfl (fun hg E w1 hm => by exact stretchEnd_c _ _ _) ?_
    refine o_store tok rfl rfl rfl (by first | exact ⟨trivial, trivial⟩ | (repeat' first | exact trivial | exact rfl | apply And.intro); done | simp [onesP, oneP, lk, Value.oneCell']) ?_
    refine o_end [] rfl ?_
    refine b_end tok rfl ?_
    rw [show IntKind.i64.wrap ((1 + 2 * g.nodes) + g.log) = 1 + 2 * g.nodes + g.log by rw [wrapI (by omega) (by omega)]; try omega]
    intro E1 w1 hm1 hok1
    refine inl_end (E := E) hm1 hok1 rfl rfl (by repeat (first | exact KeepsIn.zero | refine KeepsIn.succ rfl ?_)) rfl (by repeat (first | exact SubO.nil | refine SubO.cons rfl ?_)) rfl ?_
    clear hm1 hok1 w1 E1 E
    refine k_swap 3 10 rfl ?_
    refine weaken (l := [(1, .a (.ptr 0 0)), (2, .a (.ptr 1 0)), (4, .a (.fn 62 [(2, 0), (1, 0)]))]) (O' := [(0, .lit (g.cells.map .v) 23), (1, .lit [.row 3] 108), (2, .lit [.v (I (1 + 2 * g.nodes + g.log))] 3), (3, .row 103 4 4 (((regs g).take 4).flatMap Reg.cells))]) (nl' := 4) ?_ (by repeat (first | exact SubF.nil | refine SubF.cons rfl ?_)) (by repeat (first | exact SubO.nil | refine SubO.cons rfl ?_)) rfl (Vw.le.refl _)
    refine o_end [1, 2, 4] rfl ?_
    refine x_then ?_
    refine c_seq ?_
    refine c_region ?_
    refine o_yield rfl rfl rfl (y_val tok rfl) ?_
    refine o_yield rfl rfl rfl (y_val tok rfl) ?_
    refine o_yield rfl rfl rfl (y_val tok rfl) ?_
    refine o_yield rfl rfl rfl (y_val tok rfl) ?_
    refine o_yield rfl rfl rfl (y_val tok rfl) ?_
    refine o_yield rfl rfl rfl (y_val tok rfl) ?_
    refine o_inl rfl rfl rfl rfl rfl fnok62 Try.func62 rfl rfl rfl (fun E => ?_)
    refine c_seq ?_
    refine c_region ?_
    refine o_yield rfl rfl rfl (y_val tok rfl) ?_
    refine o_yield rfl rfl rfl (y_val tok rfl) ?_
    refine o_yield rfl rfl rfl (y_val tok rfl) ?_
    refine o_yield rfl rfl rfl (y_val tok rfl) ?_
    refine o_yield rfl rfl rfl (y_val tok rfl) ?_
    refine o_yield rfl rfl rfl (y_val tok rfl) ?_
    refine o_yield rfl rfl rfl (y_val tok rfl) ?_
    refine o_yield rfl rfl rfl (y_val tok rfl) ?_
    refine o_new tok rfl rfl rfl rfl ?_
    refine o_store tok rfl rfl rfl (by first | exact ⟨trivial, trivial⟩ | (repeat' first | exact trivial | exact rfl | apply And.intro); done | simp [onesP, oneP, lk, Value.oneCell']) ?_
    refine o_end [3, 4, 8] rfl ?_
    refine x_then ?_
    refine c_seq ?_
    refine c_region ?_
    refine o_yield rfl rfl rfl (y_val tok rfl) ?_
    refine o_yield rfl rfl rfl (y_val tok rfl) ?_
    rw [wrapI (n := 1 + g.journal) (by omega) (by omega)]
    rw [show IntKind.i64.wrap (g.slots * (1 + g.journal)) = g.slots * (1 + g.journal) by rw [wrapI (by omega) (by omega)]; try omega]
    refine o_step rfl rfl rfl rfl rfl (s_bs tok 4 rfl rfl rfl) (fun _ _ => ?_)
    refine o_step rfl rfl rfl rfl rfl (s_app tok (⟨1 + 2 * g.nodes + g.log, g.slots * (1 + g.journal), 6, 1 + g.journal⟩ : Reg).cells rfl (fun E w hm => ownsRow_src (hm.row _ _ _ _ _ rfl)) (fun _ _ _ => by simpa using reg_ones [(⟨1 + 2 * g.nodes + g.log, g.slots * (1 + g.journal), 6, 1 + g.journal⟩ : Reg)]) (by dsimp only; omega)) (fun _ _ => ?_)
    refine o_store tok rfl rfl rfl (by first | exact ⟨trivial, trivial⟩ | (repeat' first | exact trivial | exact rfl | apply And.intro); done | simp [onesP, oneP, lk, Value.oneCell']) ?_
    refine o_end [3, 8] rfl ?_
    refine x_then ?_
    refine c_region ?_
    refine o_yield rfl rfl rfl (y_val tok rfl) ?_
    refine o_yield rfl rfl rfl (y_val tok rfl) ?_
    refine o_call (.a (.v _)) rfl rfl fnok63 rfl rfl rfl (fun hg E w1 hm => by exact stretchEnd_c _ _ _) ?_
    refine o_store tok rfl rfl rfl (by first | exact ⟨trivial, trivial⟩ | (repeat' first | exact trivial | exact rfl | apply And.intro); done | simp [onesP, oneP, lk, Value.oneCell']) ?_
    refine o_end [] rfl ?_
    refine b_end tok rfl ?_
    rw [show IntKind.i64.wrap ((1 + 2 * g.nodes + g.log) + g.slots * (1 + g.journal)) = dataAt g by rw [wrapI (by omega) (by omega)]; try omega]
    intro E1 w1 hm1 hok1
    refine inl_end (E := E) hm1 hok1 rfl rfl (by repeat (first | exact KeepsIn.zero | refine KeepsIn.succ rfl ?_)) rfl (by repeat (first | exact SubO.nil | refine SubO.cons rfl ?_)) rfl ?_
    clear hm1 hok1 w1 E1 E
    refine k_swap 3 10 rfl ?_
    refine weaken (l := [(1, .a (.ptr 0 0)), (2, .a (.ptr 1 0)), (4, .a (.fn 62 [(2, 0), (1, 0)]))]) (O' := [(0, .lit (g.cells.map .v) 23), (1, .lit [.row 3] 108), (2, .lit [.v (I (dataAt g))] 3), (3, .row 103 4 5 (((regs g).take 5).flatMap Reg.cells))]) (nl' := 4) ?_ (by repeat (first | exact SubF.nil | refine SubF.cons rfl ?_)) (by repeat (first | exact SubO.nil | refine SubO.cons rfl ?_)) rfl (Vw.le.refl _)
    refine o_end [1, 2, 4] rfl ?_
    refine x_then ?_
    refine c_seq ?_
    refine c_region ?_
    refine o_yield rfl rfl rfl (y_val tok rfl) ?_
    refine o_yield rfl rfl rfl (y_val tok rfl) ?_
    refine o_yield rfl rfl rfl (y_val tok rfl) ?_
    refine o_yield rfl rfl rfl (y_val tok rfl) ?_
    refine o_yield rfl rfl rfl (y_val tok rfl) ?_
    refine o_inl rfl rfl rfl rfl rfl fnok62 Try.func62 rfl rfl rfl (fun E => ?_)
    refine c_seq ?_
    refine c_region ?_
    refine o_yield rfl rfl rfl (y_val tok rfl) ?_
    refine o_yield rfl rfl rfl (y_val tok rfl) ?_
    refine o_yield rfl rfl rfl (y_val tok rfl) ?_
    refine o_yield rfl rfl rfl (y_val tok rfl) ?_
    refine o_yield rfl rfl rfl (y_val tok rfl) ?_
    refine o_yield rfl rfl rfl (y_val tok rfl) ?_
    refine o_yield rfl rfl rfl (y_val tok rfl) ?_
    refine o_yield rfl rfl rfl (y_val tok rfl) ?_
    refine o_new tok rfl rfl rfl rfl ?_
    refine o_store tok rfl rfl rfl (by first | exact ⟨trivial, trivial⟩ | (repeat' first | exact trivial | exact rfl | apply And.intro); done | simp [onesP, oneP, lk, Value.oneCell']) ?_
    refine o_end [3, 4, 8] rfl ?_
    refine x_then ?_
    refine c_seq ?_
    refine c_region ?_
    refine o_yield rfl rfl rfl (y_val tok rfl) ?_
    refine o_yield rfl rfl rfl (y_val tok rfl) ?_
    rw [show IntKind.i64.wrap (g.blocks * g.per) = g.blocks * g.per by rw [wrapI (by omega) (by omega)]; try omega]
    refine o_step rfl rfl rfl rfl rfl (s_bs tok 4 rfl rfl rfl) (fun _ _ => ?_)
    refine o_step rfl rfl rfl rfl rfl (s_app tok (⟨dataAt g, g.blocks * g.per, 7, g.per⟩ : Reg).cells rfl (fun E w hm => ownsRow_src (hm.row _ _ _ _ _ rfl)) (fun _ _ _ => by simpa using reg_ones [(⟨dataAt g, g.blocks * g.per, 7, g.per⟩ : Reg)]) (by dsimp only; omega)) (fun _ _ => ?_)
    refine o_store tok rfl rfl rfl (by first | exact ⟨trivial, trivial⟩ | (repeat' first | exact trivial | exact rfl | apply And.intro); done | simp [onesP, oneP, lk, Value.oneCell']) ?_
    refine o_end [3, 8] rfl ?_
    refine x_then ?_
    refine c_region ?_
    refine o_yield rfl rfl rfl (y_val tok rfl) ?_
    refine o_yield rfl rfl rfl (y_val tok rfl) ?_
    refine o_call (.a (.v _)) rfl rfl fnok63 rfl rfl rfl (fun hg E w1 hm => by exact stretchEnd_c _ _ _) ?_
    refine o_store tok rfl rfl rfl (by first | exact ⟨trivial, trivial⟩ | (repeat' first | exact trivial | exact rfl | apply And.intro); done | simp [onesP, oneP, lk, Value.oneCell']) ?_
    refine o_end [] rfl ?_
    refine b_end tok rfl ?_
    rw [show IntKind.i64.wrap (dataAt g + g.blocks * g.per) = dataAt g + g.blocks * g.per by rw [wrapI (by omega) (by omega)]; try omega]
    intro E1 w1 hm1 hok1
    refine inl_end (E := E) hm1 hok1 rfl rfl (by repeat (first | exact KeepsIn.zero | refine KeepsIn.succ rfl ?_)) rfl (by repeat (first | exact SubO.nil | refine SubO.cons rfl ?_)) rfl ?_
    clear hm1 hok1 w1 E1 E
    refine o_end [2] rfl ?_
    refine x_then ?_
    refine c_seq ?_
    refine c_region ?_
    refine o_yield rfl rfl rfl (y_val tok rfl) ?_
    refine o_store tok rfl rfl rfl (by first | exact ⟨trivial, trivial⟩ | (repeat' first | exact trivial | exact rfl | apply And.intro); done | simp [onesP, oneP, lk, Value.oneCell']) ?_
    refine o_end [2] rfl ?_
    refine x_then ?_
    refine c_ret ?_
    refine b_ret tok rfl ?_
    intro E w' hm _
    refine ⟨.inl ⟨hgeo, E.κ 10, rfl, ?_⟩, hm.below (Vw.le.refl _)⟩
    have hrow := hm.rowFresh (Vw.le.refl _) (l := 10) rfl
    simpa [regs] using hrow

def regL (g : Geo) : List Reg := if geoB g = true then regs g else []

/-- The regions as ones that nobody writes. -/
theorem regions_cV (V : Vw) (g : Geo) (ok : g.Ok) (w : World) (hV : V.le (vw w)) :
    Calls Try.prog 59 #[g.val] w fun e w' => ∃ x V', e = .returned x ∧ Below w.heap.size w w' ∧ Vext w.heap.size V V' w' ∧ SlOf V' Reg.cells 4 x (regL g) := by
  refine (regions_c g ok w).mono ?_
  rintro e w' ⟨⟨h, v, rfl, hown⟩ | ⟨h, rfl⟩, hb⟩
  · obtain ⟨V', hx, hsl⟩ := ownsRow_vext hV hb hown
    exact ⟨_, V', rfl, hb, hx, by rw [regL, if_pos h]; exact ⟨hsl, fun _ => rfl⟩⟩
  · exact ⟨_, V, rfl, hb, Vext.same hV hb, by rw [regL, if_neg (by simp [h])]; exact slNil V Reg.cells 4 0 (fun _ => rfl)⟩

def findR (k : Int) : List Reg → Reg
  | [] => ⟨0, 0, 0, 1⟩
  | r :: t => if r.kind = k then r else findR k t

theorem find_c (g : Geo) (ok : g.Ok) (k : Int) (w : World) : Calls Try.prog 52 #[g.val, I8 k] w fun e w' => e = .returned (findR k (regL g)).val ∧ Below w.heap.size w w' := by
  refine enter (E := E0) (O := []) (nl := 0) (V := vw w) [.a (.v g.val), .a (.v (I8 k))] Try.func52 rfl rfl (mem0 E0 0 w) rfl rfl ?_
  refine c_seq ?_
  refine c_region ?_
  refine o_new tok rfl rfl rfl rfl ?_
  refine o_new tok rfl rfl rfl rfl ?_
  refine o_end [1, 2, 4] rfl ?_
  refine x_then ?_
  refine c_seq ?_
  refine c_seq ?_
  refine c_region ?_
  refine o_yield rfl rfl rfl (y_val tok rfl) ?_
  refine o_callV (fun x V' => SlOf V' Reg.cells 4 x (regL g)) rfl rfl fnok59 rfl rfl (fun hg E w1 hm => by exact regions_cV (vw w) g ok _ hm.leV) ?_
  rintro x V1 hle1 hx
  have hs := hx rfl
  clear hx
  refine o_yield rfl rfl rfl (y_len tok rfl (fun hg => hs.sl)) ?_
  refine o_yield rfl rfl rfl (y_val tok rfl) ?_
  refine o_end [1, 4, 8, 9, 10] rfl ?_
  refine x_then ?_
  refine c_block ?_
  have hl6 : (regL g).length ≤ 6 := by unfold regL; split <;> simp [regs]
  refine c_loopV [1, 4, 8, 9] [] rfl rfl (σ := Nat) (fun i => [(10, .a (.v (I i)))]) (fun i => []) (fun i => V1) (fun i => i ≤ (regL g).length ∧ findR k (regL g) = findR k ((regL g).drop i)) (fun i => (regL g).length - i) (0) (⟨by omega, rfl⟩) (by repeat (first | exact SubF.nil | refine SubF.cons rfl ?_)) (by repeat (first | exact SubO.nil | refine SubO.cons rfl ?_)) rfl (Vw.le.refl _) ?_
  rintro i ⟨hi, heq⟩
  refine c_seq ?_
  refine c_region ?_
  refine o_yield rfl rfl rfl (y_val tok rfl) ?_
  refine o_end [1, 4, 8, 9, 10, 11] rfl ?_
  refine x_then ?_
  refine c_seq ?_
  refine c_cond rfl (fun h => ?_) (fun h => ?_)
  ·
    simp only [Bool.and_eq_true, Bool.or_eq_true, Bool.not_eq_true', Bool.or_eq_false_iff, Bool.and_eq_false_iff, decide_eq_true_eq, decide_eq_false_iff_not, beq_iff_eq, bne_iff_ne, Bool.not_eq_false', beq_eq_false_iff_ne, bne_eq_false_iff_eq, ne_eq, Decidable.not_not, Int.not_lt, Int.not_le] at h
    refine c_skip ?_
    refine x_then ?_
    refine c_seq ?_
    refine c_block ?_
    refine c_seq ?_
    refine c_region ?_
    obtain ⟨r, h_r⟩ := hs.at (k := i) (by omega)
    rw [drop_at h_r, findR] at heq
    have hlt_r := lt_of_at h_r
    refine o_yield rfl rfl rfl (y_idx tok rfl (fun hg => hs.sl) (fun hg => ⟨by omega, by omega⟩)) ?_
    refine o_yield rfl rfl rfl (y_lel tok (i) 0 (r) rfl (fun hg => hs) (fun hg => h_r) rfl rfl) ?_
    refine o_new tok rfl rfl rfl rfl ?_
    refine o_store tok rfl rfl rfl (by first | exact ⟨trivial, trivial⟩ | (repeat' first | exact trivial | exact rfl | apply And.intro); done | simp [onesP, oneP, lk, Value.oneCell']) ?_
    refine o_end [1, 4, 6, 8, 9, 10] rfl ?_
    refine x_then ?_
    refine c_seq ?_
    refine c_region ?_
    refine o_yield rfl rfl rfl (y_val tok rfl) ?_
    refine o_yield rfl rfl rfl (y_val tok rfl) ?_
    refine o_yield rfl rfl rfl (y_val tok rfl) ?_
    refine o_yield rfl rfl rfl (y_val tok rfl) ?_
    refine o_end [1, 4, 6, 8, 9, 10, 17] rfl ?_
    refine x_then ?_
    refine c_cond rfl (fun h => ?_) (fun h => ?_)
    ·
      simp only [Bool.and_eq_true, Bool.or_eq_true, Bool.not_eq_true', Bool.or_eq_false_iff, Bool.and_eq_false_iff, decide_eq_true_eq, decide_eq_false_iff_not, beq_iff_eq, bne_iff_ne, Bool.not_eq_false', beq_eq_false_iff_ne, bne_eq_false_iff_eq, ne_eq, Decidable.not_not, Int.not_lt, Int.not_le] at h
      refine c_seq ?_
      refine c_region ?_
      refine o_yield rfl rfl rfl (y_val tok rfl) ?_
      refine o_store tok rfl rfl rfl (by first | exact ⟨trivial, trivial⟩ | (repeat' first | exact trivial | exact rfl | apply And.intro); done | simp [onesP, oneP, lk, Value.oneCell']) ?_
      refine o_end [4] rfl ?_
      refine x_then ?_
      refine c_ret ?_
      refine x_block_ret ?_
      refine x_then_ret ?_
      refine x_then_ret ?_
      refine x_block_ret ?_
      refine x_then_ret ?_
      refine b_ret tok rfl ?_
      rw [if_pos h] at heq
      intro E w' hm _
      refine ⟨?_, hm.below (hle1)⟩
      rw [heq]; rfl
    ·
      simp only [Bool.and_eq_true, Bool.or_eq_true, Bool.not_eq_true', Bool.or_eq_false_iff, Bool.and_eq_false_iff, decide_eq_true_eq, decide_eq_false_iff_not, beq_iff_eq, bne_iff_ne, Bool.not_eq_false', beq_eq_false_iff_ne, bne_eq_false_iff_eq, ne_eq, Decidable.not_not, Int.not_lt, Int.not_le] at h
      refine c_skip ?_
      refine x_block ?_
      refine x_then ?_
      refine c_region ?_
      refine o_yield rfl rfl rfl (y_val tok rfl) ?_
      refine o_yield rfl rfl rfl (y_val tok rfl) ?_
      refine o_end [1, 4, 8, 9, 10] rfl ?_
      refine x_then ?_
      rw [if_neg h] at heq
      rw [wrapI (n := (i : Int) + 1) (by omega) (by omega)]
      refine x_round (i + 1) (⟨by omega, heq⟩) (by first | omega | (dsimp only; omega)) (by repeat (first | exact SubF.nil | refine SubF.cons rfl ?_)) (by repeat (first | exact SubO.nil | refine SubO.cons rfl ?_)) rfl (Vw.le.refl _)
  ·
    simp only [Bool.and_eq_true, Bool.or_eq_true, Bool.not_eq_true', Bool.or_eq_false_iff, Bool.and_eq_false_iff, decide_eq_true_eq, decide_eq_false_iff_not, beq_iff_eq, bne_iff_ne, Bool.not_eq_false', beq_eq_false_iff_ne, bne_eq_false_iff_eq, ne_eq, Decidable.not_not, Int.not_lt, Int.not_le] at h
    refine c_exit ?_
    refine x_then_exit ?_
    refine x_then_exit ?_
    refine x_block_hit ?_
    refine x_then ?_
    refine c_seq ?_
    refine c_region ?_
    refine o_yield rfl rfl rfl (y_val tok rfl) ?_
    refine o_store tok rfl rfl rfl (by first | exact ⟨trivial, trivial⟩ | (repeat' first | exact trivial | exact rfl | apply And.intro); done | simp [onesP, oneP, lk, Value.oneCell']) ?_
    refine o_end [4] rfl ?_
    refine x_then ?_
    refine c_ret ?_
    refine b_ret tok rfl ?_
    have hkL : i = (regL g).length := by omega
    subst hkL
    rw [List.drop_length, findR] at heq
    intro E w' hm _
    refine ⟨?_, hm.below (hle1)⟩
    rw [heq]; rfl

theorem of_c' (g : Geo) (ok : g.Ok) (kd i k : Int) (r : Reg) (hr : findR kd (regL g) = r) (m : Int) (hm0 : 0 ≤ m) (hm : r.many = m * r.per) (hp : 1 ≤ r.per) (hb : m * r.per ≤ 4096) (hf : 0 ≤ r.first) (hf2 : r.first ≤ 4096) (v : Int) (hv : v = if i < 0 ∨ m ≤ i ∨ k < 0 ∨ r.per ≤ k then -1 else r.first + i * r.per + k) (w : World) :
    Calls Try.prog 42 #[g.val, I8 kd, I i, I k] w fun e w' => e = .returned (I v) ∧ Below w.heap.size w w' := by
  have hq : r.many.tdiv r.per = m := by rw [hm]; exact Int.mul_tdiv_cancel m (by omega)
  have hpb : r.per ≤ m * r.per ∨ m = 0 := by
    by_cases h : m = 0
    · exact .inr h
    · left
      have := Int.mul_le_mul_of_nonneg_right (show 1 ≤ m by omega) (show 0 ≤ r.per by omega)
      omega
  have hmb : m ≤ m * r.per := by
    have := Int.mul_le_mul_of_nonneg_left hp hm0
    omega
  refine enter (E := E0) (O := []) (nl := 0) (V := vw w) [.a (.v g.val), .a (.v (I8 kd)), .a (.v (I i)), .a (.v (I k))] Try.func42 rfl rfl (mem0 E0 0 w) rfl rfl ?_
  refine c_seq ?_
  refine c_region ?_
  refine o_new tok rfl rfl rfl rfl ?_
  refine o_yield rfl rfl rfl (y_val tok rfl) ?_
  refine o_end [1, 2, 3, 4] rfl ?_
  refine x_then ?_
  refine c_seq ?_
  refine c_region ?_
  refine o_yield rfl rfl rfl (y_val tok rfl) ?_
  refine o_yield rfl rfl rfl (y_val tok rfl) ?_
  refine o_call (.a (.v _)) rfl rfl fnok52 rfl rfl rfl (fun hg E w1 hm => by exact find_c g ok kd _) ?_
  refine o_new tok rfl rfl rfl rfl ?_
  refine o_store tok rfl rfl rfl (by first | exact ⟨trivial, trivial⟩ | (repeat' first | exact trivial | exact rfl | apply And.intro); done | simp [onesP, oneP, lk, Value.oneCell']) ?_
  refine o_end [2, 3, 9] rfl ?_
  refine x_then ?_
  refine c_seq ?_
  refine c_seq ?_
  refine c_region ?_
  refine o_yield rfl rfl rfl (y_val tok rfl) ?_
  refine o_yield rfl rfl rfl (y_val tok rfl) ?_
  refine o_yield rfl rfl rfl (y_val tok rfl) ?_
  refine o_yield rfl rfl rfl (y_val tok rfl) ?_
  refine o_yield rfl rfl rfl (y_val tok rfl) ?_
  refine o_yield rfl rfl rfl (y_val tok rfl) ?_
  refine o_yield rfl rfl rfl (y_val tok rfl) ?_
  refine o_yield rfl rfl rfl (y_val tok rfl) ?_
  refine o_yield rfl rfl rfl (y_val tok rfl) ?_
  rw [hr]
  have hqw : IntKind.i64.wrap (r.many.tdiv r.per) = m := by rw [hq, wrapI (by omega) (by omega)]
  refine o_yield rfl rfl rfl (y_quo rfl (fun hg => by omega)) ?_
  refine o_yield rfl rfl rfl (y_val tok rfl) ?_
  refine o_yield rfl rfl rfl (y_val tok rfl) ?_
  refine o_yield rfl rfl rfl (y_val tok rfl) ?_
  refine o_yield rfl rfl rfl (y_val tok rfl) ?_
  refine o_yield rfl rfl rfl (y_val tok rfl) ?_
  refine o_yield rfl rfl rfl (y_val tok rfl) ?_
  refine o_yield rfl rfl rfl (y_val tok rfl) ?_
  refine o_yield rfl rfl rfl (y_val tok rfl) ?_
  refine o_yield rfl rfl rfl (y_val tok rfl) ?_
  refine o_yield rfl rfl rfl (y_val tok rfl) ?_
  refine o_yield rfl rfl rfl (y_val tok rfl) ?_
  refine o_yield rfl rfl rfl (y_val tok rfl) ?_
  refine o_end [2, 3, 9, 34] rfl ?_
  refine x_then ?_
  refine c_cond rfl (fun h => ?_) (fun h => ?_)
  ·
    simp only [Bool.and_eq_true, Bool.or_eq_true, Bool.not_eq_true', Bool.or_eq_false_iff, Bool.and_eq_false_iff, decide_eq_true_eq, decide_eq_false_iff_not, beq_iff_eq, bne_iff_ne, Bool.not_eq_false', beq_eq_false_iff_ne, bne_eq_false_iff_eq, ne_eq, Decidable.not_not, Int.not_lt, Int.not_le] at h
    refine c_seq ?_
    refine c_region ?_
    refine o_yield rfl rfl rfl (y_val tok rfl) ?_
    refine o_end [8] rfl ?_
    refine x_then ?_
    refine c_ret ?_
    refine x_then_ret ?_
    refine b_ret tok rfl ?_
    intro E w' hm _
    refine ⟨?_, hm.below (Vw.le.refl _)⟩
    rw [hv, if_pos (by omega)]; rfl
  ·
    simp only [Bool.and_eq_true, Bool.or_eq_true, Bool.not_eq_true', Bool.or_eq_false_iff, Bool.and_eq_false_iff, decide_eq_true_eq, decide_eq_false_iff_not, beq_iff_eq, bne_iff_ne, Bool.not_eq_false', beq_eq_false_iff_ne, bne_eq_false_iff_eq, ne_eq, Decidable.not_not, Int.not_lt, Int.not_le] at h
    refine c_skip ?_
    refine x_then ?_
    refine c_seq ?_
    refine c_region ?_
    refine o_yield rfl rfl rfl (y_val tok rfl) ?_
    refine o_yield rfl rfl rfl (y_val tok rfl) ?_
    refine o_yield rfl rfl rfl (y_val tok rfl) ?_
    refine o_yield rfl rfl rfl (y_val tok rfl) ?_
    refine o_yield rfl rfl rfl (y_val tok rfl) ?_
    refine o_yield rfl rfl rfl (y_val tok rfl) ?_
    refine o_yield rfl rfl rfl (y_val tok rfl) ?_
    refine o_yield rfl rfl rfl (y_val tok rfl) ?_
    have hik := prod_bound (a := i) (b := r.per) (A := m) (B := r.per) (by omega) (by omega) (by omega) (by omega)
    have h2 : i * r.per + r.per ≤ m * r.per := by
      have := Int.mul_le_mul_of_nonneg_right (show i + 1 ≤ m by omega) (show 0 ≤ r.per by omega)
      rw [Int.add_mul, Int.one_mul] at this
      exact this
    rw [wrapI (n := i * r.per) (by omega) (by omega), wrapI (n := i * r.per + k) (by omega) (by omega)]
    refine o_call (.a (.v _)) rfl rfl fnok53 rfl rfl rfl (fun hg E w1 hm => by exact stretchAt_c r.first r.many _ _) ?_
    refine o_yield rfl rfl rfl (y_val tok rfl) ?_
    refine o_end [8] rfl ?_
    refine x_then ?_
    refine c_ret ?_
    refine b_ret tok rfl ?_
    intro E w' hm _
    refine ⟨?_, hm.below (Vw.le.refl _)⟩
    rw [hv, if_neg (by omega), if_neg (by omega), wrapI (by omega) (by omega), Int.add_assoc]; rfl
end Go.Proofs.Ytmjdihpdlfidmaa

/- Where everything stands: the program's answer and the document's. -/
set_option linter.unusedVariables false
set_option linter.unusedSimpArgs false
set_option maxRecDepth 100000
namespace Go.Proofs.Ytmjdihpdlfidmaa
open Go Go.Eng Go.RowKit

def dataV (g : Geo) (b k : Int) : Int := if geoB g = true ∧ 0 ≤ b ∧ b < g.blocks ∧ 0 ≤ k ∧ k < g.per then dataAt g + b * g.per + k else -1
def headV (g : Geo) (s : Int) : Int := if geoB g = true ∧ 0 ≤ s ∧ s < g.slots then 1 + 2 * g.nodes + g.log + s * (1 + g.journal) else -1
def jourV (g : Geo) (s lsn : Int) : Int := if headV g s < 0 ∨ lsn < 0 then -1 else headV g s + 1 + lsn % g.journal
def totV (g : Geo) : Int := if geoB g = true then dataAt g + g.blocks * g.per else 0

theorem find_data (g : Geo) : findR 7 (regL g) = if geoB g = true then ⟨dataAt g, g.blocks * g.per, 7, g.per⟩ else ⟨0, 0, 0, 1⟩ := by
  unfold regL
  split <;> simp [regs, findR]
theorem geo_sizes {g : Geo} (h : geoB g = true) : 0 ≤ g.slots * (1 + g.journal) ∧ g.slots * (1 + g.journal) ≤ 1040 ∧ 0 ≤ g.blocks * g.per ∧ g.blocks * g.per ≤ 512 ∧ 1 ≤ dataAt g ∧ dataAt g ≤ 1585 := by
  have hf := geo_facts h
  have hs := prod_bound (a := g.slots) (b := 1 + g.journal) (A := 16) (B := 65) (by omega) (by omega) (by omega) (by omega)
  have hb := prod_bound (a := g.blocks) (b := g.per) (A := 64) (B := 8) (by omega) (by omega) (by omega) (by omega)
  unfold dataAt
  omega

theorem data_c (g : Geo) (ok : g.Ok) (b k : Int) (w : World) : Calls Try.prog 34 #[g.val, I b, I k] w fun e w' => e = .returned (I (dataV g b k)) ∧ Below w.heap.size w w' := by
  refine enter (E := E0) (O := []) (nl := 0) (V := vw w) [.a (.v g.val), .a (.v (I b)), .a (.v (I k))] Try.func34 rfl rfl (mem0 E0 0 w) rfl rfl ?_
  refine c_seq ?_
  refine c_region ?_
  refine o_new tok rfl rfl rfl rfl ?_
  refine o_yield rfl rfl rfl (y_val tok rfl) ?_
  refine o_end [1, 2, 3] rfl ?_
  refine x_then ?_
  refine c_seq ?_
  refine c_region ?_
  refine o_yield rfl rfl rfl (y_val tok rfl) ?_
  refine o_yield rfl rfl rfl (y_val tok rfl) ?_
  refine o_yield rfl rfl rfl (y_val tok rfl) ?_
  cases hgg : geoB g with
  | false =>
    have hr := find_data g
    rw [if_neg (by simp [hgg])] at hr
    refine o_call (.a (.v _)) rfl rfl fnok42 rfl rfl rfl (fun hg E w1 hm => by exact of_c' g ok 7 b k _ hr 0 (by omega) (by simp) (by simp) (by simp) (by simp) (by simp) (dataV g b k) (by rw [dataV, if_neg (by simp [hgg]), if_pos (by dsimp only; omega)]) _) ?_
    refine o_yield rfl rfl rfl (y_val tok rfl) ?_
    refine o_end [6] rfl ?_
    refine x_then ?_
    refine c_ret ?_
    refine b_ret tok rfl ?_
    intro E w' hm _
    refine ⟨?_, hm.below (Vw.le.refl _)⟩
    rfl
  | true =>
    have hr := find_data g
    rw [if_pos hgg] at hr
    have hf := geo_facts hgg
    have hz := geo_sizes hgg
    have hv : dataV g b k = if b < 0 ∨ g.blocks ≤ b ∨ k < 0 ∨ g.per ≤ k then -1 else dataAt g + b * g.per + k := by
      unfold dataV
      by_cases h : 0 ≤ b ∧ b < g.blocks ∧ 0 ≤ k ∧ k < g.per
      · rw [if_pos ⟨hgg, h⟩, if_neg (by omega)]
      · rw [if_neg (by rintro ⟨_, hc⟩; exact h hc), if_pos (by omega)]
    refine o_call (.a (.v _)) rfl rfl fnok42 rfl rfl rfl (fun hg E w1 hm => by exact of_c' g ok 7 b k _ hr g.blocks (by omega) rfl (by dsimp only; omega) (by dsimp only; omega) (by dsimp only; omega) (by dsimp only; omega) _ hv _) ?_
    refine o_yield rfl rfl rfl (y_val tok rfl) ?_
    refine o_end [6] rfl ?_
    refine x_then ?_
    refine c_ret ?_
    refine b_ret tok rfl ?_
    intro E w' hm _
    refine ⟨?_, hm.below (Vw.le.refl _)⟩
    rfl

/-! The document's. -/

end Go.Proofs.Ytmjdihpdlfidmaa

/- A text's pieces: the program's. -/
set_option linter.unusedVariables false
set_option linter.unusedSimpArgs false
set_option maxRecDepth 100000
namespace Go.Proofs.Ytmjdihpdlfidmaa
open Go Go.Eng Go.RowKit

def pieceAt (text : ByteArray) (k : Nat) : ByteArray := headOf (restAt text k)
def pieceL (per : Nat) (text : ByteArray) : List ByteArray := (List.range per).map (pieceAt text)

def PcPost (g : Geo) (text : ByteArray) (w : World) (e : Ending) (w' : World) : Prop :=
  ((geoB g = true ∧ (text.size : Int) ≤ g.per * 256 ∧ ∃ v, e = .returned (.tuple #[v, I 0]) ∧ w'.ownsRow w.heap.size 9 1 v (pieceL g.per.toNat text).length ((pieceL g.per.toNat text).flatMap encS)) ∨
    (geoB g = false ∧ e = .returned (.tuple #[.slice none 0 0, I 2])) ∨ (geoB g = true ∧ g.per * 256 < (text.size : Int) ∧ e = .returned (.tuple #[.slice none 0 0, I 60]))) ∧ Below w.heap.size w w'

end Go.Proofs.Ytmjdihpdlfidmaa

/- Whether a transaction fits, which blocks may be. -/
set_option linter.unusedVariables false
set_option linter.unusedSimpArgs false
set_option maxRecDepth 100000
namespace Go.Proofs.Ytmjdihpdlfidmaa
open Go Go.Eng Go.RowKit

def fitsV (g : Geo) (used n : Int) : Int :=
  if geoB g = false ∨ used < 0 ∨ g.journal < used ∨ n < 0 then 2 else if g.journal < manyOf g n then 180 else if g.journal < manyOf g n + used then 190 else 0

/-- Blocks behind a number. -/
def mayF (g : Geo) : Int → List Block → Bool
  | _, [] => true
  | last, x :: r => decide (last < x.n ∧ x.n < g.blocks ∧ (x.text.size : Int) ≤ g.per * 256) && mayF g x.n r

def mayL (g : Geo) (l : List Block) : Bool := geoB g && mayF g (-1) l

theorem mayF_cons {g : Geo} {last : Int} {x : Block} {r : List Block} : mayF g last (x :: r) = true ↔ (last < x.n ∧ x.n < g.blocks ∧ (x.text.size : Int) ≤ g.per * 256) ∧ mayF g x.n r = true := by
  simp [mayF]

theorem lastN_succ {l : List Block} {i : Nat} {x : Block} (h : l[i]? = some x) : lastN l (i + 1) = x.n := by rw [lastN, blkAt_eq h]

theorem refBMay_c (V : Vw) (g : Geo) (ok : g.Ok) (sv : Value) (l : List Block) (w : World) (hV : V.le (vw w)) (hs0 : SlOf V Block.cells 2 sv l) (hn : l.length ≤ maxLen) :
    Calls Try.prog 7 #[g.val, sv] w fun e w' => e = .returned (.bool (mayL g l)) ∧ Below w.heap.size w w' := by
  have hs := hs0.mono hV
  simp only [maxLen] at hn
  refine enter (E := E0) (O := []) (nl := 0) (V := vw w) [.a (.v g.val), .a (.v sv)] Try.func7 rfl rfl (mem0 E0 0 w) rfl rfl ?_
  refine c_seq ?_
  refine c_region ?_
  refine o_new tok rfl rfl rfl rfl ?_
  refine o_yield rfl rfl rfl (y_val tok rfl) ?_
  refine o_end [1, 2] rfl ?_
  refine x_then ?_
  refine c_seq ?_
  refine c_seq ?_
  refine c_region ?_
  refine o_yield rfl rfl rfl (y_val tok rfl) ?_
  refine o_call (.a (.v _)) rfl rfl fnok14 rfl rfl rfl (fun hg E w1 hm => by exact refMay_c g ok _) ?_
  refine o_yield rfl rfl rfl (y_val tok rfl) ?_
  refine o_end [1, 2, 8] rfl ?_
  refine x_then ?_
  refine c_cond rfl (fun h => ?_) (fun h => ?_)
  ·
    simp only [Bool.and_eq_true, Bool.or_eq_true, Bool.not_eq_true', Bool.or_eq_false_iff, Bool.and_eq_false_iff, decide_eq_true_eq, decide_eq_false_iff_not, beq_iff_eq, bne_iff_ne, Bool.not_eq_false', beq_eq_false_iff_ne, bne_eq_false_iff_eq, ne_eq, Decidable.not_not, Int.not_lt, Int.not_le] at h
    refine c_seq ?_
    refine c_region ?_
    refine o_yield rfl rfl rfl (y_val tok rfl) ?_
    refine o_end [4] rfl ?_
    refine x_then ?_
    refine c_ret ?_
    refine x_then_ret ?_
    refine b_ret tok rfl ?_
    intro E w' hm _
    refine ⟨?_, hm.below (Vw.le.refl _)⟩
    rw [mayL, h]; rfl
  ·
    simp only [Bool.and_eq_true, Bool.or_eq_true, Bool.not_eq_true', Bool.or_eq_false_iff, Bool.and_eq_false_iff, decide_eq_true_eq, decide_eq_false_iff_not, beq_iff_eq, bne_iff_ne, Bool.not_eq_false', beq_eq_false_iff_ne, bne_eq_false_iff_eq, ne_eq, Decidable.not_not, Int.not_lt, Int.not_le] at h
    have hgg := h
    have hf := geo_facts hgg
    clear h
    have hmL : mayL g l = mayF g (-1) l := by rw [mayL, hgg, Bool.true_and]
    refine c_skip ?_
    refine x_then ?_
    refine c_seq ?_
    refine c_seq ?_
    refine c_region ?_
    refine o_yield rfl rfl rfl (y_val tok rfl) ?_
    refine o_end [1, 2, 5] rfl ?_
    refine x_then ?_
    refine c_block ?_
    refine c_loopK [1, 2] [] rfl rfl (σ := Nat) (fun i => [(5, .a (.v (I i)))]) (fun i => []) (fun i => i ≤ l.length ∧ mayF g (-1) l = mayF g (lastN l i) (l.drop i) ∧ -1 ≤ lastN l i) (fun i => l.length - i) (0) (⟨by omega, rfl, by simp [lastN]⟩) (by repeat (first | exact SubF.nil | refine SubF.cons rfl ?_)) (by repeat (first | exact SubO.nil | refine SubO.cons rfl ?_)) rfl ?_
    rintro i ⟨hi, heq, hlast⟩
    have hlc : (i = 0 ∧ lastN l i = -1) ∨ (0 < i ∧ lastN l i = (blkAt l (i - 1)).n) := by
      cases i with
      | zero => exact .inl ⟨rfl, rfl⟩
      | succ j => exact .inr ⟨by omega, rfl⟩
    refine c_seq ?_
    refine c_seq ?_
    refine c_region ?_
    refine o_yield rfl rfl rfl (y_val tok rfl) ?_
    refine o_yield rfl rfl rfl (y_val tok rfl) ?_
    refine o_yield rfl rfl rfl (y_len tok rfl (fun hg => hs.sl)) ?_
    refine o_yield rfl rfl rfl (y_val tok rfl) ?_
    refine o_end [1, 2, 5, 12] rfl ?_
    refine x_then ?_
    refine c_cond rfl (fun h => ?_) (fun h => ?_)
    ·
      simp only [Bool.and_eq_true, Bool.or_eq_true, Bool.not_eq_true', Bool.or_eq_false_iff, Bool.and_eq_false_iff, decide_eq_true_eq, decide_eq_false_iff_not, beq_iff_eq, bne_iff_ne, Bool.not_eq_false', beq_eq_false_iff_ne, bne_eq_false_iff_eq, ne_eq, Decidable.not_not, Int.not_lt, Int.not_le] at h
      refine c_skip ?_
      refine x_then ?_
      refine c_seq ?_
      refine c_block ?_
      refine c_seq ?_
      refine c_draw mixed (by kernel_rfl) ?_
      refine d_yield rfl rfl rfl (y_val tok rfl) rfl ?_
      refine d_yield rfl rfl rfl (y_val tok rfl) rfl ?_
      obtain ⟨x, h_x⟩ := hs.at (k := i) (by omega)
      rw [drop_at h_x] at heq
      have hlt_x := lt_of_at h_x
      refine d_yield rfl rfl rfl (y_idx tok rfl (fun hg => hs.sl) (fun hg => ⟨by omega, by omega⟩)) rfl ?_
      refine d_yield rfl rfl rfl (y_fel tok rfl (fun hg => hs.sl) (fun hg => by omega)) rfl ?_
      refine d_yield rfl rfl rfl (y_lel tok (i) 0 (x) rfl (fun hg => hs) (fun hg => h_x) rfl rfl) rfl ?_
      refine d_yield rfl rfl rfl (y_val tok rfl) rfl ?_
      refine d_yield rfl rfl rfl (y_val tok rfl) rfl ?_
      refine d_yield rfl rfl rfl (y_val tok rfl) rfl ?_
      refine d_yield rfl rfl rfl (y_val tok rfl) rfl ?_
      have hlt_x := lt_of_at h_x
      refine d_yield rfl rfl rfl (y_idx tok rfl (fun hg => hs.sl) (fun hg => ⟨by omega, by omega⟩)) rfl ?_
      refine d_yield rfl rfl rfl (y_fel tok rfl (fun hg => hs.sl) (fun hg => by omega)) rfl ?_
      refine d_yield rfl rfl rfl (y_lel tok (i) 0 (x) rfl (fun hg => hs) (fun hg => h_x) rfl rfl) rfl ?_
      refine d_yield rfl rfl rfl (y_val tok rfl) rfl ?_
      refine d_yield rfl rfl rfl (y_val tok rfl) rfl ?_
      refine d_yield rfl rfl rfl (y_val tok rfl) rfl ?_
      refine d_yield rfl rfl rfl (y_val tok rfl) rfl ?_
      refine d_yield rfl rfl rfl (y_val tok rfl) rfl ?_
      refine d_yield rfl rfl rfl (y_val tok rfl) rfl ?_
      refine d_yield rfl rfl rfl (y_val tok rfl) rfl ?_
      refine d_yield rfl rfl rfl (y_val tok rfl) rfl ?_
      refine d_yield rfl rfl rfl (y_val tok rfl) rfl ?_
      refine d_yield rfl rfl rfl (y_val tok rfl) rfl ?_
      have hlt_x := lt_of_at h_x
      refine d_yield rfl rfl rfl (y_idx tok rfl (fun hg => hs.sl) (fun hg => ⟨by omega, by omega⟩)) rfl ?_
      refine d_yield rfl rfl rfl (y_fel tok rfl (fun hg => hs.sl) (fun hg => by omega)) rfl ?_
      refine d_yield rfl rfl rfl (y_lel tok (i) 0 (x) rfl (fun hg => hs) (fun hg => h_x) rfl rfl) rfl ?_
      refine d_yield rfl rfl rfl (y_val tok rfl) rfl ?_
      refine d_yield rfl rfl rfl (y_val tok rfl) rfl ?_
      refine d_yield rfl rfl rfl (y_val tok rfl) rfl ?_
      refine d_yield rfl rfl rfl (y_idxK tok ((i - 1) * 2) rfl (by rw [wrapI (by omega) (by omega)]; dsimp only; omega) (fun hg => hs.sl) (fun hg => by simp at hg; rw [wrapI (by omega) (by omega)]; omega)) rfl ?_
      refine d_yield rfl rfl rfl (y_fel tok rfl (fun hg => hs.sl) (fun hg => by omega)) rfl ?_
      refine d_yield rfl rfl rfl (y_lel tok (i - 1) 0 (blkAt l (i - 1)) rfl (fun hg => hs) (fun hg => by rw [blkAt, List.getD, List.getElem?_eq_getElem (by omega)]; rfl) rfl rfl) rfl ?_
      refine d_yield rfl rfl rfl (y_val tok rfl) rfl ?_
      refine d_yield rfl rfl rfl (y_val tok rfl) rfl ?_
      refine d_yield rfl rfl rfl (y_val tok rfl) rfl ?_
      refine d_yield rfl rfl rfl (y_val tok rfl) rfl ?_
      refine d_yield rfl rfl rfl (y_val tok rfl) rfl ?_
      refine d_yield rfl rfl rfl (y_val tok rfl) rfl ?_
      have hwp : IntKind.i64.wrap (g.per * 256) = g.per * 256 := wrapI (by omega) (by omega)
      have hlt_x := lt_of_at h_x
      refine d_yield rfl rfl rfl (y_idx tok rfl (fun hg => hs.sl) (fun hg => ⟨by omega, by omega⟩)) rfl ?_
      refine d_yield rfl rfl rfl (y_fel tok rfl (fun hg => hs.sl) (fun hg => by omega)) rfl ?_
      refine d_yield rfl rfl rfl (y_lel tok (i) 1 (x) rfl (fun hg => hs) (fun hg => h_x) rfl rfl) rfl ?_
      refine d_yield rfl rfl rfl (y_val tok rfl) rfl ?_
      refine d_yield rfl rfl rfl (y_val tok rfl) rfl ?_
      refine d_yield rfl rfl rfl (y_val tok rfl) rfl ?_
      refine d_yield rfl rfl rfl (y_val tok rfl) rfl ?_
      refine d_yield rfl rfl rfl (y_val tok rfl) rfl ?_
      refine d_yield rfl rfl rfl (y_val tok rfl) rfl ?_
      refine d_end [1, 2, 5, 60] rfl ?_
      refine x_then ?_
      refine c_cond rfl (fun h => ?_) (fun h => ?_)
      ·
        simp only [Bool.and_eq_true, Bool.or_eq_true, Bool.not_eq_true', Bool.or_eq_false_iff, Bool.and_eq_false_iff, decide_eq_true_eq, decide_eq_false_iff_not, beq_iff_eq, bne_iff_ne, Bool.not_eq_false', beq_eq_false_iff_ne, bne_eq_false_iff_eq, ne_eq, Decidable.not_not, Int.not_lt, Int.not_le] at h
        refine c_seq ?_
        refine c_region ?_
        refine o_yield rfl rfl rfl (y_val tok rfl) ?_
        refine o_end [4] rfl ?_
        refine x_then ?_
        refine c_ret ?_
        refine x_block_ret ?_
        refine x_then_ret ?_
        refine x_then_ret ?_
        refine x_block_ret ?_
        refine x_then_ret ?_
        refine b_ret tok rfl ?_
        have hno : mayF g (lastN l i) (x :: l.drop (i + 1)) = false := by
          rw [Bool.eq_false_iff]
          intro hc
          obtain ⟨⟨h1, h2, h3⟩, _⟩ := mayF_cons.1 hc
          omega
        intro E w' hm _
        refine ⟨?_, hm.below (Vw.le.refl _)⟩
        rw [hmL, heq, hno]; rfl
      ·
        simp only [Bool.and_eq_true, Bool.or_eq_true, Bool.not_eq_true', Bool.or_eq_false_iff, Bool.and_eq_false_iff, decide_eq_true_eq, decide_eq_false_iff_not, beq_iff_eq, bne_iff_ne, Bool.not_eq_false', beq_eq_false_iff_ne, bne_eq_false_iff_eq, ne_eq, Decidable.not_not, Int.not_lt, Int.not_le] at h
        refine c_skip ?_
        refine x_block ?_
        refine x_then ?_
        refine c_region ?_
        refine o_yield rfl rfl rfl (y_val tok rfl) ?_
        refine o_yield rfl rfl rfl (y_val tok rfl) ?_
        refine o_yield rfl rfl rfl (y_val tok rfl) ?_
        refine o_end [1, 2, 5] rfl ?_
        refine x_then ?_
        have hyes : mayF g (lastN l i) (x :: l.drop (i + 1)) = mayF g x.n (l.drop (i + 1)) := by
          rw [mayF, decide_eq_true (by omega), Bool.true_and]
        rw [wrapI (n := (i : Int) + 1) (by omega) (by omega)]
        refine x_round (i + 1) (⟨by omega, by rw [heq, hyes, lastN_succ h_x], by rw [lastN_succ h_x]; omega⟩) (by first | omega | (dsimp only; omega)) (by repeat (first | exact SubF.nil | refine SubF.cons rfl ?_)) (by repeat (first | exact SubO.nil | refine SubO.cons rfl ?_)) rfl (Vw.le.refl _)
    ·
      simp only [Bool.and_eq_true, Bool.or_eq_true, Bool.not_eq_true', Bool.or_eq_false_iff, Bool.and_eq_false_iff, decide_eq_true_eq, decide_eq_false_iff_not, beq_iff_eq, bne_iff_ne, Bool.not_eq_false', beq_eq_false_iff_ne, bne_eq_false_iff_eq, ne_eq, Decidable.not_not, Int.not_lt, Int.not_le] at h
      refine c_exit ?_
      refine x_then_exit ?_
      refine x_then_exit ?_
      refine x_block_hit ?_
      refine x_then ?_
      refine c_seq ?_
      refine c_region ?_
      refine o_yield rfl rfl rfl (y_val tok rfl) ?_
      refine o_end [4] rfl ?_
      refine x_then ?_
      refine c_ret ?_
      refine b_ret tok rfl ?_
      have hkL : i = l.length := by omega
      subst hkL
      rw [List.drop_length, mayF] at heq
      intro E w' hm _
      refine ⟨?_, hm.below (Vw.le.refl _)⟩
      rw [hmL, heq]; rfl

end Go.Proofs.Ytmjdihpdlfidmaa

/- slices.Insert of one block. -/
set_option linter.unusedVariables false
set_option linter.unusedSimpArgs false
set_option maxRecDepth 100000
namespace Go.Proofs.Ytmjdihpdlfidmaa
open Go Go.Eng Go.RowKit

def insAt (l : List Block) (i : Nat) (x : Block) : List Block := l.take i ++ x :: l.drop i

theorem block_flat (l : List Block) : (l.flatMap Block.cells).length = l.length * 2 := by
  induction l with
  | nil => rfl
  | cons a r ih => rw [List.flatMap_cons, List.length_append, ih, List.length_cons]; simp [Block.cells]; omega

theorem block_ones (l : List Block) : ∀ u ∈ l.flatMap Block.cells, u.oneCell' = true := by
  intro u hu
  obtain ⟨x, _, hx⟩ := List.mem_flatMap.1 hu
  simp only [Block.cells, List.mem_cons, List.not_mem_nil, or_false] at hx
  rcases hx with rfl | rfl <;> rfl

theorem sl_plain {g lo hi c sz m : Nat} (h : lo < c) : sliceV (.slice (some ⟨g, 0, none⟩) m c) lo hi sz = .slice (some ⟨g, lo * sz, none⟩) (hi - lo) (c - lo) := by
  simp only [sliceV]
  rw [if_neg (by omega)]
  simp [Addr.add_lit]

theorem overL_app (A B tl : List Value) (off : Nat) (h : A.length = off) : overL off B (A ++ tl) = A ++ B ++ tl.drop B.length := by
  subst h
  simp [overL, List.drop_append, Nat.add_sub_cancel_left, List.drop_eq_nil_of_le]

theorem cur_take {cur : List Value} {l : List Block} {i : Nat} (h : cur.take (l.length * 2) = l.flatMap Block.cells) (hi : i ≤ l.length) : cur.take (i * 2) = (l.take i).flatMap Block.cells := by
  rw [← flatMap_take (enc := Block.cells) (sz := 2) (fun _ => rfl), ← h, List.take_take]
  congr 1
  omega

theorem cur_drop {cur : List Value} {l : List Block} {i : Nat} (h : cur.take (l.length * 2) = l.flatMap Block.cells) (hi : i ≤ l.length) : (cur.drop (i * 2)).take ((l.length - i) * 2) = (l.drop i).flatMap Block.cells := by
  rw [← flatMap_drop (enc := Block.cells) (sz := 2) (fun _ => rfl), ← h, List.drop_take]
  congr 1
  omega

theorem ins_flat (l : List Block) (i : Nat) (x : Block) : (insAt l i x).flatMap Block.cells = (l.take i).flatMap Block.cells ++ [x].flatMap Block.cells ++ (l.drop i).flatMap Block.cells := by
  simp [insAt]

theorem insGrow_c (g c i : Nat) (cur : List Value) (l : List Block) (x : Block) (xv : Value) (w : World) (hg : w.heap[g]? = some (.cells cur.toArray 57 (0, 0))) (hcl : cur.length = c * 2) (hcur : cur.take (l.length * 2) = l.flatMap Block.cells)
    (hx0 : SlOf ((vw w).del g) Block.cells 2 xv [x]) (hi : i < l.length) (hn : l.length ≤ 1048576) (hlc : l.length = c) :
    Calls Try.prog 51 #[.slice (some ⟨g, 0, none⟩) l.length c, I i, xv] w fun e w' => ∃ v', e = .returned v' ∧ Go.Eng.Touch (· = g) w w' ∧ w'.ownsRow w.heap.size 57 2 v' (l.length + 1) ((insAt l i x).flatMap Block.cells) := by
  obtain ⟨xa, xn, xc, rfl⟩ := sl_shape hx0.sl
  have hm1 := (mem0 E0 0 w).addLit (b := g) (e := 57) (cs := cur.map .v) (by rw [(den_plain E0 cur).1]; exact hg) ((den_plain E0 cur).2 _)
  have hm2 := (hm1.addPin 0 g (by simp [Env.setρ]) (by omega)).addSize
  have hs := hx0
  clear hm1
  have hw1 : IntKind.i64.wrap ((l.length : Int) + ([x].length : Int)) = ((l.length + 1 : Nat) : Int) := by rw [wrapI] <;> simp <;> omega
  have hw2 : IntKind.i64.wrap (((l.length + 1 : Nat) : Int) - i) = ((l.length + 1 - i : Nat) : Int) := by rw [wrapI] <;> omega
  have hw3 : IntKind.i64.wrap ((i : Int) + ([x].length : Int)) = ((i + 1 : Nat) : Int) := by rw [wrapI] <;> simp <;> omega
  refine enter [.a (.v (.slice (some ⟨g, 0, none⟩) l.length c)), .a (.v (I i)), .a (.v (.slice xa xn xc))] Try.func51 rfl rfl (hm2) rfl rfl ?_
  refine c_seq ?_
  refine c_region ?_
  refine o_yield rfl rfl rfl (y_val tok rfl) ?_
  refine o_end [0, 1, 2] rfl ?_
  refine x_then ?_
  refine c_seq ?_
  refine c_region ?_
  refine o_yield rfl rfl rfl (y_val tok rfl) ?_
  refine o_yield rfl rfl rfl (y_val tok rfl) ?_
  refine o_yield rfl rfl rfl (y_slP tok (.slice (some ⟨g, i * 2, none⟩) (l.length - i) (c - i)) rfl (fun hg => by simp; omega) (fun hg => by simp only [Option.getD, Int.toNat_natCast]; exact sl_plain (by omega))) ?_
  refine o_end [0, 1, 2] rfl ?_
  refine x_then ?_
  refine c_seq ?_
  refine c_region ?_
  refine o_yield rfl rfl rfl (y_val tok rfl) ?_
  refine o_yield rfl rfl rfl (y_len tok rfl (fun hg => hs.sl)) ?_
  refine o_yield rfl rfl rfl (y_val tok rfl) ?_
  refine o_end [0, 1, 2, 7] rfl ?_
  refine x_then ?_
  refine c_seq ?_
  refine c_seq ?_
  refine c_region ?_
  refine o_yield rfl rfl rfl (y_val tok rfl) ?_
  refine o_yield rfl rfl rfl (y_val tok rfl) ?_
  refine o_end [0, 1, 2, 7, 16] rfl ?_
  refine x_then ?_
  refine c_cond rfl (fun h => ?_) (fun h => ?_)
  ·
    simp only [Bool.and_eq_true, Bool.or_eq_true, Bool.not_eq_true', Bool.or_eq_false_iff, Bool.and_eq_false_iff, decide_eq_true_eq, decide_eq_false_iff_not, beq_iff_eq, bne_iff_ne, Bool.not_eq_false', beq_eq_false_iff_ne, bne_eq_false_iff_eq, ne_eq, Decidable.not_not, Int.not_lt, Int.not_le] at h
    exfalso
    simp at h
  ·
    simp only [Bool.and_eq_true, Bool.or_eq_true, Bool.not_eq_true', Bool.or_eq_false_iff, Bool.and_eq_false_iff, decide_eq_true_eq, decide_eq_false_iff_not, beq_iff_eq, bne_iff_ne, Bool.not_eq_false', beq_eq_false_iff_ne, bne_eq_false_iff_eq, ne_eq, Decidable.not_not, Int.not_lt, Int.not_le] at h
    refine c_skip ?_
    refine x_then ?_
    refine c_seq ?_
    refine c_region ?_
    refine o_yield rfl rfl rfl (y_val tok rfl) ?_
    refine o_yield rfl rfl rfl (y_lenP tok rfl) ?_
    refine o_yield rfl rfl rfl (y_val tok rfl) ?_
    refine o_end [0, 1, 2, 7, 8] rfl ?_
    refine x_then ?_
    refine c_seq ?_
    refine c_seq ?_
    refine c_region ?_
    refine o_yield rfl rfl rfl (y_val tok rfl) ?_
    refine o_yield rfl rfl rfl (y_val tok rfl) ?_
    refine o_yield rfl rfl rfl (y_val tok rfl) ?_
    refine o_end [0, 1, 2, 7, 8, 22] rfl ?_
    refine x_then ?_
    refine c_cond rfl (fun h => ?_) (fun h => ?_)
    ·
      simp only [Bool.and_eq_true, Bool.or_eq_true, Bool.not_eq_true', Bool.or_eq_false_iff, Bool.and_eq_false_iff, decide_eq_true_eq, decide_eq_false_iff_not, beq_iff_eq, bne_iff_ne, Bool.not_eq_false', beq_eq_false_iff_ne, bne_eq_false_iff_eq, ne_eq, Decidable.not_not, Int.not_lt, Int.not_le] at h
      exfalso
      omega
    ·
      simp only [Bool.and_eq_true, Bool.or_eq_true, Bool.not_eq_true', Bool.or_eq_false_iff, Bool.and_eq_false_iff, decide_eq_true_eq, decide_eq_false_iff_not, beq_iff_eq, bne_iff_ne, Bool.not_eq_false', beq_eq_false_iff_ne, bne_eq_false_iff_eq, ne_eq, Decidable.not_not, Int.not_lt, Int.not_le] at h
      clear h
      refine c_skip ?_
      refine x_then ?_
      refine c_seq ?_
      refine c_seq ?_
      refine c_region ?_
      refine o_yield rfl rfl rfl (y_val tok rfl) ?_
      refine o_yield rfl rfl rfl (y_val tok rfl) ?_
      refine o_yield rfl rfl rfl (y_val tok rfl) ?_
      refine o_yield rfl rfl rfl (y_val tok rfl) ?_
      refine o_yield rfl rfl rfl (y_cap tok rfl) ?_
      refine o_yield rfl rfl rfl (y_val tok rfl) ?_
      refine o_end [0, 1, 2, 7, 8, 31] rfl ?_
      refine x_then ?_
      refine c_cond rfl (fun h => ?_) (fun h => ?_)
      ·
        simp only [Bool.and_eq_true, Bool.or_eq_true, Bool.not_eq_true', Bool.or_eq_false_iff, Bool.and_eq_false_iff, decide_eq_true_eq, decide_eq_false_iff_not, beq_iff_eq, bne_iff_ne, Bool.not_eq_false', beq_eq_false_iff_ne, bne_eq_false_iff_eq, ne_eq, Decidable.not_not, Int.not_lt, Int.not_le] at h
        rw [hw1] at h
        clear h
        refine c_seq ?_
        refine c_region ?_
        refine o_yield rfl rfl rfl (y_val tok rfl) ?_
        refine o_yield rfl rfl rfl (y_val tok rfl) ?_
        rw [hw1]
        refine o_yield rfl rfl rfl (y_slP tok (.slice (some ⟨g, 0, none⟩) i c) rfl (fun hg => by simp; omega) (fun hg => by simp only [Option.getD, Int.toNat_natCast]; simp [sliceV, Addr.add])) ?_
        refine o_yield rfl rfl rfl (y_val tok rfl) ?_
        refine o_yield rfl rfl rfl (y_val tok rfl) ?_
        refine o_yield rfl rfl rfl (y_val tok rfl) ?_
        refine o_yield rfl rfl rfl (y_val tok rfl) ?_
        refine o_yield rfl rfl rfl (y_val tok rfl) ?_
        rw [hw1, hw2]
        refine o_step rfl rfl rfl rfl rfl (s_azL (l := 0) (q := 1) (cur := cur) tok rfl rfl rfl Try.underlying3 rfl rfl (by omega) (by decide) (by omega) (by omega) (by show i * 2 ≤ _; omega) (by show (i + (l.length + 1 - i)) * 24 ≤ _; omega) (by simp only [maxLen]; omega)) (fun y hy => ?_)
        obtain ⟨bn, G, tl⟩ := y
        obtain ⟨hG1, hG2, hG3⟩ := hy
        dsimp only at hG1 hG2 hG3 ⊢
        rw [show i + (l.length + 1 - i) = l.length + 1 by omega] at hG1 ⊢
        refine o_yield rfl rfl rfl (y_val tok rfl) ?_
        refine o_end [0, 1, 2, 7, 9] rfl ?_
        refine x_then ?_
        refine c_seq ?_
        refine c_region ?_
        refine o_yield rfl rfl rfl (y_val tok rfl) ?_
        refine o_yield rfl rfl rfl (y_val tok rfl) ?_
        refine o_yield rfl rfl rfl (y_slP tok (.slice (some ⟨bn, i * 2, none⟩) (l.length + 1 - i) (G - i)) rfl (fun hg => by simp; omega) (fun hg => by simp only [Option.getD, Int.toNat_natCast]; exact sl_plain (by omega))) ?_
        refine o_yield rfl rfl rfl (y_val tok rfl) ?_
        refine o_step rfl rfl rfl rfl rfl (s_cpL (l := 3) (q := 4) (cur := cur.take (i * 2) ++ tl) (news := [x].flatMap Block.cells) tok rfl rfl rfl rfl (fun E w1 hm => hs.sl.src hm.get) (block_ones [x]) (by simp; omega) (by show i * 2 + 1 * 2 ≤ _; simp; omega)) (fun _ _ => ?_)
        refine o_end [0, 1, 7, 9] rfl ?_
        refine x_then ?_
        refine c_seq ?_
        refine c_heldS [8] mixed rfl (by repeat (first | exact SubO.nil | refine SubO.cons rfl ?_)) (by first | rfl | simp [okCels, allOk_plain]) ?_
        refine t_takeD 0 rfl (by kernel_rfl) rfl rfl rfl (y_val tok rfl) rfl ?_
        refine t_takeD 1 rfl (by kernel_rfl) rfl rfl rfl (y_val tok rfl) rfl ?_
        refine t_takeD 2 rfl (by kernel_rfl) rfl rfl rfl (y_val tok rfl) rfl ?_
        refine t_takeD 3 rfl (by kernel_rfl) rfl rfl rfl (y_val tok rfl) rfl ?_
        rw [hw3]
        refine t_takeD 4 rfl (by kernel_rfl) rfl rfl rfl (y_slP tok (.slice (some ⟨bn, (i + 1) * 2, none⟩) (l.length + 1 - (i + 1)) (G - (i + 1))) rfl (fun hg => by simp; omega) (fun hg => by simp only [Option.getD, Int.toNat_natCast]; exact sl_plain (by omega))) rfl ?_
        refine t_takeD 5 rfl (by kernel_rfl) rfl rfl rfl (y_val tok rfl) rfl ?_
        refine t_takeD 6 rfl (by kernel_rfl) rfl rfl rfl (y_val tok rfl) rfl ?_
        refine t_takeD 7 rfl (by kernel_rfl) rfl rfl rfl (y_slP tok (.slice (some ⟨g, i * 2, none⟩) (l.length - i) (c - i)) rfl (fun hg => by simp; omega) (fun hg => by simp only [Option.getD, Int.toNat_natCast]; exact sl_plain (by omega))) rfl ?_
        refine t_go ?_
        refine h_one 8 (by kernel_rfl) ?_
        have hA : (cur.take (i * 2)).length = i * 2 := by rw [List.length_take]; omega
        rw [overL_app _ _ _ _ hA]
        have hB := cur_drop hcur (Nat.le_of_lt hi)
        have hBl : ((l.drop i).flatMap Block.cells).length = (l.length - i) * 2 := by rw [block_flat, List.length_drop]
        refine h_to 8 rfl rfl rfl rfl rfl rfl (s_cpL (l := 3) (q := 4) (k := l.length - i) (cur := cur.take (i * 2) ++ [x].flatMap Block.cells ++ tl.drop 2) (news := (l.drop i).flatMap Block.cells) tok rfl rfl rfl rfl (fun E w1 hm => by rw [← hB]; exact hm.srcL (l := 0) (q := 1) rfl rfl (by show i * 2 + (l.length - i) * 2 ≤ _; omega) (by omega)) (block_ones _) (by omega) (by show (i + 1) * 2 + (l.length - i) * 2 ≤ _; simp; omega)) (.inl rfl) (fun _ _ => ?_)
        refine h_done [9] (by kernel_rfl) rfl ?_
        refine x_then ?_
        refine c_seq ?_
        refine c_region ?_
        refine o_yield rfl rfl rfl (y_val tok rfl) ?_
        refine o_yield rfl rfl rfl (y_val tok rfl) ?_
        refine o_end [6] rfl ?_
        refine x_then ?_
        refine c_ret ?_
        refine x_then_ret ?_
        refine b_ret tok rfl ?_
        rw [overL_app _ _ _ _ (by simp; omega)]
        intro E w' hm _
        have hpn := (hm.pin 4 3 _ rfl).1
        have hl3 := hm.lit 3 _ _ rfl
        rw [(den_plain E _).1, hpn] at hl3
        have hne : bn ≠ g := fun hc => by
          have := hm.sep 3 0 _ _ g rfl rfl (by simp [blk, hpn, hc]) (by simp [blk, (hm.pin 1 0 _ rfl).1])
          cases this
        have hge : w.heap.size ≤ bn := by
          have := hm.off 3 _ bn rfl (by simp [blk, hpn])
          simp only [Vw.del] at this
          rw [if_neg hne] at this
          exact Array.getElem?_eq_none_iff.1 this
        refine ⟨_, rfl, hm.touch (Vw.le.refl _) (fun k o hk hS => by simp only [Vw.del]; rw [if_neg hS]; exact hk) ⟨rfl, rfl, rfl⟩ (hm.big 2 _ rfl), ?_⟩
        refine ⟨by rw [block_flat]; simp [insAt]; omega, .inr ⟨bn, G, _, rfl, hge, hl3, hG1, hG2, ?_, ?_⟩⟩
        · simp [hBl]; omega
        · rw [ins_flat, ← cur_take hcur (Nat.le_of_lt hi)]
          have : (cur.take (i * 2) ++ [x].flatMap Block.cells ++ (l.drop i).flatMap Block.cells).length = (l.length + 1) * 2 := by simp [hBl]; omega
          rw [← this]
          exact List.take_left
      ·
        simp only [Bool.and_eq_true, Bool.or_eq_true, Bool.not_eq_true', Bool.or_eq_false_iff, Bool.and_eq_false_iff, decide_eq_true_eq, decide_eq_false_iff_not, beq_iff_eq, bne_iff_ne, Bool.not_eq_false', beq_eq_false_iff_ne, bne_eq_false_iff_eq, ne_eq, Decidable.not_not, Int.not_lt, Int.not_le] at h
        exfalso
        rw [hw1] at h
        omega

theorem ovl_run (g xb off la ca lb cb e e' : Nat) (cs cur : Array Value) (w : World) (hne : xb ≠ g) (hb : w.heap[xb]? = some (.cells cs e (0, 0))) (hg : w.heap[g]? = some (.cells cur e' (0, 0))) (hk : cur.size ≠ 0) :
    (callFunc 57 #[.slice (some ⟨xb, 0, none⟩) la ca, .slice (some ⟨g, off, none⟩) lb cb]).run Try.prog w = .ok (.value (.bool false)) w := by
  rw [run_callFunc_extern Try.func57 (by kernel_rfl) (by kernel_rfl) (by kernel_rfl) (e := Extern.SlicesOverlaps.overlaps #[24, 24] #[4]) (by kernel_rfl),
    Lib.run_overlaps_apart w 24 4 57 Try.underlying24 2 (fun w => Try.sizeOf57 w) ⟨xb, 0, none⟩ ⟨g, off, none⟩ la ca lb cb hne e e' cs.size cur.size (by simp [World.shape?, hb]) (by simp [World.shape?, hg]) hk (by simp [World.frozen?, hb]) (by simp [World.frozen?, hb])]
  rfl

theorem insShift_c (g c i xb : Nat) (cur : List Value) (l : List Block) (x : Block) (w : World) (hg : w.heap[g]? = some (.cells cur.toArray 57 (0, 0))) (hcl : cur.length = c * 2) (hcur : cur.take (l.length * 2) = l.flatMap Block.cells)
    (hxb : ((vw w).del g).get xb = some (.cells x.cells.toArray 57 (0, 0))) (hi : i < l.length) (hn : l.length ≤ 1048576) (hlc : l.length + 1 ≤ c) (hcm : c ≤ maxLen) :
    Calls Try.prog 51 #[.slice (some ⟨g, 0, none⟩) l.length c, I i, .slice (some ⟨xb, 0, none⟩) 1 1] w fun e w' => ∃ v', e = .returned v' ∧ Go.Eng.Touch (· = g) w w' ∧ w'.ownsRow 0 57 2 v' (l.length + 1) ((insAt l i x).flatMap Block.cells) ∧ v'.ownBlock = some g := by
  have hx0 : SlOf ((vw w).del g) Block.cells 2 (.slice (some ⟨xb, 0, none⟩) 1 1) [x] := SlOf.ofBlock (enc := Block.cells) (sz := 2) (l := [x]) hxb (by simp) (fun _ => rfl) (Nat.le_refl _)
  have hm1 := (mem0 E0 0 w).addLit (b := g) (e := 57) (cs := cur.map .v) (by rw [(den_plain E0 cur).1]; exact hg) ((den_plain E0 cur).2 _)
  have hm2 := (hm1.addPin 0 g (by simp [Env.setρ]) (by omega)).addSize
  have hs := hx0
  have hne : xb ≠ g := fun h => by subst h; simp [Vw.del] at hxb
  clear hm1
  have hw1 : IntKind.i64.wrap ((l.length : Int) + ([x].length : Int)) = ((l.length + 1 : Nat) : Int) := by rw [wrapI] <;> simp <;> omega
  have hw3 : IntKind.i64.wrap ((i : Int) + ([x].length : Int)) = ((i + 1 : Nat) : Int) := by rw [wrapI] <;> simp <;> omega
  refine enter [.a (.v (.slice (some ⟨g, 0, none⟩) l.length c)), .a (.v (I i)), .a (.v (.slice (some ⟨xb, 0, none⟩) 1 1))] Try.func51 rfl rfl (hm2) rfl rfl ?_
  refine c_seq ?_
  refine c_region ?_
  refine o_yield rfl rfl rfl (y_val tok rfl) ?_
  refine o_end [0, 1, 2] rfl ?_
  refine x_then ?_
  refine c_seq ?_
  refine c_region ?_
  refine o_yield rfl rfl rfl (y_val tok rfl) ?_
  refine o_yield rfl rfl rfl (y_val tok rfl) ?_
  refine o_yield rfl rfl rfl (y_slP tok (.slice (some ⟨g, i * 2, none⟩) (l.length - i) (c - i)) rfl (fun hg => by simp; omega) (fun hg => by simp only [Option.getD, Int.toNat_natCast]; exact sl_plain (by omega))) ?_
  refine o_end [0, 1, 2] rfl ?_
  refine x_then ?_
  refine c_seq ?_
  refine c_region ?_
  refine o_yield rfl rfl rfl (y_val tok rfl) ?_
  refine o_yield rfl rfl rfl (y_len tok rfl (fun hg => hs.sl)) ?_
  refine o_yield rfl rfl rfl (y_val tok rfl) ?_
  refine o_end [0, 1, 2, 7] rfl ?_
  refine x_then ?_
  refine c_seq ?_
  refine c_seq ?_
  refine c_region ?_
  refine o_yield rfl rfl rfl (y_val tok rfl) ?_
  refine o_yield rfl rfl rfl (y_val tok rfl) ?_
  refine o_end [0, 1, 2, 7, 16] rfl ?_
  refine x_then ?_
  refine c_cond rfl (fun h => ?_) (fun h => ?_)
  ·
    simp only [Bool.and_eq_true, Bool.or_eq_true, Bool.not_eq_true', Bool.or_eq_false_iff, Bool.and_eq_false_iff, decide_eq_true_eq, decide_eq_false_iff_not, beq_iff_eq, bne_iff_ne, Bool.not_eq_false', beq_eq_false_iff_ne, bne_eq_false_iff_eq, ne_eq, Decidable.not_not, Int.not_lt, Int.not_le] at h
    exfalso
    simp at h
  ·
    simp only [Bool.and_eq_true, Bool.or_eq_true, Bool.not_eq_true', Bool.or_eq_false_iff, Bool.and_eq_false_iff, decide_eq_true_eq, decide_eq_false_iff_not, beq_iff_eq, bne_iff_ne, Bool.not_eq_false', beq_eq_false_iff_ne, bne_eq_false_iff_eq, ne_eq, Decidable.not_not, Int.not_lt, Int.not_le] at h
    refine c_skip ?_
    refine x_then ?_
    refine c_seq ?_
    refine c_region ?_
    refine o_yield rfl rfl rfl (y_val tok rfl) ?_
    refine o_yield rfl rfl rfl (y_lenP tok rfl) ?_
    refine o_yield rfl rfl rfl (y_val tok rfl) ?_
    refine o_end [0, 1, 2, 7, 8] rfl ?_
    refine x_then ?_
    refine c_seq ?_
    refine c_seq ?_
    refine c_region ?_
    refine o_yield rfl rfl rfl (y_val tok rfl) ?_
    refine o_yield rfl rfl rfl (y_val tok rfl) ?_
    refine o_yield rfl rfl rfl (y_val tok rfl) ?_
    refine o_end [0, 1, 2, 7, 8, 22] rfl ?_
    refine x_then ?_
    refine c_cond rfl (fun h => ?_) (fun h => ?_)
    ·
      simp only [Bool.and_eq_true, Bool.or_eq_true, Bool.not_eq_true', Bool.or_eq_false_iff, Bool.and_eq_false_iff, decide_eq_true_eq, decide_eq_false_iff_not, beq_iff_eq, bne_iff_ne, Bool.not_eq_false', beq_eq_false_iff_ne, bne_eq_false_iff_eq, ne_eq, Decidable.not_not, Int.not_lt, Int.not_le] at h
      exfalso
      omega
    ·
      simp only [Bool.and_eq_true, Bool.or_eq_true, Bool.not_eq_true', Bool.or_eq_false_iff, Bool.and_eq_false_iff, decide_eq_true_eq, decide_eq_false_iff_not, beq_iff_eq, bne_iff_ne, Bool.not_eq_false', beq_eq_false_iff_ne, bne_eq_false_iff_eq, ne_eq, Decidable.not_not, Int.not_lt, Int.not_le] at h
      clear h
      refine c_skip ?_
      refine x_then ?_
      refine c_seq ?_
      refine c_seq ?_
      refine c_region ?_
      refine o_yield rfl rfl rfl (y_val tok rfl) ?_
      refine o_yield rfl rfl rfl (y_val tok rfl) ?_
      refine o_yield rfl rfl rfl (y_val tok rfl) ?_
      refine o_yield rfl rfl rfl (y_val tok rfl) ?_
      refine o_yield rfl rfl rfl (y_cap tok rfl) ?_
      refine o_yield rfl rfl rfl (y_val tok rfl) ?_
      refine o_end [0, 1, 2, 7, 8, 31] rfl ?_
      refine x_then ?_
      refine c_cond rfl (fun h => ?_) (fun h => ?_)
      ·
        simp only [Bool.and_eq_true, Bool.or_eq_true, Bool.not_eq_true', Bool.or_eq_false_iff, Bool.and_eq_false_iff, decide_eq_true_eq, decide_eq_false_iff_not, beq_iff_eq, bne_iff_ne, Bool.not_eq_false', beq_eq_false_iff_ne, bne_eq_false_iff_eq, ne_eq, Decidable.not_not, Int.not_lt, Int.not_le] at h
        exfalso
        rw [hw1] at h
        omega
      ·
        simp only [Bool.and_eq_true, Bool.or_eq_true, Bool.not_eq_true', Bool.or_eq_false_iff, Bool.and_eq_false_iff, decide_eq_true_eq, decide_eq_false_iff_not, beq_iff_eq, bne_iff_ne, Bool.not_eq_false', beq_eq_false_iff_ne, bne_eq_false_iff_eq, ne_eq, Decidable.not_not, Int.not_lt, Int.not_le] at h
        rw [hw1] at h
        clear h
        refine c_skip ?_
        refine x_then ?_
        refine c_seq ?_
        refine c_region ?_
        refine o_yield rfl rfl rfl (y_val tok rfl) ?_
        refine o_yield rfl rfl rfl (y_val tok rfl) ?_
        refine o_yield rfl rfl rfl (y_val tok rfl) ?_
        refine o_yield rfl rfl rfl (y_val tok rfl) ?_
        rw [hw1]
        refine o_yield rfl rfl rfl (y_slP tok (.slice (some ⟨g, 0, none⟩) (l.length + 1) c) rfl (fun hg => by simp; omega) (fun hg => by simp [sliceV, Addr.add])) ?_
        refine o_yield rfl rfl rfl (y_val tok rfl) ?_
        refine o_end [0, 1, 2, 7, 8] rfl ?_
        refine x_then ?_
        refine c_seq ?_
        refine c_seq ?_
        refine c_region ?_
        refine o_yield rfl rfl rfl (y_val tok rfl) ?_
        refine o_yield rfl rfl rfl (y_val tok rfl) ?_
        refine o_yield rfl rfl rfl (y_val tok rfl) ?_
        refine o_yield rfl rfl rfl (y_val tok rfl) ?_
        refine o_yield rfl rfl rfl (y_val tok rfl) ?_
        rw [hw3]
        refine o_yield rfl rfl rfl (y_slP tok (.slice (some ⟨g, (i + 1) * 2, none⟩) (l.length + 1 - (i + 1)) (c - (i + 1))) rfl (fun hg => by simp; omega) (fun hg => by simp only [Option.getD, Int.toNat_natCast]; exact sl_plain (by omega))) ?_
        refine o_yield rfl rfl rfl (y_ext (.a (.v (.bool false))) rfl rfl (fun hgt E w1 hm => by have hl0 := hm.lit 0 _ _ rfl; rw [(hm.pin 1 0 _ rfl).1] at hl0; exact ovl_run g xb _ _ _ _ _ _ _ _ _ w1 hne (hm.get _ _ hxb) hl0 (by rw [List.size_toArray, List.length_map, List.length_map]; omega))) ?_
        refine o_yield rfl rfl rfl (y_val tok rfl) ?_
        refine o_end [0, 1, 2, 7, 8, 68] rfl ?_
        refine x_then ?_
        refine c_cond rfl (fun h => ?_) (fun h => ?_)
        ·
          simp only [Bool.and_eq_true, Bool.or_eq_true, Bool.not_eq_true', Bool.or_eq_false_iff, Bool.and_eq_false_iff, decide_eq_true_eq, decide_eq_false_iff_not, beq_iff_eq, bne_iff_ne, Bool.not_eq_false', beq_eq_false_iff_ne, bne_eq_false_iff_eq, ne_eq, Decidable.not_not, Int.not_lt, Int.not_le] at h
          clear h
          have hB := cur_drop hcur (Nat.le_of_lt hi)
          have hBl : ((l.drop i).flatMap Block.cells).length = (l.length - i) * 2 := by rw [block_flat, List.length_drop]
          refine c_seq ?_
          refine c_heldS [8] mixed rfl (by repeat (first | exact SubO.nil | refine SubO.cons rfl ?_)) (by first | rfl | simp [okCels, allOk_plain]) ?_
          refine t_takeD 0 rfl (by kernel_rfl) rfl rfl rfl (y_val tok rfl) rfl ?_
          refine t_takeD 1 rfl (by kernel_rfl) rfl rfl rfl (y_val tok rfl) rfl ?_
          refine t_takeD 2 rfl (by kernel_rfl) rfl rfl rfl (y_val tok rfl) rfl ?_
          refine t_takeD 3 rfl (by kernel_rfl) rfl rfl rfl (y_val tok rfl) rfl ?_
          rw [hw3]
          refine t_takeD 4 rfl (by kernel_rfl) rfl rfl rfl (y_slP tok (.slice (some ⟨g, (i + 1) * 2, none⟩) (l.length + 1 - (i + 1)) (c - (i + 1))) rfl (fun hg => by simp; omega) (fun hg => by simp only [Option.getD, Int.toNat_natCast]; exact sl_plain (by omega))) rfl ?_
          refine t_takeD 5 rfl (by kernel_rfl) rfl rfl rfl (y_val tok rfl) rfl ?_
          refine t_takeD 6 rfl (by kernel_rfl) rfl rfl rfl (y_val tok rfl) rfl ?_
          refine t_takeD 7 rfl (by kernel_rfl) rfl rfl rfl (y_slP tok (.slice (some ⟨g, i * 2, none⟩) (l.length + 1 - i) (c - i)) rfl (fun hg => by simp; omega) (fun hg => by simp only [Option.getD, Int.toNat_natCast]; exact sl_plain (by omega))) rfl ?_
          refine t_go ?_
          refine h_one 8 (by kernel_rfl) ?_
          rw [show l.length + 1 - (i + 1) = l.length - i by omega]
          refine h_to 8 rfl rfl rfl rfl rfl rfl (s_cpS (l := 0) (q := 1) (cur := cur) tok ((l.drop i).flatMap Block.cells) rfl rfl rfl rfl hB (block_ones _) (by omega) (by show (i + 1) * 2 + (l.length - i) * 2 ≤ _; omega) (by show i * 2 + (l.length - i) * 2 ≤ _; omega)) (.inl rfl) (fun _ _ => ?_)
          refine h_done [0, 1, 2] (by kernel_rfl) rfl ?_
          refine x_then ?_
          refine c_seq ?_
          refine c_region ?_
          refine o_yield rfl rfl rfl (y_val tok rfl) ?_
          refine o_yield rfl rfl rfl (y_val tok rfl) ?_
          have hT : overL ((i + 1) * 2) ((l.drop i).flatMap Block.cells) cur = cur.take (i * 2) ++ ((cur.drop (i * 2)).take 2 ++ ((l.drop i).flatMap Block.cells ++ cur.drop ((i + 1) * 2 + (l.length - i) * 2))) := by
            have e1 : cur.take ((i + 1) * 2) = cur.take (i * 2) ++ (cur.drop (i * 2)).take 2 := by
              rw [← List.take_add]
              congr 1
              omega
            rw [overL, hBl, e1]
            simp only [List.append_assoc]
          have hA : (cur.take (i * 2)).length = i * 2 := by rw [List.length_take]; omega
          have h2 : ((cur.drop (i * 2)).take 2).length = 2 := by rw [List.length_take, List.length_drop]; omega
          have hX : ([x].flatMap Block.cells).length = 2 := by simp
          rw [hT]
          refine o_yield rfl rfl rfl (y_slP tok (.slice (some ⟨g, i * 2, none⟩) (l.length + 1 - i) (c - i)) rfl (fun hg => by simp; omega) (fun hg => by simp only [Option.getD, Int.toNat_natCast]; exact sl_plain (by omega))) ?_
          refine o_yield rfl rfl rfl (y_val tok rfl) ?_
          refine o_step rfl rfl rfl rfl rfl (s_cpL (l := 0) (q := 1) (cur := cur.take (i * 2) ++ ((cur.drop (i * 2)).take 2 ++ ((l.drop i).flatMap Block.cells ++ cur.drop ((i + 1) * 2 + (l.length - i) * 2)))) (news := [x].flatMap Block.cells) tok rfl rfl rfl rfl (fun E w1 hm => hs.sl.src hm.get) (block_ones [x]) (by simp; omega) (by show i * 2 + 1 * 2 ≤ _; rw [List.length_append, hA, List.length_append, h2]; omega)) (fun _ _ => ?_)
          refine o_end [0] rfl ?_
          refine x_then ?_
          refine c_seq ?_
          refine c_region ?_
          refine o_yield rfl rfl rfl (y_val tok rfl) ?_
          refine o_yield rfl rfl rfl (y_val tok rfl) ?_
          refine o_end [6] rfl ?_
          refine x_then ?_
          refine c_ret ?_
          refine x_then_ret ?_
          refine b_ret tok rfl ?_
          rw [overL_app _ _ _ _ hA, hX, List.drop_left' h2]
          intro E w' hm _
          have hl0 := hm.lit 0 _ _ rfl
          rw [(den_plain E _).1, (hm.pin 1 0 _ rfl).1] at hl0
          refine ⟨_, rfl, hm.touch (Vw.le.refl _) (fun k o hk hS => by simp only [Vw.del]; rw [if_neg hS]; exact hk) ⟨rfl, rfl, rfl⟩ (hm.big 2 _ rfl), ?_, rfl⟩
          have hlen : (cur.take (i * 2) ++ [x].flatMap Block.cells ++ (l.drop i).flatMap Block.cells).length = (l.length + 1) * 2 := by rw [List.length_append, List.length_append, hA, hX, hBl]; omega
          refine ⟨by rw [block_flat]; simp [insAt]; omega, .inr ⟨g, c, _, rfl, Nat.zero_le _, hl0, hlc, hcm, ?_, ?_⟩⟩
          · rw [List.size_toArray, ← List.append_assoc, List.length_append, hlen, List.length_drop]; omega
          · rw [ins_flat, ← cur_take hcur (Nat.le_of_lt hi), ← hlen, ← List.append_assoc]
            exact List.take_left
        ·
          simp only [Bool.and_eq_true, Bool.or_eq_true, Bool.not_eq_true', Bool.or_eq_false_iff, Bool.and_eq_false_iff, decide_eq_true_eq, decide_eq_false_iff_not, beq_iff_eq, bne_iff_ne, Bool.not_eq_false', beq_eq_false_iff_ne, bne_eq_false_iff_eq, ne_eq, Decidable.not_not, Int.not_lt, Int.not_le] at h
          exfalso
          simp at h

theorem insEnd_c (xb : Nat) (v : Value) (l : List Block) (x : Block) (w : World) (hr : w.ownsRow 0 57 2 v l.length (l.flatMap Block.cells)) (hxb : ((vw w).delO v.ownBlock).get xb = some (.cells x.cells.toArray 57 (0, 0))) (hn : l.length ≤ 1048576) :
    Calls Try.prog 51 #[v, I l.length, .slice (some ⟨xb, 0, none⟩) 1 1] w fun e w' => ∃ v', e = .returned v' ∧ Go.Eng.Touch (fun k => v.ownBlock = some k) w w' ∧ w'.ownsRow 0 57 2 v' (l.length + 1) ((l ++ [x]).flatMap Block.cells) ∧ (v'.ownBlock = v.ownBlock ∨ ∀ k, v'.ownBlock = some k → w.heap.size ≤ k) := by
  have hx0 : SlOf ((vw w).delO v.ownBlock) Block.cells 2 (.slice (some ⟨xb, 0, none⟩) 1 1) [x] := SlOf.ofBlock (enc := Block.cells) (sz := 2) (l := [x]) hxb (by simp) (fun _ => rfl) (Nat.le_refl _)
  have hV : ∀ k, v.ownBlock = some k → ((vw w).get k).isSome = true := fun k h => by
    have := (hr.lt k h).2
    simp [vw, this]
  have hm1 := (mem0 E0 0 w).addRow hr hV
  have hm2 := (hm1.addKeep 0 (by omega)).addSize
  have hs := hx0
  have hget : ∀ k, v.ownBlock ≠ some k → ((vw w).delO v.ownBlock).get k = w.heap[k]? := fun k h => by
    cases hv : v.ownBlock with
    | none => rfl
    | some b =>
      simp only [Vw.delO, Vw.del, vw]
      rw [if_neg (fun e => h (by rw [hv, e]))]
  obtain ⟨a, c, hv, hlc⟩ : ∃ a c, v = .slice a l.length c ∧ l.length ≤ c := by
    rcases hr.2 with ⟨h1, h2⟩ | ⟨g, cap, cur, h1, _, _, h2, _⟩
    · exact ⟨none, 0, by rw [h1, h2], by omega⟩
    · exact ⟨_, cap, h1, h2⟩
  have hκ : (E0.setκ 0 v).κ 0 = v := by simp [Env.setκ]
  rw [hκ] at hm2
  generalize hV0 : (vw w).delO v.ownBlock = V0 at hm2 hs hget
  have hos : V0.os = w.os ∧ V0.tape = w.tape ∧ V0.output = w.output := by
    rw [← hV0]
    cases v.ownBlock <;> exact ⟨rfl, rfl, rfl⟩
  have key0 : ∀ k, V0.get k = none → k < w.heap.size → v.ownBlock = some k := fun k hg hlt => by
    by_cases h2 : v.ownBlock = some k
    · exact h2
    · rw [hget k h2] at hg
      simp [hlt] at hg
  clear hm1 hV0 hx0 hxb hκ hV
  subst hv
  generalize hown : (Value.slice a l.length c).ownBlock = ob at *
  generalize hE : E0.setκ 0 (.slice a l.length c) = E1 at hm2
  refine enter [.a (.v (.slice a l.length c)), .a (.v (I l.length)), .a (.v (.slice (some ⟨xb, 0, none⟩) 1 1))] Try.func51 rfl rfl (hm2) rfl rfl ?_
  refine c_seq ?_
  refine c_region ?_
  refine o_yield rfl rfl rfl (y_val tok rfl) ?_
  refine o_end [0, 1, 2] rfl ?_
  refine x_then ?_
  refine c_seq ?_
  refine c_region ?_
  refine o_yield rfl rfl rfl (y_val tok rfl) ?_
  refine o_yield rfl rfl rfl (y_val tok rfl) ?_
  refine o_yield rfl rfl rfl (y_slP tok _ rfl (fun hg => by simp; omega) (fun hg => rfl)) ?_
  refine o_end [0, 1, 2] rfl ?_
  refine x_then ?_
  refine c_seq ?_
  refine c_region ?_
  refine o_yield rfl rfl rfl (y_val tok rfl) ?_
  refine o_yield rfl rfl rfl (y_len tok rfl (fun hg => hs.sl)) ?_
  refine o_yield rfl rfl rfl (y_val tok rfl) ?_
  refine o_end [0, 1, 2, 7] rfl ?_
  refine x_then ?_
  refine c_seq ?_
  refine c_seq ?_
  refine c_region ?_
  refine o_yield rfl rfl rfl (y_val tok rfl) ?_
  refine o_yield rfl rfl rfl (y_val tok rfl) ?_
  refine o_end [0, 1, 2, 7, 16] rfl ?_
  refine x_then ?_
  refine c_cond rfl (fun h => ?_) (fun h => ?_)
  ·
    simp only [Bool.and_eq_true, Bool.or_eq_true, Bool.not_eq_true', Bool.or_eq_false_iff, Bool.and_eq_false_iff, decide_eq_true_eq, decide_eq_false_iff_not, beq_iff_eq, bne_iff_ne, Bool.not_eq_false', beq_eq_false_iff_ne, bne_eq_false_iff_eq, ne_eq, Decidable.not_not, Int.not_lt, Int.not_le] at h
    exfalso
    simp at h
  ·
    simp only [Bool.and_eq_true, Bool.or_eq_true, Bool.not_eq_true', Bool.or_eq_false_iff, Bool.and_eq_false_iff, decide_eq_true_eq, decide_eq_false_iff_not, beq_iff_eq, bne_iff_ne, Bool.not_eq_false', beq_eq_false_iff_ne, bne_eq_false_iff_eq, ne_eq, Decidable.not_not, Int.not_lt, Int.not_le] at h
    refine c_skip ?_
    refine x_then ?_
    refine c_seq ?_
    refine c_region ?_
    refine o_yield rfl rfl rfl (y_val tok rfl) ?_
    refine o_yield rfl rfl rfl (y_lenP tok rfl) ?_
    refine o_yield rfl rfl rfl (y_val tok rfl) ?_
    refine o_end [0, 1, 2, 7, 8] rfl ?_
    refine x_then ?_
    refine c_seq ?_
    refine c_seq ?_
    refine c_region ?_
    refine o_yield rfl rfl rfl (y_val tok rfl) ?_
    refine o_yield rfl rfl rfl (y_val tok rfl) ?_
    refine o_yield rfl rfl rfl (y_val tok rfl) ?_
    refine o_end [0, 1, 2, 7, 8, 22] rfl ?_
    refine x_then ?_
    refine c_cond rfl (fun h => ?_) (fun h => ?_)
    ·
      simp only [Bool.and_eq_true, Bool.or_eq_true, Bool.not_eq_true', Bool.or_eq_false_iff, Bool.and_eq_false_iff, decide_eq_true_eq, decide_eq_false_iff_not, beq_iff_eq, bne_iff_ne, Bool.not_eq_false', beq_eq_false_iff_ne, bne_eq_false_iff_eq, ne_eq, Decidable.not_not, Int.not_lt, Int.not_le] at h
      refine c_seq ?_
      refine c_region ?_
      refine o_yield rfl rfl rfl (y_val tok rfl) ?_
      refine o_yield rfl rfl rfl (y_val tok rfl) ?_
      refine o_step rfl rfl rfl rfl rfl (s_apP (l := 0) (q := 1) tok ([x].flatMap Block.cells) rfl rfl rfl rfl rfl rfl (fun E w1 hm => hs.sl.src hm.get) (block_ones [x]) (by show (l.length + [x].length) * 24 ≤ _; simp; omega) (by simp [maxLen]; omega)) (fun _ _ => ?_)
      refine o_yield rfl rfl rfl (y_val tok rfl) ?_
      refine o_end [6] rfl ?_
      refine x_then ?_
      refine c_ret ?_
      refine x_then_ret ?_
      refine b_ret tok rfl ?_
      intro E' w' hm _
      refine ⟨_, rfl, ?_, ?_, ?_⟩
      · exact hm.touch (Vw.le.refl _) (fun k o hk hS => by rw [hget k hS]; exact hk) hos (hm.big 2 _ rfl)
      · have := hm.row 3 _ _ _ _ rfl
        rw [← List.flatMap_append] at this
        exact this
      · cases hv' : (E'.κ 3).ownBlock with
        | none => exact .inr (fun k h => by rw [show (E'.κ 3).ownBlock = some k from h] at hv'; cases hv')
        | some k =>
          by_cases hlt : k < w.heap.size
          · have := key0 k (hm.off 3 _ k rfl (by simpa [blk] using hv')) hlt
            exact .inl (hv'.trans this.symm)
          · exact .inr (fun k' h => by rw [show (E'.κ 3).ownBlock = some k' from h] at hv'; cases hv'; omega)
    ·
      simp only [Bool.and_eq_true, Bool.or_eq_true, Bool.not_eq_true', Bool.or_eq_false_iff, Bool.and_eq_false_iff, decide_eq_true_eq, decide_eq_false_iff_not, beq_iff_eq, bne_iff_ne, Bool.not_eq_false', beq_eq_false_iff_ne, bne_eq_false_iff_eq, ne_eq, Decidable.not_not, Int.not_lt, Int.not_le] at h
      exfalso
      simp at h

theorem insAt_end (l : List Block) (x : Block) : insAt l l.length x = l ++ [x] := by simp [insAt]

theorem insert_c (xb i : Nat) (v : Value) (l : List Block) (x : Block) (w : World) (hr : w.ownsRow 0 57 2 v l.length (l.flatMap Block.cells)) (hxb : ((vw w).delO v.ownBlock).get xb = some (.cells x.cells.toArray 57 (0, 0))) (hi : i ≤ l.length) (hn : l.length ≤ 1048576) :
    Calls Try.prog 51 #[v, I i, .slice (some ⟨xb, 0, none⟩) 1 1] w fun e w' => ∃ v', e = .returned v' ∧ Go.Eng.Touch (fun k => v.ownBlock = some k) w w' ∧ w'.ownsRow 0 57 2 v' (l.length + 1) ((insAt l i x).flatMap Block.cells) ∧ (v'.ownBlock = v.ownBlock ∨ ∀ k, v'.ownBlock = some k → w.heap.size ≤ k) := by
  by_cases hil : i = l.length
  · subst hil
    rw [insAt_end]
    exact insEnd_c xb v l x w hr hxb hn
  · have hlt : i < l.length := by omega
    rcases hr.2 with ⟨h1, h2⟩ | ⟨g, c, cur, rfl, _, hg, hnc, hcm, hcs, hcur⟩
    · omega
    · have hob : (Value.slice (some ⟨g, 0, none⟩) l.length c).ownBlock = some g := rfl
      have hxb' : ((vw w).del g).get xb = some (.cells x.cells.toArray 57 (0, 0)) := hxb
      have hg' : w.heap[g]? = some (.cells cur.toList.toArray 57 (0, 0)) := by simpa using hg
      by_cases hroom : l.length + 1 ≤ c
      · refine (insShift_c g c i xb cur.toList l x w hg' (by simpa using hcs) hcur hxb' hlt hn hroom hcm).mono ?_
        rintro e w' ⟨v', he, ht, ho, hb⟩
        refine ⟨v', he, ?_, ho, .inl (hb.trans hob.symm)⟩
        refine ht.mono ?_
        intro k hk
        rw [hob, hk]
      · have hx0 : SlOf ((vw w).del g) Block.cells 2 (.slice (some ⟨xb, 0, none⟩) 1 1) [x] := SlOf.ofBlock (enc := Block.cells) (sz := 2) (l := [x]) hxb' (by simp) (fun _ => rfl) (Nat.le_refl _)
        refine (insGrow_c g c i cur.toList l x _ w hg' (by simpa using hcs) hcur hx0 hlt hn (by omega)).mono ?_
        rintro e w' ⟨v', he, ht, ho⟩
        refine ⟨v', he, ?_, ?_, .inr ?_⟩
        · refine ht.mono ?_
          intro k hk
          rw [hob, hk]
        · refine ⟨ho.1, ?_⟩
          rcases ho.2 with h | ⟨g', c', cur', h1, _, h2⟩
          · exact .inl h
          · exact .inr ⟨g', c', cur', h1, Nat.zero_le _, h2⟩
        · intro k hk
          rcases ho.2 with ⟨h, _⟩ | ⟨g', c', cur', h1, hge, _⟩
          · rw [h] at hk; cases hk
          · rw [h1] at hk
            cases hk
            exact hge
end Go.Proofs.Ytmjdihpdlfidmaa

/- Blocks put into a row: the program's. -/
set_option linter.unusedVariables false
set_option linter.unusedSimpArgs false
set_option maxRecDepth 100000
namespace Go.Proofs.Ytmjdihpdlfidmaa
open Go Go.Eng Go.RowKit

theorem idxB_cases (pr : Block → Bool) : ∀ (l : List Block) (i : Nat), idxB pr l i = -1 ∨ ∃ k : Nat, idxB pr l i = ((i + k : Nat) : Int) ∧ k < l.length
  | [], i => .inl rfl
  | b :: r, i => by
    rw [idxB]
    by_cases h : pr b = true
    · rw [if_pos h]; exact .inr ⟨0, rfl, by simp⟩
    · rw [if_neg h]
      rcases idxB_cases pr r (i + 1) with h1 | ⟨k, h1, h2⟩
      · exact .inl h1
      · exact .inr ⟨k + 1, by rw [h1]; congr 1; omega, by simpa using h2⟩

def putB (l : List Block) (x : Block) : List Block :=
  if 0 ≤ idxB (fun y => y.n == x.n) l 0 then l.set (idxB (fun y => y.n == x.n) l 0).toNat x
  else insAt l (if idxB (fun y => decide (x.n < y.n)) l 0 < 0 then l.length else (idxB (fun y => decide (x.n < y.n)) l 0).toNat) x

def putP (l more : List Block) : List Block := more.foldl putB l

theorem putB_len (l : List Block) (x : Block) : (putB l x).length ≤ l.length + 1 := by
  unfold putB
  split
  · simp
  · simp only [insAt, List.length_append, List.length_cons, List.length_take, List.length_drop]; omega

theorem putP_len : ∀ (more l : List Block), (putP l more).length ≤ l.length + more.length
  | [], l => by simp [putP]
  | x :: r, l => by
    have := putP_len r (putB l x)
    have := putB_len l x
    simp only [putP, List.foldl_cons, List.length_cons] at *
    omega

theorem putP_snoc (l more : List Block) (x : Block) : putP l (more ++ [x]) = putB (putP l more) x := by simp [putP]

theorem hasG_c (sv : Value) (l : List Block) (k : Int) (b e0 : Nat) (tl : List Value) (w : World) (hb : w.heap[b]? = some (.cells (sv :: tl).toArray e0 (0, 0))) (hs : SlOf ((vw w).del b) Block.cells 2 sv l) (hn : l.length ≤ 4398046511104) :
    Calls Try.prog 47 #[.pointer (some ⟨b, 0, none⟩), I k] w fun e w' => e = .returned (I (idxB (fun x => x.n == k) l 0)) ∧ Below w.heap.size w w' := by
  refine enter1 [.a (.ptr 0 0), .a (.v (I k))] hb Try.func47 rfl rfl rfl rfl ?_
  refine c_seq ?_
  refine c_region ?_
  refine o_new tok rfl rfl rfl rfl ?_
  refine o_yield rfl rfl rfl (y_val tok rfl) ?_
  refine o_end [0, 3] rfl ?_
  refine x_then ?_
  refine c_seq ?_
  refine c_region ?_
  refine o_yield rfl rfl rfl (y_val tok rfl) ?_
  refine o_yield rfl rfl rfl (y_val tok rfl) ?_
  refine o_yield rfl rfl rfl (y_val tok rfl) ?_
  refine o_yield rfl rfl rfl (y_val tok rfl) ?_
  refine o_yield rfl rfl rfl (y_val tok rfl) ?_
  refine o_call (.a (.v _)) rfl rfl fnok49 rfl rfl rfl (fun hg E w1 hm => by exact indexB_c (vw w1) _ sv (fun x => x.n == k) l _ (Vw.le.refl _) (hs.mono hm.leV) hn (fun x w' hle => ⟨56, _, rfl, fnok56, hasFn_c x k _ w' (hle.get _ _ (hm.lit 3 _ _ rfl))⟩)) ?_
  refine o_yield rfl rfl rfl (y_val tok rfl) ?_
  refine o_end [4] rfl ?_
  refine x_then ?_
  refine c_ret ?_
  refine b_ret tok rfl ?_
  intro E w' hm _
  exact ⟨rfl, below1 hb hm (Vw.le.refl _) rfl rfl rfl⟩

theorem gtFn_c (x y : Block) (bk : Nat) (w : World) (hk : w.heap[bk]? = some (.cells x.cells.toArray 57 (0, 0))) :
    Calls Try.prog 50 #[y.val, .pointer (some ⟨bk, 0, none⟩)] w fun e w' => e = .returned (.bool (decide (x.n < y.n))) ∧ Below w.heap.size w w' := by
  refine enter1 [.a (.v y.val), .a (.ptr 0 0)] hk Try.func50 rfl rfl rfl rfl ?_
  refine c_seq ?_
  refine c_region ?_
  refine o_new tok rfl rfl rfl rfl ?_
  refine o_yield rfl rfl rfl (y_val tok rfl) ?_
  refine o_end [1, 2] rfl ?_
  refine x_then ?_
  refine c_seq ?_
  refine c_region ?_
  refine o_yield rfl rfl rfl (y_val tok rfl) ?_
  refine o_yield rfl rfl rfl (y_val tok rfl) ?_
  refine o_yield rfl rfl rfl (y_val tok rfl) ?_
  refine o_yield rfl rfl rfl (y_val tok rfl) ?_
  refine o_yield rfl rfl rfl (y_val tok rfl) ?_
  refine o_yield rfl rfl rfl (y_val tok rfl) ?_
  refine o_end [3] rfl ?_
  refine x_then ?_
  refine c_ret ?_
  refine b_ret tok rfl ?_
  intro E w' hm _
  exact ⟨rfl, below1 hk hm (Vw.le.refl _) rfl rfl rfl⟩

section
variable {o : Oper} {n : Nat} {F : Frame0} {C : List Nat} {O : Go.Eng.Own} {nl : Nat} {V : Vw}

theorem insAt_len {l : List Block} {i : Nat} {x : Block} (h : i ≤ l.length) : (insAt l i x).length = l.length + 1 := by
  simp only [insAt, List.length_append, List.length_cons, List.length_take, List.length_drop]; omega

/-- A block put into a row of one's own. -/
theorem s_ins {p : List (Nat × Bool)} (r i xb : Nat) (l : List Block) (x : Block) (hv : evalC F p o.op = some (51, [.a (.row r), .a (.v (I i)), .a (.v (.slice (some ⟨xb, 0, none⟩) 1 1))]))
    (hl : lk O r = some (.row 57 2 l.length (l.flatMap Block.cells))) (hxb : V.get xb = some (.cells x.cells.toArray 57 (0, 0))) (hi : i ≤ l.length) (hn : l.length ≤ 1048576) :
    StepTo Try.prog o p n F C O nl V (σ := Unit) (fun _ => True) (fun _ => .a (.row nl)) (fun _ => (nl, .row 57 2 (insAt l i x).length ((insAt l i x).flatMap Block.cells)) :: (r, .gone) :: O) (nl + 1) (fun _ => V) := by
  constructor
  intro E a w hf hgv hm K Q hK
  obtain ⟨hr, _⟩ := evalC_sound hf hgv hv fnok51 w
  unfold Oper.wp
  rw [hr, Oper.upon_enter]
  have hrow := hm.row _ _ _ _ _ hl
  have hne : (E.κ r).ownBlock ≠ some xb := fun h => by
    have := hm.off r _ xb hl (by simpa [blk] using h)
    rw [hxb] at this; cases this
  have hx' : ((vw w).delO (E.κ r).ownBlock).get xb = some (.cells x.cells.toArray 57 (0, 0)) := by
    have h0 : ((vw w).delO (E.κ r).ownBlock).get xb = w.heap[xb]? := by
      cases hv : (E.κ r).ownBlock with
      | none => rfl
      | some b =>
        simp only [Vw.delO, Vw.del, vw]
        rw [if_neg (fun e => hne (by rw [hv, e]))]
    rw [h0]; exact hm.get _ _ hxb
  refine (insert_c xb i (E.κ r) l x w hrow hx' hi hn).mono ?_
  rintro e w' ⟨v', rfl, ht, hown, hbk⟩
  have hgr : w.grownBy w' (E.κ r).ownBlock := ⟨ht.os, ht.tape, ht.output, ht.size, fun k hk hne => ht.block k hk (fun h => hne h.symm)⟩
  rw [← insAt_len (x := x) hi] at hown
  have := hK () (E.setκ nl v') w' trivial (Env.agree_setκ E v') (hm.growO hl hown hgr hbk) (by simp [SV.ok, A.ok, blt_iff])
  show K (a.put o.dst v') _
  simpa [SV.den, A.den, Env.setκ] using this
end
end Go.Proofs.Ytmjdihpdlfidmaa

/- The walk of row.put. -/
set_option linter.unusedVariables false
set_option linter.unusedSimpArgs false
set_option maxRecDepth 100000
namespace Go.Proofs.Ytmjdihpdlfidmaa
open Go Go.Eng Go.RowKit

theorem rput_c (v lv : Value) (l more : List Block) (b e0 : Nat) (g : Geo) (w : World) (hb : w.heap[b]? = some (.cells (v :: g.cells).toArray e0 (0, 0))) (hr : w.ownsRow 0 57 2 v l.length (l.flatMap Block.cells)) (d : v.ownBlock ≠ some b)
    (hl0 : SlOf (((vw w).delO v.ownBlock).del b) Block.cells 2 lv more) (hn : l.length + more.length ≤ 1048576) :
    Calls Try.prog 40 #[.pointer (some ⟨b, 0, none⟩), lv] w fun e w' => e = .returned (.tuple #[]) ∧ ∃ v', Go.Eng.Touch (fun k => k = b ∨ v.ownBlock = some k) w w' ∧ w'.heap[b]? = some (.cells (v' :: g.cells).toArray e0 (0, 0)) ∧
      w'.ownsRow 0 57 2 v' (putP l more).length ((putP l more).flatMap Block.cells) ∧ (v'.ownBlock = v.ownBlock ∨ ∀ k, v'.ownBlock = some k → w.heap.size ≤ k) := by
  have hV : ∀ k, v.ownBlock = some k → ((vw w).get k).isSome = true := fun k h => by
    have := (hr.lt k h).2
    simp [vw, this]
  have hm1 := (mem0 E0 0 w).addRow hr hV
  have get1 : ∀ k, v.ownBlock ≠ some k → ((vw w).delO v.ownBlock).get k = w.heap[k]? := fun k h => by
    cases hv : v.ownBlock with
    | none => rfl
    | some b =>
      simp only [Vw.delO, Vw.del, vw]
      rw [if_neg (fun e => h (by rw [hv, e]))]
  have hm2 := hm1.addLit (b := b) (e := e0) (cs := .row 0 :: g.cells.map .v) (by rw [get1 b d, hb, List.map_cons, (den_plain _ g.cells).1]; simp [A.den, Env.setκ]) (by simp only [allOk, A.ok, blt_iff, Bool.and_eq_true]; exact ⟨by omega, (den_plain E0 g.cells).2 _⟩)
  have hm3 := (hm2.addPin 1 b (by simp [Env.setρ]) (by omega)).addSize
  have get2 : ∀ k, v.ownBlock ≠ some k → k ≠ b → (((vw w).delO v.ownBlock).del b).get k = w.heap[k]? := fun k h h' => by
    simp only [Vw.del]
    rw [if_neg h', ← get1 k h]
  generalize hV0 : (((vw w).delO v.ownBlock).del b) = V0 at hm3 hl0 get2
  have hos : V0.os = w.os ∧ V0.tape = w.tape ∧ V0.output = w.output := by
    rw [← hV0]
    cases v.ownBlock <;> exact ⟨rfl, rfl, rfl⟩
  have key0 : ∀ k, V0.get k = none → k < w.heap.size → k = b ∨ v.ownBlock = some k := fun k hg hlt => by
    by_cases h1 : k = b
    · exact .inl h1
    · by_cases h2 : v.ownBlock = some k
      · exact .inr h2
      · rw [get2 k h2 h1] at hg
        simp [hlt] at hg
  clear hm1 hm2 hV0
  obtain ⟨E, hE⟩ : ∃ E, E = (E0.setκ 0 v).setρ 1 b := ⟨_, rfl⟩
  have hbE : E.ρ 1 = b := by rw [hE]; simp [Env.setρ]
  have hvE : E.κ 0 = v := by rw [hE]; simp [Env.setρ, Env.setκ]
  rw [← hE] at hm3
  clear hE
  subst hbE hvE
  have hs := hl0
  have e0p : putP l (more.take 0) = l := by simp [putP]
  refine enter [.a (.ptr 1 0), .a (.v lv)] Try.func40 rfl rfl (hm3) rfl rfl ?_
  refine c_seq ?_
  refine c_region ?_
  refine o_yield rfl rfl rfl (y_val tok rfl) ?_
  refine o_yield rfl rfl rfl (y_len tok rfl (fun hg => hs.sl)) ?_
  refine o_yield rfl rfl rfl (y_val tok rfl) ?_
  refine o_end [0, 8, 9, 10] rfl ?_
  refine x_then ?_
  refine c_block ?_
  refine c_loopK [0, 8, 9] [2, 3, 1, 0] rfl rfl (σ := Nat) (fun i => [(10, .a (.v (I i)))]) (fun i => [(2, .pin 1 (E.ρ 1)), (3, .size w.heap.size), (1, .lit (.row 0 :: g.cells.map .v) e0), (0, .row 57 2 (putP l (more.take i)).length ((putP l (more.take i)).flatMap Block.cells))]) (fun i => i ≤ more.length) (fun i => more.length - i) (0) (by omega) (by repeat (first | exact SubF.nil | refine SubF.cons rfl ?_ | refine SubF.cons (by simp only [e0p]; first | done | rfl) ?_)) (by repeat (first | exact SubO.nil | refine SubO.cons rfl ?_ | refine SubO.cons (by simp only [e0p]; first | done | rfl) ?_)) rfl ?_
  rintro i hi
  refine c_seq ?_
  refine c_region ?_
  refine o_yield rfl rfl rfl (y_val tok rfl) ?_
  refine o_end [0, 8, 9, 10, 11] rfl ?_
  refine x_then ?_
  refine c_seq ?_
  refine c_cond rfl (fun h => ?_) (fun h => ?_)
  ·
    simp only [Bool.and_eq_true, Bool.or_eq_true, Bool.not_eq_true', Bool.or_eq_false_iff, Bool.and_eq_false_iff, decide_eq_true_eq, decide_eq_false_iff_not, beq_iff_eq, bne_iff_ne, Bool.not_eq_false', beq_eq_false_iff_ne, bne_eq_false_iff_eq, ne_eq, Decidable.not_not, Int.not_lt, Int.not_le] at h
    refine c_skip ?_
    refine x_then ?_
    refine c_seq ?_
    refine c_block ?_
    refine c_seq ?_
    refine c_region ?_
    have hlen := putP_len (more.take i) l
    have hti : (more.take i).length = i := by rw [List.length_take]; omega
    generalize hL : putP l (more.take i) = L at *
    obtain ⟨x, h_x⟩ := hs.at (k := i) (by omega)
    have hlt_x := lt_of_at h_x
    refine o_yield rfl rfl rfl (y_idx tok rfl (fun hg => hs.sl) (fun hg => ⟨by omega, by omega⟩)) ?_
    refine o_yield rfl rfl rfl (y_lel tok (i) 0 (x) rfl (fun hg => hs) (fun hg => h_x) rfl rfl) ?_
    refine o_new tok rfl rfl rfl rfl ?_
    refine o_store tok rfl rfl rfl (by first | exact ⟨trivial, trivial⟩ | (repeat' first | exact trivial | exact rfl | apply And.intro); done | simp [onesP, oneP, lk, Value.oneCell']) ?_
    refine o_end [0, 5, 8, 9, 10] rfl ?_
    refine x_then ?_
    refine c_seq ?_
    refine c_seq ?_
    refine c_region ?_
    refine o_yield rfl rfl rfl (y_val tok rfl) ?_
    refine o_yield rfl rfl rfl (y_val tok rfl) ?_
    refine o_yield rfl rfl rfl (y_val tok rfl) ?_
    have hsn : putP l (more.take (i + 1)) = putB L x := by rw [take_succ_at h_x, putP_snoc, hL]
    refine o_call (.a (.v _)) rfl rfl fnok47 rfl rfl rfl (fun hg E w1 hm => by exact hasG_c _ L x.n _ e0 g.cells _ (by have := hm.lit 1 _ _ rfl; rw [List.map_cons, (den_plain _ g.cells).1] at this; exact this) (hm.rowOfDel (enc := Block.cells) 0 rfl rfl (fun _ => rfl)) (by omega)) ?_
    refine o_yield rfl rfl rfl (y_val tok rfl) ?_
    refine o_end [0, 5, 6, 8, 9, 10] rfl ?_
    refine x_then ?_
    refine c_seq ?_
    refine c_region ?_
    refine o_yield rfl rfl rfl (y_val tok rfl) ?_
    refine o_yield rfl rfl rfl (y_val tok rfl) ?_
    refine o_end [0, 5, 6, 8, 9, 10, 19] rfl ?_
    refine x_then ?_
    refine c_cond rfl (fun h => ?_) (fun h => ?_)
    ·
      simp only [Bool.and_eq_true, Bool.or_eq_true, Bool.not_eq_true', Bool.or_eq_false_iff, Bool.and_eq_false_iff, decide_eq_true_eq, decide_eq_false_iff_not, beq_iff_eq, bne_iff_ne, Bool.not_eq_false', beq_eq_false_iff_ne, bne_eq_false_iff_eq, ne_eq, Decidable.not_not, Int.not_lt, Int.not_le] at h
      obtain ⟨k, hq, hk⟩ : ∃ k : Nat, idxB (fun y => y.n == x.n) L 0 = (k : Int) ∧ k < L.length := by
        rcases idxB_cases (fun y => y.n == x.n) L 0 with h1 | ⟨k, h1, h2⟩
        · omega
        · exact ⟨k, by rw [h1]; simp, h2⟩
      have hput : putB L x = L.set k x := by unfold putB; rw [if_pos h, hq]; simp
      clear h
      rw [hq]
      refine c_seq ?_
      refine c_heldS [7] mixed rfl (by repeat (first | exact SubO.nil | refine SubO.cons rfl ?_)) (by first | rfl | simp [okCels, allOk_plain]) ?_
      refine t_takeD 0 rfl (by kernel_rfl) rfl rfl rfl (y_val tok rfl) rfl ?_
      refine t_takeD 1 rfl (by kernel_rfl) rfl rfl rfl (y_val tok rfl) rfl ?_
      refine t_takeD 2 rfl (by kernel_rfl) rfl rfl rfl (y_val tok rfl) rfl ?_
      refine t_takeD 3 rfl (by kernel_rfl) rfl rfl rfl (y_val tok rfl) rfl ?_
      refine t_takeD 4 rfl (by kernel_rfl) rfl rfl rfl (y_val tok rfl) rfl ?_
      refine t_takeD 5 rfl (by kernel_rfl) rfl rfl rfl (y_val tok rfl) rfl ?_
      refine t_takeD 6 rfl (by kernel_rfl) rfl rfl rfl (y_own (s := .a (.rel 0 (k * 2))) 0 rfl rfl (fun v V' hv => y_idxK tok (k * 2) rfl (by simp) (fun hg => hv) (fun hg => by omega))) rfl ?_
      refine t_go ?_
      refine h_one 7 (by kernel_rfl) ?_
      refine h_toN 7 rfl rfl rfl rfl rfl (s_rst tok rfl rfl (by simpa using block_ones [x]) (by show k * 2 + 2 ≤ _; omega) (by omega)) (.inl rfl) (fun _ _ => ?_)
      refine h_done [0, 8, 9, 10] (by kernel_rfl) rfl ?_
      refine x_then ?_
      refine c_exit ?_
      refine x_then_exit ?_
      refine x_block_hit ?_
      refine x_then ?_
      refine c_region ?_
      refine o_yield rfl rfl rfl (y_val tok rfl) ?_
      refine o_yield rfl rfl rfl (y_val tok rfl) ?_
      refine o_end [0, 8, 9, 10] rfl ?_
      refine x_then ?_
      have hset := overL_set (enc := Block.cells) (sz := 2) (fun _ => rfl) L k x hk
      rw [show overL (k * 2) _ _ = _ from hset, show L.length = (L.set k x).length by simp, ← hput, ← hsn, wrapI (n := (i : Int) + 1) (by omega) (by omega)]
      refine x_round (i + 1) (by omega) (by first | omega | (dsimp only; omega)) (by repeat (first | exact SubF.nil | refine SubF.cons rfl ?_)) (by repeat (first | exact SubO.nil | refine SubO.cons rfl ?_)) rfl (Vw.le.refl _)
    ·
      simp only [Bool.and_eq_true, Bool.or_eq_true, Bool.not_eq_true', Bool.or_eq_false_iff, Bool.and_eq_false_iff, decide_eq_true_eq, decide_eq_false_iff_not, beq_iff_eq, bne_iff_ne, Bool.not_eq_false', beq_eq_false_iff_ne, bne_eq_false_iff_eq, ne_eq, Decidable.not_not, Int.not_lt, Int.not_le] at h
      have h0 := h
      clear h
      refine c_skip ?_
      refine x_then ?_
      refine c_seq ?_
      refine c_region ?_
      refine o_yield rfl rfl rfl (y_val tok rfl) ?_
      refine o_yield rfl rfl rfl (y_val tok rfl) ?_
      refine o_yield rfl rfl rfl (y_val tok rfl) ?_
      refine o_yield rfl rfl rfl (y_val tok rfl) ?_
      refine o_yield rfl rfl rfl (y_val tok rfl) ?_
      refine o_call (.a (.v _)) rfl rfl fnok49 rfl rfl rfl (fun hg E w1 hm => by exact indexB_c (vw w1) _ _ (fun y => decide (x.n < y.n)) L _ (Vw.le.refl _) (hm.rowOf 0 rfl (fun _ => rfl)) (by omega) (fun y w' hle => ⟨50, _, rfl, fnok50, gtFn_c x y _ w' (hle.get _ _ (hm.lit 4 _ _ rfl))⟩)) ?_
      refine o_yield rfl rfl rfl (y_val tok rfl) ?_
      refine o_end [0, 5, 7, 8, 9, 10] rfl ?_
      refine x_then ?_
      refine c_seq ?_
      refine c_seq ?_
      refine c_region ?_
      refine o_yield rfl rfl rfl (y_val tok rfl) ?_
      refine o_yield rfl rfl rfl (y_val tok rfl) ?_
      refine o_end [0, 5, 7, 8, 9, 10, 34] rfl ?_
      refine x_then ?_
      refine c_cond rfl (fun h => ?_) (fun h => ?_)
      ·
        simp only [Bool.and_eq_true, Bool.or_eq_true, Bool.not_eq_true', Bool.or_eq_false_iff, Bool.and_eq_false_iff, decide_eq_true_eq, decide_eq_false_iff_not, beq_iff_eq, bne_iff_ne, Bool.not_eq_false', beq_eq_false_iff_ne, bne_eq_false_iff_eq, ne_eq, Decidable.not_not, Int.not_lt, Int.not_le] at h
        refine c_region ?_
        refine o_yield rfl rfl rfl (y_val tok rfl) ?_
        refine o_yield rfl rfl rfl (y_val tok rfl) ?_
        refine o_yield rfl rfl rfl (y_val tok rfl) ?_
        refine o_yield rfl rfl rfl (y_val tok rfl) ?_
        have hput : putB L x = insAt L L.length x := by unfold putB; rw [if_neg (by omega), if_pos h]
        refine o_yield rfl rfl rfl (y_own (s := .a (.v (.int .i64 L.length))) 0 rfl rfl (fun v V' hs => y_len tok rfl (fun hg => hs))) ?_
        refine o_yield rfl rfl rfl (y_val tok rfl) ?_
        refine o_end [0, 5, 7, 8, 9, 10] rfl ?_
        refine x_then ?_
        refine c_held [11] ([(4, .lit (x.cells.map .v) 57), (3, .size w.heap.size), (2, .pin 1 (E.ρ 1)), (1, .lit (.row 0 :: g.cells.map .v) e0)]) mixed (by repeat (first | exact SubO.nil | refine SubO.cons rfl ?_)) (by first | rfl | simp [okCels, allOk_plain]) ?_
        refine t_takeD 0 rfl (by kernel_rfl) rfl rfl rfl (y_val tok rfl) rfl ?_
        refine t_takeD 1 rfl (by kernel_rfl) rfl rfl rfl (y_val tok rfl) rfl ?_
        refine t_takeD 2 rfl (by kernel_rfl) rfl rfl rfl (y_val tok rfl) rfl ?_
        refine t_takeD 3 rfl (by kernel_rfl) rfl rfl rfl (y_val tok rfl) rfl ?_
        refine t_takeD 4 rfl (by kernel_rfl) rfl rfl rfl (y_val tok rfl) rfl ?_
        refine t_takeD 5 rfl (by kernel_rfl) rfl rfl rfl (y_val tok rfl) rfl ?_
        refine t_takeD 6 rfl (by kernel_rfl) rfl rfl rfl (y_val tok rfl) rfl ?_
        refine t_go ?_
        refine h_one 7 (by kernel_rfl) ?_
        refine h_bs 7 tok rfl rfl rfl rfl rfl (fun b1 V1 hle1 hb1 => ?_)
        refine h_one 8 (by kernel_rfl) ?_
        refine h_to 8 rfl rfl rfl rfl rfl rfl (s_ins 0 L.length b1 L x rfl rfl (hb1 rfl) (Nat.le_refl _) (by omega)) (.inr fun _ _ => ⟨(by repeat (first | exact SubO.nil | refine SubO.cons rfl ?_)), rfl, (by first | exact Vw.le.refl _ | assumption)⟩) (fun _ _ => ?_)
        refine h_one 9 (by kernel_rfl) ?_
        refine h_yield 9 rfl rfl rfl rfl (y_val tok rfl) ?_
        refine h_one 10 (by kernel_rfl) ?_
        refine h_yield 10 rfl rfl rfl rfl (y_val tok rfl) ?_
        refine h_one 11 (by kernel_rfl) ?_
        refine h_store 11 tok rfl rfl rfl rfl (by first | exact ⟨trivial, trivial⟩ | (repeat' first | exact trivial | exact rfl | apply And.intro); done | simp [onesP, oneP, lk, Value.oneCell']) (.inl rfl) ?_
        refine h_done [0, 8, 9, 10] (by kernel_rfl) rfl ?_
        refine x_block ?_
        refine x_then ?_
        refine c_region ?_
        refine o_yield rfl rfl rfl (y_val tok rfl) ?_
        refine o_yield rfl rfl rfl (y_val tok rfl) ?_
        refine o_end [0, 8, 9, 10] rfl ?_
        refine x_then ?_
        rw [wrapI (n := (i : Int) + 1) (by omega) (by omega), ← hput, ← hsn]
        refine k_swap 0 5 rfl ?_
        refine x_round (i + 1) (by omega) (by first | omega | (dsimp only; omega)) (by repeat (first | exact SubF.nil | refine SubF.cons rfl ?_)) (by repeat (first | exact SubO.nil | refine SubO.cons rfl ?_)) rfl (hle1)
      ·
        simp only [Bool.and_eq_true, Bool.or_eq_true, Bool.not_eq_true', Bool.or_eq_false_iff, Bool.and_eq_false_iff, decide_eq_true_eq, decide_eq_false_iff_not, beq_iff_eq, bne_iff_ne, Bool.not_eq_false', beq_eq_false_iff_ne, bne_eq_false_iff_eq, ne_eq, Decidable.not_not, Int.not_lt, Int.not_le] at h
        obtain ⟨k, hq, hk⟩ : ∃ k : Nat, idxB (fun y => decide (x.n < y.n)) L 0 = (k : Int) ∧ k < L.length := by
          rcases idxB_cases (fun y => decide (x.n < y.n)) L 0 with h1 | ⟨k, h1, h2⟩
          · omega
          · exact ⟨k, by rw [h1]; simp, h2⟩
        have hput : putB L x = insAt L k x := by unfold putB; rw [if_neg (by omega), if_neg (by omega), hq]; simp
        rw [hq]
        clear h
        refine c_skip ?_
        refine x_then ?_
        refine c_held [11] ([(4, .lit (x.cells.map .v) 57), (3, .size w.heap.size), (2, .pin 1 (E.ρ 1)), (1, .lit (.row 0 :: g.cells.map .v) e0)]) mixed (by repeat (first | exact SubO.nil | refine SubO.cons rfl ?_)) (by first | rfl | simp [okCels, allOk_plain]) ?_
        refine t_takeD 0 rfl (by kernel_rfl) rfl rfl rfl (y_val tok rfl) rfl ?_
        refine t_takeD 1 rfl (by kernel_rfl) rfl rfl rfl (y_val tok rfl) rfl ?_
        refine t_takeD 2 rfl (by kernel_rfl) rfl rfl rfl (y_val tok rfl) rfl ?_
        refine t_takeD 3 rfl (by kernel_rfl) rfl rfl rfl (y_val tok rfl) rfl ?_
        refine t_takeD 4 rfl (by kernel_rfl) rfl rfl rfl (y_val tok rfl) rfl ?_
        refine t_takeD 5 rfl (by kernel_rfl) rfl rfl rfl (y_val tok rfl) rfl ?_
        refine t_takeD 6 rfl (by kernel_rfl) rfl rfl rfl (y_val tok rfl) rfl ?_
        refine t_go ?_
        refine h_one 7 (by kernel_rfl) ?_
        refine h_bs 7 tok rfl rfl rfl rfl rfl (fun b1 V1 hle1 hb1 => ?_)
        refine h_one 8 (by kernel_rfl) ?_
        refine h_to 8 rfl rfl rfl rfl rfl rfl (s_ins 0 k b1 L x rfl rfl (hb1 rfl) (Nat.le_of_lt hk) (by omega)) (.inr fun _ _ => ⟨(by repeat (first | exact SubO.nil | refine SubO.cons rfl ?_)), rfl, (by first | exact Vw.le.refl _ | assumption)⟩) (fun _ _ => ?_)
        refine h_one 9 (by kernel_rfl) ?_
        refine h_yield 9 rfl rfl rfl rfl (y_val tok rfl) ?_
        refine h_one 10 (by kernel_rfl) ?_
        refine h_yield 10 rfl rfl rfl rfl (y_val tok rfl) ?_
        refine h_one 11 (by kernel_rfl) ?_
        refine h_store 11 tok rfl rfl rfl rfl (by first | exact ⟨trivial, trivial⟩ | (repeat' first | exact trivial | exact rfl | apply And.intro); done | simp [onesP, oneP, lk, Value.oneCell']) (.inl rfl) ?_
        refine h_done [0, 8, 9, 10] (by kernel_rfl) rfl ?_
        refine x_block ?_
        refine x_then ?_
        refine c_region ?_
        refine o_yield rfl rfl rfl (y_val tok rfl) ?_
        refine o_yield rfl rfl rfl (y_val tok rfl) ?_
        refine o_end [0, 8, 9, 10] rfl ?_
        refine x_then ?_
        rw [wrapI (n := (i : Int) + 1) (by omega) (by omega), ← hput, ← hsn]
        refine k_swap 0 5 rfl ?_
        refine x_round (i + 1) (by omega) (by first | omega | (dsimp only; omega)) (by repeat (first | exact SubF.nil | refine SubF.cons rfl ?_)) (by repeat (first | exact SubO.nil | refine SubO.cons rfl ?_)) rfl (hle1)
  ·
    simp only [Bool.and_eq_true, Bool.or_eq_true, Bool.not_eq_true', Bool.or_eq_false_iff, Bool.and_eq_false_iff, decide_eq_true_eq, decide_eq_false_iff_not, beq_iff_eq, bne_iff_ne, Bool.not_eq_false', beq_eq_false_iff_ne, bne_eq_false_iff_eq, ne_eq, Decidable.not_not, Int.not_lt, Int.not_le] at h
    refine c_exit ?_
    refine x_then_exit ?_
    refine x_then_exit ?_
    refine x_block_hit ?_
    refine b_end tok rfl ?_
    have him : i = more.length := by omega
    subst him
    rw [List.take_length]
    intro E' w' hm _
    refine ⟨rfl, E'.κ 0, ?_, ?_, hm.row 0 _ _ _ _ rfl, ?_⟩
    · exact hm.touch (Vw.le.refl _) (fun k o hk hS => by rw [get2 k (fun h => hS (.inr h)) (fun h => hS (.inl h))]; exact hk) hos (hm.big 3 _ rfl)
    · have := hm.lit 1 _ _ rfl
      rw [List.map_cons, (den_plain _ g.cells).1, (hm.pin 2 1 _ rfl).1] at this
      exact this
    · cases hv' : (E'.κ 0).ownBlock with
      | none => exact .inr (fun k h => by cases h)
      | some k =>
        by_cases hlt : k < w.heap.size
        · rcases key0 k (hm.off 0 _ k rfl (by simpa [blk] using hv')) hlt with h | h
          · have := hm.sep 0 1 _ _ k rfl rfl (by simpa [blk] using hv') (by simp [blk, (hm.pin 2 1 _ rfl).1, h])
            cases this
          · exact .inl h.symm
        · exact .inr (fun k' h => by cases h; omega)
end Go.Proofs.Ytmjdihpdlfidmaa
