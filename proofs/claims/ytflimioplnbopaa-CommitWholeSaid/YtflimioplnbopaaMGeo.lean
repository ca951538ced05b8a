import Derived.Test.YtflimioplnbopaaData
/- Geometries that may be: the program and the document agree. -/
set_option linter.unusedVariables false
set_option linter.unusedSimpArgs false
set_option maxRecDepth 100000
namespace Go.Proofs.Ytflimioplnbopaa
open Go Go.Eng Go.RowKit

def inB (n a b : Int) : Bool := decide (a ≤ n) && decide (n ≤ b)

theorem in_c (n a b : Int) (w : World) : Calls Try.prog 89 #[I n, I a, I b] w fun e w' => e = .returned (.bool (inB n a b)) ∧ Below w.heap.size w w' := by
  refine enter (E := E0) (O := []) (nl := 0) (V := vw w) [.a (.v (I n)), .a (.v (I a)), .a (.v (I b))] Try.func89 rfl rfl (mem0 E0 0 w) rfl rfl ?_
  refine c_seq ?_
  refine c_region ?_
  refine o_yield rfl rfl rfl (y_val tok rfl) ?_
  refine o_end [0, 1, 2] rfl ?_
  refine x_then ?_
  refine c_seq ?_
  refine c_region ?_
  refine o_yield rfl rfl rfl (y_val tok rfl) ?_
  refine o_yield rfl rfl rfl (y_val tok rfl) ?_
  refine o_yield rfl rfl rfl (y_val tok rfl) ?_
  refine o_yield rfl rfl rfl (y_val tok rfl) ?_
  refine o_yield rfl rfl rfl (y_val tok rfl) ?_
  refine o_yield rfl rfl rfl (y_val tok rfl) ?_
  refine o_yield rfl rfl rfl (y_val tok rfl) ?_
  refine o_yield rfl rfl rfl (y_val tok rfl) ?_
  refine o_yield rfl rfl rfl (y_val tok rfl) ?_
  refine o_end [6] rfl ?_
  refine x_then ?_
  refine c_ret ?_
  refine b_ret tok rfl ?_
  intro E w' hm _
  exact ⟨rfl, hm.below (Vw.le.refl _)⟩

/-- A geometry that may be. -/
def geoB (g : Geo) : Bool := decide ((1 ≤ g.nodes ∧ g.nodes ≤ 16) ∧ (1 ≤ g.slots ∧ g.slots ≤ g.nodes) ∧ (1 ≤ g.blocks ∧ g.blocks ≤ 64) ∧ (1 ≤ g.per ∧ g.per ≤ 8) ∧ (g.per + 2 ≤ g.journal ∧ g.journal ≤ 64) ∧
  (8 * g.slots ≤ g.log ∧ g.log ≤ 512) ∧ (1 ≤ g.lease ∧ g.lease < g.wait ∧ g.wait ≤ 1048576))

theorem refMay_c (g : Geo) (ok : g.Ok) (w : World) : Calls Try.prog 14 #[g.val] w fun e w' => e = .returned (.bool (geoB g)) ∧ Below w.heap.size w w' := by
  refine enter (E := E0) (O := []) (nl := 0) (V := vw w) [.a (.v g.val)] Try.func14 rfl rfl (mem0 E0 0 w) rfl rfl ?_
  refine c_seq ?_
  refine c_region ?_
  refine o_new tok rfl rfl rfl rfl ?_
  refine o_yield rfl rfl rfl (y_val tok rfl) ?_
  refine o_end [1] rfl ?_
  refine x_then ?_
  refine c_seq ?_
  refine c_region ?_
  refine o_yield rfl rfl rfl (y_val tok rfl) ?_
  refine o_yield rfl rfl rfl (y_val tok rfl) ?_
  refine o_call (.a (.v _)) rfl rfl fnok89 rfl rfl rfl (fun hg E w1 hm => by exact in_c _ _ _ _) ?_
  refine o_yield rfl rfl rfl (y_val tok rfl) ?_
  refine o_yield rfl rfl rfl (y_val tok rfl) ?_
  refine o_yield rfl rfl rfl (y_val tok rfl) ?_
  refine o_yield rfl rfl rfl (y_val tok rfl) ?_
  refine o_yield rfl rfl rfl (y_val tok rfl) ?_
  refine o_call (.a (.v _)) rfl rfl fnok89 rfl rfl rfl (fun hg E w1 hm => by exact in_c _ _ _ _) ?_
  refine o_yield rfl rfl rfl (y_val tok rfl) ?_
  refine o_yield rfl rfl rfl (y_val tok rfl) ?_
  refine o_yield rfl rfl rfl (y_val tok rfl) ?_
  refine o_yield rfl rfl rfl (y_val tok rfl) ?_
  refine o_call (.a (.v _)) rfl rfl fnok89 rfl rfl rfl (fun hg E w1 hm => by exact in_c _ _ _ _) ?_
  refine o_yield rfl rfl rfl (y_val tok rfl) ?_
  refine o_yield rfl rfl rfl (y_val tok rfl) ?_
  refine o_yield rfl rfl rfl (y_val tok rfl) ?_
  refine o_yield rfl rfl rfl (y_val tok rfl) ?_
  refine o_call (.a (.v _)) rfl rfl fnok89 rfl rfl rfl (fun hg E w1 hm => by exact in_c _ _ _ _) ?_
  refine o_yield rfl rfl rfl (y_val tok rfl) ?_
  refine o_yield rfl rfl rfl (y_val tok rfl) ?_
  refine o_yield rfl rfl rfl (y_val tok rfl) ?_
  refine o_yield rfl rfl rfl (y_val tok rfl) ?_
  refine o_yield rfl rfl rfl (y_val tok rfl) ?_
  refine o_yield rfl rfl rfl (y_val tok rfl) ?_
  refine o_yield rfl rfl rfl (y_val tok rfl) ?_
  refine o_call (.a (.v _)) rfl rfl fnok89 rfl rfl rfl (fun hg E w1 hm => by exact in_c _ _ _ _) ?_
  refine o_yield rfl rfl rfl (y_val tok rfl) ?_
  refine o_yield rfl rfl rfl (y_val tok rfl) ?_
  refine o_yield rfl rfl rfl (y_val tok rfl) ?_
  refine o_yield rfl rfl rfl (y_val tok rfl) ?_
  refine o_yield rfl rfl rfl (y_val tok rfl) ?_
  refine o_yield rfl rfl rfl (y_val tok rfl) ?_
  refine o_yield rfl rfl rfl (y_val tok rfl) ?_
  refine o_call (.a (.v _)) rfl rfl fnok89 rfl rfl rfl (fun hg E w1 hm => by exact in_c _ _ _ _) ?_
  refine o_yield rfl rfl rfl (y_val tok rfl) ?_
  refine o_yield rfl rfl rfl (y_val tok rfl) ?_
  refine o_yield rfl rfl rfl (y_val tok rfl) ?_
  refine o_yield rfl rfl rfl (y_val tok rfl) ?_
  refine o_yield rfl rfl rfl (y_val tok rfl) ?_
  refine o_yield rfl rfl rfl (y_val tok rfl) ?_
  refine o_yield rfl rfl rfl (y_val tok rfl) ?_
  refine o_yield rfl rfl rfl (y_val tok rfl) ?_
  refine o_yield rfl rfl rfl (y_val tok rfl) ?_
  refine o_yield rfl rfl rfl (y_val tok rfl) ?_
  refine o_yield rfl rfl rfl (y_val tok rfl) ?_
  refine o_yield rfl rfl rfl (y_val tok rfl) ?_
  refine o_yield rfl rfl rfl (y_val tok rfl) ?_
  refine o_yield rfl rfl rfl (y_val tok rfl) ?_
  refine o_yield rfl rfl rfl (y_val tok rfl) ?_
  refine o_yield rfl rfl rfl (y_val tok rfl) ?_
  refine o_yield rfl rfl rfl (y_val tok rfl) ?_
  refine o_yield rfl rfl rfl (y_val tok rfl) ?_
  refine o_yield rfl rfl rfl (y_val tok rfl) ?_
  refine o_end [2] rfl ?_
  refine x_then ?_
  refine c_ret ?_
  refine b_ret tok rfl ?_
  intro E w' hm _
  refine ⟨?_, hm.below (Vw.le.refl _)⟩
  show Ending.returned (.bool ((((((((inB g.nodes 1 16 && inB g.slots 1 g.nodes) && inB g.blocks 1 64) && inB g.per 1 8) && inB g.journal (IntKind.i64.wrap (g.per + 2)) 64) && inB g.log (IntKind.i64.wrap (8 * g.slots)) 512) &&
    decide (1 ≤ g.lease)) && decide (g.lease < g.wait)) && decide (g.wait ≤ 1048576))) = _
  congr 2
  by_cases h : (1 ≤ g.nodes ∧ g.nodes ≤ 16) ∧ (1 ≤ g.slots ∧ g.slots ≤ g.nodes) ∧ (1 ≤ g.per ∧ g.per ≤ 8)
  · rw [wrapI (by omega) (by omega), wrapI (by omega) (by omega), Bool.eq_iff_iff]
    simp only [inB, geoB, Bool.and_eq_true, decide_eq_true_eq]
    omega
  · have : geoB g = false := by
      simp only [geoB, decide_eq_false_iff_not]
      omega
    rw [this, Bool.eq_false_iff]
    simp only [inB, ne_eq, Bool.and_eq_true, decide_eq_true_eq]
    omega

/-! The program's. -/

abbrev encI (n : Int) : List Value := [I n]

def sortedB : List Int → Bool
  | a :: b :: r => decide (a ≤ b) && sortedB (b :: r)
  | _ => true

theorem sorted_iff : ∀ (l : List Int), sortedB l = true ↔ ∀ j x y, l[j]? = some x → l[j + 1]? = some y → x ≤ y
  | [] => by simp [sortedB]
  | [a] => by simp [sortedB]
  | a :: b :: r => by
    simp only [sortedB, Bool.and_eq_true, decide_eq_true_eq, sorted_iff (b :: r)]
    constructor
    · rintro ⟨h1, h2⟩ j x y hx hy
      cases j with
      | zero => simp at hx hy; subst hx hy; exact h1
      | succ j => exact h2 j x y (by simpa using hx) (by simpa using hy)
    · intro h
      exact ⟨h 0 a b rfl rfl, fun j x y hx hy => h (j + 1) x y (by simpa using hx) (by simpa using hy)⟩

theorem within_c (V : Vw) (sv : Value) (l : List Int) (w : World) (hV : V.le (vw w)) (hs : SlOf V encI 1 sv l) (hn : l.length ≤ lim) :
    Calls Try.prog 199 #[sv] w fun e w' => e = .returned (.bool (sortedB l)) ∧ Below w.heap.size w w' := by
  simp only [lim] at hn
  have hs' := hs.mono hV
  refine enter (E := E0) (O := []) (nl := 0) (V := vw w) [.a (.v sv)] Try.func199 rfl rfl (mem0 E0 0 w) rfl rfl ?_
  refine c_seq ?_
  refine c_region ?_
  refine o_yield rfl rfl rfl (y_val tok rfl) ?_
  refine o_end [0] rfl ?_
  refine x_then ?_
  refine c_seq ?_
  refine c_seq ?_
  refine c_region ?_
  refine o_yield rfl rfl rfl (y_val tok rfl) ?_
  refine o_end [0, 3] rfl ?_
  refine x_then ?_
  refine c_block ?_
  refine c_loop (σ := Nat) (fun k => [(0, .a (.v sv)), (3, .a (.v (I (k + 1 : Nat))))]) (fun _ => []) 0 (fun _ => vw w)
    (fun k => k + 1 ≤ l.length + 1 ∧ ∀ j x y, j < k → l[j]? = some x → l[j + 1]? = some y → x ≤ y) (fun k => l.length - k) 0 ⟨by omega, by omega⟩ ⟨rfl, rfl, trivial⟩ trivial rfl (Vw.le.refl _) ?_
  rintro k ⟨hk, hall⟩
  refine c_seq ?_
  refine c_seq ?_
  refine c_region ?_
  refine o_yield rfl rfl rfl (y_val tok rfl) ?_
  refine o_yield rfl rfl rfl (y_val tok rfl) ?_
  refine o_yield rfl rfl rfl (y_len tok rfl (fun hg => hs'.sl)) ?_
  refine o_yield rfl rfl rfl (y_val tok rfl) ?_
  refine o_end [0, 3, 7] rfl ?_
  refine x_then ?_
  refine c_cond rfl (fun h => ?_) (fun h => ?_)
  ·
    refine c_skip ?_
    refine x_then ?_
    refine c_seq ?_
    refine c_block ?_
    refine c_seq ?_
    refine c_draw mixed (by kernel_rfl) ?_
    refine d_yield rfl rfl rfl (y_val tok rfl) rfl ?_
    refine d_yield rfl rfl rfl (y_val tok rfl) rfl ?_
    refine d_yield rfl rfl rfl (y_val tok rfl) rfl ?_
    have hlt : k + 1 < l.length := by simp at h; omega
    have hx : l[k]? = some (l[k]'(by omega)) := by simp
    have hy : l[k + 1]? = some l[k + 1] := by simp [hlt]
    have hw : IntKind.i64.wrap (((k + 1 : Nat) : Int) - 1) = (k : Int) := by rw [wrapI (by omega) (by omega)]; omega
    rw [hw]
    refine d_yield rfl rfl rfl (y_idx tok rfl (fun hg => hs'.sl) (fun hg => ⟨by omega, by omega⟩)) rfl ?_
    refine d_yield rfl rfl rfl (y_lel tok (k) 0 ((l[k]'(by omega))) rfl (fun hg => hs') (fun hg => hx) rfl rfl) rfl ?_
    refine d_yield rfl rfl rfl (y_val tok rfl) rfl ?_
    refine d_yield rfl rfl rfl (y_val tok rfl) rfl ?_
    refine d_yield rfl rfl rfl (y_idx tok rfl (fun hg => hs'.sl) (fun hg => ⟨by omega, by omega⟩)) rfl ?_
    refine d_yield rfl rfl rfl (y_lel tok (k + 1) 0 (l[k + 1]) rfl (fun hg => hs') (fun hg => hy) rfl rfl) rfl ?_
    refine d_yield rfl rfl rfl (y_val tok rfl) rfl ?_
    refine d_end [0, 3, 19] rfl ?_
    refine x_then ?_
    refine c_cond rfl (fun h => ?_) (fun h => ?_)
    ·
      refine c_seq ?_
      refine c_region ?_
      refine o_yield rfl rfl rfl (y_val tok rfl) ?_
      refine o_end [2] rfl ?_
      refine x_then ?_
      refine c_ret ?_
      refine x_block_ret ?_
      refine x_then_ret ?_
      refine x_then_ret ?_
      refine x_block_ret ?_
      refine x_then_ret ?_
      refine b_ret tok rfl ?_
      intro E w' hm _
      refine ⟨?_, hm.below (Vw.le.refl _)⟩
      have : sortedB l = false := by
        rw [Bool.eq_false_iff]
        intro hc
        have := (sorted_iff l).1 hc k _ _ hx hy
        simp at h; omega
      rw [this]; rfl
    ·
      refine c_skip ?_
      refine x_block ?_
      refine x_then ?_
      refine c_region ?_
      refine o_yield rfl rfl rfl (y_val tok rfl) ?_
      refine o_yield rfl rfl rfl (y_val tok rfl) ?_
      refine o_yield rfl rfl rfl (y_val tok rfl) ?_
      refine o_end [0, 3] rfl ?_
      refine x_then ?_
      have hwr : IntKind.i64.wrap (((k + 1 : Nat) : Int) + 1) = ((k + 1 + 1 : Nat) : Int) := by rw [wrapI (by omega) (by omega)]; omega
      rw [hwr]
      refine x_round (k + 1) ⟨by omega, fun j x y hj hx' hy' => ?_⟩ (by omega) ⟨rfl, rfl, trivial⟩ trivial rfl (Vw.le.refl _)
      by_cases hjk : j = k
      · subst hjk
        rw [hx] at hx'; rw [hy] at hy'
        cases hx'; cases hy'
        simp at h; omega
      · exact hall j x y (by omega) hx' hy'
  ·
    refine c_exit ?_
    refine x_then_exit ?_
    refine x_then_exit ?_
    refine x_block_hit ?_
    refine x_then ?_
    refine c_seq ?_
    refine c_region ?_
    refine o_yield rfl rfl rfl (y_val tok rfl) ?_
    refine o_end [2] rfl ?_
    refine x_then ?_
    refine c_ret ?_
    refine b_ret tok rfl ?_
    intro E w' hm _
    refine ⟨?_, hm.below (Vw.le.refl _)⟩
    have : sortedB l = true := by
      rw [sorted_iff]
      intro j x y hx hy
      have := (List.getElem?_eq_some_iff.1 hy).1
      simp at h
      exact hall j x y (by omega) hx hy
    rw [this]; rfl

theorem geoMay_c (g : Geo) (ok : g.Ok) (w : World) : Calls Try.prog 127 #[g.val] w fun e w' => e = .returned (.bool (geoB g)) ∧ Below w.heap.size w w' := by
  refine enter (E := E0) (O := []) (nl := 0) (V := vw w) [.a (.v g.val)] Try.func127 rfl rfl (mem0 E0 0 w) rfl rfl ?_
  refine c_seq ?_
  refine c_region ?_
  refine o_new tok rfl rfl rfl rfl ?_
  refine o_yield rfl rfl rfl (y_val tok rfl) ?_
  refine o_end [1] rfl ?_
  refine x_then ?_
  refine c_seq ?_
  refine c_region ?_
  refine o_yield rfl rfl rfl (y_val tok rfl) ?_
  refine o_yield rfl rfl rfl (y_val tok rfl) ?_
  refine o_yield rfl rfl rfl (y_val tok rfl) ?_
  refine o_yield rfl rfl rfl (y_val tok rfl) ?_
  refine o_bs tok rfl rfl rfl rfl (fun b1 V1 hle1 hb1 => ?_)
  refine o_call (.a (.v _)) rfl rfl fnok199 rfl rfl rfl (fun hg E w1 hm => by exact within_c V1 _ [1, g.slots, g.nodes, 16] _ hm.leV (SlOf.ofBlock (enc := encI) (sz := 1) (l := [1, g.slots, g.nodes, 16]) (hb1 hg) rfl (fun _ => rfl) (Nat.le_refl _)) (by simp [lim])) ?_
  refine o_yield rfl rfl rfl (y_val tok rfl) ?_
  refine o_yield rfl rfl rfl (y_val tok rfl) ?_
  refine o_yield rfl rfl rfl (y_val tok rfl) ?_
  refine o_bs tok rfl rfl rfl rfl (fun b2 V2 hle2 hb2 => ?_)
  refine o_call (.a (.v _)) rfl rfl fnok199 rfl rfl rfl (fun hg E w1 hm => by exact within_c V2 _ [1, g.blocks, 64] _ hm.leV (SlOf.ofBlock (enc := encI) (sz := 1) (l := [1, g.blocks, 64]) (hb2 hg) rfl (fun _ => rfl) (Nat.le_refl _)) (by simp [lim])) ?_
  refine o_yield rfl rfl rfl (y_val tok rfl) ?_
  refine o_yield rfl rfl rfl (y_val tok rfl) ?_
  refine o_yield rfl rfl rfl (y_val tok rfl) ?_
  refine o_yield rfl rfl rfl (y_val tok rfl) ?_
  refine o_bs tok rfl rfl rfl rfl (fun b3 V3 hle3 hb3 => ?_)
  refine o_call (.a (.v _)) rfl rfl fnok199 rfl rfl rfl (fun hg E w1 hm => by exact within_c V3 _ [1, g.per, 8] _ hm.leV (SlOf.ofBlock (enc := encI) (sz := 1) (l := [1, g.per, 8]) (hb3 hg) rfl (fun _ => rfl) (Nat.le_refl _)) (by simp [lim])) ?_
  refine o_yield rfl rfl rfl (y_val tok rfl) ?_
  refine o_yield rfl rfl rfl (y_val tok rfl) ?_
  refine o_yield rfl rfl rfl (y_val tok rfl) ?_
  refine o_yield rfl rfl rfl (y_val tok rfl) ?_
  refine o_yield rfl rfl rfl (y_val tok rfl) ?_
  refine o_yield rfl rfl rfl (y_val tok rfl) ?_
  refine o_yield rfl rfl rfl (y_val tok rfl) ?_
  refine o_bs tok rfl rfl rfl rfl (fun b4 V4 hle4 hb4 => ?_)
  refine o_call (.a (.v _)) rfl rfl fnok199 rfl rfl rfl (fun hg E w1 hm => by exact within_c V4 _ [IntKind.i64.wrap (g.per + 2), g.journal, 64] _ hm.leV (SlOf.ofBlock (enc := encI) (sz := 1) (l := [IntKind.i64.wrap (g.per + 2), g.journal, 64]) (hb4 hg) rfl (fun _ => rfl) (Nat.le_refl _)) (by simp [lim])) ?_
  refine o_yield rfl rfl rfl (y_val tok rfl) ?_
  refine o_yield rfl rfl rfl (y_val tok rfl) ?_
  refine o_yield rfl rfl rfl (y_val tok rfl) ?_
  refine o_yield rfl rfl rfl (y_val tok rfl) ?_
  refine o_yield rfl rfl rfl (y_val tok rfl) ?_
  refine o_yield rfl rfl rfl (y_val tok rfl) ?_
  refine o_yield rfl rfl rfl (y_val tok rfl) ?_
  refine o_bs tok rfl rfl rfl rfl (fun b5 V5 hle5 hb5 => ?_)
  refine o_call (.a (.v _)) rfl rfl fnok199 rfl rfl rfl (fun hg E w1 hm => by exact within_c V5 _ [IntKind.i64.wrap (8 * g.slots), g.log, 512] _ hm.leV (SlOf.ofBlock (enc := encI) (sz := 1) (l := [IntKind.i64.wrap (8 * g.slots), g.log, 512]) (hb5 hg) rfl (fun _ => rfl) (Nat.le_refl _)) (by simp [lim])) ?_
  refine o_yield rfl rfl rfl (y_val tok rfl) ?_
  refine o_yield rfl rfl rfl (y_val tok rfl) ?_
  refine o_yield rfl rfl rfl (y_val tok rfl) ?_
  refine o_yield rfl rfl rfl (y_val tok rfl) ?_
  refine o_yield rfl rfl rfl (y_val tok rfl) ?_
  refine o_yield rfl rfl rfl (y_val tok rfl) ?_
  refine o_yield rfl rfl rfl (y_val tok rfl) ?_
  refine o_bs tok rfl rfl rfl rfl (fun b6 V6 hle6 hb6 => ?_)
  refine o_call (.a (.v _)) rfl rfl fnok199 rfl rfl rfl (fun hg E w1 hm => by exact within_c V6 _ [1, g.lease, IntKind.i64.wrap (g.wait - 1), 1048575] _ hm.leV (SlOf.ofBlock (enc := encI) (sz := 1) (l := [1, g.lease, IntKind.i64.wrap (g.wait - 1), 1048575]) (hb6 hg) rfl (fun _ => rfl) (Nat.le_refl _)) (by simp [lim])) ?_
  refine o_yield rfl rfl rfl (y_val tok rfl) ?_
  refine o_yield rfl rfl rfl (y_val tok rfl) ?_
  refine o_end [2] rfl ?_
  refine x_then ?_
  refine c_ret ?_
  refine b_ret tok rfl ?_
  intro E w' hm _
  refine ⟨?_, hm.below (((((hle1.trans hle2).trans hle3).trans hle4).trans hle5).trans hle6)⟩
  show Ending.returned (.bool (((((sortedB [1, g.slots, g.nodes, 16] && sortedB [1, g.blocks, 64]) && sortedB [1, g.per, 8]) && sortedB [IntKind.i64.wrap (g.per + 2), g.journal, 64]) && sortedB [IntKind.i64.wrap (8 * g.slots), g.log, 512]) &&
    sortedB [1, g.lease, IntKind.i64.wrap (g.wait - 1), 1048575])) = _
  congr 2
  have hw := ok.wait
  simp only [R64] at hw
  by_cases h : (1 ≤ g.nodes ∧ g.nodes ≤ 16) ∧ (1 ≤ g.slots ∧ g.slots ≤ g.nodes) ∧ (1 ≤ g.per ∧ g.per ≤ 8)
  · rw [wrapI (n := g.per + 2) (by omega) (by omega), wrapI (n := 8 * g.slots) (by omega) (by omega)]
    by_cases hwait : g.wait = -9223372036854775808
    · have : geoB g = false := by
        simp only [geoB, decide_eq_false_iff_not]
        omega
      rw [this, hwait]
      simp [sortedB]
      intros
      decide
    · rw [wrapI (n := g.wait - 1) (by omega) (by omega), Bool.eq_iff_iff]
      simp only [sortedB, geoB, Bool.and_eq_true, decide_eq_true_eq, and_true]
      omega
  · have : geoB g = false := by
      simp only [geoB, decide_eq_false_iff_not]
      omega
    rw [this, Bool.eq_false_iff]
    simp only [sortedB, ne_eq, Bool.and_eq_true, decide_eq_true_eq]
    omega
end Go.Proofs.Ytflimioplnbopaa

/- Records: which may be. -/
set_option linter.unusedVariables false
set_option linter.unusedSimpArgs false
set_option maxRecDepth 100000
namespace Go.Proofs.Ytflimioplnbopaa
open Go Go.Eng Go.RowKit

def belowB (n m : Int) : Bool := decide (0 ≤ n) && decide (n < m)

theorem below_c (n m : Int) (w : World) : Calls Try.prog 181 #[I n, I m] w fun e w' => e = .returned (.bool (belowB n m)) ∧ Below w.heap.size w w' := by
  refine enter (E := E0) (O := []) (nl := 0) (V := vw w) [.a (.v (I n)), .a (.v (I m))] Try.func181 rfl rfl (mem0 E0 0 w) rfl rfl ?_
  refine c_seq ?_
  refine c_region ?_
  refine o_yield rfl rfl rfl (y_val tok rfl) ?_
  refine o_end [0, 1] rfl ?_
  refine x_then ?_
  refine c_seq ?_
  refine c_region ?_
  refine o_yield rfl rfl rfl (y_val tok rfl) ?_
  refine o_yield rfl rfl rfl (y_val tok rfl) ?_
  refine o_yield rfl rfl rfl (y_val tok rfl) ?_
  refine o_yield rfl rfl rfl (y_val tok rfl) ?_
  refine o_yield rfl rfl rfl (y_val tok rfl) ?_
  refine o_yield rfl rfl rfl (y_val tok rfl) ?_
  refine o_yield rfl rfl rfl (y_val tok rfl) ?_
  refine o_yield rfl rfl rfl (y_val tok rfl) ?_
  refine o_end [4] rfl ?_
  refine x_then ?_
  refine c_ret ?_
  refine b_ret tok rfl ?_
  intro E w' hm _
  exact ⟨rfl, hm.below (Vw.le.refl _)⟩

def keyB (n : Int) : Bool := decide (16 ≤ n) && decide (n ≤ 1099511627776)

theorem key_c (n : Int) (w : World) : Calls Try.prog 285 #[I n] w fun e w' => e = .returned (.bool (keyB n)) ∧ Below w.heap.size w w' := by
  refine enter (E := E0) (O := []) (nl := 0) (V := vw w) [.a (.v (I n))] Try.func285 rfl rfl (mem0 E0 0 w) rfl rfl ?_
  refine c_seq ?_
  refine c_region ?_
  refine o_yield rfl rfl rfl (y_val tok rfl) ?_
  refine o_end [0] rfl ?_
  refine x_then ?_
  refine c_seq ?_
  refine c_region ?_
  refine o_yield rfl rfl rfl (y_val tok rfl) ?_
  refine o_yield rfl rfl rfl (y_val tok rfl) ?_
  refine o_yield rfl rfl rfl (y_val tok rfl) ?_
  refine o_yield rfl rfl rfl (y_val tok rfl) ?_
  refine o_yield rfl rfl rfl (y_val tok rfl) ?_
  refine o_yield rfl rfl rfl (y_val tok rfl) ?_
  refine o_yield rfl rfl rfl (y_val tok rfl) ?_
  refine o_end [2] rfl ?_
  refine x_then ?_
  refine c_ret ?_
  refine b_ret tok rfl ?_
  intro E w' hm _
  exact ⟨rfl, hm.below (Vw.le.refl _)⟩

theorem commits_c (r : Record) (b : Nat) (w : World) (hb : w.heap[b]? = some (.cells r.cells.toArray 300 (0, 0))) :
    Calls Try.prog 286 #[.pointer (some ⟨b, 0, none⟩)] w fun e w' => e = .returned (.bool (decide (0 < r.count))) ∧ Below w.heap.size w w' := by
  refine enter1 [.a (.ptr 0 0)] hb Try.func286 rfl rfl rfl rfl ?_
  refine c_seq ?_
  refine c_region ?_
  refine o_yield rfl rfl rfl (y_val tok rfl) ?_
  refine o_end [0] rfl ?_
  refine x_then ?_
  refine c_seq ?_
  refine c_region ?_
  refine o_yield rfl rfl rfl (y_val tok rfl) ?_
  refine o_yield rfl rfl rfl (y_val tok rfl) ?_
  refine o_yield rfl rfl rfl (y_val tok rfl) ?_
  refine o_yield rfl rfl rfl (y_val tok rfl) ?_
  refine o_yield rfl rfl rfl (y_val tok rfl) ?_
  refine o_yield rfl rfl rfl (y_val tok rfl) ?_
  refine o_yield rfl rfl rfl (y_val tok rfl) ?_
  refine o_end [2] rfl ?_
  refine x_then ?_
  refine c_ret ?_
  refine b_ret tok rfl ?_
  intro E w' hm _
  exact ⟨rfl, below1 hb hm (Vw.le.refl _) rfl rfl rfl⟩

def Record.eqB (a b : Record) : Bool := a.key == b.key && (a.lsn == b.lsn && (a.block == b.block && (a.k == b.k && (a.text.toList == b.text.toList && a.count == b.count))))

theorem toList_inj {a b : ByteArray} (h : a.toList = b.toList) : a = b := by
  rw [ByteArray.toList_eq, ByteArray.toList_eq] at h
  obtain ⟨x⟩ := a
  obtain ⟨y⟩ := b
  exact congrArg ByteArray.mk (Array.ext' h)

theorem size_zero {a : ByteArray} (h : a.size = 0) : a = ByteArray.empty := by
  obtain ⟨⟨x⟩⟩ := a
  have : x = [] := List.eq_nil_of_length_eq_zero h
  subst this
  rfl

theorem Record.eqB_iff (a b : Record) : a.eqB b = true ↔ a = b := by
  simp only [Record.eqB, Bool.and_eq_true, beq_iff_eq]
  constructor
  · rintro ⟨h1, h2, h3, h4, h5, h6⟩
    cases a; cases b
    have := toList_inj h5
    simp_all
  · rintro rfl
    simp

theorem recEq {op : BinOp} {ox oy : Operand} (a b : Record) (w : World) (hop : op = .eql ∨ op = .neq) :
    (do eqGuard op 99 ox oy a.val b.val; binOp op 99 a.val b.val : Sem Value).run Try.prog w = .ok (.bool (if op = .eql then a.eqB b else !(a.eqB b))) w := by
  have hS : Try.prog.underlying 99 = some (.struct (Try.prog.fieldsOf 99)) := by kernel_rfl
  have hp : Try.prog.stoodInHeld 99 = false := by kernel_rfl
  have hg : Try.prog.eqGuardType Try.prog.depth 99 = false := by kernel_rfl
  have key : (Op.equalIn 10000 99 a.val b.val).run Try.prog w = .ok (a.eqB b) w := by
    have u3 := Try.underlying3
    have a3 := Try.isAgg3
    have z3 := Try.sizeOf3
    have u9 := Try.underlying9
    have a9 := Try.isAgg9
    have z9 := Try.sizeOf9
    rw [show (10000 : Nat) = 9999 + 1 from rfl, run_equalIn_agg w 9999 99 _ _ hS hp]
    simp only [Program.fieldsOf, Try.underlying99]
    go_simp
    unfold Record.eqB
    by_cases h1 : a.key = b.key <;> by_cases h2 : a.lsn = b.lsn <;> by_cases h3 : a.block = b.block <;> by_cases h4 : a.k = b.k <;> by_cases h5 : a.text.toList = b.text.toList <;> by_cases h6 : a.count = b.count <;> simp [h1, h2, h3, h4, h5, h6]
  rw [Sem.run_bind, run_eqGuard_agg w _ _ _ _ _ _ hg]
  rcases hop with rfl | rfl
  · simp only [Result.andThen_ok, run_eql_struct, key]; rfl
  · simp only [Result.andThen_ok, run_neq_struct, key]; rfl

def recB (r : Record) : Bool :=
  keyB r.key && belowB r.lsn 1099511627777 && belowB r.count 64 &&
    (if 0 < r.count then decide (r.block = 0) && decide (r.k = 0) && (r.text.size == 0) else belowB r.block 64 && belowB r.k 8 && decide ((r.text.size : Int) ≤ 256))

theorem entryMay_c (r : Record) (b : Nat) (w : World) (hb : w.heap[b]? = some (.cells r.cells.toArray 300 (0, 0))) :
    Calls Try.prog 245 #[.pointer (some ⟨b, 0, none⟩)] w fun e w' => e = .returned (.bool (recB r)) ∧ Below w.heap.size w w' := by
  refine enter1 [.a (.ptr 0 0)] hb Try.func245 rfl rfl rfl rfl ?_
  refine c_seq ?_
  refine c_region ?_
  refine o_yield rfl rfl rfl (y_val tok rfl) ?_
  refine o_end [0] rfl ?_
  refine x_then ?_
  refine c_seq ?_
  refine c_seq ?_
  refine c_region ?_
  refine o_yield rfl rfl rfl (y_val tok rfl) ?_
  refine o_yield rfl rfl rfl (y_val tok rfl) ?_
  refine o_yield rfl rfl rfl (y_val tok rfl) ?_
  refine o_yield rfl rfl rfl (y_val tok rfl) ?_
  refine o_yield rfl rfl rfl (y_val tok rfl) ?_
  refine o_call (.a (.v _)) rfl rfl fnok285 rfl rfl rfl (fun hg E w1 hm => by exact key_c _ _) ?_
  refine o_yield rfl rfl rfl (y_val tok rfl) ?_
  refine o_yield rfl rfl rfl (y_val tok rfl) ?_
  refine o_yield rfl rfl rfl (y_val tok rfl) ?_
  refine o_yield rfl rfl rfl (y_val tok rfl) ?_
  refine o_yield rfl rfl rfl (y_val tok rfl) ?_
  refine o_yield rfl rfl rfl (y_val tok rfl) ?_
  refine o_yield rfl rfl rfl (y_val tok rfl) ?_
  refine o_call (.a (.v _)) rfl rfl fnok181 rfl rfl rfl (fun hg E w1 hm => by exact below_c _ _ _) ?_
  refine o_yield rfl rfl rfl (y_val tok rfl) ?_
  refine o_yield rfl rfl rfl (y_val tok rfl) ?_
  refine o_yield rfl rfl rfl (y_val tok rfl) ?_
  refine o_yield rfl rfl rfl (y_val tok rfl) ?_
  refine o_yield rfl rfl rfl (y_val tok rfl) ?_
  refine o_yield rfl rfl rfl (y_val tok rfl) ?_
  refine o_yield rfl rfl rfl (y_val tok rfl) ?_
  refine o_yield rfl rfl rfl (y_val tok rfl) ?_
  refine o_call (.a (.v _)) rfl rfl fnok181 rfl rfl rfl (fun hg E w1 hm => by exact below_c _ _ _) ?_
  refine o_yield rfl rfl rfl (y_val tok rfl) ?_
  refine o_yield rfl rfl rfl (y_val tok rfl) ?_
  refine o_end [0, 27] rfl ?_
  refine x_then ?_
  refine c_cond rfl (fun h => ?_) (fun h => ?_)
  ·
    refine c_seq ?_
    refine c_region ?_
    refine o_yield rfl rfl rfl (y_val tok rfl) ?_
    refine o_end [2] rfl ?_
    refine x_then ?_
    refine c_ret ?_
    refine x_then_ret ?_
    refine b_ret tok rfl ?_
    intro E w' hm _
    refine ⟨?_, below1 hb hm (Vw.le.refl _) rfl rfl rfl⟩
    have : recB r = false := by
      simp only [recB]
      revert h
      cases keyB r.key <;> cases belowB r.lsn 1099511627777 <;> cases belowB r.count 64 <;> simp
    rw [this]; rfl
  ·
    refine c_skip ?_
    refine x_then ?_
    refine c_seq ?_
    refine c_seq ?_
    refine c_region ?_
    refine o_yield rfl rfl rfl (y_val tok rfl) ?_
    have hpre := h
    clear h
    refine o_call (.a (.v _)) rfl rfl fnok286 rfl rfl rfl (fun hg E w1 hm => by exact commits_c r _ _ (hm.lit 0 _ _ rfl)) ?_
    refine o_end [0, 29] rfl ?_
    refine x_then ?_
    refine c_cond rfl (fun h => ?_) (fun h => ?_)
    ·
      refine c_seq ?_
      refine c_draw mixed (by kernel_rfl) ?_
      refine d_yield rfl rfl rfl (y_val tok rfl) rfl ?_
      refine d_yield rfl rfl rfl (y_val tok rfl) rfl ?_
      refine d_yield rfl rfl rfl (y_val tok rfl) rfl ?_
      refine d_yield rfl rfl rfl (y_val tok rfl) rfl ?_
      refine d_yield rfl rfl rfl (y_val tok rfl) rfl ?_
      refine d_yield rfl rfl rfl (y_val tok rfl) rfl ?_
      refine d_yield rfl rfl rfl (y_val tok rfl) rfl ?_
      refine d_yield rfl rfl rfl (y_val tok rfl) rfl ?_
      refine d_yield rfl rfl rfl (y_val tok rfl) rfl ?_
      refine d_yield rfl rfl rfl (y_val tok rfl) rfl ?_
      refine d_yield rfl rfl rfl (y_val tok rfl) rfl ?_
      refine d_yield rfl rfl rfl (y_val tok rfl) rfl ?_
      refine d_yield rfl rfl rfl (y_val tok rfl) rfl ?_
      refine d_yield rfl rfl rfl (y_val tok rfl) rfl ?_
      refine d_yield rfl rfl rfl (y_val tok rfl) rfl ?_
      refine d_yield rfl rfl rfl (y_val tok rfl) rfl ?_
      refine d_yield rfl rfl rfl (y_val tok rfl) rfl ?_
      refine d_yield rfl rfl rfl (y_val tok rfl) rfl ?_
      refine d_yield rfl rfl rfl (y_val tok rfl) rfl ?_
      refine d_yield rfl rfl rfl (y_val tok rfl) rfl ?_
      refine d_yield rfl rfl rfl (y_seq (.bool (r.eqB ⟨r.key, r.lsn, 0, 0, ByteArray.empty, r.count⟩)) rfl (fun E w => recEq r ⟨r.key, r.lsn, 0, 0, ByteArray.empty, r.count⟩ w (.inl rfl))) rfl ?_
      refine d_yield rfl rfl rfl (y_val tok rfl) rfl ?_
      refine d_end [2] rfl ?_
      refine x_then ?_
      refine c_ret ?_
      refine x_then_ret ?_
      refine b_ret tok rfl ?_
      intro E w' hm _
      refine ⟨?_, below1 hb hm (Vw.le.refl _) rfl rfl rfl⟩
      show Ending.returned (.bool _) = _
      congr 2
      have h0 : 0 < r.count := by simpa using h
      rw [Bool.eq_iff_iff, Record.eqB_iff]
      simp only [recB, if_pos h0]
      have hc : (keyB r.key && belowB r.lsn 1099511627777 && belowB r.count 64) = true := by
        simp only [Bool.or_eq_false_iff, Bool.not_eq_false'] at hpre
        simp [hpre]
      rw [hc, Bool.true_and]
      simp only [Bool.and_eq_true, decide_eq_true_eq, beq_iff_eq]
      constructor
      · intro he
        have h1 := congrArg Record.block he
        have h2 := congrArg Record.k he
        have h3 := congrArg Record.text he
        simp only at h1 h2 h3
        exact ⟨⟨h1, h2⟩, by rw [h3]; rfl⟩
      · rintro ⟨⟨h1, h2⟩, h3⟩
        have h4 : r.text = ByteArray.empty := size_zero h3
        cases r
        simp_all
    ·
      refine c_skip ?_
      refine x_then ?_
      refine c_seq ?_
      refine c_region ?_
      refine o_yield rfl rfl rfl (y_val tok rfl) ?_
      refine o_yield rfl rfl rfl (y_val tok rfl) ?_
      refine o_yield rfl rfl rfl (y_val tok rfl) ?_
      refine o_yield rfl rfl rfl (y_val tok rfl) ?_
      refine o_yield rfl rfl rfl (y_val tok rfl) ?_
      refine o_call (.a (.v _)) rfl rfl fnok181 rfl rfl rfl (fun hg E w1 hm => by exact below_c _ _ _) ?_
      refine o_yield rfl rfl rfl (y_val tok rfl) ?_
      refine o_yield rfl rfl rfl (y_val tok rfl) ?_
      refine o_yield rfl rfl rfl (y_val tok rfl) ?_
      refine o_yield rfl rfl rfl (y_val tok rfl) ?_
      refine o_yield rfl rfl rfl (y_val tok rfl) ?_
      refine o_yield rfl rfl rfl (y_val tok rfl) ?_
      refine o_call (.a (.v _)) rfl rfl fnok181 rfl rfl rfl (fun hg E w1 hm => by exact below_c _ _ _) ?_
      refine o_yield rfl rfl rfl (y_val tok rfl) ?_
      refine o_yield rfl rfl rfl (y_val tok rfl) ?_
      refine o_yield rfl rfl rfl (y_val tok rfl) ?_
      refine o_yield rfl rfl rfl (y_val tok rfl) ?_
      refine o_yield rfl rfl rfl (y_val tok rfl) ?_
      refine o_yield rfl rfl rfl (y_val tok rfl) ?_
      refine o_yield rfl rfl rfl (y_val tok rfl) ?_
      refine o_yield rfl rfl rfl (y_val tok rfl) ?_
      refine o_yield rfl rfl rfl (y_val tok rfl) ?_
      refine o_yield rfl rfl rfl (y_val tok rfl) ?_
      refine o_yield rfl rfl rfl (y_val tok rfl) ?_
      refine o_end [2] rfl ?_
      refine x_then ?_
      refine c_ret ?_
      refine b_ret tok rfl ?_
      intro E w' hm _
      refine ⟨?_, below1 hb hm (Vw.le.refl _) rfl rfl rfl⟩
      show Ending.returned (.bool _) = _
      congr 2
      have h0 : ¬ 0 < r.count := by simpa using h
      simp only [recB, if_neg h0]
      have hc : (keyB r.key && belowB r.lsn 1099511627777 && belowB r.count 64) = true := by
        simp only [Bool.or_eq_false_iff, Bool.not_eq_false'] at hpre
        simp [hpre]
      rw [hc, Bool.true_and]

theorem recMay_c (r : Record) (w : World) : Calls Try.prog 183 #[r.val] w fun e w' => e = .returned (.bool (recB r)) ∧ Below w.heap.size w w' := by
  refine enter (E := E0) (O := []) (nl := 0) (V := vw w) [.a (.v r.val)] Try.func183 rfl rfl (mem0 E0 0 w) rfl rfl ?_
  refine c_seq ?_
  refine c_region ?_
  refine o_new tok rfl rfl rfl rfl ?_
  refine o_yield rfl rfl rfl (y_val tok rfl) ?_
  refine o_end [1] rfl ?_
  refine x_then ?_
  refine c_seq ?_
  refine c_region ?_
  refine o_yield rfl rfl rfl (y_val tok rfl) ?_
  refine o_yield rfl rfl rfl (y_val tok rfl) ?_
  refine o_new tok rfl rfl rfl rfl ?_
  refine o_call (.a (.v _)) rfl rfl fnok245 rfl rfl rfl (fun hg E w1 hm => by exact entryMay_c r _ _ (hm.lit 1 _ _ rfl)) ?_
  refine o_yield rfl rfl rfl (y_val tok rfl) ?_
  refine o_end [2] rfl ?_
  refine x_then ?_
  refine c_ret ?_
  refine b_ret tok rfl ?_
  intro E w' hm _
  exact ⟨rfl, hm.below (Vw.le.refl _)⟩
end Go.Proofs.Ytflimioplnbopaa

/- A transaction's records: cutting texts, the closure that puts. -/
set_option linter.unusedVariables false
set_option linter.unusedSimpArgs false
set_option maxRecDepth 100000
namespace Go.Proofs.Ytflimioplnbopaa
open Go Go.Eng Go.RowKit


def headOf (s : ByteArray) : ByteArray := s.extract 0 (min s.size 256)
def tailOf (s : ByteArray) : ByteArray := s.extract (min s.size 256) s.size

theorem minI (a : Nat) : (bif false then max (a : Int) 256 else min (a : Int) 256) = ((min a 256 : Nat) : Int) := by
  simp only [cond_false]; omega

theorem cut_c (s : ByteArray) (w : World) : Calls Try.prog 184 #[S s] w fun e w' => e = .returned (.tuple #[S (headOf s), S (tailOf s)]) ∧ Below w.heap.size w w' := by
  refine enter (E := E0) (O := []) (nl := 0) (V := vw w) [.a (.v (S s))] Try.func184 rfl rfl (mem0 E0 0 w) rfl rfl ?_
  refine c_seq ?_
  refine c_region ?_
  refine o_yield rfl rfl rfl (y_val tok rfl) ?_
  refine o_yield rfl rfl rfl (y_val tok rfl) ?_
  refine o_end [0] rfl ?_
  refine x_then ?_
  refine c_seq ?_
  refine c_region ?_
  refine o_yield rfl rfl rfl (y_val tok rfl) ?_
  refine o_yield rfl rfl rfl (y_val tok rfl) ?_
  refine o_yield rfl rfl rfl (y_mm rfl) ?_
  refine o_yield rfl rfl rfl (y_val tok rfl) ?_
  refine o_end [0, 4] rfl ?_
  refine x_then ?_
  refine c_seq ?_
  refine c_draw mixed (by kernel_rfl) ?_
  refine d_yield rfl rfl rfl (y_val tok rfl) rfl ?_
  refine d_yield rfl rfl rfl (y_val tok rfl) rfl ?_
  rw [minI]
  refine d_yield rfl rfl rfl (y_ss tok rfl (fun hg => by simp only [Option.getD]; omega)) rfl ?_
  refine d_yield rfl rfl rfl (y_val tok rfl) rfl ?_
  refine d_yield rfl rfl rfl (y_val tok rfl) rfl ?_
  refine d_yield rfl rfl rfl (y_ss tok rfl (fun hg => by simp only [Option.getD]; omega)) rfl ?_
  refine d_yield rfl rfl rfl (y_val tok rfl) rfl ?_
  refine d_yield rfl rfl rfl (y_val tok rfl) rfl ?_
  refine d_end [2, 3] rfl ?_
  refine x_then ?_
  refine c_ret ?_
  refine b_ret tok rfl ?_
  intro E w' hm _
  exact ⟨rfl, hm.below (Vw.le.refl _)⟩

def Record.at (r : Record) (key lsn : Int) : Record := ⟨key, lsn, r.block, r.k, r.text, r.count⟩

theorem rec_ones (l : List Record) : ∀ u ∈ l.flatMap Record.cells, u.oneCell' = true := by
  intro u hu
  obtain ⟨x, _, hx⟩ := List.mem_flatMap.1 hu
  simp only [Record.cells, List.mem_cons, List.not_mem_nil, or_false] at hx
  rcases hx with rfl | rfl | rfl | rfl | rfl | rfl <;> rfl

abbrev Ptr (b : Nat) : Value := .pointer (some ⟨b, 0, none⟩)

theorem put_c (r : Record) (key lsn : Int) (l : List Record) (bk bl bo : Nat) (v : Value) (w : World) (hk : w.heap[bk]? = some (.cells #[I key] 3 (0, 0))) (hl : w.heap[bl]? = some (.cells #[I lsn] 3 (0, 0)))
    (ho : w.heap[bo]? = some (.cells #[v] 41 (0, 0))) (hr : w.ownsRow 0 99 6 v l.length (l.flatMap Record.cells)) (d2 : bk ≠ bo) (d3 : bl ≠ bo)
    (e1 : v.ownBlock ≠ some bk) (e2 : v.ownBlock ≠ some bl) (e3 : v.ownBlock ≠ some bo) (hn : l.length ≤ 1048576) :
    Calls Try.prog 182 #[r.val, Ptr bk, Ptr bl, Ptr bo] w fun e w' => e = .returned (.bool (recB (r.at key (IntKind.i64.wrap (lsn + l.length))))) ∧
      ∃ v', Go.Eng.Touch (fun k => k = bo ∨ v.ownBlock = some k) w w' ∧ w'.heap[bo]? = some (.cells #[v'] 41 (0, 0)) ∧
        w'.ownsRow 0 99 6 v' (l.length + 1) ((l ++ [r.at key (IntKind.i64.wrap (lsn + l.length))]).flatMap Record.cells) ∧ (v'.ownBlock = v.ownBlock ∨ ∀ k, v'.ownBlock = some k → w.heap.size ≤ k) := by
  have hV : ∀ k, v.ownBlock = some k → ((vw w).get k).isSome = true := fun k h => by
    have := (hr.lt k h).2
    simp [vw, this]
  have hm1 := (mem0 E0 0 w).addRow hr hV
  have get1 : ∀ k, v.ownBlock ≠ some k → ((vw w).delO v.ownBlock).get k = w.heap[k]? := fun k h => by
    cases hv : v.ownBlock with
    | none => rfl
    | some b =>
      simp only [Vw.delO, Vw.del, vw]
      rw [if_neg (fun e => h (by rw [hv, e]))]
  have hm2 := hm1.addLit (b := bo) (e := 41) (cs := [.row 0]) (by rw [get1 bo e3, ho]; rfl) rfl
  have hm3 := (hm2.addPin 1 bo (by simp [Env.setρ]) (by omega)).addSize
  have get2 : ∀ k, v.ownBlock ≠ some k → k ≠ bo → (((vw w).delO v.ownBlock).del bo).get k = w.heap[k]? := fun k h h' => by
    simp only [Vw.del]
    rw [if_neg h', ← get1 k h]
  have hk' := (get2 bk e1 d2).trans hk
  have hl' := (get2 bl e2 d3).trans hl
  generalize hV0 : (((vw w).delO v.ownBlock).del bo) = V0 at hm3 hk' hl' get2
  have hos : V0.os = w.os ∧ V0.tape = w.tape ∧ V0.output = w.output := by
    rw [← hV0]
    cases v.ownBlock <;> exact ⟨rfl, rfl, rfl⟩
  have key0 : ∀ k, V0.get k = none → k < w.heap.size → k = bo ∨ v.ownBlock = some k := fun k hg hlt => by
    by_cases h1 : k = bo
    · exact .inl h1
    · by_cases h2 : v.ownBlock = some k
      · exact .inr h2
      · rw [get2 k h2 h1] at hg
        simp [hlt] at hg
  clear hm1 hm2 hV0
  obtain ⟨E, hE⟩ : ∃ E, E = (E0.setκ 0 v).setρ 1 bo := ⟨_, rfl⟩
  have hb : E.ρ 1 = bo := by rw [hE]; simp [Env.setρ]
  have hvE : E.κ 0 = v := by rw [hE]; simp [Env.setρ, Env.setκ]
  rw [← hE] at hm3
  clear hE
  subst hb hvE
  refine enter [.a (.v r.val), .a (.v (Ptr bk)), .a (.v (Ptr bl)), .a (.ptr 1 0)] Try.func182 rfl rfl (hm3) rfl rfl ?_
  refine c_seq ?_
  refine c_region ?_
  refine o_new tok rfl rfl rfl rfl ?_
  refine o_yield rfl rfl rfl (y_val tok rfl) ?_
  refine o_end [1, 2, 3, 4] rfl ?_
  refine x_then ?_
  refine c_seq ?_
  refine c_held [] ([(3, .size w.heap.size), (2, .pin 1 (E.ρ 1)), (1, .lit [.row 0] 41), (0, .row 99 6 l.length (l.flatMap Record.cells))]) mixed (by repeat (first | exact SubO.nil | refine SubO.cons rfl ?_)) (by first | rfl | simp [okCels, allOk_plain]) ?_
  refine t_take 0 rfl (by kernel_rfl) rfl rfl rfl (y_ldp tok rfl (fun hg => hk') rfl) rfl ?_
  refine t_take 1 rfl (by kernel_rfl) rfl rfl rfl (y_ldp tok rfl (fun hg => hl') rfl) rfl ?_
  refine t_take 2 rfl (by kernel_rfl) rfl rfl rfl (y_val tok rfl) rfl ?_
  refine t_take 3 rfl (by kernel_rfl) rfl rfl rfl (y_val tok rfl) rfl ?_
  refine t_take 4 rfl (by kernel_rfl) rfl rfl rfl (y_val tok rfl) rfl ?_
  refine t_take 5 rfl (by kernel_rfl) rfl rfl rfl (y_val tok rfl) rfl ?_
  refine t_go ?_
  refine h_one 6 (by kernel_rfl) ?_
  refine h_store 6 tok rfl rfl rfl rfl (by first | exact ⟨trivial, trivial⟩ | (repeat' first | exact trivial | exact rfl | apply And.intro); done | simp [onesP, oneP, lk, Value.oneCell']) (.inr ⟨(by repeat (first | exact SubO.nil | refine SubO.cons rfl ?_)), rfl, (by first | exact Vw.le.refl _ | assumption)⟩) ?_
  refine h_one 7 (by kernel_rfl) ?_
  refine h_yield 7 rfl rfl rfl rfl (y_val tok rfl) ?_
  refine h_one 8 (by kernel_rfl) ?_
  refine h_store 8 tok rfl rfl rfl rfl (by first | exact ⟨trivial, trivial⟩ | (repeat' first | exact trivial | exact rfl | apply And.intro); done | simp [onesP, oneP, lk, Value.oneCell']) (.inr ⟨(by repeat (first | exact SubO.nil | refine SubO.cons rfl ?_)), rfl, (by first | exact Vw.le.refl _ | assumption)⟩) ?_
  refine h_done [3, 4] (by kernel_rfl) rfl ?_
  refine x_then ?_
  refine c_seq ?_
  refine c_region ?_
  refine o_yield rfl rfl rfl (y_val tok rfl) ?_
  refine o_yield rfl rfl rfl (y_val tok rfl) ?_
  refine o_step rfl rfl rfl rfl rfl (s_bs tok 6 rfl rfl rfl) (fun _ _ => ?_)
  refine o_step rfl rfl rfl rfl rfl (s_app tok (r.at key (IntKind.i64.wrap (lsn + l.length))).cells rfl (fun E w hm => ownsRow_src (hm.row _ _ _ _ _ rfl)) (fun _ _ _ => by simpa using rec_ones [r.at key (IntKind.i64.wrap (lsn + l.length))]) (by dsimp only; omega)) (fun _ _ => ?_)
  refine o_store tok rfl rfl rfl (by first | exact ⟨trivial, trivial⟩ | (repeat' first | exact trivial | exact rfl | apply And.intro); done | simp [onesP, oneP, lk, Value.oneCell']) ?_
  refine o_end [4] rfl ?_
  refine x_then ?_
  refine c_seq ?_
  refine c_region ?_
  refine o_yield rfl rfl rfl (y_val tok rfl) ?_
  refine o_call (.a (.v _)) rfl rfl fnok183 rfl rfl rfl (fun hg E w1 hm => by exact recMay_c (r.at key (IntKind.i64.wrap (lsn + l.length))) _) ?_
  refine o_yield rfl rfl rfl (y_val tok rfl) ?_
  refine o_end [5] rfl ?_
  refine x_then ?_
  refine c_ret ?_
  refine b_ret tok rfl ?_
  intro E' w' hm _
  refine ⟨rfl, E'.κ 6, ?_, ?_, ?_, ?_⟩
  · exact hm.touch (Vw.le.refl _) (fun k o hk hS => by rw [get2 k (fun h => hS (.inr h)) (fun h => hS (.inl h))]; exact hk) hos (hm.big 3 _ rfl)
  · rw [← (hm.pin 2 1 _ rfl).1]
    exact hm.lit 1 _ _ rfl
  · have := hm.row 6 _ _ _ _ rfl
    simpa [List.flatMap_append] using this
  · cases hv' : (E'.κ 6).ownBlock with
    | none => exact .inr (fun k h => by cases h)
    | some k =>
      by_cases hlt : k < w.heap.size
      · rcases key0 k (hm.off 6 _ k rfl (by simpa [blk] using hv')) hlt with h | h
        · have := hm.sep 6 1 _ _ k rfl rfl (by simpa [blk] using hv') (by simp [blk, (hm.pin 2 1 _ rfl).1, h])
          cases this
        · exact .inl h.symm
      · exact .inr (fun k' h => by cases h; omega)

section
variable {o : Oper} {n : Nat} {F : Frame0} {C : List Nat} {O : Own} {nl : Nat} {V : Vw}

/-- The closure's call, in the labels of who calls it. -/
theorem s_put {p : List (Nat × Bool)} (a b c rr : Nat) (r : Record) (key lsn : Int) (l : List Record) (x : SV) (hx : ∀ E, x.den E = r.val) (hv : evalC F p o.op = some (182, [x, .a (.ptr a 0), .a (.ptr b 0), .a (.ptr c 0)]))
    (h1 : lk O a = some (.lit [.v (I key)] 3)) (h2 : lk O b = some (.lit [.v (I lsn)] 3)) (h3 : lk O c = some (.lit [.row rr] 41)) (h4 : lk O rr = some (.row 99 6 l.length (l.flatMap Record.cells)))
    (hn : l.length ≤ 1048576) (hab : a ≠ c) (hbc : b ≠ c) :
    StepTo Try.prog o p n F C O nl V (σ := Unit) (fun _ => True) (fun _ => .a (.v (.bool (recB (r.at key (IntKind.i64.wrap (lsn + l.length)))))))
      (fun _ => (c, .lit [.row nl] 41) :: (nl, .row 99 6 (l.length + 1) ((l ++ [r.at key (IntKind.i64.wrap (lsn + l.length))]).flatMap Record.cells)) :: (rr, .gone) :: O) (nl + 1) (fun _ => V) := by
  constructor
  intro E a' w hf hgv hm K Q hK
  obtain ⟨hr, _⟩ := evalC_sound hf hgv hv fnok182 w
  unfold Oper.wp
  rw [hr, Oper.upon_enter]
  have hrow := hm.row _ _ _ _ _ h4
  have nr : ∀ {q : Nat} {cs : List A} {e : Nat}, lk O q = some (.lit cs e) → (E.κ rr).ownBlock ≠ some (E.ρ q) := fun {q cs e} hq h => by
    have := hm.sep rr q _ _ (E.ρ q) h4 hq (by simpa [blk] using h) rfl
    subst this
    rw [h4] at hq
    cases hq
  have hargs : ([x, .a (.ptr a 0), .a (.ptr b 0), .a (.ptr c 0)] : List SV).map (SV.den E) = [r.val, Ptr (E.ρ a), Ptr (E.ρ b), Ptr (E.ρ c)] := by
    simp only [List.map_cons, List.map_nil, hx]
    rfl
  rw [hargs]
  refine (put_c r key lsn l (E.ρ a) (E.ρ b) (E.ρ c) (E.κ rr) w (hm.lit _ _ _ h1) (hm.lit _ _ _ h2) (hm.lit _ _ _ h3) hrow
    (fun h => hab (hm.sep a c _ _ _ h1 h3 rfl (by simp [blk, h]))) (fun h => hbc (hm.sep b c _ _ _ h2 h3 rfl (by simp [blk, h]))) (nr h1) (nr h2) (nr h3) hn).mono ?_
  rintro e w' ⟨rfl, v', ht, hb, hown, hbk⟩
  refine hK () (E.setκ nl v') w' trivial (Env.agree_setκ E v') ?_ rfl
  have hc := hm.lab _ _ h3
  refine hm.regrow (cs' := [.row nl]) h3 h4 ht (by simp [allOk, A.ok, blt_iff]) ?_ hown hbk
  simpa [A.den, Env.setκ] using hb
end
end Go.Proofs.Ytflimioplnbopaa

/- A transaction's records: the walk of record.Of. -/
set_option linter.unusedVariables false
set_option linter.unusedSimpArgs false
set_option maxRecDepth 100000
namespace Go.Proofs.Ytflimioplnbopaa
open Go Go.Eng Go.RowKit

def restAt (t : ByteArray) : Nat → ByteArray
  | 0 => t
  | k + 1 => tailOf (restAt t k)

def blkAt (l : List Block) (i : Nat) : Block := l.getD i ⟨0, ByteArray.empty⟩

theorem blkAt_eq {l : List Block} {i : Nat} {b : Block} (h : l[i]? = some b) : blkAt l i = b := by simp [blkAt, List.getD, h]

def recAt (key lsn : Int) (per : Nat) (l : List Block) (j : Nat) : Record :=
  ⟨key, lsn + j, (blkAt l (j / per)).n, (j % per : Nat), headOf (restAt (blkAt l (j / per)).text (j % per)), 0⟩

def recs (key lsn : Int) (per : Nat) (l : List Block) (j : Nat) : List Record := (List.range j).map (recAt key lsn per l)

theorem recs_len (key lsn : Int) (per : Nat) (l : List Block) (j : Nat) : (recs key lsn per l j).length = j := by simp [recs]

theorem recs_succ (key lsn : Int) (per : Nat) (l : List Block) (j : Nat) : recs key lsn per l (j + 1) = recs key lsn per l j ++ [recAt key lsn per l j] := by
  simp [recs, List.range_succ]

theorem recAt_at (key lsn : Int) (per : Nat) (l : List Block) {i k : Nat} {b : Block} (hb : l[i]? = some b) (hk : k < per) :
    recAt key lsn per l (i * per + k) = ⟨key, lsn + (i * per + k : Nat), b.n, (k : Nat), headOf (restAt b.text k), 0⟩ := by
  have h1 : (i * per + k) / per = i := by
    rw [Nat.add_comm, Nat.add_mul_div_right _ _ (by omega), Nat.div_eq_of_lt hk, Nat.zero_add]
  have h2 : (i * per + k) % per = k := by rw [Nat.add_comm, Nat.add_mul_mod_self_right, Nat.mod_eq_of_lt hk]
  simp only [recAt, h1, h2, blkAt_eq hb]

def commitOf (key lsn : Int) (m : Nat) : Record := ⟨key, lsn + m, 0, 0, ByteArray.empty, m⟩

def lastN (l : List Block) : Nat → Int
  | 0 => -1
  | i + 1 => (blkAt l i).n

structure BlkOk (g : Geo) (l : List Block) (i : Nat) (b : Block) : Prop where
  last : lastN l i < b.n
  blocks : b.n < g.blocks
  size : (b.text.size : Int) ≤ g.per * 256

/-- When a transaction has records. -/
structure OfOk (g : Geo) (key lsn : Int) (l : List Block) : Prop where
  geo : geoB g = true
  some_ : l ≠ []
  few : (l.length : Int) ≤ g.blocks
  lsnB : belowB lsn 1099511627777 = true
  blks : ∀ i b, l[i]? = some b → BlkOk g l i b
  recsB : ∀ j, j < l.length * g.per.toNat → recB (recAt key lsn g.per.toNat l j) = true
  commitB : recB (commitOf key lsn (l.length * g.per.toNat)) = true

def allRecs (g : Geo) (key lsn : Int) (l : List Block) : List Record := recs key lsn g.per.toNat l (l.length * g.per.toNat) ++ [commitOf key lsn (l.length * g.per.toNat)]

def OfPost (g : Geo) (key lsn : Int) (l : List Block) (w : World) (e : Ending) (w' : World) : Prop :=
  ((OfOk g key lsn l ∧ ∃ v, e = .returned (.tuple #[v, I 0]) ∧ w'.ownsRow w.heap.size 99 6 v (allRecs g key lsn l).length ((allRecs g key lsn l).flatMap Record.cells)) ∨
    (¬ OfOk g key lsn l ∧ e = .returned (.tuple #[.slice none 0 0, I 2]))) ∧ Below w.heap.size w w'

theorem of_c (V : Vw) (g : Geo) (ok : g.Ok) (key lsn : Int) (sv : Value) (l : List Block) (w : World) (hV : V.le (vw w)) (hs : SlOf V Block.cells 2 sv l) (hn : l.length ≤ lim) :
    Calls Try.prog 95 #[g.val, I key, I lsn, sv] w (OfPost g key lsn l w) := by
  have hs' := hs.mono hV
  refine enter (E := E0) (O := []) (nl := 0) (V := vw w) [.a (.v g.val), .a (.v (I key)), .a (.v (I lsn)), .a (.v sv)] Try.func95 rfl rfl (mem0 E0 0 w) rfl rfl ?_
  refine c_seq ?_
  refine c_region ?_
  refine o_new tok rfl rfl rfl rfl ?_
  refine o_new tok rfl rfl rfl rfl ?_
  refine o_new tok rfl rfl rfl rfl ?_
  refine o_new tok rfl rfl rfl rfl ?_
  refine o_yield rfl rfl rfl (y_val tok rfl) ?_
  refine o_end [3, 4, 5, 6, 8] rfl ?_
  refine x_then ?_
  refine c_seq ?_
  refine c_seq ?_
  refine c_region ?_
  refine o_yield rfl rfl rfl (y_val tok rfl) ?_
  refine o_call (.a (.v _)) rfl rfl fnok127 rfl rfl rfl (fun hg E w1 hm => by exact geoMay_c g ok _) ?_
  refine o_yield rfl rfl rfl (y_val tok rfl) ?_
  refine o_yield rfl rfl rfl (y_val tok rfl) ?_
  refine o_yield rfl rfl rfl (y_val tok rfl) ?_
  refine o_yield rfl rfl rfl (y_len tok rfl (fun hg => hs'.sl)) ?_
  refine o_yield rfl rfl rfl (y_val tok rfl) ?_
  refine o_yield rfl rfl rfl (y_val tok rfl) ?_
  refine o_yield rfl rfl rfl (y_val tok rfl) ?_
  refine o_yield rfl rfl rfl (y_val tok rfl) ?_
  refine o_yield rfl rfl rfl (y_len tok rfl (fun hg => hs'.sl)) ?_
  refine o_yield rfl rfl rfl (y_val tok rfl) ?_
  refine o_yield rfl rfl rfl (y_val tok rfl) ?_
  refine o_yield rfl rfl rfl (y_val tok rfl) ?_
  refine o_yield rfl rfl rfl (y_val tok rfl) ?_
  refine o_yield rfl rfl rfl (y_val tok rfl) ?_
  refine o_yield rfl rfl rfl (y_val tok rfl) ?_
  refine o_call (.a (.v _)) rfl rfl fnok181 rfl rfl rfl (fun hg E w1 hm => by exact below_c _ _ _) ?_
  refine o_yield rfl rfl rfl (y_val tok rfl) ?_
  refine o_yield rfl rfl rfl (y_val tok rfl) ?_
  refine o_end [3, 4, 5, 6, 8, 36] rfl ?_
  refine x_then ?_
  refine c_cond rfl (fun h => ?_) (fun h => ?_)
  ·
    refine c_seq ?_
    refine c_region ?_
    refine o_store tok rfl rfl rfl (by first | exact ⟨trivial, trivial⟩ | (repeat' first | exact trivial | exact rfl | apply And.intro); done | simp [onesP, oneP, lk, Value.oneCell']) ?_
    refine o_yield rfl rfl rfl (y_val tok rfl) ?_
    refine o_end [8, 9] rfl ?_
    refine x_then ?_
    refine c_ret ?_
    refine x_then_ret ?_
    refine b_ret tok rfl ?_
    intro E w' hm _
    refine ⟨.inr ⟨fun hok => ?_, rfl⟩, hm.below (Vw.le.refl _)⟩
    have h1 := hok.geo
    have h2 := hok.some_
    have h3 := hok.few
    have h4 := hok.lsnB
    have h5 : l.length ≠ 0 := fun h => h2 (List.eq_nil_of_length_eq_zero h)
    simp only [h1, h4, Bool.not_true, Bool.false_or, Bool.or_false, Bool.or_eq_true, decide_eq_true_eq, beq_iff_eq] at h
    omega
  ·
    refine c_skip ?_
    refine x_then ?_
    refine c_seq ?_
    refine c_region ?_
    refine o_yield rfl rfl rfl (y_val tok rfl) ?_
    refine o_end [3, 4, 5, 6, 8, 10] rfl ?_
    refine x_then ?_
    refine c_seq ?_
    refine c_region ?_
    refine o_yield rfl rfl rfl (y_val tok rfl) ?_
    refine o_yield rfl rfl rfl (y_val tok rfl) ?_
    refine o_end [3, 4, 8, 10, 11] rfl ?_
    refine x_then ?_
    refine c_seq ?_
    refine c_seq ?_
    refine c_region ?_
    refine o_yield rfl rfl rfl (y_val tok rfl) ?_
    have hpre := h
    clear h
    simp only [Bool.or_eq_false_iff, Bool.not_eq_false', decide_eq_false_iff_not, beq_eq_false_iff_ne] at hpre
    obtain ⟨⟨⟨hgeo, hne⟩, hfew⟩, hlsn⟩ := hpre
    have hgeo' := hgeo
    simp only [geoB, decide_eq_true_eq] at hgeo'
    have hlsn' := hlsn
    simp only [belowB, Bool.and_eq_true, decide_eq_true_eq] at hlsn'
    obtain ⟨per, hper⟩ : ∃ per : Nat, g.per = per := ⟨g.per.toNat, by omega⟩
    have hpn : g.per.toNat = per := by omega
    have hlen : l.length ≤ 64 := by omega
    refine o_yield rfl rfl rfl (y_len tok rfl (fun hg => hs'.sl)) ?_
    refine o_yield rfl rfl rfl (y_val tok rfl) ?_
    refine o_end [4, 8, 10, 11, 38, 39, 40] rfl ?_
    refine x_then ?_
    refine c_block ?_
    refine k_nilO 3 0 99 6 rfl rfl ?_
    refine c_loop (σ := Nat) (fun i => [(4, .a (.ptr 0 0)), (8, .a (.ptr 3 0)), (10, .a (.v (I (lastN l i)))), (11, .a (.fn 182 [(1, 0), (2, 0), (3, 0)])), (38, .a (.v sv)), (39, .a (.v (I l.length))), (40, .a (.v (I i)))])
      (fun i => [(0, .lit [.v (I g.nodes), .v (I g.slots), .v (I g.blocks), .v (I g.per), .v (I g.journal), .v (I g.log), .v (I g.lease), .v (I g.wait)] 23), (1, .lit [.v (I key)] 3), (2, .lit [.v (I lsn)] 3), (3, .lit [.row 4] 41),
        (4, .row 99 6 (recs key lsn per l (i * per)).length ((recs key lsn per l (i * per)).flatMap Record.cells))]) 5 (fun _ => vw w)
      (fun i => i ≤ l.length ∧ (∀ i' b, i' < i → l[i']? = some b → BlkOk g l i' b) ∧ ∀ j, j < i * per → recB (recAt key lsn per l j) = true) (fun i => l.length - i) 0
      ⟨by omega, by omega, by omega⟩ ⟨rfl, rfl, rfl, rfl, rfl, rfl, rfl, trivial⟩ ⟨rfl, rfl, rfl, rfl, by rw [Nat.zero_mul]; rfl, trivial⟩ rfl (Vw.le.refl _) ?_
    rintro i ⟨hi, hblk, hrec⟩
    refine c_seq ?_
    refine c_region ?_
    refine o_yield rfl rfl rfl (y_val tok rfl) ?_
    refine o_end [4, 8, 10, 11, 38, 39, 40, 41] rfl ?_
    refine x_then ?_
    refine c_seq ?_
    refine c_cond rfl (fun h => ?_) (fun h => ?_)
    ·
      refine c_skip ?_
      refine x_then ?_
      refine c_seq ?_
      refine c_block ?_
      refine c_seq ?_
      refine c_region ?_
      have hlt : i < l.length := by simp at h; omega
      obtain ⟨b, hb⟩ : ∃ b, l[i]? = some b := ⟨l[i], by simp [hlt]⟩
      refine o_yield rfl rfl rfl (y_idx tok rfl (fun hg => hs'.sl) (fun hg => ⟨by omega, by omega⟩)) ?_
      refine o_yield rfl rfl rfl (y_lel tok (i) 0 (b) rfl (fun hg => hs') (fun hg => hb) rfl rfl) ?_
      refine o_new tok rfl rfl rfl rfl ?_
      refine o_store tok rfl rfl rfl (by first | exact ⟨trivial, trivial⟩ | (repeat' first | exact trivial | exact rfl | apply And.intro); done | simp [onesP, oneP, lk, Value.oneCell']) ?_
      refine o_end [4, 8, 10, 11, 13, 38, 39, 40] rfl ?_
      refine x_then ?_
      refine c_seq ?_
      refine c_seq ?_
      refine c_region ?_
      refine o_yield rfl rfl rfl (y_val tok rfl) ?_
      refine o_yield rfl rfl rfl (y_val tok rfl) ?_
      refine o_yield rfl rfl rfl (y_val tok rfl) ?_
      refine o_yield rfl rfl rfl (y_val tok rfl) ?_
      refine o_yield rfl rfl rfl (y_val tok rfl) ?_
      refine o_yield rfl rfl rfl (y_val tok rfl) ?_
      refine o_yield rfl rfl rfl (y_val tok rfl) ?_
      refine o_yield rfl rfl rfl (y_val tok rfl) ?_
      refine o_yield rfl rfl rfl (y_val tok rfl) ?_
      refine o_yield rfl rfl rfl (y_val tok rfl) ?_
      refine o_yield rfl rfl rfl (y_val tok rfl) ?_
      refine o_yield rfl rfl rfl (y_val tok rfl) ?_
      refine o_yield rfl rfl rfl (y_val tok rfl) ?_
      refine o_yield rfl rfl rfl (y_val tok rfl) ?_
      refine o_yield rfl rfl rfl (y_val tok rfl) ?_
      refine o_yield rfl rfl rfl (y_val tok rfl) ?_
      refine o_yield rfl rfl rfl (y_val tok rfl) ?_
      refine o_yield rfl rfl rfl (y_val tok rfl) ?_
      refine o_yield rfl rfl rfl (y_val tok rfl) ?_
      refine o_yield rfl rfl rfl (y_val tok rfl) ?_
      refine o_end [4, 8, 11, 13, 38, 39, 40, 63] rfl ?_
      refine x_then ?_
      refine c_cond rfl (fun h => ?_) (fun h => ?_)
      ·
        refine c_seq ?_
        refine c_region ?_
        refine o_store tok rfl rfl rfl (by first | exact ⟨trivial, trivial⟩ | (repeat' first | exact trivial | exact rfl | apply And.intro); done | simp [onesP, oneP, lk, Value.oneCell']) ?_
        refine o_yield rfl rfl rfl (y_val tok rfl) ?_
        refine o_end [8, 9] rfl ?_
        refine x_then ?_
        refine c_ret ?_
        refine x_then_ret ?_
        refine x_block_ret ?_
        refine x_then_ret ?_
        refine x_then_ret ?_
        refine x_block_ret ?_
        refine x_then_ret ?_
        refine b_ret tok rfl ?_
        intro E w' hm _
        refine ⟨.inr ⟨fun hok => ?_, rfl⟩, hm.below (Vw.le.refl _)⟩
        obtain ⟨h1, h2, h3⟩ := hok.blks i b hb
        rw [hper, wrapI (by omega) (by omega)] at h
        rw [hper] at h3
        simp at h
        omega
      ·
        refine c_skip ?_
        refine x_then ?_
        refine c_seq ?_
        refine c_region ?_
        refine o_yield rfl rfl rfl (y_val tok rfl) ?_
        refine o_yield rfl rfl rfl (y_val tok rfl) ?_
        refine o_yield rfl rfl rfl (y_val tok rfl) ?_
        refine o_end [4, 8, 10, 11, 13, 38, 39, 40] rfl ?_
        refine x_then ?_
        refine c_seq ?_
        refine c_region ?_
        refine o_yield rfl rfl rfl (y_val tok rfl) ?_
        refine o_yield rfl rfl rfl (y_val tok rfl) ?_
        have hbo : BlkOk g l i b := by
          rw [hper, wrapI (by omega) (by omega)] at h
          simp at h
          exact ⟨by omega, by omega, by rw [hper]; omega⟩
        clear h
        refine o_call (.a (.v _)) rfl rfl fnok184 rfl rfl rfl (fun hg E w1 hm => by exact cut_c _ _) ?_
        refine o_yield rfl rfl rfl (y_val tok rfl) ?_
        refine o_yield rfl rfl rfl (y_val tok rfl) ?_
        refine o_yield rfl rfl rfl (y_val tok rfl) ?_
        refine o_yield rfl rfl rfl (y_val tok rfl) ?_
        refine o_yield rfl rfl rfl (y_val tok rfl) ?_
        refine o_end [4, 8, 10, 11, 13, 14, 15, 38, 39, 40] rfl ?_
        refine x_then ?_
        refine c_seq ?_
        refine c_region ?_
        refine o_yield rfl rfl rfl (y_val tok rfl) ?_
        refine o_yield rfl rfl rfl (y_val tok rfl) ?_
        refine o_yield rfl rfl rfl (y_val tok rfl) ?_
        refine o_end [4, 8, 10, 11, 13, 14, 15, 38, 39, 40, 73, 74] rfl ?_
        refine x_then ?_
        refine c_block ?_
        refine c_loop (σ := Nat) (fun k => [(4, .a (.ptr 0 0)), (8, .a (.ptr 3 0)), (10, .a (.v (I b.n))), (11, .a (.fn 182 [(1, 0), (2, 0), (3, 0)])), (13, .a (.ptr 5 0)), (14, .a (.v (S (headOf (restAt b.text k))))), (15, .a (.v (S (restAt b.text (k + 1))))), (38, .a (.v sv)), (39, .a (.v (I l.length))), (40, .a (.v (I i))), (73, .a (.v (I g.per))), (74, .a (.v (I k)))])
          (fun k => [(0, .lit [.v (I g.nodes), .v (I g.slots), .v (I g.blocks), .v (I g.per), .v (I g.journal), .v (I g.log), .v (I g.lease), .v (I g.wait)] 23), (1, .lit [.v (I key)] 3), (2, .lit [.v (I lsn)] 3), (3, .lit [.row 4] 41),
            (4, .row 99 6 (recs key lsn per l (i * per + k)).length ((recs key lsn per l (i * per + k)).flatMap Record.cells)), (5, .lit [.v (I b.n), .v (S b.text)] 139)]) 6 (fun _ => vw w)
          (fun k => k ≤ per ∧ ∀ j, j < i * per + k → recB (recAt key lsn per l j) = true) (fun k => per - k) 0
          ⟨by omega, hrec⟩ ⟨rfl, rfl, rfl, rfl, rfl, rfl, rfl, rfl, rfl, rfl, rfl, rfl, trivial⟩ ⟨rfl, rfl, rfl, rfl, rfl, rfl, trivial⟩ rfl (Vw.le.refl _) ?_
        rintro k ⟨hk, hrec'⟩
        refine c_seq ?_
        refine c_region ?_
        refine o_yield rfl rfl rfl (y_val tok rfl) ?_
        refine o_end [4, 8, 10, 11, 13, 14, 15, 38, 39, 40, 73, 74, 75] rfl ?_
        refine x_then ?_
        refine c_seq ?_
        refine c_cond rfl (fun h => ?_) (fun h => ?_)
        ·
          refine c_skip ?_
          refine x_then ?_
          refine c_seq ?_
          refine c_block ?_
          refine c_seq ?_
          refine c_region ?_
          refine o_yield rfl rfl rfl (y_val tok rfl) ?_
          refine o_yield rfl rfl rfl (y_val tok rfl) ?_
          refine o_end [4, 8, 10, 11, 13, 14, 15, 16, 38, 39, 40, 73, 74] rfl ?_
          refine x_then ?_
          refine c_seq ?_
          refine c_seq ?_
          refine c_region ?_
          refine o_yield rfl rfl rfl (y_val tok rfl) ?_
          refine o_yield rfl rfl rfl (y_val tok rfl) ?_
          refine o_yield rfl rfl rfl (y_val tok rfl) ?_
          refine o_yield rfl rfl rfl (y_val tok rfl) ?_
          refine o_yield rfl rfl rfl (y_val tok rfl) ?_
          refine o_yield rfl rfl rfl (y_val tok rfl) ?_
          have hklt : k < per := by simp at h; omega
          have hrat := recAt_at key lsn per l hb hklt
          have hjl : i * per + k ≤ 512 := by
            have h1 : i * per ≤ 63 * per := Nat.mul_le_mul_right _ (by omega)
            omega
          have hwr : IntKind.i64.wrap (lsn + ((recs key lsn per l (i * per + k)).length : Int)) = lsn + (i * per + k : Nat) := by
            rw [recs_len, wrapI (by omega) (by omega)]
          have hr' : (⟨0, 0, b.n, (k : Nat), headOf (restAt b.text k), 0⟩ : Record).at key (IntKind.i64.wrap (lsn + ((recs key lsn per l (i * per + k)).length : Int))) = recAt key lsn per l (i * per + k) := by
            rw [hwr, hrat]; rfl
          have hl1 : (recs key lsn per l (i * per + k)).length + 1 = (recs key lsn per l (i * per + (k + 1))).length := by rw [recs_len, recs_len]; omega
          refine o_step rfl rfl rfl rfl rfl (s_put 1 2 3 4 ⟨0, 0, b.n, (k : Nat), headOf (restAt b.text k), 0⟩ key lsn (recs key lsn per l (i * per + k)) _ (fun E => rfl) rfl rfl rfl rfl rfl (by rw [recs_len]; omega) (by omega) (by omega)) (fun _ _ => ?_)
          refine o_yield rfl rfl rfl (y_val tok rfl) ?_
          refine o_end [4, 8, 10, 11, 13, 15, 38, 39, 40, 73, 74, 84] rfl ?_
          refine x_then ?_
          refine c_cond rfl (fun h => ?_) (fun h => ?_)
          have hjlt : i * per + k < l.length * g.per.toNat := by
            rw [hpn]
            have h1 : (i + 1) * per ≤ l.length * per := Nat.mul_le_mul_right _ (by omega)
            rw [Nat.add_mul] at h1
            omega
          ·
            refine c_seq ?_
            refine c_region ?_
            refine o_store tok rfl rfl rfl (by first | exact ⟨trivial, trivial⟩ | (repeat' first | exact trivial | exact rfl | apply And.intro); done | simp [onesP, oneP, lk, Value.oneCell']) ?_
            refine o_yield rfl rfl rfl (y_val tok rfl) ?_
            refine o_end [8, 9] rfl ?_
            refine x_then ?_
            refine c_ret ?_
            refine x_then_ret ?_
            refine x_block_ret ?_
            refine x_then_ret ?_
            refine x_then_ret ?_
            refine x_block_ret ?_
            refine x_block_ret ?_
            refine x_then_ret ?_
            refine x_then_ret ?_
            refine x_block_ret ?_
            refine x_then_ret ?_
            refine b_ret tok rfl ?_
            intro E w' hm _
            refine ⟨.inr ⟨fun hok => ?_, rfl⟩, hm.below (Vw.le.refl _)⟩
            have h1 := hok.recsB _ hjlt
            rw [hpn] at h1
            rw [hr', h1] at h
            cases h
          ·
            refine c_skip ?_
            refine x_then ?_
            refine c_region ?_
            refine o_yield rfl rfl rfl (y_val tok rfl) ?_
            have hrb : recB (recAt key lsn per l (i * per + k)) = true := by rw [hr'] at h; simpa using h
            clear h
            rw [hr', ← recs_succ, hl1]
            refine o_call (.a (.v _)) rfl rfl fnok184 rfl rfl rfl (fun hg E w1 hm => by exact cut_c _ _) ?_
            refine o_yield rfl rfl rfl (y_val tok rfl) ?_
            refine o_yield rfl rfl rfl (y_val tok rfl) ?_
            refine o_yield rfl rfl rfl (y_val tok rfl) ?_
            refine o_yield rfl rfl rfl (y_val tok rfl) ?_
            refine o_yield rfl rfl rfl (y_val tok rfl) ?_
            refine o_end [4, 8, 10, 11, 13, 14, 15, 38, 39, 40, 73, 74] rfl ?_
            refine x_block ?_
            refine x_then ?_
            refine c_region ?_
            refine o_yield rfl rfl rfl (y_val tok rfl) ?_
            refine o_yield rfl rfl rfl (y_val tok rfl) ?_
            refine o_end [4, 8, 10, 11, 13, 14, 15, 38, 39, 40, 73, 74] rfl ?_
            refine x_then ?_
            rw [wrapI (by omega) (by omega)]
            refine k_swap 4 6 rfl ?_
            refine x_round (k + 1) ⟨by omega, fun j hj => ?_⟩ (by omega) ⟨rfl, rfl, rfl, rfl, rfl, rfl, rfl, rfl, rfl, rfl, rfl, rfl, trivial⟩ ⟨rfl, rfl, rfl, rfl, rfl, rfl, trivial⟩ rfl (Vw.le.refl _)
            by_cases hjj : j < i * per + k
            · exact hrec' j hjj
            · have : j = i * per + k := by omega
              rw [this]; exact hrb
        ·
          refine c_exit ?_
          refine x_then_exit ?_
          refine x_then_exit ?_
          refine x_block_hit ?_
          refine x_block ?_
          refine x_then ?_
          refine c_region ?_
          refine o_yield rfl rfl rfl (y_val tok rfl) ?_
          refine o_yield rfl rfl rfl (y_val tok rfl) ?_
          refine o_end [4, 8, 10, 11, 38, 39, 40] rfl ?_
          refine x_then ?_
          have hkper : k = per := by simp at h; omega
          subst hkper
          rw [wrapI (by omega) (by omega)]
          rw [show i * k + k = (i + 1) * k by rw [Nat.add_mul, Nat.one_mul]] at hrec' ⊢
          refine x_round (i + 1) ⟨by omega, fun i' b' hi' hb' => ?_, hrec'⟩ (by omega) ⟨rfl, rfl, ?_, rfl, rfl, rfl, rfl, trivial⟩ ⟨rfl, rfl, rfl, rfl, rfl, trivial⟩ rfl (Vw.le.refl _)
          · by_cases hii : i' < i
            · exact hblk i' b' hii hb'
            · have : i' = i := by omega
              subst this
              rw [hb] at hb'
              cases hb'
              exact hbo
          · show _ = some (SV.a (A.v (I (blkAt l i).n)))
            rw [blkAt_eq hb]
            rfl
    ·
      refine c_exit ?_
      refine x_then_exit ?_
      refine x_then_exit ?_
      refine x_block_hit ?_
      refine x_then ?_
      refine c_seq ?_
      refine c_seq ?_
      refine c_region ?_
      refine o_yield rfl rfl rfl (y_val tok rfl) ?_
      refine o_yield rfl rfl rfl (y_val tok rfl) ?_
      have hil : i = l.length := by simp at h; omega
      subst hil
      clear h
      refine o_yield rfl rfl rfl (y_val tok rfl) ?_
      refine o_yield rfl rfl rfl (y_val tok rfl) ?_
      have hjl : l.length * per ≤ 512 := by
        have h1 : l.length * per ≤ 64 * per := Nat.mul_le_mul_right _ (by omega)
        omega
      have hwr : IntKind.i64.wrap (lsn + ((recs key lsn per l (l.length * per)).length : Int)) = lsn + (l.length * per : Nat) := by
        rw [recs_len, wrapI (by omega) (by omega)]
      have hr' : (⟨0, 0, 0, 0, ByteArray.empty, ((recs key lsn per l (l.length * per)).length : Int)⟩ : Record).at key (IntKind.i64.wrap (lsn + ((recs key lsn per l (l.length * per)).length : Int))) = commitOf key lsn (l.length * g.per.toNat) := by
        rw [hwr, hpn]
        simp only [Record.at, commitOf, recs_len]
      refine o_step rfl rfl rfl rfl rfl (s_put 1 2 3 4 ⟨0, 0, 0, 0, ByteArray.empty, ((recs key lsn per l (l.length * per)).length : Int)⟩ key lsn (recs key lsn per l (l.length * per)) _ (fun E => rfl) rfl rfl rfl rfl rfl (by rw [recs_len]; omega) (by omega) (by omega)) (fun _ _ => ?_)
      refine o_yield rfl rfl rfl (y_val tok rfl) ?_
      refine o_end [8, 97] rfl ?_
      refine x_then ?_
      refine c_cond rfl (fun h => ?_) (fun h => ?_)
      ·
        refine c_seq ?_
        refine c_region ?_
        refine o_store tok rfl rfl rfl (by first | exact ⟨trivial, trivial⟩ | (repeat' first | exact trivial | exact rfl | apply And.intro); done | simp [onesP, oneP, lk, Value.oneCell']) ?_
        refine o_yield rfl rfl rfl (y_val tok rfl) ?_
        refine o_end [8, 9] rfl ?_
        refine x_then ?_
        refine c_ret ?_
        refine x_then_ret ?_
        refine b_ret tok rfl ?_
        intro E w' hm _
        refine ⟨.inr ⟨fun hok => ?_, rfl⟩, hm.below (Vw.le.refl _)⟩
        have h1 := hok.commitB
        rw [hr', h1] at h
        cases h
      ·
        refine c_skip ?_
        refine x_then ?_
        refine c_seq ?_
        refine c_region ?_
        refine o_yield rfl rfl rfl (y_val tok rfl) ?_
        refine o_store tok rfl rfl rfl (by first | exact ⟨trivial, trivial⟩ | (repeat' first | exact trivial | exact rfl | apply And.intro); done | simp [onesP, oneP, lk, Value.oneCell']) ?_
        refine o_yield rfl rfl rfl (y_val tok rfl) ?_
        refine o_end [8, 9] rfl ?_
        refine x_then ?_
        refine c_ret ?_
        refine b_ret tok rfl ?_
        have hrb : recB (commitOf key lsn (l.length * g.per.toNat)) = true := by rw [hr'] at h; simpa using h
        clear h
        rw [hr']
        intro E w' hm _
        refine ⟨.inl ⟨⟨hgeo, fun h => hne (by rw [h]; rfl), by omega, hlsn, fun i b hb => hblk i b (List.getElem?_eq_some_iff.1 hb).1 hb, by rw [hpn]; exact hrec, hrb⟩, E.κ 5, rfl, ?_⟩, hm.below (Vw.le.refl _)⟩
        have hrow := hm.rowFresh (Vw.le.refl _) (l := 5) rfl
        have hall : allRecs g key lsn l = recs key lsn per l (l.length * per) ++ [commitOf key lsn (l.length * g.per.toNat)] := by rw [allRecs, hpn]
        rw [hall]
        simpa using hrow
end Go.Proofs.Ytflimioplnbopaa

/- How many records are whole, how many a transaction has; blocks that are too great. -/
set_option linter.unusedVariables false
set_option linter.unusedSimpArgs false
set_option maxRecDepth 100000
namespace Go.Proofs.Ytflimioplnbopaa
open Go Go.Eng Go.RowKit

def wholeFrom : List Record → Nat → Nat → Nat → Nat
  | [], _, n, _ => n
  | r :: t, i, n, d => if r.count = 0 then wholeFrom t (i + 1) n (d + 1) else if r.count ≠ (d : Int) then n else wholeFrom t (i + 1) (i + 1) 0

def whole (l : List Record) : Nat := wholeFrom l 0 0 0

theorem drop_at {α : Type} {l : List α} {k : Nat} {x : α} (h : l[k]? = some x) : l.drop k = x :: l.drop (k + 1) := by
  have hlt := (List.getElem?_eq_some_iff.1 h).1
  rw [List.drop_eq_getElem_cons hlt, (List.getElem?_eq_some_iff.1 h).2]

theorem whole_c (V : Vw) (sv : Value) (l : List Record) (w : World) (hV : V.le (vw w)) (hs : SlOf V Record.cells 6 sv l) (hn : l.length ≤ lim) :
    Calls Try.prog 146 #[sv] w fun e w' => e = .returned (I (whole l)) ∧ Below w.heap.size w w' := by
  have hs' := hs.mono hV
  simp only [lim] at hn
  refine enter (E := E0) (O := []) (nl := 0) (V := vw w) [.a (.v sv)] Try.func146 rfl rfl (mem0 E0 0 w) rfl rfl ?_
  refine c_seq ?_
  refine c_region ?_
  refine o_yield rfl rfl rfl (y_val tok rfl) ?_
  refine o_end [0, 2] rfl ?_
  refine x_then ?_
  refine c_seq ?_
  refine c_region ?_
  refine o_yield rfl rfl rfl (y_val tok rfl) ?_
  refine o_end [0, 2, 3] rfl ?_
  refine x_then ?_
  refine c_seq ?_
  refine c_seq ?_
  refine c_region ?_
  refine o_yield rfl rfl rfl (y_val tok rfl) ?_
  refine o_yield rfl rfl rfl (y_len tok rfl (fun hg => hs'.sl)) ?_
  refine o_yield rfl rfl rfl (y_val tok rfl) ?_
  refine o_end [2, 3, 6, 7, 8] rfl ?_
  refine x_then ?_
  refine c_block ?_
  refine c_loop (σ := Nat × Nat × Nat) (fun x => [(2, .a (.v (I x.2.1))), (3, .a (.v (I x.2.2))), (6, .a (.v sv)), (7, .a (.v (I l.length))), (8, .a (.v (I x.1)))]) (fun _ => []) 0 (fun _ => vw w)
    (fun x => x.1 ≤ l.length ∧ x.2.1 ≤ x.1 ∧ x.2.2 ≤ x.1 ∧ whole l = wholeFrom (l.drop x.1) x.1 x.2.1 x.2.2) (fun x => l.length - x.1) (0, 0, 0) ⟨Nat.zero_le _, Nat.le_refl _, Nat.le_refl _, rfl⟩ ⟨rfl, rfl, rfl, rfl, rfl, trivial⟩ trivial rfl (Vw.le.refl _) ?_
  rintro ⟨k, n, d⟩ ⟨hk, hn', hd, hw⟩
  simp only at hk hn' hd hw
  refine c_seq ?_
  refine c_region ?_
  refine o_yield rfl rfl rfl (y_val tok rfl) ?_
  refine o_end [2, 3, 6, 7, 8, 9] rfl ?_
  refine x_then ?_
  refine c_seq ?_
  refine c_cond rfl (fun h => ?_) (fun h => ?_)
  ·
    refine c_skip ?_
    refine x_then ?_
    refine c_seq ?_
    refine c_block ?_
    refine c_seq ?_
    refine c_region ?_
    refine o_yield rfl rfl rfl (y_val tok rfl) ?_
    have hlt : k < l.length := by simp at h; omega
    obtain ⟨r, hr⟩ : ∃ r, l[k]? = some r := ⟨l[k], by simp [hlt]⟩
    rw [drop_at hr] at hw
    simp only [wholeFrom] at hw
    refine o_yield rfl rfl rfl (y_idx tok rfl (fun hg => hs'.sl) (fun hg => ⟨by omega, by omega⟩)) ?_
    refine o_yield rfl rfl rfl (y_lel tok (k) 0 (r) rfl (fun hg => hs') (fun hg => hr) rfl rfl) ?_
    refine o_new tok rfl rfl rfl rfl ?_
    refine o_yield rfl rfl rfl (y_val tok rfl) ?_
    refine o_store tok rfl rfl rfl (by first | exact ⟨trivial, trivial⟩ | (repeat' first | exact trivial | exact rfl | apply And.intro); done | simp [onesP, oneP, lk, Value.oneCell']) ?_
    refine o_end [2, 3, 4, 5, 6, 7, 8] rfl ?_
    refine x_then ?_
    refine c_block ?_
    refine c_seq ?_
    refine c_region ?_
    refine o_yield rfl rfl rfl (y_val tok rfl) ?_
    refine o_yield rfl rfl rfl (y_val tok rfl) ?_
    refine o_yield rfl rfl rfl (y_val tok rfl) ?_
    refine o_yield rfl rfl rfl (y_val tok rfl) ?_
    refine o_end [2, 3, 4, 5, 6, 7, 8, 15] rfl ?_
    refine x_then ?_
    refine c_cond rfl (fun h => ?_) (fun h => ?_)
    ·
      refine c_region ?_
      refine o_yield rfl rfl rfl (y_val tok rfl) ?_
      refine o_yield rfl rfl rfl (y_val tok rfl) ?_
      refine o_yield rfl rfl rfl (y_val tok rfl) ?_
      refine o_end [2, 3, 6, 7, 8] rfl ?_
      refine x_block ?_
      refine x_block ?_
      refine x_then ?_
      refine c_region ?_
      refine o_yield rfl rfl rfl (y_val tok rfl) ?_
      refine o_yield rfl rfl rfl (y_val tok rfl) ?_
      refine o_end [2, 3, 6, 7, 8] rfl ?_
      refine x_then ?_
      have h0 : r.count = 0 := by simpa using h
      rw [if_pos h0] at hw
      rw [wrapI (n := (d : Int) + 1) (by omega) (by omega), wrapI (n := (k : Int) + 1) (by omega) (by omega)]
      exact x_round (k + 1, n, d + 1) ⟨by simp only; omega, by simp only; omega, by simp only; omega, hw⟩ (by simp only; omega) ⟨rfl, rfl, rfl, rfl, rfl, trivial⟩ trivial rfl (Vw.le.refl _)
    ·
      refine c_seq ?_
      refine c_region ?_
      refine o_yield rfl rfl rfl (y_val tok rfl) ?_
      refine o_yield rfl rfl rfl (y_val tok rfl) ?_
      refine o_yield rfl rfl rfl (y_val tok rfl) ?_
      refine o_yield rfl rfl rfl (y_val tok rfl) ?_
      refine o_yield rfl rfl rfl (y_val tok rfl) ?_
      refine o_end [2, 4, 6, 7, 8, 21] rfl ?_
      refine x_then ?_
      refine c_cond rfl (fun h2 => ?_) (fun h2 => ?_)
      ·
        refine c_seq ?_
        refine c_region ?_
        refine o_yield rfl rfl rfl (y_val tok rfl) ?_
        refine o_yield rfl rfl rfl (y_val tok rfl) ?_
        refine o_end [2] rfl ?_
        refine x_then ?_
        refine c_ret ?_
        refine x_block_ret ?_
        refine x_block_ret ?_
        refine x_then_ret ?_
        refine x_then_ret ?_
        refine x_block_ret ?_
        refine x_then_ret ?_
        refine b_ret tok rfl ?_
        have h0 : ¬ r.count = 0 := by simpa using h
        rw [if_neg h0] at hw
        have h1 : r.count ≠ (d : Int) := by simpa using h2
        rw [if_pos h1] at hw
        intro E w' hm _
        exact ⟨by rw [hw]; rfl, hm.below (Vw.le.refl _)⟩
      ·
        refine c_region ?_
        refine o_yield rfl rfl rfl (y_val tok rfl) ?_
        refine o_yield rfl rfl rfl (y_val tok rfl) ?_
        refine o_yield rfl rfl rfl (y_val tok rfl) ?_
        refine o_yield rfl rfl rfl (y_val tok rfl) ?_
        refine o_end [2, 3, 6, 7, 8] rfl ?_
        refine x_block ?_
        refine x_block ?_
        refine x_then ?_
        refine c_region ?_
        refine o_yield rfl rfl rfl (y_val tok rfl) ?_
        refine o_yield rfl rfl rfl (y_val tok rfl) ?_
        refine o_end [2, 3, 6, 7, 8] rfl ?_
        refine x_then ?_
        have h0 : ¬ r.count = 0 := by simpa using h
        rw [if_neg h0] at hw
        have h1 : ¬ r.count ≠ (d : Int) := by simpa using h2
        rw [if_neg h1] at hw
        rw [wrapI (n := (k : Int) + 1) (by omega) (by omega)]
        exact x_round (k + 1, k + 1, 0) ⟨by simp only; omega, by simp only; omega, by simp only; omega, hw⟩ (by simp only; omega) ⟨rfl, rfl, rfl, rfl, rfl, trivial⟩ trivial rfl (Vw.le.refl _)
  ·
    refine c_exit ?_
    refine x_then_exit ?_
    refine x_then_exit ?_
    refine x_block_hit ?_
    refine x_then ?_
    refine c_seq ?_
    refine c_region ?_
    refine o_yield rfl rfl rfl (y_val tok rfl) ?_
    refine o_yield rfl rfl rfl (y_val tok rfl) ?_
    refine o_end [2] rfl ?_
    refine x_then ?_
    refine c_ret ?_
    refine b_ret tok rfl ?_
    have hkl : k = l.length := by simp at h; omega
    subst hkl
    intro E w' hm _
    refine ⟨?_, hm.below (Vw.le.refl _)⟩
    rw [List.drop_length] at hw
    rw [hw]; rfl

def manyOf (g : Geo) (n : Int) : Int := if geoB g = true ∧ 1 ≤ n then g.per * min n 1099511627776 + 1 else 0

theorem many_c (g : Geo) (ok : g.Ok) (n : Int) (w : World) : Calls Try.prog 180 #[g.val, I n] w fun e w' => e = .returned (I (manyOf g n)) ∧ Below w.heap.size w w' := by
  refine enter (E := E0) (O := []) (nl := 0) (V := vw w) [.a (.v g.val), .a (.v (I n))] Try.func180 rfl rfl (mem0 E0 0 w) rfl rfl ?_
  refine c_seq ?_
  refine c_region ?_
  refine o_new tok rfl rfl rfl rfl ?_
  refine o_yield rfl rfl rfl (y_val tok rfl) ?_
  refine o_end [1, 2] rfl ?_
  refine x_then ?_
  refine c_seq ?_
  refine c_seq ?_
  refine c_region ?_
  refine o_yield rfl rfl rfl (y_val tok rfl) ?_
  refine o_call (.a (.v _)) rfl rfl fnok127 rfl rfl rfl (fun hg E w1 hm => by exact geoMay_c g ok _) ?_
  refine o_yield rfl rfl rfl (y_val tok rfl) ?_
  refine o_yield rfl rfl rfl (y_val tok rfl) ?_
  refine o_yield rfl rfl rfl (y_val tok rfl) ?_
  refine o_yield rfl rfl rfl (y_val tok rfl) ?_
  refine o_yield rfl rfl rfl (y_val tok rfl) ?_
  refine o_end [1, 2, 11] rfl ?_
  refine x_then ?_
  refine c_cond rfl (fun h => ?_) (fun h => ?_)
  ·
    refine c_seq ?_
    refine c_region ?_
    refine o_yield rfl rfl rfl (y_val tok rfl) ?_
    refine o_end [4] rfl ?_
    refine x_then ?_
    refine c_ret ?_
    refine x_then_ret ?_
    refine b_ret tok rfl ?_
    intro E w' hm _
    refine ⟨?_, hm.below (Vw.le.refl _)⟩
    have : manyOf g n = 0 := by
      unfold manyOf
      rw [if_neg]
      intro hc
      simp [hc.1] at h
      omega
    rw [this]; rfl
  ·
    refine c_skip ?_
    refine x_then ?_
    refine c_seq ?_
    refine c_region ?_
    refine o_yield rfl rfl rfl (y_val tok rfl) ?_
    refine o_yield rfl rfl rfl (y_val tok rfl) ?_
    refine o_yield rfl rfl rfl (y_val tok rfl) ?_
    refine o_yield rfl rfl rfl (y_mm rfl) ?_
    refine o_yield rfl rfl rfl (y_val tok rfl) ?_
    refine o_yield rfl rfl rfl (y_val tok rfl) ?_
    refine o_yield rfl rfl rfl (y_val tok rfl) ?_
    refine o_end [4] rfl ?_
    refine x_then ?_
    refine c_ret ?_
    refine b_ret tok rfl ?_
    intro E w' hm _
    refine ⟨?_, hm.below (Vw.le.refl _)⟩
    simp only [Bool.or_eq_false_iff, Bool.not_eq_false', decide_eq_false_iff_not] at h
    have hg := h.1
    simp only [geoB, decide_eq_true_eq] at hg
    have hm1 : (bif false then max n 1099511627776 else min n 1099511627776) = min n 1099511627776 := rfl
    have h1 : g.per * min n 1099511627776 ≤ 8 * 1099511627776 := by
      have := Int.mul_le_mul (show g.per ≤ 8 by omega) (show min n 1099511627776 ≤ 1099511627776 by omega) (by omega) (by omega)
      exact this
    have h0 : 0 ≤ g.per * min n 1099511627776 := Int.mul_nonneg (by omega) (by omega)
    show Ending.returned (I (IntKind.i64.wrap (IntKind.i64.wrap (g.per * (bif false then max n 1099511627776 else min n 1099511627776)) + 1))) = _
    rw [hm1, wrapI (n := g.per * min n 1099511627776) (by omega) (by omega), wrapI (by omega) (by omega)]
    unfold manyOf
    rw [if_pos ⟨h.1, by omega⟩]

def greatB (l : List Block) : Bool := ((l.take 71).any fun b => decide (5000 < (b.text.size : Int))) || decide (70 < (l.length : Int))

theorem great_c (V : Vw) (sv : Value) (l : List Block) (w : World) (hV : V.le (vw w)) (hs : SlOf V Block.cells 2 sv l) (hn : l.length ≤ maxLen) :
    Calls Try.prog 16 #[sv] w fun e w' => e = .returned (.bool (greatB l)) ∧ Below w.heap.size w w' := by
  have hs' := hs.mono hV
  refine enter (E := E0) (O := []) (nl := 0) (V := vw w) [.a (.v sv)] Try.func16 rfl rfl (mem0 E0 0 w) rfl rfl ?_
  refine c_seq ?_
  refine c_region ?_
  refine o_yield rfl rfl rfl (y_val tok rfl) ?_
  refine o_end [0] rfl ?_
  refine x_then ?_
  refine c_seq ?_
  refine c_seq ?_
  refine c_region ?_
  refine o_yield rfl rfl rfl (y_val tok rfl) ?_
  refine o_end [0, 3] rfl ?_
  refine x_then ?_
  refine c_block ?_
  refine c_loop (σ := Nat) (fun k => [(0, .a (.v sv)), (3, .a (.v (I k)))]) (fun _ => []) 0 (fun _ => vw w)
    (fun k => k ≤ l.length ∧ k ≤ 71 ∧ ∀ j b, j < k → l[j]? = some b → (fun b : Block => decide (5000 < (b.text.size : Int))) b = false) (fun k => 71 - k) 0 ⟨by omega, by omega, by omega⟩ ⟨rfl, rfl, trivial⟩ trivial rfl (Vw.le.refl _) ?_
  rintro k ⟨hk, hk71, hall⟩
  refine c_seq ?_
  refine c_seq ?_
  refine c_region ?_
  refine o_yield rfl rfl rfl (y_val tok rfl) ?_
  refine o_yield rfl rfl rfl (y_val tok rfl) ?_
  refine o_yield rfl rfl rfl (y_len tok rfl (fun hg => hs'.sl)) ?_
  refine o_yield rfl rfl rfl (y_val tok rfl) ?_
  refine o_yield rfl rfl rfl (y_val tok rfl) ?_
  refine o_yield rfl rfl rfl (y_val tok rfl) ?_
  refine o_yield rfl rfl rfl (y_val tok rfl) ?_
  refine o_yield rfl rfl rfl (y_val tok rfl) ?_
  refine o_end [0, 3, 11] rfl ?_
  refine x_then ?_
  refine c_cond rfl (fun h => ?_) (fun h => ?_)
  ·
    refine c_skip ?_
    refine x_then ?_
    refine c_seq ?_
    refine c_block ?_
    refine c_seq ?_
    refine c_region ?_
    refine o_yield rfl rfl rfl (y_val tok rfl) ?_
    refine o_yield rfl rfl rfl (y_val tok rfl) ?_
    have hlt : k < l.length ∧ k ≤ 70 := by simp at h; omega
    obtain ⟨b, hb⟩ : ∃ b, l[k]? = some b := ⟨l[k]'hlt.1, by simp [hlt.1]⟩
    refine o_yield rfl rfl rfl (y_idx tok rfl (fun hg => hs'.sl) (fun hg => ⟨by omega, by omega⟩)) ?_
    refine o_yield rfl rfl rfl (y_fel tok rfl (fun hg => hs'.sl) (fun hg => by omega)) ?_
    refine o_yield rfl rfl rfl (y_lel tok (k) 1 (b) rfl (fun hg => hs') (fun hg => hb) rfl rfl) ?_
    refine o_yield rfl rfl rfl (y_val tok rfl) ?_
    refine o_yield rfl rfl rfl (y_val tok rfl) ?_
    refine o_end [0, 3, 20] rfl ?_
    refine x_then ?_
    refine c_cond rfl (fun h => ?_) (fun h => ?_)
    ·
      refine c_seq ?_
      refine c_region ?_
      refine o_yield rfl rfl rfl (y_val tok rfl) ?_
      refine o_end [2] rfl ?_
      refine x_then ?_
      refine c_ret ?_
      refine x_block_ret ?_
      refine x_then_ret ?_
      refine x_then_ret ?_
      refine x_block_ret ?_
      refine x_then_ret ?_
      refine b_ret tok rfl ?_
      intro E w' hm _
      refine ⟨?_, hm.below (Vw.le.refl _)⟩
      have : greatB l = true := by
        unfold greatB
        rw [Bool.or_eq_true]
        left
        rw [List.any_eq_true]
        exact ⟨b, List.mem_of_getElem? (i := k) (by rw [List.getElem?_take_of_lt (by omega)]; exact hb), h⟩
      rw [this]; rfl
    ·
      refine c_skip ?_
      refine x_block ?_
      refine x_then ?_
      refine c_region ?_
      refine o_yield rfl rfl rfl (y_val tok rfl) ?_
      refine o_yield rfl rfl rfl (y_val tok rfl) ?_
      refine o_yield rfl rfl rfl (y_val tok rfl) ?_
      refine o_end [0, 3] rfl ?_
      refine x_then ?_
      rw [wrapI (by omega) (by omega)]
      exact x_round (k + 1) ⟨by omega, by omega, ahead_succ hb hall h⟩ (by omega) ⟨rfl, rfl, trivial⟩ trivial rfl (Vw.le.refl _)
  ·
    refine c_exit ?_
    refine x_then_exit ?_
    refine x_then_exit ?_
    refine x_block_hit ?_
    refine x_then ?_
    refine c_seq ?_
    refine c_region ?_
    refine o_yield rfl rfl rfl (y_val tok rfl) ?_
    refine o_yield rfl rfl rfl (y_len tok rfl (fun hg => hs'.sl)) ?_
    refine o_yield rfl rfl rfl (y_val tok rfl) ?_
    refine o_yield rfl rfl rfl (y_val tok rfl) ?_
    refine o_end [2] rfl ?_
    refine x_then ?_
    refine c_ret ?_
    refine b_ret tok rfl ?_
    intro E w' hm _
    refine ⟨?_, hm.below (Vw.le.refl _)⟩
    have : greatB l = decide (70 < (l.length : Int)) := by
      unfold greatB
      have h1 : ((l.take 71).any fun b => decide (5000 < (b.text.size : Int))) = false := by
        rw [Bool.eq_false_iff]
        intro hc
        rw [List.any_eq_true] at hc
        obtain ⟨b, hb, hb2⟩ := hc
        obtain ⟨j, hj⟩ := List.getElem?_of_mem hb
        rw [List.getElem?_take] at hj
        split at hj
        · rename_i hj71
          have hjl := (List.getElem?_eq_some_iff.1 hj).1
          have := hall j b (by simp at h; omega) hj
          simp only at this
          rw [this] at hb2
          cases hb2
        · cases hj
      rw [h1, Bool.false_or]
    rw [this]; rfl
end Go.Proofs.Ytflimioplnbopaa

/- A text's pieces put together: plain law. -/
set_option linter.unusedVariables false
set_option linter.unusedSimpArgs false
set_option maxRecDepth 100000
namespace Go.Proofs.Ytflimioplnbopaa
open Go Go.Eng Go.RowKit

theorem size_extract' (s : ByteArray) (a b : Nat) (h : b ≤ s.size) : (s.extract a b).size = b - a := by
  rw [ByteArray.size_extract]; omega

theorem head_size (s : ByteArray) : (headOf s).size = min s.size 256 := by
  unfold headOf; rw [size_extract' _ _ _ (by omega)]; omega

theorem tail_size (s : ByteArray) : (tailOf s).size = s.size - 256 := by
  unfold tailOf; rw [size_extract' _ _ _ (Nat.le_refl _)]; omega

theorem head_tail (s : ByteArray) : headOf s ++ tailOf s = s := by
  unfold headOf tailOf
  apply ByteArray.ext
  rw [ByteArray.data_append, ByteArray.data_extract, ByteArray.data_extract]
  apply Array.ext'
  have hz : s.size = s.data.toList.length := by simp
  simp only [Array.toList_append, Array.toList_extract, List.extract_eq_take_drop, List.drop_zero, Nat.sub_zero]
  rw [hz]
  rw [List.take_of_length_le (l := List.drop _ _) (by simp)]
  exact List.take_append_drop _ _

theorem rest_size (t : ByteArray) : ∀ k, (restAt t k).size = t.size - 256 * k
  | 0 => by simp [restAt]
  | k + 1 => by rw [restAt, tail_size, rest_size t k]; omega

/-- The first k pieces. -/
def catTo (t : ByteArray) : Nat → ByteArray
  | 0 => ByteArray.empty
  | k + 1 => catTo t k ++ headOf (restAt t k)

theorem cat_rest (t : ByteArray) : ∀ k, catTo t k ++ restAt t k = t
  | 0 => by simp [catTo, restAt]
  | k + 1 => by
    rw [catTo, restAt, ByteArray.append_assoc, head_tail, cat_rest t k]

theorem cat_size (t : ByteArray) (k : Nat) : (catTo t k).size = min t.size (256 * k) := by
  have h := congrArg ByteArray.size (cat_rest t k)
  rw [ByteArray.size_append, rest_size] at h
  omega

theorem cat_all {t : ByteArray} {k : Nat} (h : t.size ≤ 256 * k) : catTo t k = t := by
  have h1 := cat_rest t k
  have h2 : restAt t k = ByteArray.empty := size_zero (by rw [rest_size]; omega)
  rw [h2] at h1
  simpa using h1
end Go.Proofs.Ytflimioplnbopaa

/- The law RecordTexts from what comes in. -/
set_option linter.unusedVariables false
set_option linter.unusedSimpArgs false
set_option maxRecDepth 100000
namespace Go.Proofs.Ytflimioplnbopaa
open Go Go.Eng Go.RowKit

theorem all_at {g : Geo} {key lsn : Int} {l : List Block} {j : Nat} (h : j < l.length * g.per.toNat) : (allRecs g key lsn l)[j]? = some (recAt key lsn g.per.toNat l j) := by
  unfold allRecs
  rw [List.getElem?_append_left (by rw [recs_len]; exact h)]
  simp [recs, h]

theorem all_last {g : Geo} {key lsn : Int} {l : List Block} : (allRecs g key lsn l)[l.length * g.per.toNat]? = some (commitOf key lsn (l.length * g.per.toNat)) := by
  unfold allRecs
  rw [List.getElem?_append_right (by rw [recs_len]; omega), recs_len]
  simp

theorem all_len (g : Geo) (key lsn : Int) (l : List Block) : (allRecs g key lsn l).length = l.length * g.per.toNat + 1 := by
  simp [allRecs, recs_len]

theorem all_facts {g : Geo} {key lsn : Int} {l : List Block} {i : Nat} {r : Record} (hm : 1 ≤ l.length * g.per.toNat) (hr : (allRecs g key lsn l)[i]? = some r) :
    r.lsn = lsn + i ∧ r.key = key ∧ (r.count == 0) = decide (i < l.length * g.per.toNat) := by
  have hlt := (List.getElem?_eq_some_iff.1 hr).1
  rw [all_len] at hlt
  by_cases h : i < l.length * g.per.toNat
  · rw [all_at h] at hr
    cases hr
    exact ⟨rfl, rfl, by simp [recAt, h]⟩
  · have : i = l.length * g.per.toNat := by omega
    subst this
    rw [all_last] at hr
    cases hr
    refine ⟨rfl, rfl, ?_⟩
    simp only [commitOf, h, decide_false, beq_eq_false_iff_ne, ne_eq]
    omega

theorem great_no {l : List Block} (h : greatB l = false) : l.length ≤ 70 := by
  simp only [greatB, Bool.or_eq_false_iff, decide_eq_false_iff_not] at h
  omega

end Go.Proofs.Ytflimioplnbopaa

/- Whole transactions, one behind the other: plain law. -/
set_option linter.unusedVariables false
set_option linter.unusedSimpArgs false
set_option maxRecDepth 100000
namespace Go.Proofs.Ytflimioplnbopaa
open Go Go.Eng Go.RowKit

/-- Records that are whole transactions, wherever they begin. -/
def Chain (A : List Record) : Prop := ∀ r i, wholeFrom (A ++ r) i i 0 = wholeFrom r (i + A.length) (i + A.length) 0

theorem chain_nil : Chain [] := fun r i => rfl

theorem chain_app {A B : List Record} (ha : Chain A) (hb : Chain B) : Chain (A ++ B) := fun r i => by
  rw [List.append_assoc, ha, hb, List.length_append]
  congr 1 <;> omega

theorem from_data : ∀ (ds r : List Record) (i n d : Nat), (∀ x ∈ ds, x.count = 0) → wholeFrom (ds ++ r) i n d = wholeFrom r (i + ds.length) n (d + ds.length)
  | [], r, i, n, d, _ => rfl
  | x :: ds, r, i, n, d, h => by
    rw [List.cons_append, wholeFrom, if_pos (h x (by simp)), from_data ds r _ _ _ (fun y hy => h y (by simp [hy]))]
    simp only [List.length_cons]
    congr 1 <;> omega

def Txn (t : List Record) : Prop := ∃ ds c, t = ds ++ [c] ∧ (∀ x ∈ ds, x.count = 0) ∧ c.count = (ds.length : Int) ∧ 1 ≤ ds.length

theorem chain_txn {t : List Record} (h : Txn t) : Chain t := by
  obtain ⟨ds, c, rfl, hz, hc, h1⟩ := h
  intro r i
  rw [List.append_assoc, from_data _ _ _ _ _ hz, List.singleton_append, wholeFrom, if_neg (by omega), if_neg (by simp only [ne_eq, Nat.zero_add]; omega)]
  simp only [List.length_append, List.length_singleton]
  congr 1

theorem whole_chain {A : List Record} (h : Chain A) : whole A = A.length := by
  have := h [] 0
  rw [List.append_nil] at this
  rw [whole, this]
  simp [wholeFrom]

theorem whole_data {A ds : List Record} (h : Chain A) (hz : ∀ x ∈ ds, x.count = 0) : whole (A ++ ds) = A.length := by
  rw [whole, h]
  have := from_data ds [] (0 + A.length) (0 + A.length) 0 hz
  rw [List.append_nil] at this
  rw [this]
  simp [wholeFrom]

theorem whole_bad {A ds r : List Record} {c : Record} (h : Chain A) (hz : ∀ x ∈ ds, x.count = 0) (h0 : c.count ≠ 0) (hc : c.count ≠ (ds.length : Int)) : whole (A ++ (ds ++ c :: r)) = A.length := by
  rw [whole, h, from_data _ _ _ _ _ hz, wholeFrom, if_neg h0, if_pos (by simpa using hc)]
  simp

/-- One of the last transaction's records left out. -/
theorem whole_less {A t : List Record} (h : Chain A) (ht : Txn t) {j : Nat} (hj : j < t.length) : whole ((A ++ t).take (A.length + j) ++ (A ++ t).drop (A.length + j + 1)) = A.length := by
  obtain ⟨ds, c, rfl, hz, hc, h1⟩ := ht
  have e1 : (A ++ (ds ++ [c])).take (A.length + j) = A ++ (ds ++ [c]).take j := by
    rw [List.take_append, List.take_of_length_le (by omega)]
    congr 2; omega
  have e2 : (A ++ (ds ++ [c])).drop (A.length + j + 1) = (ds ++ [c]).drop (j + 1) := by
    rw [List.drop_append, List.drop_of_length_le (by omega), List.nil_append]
    congr 1; omega
  rw [e1, e2, List.append_assoc]
  by_cases hd : j < ds.length
  · have e3 : (ds ++ [c]).take j ++ (ds ++ [c]).drop (j + 1) = (ds.take j ++ ds.drop (j + 1)) ++ c :: [] := by
      rw [List.take_append_of_le_length (by omega), List.drop_append_of_le_length (by omega), List.append_assoc]
    rw [e3]
    refine whole_bad h (fun x hx => ?_) (by omega) ?_
    · rcases List.mem_append.1 hx with hx | hx
      · exact hz x (List.mem_of_mem_take hx)
      · exact hz x (List.mem_of_mem_drop hx)
    · rw [List.length_append, List.length_take, List.length_drop]; omega
  · have hj' : j = ds.length := by simp at hj; omega
    subst hj'
    rw [List.take_left', List.drop_of_length_le (by simp), List.append_nil]
    · exact whole_data h hz
    · rfl

theorem txn_all {g : Geo} {key lsn : Int} {l : List Block} (h : 1 ≤ l.length * g.per.toNat) : Txn (allRecs g key lsn l) := by
  refine ⟨_, _, rfl, fun x hx => ?_, ?_, ?_⟩
  · simp only [recs, List.mem_map, List.mem_range] at hx
    obtain ⟨j, _, rfl⟩ := hx
    rfl
  · rw [recs_len]; rfl
  · rw [recs_len]; exact h

structure WInv (n i : Nat) (B t : List Record) : Prop where
  le : i ≤ n
  chB : Chain B
  tx : (B = [] ∧ t = []) ∨ Txn t
  len : (B ++ t).length ≤ 65 * i

theorem WInv.ch {n i : Nat} {B t : List Record} (h : WInv n i B t) : Chain (B ++ t) := by
  rcases h.tx with ⟨rfl, rfl⟩ | ht
  · exact chain_nil
  · exact chain_app h.chB (chain_txn ht)

theorem take_last {l : List Record} (ht : Txn l) : ∀ x ∈ l.take (l.length - 1), x.count = 0 := by
  obtain ⟨ds, c, rfl, hz, hc, h1⟩ := ht
  intro x hx
  rw [List.length_append, List.length_singleton, Nat.add_sub_cancel, List.take_left'] at hx
  · exact hz x hx
  · rfl
end Go.Proofs.Ytflimioplnbopaa

/- Numbers as bytes: widths, what fits, what stands somewhere. -/
set_option linter.unusedVariables false
set_option linter.unusedSimpArgs false
set_option maxRecDepth 100000
namespace Go.Proofs.Ytflimioplnbopaa
open Go Go.Eng Go.RowKit

def widthB (w : Int) : Bool := decide (1 ≤ w) && decide (w ≤ 6)

theorem widthMay_c (n : Int) (w : World) : Calls Try.prog 259 #[I n] w fun e w' => e = .returned (.bool (widthB n)) ∧ Below w.heap.size w w' := by
  refine enter (E := E0) (O := []) (nl := 0) (V := vw w) [.a (.v (I n))] Try.func259 rfl rfl (mem0 E0 0 w) rfl rfl ?_
  refine c_seq ?_
  refine c_region ?_
  refine o_yield rfl rfl rfl (y_val tok rfl) ?_
  refine o_end [0] rfl ?_
  refine x_then ?_
  refine c_seq ?_
  refine c_region ?_
  refine o_yield rfl rfl rfl (y_val tok rfl) ?_
  refine o_yield rfl rfl rfl (y_val tok rfl) ?_
  refine o_yield rfl rfl rfl (y_val tok rfl) ?_
  refine o_yield rfl rfl rfl (y_val tok rfl) ?_
  refine o_yield rfl rfl rfl (y_val tok rfl) ?_
  refine o_yield rfl rfl rfl (y_val tok rfl) ?_
  refine o_yield rfl rfl rfl (y_val tok rfl) ?_
  refine o_end [2] rfl ?_
  refine x_then ?_
  refine c_ret ?_
  refine b_ret tok rfl ?_
  intro E w' hm _
  exact ⟨rfl, hm.below (Vw.le.refl _)⟩

/-- The greatest number of a width. -/
def mostN (k : Nat) : Nat := min (256 ^ k - 1) 1099511627776

theorem width_cases {n : Int} (h : widthB n = true) : n = 1 ∨ n = 2 ∨ n = 3 ∨ n = 4 ∨ n = 5 ∨ n = 6 := by
  simp only [widthB, Bool.and_eq_true, decide_eq_true_eq] at h; omega

theorem most_eq {n : Int} (h : widthB n = true) : min (IntKind.i64.wrap (bits .xor .u64 18446744073709551615 (IntKind.u64.wrap (18446744073709551615 * 2 ^ (8 * n).toNat)))) 1099511627776 = (mostN n.toNat : Int) := by
  rcases width_cases h with rfl | rfl | rfl | rfl | rfl | rfl <;> decide +kernel

theorem widthMost_c (n : Int) (hn : widthB n = true) (w : World) : Calls Try.prog 302 #[I n] w fun e w' => e = .returned (I (mostN n.toNat)) ∧ Below w.heap.size w w' := by
  have h6 := hn
  simp only [widthB, Bool.and_eq_true, decide_eq_true_eq] at h6
  refine enter (E := E0) (O := []) (nl := 0) (V := vw w) [.a (.v (I n))] Try.func302 rfl rfl (mem0 E0 0 w) rfl rfl ?_
  refine c_seq ?_
  refine c_region ?_
  refine o_yield rfl rfl rfl (y_val tok rfl) ?_
  refine o_end [0] rfl ?_
  refine x_then ?_
  refine c_seq ?_
  refine c_region ?_
  refine o_yield rfl rfl rfl (y_val tok rfl) ?_
  refine o_yield rfl rfl rfl (y_val tok rfl) ?_
  refine o_yield rfl rfl rfl (y_val tok rfl) ?_
  rw [show IntKind.u64.wrap (8 * IntKind.u64.wrap n) = 8 * n by rw [IntKind.wrap_u64, IntKind.wrap_u64]; omega]
  refine o_yield rfl rfl rfl (y_shl rfl (fun hg => ⟨by omega, by show 8 * n ≤ 64; omega⟩)) ?_
  refine o_yield rfl rfl rfl (y_val tok rfl) ?_
  refine o_yield rfl rfl rfl (y_val tok rfl) ?_
  refine o_yield rfl rfl rfl (y_mm rfl) ?_
  refine o_yield rfl rfl rfl (y_val tok rfl) ?_
  refine o_end [2] rfl ?_
  refine x_then ?_
  refine c_ret ?_
  refine b_ret tok rfl ?_
  intro E w' hm _
  refine ⟨?_, hm.below (Vw.le.refl _)⟩
  show Ending.returned (I (min (IntKind.i64.wrap (bits .xor .u64 18446744073709551615 (IntKind.u64.wrap (18446744073709551615 * 2 ^ (8 * n).toNat)))) 1099511627776)) = _
  rw [most_eq hn]

def fitsB (n w : Int) : Bool := widthB w && decide (0 ≤ n) && decide (n ≤ mostN w.toNat)

theorem numFits_c (n k : Int) (w : World) : Calls Try.prog 293 #[I n, I k] w fun e w' => e = .returned (.bool (fitsB n k)) ∧ Below w.heap.size w w' := by
  refine enter (E := E0) (O := []) (nl := 0) (V := vw w) [.a (.v (I n)), .a (.v (I k))] Try.func293 rfl rfl (mem0 E0 0 w) rfl rfl ?_
  refine c_seq ?_
  refine c_region ?_
  refine o_yield rfl rfl rfl (y_val tok rfl) ?_
  refine o_end [0, 1] rfl ?_
  refine x_then ?_
  refine c_seq ?_
  refine c_region ?_
  refine o_yield rfl rfl rfl (y_val tok rfl) ?_
  refine o_call (.a (.v _)) rfl rfl fnok259 rfl rfl rfl (fun hg E w1 hm => by exact widthMay_c _ _) ?_
  refine o_yield rfl rfl rfl (y_val tok rfl) ?_
  refine o_yield rfl rfl rfl (y_val tok rfl) ?_
  refine o_yield rfl rfl rfl (y_val tok rfl) ?_
  refine o_yield rfl rfl rfl (y_val tok rfl) ?_
  refine o_yield rfl rfl rfl (y_val tok rfl) ?_
  refine o_yield rfl rfl rfl (y_val tok rfl) ?_
  refine o_yield rfl rfl rfl (y_val tok rfl) ?_
  refine o_call (.a (.v _)) rfl rfl fnok302 rfl rfl rfl (fun hg E w1 hm => by exact widthMost_c k (by simp at hg; exact hg.1) _) ?_
  refine o_yield rfl rfl rfl (y_val tok rfl) ?_
  refine o_yield rfl rfl rfl (y_val tok rfl) ?_
  refine o_yield rfl rfl rfl (y_val tok rfl) ?_
  refine o_end [4] rfl ?_
  refine x_then ?_
  refine c_ret ?_
  refine b_ret tok rfl ?_
  intro E w' hm _
  refine ⟨?_, hm.below (Vw.le.refl _)⟩
  rfl

/-- A width's greatest number; -1: it is none. -/
def mostI (k : Int) : Int := if widthB k = true then mostN k.toNat else -1

/-- A power of 256. -/
def pw (k : Nat) : Nat := 256 ^ k
theorem pw_succ (k : Nat) : pw (k + 1) = pw k * 256 := by simp [pw, Nat.pow_succ]
theorem pw_pos (k : Nat) : 1 ≤ pw k := Nat.pow_pos (by omega)
theorem pw_le {k m : Nat} (h : k ≤ m) : pw k ≤ pw m := Nat.pow_le_pow_right (by omega) h
theorem pw6 : pw 6 = 281474976710656 := by decide
theorem pw_le6 {k : Nat} (h : k ≤ 6) : pw k ≤ 281474976710656 := pw6 ▸ pw_le h

theorem refMost_c (k : Int) (w : World) : Calls Try.prog 196 #[I k] w fun e w' => e = .returned (I (mostI k)) ∧ Below w.heap.size w w' := by
  refine enter (E := E0) (O := []) (nl := 0) (V := vw w) [.a (.v (I k))] Try.func196 rfl rfl (mem0 E0 0 w) rfl rfl ?_
  refine c_seq ?_
  refine c_region ?_
  refine o_yield rfl rfl rfl (y_val tok rfl) ?_
  refine o_end [0] rfl ?_
  refine x_then ?_
  refine c_seq ?_
  refine c_seq ?_
  refine c_region ?_
  refine o_yield rfl rfl rfl (y_val tok rfl) ?_
  refine o_yield rfl rfl rfl (y_val tok rfl) ?_
  refine o_yield rfl rfl rfl (y_val tok rfl) ?_
  refine o_yield rfl rfl rfl (y_val tok rfl) ?_
  refine o_yield rfl rfl rfl (y_val tok rfl) ?_
  refine o_yield rfl rfl rfl (y_val tok rfl) ?_
  refine o_end [0, 10] rfl ?_
  refine x_then ?_
  refine c_cond rfl (fun h => ?_) (fun h => ?_)
  ·
    simp only [Bool.and_eq_true, Bool.or_eq_true, Bool.not_eq_true', Bool.or_eq_false_iff, Bool.and_eq_false_iff, decide_eq_true_eq, decide_eq_false_iff_not, beq_iff_eq, bne_iff_ne, Bool.not_eq_false', beq_eq_false_iff_ne, bne_eq_false_iff_eq, ne_eq, Decidable.not_not, Int.not_lt, Int.not_le] at h
    refine c_seq ?_
    refine c_region ?_
    refine o_yield rfl rfl rfl (y_val tok rfl) ?_
    refine o_end [2] rfl ?_
    refine x_then ?_
    refine c_ret ?_
    refine x_then_ret ?_
    refine b_ret tok rfl ?_
    intro E w' hm _
    refine ⟨?_, hm.below (Vw.le.refl _)⟩
    rw [mostI, if_neg (by simp [widthB]; omega)]
    rfl
  ·
    simp only [Bool.and_eq_true, Bool.or_eq_true, Bool.not_eq_true', Bool.or_eq_false_iff, Bool.and_eq_false_iff, decide_eq_true_eq, decide_eq_false_iff_not, beq_iff_eq, bne_iff_ne, Bool.not_eq_false', beq_eq_false_iff_ne, bne_eq_false_iff_eq, ne_eq, Decidable.not_not, Int.not_lt, Int.not_le] at h
    refine c_skip ?_
    refine x_then ?_
    refine c_seq ?_
    refine c_region ?_
    refine o_yield rfl rfl rfl (y_val tok rfl) ?_
    refine o_end [0, 3] rfl ?_
    refine x_then ?_
    refine c_seq ?_
    refine c_seq ?_
    refine c_region ?_
    refine o_yield rfl rfl rfl (y_val tok rfl) ?_
    refine o_end [0, 3, 4] rfl ?_
    refine x_then ?_
    refine c_block ?_
    obtain ⟨m, hm⟩ : ∃ m : Nat, k = m := ⟨k.toNat, by omega⟩
    subst hm
    refine c_loopK [0] [] rfl rfl (σ := Nat) (fun i => [(3, .a (.v (I (pw i)))), (4, .a (.v (I i)))]) (fun i => []) (fun i => i ≤ m) (fun i => m - i) (0) (by omega) (by repeat (first | exact SubF.nil | refine SubF.cons rfl ?_)) (by repeat (first | exact SubO.nil | refine SubO.cons rfl ?_)) rfl ?_
    rintro i hi
    refine c_seq ?_
    refine c_seq ?_
    refine c_region ?_
    refine o_yield rfl rfl rfl (y_val tok rfl) ?_
    refine o_yield rfl rfl rfl (y_val tok rfl) ?_
    refine o_yield rfl rfl rfl (y_val tok rfl) ?_
    refine o_end [0, 3, 4, 13] rfl ?_
    refine x_then ?_
    refine c_cond rfl (fun h => ?_) (fun h => ?_)
    ·
      simp only [Bool.and_eq_true, Bool.or_eq_true, Bool.not_eq_true', Bool.or_eq_false_iff, Bool.and_eq_false_iff, decide_eq_true_eq, decide_eq_false_iff_not, beq_iff_eq, bne_iff_ne, Bool.not_eq_false', beq_eq_false_iff_ne, bne_eq_false_iff_eq, ne_eq, Decidable.not_not, Int.not_lt, Int.not_le] at h
      refine c_skip ?_
      refine x_then ?_
      refine c_seq ?_
      refine c_block ?_
      refine c_region ?_
      refine o_yield rfl rfl rfl (y_val tok rfl) ?_
      refine o_yield rfl rfl rfl (y_val tok rfl) ?_
      refine o_yield rfl rfl rfl (y_val tok rfl) ?_
      refine o_end [0, 3, 4] rfl ?_
      refine x_block ?_
      refine x_then ?_
      refine c_region ?_
      refine o_yield rfl rfl rfl (y_val tok rfl) ?_
      refine o_yield rfl rfl rfl (y_val tok rfl) ?_
      refine o_yield rfl rfl rfl (y_val tok rfl) ?_
      refine o_end [0, 3, 4] rfl ?_
      refine x_then ?_
      have hp := pw_le6 (k := i) (by omega)
      rw [wrapI (n := (pw i : Int) * 256) (by omega) (by omega), wrapI (n := (i : Int) + 1) (by omega) (by omega), show (pw i : Int) * 256 = (pw (i + 1) : Int) by rw [pw_succ]; omega]
      refine x_round (i + 1) (by omega) (by first | omega | (dsimp only; omega)) (by repeat (first | exact SubF.nil | refine SubF.cons rfl ?_)) (by repeat (first | exact SubO.nil | refine SubO.cons rfl ?_)) rfl (Vw.le.refl _)
    ·
      simp only [Bool.and_eq_true, Bool.or_eq_true, Bool.not_eq_true', Bool.or_eq_false_iff, Bool.and_eq_false_iff, decide_eq_true_eq, decide_eq_false_iff_not, beq_iff_eq, bne_iff_ne, Bool.not_eq_false', beq_eq_false_iff_ne, bne_eq_false_iff_eq, ne_eq, Decidable.not_not, Int.not_lt, Int.not_le] at h
      refine c_exit ?_
      refine x_then_exit ?_
      refine x_then_exit ?_
      refine x_block_hit ?_
      refine x_then ?_
      refine c_seq ?_
      refine c_region ?_
      refine o_yield rfl rfl rfl (y_val tok rfl) ?_
      refine o_yield rfl rfl rfl (y_val tok rfl) ?_
      have him : i = m := by omega
      subst him
      have hp := pw_le6 (k := i) (by omega)
      have h1 := pw_pos i
      rw [wrapI (n := (pw i : Int) - 1) (by omega) (by omega)]
      refine o_yield rfl rfl rfl (y_mm rfl) ?_
      refine o_yield rfl rfl rfl (y_val tok rfl) ?_
      refine o_end [2] rfl ?_
      refine x_then ?_
      refine c_ret ?_
      refine b_ret tok rfl ?_
      intro E w' hm _
      refine ⟨?_, hm.below (Vw.le.refl _)⟩
      rw [mostI, if_pos (by simp [widthB]; omega), Int.toNat_natCast, mostN]
      show Ending.returned (I (min ((pw i : Int) - 1) 1099511627776)) = _
      rw [show min ((pw i : Int) - 1) 1099511627776 = ((min (pw i - 1) 1099511627776 : Nat) : Int) by omega]
      rfl

theorem refFits_c (n k : Int) (w : World) : Calls Try.prog 197 #[I n, I k] w fun e w' => e = .returned (.bool (fitsB n k)) ∧ Below w.heap.size w w' := by
  refine enter (E := E0) (O := []) (nl := 0) (V := vw w) [.a (.v (I n)), .a (.v (I k))] Try.func197 rfl rfl (mem0 E0 0 w) rfl rfl ?_
  refine c_seq ?_
  refine c_region ?_
  refine o_yield rfl rfl rfl (y_val tok rfl) ?_
  refine o_end [0, 1] rfl ?_
  refine x_then ?_
  refine c_seq ?_
  refine c_region ?_
  refine o_yield rfl rfl rfl (y_val tok rfl) ?_
  refine o_yield rfl rfl rfl (y_val tok rfl) ?_
  refine o_yield rfl rfl rfl (y_val tok rfl) ?_
  refine o_yield rfl rfl rfl (y_val tok rfl) ?_
  refine o_yield rfl rfl rfl (y_val tok rfl) ?_
  refine o_call (.a (.v _)) rfl rfl fnok196 rfl rfl rfl (fun hg E w1 hm => by exact refMost_c _ _) ?_
  refine o_yield rfl rfl rfl (y_val tok rfl) ?_
  refine o_yield rfl rfl rfl (y_val tok rfl) ?_
  refine o_yield rfl rfl rfl (y_val tok rfl) ?_
  refine o_end [4] rfl ?_
  refine x_then ?_
  refine c_ret ?_
  refine b_ret tok rfl ?_
  intro E w' hm _
  refine ⟨?_, hm.below (Vw.le.refl _)⟩
  show Ending.returned (.bool (decide (0 ≤ n) && decide (n ≤ mostI k))) = _
  congr 2
  unfold mostI fitsB
  cases hw : widthB k with
  | true => simp
  | false => simp; omega

/-- Digits to the base of 256, the least first. -/
def leTo (f : Nat → Nat) : Nat → Nat
  | 0 => 0
  | k + 1 => leTo f k + f k * pw k

theorem leTo_lt {f : Nat → Nat} (hf : ∀ j, f j < 256) : ∀ k, leTo f k < pw k
  | 0 => by simp [leTo, pw]
  | k + 1 => by
    have h1 := leTo_lt hf k
    have h2 : f k * pw k ≤ 255 * pw k := Nat.mul_le_mul_right _ (by have := hf k; omega)
    rw [leTo, pw_succ]; omega

theorem pw_two (k : Nat) : pw k = 2 ^ (8 * k) := by rw [pw, Nat.pow_mul]

theorem or_add {x y k : Nat} (hx : x < pw k) : x ||| y * pw k = x + y * pw k := by
  rw [pw_two] at hx ⊢
  rw [Nat.or_comm, nat_join (8 * k) (y * 2 ^ (8 * k)) x (Nat.mul_mod_left _ _) hx, Nat.add_comm]

def digit (s : ByteArray) (at_ j : Nat) : Nat := (byteAt s (at_ + j)).toNat

theorem digit_lt (s : ByteArray) (at_ j : Nat) : digit s at_ j < 256 := UInt8.toNat_lt _

/-- The number that stands at a place, or why there is none. -/
def getSpec (s : ByteArray) (at_ k : Int) : Int × Int :=
  if widthB k = false then (0, 2)
  else if at_ < 0 ∨ (s.size : Int) < at_ ∨ (s.size : Int) - at_ < k then (0, 10)
  else if 1099511627776 < leTo (digit s at_.toNat) k.toNat then (0, 10)
  else ((leTo (digit s at_.toNat) k.toNat : Nat), 0)

theorem numGet_c (s : ByteArray) (at_ k : Int) (hs : s.size ≤ maxLen) (w : World) : Calls Try.prog 210 #[S s, I at_, I k] w fun e w' => e = .returned (.tuple #[I (getSpec s at_ k).1, I (getSpec s at_ k).2]) ∧ Below w.heap.size w w' := by
  simp only [maxLen] at hs
  refine enter (E := E0) (O := []) (nl := 0) (V := vw w) [.a (.v (S s)), .a (.v (I at_)), .a (.v (I k))] Try.func210 rfl rfl (mem0 E0 0 w) rfl rfl ?_
  refine c_seq ?_
  refine c_region ?_
  refine o_yield rfl rfl rfl (y_val tok rfl) ?_
  refine o_yield rfl rfl rfl (y_val tok rfl) ?_
  refine o_end [0, 1, 2, 6] rfl ?_
  refine x_then ?_
  refine c_seq ?_
  refine c_block ?_
  refine c_seq ?_
  refine c_region ?_
  refine o_yield rfl rfl rfl (y_val tok rfl) ?_
  refine o_call (.a (.v _)) rfl rfl fnok259 rfl rfl rfl (fun hg E w1 hm => by exact widthMay_c _ _) ?_
  refine o_yield rfl rfl rfl (y_val tok rfl) ?_
  refine o_yield rfl rfl rfl (y_val tok rfl) ?_
  refine o_end [0, 1, 2, 6, 9] rfl ?_
  refine x_then ?_
  refine c_cond rfl (fun h => ?_) (fun h => ?_)
  ·
    simp only [Bool.and_eq_true, Bool.or_eq_true, Bool.not_eq_true', Bool.or_eq_false_iff, Bool.and_eq_false_iff, decide_eq_true_eq, decide_eq_false_iff_not, beq_iff_eq, bne_iff_ne, Bool.not_eq_false', beq_eq_false_iff_ne, bne_eq_false_iff_eq, ne_eq, Decidable.not_not, Int.not_lt, Int.not_le] at h
    refine c_seq ?_
    refine c_region ?_
    refine o_yield rfl rfl rfl (y_val tok rfl) ?_
    refine o_yield rfl rfl rfl (y_val tok rfl) ?_
    refine o_end [6, 7] rfl ?_
    refine x_then ?_
    refine c_ret ?_
    refine x_block_ret ?_
    refine x_then_ret ?_
    refine b_ret tok rfl ?_
    intro E w' hm _
    refine ⟨?_, hm.below (Vw.le.refl _)⟩
    rw [getSpec, if_pos h]
    rfl
  ·
    simp only [Bool.and_eq_true, Bool.or_eq_true, Bool.not_eq_true', Bool.or_eq_false_iff, Bool.and_eq_false_iff, decide_eq_true_eq, decide_eq_false_iff_not, beq_iff_eq, bne_iff_ne, Bool.not_eq_false', beq_eq_false_iff_ne, bne_eq_false_iff_eq, ne_eq, Decidable.not_not, Int.not_lt, Int.not_le] at h
    have hw := h
    have hwr : ¬ at_ < 0 → ¬ (s.size : Int) < at_ → IntKind.i64.wrap ((s.size : Int) - at_) = (s.size : Int) - at_ := fun h1 h2 => wrapI (by omega) (by omega)
    refine c_seq ?_
    refine c_region ?_
    refine o_yield rfl rfl rfl (y_val tok rfl) ?_
    refine o_yield rfl rfl rfl (y_val tok rfl) ?_
    refine o_yield rfl rfl rfl (y_val tok rfl) ?_
    refine o_yield rfl rfl rfl (y_val tok rfl) ?_
    refine o_yield rfl rfl rfl (y_val tok rfl) ?_
    refine o_yield rfl rfl rfl (y_val tok rfl) ?_
    refine o_yield rfl rfl rfl (y_val tok rfl) ?_
    refine o_yield rfl rfl rfl (y_val tok rfl) ?_
    refine o_yield rfl rfl rfl (y_val tok rfl) ?_
    refine o_yield rfl rfl rfl (y_val tok rfl) ?_
    refine o_yield rfl rfl rfl (y_val tok rfl) ?_
    refine o_yield rfl rfl rfl (y_val tok rfl) ?_
    refine o_yield rfl rfl rfl (y_val tok rfl) ?_
    refine o_yield rfl rfl rfl (y_val tok rfl) ?_
    refine o_yield rfl rfl rfl (y_val tok rfl) ?_
    refine o_yield rfl rfl rfl (y_val tok rfl) ?_
    refine o_yield rfl rfl rfl (y_val tok rfl) ?_
    refine o_end [0, 1, 2, 6, 13] rfl ?_
    refine x_then ?_
    refine c_cond rfl (fun h => ?_) (fun h => ?_)
    ·
      simp only [Bool.and_eq_true, Bool.or_eq_true, Bool.not_eq_true', Bool.or_eq_false_iff, Bool.and_eq_false_iff, decide_eq_true_eq, decide_eq_false_iff_not, beq_iff_eq, bne_iff_ne, Bool.not_eq_false', beq_eq_false_iff_ne, bne_eq_false_iff_eq, ne_eq, Decidable.not_not, Int.not_lt, Int.not_le] at h
      refine c_seq ?_
      refine c_region ?_
      refine o_yield rfl rfl rfl (y_val tok rfl) ?_
      refine o_yield rfl rfl rfl (y_val tok rfl) ?_
      refine o_end [6, 7] rfl ?_
      refine x_then ?_
      refine c_ret ?_
      refine x_block_ret ?_
      refine x_then_ret ?_
      refine b_ret tok rfl ?_
      intro E w' hm _
      refine ⟨?_, hm.below (Vw.le.refl _)⟩
      rw [getSpec, if_neg (by simp [hw]), if_pos (by
        by_cases h1 : at_ < 0
        · exact .inl h1
        · by_cases h2 : (s.size : Int) < at_
          · exact .inr (.inl h2)
          · rw [hwr h1 h2] at h; omega)]
      rfl
    ·
      simp only [Bool.and_eq_true, Bool.or_eq_true, Bool.not_eq_true', Bool.or_eq_false_iff, Bool.and_eq_false_iff, decide_eq_true_eq, decide_eq_false_iff_not, beq_iff_eq, bne_iff_ne, Bool.not_eq_false', beq_eq_false_iff_ne, bne_eq_false_iff_eq, ne_eq, Decidable.not_not, Int.not_lt, Int.not_le] at h
      refine c_skip ?_
      refine x_block ?_
      refine x_then ?_
      refine c_seq ?_
      refine c_seq ?_
      refine c_region ?_
      refine o_yield rfl rfl rfl (y_val tok rfl) ?_
      refine o_yield rfl rfl rfl (y_val tok rfl) ?_
      refine o_end [0, 1, 6, 30, 31] rfl ?_
      refine x_then ?_
      refine c_block ?_
      rw [hwr (by omega) (by omega)] at h
      have hk := hw
      simp only [widthB, Bool.and_eq_true, decide_eq_true_eq] at hk
      obtain ⟨m, hm⟩ : ∃ m : Nat, k = m := ⟨k.toNat, by omega⟩
      obtain ⟨b, hb⟩ : ∃ b : Nat, at_ = b := ⟨at_.toNat, by omega⟩
      subst hm hb
      have hlt := leTo_lt (digit_lt s b)
      refine c_loopK [0, 1, 30] [] rfl rfl (σ := Nat) (fun i => [(6, .a (.v (I (leTo (digit s b) i)))), (31, .a (.v (I i)))]) (fun i => []) (fun i => i ≤ m) (fun i => m - i) (0) (by omega) (by repeat (first | exact SubF.nil | refine SubF.cons rfl ?_)) (by repeat (first | exact SubO.nil | refine SubO.cons rfl ?_)) rfl ?_
      rintro i hi
      refine c_seq ?_
      refine c_region ?_
      refine o_yield rfl rfl rfl (y_val tok rfl) ?_
      refine o_end [0, 1, 6, 30, 31, 32] rfl ?_
      refine x_then ?_
      refine c_seq ?_
      refine c_cond rfl (fun h => ?_) (fun h => ?_)
      ·
        simp only [Bool.and_eq_true, Bool.or_eq_true, Bool.not_eq_true', Bool.or_eq_false_iff, Bool.and_eq_false_iff, decide_eq_true_eq, decide_eq_false_iff_not, beq_iff_eq, bne_iff_ne, Bool.not_eq_false', beq_eq_false_iff_ne, bne_eq_false_iff_eq, ne_eq, Decidable.not_not, Int.not_lt, Int.not_le] at h
        refine c_skip ?_
        refine x_then ?_
        refine c_seq ?_
        refine c_block ?_
        refine c_seq ?_
        refine c_region ?_
        refine o_yield rfl rfl rfl (y_val tok rfl) ?_
        refine o_yield rfl rfl rfl (y_val tok rfl) ?_
        refine o_end [0, 1, 6, 8, 30, 31] rfl ?_
        refine x_then ?_
        refine c_region ?_
        refine o_yield rfl rfl rfl (y_val tok rfl) ?_
        refine o_yield rfl rfl rfl (y_val tok rfl) ?_
        refine o_yield rfl rfl rfl (y_val tok rfl) ?_
        refine o_yield rfl rfl rfl (y_val tok rfl) ?_
        refine o_yield rfl rfl rfl (y_val tok rfl) ?_
        have h1 := hlt i
        have h2 := pw_le6 (k := i + 1) (by omega)
        rw [pw_succ] at h2
        have h3 := digit_lt s b i
        rw [wrapI (n := (b : Int) + i) (by omega) (by omega)]
        refine o_yield rfl rfl rfl (y_si tok rfl (fun hg => by omega)) ?_
        refine o_yield rfl rfl rfl (y_val tok rfl) ?_
        refine o_yield rfl rfl rfl (y_val tok rfl) ?_
        refine o_yield rfl rfl rfl (y_val tok rfl) ?_
        rw [wrapI (n := 8 * (i : Int)) (by omega) (by omega)]
        refine o_yield rfl rfl rfl (y_shl rfl (fun hg => ⟨by omega, by show 8 * (i : Int) ≤ 64; omega⟩)) ?_
        refine o_yield rfl rfl rfl (y_val tok rfl) ?_
        refine o_yield rfl rfl rfl (y_val tok rfl) ?_
        refine o_end [0, 1, 6, 30, 31] rfl ?_
        refine x_block ?_
        refine x_then ?_
        refine c_region ?_
        refine o_yield rfl rfl rfl (y_val tok rfl) ?_
        refine o_yield rfl rfl rfl (y_val tok rfl) ?_
        refine o_end [0, 1, 6, 30, 31] rfl ?_
        refine x_then ?_
        have e : bits .or .i64 (leTo (digit s b) i : Nat) (IntKind.i64.wrap (IntKind.i64.wrap (((byteAt s ((b : Int) + i).toNat).toNat : Nat) : Int) * 2 ^ (8 * (i : Int)).toNat)) = ((leTo (digit s b) (i + 1) : Nat) : Int) := by
          have h4 : digit s b i * pw i ≤ 255 * pw i := Nat.mul_le_mul_right _ (by omega)
          have h5 : ((byteAt s ((b : Int) + i).toNat).toNat : Nat) = digit s b i := by
            rw [show ((b : Int) + i).toNat = b + i by omega]; rfl
          rw [h5, show (8 * (i : Int)).toNat = 8 * i by omega, wrapI (n := ((digit s b i : Nat) : Int)) (by omega) (by omega), show (2 : Int) ^ (8 * i) = ((pw i : Nat) : Int) by rw [pw_two]; simp, ← Int.natCast_mul,
            wrapI (by omega) (by omega), i64_or _ _ (by omega) (by omega), or_add h1, leTo]
        rw [e, wrapI (n := (i : Int) + 1) (by omega) (by omega)]
        refine x_round (i + 1) (by omega) (by first | omega | (dsimp only; omega)) (by repeat (first | exact SubF.nil | refine SubF.cons rfl ?_)) (by repeat (first | exact SubO.nil | refine SubO.cons rfl ?_)) rfl (Vw.le.refl _)
      ·
        simp only [Bool.and_eq_true, Bool.or_eq_true, Bool.not_eq_true', Bool.or_eq_false_iff, Bool.and_eq_false_iff, decide_eq_true_eq, decide_eq_false_iff_not, beq_iff_eq, bne_iff_ne, Bool.not_eq_false', beq_eq_false_iff_ne, bne_eq_false_iff_eq, ne_eq, Decidable.not_not, Int.not_lt, Int.not_le] at h
        have him : i = m := by omega
        subst him
        refine c_exit ?_
        refine x_then_exit ?_
        refine x_then_exit ?_
        refine x_block_hit ?_
        refine x_then ?_
        refine c_seq ?_
        refine c_seq ?_
        refine c_region ?_
        refine o_yield rfl rfl rfl (y_val tok rfl) ?_
        refine o_yield rfl rfl rfl (y_val tok rfl) ?_
        refine o_end [6, 47] rfl ?_
        refine x_then ?_
        refine c_cond rfl (fun h => ?_) (fun h => ?_)
        ·
          simp only [Bool.and_eq_true, Bool.or_eq_true, Bool.not_eq_true', Bool.or_eq_false_iff, Bool.and_eq_false_iff, decide_eq_true_eq, decide_eq_false_iff_not, beq_iff_eq, bne_iff_ne, Bool.not_eq_false', beq_eq_false_iff_ne, bne_eq_false_iff_eq, ne_eq, Decidable.not_not, Int.not_lt, Int.not_le] at h
          refine c_seq ?_
          refine c_region ?_
          refine o_yield rfl rfl rfl (y_val tok rfl) ?_
          refine o_yield rfl rfl rfl (y_val tok rfl) ?_
          refine o_end [6, 7] rfl ?_
          refine x_then ?_
          refine c_ret ?_
          refine x_then_ret ?_
          refine b_ret tok rfl ?_
          intro E w' hm _
          refine ⟨?_, hm.below (Vw.le.refl _)⟩
          rw [getSpec, if_neg (by simp [hw]), if_neg (by omega), if_pos (by simp only [Int.toNat_natCast]; omega)]
          rfl
        ·
          simp only [Bool.and_eq_true, Bool.or_eq_true, Bool.not_eq_true', Bool.or_eq_false_iff, Bool.and_eq_false_iff, decide_eq_true_eq, decide_eq_false_iff_not, beq_iff_eq, bne_iff_ne, Bool.not_eq_false', beq_eq_false_iff_ne, bne_eq_false_iff_eq, ne_eq, Decidable.not_not, Int.not_lt, Int.not_le] at h
          refine c_skip ?_
          refine x_then ?_
          refine c_seq ?_
          refine c_region ?_
          refine o_yield rfl rfl rfl (y_val tok rfl) ?_
          refine o_yield rfl rfl rfl (y_val tok rfl) ?_
          refine o_yield rfl rfl rfl (y_val tok rfl) ?_
          refine o_end [6, 7] rfl ?_
          refine x_then ?_
          refine c_ret ?_
          refine b_ret tok rfl ?_
          intro E w' hm _
          refine ⟨?_, hm.below (Vw.le.refl _)⟩
          rw [getSpec, if_neg (by simp [hw]), if_neg (by omega), if_neg (by simp only [Int.toNat_natCast]; omega)]
          simp only [Int.toNat_natCast]
          rfl

theorem refGet_c (s : ByteArray) (at_ k : Int) (hs : s.size ≤ maxLen) (w : World) : Calls Try.prog 214 #[S s, I at_, I k] w fun e w' => e = .returned (.tuple #[I (getSpec s at_ k).1, I (getSpec s at_ k).2]) ∧ Below w.heap.size w w' := by
  simp only [maxLen] at hs
  refine enter (E := E0) (O := []) (nl := 0) (V := vw w) [.a (.v (S s)), .a (.v (I at_)), .a (.v (I k))] Try.func214 rfl rfl (mem0 E0 0 w) rfl rfl ?_
  refine c_seq ?_
  refine c_region ?_
  refine o_yield rfl rfl rfl (y_val tok rfl) ?_
  refine o_yield rfl rfl rfl (y_val tok rfl) ?_
  refine o_end [0, 1, 2] rfl ?_
  refine x_then ?_
  refine c_seq ?_
  refine c_seq ?_
  refine c_region ?_
  refine o_yield rfl rfl rfl (y_val tok rfl) ?_
  refine o_call (.a (.v _)) rfl rfl fnok196 rfl rfl rfl (fun hg E w1 hm => by exact refMost_c _ _) ?_
  refine o_yield rfl rfl rfl (y_val tok rfl) ?_
  refine o_end [0, 1, 2, 12] rfl ?_
  refine x_then ?_
  refine c_cond rfl (fun h => ?_) (fun h => ?_)
  ·
    simp only [Bool.and_eq_true, Bool.or_eq_true, Bool.not_eq_true', Bool.or_eq_false_iff, Bool.and_eq_false_iff, decide_eq_true_eq, decide_eq_false_iff_not, beq_iff_eq, bne_iff_ne, Bool.not_eq_false', beq_eq_false_iff_ne, bne_eq_false_iff_eq, ne_eq, Decidable.not_not, Int.not_lt, Int.not_le] at h
    refine c_seq ?_
    refine c_region ?_
    refine o_yield rfl rfl rfl (y_val tok rfl) ?_
    refine o_yield rfl rfl rfl (y_val tok rfl) ?_
    refine o_end [6, 7] rfl ?_
    refine x_then ?_
    refine c_ret ?_
    refine x_then_ret ?_
    refine b_ret tok rfl ?_
    intro E w' hm _
    refine ⟨?_, hm.below (Vw.le.refl _)⟩
    have hw : widthB k = false := by
      cases hq : widthB k with
      | false => rfl
      | true => rw [mostI, if_pos hq] at h; omega
    rw [getSpec, if_pos hw]
    rfl
  ·
    simp only [Bool.and_eq_true, Bool.or_eq_true, Bool.not_eq_true', Bool.or_eq_false_iff, Bool.and_eq_false_iff, decide_eq_true_eq, decide_eq_false_iff_not, beq_iff_eq, bne_iff_ne, Bool.not_eq_false', beq_eq_false_iff_ne, bne_eq_false_iff_eq, ne_eq, Decidable.not_not, Int.not_lt, Int.not_le] at h
    have hw : widthB k = true := by
      cases hq : widthB k with
      | true => rfl
      | false => rw [mostI, if_neg (by simp [hq])] at h; omega
    have hwr : ¬ at_ < 0 → ¬ (s.size : Int) < at_ → IntKind.i64.wrap ((s.size : Int) - at_) = (s.size : Int) - at_ := fun h1 h2 => wrapI (by omega) (by omega)
    refine c_skip ?_
    refine x_then ?_
    refine c_seq ?_
    refine c_seq ?_
    refine c_region ?_
    refine o_yield rfl rfl rfl (y_val tok rfl) ?_
    refine o_yield rfl rfl rfl (y_val tok rfl) ?_
    refine o_yield rfl rfl rfl (y_val tok rfl) ?_
    refine o_yield rfl rfl rfl (y_val tok rfl) ?_
    refine o_yield rfl rfl rfl (y_val tok rfl) ?_
    refine o_yield rfl rfl rfl (y_val tok rfl) ?_
    refine o_yield rfl rfl rfl (y_val tok rfl) ?_
    refine o_yield rfl rfl rfl (y_val tok rfl) ?_
    refine o_yield rfl rfl rfl (y_val tok rfl) ?_
    refine o_yield rfl rfl rfl (y_val tok rfl) ?_
    refine o_yield rfl rfl rfl (y_val tok rfl) ?_
    refine o_yield rfl rfl rfl (y_val tok rfl) ?_
    refine o_yield rfl rfl rfl (y_val tok rfl) ?_
    refine o_yield rfl rfl rfl (y_val tok rfl) ?_
    refine o_yield rfl rfl rfl (y_val tok rfl) ?_
    refine o_yield rfl rfl rfl (y_val tok rfl) ?_
    refine o_end [0, 1, 2, 28] rfl ?_
    refine x_then ?_
    refine c_cond rfl (fun h => ?_) (fun h => ?_)
    ·
      simp only [Bool.and_eq_true, Bool.or_eq_true, Bool.not_eq_true', Bool.or_eq_false_iff, Bool.and_eq_false_iff, decide_eq_true_eq, decide_eq_false_iff_not, beq_iff_eq, bne_iff_ne, Bool.not_eq_false', beq_eq_false_iff_ne, bne_eq_false_iff_eq, ne_eq, Decidable.not_not, Int.not_lt, Int.not_le] at h
      refine c_seq ?_
      refine c_region ?_
      refine o_yield rfl rfl rfl (y_val tok rfl) ?_
      refine o_yield rfl rfl rfl (y_val tok rfl) ?_
      refine o_end [6, 7] rfl ?_
      refine x_then ?_
      refine c_ret ?_
      refine x_then_ret ?_
      refine b_ret tok rfl ?_
      intro E w' hm _
      refine ⟨?_, hm.below (Vw.le.refl _)⟩
      rw [getSpec, if_neg (by simp [hw]), if_pos (by
        by_cases h1 : at_ < 0
        · exact .inl h1
        · by_cases h2 : (s.size : Int) < at_
          · exact .inr (.inl h2)
          · rw [hwr h1 h2] at h; omega)]
      rfl
    ·
      simp only [Bool.and_eq_true, Bool.or_eq_true, Bool.not_eq_true', Bool.or_eq_false_iff, Bool.and_eq_false_iff, decide_eq_true_eq, decide_eq_false_iff_not, beq_iff_eq, bne_iff_ne, Bool.not_eq_false', beq_eq_false_iff_ne, bne_eq_false_iff_eq, ne_eq, Decidable.not_not, Int.not_lt, Int.not_le] at h
      refine c_skip ?_
      refine x_then ?_
      refine c_seq ?_
      refine c_region ?_
      refine o_yield rfl rfl rfl (y_val tok rfl) ?_
      refine o_end [0, 1, 2, 8] rfl ?_
      refine x_then ?_
      refine c_seq ?_
      refine c_seq ?_
      refine c_region ?_
      refine o_yield rfl rfl rfl (y_val tok rfl) ?_
      refine o_yield rfl rfl rfl (y_val tok rfl) ?_
      refine o_yield rfl rfl rfl (y_val tok rfl) ?_
      refine o_end [0, 1, 8, 9] rfl ?_
      refine x_then ?_
      refine c_block ?_
      rw [hwr (by omega) (by omega)] at h
      have hk := hw
      simp only [widthB, Bool.and_eq_true, decide_eq_true_eq] at hk
      obtain ⟨m, hm⟩ : ∃ m : Nat, k = m := ⟨k.toNat, by omega⟩
      obtain ⟨b, hb⟩ : ∃ b : Nat, at_ = b := ⟨at_.toNat, by omega⟩
      subst hm hb
      have hlt := leTo_lt (digit_lt s b)
      rw [wrapI (n := (m : Int) - 1) (by omega) (by omega)]
      refine c_loopK [0, 1] [] rfl rfl (σ := Nat × Nat) (fun (i, q) => [(8, .a (.v (I q))), (9, .a (.v (I ((i : Int) - 1))))]) (fun (i, q) => []) (fun (i, q) => i ≤ m ∧ q * pw i + leTo (digit s b) i = leTo (digit s b) m ∧ q ≤ 281474976710656) (fun (i, q) => i) ((m, 0)) (⟨by omega, by omega, by omega⟩) (by repeat (first | exact SubF.nil | refine SubF.cons rfl ?_)) (by repeat (first | exact SubO.nil | refine SubO.cons rfl ?_)) rfl ?_
      rintro ⟨i, q⟩ ⟨hi, hq, hq2⟩
      refine c_seq ?_
      refine c_seq ?_
      refine c_region ?_
      refine o_yield rfl rfl rfl (y_val tok rfl) ?_
      refine o_yield rfl rfl rfl (y_val tok rfl) ?_
      refine o_end [0, 1, 8, 9, 32] rfl ?_
      refine x_then ?_
      refine c_cond rfl (fun h => ?_) (fun h => ?_)
      ·
        simp only [Bool.and_eq_true, Bool.or_eq_true, Bool.not_eq_true', Bool.or_eq_false_iff, Bool.and_eq_false_iff, decide_eq_true_eq, decide_eq_false_iff_not, beq_iff_eq, bne_iff_ne, Bool.not_eq_false', beq_eq_false_iff_ne, bne_eq_false_iff_eq, ne_eq, Decidable.not_not, Int.not_lt, Int.not_le] at h
        refine c_skip ?_
        refine x_then ?_
        refine c_seq ?_
        refine c_block ?_
        refine c_region ?_
        refine o_yield rfl rfl rfl (y_val tok rfl) ?_
        refine o_yield rfl rfl rfl (y_val tok rfl) ?_
        refine o_yield rfl rfl rfl (y_val tok rfl) ?_
        refine o_yield rfl rfl rfl (y_val tok rfl) ?_
        refine o_yield rfl rfl rfl (y_val tok rfl) ?_
        refine o_yield rfl rfl rfl (y_val tok rfl) ?_
        obtain ⟨j, rfl⟩ : ∃ j, i = j + 1 := ⟨i - 1, by omega⟩
        have h1 := hlt m
        have h2 := pw_le6 (k := m) (by omega)
        have h3 := digit_lt s b j
        have h4 := pw_pos (j + 1)
        rw [wrapI (n := (q : Int) * 256) (by omega) (by omega), show ((j + 1 : Nat) : Int) - 1 = j by omega, wrapI (n := (b : Int) + j) (by omega) (by omega)]
        refine o_yield rfl rfl rfl (y_si tok rfl (fun hg => by omega)) ?_
        refine o_yield rfl rfl rfl (y_val tok rfl) ?_
        refine o_yield rfl rfl rfl (y_val tok rfl) ?_
        refine o_yield rfl rfl rfl (y_val tok rfl) ?_
        refine o_end [0, 1, 8, 9] rfl ?_
        refine x_block ?_
        refine x_then ?_
        refine c_region ?_
        refine o_yield rfl rfl rfl (y_val tok rfl) ?_
        refine o_yield rfl rfl rfl (y_val tok rfl) ?_
        refine o_yield rfl rfl rfl (y_val tok rfl) ?_
        refine o_end [0, 1, 8, 9] rfl ?_
        refine x_then ?_
        have hnew : (q * 256 + digit s b j) * pw j + leTo (digit s b) j = leTo (digit s b) m := by
          rw [← hq, pw_succ, leTo, Nat.add_mul, Nat.mul_assoc, Nat.mul_comm 256 (pw j)]; omega
        have hle : q * 256 + digit s b j ≤ (q * 256 + digit s b j) * pw j := Nat.le_mul_of_pos_right _ (pw_pos j)
        have e : IntKind.i64.wrap (((q : Int) * 256) + IntKind.i64.wrap (((byteAt s ((b : Int) + j).toNat).toNat : Nat) : Int)) = ((q * 256 + digit s b j : Nat) : Int) := by
          rw [show ((byteAt s ((b : Int) + j).toNat).toNat : Nat) = digit s b j by rw [show ((b : Int) + j).toNat = b + j by omega]; rfl, wrapI (n := ((digit s b j : Nat) : Int)) (by omega) (by omega), wrapI (by omega) (by omega)]
          omega
        rw [e, wrapI (n := (j : Int) - 1) (by omega) (by omega)]
        refine x_round ((j, q * 256 + digit s b j)) (⟨by omega, hnew, by omega⟩) (by first | omega | (dsimp only; omega)) (by repeat (first | exact SubF.nil | refine SubF.cons rfl ?_)) (by repeat (first | exact SubO.nil | refine SubO.cons rfl ?_)) rfl (Vw.le.refl _)
      ·
        simp only [Bool.and_eq_true, Bool.or_eq_true, Bool.not_eq_true', Bool.or_eq_false_iff, Bool.and_eq_false_iff, decide_eq_true_eq, decide_eq_false_iff_not, beq_iff_eq, bne_iff_ne, Bool.not_eq_false', beq_eq_false_iff_ne, bne_eq_false_iff_eq, ne_eq, Decidable.not_not, Int.not_lt, Int.not_le] at h
        have hi0 : i = 0 := by omega
        subst hi0
        have hqq : q = leTo (digit s b) m := by simpa [leTo, pw] using hq
        subst hqq
        refine c_exit ?_
        refine x_then_exit ?_
        refine x_then_exit ?_
        refine x_block_hit ?_
        refine x_then ?_
        refine c_seq ?_
        refine c_seq ?_
        refine c_region ?_
        refine o_yield rfl rfl rfl (y_val tok rfl) ?_
        refine o_yield rfl rfl rfl (y_val tok rfl) ?_
        refine o_end [8, 45] rfl ?_
        refine x_then ?_
        refine c_cond rfl (fun h => ?_) (fun h => ?_)
        ·
          simp only [Bool.and_eq_true, Bool.or_eq_true, Bool.not_eq_true', Bool.or_eq_false_iff, Bool.and_eq_false_iff, decide_eq_true_eq, decide_eq_false_iff_not, beq_iff_eq, bne_iff_ne, Bool.not_eq_false', beq_eq_false_iff_ne, bne_eq_false_iff_eq, ne_eq, Decidable.not_not, Int.not_lt, Int.not_le] at h
          refine c_seq ?_
          refine c_region ?_
          refine o_yield rfl rfl rfl (y_val tok rfl) ?_
          refine o_yield rfl rfl rfl (y_val tok rfl) ?_
          refine o_end [6, 7] rfl ?_
          refine x_then ?_
          refine c_ret ?_
          refine x_then_ret ?_
          refine b_ret tok rfl ?_
          intro E w' hm _
          refine ⟨?_, hm.below (Vw.le.refl _)⟩
          rw [getSpec, if_neg (by simp [hw]), if_neg (by omega), if_pos (by simp only [Int.toNat_natCast]; omega)]
          rfl
        ·
          simp only [Bool.and_eq_true, Bool.or_eq_true, Bool.not_eq_true', Bool.or_eq_false_iff, Bool.and_eq_false_iff, decide_eq_true_eq, decide_eq_false_iff_not, beq_iff_eq, bne_iff_ne, Bool.not_eq_false', beq_eq_false_iff_ne, bne_eq_false_iff_eq, ne_eq, Decidable.not_not, Int.not_lt, Int.not_le] at h
          refine c_skip ?_
          refine x_then ?_
          refine c_seq ?_
          refine c_region ?_
          refine o_yield rfl rfl rfl (y_val tok rfl) ?_
          refine o_yield rfl rfl rfl (y_val tok rfl) ?_
          refine o_yield rfl rfl rfl (y_val tok rfl) ?_
          refine o_end [6, 7] rfl ?_
          refine x_then ?_
          refine c_ret ?_
          refine b_ret tok rfl ?_
          intro E w' hm _
          refine ⟨?_, hm.below (Vw.le.refl _)⟩
          rw [getSpec, if_neg (by simp [hw]), if_neg (by omega), if_neg (by simp only [Int.toNat_natCast]; omega)]
          simp only [Int.toNat_natCast]
          rfl
end Go.Proofs.Ytflimioplnbopaa
