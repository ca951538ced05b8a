import Derived.Test.YtlafboeohojcbaaGreatData
/- Geometries that may be: the program and the document agree. -/
set_option linter.unusedVariables false
set_option linter.unusedSimpArgs false
set_option maxRecDepth 100000
namespace Go.Proofs.YtlafboeohojcbaaGreat
open Go Go.Eng Go.RowKit
def inB (n a b : Int) : Bool := decide (a ≤ n) && decide (n ≤ b)
theorem in_c (n a b : Int) (w : World) : Calls Tryz.prog 18 #[I n, I a, I b] w fun e w' => e = .returned (.bool (inB n a b)) ∧ Below w.heap.size w w' := by
 refine enter (E := E0) (O := []) (nl := 0) (V := vw w) [.a (.v (I n)), .a (.v (I a)), .a (.v (I b))] Tryz.func18 rfl rfl (mem0 E0 0 w) rfl rfl ?_
 refine c_seq (c_region ?_)
 refine yO rfl rfl rfl rfl ?_
 refine o_end [0, 1, 2] rfl ?_
 refine x_then (c_seq (c_region ?_))
 iterate 9 refine yO rfl rfl rfl rfl ?_
 refine o_end [6] rfl ?_
 refine x_then (c_ret ?_)
 refine b_ret tok rfl ?_
 intro E w' hm _
 exact ⟨rfl, hm.below (Vw.le.refl _)⟩
def geoB (g : Geo) : Bool := decide ((1 ≤ g.nodes ∧ g.nodes ≤ 16) ∧ (1 ≤ g.slots ∧ g.slots ≤ g.nodes) ∧ (1 ≤ g.blocks ∧ g.blocks ≤ 64) ∧ (1 ≤ g.per ∧ g.per ≤ 8) ∧ (g.per + 2 ≤ g.journal ∧ g.journal ≤ 64) ∧
 (8 * g.slots ≤ g.log ∧ g.log ≤ 512) ∧ (1 ≤ g.lease ∧ g.lease < g.wait ∧ g.wait ≤ 1048576))
theorem refMay_c (g : Geo) (ok : g.Ok) (w : World) : Calls Tryz.prog 4 #[g.val] w fun e w' => e = .returned (.bool (geoB g)) ∧ Below w.heap.size w w' := by
 refine enter (E := E0) (O := []) (nl := 0) (V := vw w) [.a (.v g.val)] Tryz.func4 rfl rfl (mem0 E0 0 w) rfl rfl ?_
 refine c_seq (c_region ?_)
 refine o_new tok rfl rfl rfl rfl ?_
 refine yO rfl rfl rfl rfl ?_
 refine o_end [1] rfl ?_
 refine x_then (c_seq (c_region ?_))
 iterate 2 refine yO rfl rfl rfl rfl ?_
 refine o_call (.a (.v _)) rfl rfl fnok18 rfl rfl rfl (fun hg E w1 hm => by exact in_c _ _ _ _) ?_
 iterate 5 refine yO rfl rfl rfl rfl ?_
 refine o_call (.a (.v _)) rfl rfl fnok18 rfl rfl rfl (fun hg E w1 hm => by exact in_c _ _ _ _) ?_
 iterate 4 refine yO rfl rfl rfl rfl ?_
 refine o_call (.a (.v _)) rfl rfl fnok18 rfl rfl rfl (fun hg E w1 hm => by exact in_c _ _ _ _) ?_
 iterate 4 refine yO rfl rfl rfl rfl ?_
 refine o_call (.a (.v _)) rfl rfl fnok18 rfl rfl rfl (fun hg E w1 hm => by exact in_c _ _ _ _) ?_
 iterate 7 refine yO rfl rfl rfl rfl ?_
 refine o_call (.a (.v _)) rfl rfl fnok18 rfl rfl rfl (fun hg E w1 hm => by exact in_c _ _ _ _) ?_
 iterate 7 refine yO rfl rfl rfl rfl ?_
 refine o_call (.a (.v _)) rfl rfl fnok18 rfl rfl rfl (fun hg E w1 hm => by exact in_c _ _ _ _) ?_
 iterate 19 refine yO rfl rfl rfl rfl ?_
 refine o_end [2] rfl ?_
 refine x_then (c_ret ?_)
 refine b_ret tok rfl ?_
 intro E w' hm _
 refine ⟨?_, hm.below (Vw.le.refl _)⟩
 show Ending.returned (.bool ((((((((inB g.nodes 1 16 && inB g.slots 1 g.nodes) && inB g.blocks 1 64) && inB g.per 1 8) && inB g.journal (IntKind.i64.wrap (g.per + 2)) 64) && inB g.log (IntKind.i64.wrap (8 * g.slots)) 512) &&
  decide (1 ≤ g.lease)) && decide (g.lease < g.wait)) && decide (g.wait ≤ 1048576))) = _
 congr 2
 by_cases h : (1 ≤ g.nodes ∧ g.nodes ≤ 16) ∧ (1 ≤ g.slots ∧ g.slots ≤ g.nodes) ∧ (1 ≤ g.per ∧ g.per ≤ 8)
 ·
  rw [wrapI (by omega) (by omega), wrapI (by omega) (by omega), Bool.eq_iff_iff]
  simp only [inB, geoB, Bool.and_eq_true, decide_eq_true_eq]
  omega
 ·
  have : geoB g = false := by
   simp only [geoB, decide_eq_false_iff_not]
   omega
  rw [this, Bool.eq_false_iff]
  simp only [inB, ne_eq, Bool.and_eq_true, decide_eq_true_eq]
  omega
/-! The program's. -/
abbrev encI (n : Int) : List Value := [I n]
def sortedB : List Int → Bool
 | a :: b :: r => decide (a ≤ b) && sortedB (b :: r)
 | _ => true
theorem sorted_iff : ∀ (l : List Int), sortedB l = true ↔ ∀ j x y, l[j]? = some x → l[j + 1]? = some y → x ≤ y
 | [] => by simp [sortedB]
 | [a] => by simp [sortedB]
 | a :: b :: r => by
  simp only [sortedB, Bool.and_eq_true, decide_eq_true_eq, sorted_iff (b :: r)]
  constructor
  ·
   rintro ⟨h1, h2⟩ j x y hx hy
   cases j with
   | zero => simp at hx hy; subst hx hy; exact h1
   | succ j => exact h2 j x y (by simpa using hx) (by simpa using hy)
  ·
   intro h
   exact ⟨h 0 a b rfl rfl, fun j x y hx hy => h (j + 1) x y (by simpa using hx) (by simpa using hy)⟩
theorem within_c (V : Vw) (sv : Value) (l : List Int) (w : World) (hV : V.le (vw w)) (hs : SlOf V encI 1 sv l) (hn : l.length ≤ lim) :
  Calls Tryz.prog 90 #[sv] w fun e w' => e = .returned (.bool (sortedB l)) ∧ Below w.heap.size w w' := by
 simp only [lim] at hn
 have hs' := hs.mono hV
 refine enter (E := E0) (O := []) (nl := 0) (V := vw w) [.a (.v sv)] Tryz.func90 rfl rfl (mem0 E0 0 w) rfl rfl ?_
 refine c_seq (c_region ?_)
 refine yO rfl rfl rfl rfl ?_
 refine o_end [0] rfl ?_
 refine x_then (c_seq (c_seq (c_region ?_)))
 refine yO rfl rfl rfl rfl ?_
 refine o_end [0, 3] rfl ?_
 refine x_then (c_block ?_)
 refine c_loop (σ := Nat) (fun k => [(0, .a (.v sv)), (3, .a (.v (I (k + 1 : Nat))))]) (fun _ => []) 0 (fun _ => vw w)
  (fun k => k + 1 ≤ l.length + 1 ∧ ∀ j x y, j < k → l[j]? = some x → l[j + 1]? = some y → x ≤ y) (fun k => l.length - k) 0 ⟨by omega, by omega⟩ ⟨rfl, rfl, trivial⟩ trivial rfl (Vw.le.refl _) ?_
 rintro k ⟨hk, hall⟩
 iterate 2 refine c_seq ?_
 refine c_region ?_
 iterate 2 refine yO rfl rfl rfl rfl ?_
 refine o_yield rfl rfl rfl (y_len tok rfl (fun hg => hs'.sl)) ?_
 refine yO rfl rfl rfl rfl ?_
 refine o_end [0, 3, 7] rfl ?_
 refine x_then ?_
 refine c_cond rfl (fun h => ?_) (fun h => ?_)
 ·
  refine c_skip (x_then (c_seq (c_block (c_seq ?_))))
  refine c_draw mixed (by kernel_rfl) ?_
  iterate 3 refine d_yield rfl rfl rfl (yV rfl) rfl ?_
  have hlt : k + 1 < l.length := by simp at h; omega
  have hx : l[k]? = some (l[k]'(by omega)) := by simp
  have hy : l[k + 1]? = some l[k + 1] := by simp [hlt]
  have hw : IntKind.i64.wrap (((k + 1 : Nat) : Int) - 1) = (k : Int) := by rw [wrapI (by omega) (by omega)]; omega
  rw [hw]
  refine d_yield rfl rfl rfl (y_idx tok rfl (fun hg => hs'.sl) (fun hg => ⟨by omega, by omega⟩)) rfl ?_
  refine d_yield rfl rfl rfl (y_lel tok (k) 0 ((l[k]'(by omega))) rfl (fun hg => hs') (fun hg => hx) rfl rfl) rfl ?_
  iterate 2 refine d_yield rfl rfl rfl (yV rfl) rfl ?_
  refine d_yield rfl rfl rfl (y_idx tok rfl (fun hg => hs'.sl) (fun hg => ⟨by omega, by omega⟩)) rfl ?_
  refine d_yield rfl rfl rfl (y_lel tok (k + 1) 0 (l[k + 1]) rfl (fun hg => hs') (fun hg => hy) rfl rfl) rfl ?_
  refine d_yield rfl rfl rfl (yV rfl) rfl ?_
  refine d_end [0, 3, 19] rfl ?_
  refine x_then ?_
  refine c_cond rfl (fun h => ?_) (fun h => ?_)
  ·
   refine c_seq (c_region ?_)
   refine yO rfl rfl rfl rfl ?_
   refine o_end [2] rfl ?_
   refine x_then (c_ret (x_block_ret (x_then_ret (x_then_ret (x_block_ret ?_)))))
   refine x_then_ret ?_
   refine b_ret tok rfl ?_
   intro E w' hm _
   refine ⟨?_, hm.below (Vw.le.refl _)⟩
   have : sortedB l = false := by
    rw [Bool.eq_false_iff]
    intro hc
    have := (sorted_iff l).1 hc k _ _ hx hy
    simp at h; omega
   rw [this]; rfl
  ·
   refine c_skip (x_block (x_then (c_region ?_)))
   iterate 3 refine yO rfl rfl rfl rfl ?_
   refine o_end [0, 3] rfl ?_
   refine x_then ?_
   have hwr : IntKind.i64.wrap (((k + 1 : Nat) : Int) + 1) = ((k + 1 + 1 : Nat) : Int) := by rw [wrapI (by omega) (by omega)]; omega
   rw [hwr]
   refine x_round (k + 1) ⟨by omega, fun j x y hj hx' hy' => ?_⟩ (by omega) ⟨rfl, rfl, trivial⟩ trivial rfl (Vw.le.refl _)
   by_cases hjk : j = k
   ·
    subst hjk
    rw [hx] at hx'; rw [hy] at hy'
    cases hx'; cases hy'
    simp at h; omega
   · exact hall j x y (by omega) hx' hy'
 ·
  refine c_exit (x_then_exit (x_then_exit (x_block_hit (x_then (c_seq ?_)))))
  refine c_region ?_
  refine yO rfl rfl rfl rfl ?_
  refine o_end [2] rfl ?_
  refine x_then (c_ret ?_)
  refine b_ret tok rfl ?_
  intro E w' hm _
  refine ⟨?_, hm.below (Vw.le.refl _)⟩
  have : sortedB l = true := by
   rw [sorted_iff]
   intro j x y hx hy
   have := (List.getElem?_eq_some_iff.1 hy).1
   simp at h
   exact hall j x y (by omega) hx hy
  rw [this]; rfl
theorem geoMay_c (g : Geo) (ok : g.Ok) (w : World) : Calls Tryz.prog 79 #[g.val] w fun e w' => e = .returned (.bool (geoB g)) ∧ Below w.heap.size w w' := by
 refine enter (E := E0) (O := []) (nl := 0) (V := vw w) [.a (.v g.val)] Tryz.func79 rfl rfl (mem0 E0 0 w) rfl rfl ?_
 refine c_seq (c_region ?_)
 refine o_new tok rfl rfl rfl rfl ?_
 refine yO rfl rfl rfl rfl ?_
 refine o_end [1] rfl ?_
 refine x_then (c_seq (c_region ?_))
 iterate 4 refine yO rfl rfl rfl rfl ?_
 refine o_bs tok rfl rfl rfl rfl (fun b1 V1 hle1 hb1 => ?_)
 refine o_call (.a (.v _)) rfl rfl fnok90 rfl rfl rfl (fun hg E w1 hm => by exact within_c V1 _ [1, g.slots, g.nodes, 16] _ hm.leV (SlOf.ofBlock (enc := encI) (sz := 1) (l := [1, g.slots, g.nodes, 16]) (hb1 hg) rfl (fun _ => rfl) (Nat.le_refl _)) (by simp [lim])) ?_
 iterate 3 refine yO rfl rfl rfl rfl ?_
 refine o_bs tok rfl rfl rfl rfl (fun b2 V2 hle2 hb2 => ?_)
 refine o_call (.a (.v _)) rfl rfl fnok90 rfl rfl rfl (fun hg E w1 hm => by exact within_c V2 _ [1, g.blocks, 64] _ hm.leV (SlOf.ofBlock (enc := encI) (sz := 1) (l := [1, g.blocks, 64]) (hb2 hg) rfl (fun _ => rfl) (Nat.le_refl _)) (by simp [lim])) ?_
 iterate 4 refine yO rfl rfl rfl rfl ?_
 refine o_bs tok rfl rfl rfl rfl (fun b3 V3 hle3 hb3 => ?_)
 refine o_call (.a (.v _)) rfl rfl fnok90 rfl rfl rfl (fun hg E w1 hm => by exact within_c V3 _ [1, g.per, 8] _ hm.leV (SlOf.ofBlock (enc := encI) (sz := 1) (l := [1, g.per, 8]) (hb3 hg) rfl (fun _ => rfl) (Nat.le_refl _)) (by simp [lim])) ?_
 iterate 7 refine yO rfl rfl rfl rfl ?_
 refine o_bs tok rfl rfl rfl rfl (fun b4 V4 hle4 hb4 => ?_)
 refine o_call (.a (.v _)) rfl rfl fnok90 rfl rfl rfl (fun hg E w1 hm => by exact within_c V4 _ [IntKind.i64.wrap (g.per + 2), g.journal, 64] _ hm.leV (SlOf.ofBlock (enc := encI) (sz := 1) (l := [IntKind.i64.wrap (g.per + 2), g.journal, 64]) (hb4 hg) rfl (fun _ => rfl) (Nat.le_refl _)) (by simp [lim])) ?_
 iterate 7 refine yO rfl rfl rfl rfl ?_
 refine o_bs tok rfl rfl rfl rfl (fun b5 V5 hle5 hb5 => ?_)
 refine o_call (.a (.v _)) rfl rfl fnok90 rfl rfl rfl (fun hg E w1 hm => by exact within_c V5 _ [IntKind.i64.wrap (8 * g.slots), g.log, 512] _ hm.leV (SlOf.ofBlock (enc := encI) (sz := 1) (l := [IntKind.i64.wrap (8 * g.slots), g.log, 512]) (hb5 hg) rfl (fun _ => rfl) (Nat.le_refl _)) (by simp [lim])) ?_
 iterate 7 refine yO rfl rfl rfl rfl ?_
 refine o_bs tok rfl rfl rfl rfl (fun b6 V6 hle6 hb6 => ?_)
 refine o_call (.a (.v _)) rfl rfl fnok90 rfl rfl rfl (fun hg E w1 hm => by exact within_c V6 _ [1, g.lease, IntKind.i64.wrap (g.wait - 1), 1048575] _ hm.leV (SlOf.ofBlock (enc := encI) (sz := 1) (l := [1, g.lease, IntKind.i64.wrap (g.wait - 1), 1048575]) (hb6 hg) rfl (fun _ => rfl) (Nat.le_refl _)) (by simp [lim])) ?_
 iterate 2 refine yO rfl rfl rfl rfl ?_
 refine o_end [2] rfl ?_
 refine x_then (c_ret ?_)
 refine b_ret tok rfl ?_
 intro E w' hm _
 refine ⟨?_, hm.below (((((hle1.trans hle2).trans hle3).trans hle4).trans hle5).trans hle6)⟩
 show Ending.returned (.bool (((((sortedB [1, g.slots, g.nodes, 16] && sortedB [1, g.blocks, 64]) && sortedB [1, g.per, 8]) && sortedB [IntKind.i64.wrap (g.per + 2), g.journal, 64]) && sortedB [IntKind.i64.wrap (8 * g.slots), g.log, 512]) &&
  sortedB [1, g.lease, IntKind.i64.wrap (g.wait - 1), 1048575])) = _
 congr 2
 have hw := ok.wait
 simp only [R64] at hw
 by_cases h : (1 ≤ g.nodes ∧ g.nodes ≤ 16) ∧ (1 ≤ g.slots ∧ g.slots ≤ g.nodes) ∧ (1 ≤ g.per ∧ g.per ≤ 8)
 ·
  rw [wrapI (n := g.per + 2) (by omega) (by omega), wrapI (n := 8 * g.slots) (by omega) (by omega)]
  by_cases hwait : g.wait = -9223372036854775808
  ·
   have : geoB g = false := by
    simp only [geoB, decide_eq_false_iff_not]
    omega
   rw [this, hwait]
   simp [sortedB]
   intros
   decide
  ·
   rw [wrapI (n := g.wait - 1) (by omega) (by omega), Bool.eq_iff_iff]
   simp only [sortedB, geoB, Bool.and_eq_true, decide_eq_true_eq, and_true]
   omega
 ·
  have : geoB g = false := by
   simp only [geoB, decide_eq_false_iff_not]
   omega
  rw [this, Bool.eq_false_iff]
  simp only [sortedB, ne_eq, Bool.and_eq_true, decide_eq_true_eq]
  omega
def belowB (n m : Int) : Bool := decide (0 ≤ n) && decide (n < m)
theorem below_c (n m : Int) (w : World) : Calls Tryz.prog 105 #[I n, I m] w fun e w' => e = .returned (.bool (belowB n m)) ∧ Below w.heap.size w w' := by
 refine enter (E := E0) (O := []) (nl := 0) (V := vw w) [.a (.v (I n)), .a (.v (I m))] Tryz.func105 rfl rfl (mem0 E0 0 w) rfl rfl ?_
 refine c_seq (c_region ?_)
 refine yO rfl rfl rfl rfl ?_
 refine o_end [0, 1] rfl ?_
 refine x_then (c_seq (c_region ?_))
 iterate 8 refine yO rfl rfl rfl rfl ?_
 refine o_end [4] rfl ?_
 refine x_then (c_ret ?_)
 refine b_ret tok rfl ?_
 intro E w' hm _
 exact ⟨rfl, hm.below (Vw.le.refl _)⟩
def keyB (n : Int) : Bool := decide (16 ≤ n) && decide (n ≤ 1099511627776)
theorem key_c (n : Int) (w : World) : Calls Tryz.prog 39 #[I n] w fun e w' => e = .returned (.bool (keyB n)) ∧ Below w.heap.size w w' := by
 refine enter (E := E0) (O := []) (nl := 0) (V := vw w) [.a (.v (I n))] Tryz.func39 rfl rfl (mem0 E0 0 w) rfl rfl ?_
 refine c_seq (c_region ?_)
 refine yO rfl rfl rfl rfl ?_
 refine o_end [0] rfl ?_
 refine x_then (c_seq (c_region ?_))
 iterate 7 refine yO rfl rfl rfl rfl ?_
 refine o_end [2] rfl ?_
 refine x_then (c_ret ?_)
 refine b_ret tok rfl ?_
 intro E w' hm _
 exact ⟨rfl, hm.below (Vw.le.refl _)⟩
theorem commits_c (r : Record) (b : Nat) (w : World) (hb : w.heap[b]? = some (.cells r.cells.toArray 139 (0, 0))) :
  Calls Tryz.prog 106 #[.pointer (some ⟨b, 0, none⟩)] w fun e w' => e = .returned (.bool (decide (0 < r.count))) ∧ Below w.heap.size w w' := by
 refine enter1 [.a (.ptr 0 0)] hb Tryz.func106 rfl rfl rfl rfl ?_
 refine c_seq (c_region ?_)
 refine yO rfl rfl rfl rfl ?_
 refine o_end [0] rfl ?_
 refine x_then (c_seq (c_region ?_))
 iterate 7 refine yO rfl rfl rfl rfl ?_
 refine o_end [2] rfl ?_
 refine x_then (c_ret ?_)
 refine b_ret tok rfl ?_
 intro E w' hm _
 exact ⟨rfl, below1 hb hm (Vw.le.refl _) rfl rfl rfl⟩
def Record.eqB (a b : Record) : Bool := a.key == b.key && (a.lsn == b.lsn && (a.block == b.block && (a.k == b.k && (a.text.toList == b.text.toList && a.count == b.count))))
theorem toList_inj {a b : ByteArray} (h : a.toList = b.toList) : a = b := by
 rw [ByteArray.toList_eq, ByteArray.toList_eq] at h
 obtain ⟨x⟩ := a
 obtain ⟨y⟩ := b
 exact congrArg ByteArray.mk (Array.ext' h)
theorem size_zero {a : ByteArray} (h : a.size = 0) : a = ByteArray.empty := by
 obtain ⟨⟨x⟩⟩ := a
 have : x = [] := List.eq_nil_of_length_eq_zero h
 subst this
 rfl
theorem Record.eqB_iff (a b : Record) : a.eqB b = true ↔ a = b := by
 simp only [Record.eqB, Bool.and_eq_true, beq_iff_eq]
 constructor
 ·
  rintro ⟨h1, h2, h3, h4, h5, h6⟩
  cases a; cases b
  have := toList_inj h5
  simp_all
 ·
  rintro rfl
  simp
theorem recEq {op : BinOp} {ox oy : Operand} (a b : Record) (w : World) (hop : op = .eql ∨ op = .neq) :
  (do eqGuard op 74 ox oy a.val b.val; binOp op 74 a.val b.val : Sem Value).run Tryz.prog w = .ok (.bool (if op = .eql then a.eqB b else !(a.eqB b))) w := by
 have hS : Tryz.prog.underlying 74 = some (.struct (Tryz.prog.fieldsOf 74)) := by kernel_rfl
 have hp : Tryz.prog.stoodInHeld 74 = false := by kernel_rfl
 have hg : Tryz.prog.eqGuardType Tryz.prog.depth 74 = false := by kernel_rfl
 have key : (Op.equalIn 10000 74 a.val b.val).run Tryz.prog w = .ok (a.eqB b) w := by
  have u3 := Tryz.underlying3
  have a3 := Tryz.isAgg3
  have z3 := Tryz.sizeOf3
  have u9 := Tryz.underlying9
  have a9 := Tryz.isAgg9
  have z9 := Tryz.sizeOf9
  rw [show (10000 : Nat) = 9999 + 1 from rfl, run_equalIn_agg w 9999 74 _ _ hS hp]
  simp only [Program.fieldsOf, Tryz.underlying74]
  go_simp
  unfold Record.eqB
  by_cases h1 : a.key = b.key <;> by_cases h2 : a.lsn = b.lsn <;> by_cases h3 : a.block = b.block <;> by_cases h4 : a.k = b.k <;> by_cases h5 : a.text.toList = b.text.toList <;> by_cases h6 : a.count = b.count <;> simp [h1, h2, h3, h4, h5, h6]
 rw [Sem.run_bind, run_eqGuard_agg w _ _ _ _ _ _ hg]
 rcases hop with rfl | rfl
 · simp only [Result.andThen_ok, run_eql_struct, key]; rfl
 · simp only [Result.andThen_ok, run_neq_struct, key]; rfl
def recB (r : Record) : Bool :=
 keyB r.key && belowB r.lsn 1099511627777 && belowB r.count 64 &&
  (if 0 < r.count then decide (r.block = 0) && decide (r.k = 0) && (r.text.size == 0) else belowB r.block 64 && belowB r.k 8 && decide ((r.text.size : Int) ≤ 256))
theorem entryMay_c (r : Record) (b : Nat) (w : World) (hb : w.heap[b]? = some (.cells r.cells.toArray 139 (0, 0))) :
  Calls Tryz.prog 94 #[.pointer (some ⟨b, 0, none⟩)] w fun e w' => e = .returned (.bool (recB r)) ∧ Below w.heap.size w w' := by
 refine enter1 [.a (.ptr 0 0)] hb Tryz.func94 rfl rfl rfl rfl ?_
 refine c_seq (c_region ?_)
 refine yO rfl rfl rfl rfl ?_
 refine o_end [0] rfl ?_
 refine x_then (c_seq (c_seq (c_region ?_)))
 iterate 5 refine yO rfl rfl rfl rfl ?_
 refine o_call (.a (.v _)) rfl rfl fnok39 rfl rfl rfl (fun hg E w1 hm => by exact key_c _ _) ?_
 iterate 7 refine yO rfl rfl rfl rfl ?_
 refine o_call (.a (.v _)) rfl rfl fnok105 rfl rfl rfl (fun hg E w1 hm => by exact below_c _ _ _) ?_
 iterate 8 refine yO rfl rfl rfl rfl ?_
 refine o_call (.a (.v _)) rfl rfl fnok105 rfl rfl rfl (fun hg E w1 hm => by exact below_c _ _ _) ?_
 iterate 2 refine yO rfl rfl rfl rfl ?_
 refine o_end [0, 27] rfl ?_
 refine x_then ?_
 refine c_cond rfl (fun h => ?_) (fun h => ?_)
 ·
  refine c_seq (c_region ?_)
  refine yO rfl rfl rfl rfl ?_
  refine o_end [2] rfl ?_
  refine x_then (c_ret (x_then_ret ?_))
  refine b_ret tok rfl ?_
  intro E w' hm _
  refine ⟨?_, below1 hb hm (Vw.le.refl _) rfl rfl rfl⟩
  have : recB r = false := by
   simp only [recB]
   revert h
   cases keyB r.key <;> cases belowB r.lsn 1099511627777 <;> cases belowB r.count 64 <;> simp
  rw [this]; rfl
 ·
  refine c_skip (x_then (c_seq (c_seq (c_region ?_))))
  refine yO rfl rfl rfl rfl ?_
  have hpre := h
  clear h
  refine o_call (.a (.v _)) rfl rfl fnok106 rfl rfl rfl (fun hg E w1 hm => by exact commits_c r _ _ (hm.lit 0 _ _ rfl)) ?_
  refine o_end [0, 29] rfl ?_
  refine x_then ?_
  refine c_cond rfl (fun h => ?_) (fun h => ?_)
  ·
   refine c_seq ?_
   refine c_draw mixed (by kernel_rfl) ?_
   iterate 20 refine d_yield rfl rfl rfl (yV rfl) rfl ?_
   refine d_yield rfl rfl rfl (y_seq (.bool (r.eqB ⟨r.key, r.lsn, 0, 0, ByteArray.empty, r.count⟩)) rfl (fun E w => recEq r ⟨r.key, r.lsn, 0, 0, ByteArray.empty, r.count⟩ w (.inl rfl))) rfl ?_
   refine d_yield rfl rfl rfl (yV rfl) rfl ?_
   refine d_end [2] rfl ?_
   refine x_then (c_ret (x_then_ret ?_))
   refine b_ret tok rfl ?_
   intro E w' hm _
   refine ⟨?_, below1 hb hm (Vw.le.refl _) rfl rfl rfl⟩
   show Ending.returned (.bool _) = _
   congr 2
   have h0 : 0 < r.count := by simpa using h
   rw [Bool.eq_iff_iff, Record.eqB_iff]
   simp only [recB, if_pos h0]
   have hc : (keyB r.key && belowB r.lsn 1099511627777 && belowB r.count 64) = true := by
    simp only [Bool.or_eq_false_iff, Bool.not_eq_false'] at hpre
    simp [hpre]
   rw [hc, Bool.true_and]
   simp only [Bool.and_eq_true, decide_eq_true_eq, beq_iff_eq]
   constructor
   ·
    intro he
    have h1 := congrArg Record.block he
    have h2 := congrArg Record.k he
    have h3 := congrArg Record.text he
    simp only at h1 h2 h3
    exact ⟨⟨h1, h2⟩, by rw [h3]; rfl⟩
   ·
    rintro ⟨⟨h1, h2⟩, h3⟩
    have h4 : r.text = ByteArray.empty := size_zero h3
    cases r
    simp_all
  ·
   refine c_skip (x_then (c_seq (c_region ?_)))
   iterate 5 refine yO rfl rfl rfl rfl ?_
   refine o_call (.a (.v _)) rfl rfl fnok105 rfl rfl rfl (fun hg E w1 hm => by exact below_c _ _ _) ?_
   iterate 6 refine yO rfl rfl rfl rfl ?_
   refine o_call (.a (.v _)) rfl rfl fnok105 rfl rfl rfl (fun hg E w1 hm => by exact below_c _ _ _) ?_
   iterate 11 refine yO rfl rfl rfl rfl ?_
   refine o_end [2] rfl ?_
   refine x_then (c_ret ?_)
   refine b_ret tok rfl ?_
   intro E w' hm _
   refine ⟨?_, below1 hb hm (Vw.le.refl _) rfl rfl rfl⟩
   show Ending.returned (.bool _) = _
   congr 2
   have h0 : ¬ 0 < r.count := by simpa using h
   simp only [recB, if_neg h0]
   have hc : (keyB r.key && belowB r.lsn 1099511627777 && belowB r.count 64) = true := by
    simp only [Bool.or_eq_false_iff, Bool.not_eq_false'] at hpre
    simp [hpre]
   rw [hc, Bool.true_and]
def headOf (s : ByteArray) : ByteArray := s.extract 0 (min s.size 256)
def tailOf (s : ByteArray) : ByteArray := s.extract (min s.size 256) s.size
theorem minI (a : Nat) : (bif false then max (a : Int) 256 else min (a : Int) 256) = ((min a 256 : Nat) : Int) := by
 simp only [cond_false]; omega
def Record.at (r : Record) (key lsn : Int) : Record := ⟨key, lsn, r.block, r.k, r.text, r.count⟩
theorem rec_ones (l : List Record) : ∀ u ∈ l.flatMap Record.cells, u.oneCell' = true := by
 intro u hu
 obtain ⟨x, _, hx⟩ := List.mem_flatMap.1 hu
 simp only [Record.cells, List.mem_cons, List.not_mem_nil, or_false] at hx
 rcases hx with rfl | rfl | rfl | rfl | rfl | rfl <;> rfl
abbrev Ptr (b : Nat) : Value := .pointer (some ⟨b, 0, none⟩)
section
variable {o : Oper} {n : Nat} {F : Frame0} {C : List Nat} {O : Go.Eng.Own} {nl : Nat} {V : Vw}
end
def restAt (t : ByteArray) : Nat → ByteArray
 | 0 => t
 | k + 1 => tailOf (restAt t k)
def blkAt (l : List Block) (i : Nat) : Block := l.getD i ⟨0, ByteArray.empty⟩
theorem blkAt_eq {l : List Block} {i : Nat} {b : Block} (h : l[i]? = some b) : blkAt l i = b := by simp [blkAt, List.getD, h]
def recAt (key lsn : Int) (per : Nat) (l : List Block) (j : Nat) : Record :=
 ⟨key, lsn + j, (blkAt l (j / per)).n, (j % per : Nat), headOf (restAt (blkAt l (j / per)).text (j % per)), 0⟩
def recs (key lsn : Int) (per : Nat) (l : List Block) (j : Nat) : List Record := (List.range j).map (recAt key lsn per l)
def commitOf (key lsn : Int) (m : Nat) : Record := ⟨key, lsn + m, 0, 0, ByteArray.empty, m⟩
def lastN (l : List Block) : Nat → Int
 | 0 => -1
 | i + 1 => (blkAt l i).n
structure BlkOk (g : Geo) (l : List Block) (i : Nat) (b : Block) : Prop where
 last : lastN l i < b.n
 blocks : b.n < g.blocks
 size : (b.text.size : Int) ≤ g.per * 256
structure OfOk (g : Geo) (key lsn : Int) (l : List Block) : Prop where
 geo : geoB g = true
 some_ : l ≠ []
 few : (l.length : Int) ≤ g.blocks
 lsnB : belowB lsn 1099511627777 = true
 blks : ∀ i b, l[i]? = some b → BlkOk g l i b
 recsB : ∀ j, j < l.length * g.per.toNat → recB (recAt key lsn g.per.toNat l j) = true
 commitB : recB (commitOf key lsn (l.length * g.per.toNat)) = true
def allRecs (g : Geo) (key lsn : Int) (l : List Block) : List Record := recs key lsn g.per.toNat l (l.length * g.per.toNat) ++ [commitOf key lsn (l.length * g.per.toNat)]
def OfPost (g : Geo) (key lsn : Int) (l : List Block) (w : World) (e : Ending) (w' : World) : Prop :=
 ((OfOk g key lsn l ∧ ∃ v, e = .returned (.tuple #[v, I 0]) ∧ w'.ownsRow w.heap.size 74 6 v (allRecs g key lsn l).length ((allRecs g key lsn l).flatMap Record.cells)) ∨
  (¬ OfOk g key lsn l ∧ e = .returned (.tuple #[.slice none 0 0, I 2]))) ∧ Below w.heap.size w w'
def wholeFrom : List Record → Nat → Nat → Nat → Nat
 | [], _, n, _ => n
 | r :: t, i, n, d => if r.count = 0 then wholeFrom t (i + 1) n (d + 1) else if r.count ≠ (d : Int) then n else wholeFrom t (i + 1) (i + 1) 0
def whole (l : List Record) : Nat := wholeFrom l 0 0 0
theorem drop_at {α : Type} {l : List α} {k : Nat} {x : α} (h : l[k]? = some x) : l.drop k = x :: l.drop (k + 1) := by
 have hlt := (List.getElem?_eq_some_iff.1 h).1
 rw [List.drop_eq_getElem_cons hlt, (List.getElem?_eq_some_iff.1 h).2]
theorem whole_c (V : Vw) (sv : Value) (l : List Record) (w : World) (hV : V.le (vw w)) (hs : SlOf V Record.cells 6 sv l) (hn : l.length ≤ lim) :
  Calls Tryz.prog 100 #[sv] w fun e w' => e = .returned (I (whole l)) ∧ Below w.heap.size w w' := by
 have hs' := hs.mono hV
 simp only [lim] at hn
 refine enter (E := E0) (O := []) (nl := 0) (V := vw w) [.a (.v sv)] Tryz.func100 rfl rfl (mem0 E0 0 w) rfl rfl ?_
 refine c_seq (c_region ?_)
 refine yO rfl rfl rfl rfl ?_
 refine o_end [0, 2] rfl ?_
 refine x_then (c_seq (c_region ?_))
 refine yO rfl rfl rfl rfl ?_
 refine o_end [0, 2, 3] rfl ?_
 refine x_then (c_seq (c_seq (c_region ?_)))
 refine yO rfl rfl rfl rfl ?_
 refine o_yield rfl rfl rfl (y_len tok rfl (fun hg => hs'.sl)) ?_
 refine yO rfl rfl rfl rfl ?_
 refine o_end [2, 3, 6, 7, 8] rfl ?_
 refine x_then (c_block ?_)
 refine c_loop (σ := Nat × Nat × Nat) (fun x => [(2, .a (.v (I x.2.1))), (3, .a (.v (I x.2.2))), (6, .a (.v sv)), (7, .a (.v (I l.length))), (8, .a (.v (I x.1)))]) (fun _ => []) 0 (fun _ => vw w)
  (fun x => x.1 ≤ l.length ∧ x.2.1 ≤ x.1 ∧ x.2.2 ≤ x.1 ∧ whole l = wholeFrom (l.drop x.1) x.1 x.2.1 x.2.2) (fun x => l.length - x.1) (0, 0, 0) ⟨Nat.zero_le _, Nat.le_refl _, Nat.le_refl _, rfl⟩ ⟨rfl, rfl, rfl, rfl, rfl, trivial⟩ trivial rfl (Vw.le.refl _) ?_
 rintro ⟨k, n, d⟩ ⟨hk, hn', hd, hw⟩
 simp only at hk hn' hd hw
 refine c_seq (c_region ?_)
 refine yO rfl rfl rfl rfl ?_
 refine o_end [2, 3, 6, 7, 8, 9] rfl ?_
 refine x_then (c_seq ?_)
 refine c_cond rfl (fun h => ?_) (fun h => ?_)
 ·
  refine c_skip (x_then (c_seq (c_block (c_seq (c_region ?_)))))
  refine yO rfl rfl rfl rfl ?_
  have hlt : k < l.length := by simp at h; omega
  obtain ⟨r, hr⟩ : ∃ r, l[k]? = some r := ⟨l[k], by simp [hlt]⟩
  rw [drop_at hr] at hw
  simp only [wholeFrom] at hw
  refine o_yield rfl rfl rfl (y_idx tok rfl (fun hg => hs'.sl) (fun hg => ⟨by omega, by omega⟩)) ?_
  refine o_yield rfl rfl rfl (y_lel tok (k) 0 (r) rfl (fun hg => hs') (fun hg => hr) rfl rfl) ?_
  refine o_new tok rfl rfl rfl rfl ?_
  refine yO rfl rfl rfl rfl ?_
  refine o_store tok rfl rfl rfl (by first | (repeat' first | exact trivial | exact rfl | apply And.intro); done | simp [onesP, oneP, lk, Value.oneCell']) ?_
  refine o_end [2, 3, 4, 5, 6, 7, 8] rfl ?_
  refine x_then (c_block (c_seq (c_region ?_)))
  iterate 4 refine yO rfl rfl rfl rfl ?_
  refine o_end [2, 3, 4, 5, 6, 7, 8, 15] rfl ?_
  refine x_then ?_
  refine c_cond rfl (fun h => ?_) (fun h => ?_)
  ·
   refine c_region ?_
   iterate 3 refine yO rfl rfl rfl rfl ?_
   refine o_end [2, 3, 6, 7, 8] rfl ?_
   iterate 2 refine x_block ?_
   refine x_then (c_region ?_)
   iterate 2 refine yO rfl rfl rfl rfl ?_
   refine o_end [2, 3, 6, 7, 8] rfl ?_
   refine x_then ?_
   have h0 : r.count = 0 := by simpa using h
   rw [if_pos h0] at hw
   rw [wrapI (n := (d : Int) + 1) (by omega) (by omega), wrapI (n := (k : Int) + 1) (by omega) (by omega)]
   exact x_round (k + 1, n, d + 1) ⟨by simp only; omega, by simp only; omega, by simp only; omega, hw⟩ (by simp only; omega) ⟨rfl, rfl, rfl, rfl, rfl, trivial⟩ trivial rfl (Vw.le.refl _)
  ·
   refine c_seq (c_region ?_)
   iterate 5 refine yO rfl rfl rfl rfl ?_
   refine o_end [2, 4, 6, 7, 8, 21] rfl ?_
   refine x_then ?_
   refine c_cond rfl (fun h2 => ?_) (fun h2 => ?_)
   ·
    refine c_seq (c_region ?_)
    iterate 2 refine yO rfl rfl rfl rfl ?_
    refine o_end [2] rfl ?_
    refine x_then (c_ret (x_block_ret (x_block_ret (x_then_ret (x_then_ret ?_)))))
    refine x_block_ret (x_then_ret ?_)
    refine b_ret tok rfl ?_
    have h0 : ¬ r.count = 0 := by simpa using h
    rw [if_neg h0] at hw
    have h1 : r.count ≠ (d : Int) := by simpa using h2
    rw [if_pos h1] at hw
    intro E w' hm _
    exact ⟨by rw [hw]; rfl, hm.below (Vw.le.refl _)⟩
   ·
    refine c_region ?_
    iterate 4 refine yO rfl rfl rfl rfl ?_
    refine o_end [2, 3, 6, 7, 8] rfl ?_
    iterate 2 refine x_block ?_
    refine x_then (c_region ?_)
    iterate 2 refine yO rfl rfl rfl rfl ?_
    refine o_end [2, 3, 6, 7, 8] rfl ?_
    refine x_then ?_
    have h0 : ¬ r.count = 0 := by simpa using h
    rw [if_neg h0] at hw
    have h1 : ¬ r.count ≠ (d : Int) := by simpa using h2
    rw [if_neg h1] at hw
    rw [wrapI (n := (k : Int) + 1) (by omega) (by omega)]
    exact x_round (k + 1, k + 1, 0) ⟨by simp only; omega, by simp only; omega, by simp only; omega, hw⟩ (by simp only; omega) ⟨rfl, rfl, rfl, rfl, rfl, trivial⟩ trivial rfl (Vw.le.refl _)
 ·
  refine c_exit (x_then_exit (x_then_exit (x_block_hit (x_then (c_seq ?_)))))
  refine c_region ?_
  iterate 2 refine yO rfl rfl rfl rfl ?_
  refine o_end [2] rfl ?_
  refine x_then (c_ret ?_)
  refine b_ret tok rfl ?_
  have hkl : k = l.length := by simp at h; omega
  subst hkl
  intro E w' hm _
  refine ⟨?_, hm.below (Vw.le.refl _)⟩
  rw [List.drop_length] at hw
  rw [hw]; rfl
def manyOf (g : Geo) (n : Int) : Int := if geoB g = true ∧ 1 ≤ n then g.per * min n 1099511627776 + 1 else 0
def greatB (l : List Block) : Bool := ((l.take 71).any fun b => decide (5000 < (b.text.size : Int))) || decide (70 < (l.length : Int))
theorem size_extract' (s : ByteArray) (a b : Nat) (h : b ≤ s.size) : (s.extract a b).size = b - a := by
 rw [ByteArray.size_extract]; omega
theorem tail_size (s : ByteArray) : (tailOf s).size = s.size - 256 := by
 unfold tailOf; rw [size_extract' _ _ _ (Nat.le_refl _)]; omega
theorem rest_size (t : ByteArray) : ∀ k, (restAt t k).size = t.size - 256 * k
 | 0 => by simp [restAt]
 | k + 1 => by rw [restAt, tail_size, rest_size t k]; omega
def catTo (t : ByteArray) : Nat → ByteArray
 | 0 => ByteArray.empty
 | k + 1 => catTo t k ++ headOf (restAt t k)
end Go.Proofs.YtlafboeohojcbaaGreat

/- Whole transactions, one behind the other: plain law. -/
set_option linter.unusedVariables false
set_option linter.unusedSimpArgs false
set_option maxRecDepth 100000
namespace Go.Proofs.YtlafboeohojcbaaGreat
open Go Go.Eng Go.RowKit
def Chain (A : List Record) : Prop := ∀ r i, wholeFrom (A ++ r) i i 0 = wholeFrom r (i + A.length) (i + A.length) 0
theorem chain_nil : Chain [] := fun r i => rfl
theorem chain_app {A B : List Record} (ha : Chain A) (hb : Chain B) : Chain (A ++ B) := fun r i => by
 rw [List.append_assoc, ha, hb, List.length_append]
 congr 1 <;> omega
theorem from_data : ∀ (ds r : List Record) (i n d : Nat), (∀ x ∈ ds, x.count = 0) → wholeFrom (ds ++ r) i n d = wholeFrom r (i + ds.length) n (d + ds.length)
 | [], r, i, n, d, _ => rfl
 | x :: ds, r, i, n, d, h => by
  rw [List.cons_append, wholeFrom, if_pos (h x (by simp)), from_data ds r _ _ _ (fun y hy => h y (by simp [hy]))]
  simp only [List.length_cons]
  congr 1 <;> omega
def Txn (t : List Record) : Prop := ∃ ds c, t = ds ++ [c] ∧ (∀ x ∈ ds, x.count = 0) ∧ c.count = (ds.length : Int) ∧ 1 ≤ ds.length
theorem chain_txn {t : List Record} (h : Txn t) : Chain t := by
 obtain ⟨ds, c, rfl, hz, hc, h1⟩ := h
 intro r i
 rw [List.append_assoc, from_data _ _ _ _ _ hz, List.singleton_append, wholeFrom, if_neg (by omega), if_neg (by simp only [ne_eq, Nat.zero_add]; omega)]
 simp only [List.length_append, List.length_singleton]
 congr 1
structure WInv (n i : Nat) (B t : List Record) : Prop where
 le : i ≤ n
 chB : Chain B
 tx : (B = [] ∧ t = []) ∨ Txn t
 len : (B ++ t).length ≤ 65 * i
theorem WInv.ch {n i : Nat} {B t : List Record} (h : WInv n i B t) : Chain (B ++ t) := by
 rcases h.tx with ⟨rfl, rfl⟩ | ht
 · exact chain_nil
 · exact chain_app h.chB (chain_txn ht)
def widthB (w : Int) : Bool := decide (1 ≤ w) && decide (w ≤ 6)
theorem widthMay_c (n : Int) (w : World) : Calls Tryz.prog 104 #[I n] w fun e w' => e = .returned (.bool (widthB n)) ∧ Below w.heap.size w w' := by
 refine enter (E := E0) (O := []) (nl := 0) (V := vw w) [.a (.v (I n))] Tryz.func104 rfl rfl (mem0 E0 0 w) rfl rfl ?_
 refine c_seq (c_region ?_)
 refine yO rfl rfl rfl rfl ?_
 refine o_end [0] rfl ?_
 refine x_then (c_seq (c_region ?_))
 iterate 7 refine yO rfl rfl rfl rfl ?_
 refine o_end [2] rfl ?_
 refine x_then (c_ret ?_)
 refine b_ret tok rfl ?_
 intro E w' hm _
 exact ⟨rfl, hm.below (Vw.le.refl _)⟩
def mostN (k : Nat) : Nat := min (256 ^ k - 1) 1099511627776
theorem width_cases {n : Int} (h : widthB n = true) : n = 1 ∨ n = 2 ∨ n = 3 ∨ n = 4 ∨ n = 5 ∨ n = 6 := by
 simp only [widthB, Bool.and_eq_true, decide_eq_true_eq] at h; omega
theorem most_eq {n : Int} (h : widthB n = true) : min (IntKind.i64.wrap (bits .xor .u64 18446744073709551615 (IntKind.u64.wrap (18446744073709551615 * 2 ^ (8 * n).toNat)))) 1099511627776 = (mostN n.toNat : Int) := by
 rcases width_cases h with rfl | rfl | rfl | rfl | rfl | rfl <;> decide +kernel
theorem widthMost_c (n : Int) (hn : widthB n = true) (w : World) : Calls Tryz.prog 112 #[I n] w fun e w' => e = .returned (I (mostN n.toNat)) ∧ Below w.heap.size w w' := by
 have h6 := hn
 simp only [widthB, Bool.and_eq_true, decide_eq_true_eq] at h6
 refine enter (E := E0) (O := []) (nl := 0) (V := vw w) [.a (.v (I n))] Tryz.func112 rfl rfl (mem0 E0 0 w) rfl rfl ?_
 refine c_seq (c_region ?_)
 refine yO rfl rfl rfl rfl ?_
 refine o_end [0] rfl ?_
 refine x_then (c_seq (c_region ?_))
 iterate 3 refine yO rfl rfl rfl rfl ?_
 rw [show IntKind.u64.wrap (8 * IntKind.u64.wrap n) = 8 * n by rw [IntKind.wrap_u64, IntKind.wrap_u64]; omega]
 refine o_yield rfl rfl rfl (y_shl rfl (fun hg => ⟨by omega, by show 8 * n ≤ 64; omega⟩)) ?_
 iterate 2 refine yO rfl rfl rfl rfl ?_
 refine o_yield rfl rfl rfl (y_mm rfl) ?_
 refine yO rfl rfl rfl rfl ?_
 refine o_end [2] rfl ?_
 refine x_then (c_ret ?_)
 refine b_ret tok rfl ?_
 intro E w' hm _
 refine ⟨?_, hm.below (Vw.le.refl _)⟩
 show Ending.returned (I (min (IntKind.i64.wrap (bits .xor .u64 18446744073709551615 (IntKind.u64.wrap (18446744073709551615 * 2 ^ (8 * n).toNat)))) 1099511627776)) = _
 rw [most_eq hn]
def fitsB (n w : Int) : Bool := widthB w && decide (0 ≤ n) && decide (n ≤ mostN w.toNat)
theorem numFits_c (n k : Int) (w : World) : Calls Tryz.prog 110 #[I n, I k] w fun e w' => e = .returned (.bool (fitsB n k)) ∧ Below w.heap.size w w' := by
 refine enter (E := E0) (O := []) (nl := 0) (V := vw w) [.a (.v (I n)), .a (.v (I k))] Tryz.func110 rfl rfl (mem0 E0 0 w) rfl rfl ?_
 refine c_seq (c_region ?_)
 refine yO rfl rfl rfl rfl ?_
 refine o_end [0, 1] rfl ?_
 refine x_then (c_seq (c_region ?_))
 refine yO rfl rfl rfl rfl ?_
 refine o_call (.a (.v _)) rfl rfl fnok104 rfl rfl rfl (fun hg E w1 hm => by exact widthMay_c _ _) ?_
 iterate 7 refine yO rfl rfl rfl rfl ?_
 refine o_call (.a (.v _)) rfl rfl fnok112 rfl rfl rfl (fun hg E w1 hm => by exact widthMost_c k (by simp at hg; exact hg.1) _) ?_
 iterate 3 refine yO rfl rfl rfl rfl ?_
 refine o_end [4] rfl ?_
 refine x_then (c_ret ?_)
 refine b_ret tok rfl ?_
 intro E w' hm _
 refine ⟨?_, hm.below (Vw.le.refl _)⟩
 rfl
def mostI (k : Int) : Int := if widthB k = true then mostN k.toNat else -1
def pw (k : Nat) : Nat := 256 ^ k
theorem pw_succ (k : Nat) : pw (k + 1) = pw k * 256 := by simp [pw, Nat.pow_succ]
theorem pw_pos (k : Nat) : 1 ≤ pw k := Nat.pow_pos (by omega)
theorem pw_le {k m : Nat} (h : k ≤ m) : pw k ≤ pw m := Nat.pow_le_pow_right (by omega) h
theorem pw6 : pw 6 = 281474976710656 := by decide
theorem pw_le6 {k : Nat} (h : k ≤ 6) : pw k ≤ 281474976710656 := pw6 ▸ pw_le h
theorem refMost_c (k : Int) (w : World) : Calls Tryz.prog 52 #[I k] w fun e w' => e = .returned (I (mostI k)) ∧ Below w.heap.size w w' := by
 refine enter (E := E0) (O := []) (nl := 0) (V := vw w) [.a (.v (I k))] Tryz.func52 rfl rfl (mem0 E0 0 w) rfl rfl ?_
 refine c_seq (c_region ?_)
 refine yO rfl rfl rfl rfl ?_
 refine o_end [0] rfl ?_
 refine x_then (c_seq (c_seq (c_region ?_)))
 iterate 6 refine yO rfl rfl rfl rfl ?_
 refine o_end [0, 10] rfl ?_
 refine x_then ?_
 refine c_cond rfl (fun h => ?_) (fun h => ?_)
 ·
  simp only [Xa, Xb, Xc, Xd, Xe, Xf, Xg, Xh, Xi, Xj, Xk, Xl, Xm, Xn, Xo, Xp] at h
  refine c_seq (c_region ?_)
  refine yO rfl rfl rfl rfl ?_
  refine o_end [2] rfl ?_
  refine x_then (c_ret (x_then_ret ?_))
  refine b_ret tok rfl ?_
  intro E w' hm _
  refine ⟨?_, hm.below (Vw.le.refl _)⟩
  rw [mostI, if_neg (by simp [widthB]; omega)]
  rfl
 ·
  simp only [Xa, Xb, Xc, Xd, Xe, Xf, Xg, Xh, Xi, Xj, Xk, Xl, Xm, Xn, Xo, Xp] at h
  refine c_skip (x_then (c_seq (c_region ?_)))
  refine yO rfl rfl rfl rfl ?_
  refine o_end [0, 3] rfl ?_
  refine x_then (c_seq (c_seq (c_region ?_)))
  refine yO rfl rfl rfl rfl ?_
  refine o_end [0, 3, 4] rfl ?_
  refine x_then (c_block ?_)
  obtain ⟨m, hm⟩ : ∃ m : Nat, k = m := ⟨k.toNat, by omega⟩
  subst hm
  refine c_loopK [0] [] rfl rfl (σ := Nat) (fun i => [(3, .a (.v (I (pw i)))), (4, .a (.v (I i)))]) (fun i => []) (fun i => i ≤ m) (fun i => m - i) (0) (by omega) (by repeat (first | exact fN | refine fC rfl ?_)) (by repeat (first | exact oN | refine oC rfl ?_)) rfl ?_
  rintro i hi
  iterate 2 refine c_seq ?_
  refine c_region ?_
  iterate 3 refine yO rfl rfl rfl rfl ?_
  refine o_end [0, 3, 4, 13] rfl ?_
  refine x_then ?_
  refine c_cond rfl (fun h => ?_) (fun h => ?_)
  ·
   simp only [Xa, Xb, Xc, Xd, Xe, Xf, Xg, Xh, Xi, Xj, Xk, Xl, Xm, Xn, Xo, Xp] at h
   refine c_skip (x_then (c_seq (c_block (c_region ?_))))
   iterate 3 refine yO rfl rfl rfl rfl ?_
   refine o_end [0, 3, 4] rfl ?_
   refine x_block (x_then (c_region ?_))
   iterate 3 refine yO rfl rfl rfl rfl ?_
   refine o_end [0, 3, 4] rfl ?_
   refine x_then ?_
   have hp := pw_le6 (k := i) (by omega)
   rw [wrapI (n := (pw i : Int) * 256) (by omega) (by omega), wrapI (n := (i : Int) + 1) (by omega) (by omega), show (pw i : Int) * 256 = (pw (i + 1) : Int) by rw [pw_succ]; omega]
   refine x_round (i + 1) (by omega) (by first | omega | (dsimp only; omega)) (by repeat (first | exact fN | refine fC rfl ?_)) (by repeat (first | exact oN | refine oC rfl ?_)) rfl (Vw.le.refl _)
  ·
   simp only [Xa, Xb, Xc, Xd, Xe, Xf, Xg, Xh, Xi, Xj, Xk, Xl, Xm, Xn, Xo, Xp] at h
   refine c_exit (x_then_exit (x_then_exit (x_block_hit (x_then (c_seq ?_)))))
   refine c_region ?_
   iterate 2 refine yO rfl rfl rfl rfl ?_
   have him : i = m := by omega
   subst him
   have hp := pw_le6 (k := i) (by omega)
   have h1 := pw_pos i
   rw [wrapI (n := (pw i : Int) - 1) (by omega) (by omega)]
   refine o_yield rfl rfl rfl (y_mm rfl) ?_
   refine yO rfl rfl rfl rfl ?_
   refine o_end [2] rfl ?_
   refine x_then (c_ret ?_)
   refine b_ret tok rfl ?_
   intro E w' hm _
   refine ⟨?_, hm.below (Vw.le.refl _)⟩
   rw [mostI, if_pos (by simp [widthB]; omega), Int.toNat_natCast, mostN]
   show Ending.returned (I (min ((pw i : Int) - 1) 1099511627776)) = _
   rw [show min ((pw i : Int) - 1) 1099511627776 = ((min (pw i - 1) 1099511627776 : Nat) : Int) by omega]
   rfl
theorem refFits_c (n k : Int) (w : World) : Calls Tryz.prog 53 #[I n, I k] w fun e w' => e = .returned (.bool (fitsB n k)) ∧ Below w.heap.size w w' := by
 refine enter (E := E0) (O := []) (nl := 0) (V := vw w) [.a (.v (I n)), .a (.v (I k))] Tryz.func53 rfl rfl (mem0 E0 0 w) rfl rfl ?_
 refine c_seq (c_region ?_)
 refine yO rfl rfl rfl rfl ?_
 refine o_end [0, 1] rfl ?_
 refine x_then (c_seq (c_region ?_))
 iterate 5 refine yO rfl rfl rfl rfl ?_
 refine o_call (.a (.v _)) rfl rfl fnok52 rfl rfl rfl (fun hg E w1 hm => by exact refMost_c _ _) ?_
 iterate 3 refine yO rfl rfl rfl rfl ?_
 refine o_end [4] rfl ?_
 refine x_then (c_ret ?_)
 refine b_ret tok rfl ?_
 intro E w' hm _
 refine ⟨?_, hm.below (Vw.le.refl _)⟩
 show Ending.returned (.bool (decide (0 ≤ n) && decide (n ≤ mostI k))) = _
 congr 2
 unfold mostI fitsB
 cases hw : widthB k with
 | true => simp
 | false => simp; omega
def leTo (f : Nat → Nat) : Nat → Nat
 | 0 => 0
 | k + 1 => leTo f k + f k * pw k
theorem leTo_lt {f : Nat → Nat} (hf : ∀ j, f j < 256) : ∀ k, leTo f k < pw k
 | 0 => by simp [leTo, pw]
 | k + 1 => by
  have h1 := leTo_lt hf k
  have h2 : f k * pw k ≤ 255 * pw k := Nat.mul_le_mul_right _ (by have := hf k; omega)
  rw [leTo, pw_succ]; omega
theorem pw_two (k : Nat) : pw k = 2 ^ (8 * k) := by rw [pw, Nat.pow_mul]
theorem or_add {x y k : Nat} (hx : x < pw k) : x ||| y * pw k = x + y * pw k := by
 rw [pw_two] at hx ⊢
 rw [Nat.or_comm, nat_join (8 * k) (y * 2 ^ (8 * k)) x (Nat.mul_mod_left _ _) hx, Nat.add_comm]
def digit (s : ByteArray) (at_ j : Nat) : Nat := (byteAt s (at_ + j)).toNat
theorem digit_lt (s : ByteArray) (at_ j : Nat) : digit s at_ j < 256 := UInt8.toNat_lt _
def getSpec (s : ByteArray) (at_ k : Int) : Int × Int :=
 if widthB k = false then (0, 2)
 else if at_ < 0 ∨ (s.size : Int) < at_ ∨ (s.size : Int) - at_ < k then (0, 10)
 else if 1099511627776 < leTo (digit s at_.toNat) k.toNat then (0, 10)
 else ((leTo (digit s at_.toNat) k.toNat : Nat), 0)
theorem numGet_c (s : ByteArray) (at_ k : Int) (hs : s.size ≤ maxLen) (w : World) : Calls Tryz.prog 92 #[S s, I at_, I k] w fun e w' => e = .returned (.tuple #[I (getSpec s at_ k).1, I (getSpec s at_ k).2]) ∧ Below w.heap.size w w' := by
 simp only [maxLen] at hs
 refine enter (E := E0) (O := []) (nl := 0) (V := vw w) [.a (.v (S s)), .a (.v (I at_)), .a (.v (I k))] Tryz.func92 rfl rfl (mem0 E0 0 w) rfl rfl ?_
 refine c_seq (c_region ?_)
 iterate 2 refine yO rfl rfl rfl rfl ?_
 refine o_end [0, 1, 2, 6] rfl ?_
 refine x_then (c_seq (c_block (c_seq (c_region ?_))))
 refine yO rfl rfl rfl rfl ?_
 refine o_call (.a (.v _)) rfl rfl fnok104 rfl rfl rfl (fun hg E w1 hm => by exact widthMay_c _ _) ?_
 iterate 2 refine yO rfl rfl rfl rfl ?_
 refine o_end [0, 1, 2, 6, 9] rfl ?_
 refine x_then ?_
 refine c_cond rfl (fun h => ?_) (fun h => ?_)
 ·
  simp only [Xa, Xb, Xc, Xd, Xe, Xf, Xg, Xh, Xi, Xj, Xk, Xl, Xm, Xn, Xo, Xp] at h
  refine c_seq (c_region ?_)
  iterate 2 refine yO rfl rfl rfl rfl ?_
  refine o_end [6, 7] rfl ?_
  refine x_then (c_ret (x_block_ret (x_then_ret ?_)))
  refine b_ret tok rfl ?_
  intro E w' hm _
  refine ⟨?_, hm.below (Vw.le.refl _)⟩
  rw [getSpec, if_pos h]
  rfl
 ·
  simp only [Xa, Xb, Xc, Xd, Xe, Xf, Xg, Xh, Xi, Xj, Xk, Xl, Xm, Xn, Xo, Xp] at h
  have hw := h
  have hwr : ¬ at_ < 0 → ¬ (s.size : Int) < at_ → IntKind.i64.wrap ((s.size : Int) - at_) = (s.size : Int) - at_ := fun h1 h2 => wrapI (by omega) (by omega)
  refine c_seq (c_region ?_)
  iterate 17 refine yO rfl rfl rfl rfl ?_
  refine o_end [0, 1, 2, 6, 13] rfl ?_
  refine x_then ?_
  refine c_cond rfl (fun h => ?_) (fun h => ?_)
  ·
   simp only [Xa, Xb, Xc, Xd, Xe, Xf, Xg, Xh, Xi, Xj, Xk, Xl, Xm, Xn, Xo, Xp] at h
   refine c_seq (c_region ?_)
   iterate 2 refine yO rfl rfl rfl rfl ?_
   refine o_end [6, 7] rfl ?_
   refine x_then (c_ret (x_block_ret (x_then_ret ?_)))
   refine b_ret tok rfl ?_
   intro E w' hm _
   refine ⟨?_, hm.below (Vw.le.refl _)⟩
   rw [getSpec, if_neg (by simp [hw]), if_pos (by
    by_cases h1 : at_ < 0
    · exact .inl h1
    ·
     by_cases h2 : (s.size : Int) < at_
     · exact .inr (.inl h2)
     · rw [hwr h1 h2] at h; omega)]
   rfl
  ·
   simp only [Xa, Xb, Xc, Xd, Xe, Xf, Xg, Xh, Xi, Xj, Xk, Xl, Xm, Xn, Xo, Xp] at h
   refine c_skip (x_block (x_then (c_seq (c_seq (c_region ?_)))))
   iterate 2 refine yO rfl rfl rfl rfl ?_
   refine o_end [0, 1, 6, 30, 31] rfl ?_
   refine x_then (c_block ?_)
   rw [hwr (by omega) (by omega)] at h
   have hk := hw
   simp only [widthB, Bool.and_eq_true, decide_eq_true_eq] at hk
   obtain ⟨m, hm⟩ : ∃ m : Nat, k = m := ⟨k.toNat, by omega⟩
   obtain ⟨b, hb⟩ : ∃ b : Nat, at_ = b := ⟨at_.toNat, by omega⟩
   subst hm hb
   have hlt := leTo_lt (digit_lt s b)
   refine c_loopK [0, 1, 30] [] rfl rfl (σ := Nat) (fun i => [(6, .a (.v (I (leTo (digit s b) i)))), (31, .a (.v (I i)))]) (fun i => []) (fun i => i ≤ m) (fun i => m - i) (0) (by omega) (by repeat (first | exact fN | refine fC rfl ?_)) (by repeat (first | exact oN | refine oC rfl ?_)) rfl ?_
   rintro i hi
   refine c_seq (c_region ?_)
   refine yO rfl rfl rfl rfl ?_
   refine o_end [0, 1, 6, 30, 31, 32] rfl ?_
   refine x_then (c_seq ?_)
   refine c_cond rfl (fun h => ?_) (fun h => ?_)
   ·
    simp only [Xa, Xb, Xc, Xd, Xe, Xf, Xg, Xh, Xi, Xj, Xk, Xl, Xm, Xn, Xo, Xp] at h
    refine c_skip (x_then (c_seq (c_block (c_seq (c_region ?_)))))
    iterate 2 refine yO rfl rfl rfl rfl ?_
    refine o_end [0, 1, 6, 8, 30, 31] rfl ?_
    refine x_then (c_region ?_)
    iterate 5 refine yO rfl rfl rfl rfl ?_
    have h1 := hlt i
    have h2 := pw_le6 (k := i + 1) (by omega)
    rw [pw_succ] at h2
    have h3 := digit_lt s b i
    rw [wrapI (n := (b : Int) + i) (by omega) (by omega)]
    refine o_yield rfl rfl rfl (y_si tok rfl (fun hg => by omega)) ?_
    iterate 3 refine yO rfl rfl rfl rfl ?_
    rw [wrapI (n := 8 * (i : Int)) (by omega) (by omega)]
    refine o_yield rfl rfl rfl (y_shl rfl (fun hg => ⟨by omega, by show 8 * (i : Int) ≤ 64; omega⟩)) ?_
    iterate 2 refine yO rfl rfl rfl rfl ?_
    refine o_end [0, 1, 6, 30, 31] rfl ?_
    refine x_block (x_then (c_region ?_))
    iterate 2 refine yO rfl rfl rfl rfl ?_
    refine o_end [0, 1, 6, 30, 31] rfl ?_
    refine x_then ?_
    have e : bits .or .i64 (leTo (digit s b) i : Nat) (IntKind.i64.wrap (IntKind.i64.wrap (((byteAt s ((b : Int) + i).toNat).toNat : Nat) : Int) * 2 ^ (8 * (i : Int)).toNat)) = ((leTo (digit s b) (i + 1) : Nat) : Int) := by
     have h4 : digit s b i * pw i ≤ 255 * pw i := Nat.mul_le_mul_right _ (by omega)
     have h5 : ((byteAt s ((b : Int) + i).toNat).toNat : Nat) = digit s b i := by
      rw [show ((b : Int) + i).toNat = b + i by omega]; rfl
     rw [h5, show (8 * (i : Int)).toNat = 8 * i by omega, wrapI (n := ((digit s b i : Nat) : Int)) (by omega) (by omega), show (2 : Int) ^ (8 * i) = ((pw i : Nat) : Int) by rw [pw_two]; simp, ← Int.natCast_mul,
      wrapI (by omega) (by omega), i64_or _ _ (by omega) (by omega), or_add h1, leTo]
    rw [e, wrapI (n := (i : Int) + 1) (by omega) (by omega)]
    refine x_round (i + 1) (by omega) (by first | omega | (dsimp only; omega)) (by repeat (first | exact fN | refine fC rfl ?_)) (by repeat (first | exact oN | refine oC rfl ?_)) rfl (Vw.le.refl _)
   ·
    simp only [Xa, Xb, Xc, Xd, Xe, Xf, Xg, Xh, Xi, Xj, Xk, Xl, Xm, Xn, Xo, Xp] at h
    have him : i = m := by omega
    subst him
    refine c_exit (x_then_exit (x_then_exit (x_block_hit (x_then (c_seq ?_)))))
    refine c_seq (c_region ?_)
    iterate 2 refine yO rfl rfl rfl rfl ?_
    refine o_end [6, 47] rfl ?_
    refine x_then ?_
    refine c_cond rfl (fun h => ?_) (fun h => ?_)
    ·
     simp only [Xa, Xb, Xc, Xd, Xe, Xf, Xg, Xh, Xi, Xj, Xk, Xl, Xm, Xn, Xo, Xp] at h
     refine c_seq (c_region ?_)
     iterate 2 refine yO rfl rfl rfl rfl ?_
     refine o_end [6, 7] rfl ?_
     refine x_then (c_ret (x_then_ret ?_))
     refine b_ret tok rfl ?_
     intro E w' hm _
     refine ⟨?_, hm.below (Vw.le.refl _)⟩
     rw [getSpec, if_neg (by simp [hw]), if_neg (by omega), if_pos (by simp only [Int.toNat_natCast]; omega)]
     rfl
    ·
     simp only [Xa, Xb, Xc, Xd, Xe, Xf, Xg, Xh, Xi, Xj, Xk, Xl, Xm, Xn, Xo, Xp] at h
     refine c_skip (x_then (c_seq (c_region ?_)))
     iterate 3 refine yO rfl rfl rfl rfl ?_
     refine o_end [6, 7] rfl ?_
     refine x_then (c_ret ?_)
     refine b_ret tok rfl ?_
     intro E w' hm _
     refine ⟨?_, hm.below (Vw.le.refl _)⟩
     rw [getSpec, if_neg (by simp [hw]), if_neg (by omega), if_neg (by simp only [Int.toNat_natCast]; omega)]
     simp only [Int.toNat_natCast]
     rfl
theorem refGet_c (s : ByteArray) (at_ k : Int) (hs : s.size ≤ maxLen) (w : World) : Calls Tryz.prog 66 #[S s, I at_, I k] w fun e w' => e = .returned (.tuple #[I (getSpec s at_ k).1, I (getSpec s at_ k).2]) ∧ Below w.heap.size w w' := by
 simp only [maxLen] at hs
 refine enter (E := E0) (O := []) (nl := 0) (V := vw w) [.a (.v (S s)), .a (.v (I at_)), .a (.v (I k))] Tryz.func66 rfl rfl (mem0 E0 0 w) rfl rfl ?_
 refine c_seq (c_region ?_)
 iterate 2 refine yO rfl rfl rfl rfl ?_
 refine o_end [0, 1, 2] rfl ?_
 refine x_then (c_seq (c_seq (c_region ?_)))
 refine yO rfl rfl rfl rfl ?_
 refine o_call (.a (.v _)) rfl rfl fnok52 rfl rfl rfl (fun hg E w1 hm => by exact refMost_c _ _) ?_
 refine yO rfl rfl rfl rfl ?_
 refine o_end [0, 1, 2, 12] rfl ?_
 refine x_then ?_
 refine c_cond rfl (fun h => ?_) (fun h => ?_)
 ·
  simp only [Xa, Xb, Xc, Xd, Xe, Xf, Xg, Xh, Xi, Xj, Xk, Xl, Xm, Xn, Xo, Xp] at h
  refine c_seq (c_region ?_)
  iterate 2 refine yO rfl rfl rfl rfl ?_
  refine o_end [6, 7] rfl ?_
  refine x_then (c_ret (x_then_ret ?_))
  refine b_ret tok rfl ?_
  intro E w' hm _
  refine ⟨?_, hm.below (Vw.le.refl _)⟩
  have hw : widthB k = false := by
   cases hq : widthB k with
   | false => rfl
   | true => rw [mostI, if_pos hq] at h; omega
  rw [getSpec, if_pos hw]
  rfl
 ·
  simp only [Xa, Xb, Xc, Xd, Xe, Xf, Xg, Xh, Xi, Xj, Xk, Xl, Xm, Xn, Xo, Xp] at h
  have hw : widthB k = true := by
   cases hq : widthB k with
   | true => rfl
   | false => rw [mostI, if_neg (by simp [hq])] at h; omega
  have hwr : ¬ at_ < 0 → ¬ (s.size : Int) < at_ → IntKind.i64.wrap ((s.size : Int) - at_) = (s.size : Int) - at_ := fun h1 h2 => wrapI (by omega) (by omega)
  refine c_skip (x_then (c_seq (c_seq (c_region ?_))))
  iterate 16 refine yO rfl rfl rfl rfl ?_
  refine o_end [0, 1, 2, 28] rfl ?_
  refine x_then ?_
  refine c_cond rfl (fun h => ?_) (fun h => ?_)
  ·
   simp only [Xa, Xb, Xc, Xd, Xe, Xf, Xg, Xh, Xi, Xj, Xk, Xl, Xm, Xn, Xo, Xp] at h
   refine c_seq (c_region ?_)
   iterate 2 refine yO rfl rfl rfl rfl ?_
   refine o_end [6, 7] rfl ?_
   refine x_then (c_ret (x_then_ret ?_))
   refine b_ret tok rfl ?_
   intro E w' hm _
   refine ⟨?_, hm.below (Vw.le.refl _)⟩
   rw [getSpec, if_neg (by simp [hw]), if_pos (by
    by_cases h1 : at_ < 0
    · exact .inl h1
    ·
     by_cases h2 : (s.size : Int) < at_
     · exact .inr (.inl h2)
     · rw [hwr h1 h2] at h; omega)]
   rfl
  ·
   simp only [Xa, Xb, Xc, Xd, Xe, Xf, Xg, Xh, Xi, Xj, Xk, Xl, Xm, Xn, Xo, Xp] at h
   refine c_skip (x_then (c_seq (c_region ?_)))
   refine yO rfl rfl rfl rfl ?_
   refine o_end [0, 1, 2, 8] rfl ?_
   refine x_then (c_seq (c_seq (c_region ?_)))
   iterate 3 refine yO rfl rfl rfl rfl ?_
   refine o_end [0, 1, 8, 9] rfl ?_
   refine x_then (c_block ?_)
   rw [hwr (by omega) (by omega)] at h
   have hk := hw
   simp only [widthB, Bool.and_eq_true, decide_eq_true_eq] at hk
   obtain ⟨m, hm⟩ : ∃ m : Nat, k = m := ⟨k.toNat, by omega⟩
   obtain ⟨b, hb⟩ : ∃ b : Nat, at_ = b := ⟨at_.toNat, by omega⟩
   subst hm hb
   have hlt := leTo_lt (digit_lt s b)
   rw [wrapI (n := (m : Int) - 1) (by omega) (by omega)]
   refine c_loopK [0, 1] [] rfl rfl (σ := Nat × Nat) (fun (i, q) => [(8, .a (.v (I q))), (9, .a (.v (I ((i : Int) - 1))))]) (fun (i, q) => []) (fun (i, q) => i ≤ m ∧ q * pw i + leTo (digit s b) i = leTo (digit s b) m ∧ q ≤ 281474976710656) (fun (i, q) => i) ((m, 0)) (⟨by omega, by omega, by omega⟩) (by repeat (first | exact fN | refine fC rfl ?_)) (by repeat (first | exact oN | refine oC rfl ?_)) rfl ?_
   rintro ⟨i, q⟩ ⟨hi, hq, hq2⟩
   iterate 2 refine c_seq ?_
   refine c_region ?_
   iterate 2 refine yO rfl rfl rfl rfl ?_
   refine o_end [0, 1, 8, 9, 32] rfl ?_
   refine x_then ?_
   refine c_cond rfl (fun h => ?_) (fun h => ?_)
   ·
    simp only [Xa, Xb, Xc, Xd, Xe, Xf, Xg, Xh, Xi, Xj, Xk, Xl, Xm, Xn, Xo, Xp] at h
    refine c_skip (x_then (c_seq (c_block (c_region ?_))))
    iterate 6 refine yO rfl rfl rfl rfl ?_
    obtain ⟨j, rfl⟩ : ∃ j, i = j + 1 := ⟨i - 1, by omega⟩
    have h1 := hlt m
    have h2 := pw_le6 (k := m) (by omega)
    have h3 := digit_lt s b j
    have h4 := pw_pos (j + 1)
    rw [wrapI (n := (q : Int) * 256) (by omega) (by omega), show ((j + 1 : Nat) : Int) - 1 = j by omega, wrapI (n := (b : Int) + j) (by omega) (by omega)]
    refine o_yield rfl rfl rfl (y_si tok rfl (fun hg => by omega)) ?_
    iterate 3 refine yO rfl rfl rfl rfl ?_
    refine o_end [0, 1, 8, 9] rfl ?_
    refine x_block (x_then (c_region ?_))
    iterate 3 refine yO rfl rfl rfl rfl ?_
    refine o_end [0, 1, 8, 9] rfl ?_
    refine x_then ?_
    have hnew : (q * 256 + digit s b j) * pw j + leTo (digit s b) j = leTo (digit s b) m := by
     rw [← hq, pw_succ, leTo, Nat.add_mul, Nat.mul_assoc, Nat.mul_comm 256 (pw j)]; omega
    have hle : q * 256 + digit s b j ≤ (q * 256 + digit s b j) * pw j := Nat.le_mul_of_pos_right _ (pw_pos j)
    have e : IntKind.i64.wrap (((q : Int) * 256) + IntKind.i64.wrap (((byteAt s ((b : Int) + j).toNat).toNat : Nat) : Int)) = ((q * 256 + digit s b j : Nat) : Int) := by
     rw [show ((byteAt s ((b : Int) + j).toNat).toNat : Nat) = digit s b j by rw [show ((b : Int) + j).toNat = b + j by omega]; rfl, wrapI (n := ((digit s b j : Nat) : Int)) (by omega) (by omega), wrapI (by omega) (by omega)]
     omega
    rw [e, wrapI (n := (j : Int) - 1) (by omega) (by omega)]
    refine x_round ((j, q * 256 + digit s b j)) (⟨by omega, hnew, by omega⟩) (by first | omega | (dsimp only; omega)) (by repeat (first | exact fN | refine fC rfl ?_)) (by repeat (first | exact oN | refine oC rfl ?_)) rfl (Vw.le.refl _)
   ·
    simp only [Xa, Xb, Xc, Xd, Xe, Xf, Xg, Xh, Xi, Xj, Xk, Xl, Xm, Xn, Xo, Xp] at h
    have hi0 : i = 0 := by omega
    subst hi0
    have hqq : q = leTo (digit s b) m := by simpa [leTo, pw] using hq
    subst hqq
    refine c_exit (x_then_exit (x_then_exit (x_block_hit (x_then (c_seq ?_)))))
    refine c_seq (c_region ?_)
    iterate 2 refine yO rfl rfl rfl rfl ?_
    refine o_end [8, 45] rfl ?_
    refine x_then ?_
    refine c_cond rfl (fun h => ?_) (fun h => ?_)
    ·
     simp only [Xa, Xb, Xc, Xd, Xe, Xf, Xg, Xh, Xi, Xj, Xk, Xl, Xm, Xn, Xo, Xp] at h
     refine c_seq (c_region ?_)
     iterate 2 refine yO rfl rfl rfl rfl ?_
     refine o_end [6, 7] rfl ?_
     refine x_then (c_ret (x_then_ret ?_))
     refine b_ret tok rfl ?_
     intro E w' hm _
     refine ⟨?_, hm.below (Vw.le.refl _)⟩
     rw [getSpec, if_neg (by simp [hw]), if_neg (by omega), if_pos (by simp only [Int.toNat_natCast]; omega)]
     rfl
    ·
     simp only [Xa, Xb, Xc, Xd, Xe, Xf, Xg, Xh, Xi, Xj, Xk, Xl, Xm, Xn, Xo, Xp] at h
     refine c_skip (x_then (c_seq (c_region ?_)))
     iterate 3 refine yO rfl rfl rfl rfl ?_
     refine o_end [6, 7] rfl ?_
     refine x_then (c_ret ?_)
     refine b_ret tok rfl ?_
     intro E w' hm _
     refine ⟨?_, hm.below (Vw.le.refl _)⟩
     rw [getSpec, if_neg (by simp [hw]), if_neg (by omega), if_neg (by simp only [Int.toNat_natCast]; omega)]
     simp only [Int.toNat_natCast]
     rfl
def crcStep (x : Nat) : Nat := if x % 2 = 1 then x / 2 ^^^ 2197175160 else x / 2
theorem crcStep_lt {x : Nat} (h : x < 4294967296) : crcStep x < 4294967296 := by
 unfold crcStep
 split
 · exact Nat.xor_lt_two_pow (n := 32) (by omega) (by omega)
 · omega
theorem xor_half (a b : Nat) : (a ^^^ b) / 2 = a / 2 ^^^ b / 2 := by
 have := Nat.shiftRight_xor_distrib (a := a) (b := b) (i := 1)
 simpa [Nat.shiftRight_eq_div_pow] using this
theorem xor_odd (a b : Nat) : (a ^^^ b) % 2 = (a % 2 + b % 2) % 2 := by
 have h1 := Nat.xor_mod_two_pow (a := a) (b := b) (n := 1)
 simp only [Nat.pow_one] at h1
 rw [h1]
 rcases Nat.mod_two_eq_zero_or_one a with h | h <;> rcases Nat.mod_two_eq_zero_or_one b with h' | h' <;> rw [h, h'] <;> rfl
theorem crcStep_xor (a b : Nat) : crcStep (a ^^^ b) = crcStep a ^^^ crcStep b := by
 have h0 := xor_odd a b
 unfold crcStep
 rw [xor_half]
 by_cases ha : a % 2 = 1 <;> by_cases hb : b % 2 = 1
 · rw [if_neg (by omega), if_pos ha, if_pos hb, Nat.xor_assoc, Nat.xor_comm 2197175160 (b / 2 ^^^ 2197175160), Nat.xor_assoc (b / 2), Nat.xor_self, Nat.xor_zero]
 · rw [if_pos (by omega), if_pos ha, if_neg hb, Nat.xor_assoc, Nat.xor_assoc, Nat.xor_comm (b / 2)]
 · rw [if_pos (by omega), if_neg ha, if_pos hb, Nat.xor_assoc]
 · rw [if_neg (by omega), if_neg ha, if_neg hb]
def stepN : Nat → Nat → Nat
 | 0, x => x
 | k + 1, x => crcStep (stepN k x)
theorem stepN_lt : ∀ (k : Nat) {x : Nat}, x < 4294967296 → stepN k x < 4294967296
 | 0, _, h => h
 | k + 1, _, h => crcStep_lt (stepN_lt k h)
theorem stepN_xor : ∀ (k a b : Nat), stepN k (a ^^^ b) = stepN k a ^^^ stepN k b
 | 0, _, _ => rfl
 | k + 1, a, b => by rw [stepN, stepN_xor k, crcStep_xor]; rfl
theorem stepN_add : ∀ (j k x : Nat), stepN (j + k) x = stepN j (stepN k x)
 | 0, k, x => by rw [Nat.zero_add]; rfl
 | j + 1, k, x => by rw [Nat.add_right_comm, stepN, stepN_add j k x]; rfl
theorem crcStep_even (y : Nat) : crcStep (2 * y) = y := by unfold crcStep; rw [if_neg (by omega)]; omega
theorem stepN_low (y : Nat) : stepN 4 (16 * y) = y := by
 show crcStep (crcStep (crcStep (crcStep (16 * y)))) = y
 rw [show 16 * y = 2 * (2 * (2 * (2 * y))) by omega, crcStep_even, crcStep_even, crcStep_even, crcStep_even]
theorem split16 (x : Nat) : 16 * (x / 16) ^^^ x % 16 = x := by
 have h := nat_join 4 (16 * (x / 16)) (x % 16) (by omega) (by omega)
 have h2 : 16 * (x / 16) ^^^ x % 16 = 16 * (x / 16) ||| x % 16 := by
  apply Nat.eq_of_testBit_eq
  intro i
  rw [Nat.testBit_xor, Nat.testBit_or]
  by_cases hi : i < 4
  ·
   rw [show 16 * (x / 16) = 2 ^ 4 * (x / 16) by omega, Nat.testBit_two_pow_mul, show decide (i ≥ 4) = false by simp; omega]
   simp
  ·
   rw [Nat.testBit_lt_two_pow (x := x % 16) (i := i) (Nat.lt_of_lt_of_le (by omega : x % 16 < 2 ^ 4) (Nat.pow_le_pow_right (by omega) (by omega)))]
   simp
 rw [h2, h]; omega
theorem step_four (x : Nat) : x / 16 ^^^ stepN 4 (x % 16) = stepN 4 x := by
 have := stepN_xor 4 (16 * (x / 16)) (x % 16)
 rw [split16, stepN_low] at this
 exact this.symm
abbrev U (n : Nat) : Value := .int .u32 (n : Int)
def crcFold (x : Nat) (l : List UInt8) : Nat := l.foldl (fun x b => stepN 8 (x ^^^ b.toNat)) x
theorem byte_lt (b : UInt8) : b.toNat < 4294967296 := by have := UInt8.toNat_lt b; omega
theorem crcFold_lt : ∀ (l : List UInt8) {x : Nat}, x < 4294967296 → crcFold x l < 4294967296
 | [], _, h => h
 | b :: r, x, h => crcFold_lt r (stepN_lt 8 (Nat.xor_lt_two_pow (n := 32) h (byte_lt b)))
theorem crcFold_snoc (x : Nat) (l : List UInt8) (b : UInt8) : crcFold x (l ++ [b]) = stepN 8 (crcFold x l ^^^ b.toNat) := by simp [crcFold]
def crcOf (l : List UInt8) : Nat := crcFold 4294967295 l ^^^ 4294967295
theorem crcOf_lt (l : List UInt8) : crcOf l < 4294967296 := Nat.xor_lt_two_pow (n := 32) (crcFold_lt l (by omega)) (by omega)
def tabC (i : Nat) : List Value := (List.range 16).map fun j => U (if j < i then stepN 4 j else 0)
def regC (x : Nat) (i : Nat) : List Value := U x :: tabC i
theorem regC_len (x i : Nat) : (regC x i).length = 17 := by simp [regC, tabC]
theorem regC_at (x : Nat) {j i : Nat} (h : j < 16) (hi : j < i) : ((regC x i).map A.v)[1 + j]? = some (.v (U (stepN 4 j))) := by
 rw [Nat.add_comm]
 simp [regC, tabC, h, hi]
theorem regC_set (x : Nat) {i : Nat} (h : i < 16) : ((regC x i).map A.v).set (1 + i) (.v (U (stepN 4 i))) = (regC x (i + 1)).map A.v := by
 apply List.ext_getElem?
 intro j
 rw [Nat.add_comm, List.getElem?_set]
 cases j with
 | zero => simp [regC]
 | succ j =>
  by_cases hj : j < 16
  ·
   by_cases hji : i = j
   ·
    subst hji
    simp [regC, tabC, hj]
   ·
    rw [if_neg (by omega)]
    have : (j < i) ↔ (j < i + 1) := by omega
    simp [regC, tabC, hj, this]
  ·
   simp [regC, tabC, hj]
   omega
theorem stepU {x : Nat} (h : x < 4294967296) :
  bits .xor .u32 ((x : Int) / 2 ^ (1 : Int).toNat) (bits .and .u32 2197175160 (IntKind.u32.wrap (0 - bits .and .u32 (x : Int) 1))) = (crcStep x : Int) := by
 have h1 : bits .and .u32 (x : Int) 1 = ((x % 2 : Nat) : Int) := by
  have := u32_and_nat x 1 h (by omega)
  rw [nat_mask1] at this
  exact this
 have h2 : (x : Int) / 2 ^ (1 : Int).toNat = ((x / 2 : Nat) : Int) := by
  show (x : Int) / 2 ^ 1 = _
  omega
 rw [h1, h2]
 unfold crcStep
 by_cases ho : x % 2 = 1
 · rw [ho, if_pos rfl, show IntKind.u32.wrap (0 - ((1 : Nat) : Int)) = 4294967295 by decide, show bits .and .u32 2197175160 4294967295 = ((2197175160 : Nat) : Int) by decide +kernel, u32_xor_nat _ _ (by omega) (by omega)]
 · rw [show x % 2 = 0 by omega, if_neg (by omega), show IntKind.u32.wrap (0 - ((0 : Nat) : Int)) = 0 by decide, show bits .and .u32 2197175160 0 = ((0 : Nat) : Int) by decide +kernel, u32_xor_nat _ _ (by omega) (by omega), Nat.xor_zero]
theorem begin_c (w : World) : Calls Tryz.prog 113 #[I 0] w fun e w' => ∃ (x : Unit) (b : Nat), e = .returned (.pointer (some ⟨b, 0, none⟩)) ∧ w.heap.size ≤ b ∧ w'.heap[b]? = some (.cells (regC 4294967295 16).toArray 169 (0, 0)) ∧ Below w.heap.size w w' ∧ True := by
 refine enter (E := E0) (O := []) (nl := 0) (V := vw w) [.a (.v (I 0))] Tryz.func113 rfl rfl (mem0 E0 0 w) rfl rfl ?_
 refine c_seq (c_region ?_)
 refine yO rfl rfl rfl rfl ?_
 refine o_end [0] rfl ?_
 refine x_then (c_seq (c_region ?_))
 iterate 5 refine yO rfl rfl rfl rfl ?_
 refine o_new tok rfl rfl rfl rfl ?_
 refine yO rfl rfl rfl rfl ?_
 refine o_end [3] rfl ?_
 refine x_then (c_seq (c_seq (c_region ?_)))
 refine yO rfl rfl rfl rfl ?_
 refine o_end [3, 12] rfl ?_
 refine x_then (c_block ?_)
 refine c_loopK [3] [0] rfl rfl (σ := Nat) (fun i => [(12, .a (.v (I i)))]) (fun i => [(0, .lit ((regC 4294967295 i).map .v) 169)]) (fun i => i ≤ 16) (fun i => 16 - i) (0) (by omega) (by repeat (first | exact fN | refine fC rfl ?_)) (by repeat (first | exact oN | refine oC rfl ?_)) rfl ?_
 rintro i hi
 refine c_seq (c_region ?_)
 refine yO rfl rfl rfl rfl ?_
 refine o_end [3, 12, 13] rfl ?_
 refine x_then (c_seq ?_)
 refine c_cond rfl (fun h => ?_) (fun h => ?_)
 ·
  simp only [Xa, Xb, Xc, Xd, Xe, Xf, Xg, Xh, Xi, Xj, Xk, Xl, Xm, Xn, Xo, Xp] at h
  refine c_skip (x_then (c_seq (c_block (c_seq (c_region ?_)))))
  iterate 2 refine yO rfl rfl rfl rfl ?_
  refine o_end [3, 4, 12] rfl ?_
  refine x_then (c_seq (c_region ?_))
  iterate 3 refine yO rfl rfl rfl rfl ?_
  refine o_end [3, 4, 5, 12] rfl ?_
  refine x_then (c_seq (c_seq (c_region ?_)))
  refine yO rfl rfl rfl rfl ?_
  refine o_end [3, 4, 5, 12, 17] rfl ?_
  refine x_then (c_block ?_)
  have hi16 : i < 16 := by omega
  rw [show IntKind.u32.wrap (i : Int) = (i : Int) from wrapU32 (by omega)]
  refine c_loopK [3, 4, 12] [] rfl rfl (σ := Nat) (fun k => [(5, .a (.v (U (stepN k i)))), (17, .a (.v (I k)))]) (fun k => []) (fun k => k ≤ 4) (fun k => 4 - k) (0) (by omega) (by repeat (first | exact fN | refine fC rfl ?_)) (by repeat (first | exact oN | refine oC rfl ?_)) rfl ?_
  rintro k hk
  refine c_seq (c_region ?_)
  refine yO rfl rfl rfl rfl ?_
  refine o_end [3, 4, 5, 12, 17, 18] rfl ?_
  refine x_then (c_seq ?_)
  refine c_cond rfl (fun h => ?_) (fun h => ?_)
  ·
   simp only [Xa, Xb, Xc, Xd, Xe, Xf, Xg, Xh, Xi, Xj, Xk, Xl, Xm, Xn, Xo, Xp] at h
   refine c_skip (x_then (c_seq (c_block (c_region ?_))))
   refine yO rfl rfl rfl rfl ?_
   have hlt := stepN_lt k (x := i) (by omega)
   refine o_yield rfl rfl rfl (y_shr rfl (fun hg => ⟨by decide, by decide⟩)) ?_
   iterate 6 refine yO rfl rfl rfl rfl ?_
   refine o_end [3, 4, 5, 12, 17] rfl ?_
   refine x_block (x_then (c_region ?_))
   iterate 2 refine yO rfl rfl rfl rfl ?_
   refine o_end [3, 4, 5, 12, 17] rfl ?_
   refine x_then ?_
   rw [stepU hlt, wrapI (n := (k : Int) + 1) (by omega) (by omega)]
   refine x_round (k + 1) (by omega) (by first | omega | (dsimp only; omega)) (by repeat (first | exact fN | refine fC rfl ?_)) (by repeat (first | exact oN | refine oC rfl ?_)) rfl (Vw.le.refl _)
  ·
   simp only [Xa, Xb, Xc, Xd, Xe, Xf, Xg, Xh, Xi, Xj, Xk, Xl, Xm, Xn, Xo, Xp] at h
   refine c_exit (x_then_exit (x_then_exit (x_block_hit (x_then (c_region ?_)))))
   iterate 5 refine yO rfl rfl rfl rfl ?_
   have hk4 : k = 4 := by omega
   subst hk4
   refine o_yield rfl rfl rfl (y_aidx tok (1 + i) rfl (by simp) (fun hg => by omega)) ?_
   refine o_stepN rfl rfl rfl rfl (s_ast tok rfl rfl rfl (by simp [regC_len]; omega)) (fun _ _ => ?_)
   refine o_end [3, 12] rfl ?_
   refine x_block (x_then (c_region ?_))
   iterate 2 refine yO rfl rfl rfl rfl ?_
   refine o_end [3, 12] rfl ?_
   refine x_then ?_
   rw [wrapI (n := (i : Int) + 1) (by omega) (by omega), regC_set _ hi16]
   refine x_round (i + 1) (by omega) (by first | omega | (dsimp only; omega)) (by repeat (first | exact fN | refine fC rfl ?_)) (by repeat (first | exact oN | refine oC rfl ?_)) rfl (Vw.le.refl _)
 ·
  simp only [Xa, Xb, Xc, Xd, Xe, Xf, Xg, Xh, Xi, Xj, Xk, Xl, Xm, Xn, Xo, Xp] at h
  refine c_exit (x_then_exit (x_then_exit (x_block_hit (x_then (c_seq ?_)))))
  refine c_region ?_
  iterate 2 refine yO rfl rfl rfl rfl ?_
  refine o_end [2] rfl ?_
  refine x_then (c_ret ?_)
  refine b_ret tok rfl ?_
  have hi16 : i = 16 := by omega
  subst hi16
  intro E w' hm _
  have hb := hm.lit 0 _ _ rfl
  rw [(den_plain E _).1] at hb
  refine ⟨(), E.ρ 0, rfl, ?_, hb, hm.below (Vw.le.refl _), trivial⟩
  rcases Nat.lt_or_ge (E.ρ 0) w.heap.size with hlt | hge
  ·
   have := hm.off 0 _ (E.ρ 0) rfl rfl
   simp [vw, hlt] at this
  · exact hge
theorem put_crc (x : Nat) (hx : x < 4294967296) (b : Nat) (lv : Value) (l : List UInt8) (w : World) (hb : w.heap[b]? = some (.cells (regC x 16).toArray 169 (0, 0))) (hs : SlOf ((vw w).del b) encByte 1 lv l) (hn : l.length ≤ maxLen) :
  Calls Tryz.prog 114 #[.pointer (some ⟨b, 0, none⟩), lv] w fun e w' => e = .returned (.pointer (some ⟨b, 0, none⟩)) ∧ Go.Eng.Touch (· = b) w w' ∧ w'.heap[b]? = some (.cells (regC (crcFold x l) 16).toArray 169 (0, 0)) := by
 simp only [maxLen] at hn
 refine enter1 [.a (.ptr 0 0), .a (.v lv)] hb Tryz.func114 rfl rfl rfl rfl ?_
 refine c_seq (c_region ?_)
 refine yO rfl rfl rfl rfl ?_
 refine o_end [0, 1] rfl ?_
 refine x_then (c_seq (c_seq (c_region ?_)))
 refine yO rfl rfl rfl rfl ?_
 refine o_yield rfl rfl rfl (y_len tok rfl (fun hg => hs.sl)) ?_
 refine yO rfl rfl rfl rfl ?_
 refine o_end [0, 7, 8, 9] rfl ?_
 refine x_then (c_block ?_)
 refine c_loopK [0, 7, 8] [0] rfl rfl (σ := Nat) (fun k => [(9, .a (.v (I k)))]) (fun k => [(0, .lit ((regC (crcFold x (l.take k)) 16).map .v) 169)]) (fun k => k ≤ l.length) (fun k => l.length - k) (0) (by omega) (by repeat (first | exact fN | refine fC rfl ?_)) (by repeat (first | exact oN | refine oC rfl ?_)) rfl ?_
 rintro k hk
 refine c_seq (c_region ?_)
 refine yO rfl rfl rfl rfl ?_
 refine o_end [0, 7, 8, 9, 10] rfl ?_
 refine x_then (c_seq ?_)
 refine c_cond rfl (fun h => ?_) (fun h => ?_)
 ·
  simp only [Xa, Xb, Xc, Xd, Xe, Xf, Xg, Xh, Xi, Xj, Xk, Xl, Xm, Xn, Xo, Xp] at h
  refine c_skip (x_then (c_seq (c_block (c_seq (c_region ?_)))))
  obtain ⟨c, h_c⟩ := hs.at (k := k) (by omega)
  have hlt_c := lt_of_at h_c
  refine o_yield rfl rfl rfl (y_idx tok rfl (fun hg => hs.sl) (fun hg => ⟨by omega, by omega⟩)) ?_
  refine o_yield rfl rfl rfl (y_lel tok (k) 0 (c) rfl (fun hg => hs) (fun hg => h_c) rfl rfl) ?_
  refine yO rfl rfl rfl rfl ?_
  refine o_end [0, 6, 7, 8, 9] rfl ?_
  refine x_then (c_seq (c_region ?_))
  iterate 11 refine yO rfl rfl rfl rfl ?_
  refine o_store tok rfl rfl rfl (by first | (repeat' first | exact trivial | exact rfl | apply And.intro); done | simp [onesP, oneP, lk, Value.oneCell']) ?_
  refine o_end [0, 7, 8, 9] rfl ?_
  refine x_then (c_seq ?_)
  refine c_heldS [22] mixed rfl (by repeat (first | exact oN | refine oC rfl ?_)) (by first | rfl | simp [okCels, allOk_plain]) ?_
  refine t_takeD 0 rfl (by kernel_rfl) rfl rfl rfl (yV rfl) rfl ?_
  refine t_takeD 1 rfl (by kernel_rfl) rfl rfl rfl (yV rfl) rfl ?_
  refine t_takeD 2 rfl (by kernel_rfl) rfl rfl rfl (yV rfl) rfl ?_
  refine t_takeD 3 rfl (by kernel_rfl) rfl rfl rfl (yV rfl) rfl ?_
  refine t_takeD 4 rfl (by kernel_rfl) rfl rfl rfl (yV rfl) rfl ?_
  refine t_takeD 5 rfl (by kernel_rfl) rfl rfl rfl (yV rfl) rfl ?_
  have hx1 := crcFold_lt (l.take k) hx
  have hc := UInt8.toNat_lt c
  rw [wrapU32 (n := c.toNat) (by omega), u32_xor_nat _ _ hx1 (by omega)]
  have hx2 : crcFold x (l.take k) ^^^ c.toNat < 4294967296 := Nat.xor_lt_two_pow (n := 32) hx1 (by omega)
  obtain ⟨z, hz⟩ : ∃ z, crcFold x (l.take k) ^^^ c.toNat = z := ⟨_, rfl⟩
  rw [hz] at hx2 ⊢
  have hz8 : stepN 8 z = crcFold x (l.take (k + 1)) := by rw [take_succ_at h_c, crcFold_snoc, hz]
  have hidx : ∀ y : Nat, y < 4294967296 → bits .and .u32 (y : Int) 15 = ((y % 16 : Nat) : Int) := fun y hy => by
   have := u32_and_nat y 15 hy (by omega)
   rw [nat_mask4] at this
   exact this
  have hdiv : ∀ y : Nat, (y : Int) / 2 ^ (4 : Int).toNat = ((y / 16 : Nat) : Int) := fun y => by
   show (y : Int) / 2 ^ 4 = _
   omega
  have hfour : ∀ y : Nat, y < 4294967296 → bits .xor .u32 ((y / 16 : Nat) : Int) ((stepN 4 (y % 16) : Nat) : Int) = ((stepN 4 y : Nat) : Int) := fun y hy => by
   rw [u32_xor_nat _ _ (by omega) (stepN_lt 4 (by omega)), step_four]
  refine t_takeD 6 rfl (by kernel_rfl) rfl rfl rfl (y_shr rfl (fun hg => ⟨by decide, by decide⟩)) rfl ?_
  refine t_takeD 7 rfl (by kernel_rfl) rfl rfl rfl (yV rfl) rfl ?_
  refine t_takeD 8 rfl (by kernel_rfl) rfl rfl rfl (yV rfl) rfl ?_
  refine t_takeD 9 rfl (by kernel_rfl) rfl rfl rfl (yV rfl) rfl ?_
  refine t_takeD 10 rfl (by kernel_rfl) rfl rfl rfl (yV rfl) rfl ?_
  refine t_takeD 11 rfl (by kernel_rfl) rfl rfl rfl (yV rfl) rfl ?_
  refine t_takeD 12 rfl (by kernel_rfl) rfl rfl rfl (yV rfl) rfl ?_
  refine t_takeD 13 rfl (by kernel_rfl) rfl rfl rfl (yV rfl) rfl ?_
  refine t_takeD 14 rfl (by kernel_rfl) rfl rfl rfl (yV rfl) rfl ?_
  refine t_takeD 15 rfl (by kernel_rfl) rfl rfl rfl (yV rfl) rfl ?_
  rw [hdiv, hidx z hx2]
  refine t_takeD 16 rfl (by kernel_rfl) rfl rfl rfl (y_aidx tok (1 + z % 16) rfl (by simp; omega) (fun hg => by omega)) rfl ?_
  refine t_takeD 17 rfl (by kernel_rfl) rfl rfl rfl (y_ald tok rfl rfl (fun hg => regC_at z (by omega) (by omega))) rfl ?_
  refine t_takeD 18 rfl (by kernel_rfl) rfl rfl rfl (yV rfl) rfl ?_
  refine t_takeD 19 rfl (by kernel_rfl) rfl rfl rfl (yV rfl) rfl ?_
  refine t_takeD 20 rfl (by kernel_rfl) rfl rfl rfl (yV rfl) rfl ?_
  refine t_takeD 21 rfl (by kernel_rfl) rfl rfl rfl (yV rfl) rfl ?_
  refine t_go ?_
  refine h_one 22 (by kernel_rfl) ?_
  refine h_store 22 tok rfl rfl rfl rfl (by repeat' first | exact trivial | exact rfl | apply And.intro) (.inl rfl) ?_
  refine h_done [0, 7, 8, 9] (by kernel_rfl) rfl ?_
  refine x_then ?_
  refine c_heldS [22] mixed rfl (by repeat (first | exact oN | refine oC rfl ?_)) (by first | rfl | simp [okCels, allOk_plain]) ?_
  refine t_takeD 0 rfl (by kernel_rfl) rfl rfl rfl (yV rfl) rfl ?_
  refine t_takeD 1 rfl (by kernel_rfl) rfl rfl rfl (yV rfl) rfl ?_
  refine t_takeD 2 rfl (by kernel_rfl) rfl rfl rfl (yV rfl) rfl ?_
  refine t_takeD 3 rfl (by kernel_rfl) rfl rfl rfl (yV rfl) rfl ?_
  refine t_takeD 4 rfl (by kernel_rfl) rfl rfl rfl (yV rfl) rfl ?_
  refine t_takeD 5 rfl (by kernel_rfl) rfl rfl rfl (yV rfl) rfl ?_
  rw [hfour z hx2]
  have hx3 := stepN_lt 4 hx2
  have h44 : stepN 4 (stepN 4 z) = stepN 8 z := (stepN_add 4 4 z).symm
  rw [h44.symm] at hz8
  obtain ⟨y, hy⟩ : ∃ y, stepN 4 z = y := ⟨_, rfl⟩
  rw [hy] at hz8 hx3 ⊢
  refine t_takeD 6 rfl (by kernel_rfl) rfl rfl rfl (y_shr rfl (fun hg => ⟨by decide, by decide⟩)) rfl ?_
  refine t_takeD 7 rfl (by kernel_rfl) rfl rfl rfl (yV rfl) rfl ?_
  refine t_takeD 8 rfl (by kernel_rfl) rfl rfl rfl (yV rfl) rfl ?_
  refine t_takeD 9 rfl (by kernel_rfl) rfl rfl rfl (yV rfl) rfl ?_
  refine t_takeD 10 rfl (by kernel_rfl) rfl rfl rfl (yV rfl) rfl ?_
  refine t_takeD 11 rfl (by kernel_rfl) rfl rfl rfl (yV rfl) rfl ?_
  refine t_takeD 12 rfl (by kernel_rfl) rfl rfl rfl (yV rfl) rfl ?_
  refine t_takeD 13 rfl (by kernel_rfl) rfl rfl rfl (yV rfl) rfl ?_
  refine t_takeD 14 rfl (by kernel_rfl) rfl rfl rfl (yV rfl) rfl ?_
  refine t_takeD 15 rfl (by kernel_rfl) rfl rfl rfl (yV rfl) rfl ?_
  rw [hdiv, hidx y hx3]
  refine t_takeD 16 rfl (by kernel_rfl) rfl rfl rfl (y_aidx tok (1 + y % 16) rfl (by simp; omega) (fun hg => by omega)) rfl ?_
  refine t_takeD 17 rfl (by kernel_rfl) rfl rfl rfl (y_ald tok rfl rfl (fun hg => regC_at y (by omega) (by omega))) rfl ?_
  refine t_takeD 18 rfl (by kernel_rfl) rfl rfl rfl (yV rfl) rfl ?_
  refine t_takeD 19 rfl (by kernel_rfl) rfl rfl rfl (yV rfl) rfl ?_
  refine t_takeD 20 rfl (by kernel_rfl) rfl rfl rfl (yV rfl) rfl ?_
  refine t_takeD 21 rfl (by kernel_rfl) rfl rfl rfl (yV rfl) rfl ?_
  refine t_go ?_
  refine h_one 22 (by kernel_rfl) ?_
  refine h_store 22 tok rfl rfl rfl rfl (by repeat' first | exact trivial | exact rfl | apply And.intro) (.inl rfl) ?_
  refine h_done [0, 7, 8, 9] (by kernel_rfl) rfl ?_
  refine x_block (x_then (c_region ?_))
  iterate 2 refine yO rfl rfl rfl rfl ?_
  refine o_end [0, 7, 8, 9] rfl ?_
  refine x_then ?_
  rw [hfour y hx3, hz8, wrapI (n := (k : Int) + 1) (by omega) (by omega)]
  refine x_round (k + 1) (by omega) (by first | omega | (dsimp only; omega)) (by repeat (first | exact fN | refine fC rfl ?_)) (by repeat (first | exact oN | refine oC rfl ?_)) rfl (Vw.le.refl _)
 ·
  simp only [Xa, Xb, Xc, Xd, Xe, Xf, Xg, Xh, Xi, Xj, Xk, Xl, Xm, Xn, Xo, Xp] at h
  refine c_exit (x_then_exit (x_then_exit (x_block_hit (x_then (c_seq ?_)))))
  refine c_region ?_
  iterate 2 refine yO rfl rfl rfl rfl ?_
  refine o_end [4] rfl ?_
  refine x_then (c_ret ?_)
  refine b_ret tok rfl ?_
  have hkl : k = l.length := by omega
  subst hkl
  intro E w' hm _
  obtain ⟨h1, h2⟩ := back1 hm (Vw.le.refl _) rfl rfl rfl
  rw [(den_plain E _).1, List.take_length] at h2
  refine ⟨?_, h1, h2⟩
  have hp := (hm.pin 1 0 _ rfl).1
  show Ending.returned (.pointer (some ⟨E.ρ 0, 0, none⟩)) = _
  rw [hp]
theorem turned_c (x : Nat) (hx : x < 4294967296) (b : Nat) (w : World) {cs : List Value} (hb : w.heap[b]? = some (.cells (U x :: cs).toArray 169 (0, 0))) :
  Calls Tryz.prog 115 #[.pointer (some ⟨b, 0, none⟩)] w fun e w' => e = .returned (I ((x ^^^ 4294967295 : Nat) : Int)) ∧ Below w.heap.size w w' := by
 refine enter1 [.a (.ptr 0 0)] hb Tryz.func115 rfl rfl rfl rfl ?_
 refine c_seq (c_region ?_)
 refine yO rfl rfl rfl rfl ?_
 refine o_end [0] rfl ?_
 refine x_then (c_seq (c_region ?_))
 iterate 7 refine yO rfl rfl rfl rfl ?_
 refine o_end [2] rfl ?_
 refine x_then (c_ret ?_)
 refine b_ret tok rfl ?_
 intro E w' hm _
 refine ⟨?_, below1 hb hm (Vw.le.refl _) rfl rfl rfl⟩
 have h1 := u32_xor_nat 4294967295 x (by omega) hx
 show Ending.returned (I (IntKind.i64.wrap (bits .xor .u32 4294967295 (x : Int)))) = _
 have hlt : x ^^^ 4294967295 < 4294967296 := Nat.xor_lt_two_pow (n := 32) hx (by omega)
 rw [show bits .xor .u32 4294967295 (x : Int) = ((4294967295 ^^^ x : Nat) : Int) from h1, Nat.xor_comm, wrapI (by omega) (by omega)]
theorem add_crc (V : Vw) (lv : Value) (l : List UInt8) (w : World) (hV : V.le (vw w)) (hs : SlOf V encByte 1 lv l) (hn : l.length ≤ maxLen) :
  Calls Tryz.prog 111 #[I 0, lv] w fun e w' => e = .returned (I (crcOf l)) ∧ Below w.heap.size w w' := by
 have hs' := hs.mono hV
 refine enter (E := E0) (O := []) (nl := 0) (V := vw w) [.a (.v (I 0)), .a (.v lv)] Tryz.func111 rfl rfl (mem0 E0 0 w) rfl rfl ?_
 refine c_seq (c_region ?_)
 refine yO rfl rfl rfl rfl ?_
 refine o_end [0, 1] rfl ?_
 refine x_then (c_seq (c_region ?_))
 refine yO rfl rfl rfl rfl ?_
 refine o_step rfl rfl rfl rfl rfl (s_callP (fun _ => True) (fun _ => regC 4294967295 16) 169 rfl fnok113 (fun E w hm => begin_c w)) (fun _ _ => ?_)
 refine yO rfl rfl rfl rfl ?_
 refine o_step rfl rfl rfl rfl rfl (s_callW (fun _ => True) (fun _ : Unit => .a (.ptr 0 0)) 0 169 (fun _ => (regC (crcFold 4294967295 l) 16).map .v) rfl fnok114 rfl (fun _ => (den_plain E0 _).2 _) (fun _ => rfl) (fun E w1 hm hb => (put_crc 4294967295 (by omega) (E.ρ 0) lv l w1 (by rw [hb, (den_plain E _).1]) (hs'.mono (hm.leDel rfl)) hn).mono fun e w' h => ⟨(), h.1, h.2.1, by rw [(den_plain E _).1]; exact h.2.2, trivial⟩)) (fun _ _ => ?_)
 iterate 2 refine yO rfl rfl rfl rfl ?_
 refine o_call (.a (.v _)) rfl rfl fnok115 rfl rfl rfl (fun hg E w1 hm => by exact turned_c (crcFold 4294967295 l) (crcFold_lt l (by omega)) _ _ (cs := tabC 16) (by have h := hm.lit 0 _ _ rfl; rw [(den_plain _ _).1] at h; exact h)) ?_
 refine yO rfl rfl rfl rfl ?_
 refine o_end [4] rfl ?_
 refine x_then (c_ret ?_)
 refine b_ret tok rfl ?_
 intro E w' hm _
 refine ⟨?_, hm.below (Vw.le.refl _)⟩
 rfl
theorem sum_crc (V : Vw) (lv : Value) (l : List UInt8) (w : World) (hV : V.le (vw w)) (hs : SlOf V encByte 1 lv l) (hn : l.length ≤ maxLen) :
  Calls Tryz.prog 109 #[lv] w fun e w' => e = .returned (I (crcOf l)) ∧ Below w.heap.size w w' := by
 refine enter (E := E0) (O := []) (nl := 0) (V := vw w) [.a (.v lv)] Tryz.func109 rfl rfl (mem0 E0 0 w) rfl rfl ?_
 refine c_seq (c_region ?_)
 refine yO rfl rfl rfl rfl ?_
 refine o_end [0] rfl ?_
 refine x_then (c_seq (c_region ?_))
 refine yO rfl rfl rfl rfl ?_
 refine o_call (.a (.v _)) rfl rfl fnok111 rfl rfl rfl (fun hg E w1 hm => by exact add_crc V _ l _ (hV.trans hm.leV) hs hn) ?_
 refine yO rfl rfl rfl rfl ?_
 refine o_end [2] rfl ?_
 refine x_then (c_ret ?_)
 refine b_ret tok rfl ?_
 intro E w' hm _
 refine ⟨?_, hm.below (Vw.le.refl _)⟩
 rfl
/-! The document's steps. -/
theorem refStep_c (x : Nat) (hx : x < 4294967296) (w : World) : Calls Tryz.prog 89 #[I x] w fun e w' => e = .returned (I (crcStep x)) ∧ Below w.heap.size w w' := by
 have h1 : bits .and .i64 (x : Int) 1 = ((x % 2 : Nat) : Int) := by
  have := i64_and x 1 (by omega) (by omega)
  rw [nat_mask1] at this
  exact this
 have h2 : (x : Int) / 2 ^ (1 : Int).toNat = ((x / 2 : Nat) : Int) := by
  show (x : Int) / 2 ^ 1 = _
  omega
 refine enter (E := E0) (O := []) (nl := 0) (V := vw w) [.a (.v (I x))] Tryz.func89 rfl rfl (mem0 E0 0 w) rfl rfl ?_
 refine c_seq (c_region ?_)
 refine yO rfl rfl rfl rfl ?_
 refine o_end [0] rfl ?_
 refine x_then (c_seq (c_seq (c_region ?_)))
 iterate 3 refine yO rfl rfl rfl rfl ?_
 refine o_end [0, 5] rfl ?_
 refine x_then ?_
 refine c_cond rfl (fun h => ?_) (fun h => ?_)
 ·
  simp only [Xa, Xb, Xc, Xd, Xe, Xf, Xg, Xh, Xi, Xj, Xk, Xl, Xm, Xn, Xo, Xp] at h
  refine c_seq (c_region ?_)
  refine yO rfl rfl rfl rfl ?_
  rw [h1] at h
  refine o_yield rfl rfl rfl (y_shr rfl (fun hg => ⟨by decide, by decide⟩)) ?_
  iterate 2 refine yO rfl rfl rfl rfl ?_
  refine o_end [2] rfl ?_
  refine x_then (c_ret (x_then_ret ?_))
  refine b_ret tok rfl ?_
  intro E w' hm _
  refine ⟨?_, hm.below (Vw.le.refl _)⟩
  show Ending.returned (I (bits .xor .i64 ((x : Int) / 2 ^ (1 : Int).toNat) ((2197175160 : Nat) : Int))) = _
  rw [h2, i64_xor _ _ (by omega) (by omega), crcStep, if_pos (by omega)]
 ·
  simp only [Xa, Xb, Xc, Xd, Xe, Xf, Xg, Xh, Xi, Xj, Xk, Xl, Xm, Xn, Xo, Xp] at h
  refine c_skip (x_then (c_seq (c_region ?_)))
  refine yO rfl rfl rfl rfl ?_
  rw [h1] at h
  refine o_yield rfl rfl rfl (y_shr rfl (fun hg => ⟨by decide, by decide⟩)) ?_
  refine yO rfl rfl rfl rfl ?_
  refine o_end [2] rfl ?_
  refine x_then (c_ret ?_)
  refine b_ret tok rfl ?_
  intro E w' hm _
  refine ⟨?_, hm.below (Vw.le.refl _)⟩
  show Ending.returned (I ((x : Int) / 2 ^ (1 : Int).toNat)) = _
  rw [h2, crcStep, if_neg (by omega)]
theorem mask_low {x : Nat} (h : x < 4294967296) : x &&& 4294967295 = x := by
 have := Nat.and_two_pow_sub_one_eq_mod x 32
 rw [show (2 : Nat) ^ 32 - 1 = 4294967295 by decide] at this
 rw [this]; omega
theorem refMove_c (x : Nat) (hx : x < 4294967296) (w : World) : Calls Tryz.prog 78 #[I x, I 1] w fun e w' => e = .returned (I (stepN 8 x)) ∧ Below w.heap.size w w' := by
 have hmk : bits .and .i64 (x : Int) 4294967295 = (x : Int) := by
  have := i64_and x 4294967295 (by omega) (by omega)
  rw [mask_low hx] at this
  exact this
 refine enter (E := E0) (O := []) (nl := 0) (V := vw w) [.a (.v (I x)), .a (.v (I 1))] Tryz.func78 rfl rfl (mem0 E0 0 w) rfl rfl ?_
 refine c_seq (c_region ?_)
 refine yO rfl rfl rfl rfl ?_
 refine o_end [0, 1] rfl ?_
 refine x_then (c_seq (c_region ?_))
 iterate 3 refine yO rfl rfl rfl rfl ?_
 refine o_end [0, 1] rfl ?_
 refine x_then (c_seq (c_seq (c_region ?_)))
 refine yO rfl rfl rfl rfl ?_
 refine o_end [0, 1, 5] rfl ?_
 refine x_then (c_block ?_)
 rw [hmk]
 refine c_loopK [1] [] rfl rfl (σ := Nat) (fun i => [(0, .a (.v (I (stepN (8 * i) x)))), (5, .a (.v (I i)))]) (fun i => []) (fun i => i ≤ 1) (fun i => 1 - i) (0) (by omega) (by repeat (first | exact fN | refine fC rfl ?_)) (by repeat (first | exact oN | refine oC rfl ?_)) rfl ?_
 rintro i hi
 iterate 2 refine c_seq ?_
 refine c_region ?_
 iterate 3 refine yO rfl rfl rfl rfl ?_
 refine o_end [0, 1, 5, 11] rfl ?_
 refine x_then ?_
 refine c_cond rfl (fun h => ?_) (fun h => ?_)
 ·
  simp only [Xa, Xb, Xc, Xd, Xe, Xf, Xg, Xh, Xi, Xj, Xk, Xl, Xm, Xn, Xo, Xp] at h
  refine c_skip (x_then (c_seq (c_block (c_seq (c_region ?_)))))
  refine yO rfl rfl rfl rfl ?_
  refine o_end [0, 1, 5, 6] rfl ?_
  refine x_then (c_block ?_)
  have hi0 : i = 0 := by omega
  subst hi0
  refine c_loopK [1, 5] [] rfl rfl (σ := Nat) (fun k => [(0, .a (.v (I (stepN k x)))), (6, .a (.v (I k)))]) (fun k => []) (fun k => k ≤ 8) (fun k => 8 - k) (0) (by omega) (by repeat (first | exact fN | refine fC rfl ?_)) (by repeat (first | exact oN | refine oC rfl ?_)) rfl ?_
  rintro k hk
  iterate 2 refine c_seq ?_
  refine c_region ?_
  iterate 2 refine yO rfl rfl rfl rfl ?_
  refine o_end [0, 1, 5, 6, 15] rfl ?_
  refine x_then ?_
  refine c_cond rfl (fun h => ?_) (fun h => ?_)
  ·
   simp only [Xa, Xb, Xc, Xd, Xe, Xf, Xg, Xh, Xi, Xj, Xk, Xl, Xm, Xn, Xo, Xp] at h
   refine c_skip (x_then (c_seq (c_block (c_region ?_))))
   refine yO rfl rfl rfl rfl ?_
   refine o_call (.a (.v _)) rfl rfl fnok89 rfl rfl rfl (fun hg E w1 hm => by exact refStep_c _ (stepN_lt k hx) _) ?_
   refine yO rfl rfl rfl rfl ?_
   refine o_end [0, 1, 5, 6] rfl ?_
   refine x_block (x_then (c_region ?_))
   iterate 3 refine yO rfl rfl rfl rfl ?_
   refine o_end [0, 1, 5, 6] rfl ?_
   refine x_then ?_
   rw [wrapI (n := (k : Int) + 1) (by omega) (by omega)]
   refine x_round (k + 1) (by omega) (by first | omega | (dsimp only; omega)) (by repeat (first | exact fN | refine fC rfl ?_)) (by repeat (first | exact oN | refine oC rfl ?_)) rfl (Vw.le.refl _)
  ·
   simp only [Xa, Xb, Xc, Xd, Xe, Xf, Xg, Xh, Xi, Xj, Xk, Xl, Xm, Xn, Xo, Xp] at h
   refine c_exit (x_then_exit (x_then_exit (x_block_hit (x_block (x_then ?_)))))
   refine c_region ?_
   iterate 3 refine yO rfl rfl rfl rfl ?_
   refine o_end [0, 1, 5] rfl ?_
   refine x_then ?_
   have hk8 : k = 8 := by omega
   subst hk8
   refine x_round (1) (by omega) (by first | omega | (dsimp only; omega)) (by repeat (first | exact fN | refine fC rfl ?_)) (by repeat (first | exact oN | refine oC rfl ?_)) rfl (Vw.le.refl _)
 ·
  simp only [Xa, Xb, Xc, Xd, Xe, Xf, Xg, Xh, Xi, Xj, Xk, Xl, Xm, Xn, Xo, Xp] at h
  refine c_exit (x_then_exit (x_then_exit (x_block_hit (x_then (c_seq ?_)))))
  refine c_region ?_
  iterate 2 refine yO rfl rfl rfl rfl ?_
  refine o_end [4] rfl ?_
  refine x_then (c_ret ?_)
  refine b_ret tok rfl ?_
  have hi1 : i = 1 := by omega
  subst hi1
  intro E w' hm _
  refine ⟨?_, hm.below (Vw.le.refl _)⟩
  rfl
theorem refAdd_c (V : Vw) (lv : Value) (l : List UInt8) (w : World) (hV : V.le (vw w)) (hs : SlOf V encByte 1 lv l) (hn : l.length ≤ maxLen) :
  Calls Tryz.prog 68 #[I 0, lv] w fun e w' => e = .returned (I (crcOf l)) ∧ Below w.heap.size w w' := by
 have hs' := hs.mono hV
 simp only [maxLen] at hn
 refine enter (E := E0) (O := []) (nl := 0) (V := vw w) [.a (.v (I 0)), .a (.v lv)] Tryz.func68 rfl rfl (mem0 E0 0 w) rfl rfl ?_
 refine c_seq (c_region ?_)
 refine yO rfl rfl rfl rfl ?_
 refine o_end [0, 1] rfl ?_
 refine x_then (c_seq (c_region ?_))
 iterate 4 refine yO rfl rfl rfl rfl ?_
 refine o_end [1, 5] rfl ?_
 refine x_then (c_seq (c_seq (c_region ?_)))
 refine yO rfl rfl rfl rfl ?_
 refine o_end [1, 5, 6] rfl ?_
 refine x_then (c_block ?_)
 rw [show bits .xor .i64 (bits .and .i64 0 4294967295) 4294967295 = ((4294967295 : Nat) : Int) by decide +kernel]
 refine c_loopK [1] [] rfl rfl (σ := Nat) (fun i => [(5, .a (.v (I (crcFold 4294967295 (l.take i))))), (6, .a (.v (I i)))]) (fun i => []) (fun i => i ≤ l.length) (fun i => l.length - i) (0) (by omega) (by repeat (first | exact fN | refine fC rfl ?_)) (by repeat (first | exact oN | refine oC rfl ?_)) rfl ?_
 rintro i hi
 iterate 2 refine c_seq ?_
 refine c_region ?_
 iterate 2 refine yO rfl rfl rfl rfl ?_
 refine o_yield rfl rfl rfl (y_len tok rfl (fun hg => hs'.sl)) ?_
 refine yO rfl rfl rfl rfl ?_
 refine o_end [1, 5, 6, 13] rfl ?_
 refine x_then ?_
 refine c_cond rfl (fun h => ?_) (fun h => ?_)
 ·
  simp only [Xa, Xb, Xc, Xd, Xe, Xf, Xg, Xh, Xi, Xj, Xk, Xl, Xm, Xn, Xo, Xp] at h
  refine c_skip (x_then (c_seq (c_block (c_region ?_))))
  iterate 3 refine yO rfl rfl rfl rfl ?_
  obtain ⟨c, h_c⟩ := hs'.at (k := i) (by omega)
  have hlt_c := lt_of_at h_c
  refine o_yield rfl rfl rfl (y_idx tok rfl (fun hg => hs'.sl) (fun hg => ⟨by omega, by omega⟩)) ?_
  refine o_yield rfl rfl rfl (y_lel tok (i) 0 (c) rfl (fun hg => hs') (fun hg => h_c) rfl rfl) ?_
  iterate 2 refine yO rfl rfl rfl rfl ?_
  have hx1 := crcFold_lt (l.take i) (x := 4294967295) (by omega)
  have hc := UInt8.toNat_lt c
  have hx2 : crcFold 4294967295 (l.take i) ^^^ c.toNat < 4294967296 := Nat.xor_lt_two_pow (n := 32) hx1 (by omega)
  rw [wrapI (n := (c.toNat : Int)) (by omega) (by omega), i64_xor _ _ (by omega) (by omega)]
  refine o_call (.a (.v _)) rfl rfl fnok78 rfl rfl rfl (fun hg E w1 hm => by exact refMove_c _ hx2 _) ?_
  refine yO rfl rfl rfl rfl ?_
  refine o_end [1, 5, 6] rfl ?_
  refine x_block (x_then (c_region ?_))
  iterate 3 refine yO rfl rfl rfl rfl ?_
  refine o_end [1, 5, 6] rfl ?_
  refine x_then ?_
  rw [wrapI (n := (i : Int) + 1) (by omega) (by omega), ← crcFold_snoc, ← take_succ_at h_c]
  refine x_round (i + 1) (by omega) (by first | omega | (dsimp only; omega)) (by repeat (first | exact fN | refine fC rfl ?_)) (by repeat (first | exact oN | refine oC rfl ?_)) rfl (Vw.le.refl _)
 ·
  simp only [Xa, Xb, Xc, Xd, Xe, Xf, Xg, Xh, Xi, Xj, Xk, Xl, Xm, Xn, Xo, Xp] at h
  refine c_exit (x_then_exit (x_then_exit (x_block_hit (x_then (c_seq ?_)))))
  refine c_region ?_
  iterate 3 refine yO rfl rfl rfl rfl ?_
  refine o_end [4] rfl ?_
  refine x_then (c_ret ?_)
  refine b_ret tok rfl ?_
  have hil : i = l.length := by omega
  subst hil
  intro E w' hm _
  refine ⟨?_, hm.below (Vw.le.refl _)⟩
  rw [List.take_length]
  have hx1 := crcFold_lt l (x := 4294967295) (by omega)
  have := i64_xor (crcFold 4294967295 l) 4294967295 (by omega) (by omega)
  show Ending.returned (I (bits .xor .i64 (crcFold 4294967295 l : Nat) ((4294967295 : Nat) : Int))) = _
  rw [this]
  rfl
theorem refSum_c (V : Vw) (lv : Value) (l : List UInt8) (w : World) (hV : V.le (vw w)) (hs : SlOf V encByte 1 lv l) (hn : l.length ≤ maxLen) :
  Calls Tryz.prog 54 #[lv] w fun e w' => e = .returned (I (crcOf l)) ∧ Below w.heap.size w w' := by
 refine enter (E := E0) (O := []) (nl := 0) (V := vw w) [.a (.v lv)] Tryz.func54 rfl rfl (mem0 E0 0 w) rfl rfl ?_
 refine c_seq (c_region ?_)
 refine yO rfl rfl rfl rfl ?_
 refine o_end [0] rfl ?_
 refine x_then (c_seq (c_region ?_))
 refine yO rfl rfl rfl rfl ?_
 refine o_call (.a (.v _)) rfl rfl fnok68 rfl rfl rfl (fun hg E w1 hm => by exact refAdd_c V _ l _ (hV.trans hm.leV) hs hn) ?_
 refine yO rfl rfl rfl rfl ?_
 refine o_end [2] rfl ?_
 refine x_then (c_ret ?_)
 refine b_ret tok rfl ?_
 intro E w' hm _
 refine ⟨?_, hm.below (Vw.le.refl _)⟩
 rfl
/-! A sum tells one byte that was turned. -/
def leTake (n j : Nat) : List UInt8 := (List.range j).map fun i => UInt8.ofNat (n / pw i % 256)
def leB (k n : Int) : List UInt8 := leTake n.toNat k.toNat
theorem leTake_succ (n j : Nat) : leTake n (j + 1) = leTake n j ++ [UInt8.ofNat (n / pw j % 256)] := by simp [leTake, List.range_succ]
theorem leTake_len (n j : Nat) : (leTake n j).length = j := by simp [leTake]
theorem ofNat_mod (n : Nat) : (UInt8.ofNat (n % 256)).toNat = n % 256 := by
 rw [UInt8.toNat_ofNat']
 omega
def putOk (k : Int) (ls : List Int) : Bool := widthB k && ls.all fun n => fitsB n k
def putL (bl : List UInt8) (k : Int) (ls : List Int) : List UInt8 := bl ++ ls.flatMap (leB k)
theorem flat_snoc (L : List UInt8) (b : UInt8) : L.flatMap encByte ++ [.int .u8 b.toNat] = (L ++ [b]).flatMap encByte := by
 rw [List.flatMap_append]; rfl
def PutPost (bl : List UInt8) (k : Int) (ls : List Int) (w : World) (e : Ending) (w' : World) : Prop :=
 ((putOk k ls = true ∧ ∃ v, e = .returned (.tuple #[v, I 0]) ∧ w'.ownsRow w.heap.size 5 1 v (putL bl k ls).length ((putL bl k ls).flatMap encByte)) ∨
  (putOk k ls = false ∧ e = .returned (.tuple #[.slice none 0 0, I 2]))) ∧ Below w.heap.size w w'
theorem putOk_no {k : Int} {ls : List Int} {i : Nat} {n : Int} (hn : ls[i]? = some n) (h : fitsB n k = false) : putOk k ls = false := by
 have : (ls.all fun n => fitsB n k) = false := all_no hn h
 rw [putOk, this, Bool.and_false]
theorem refPut_c (V : Vw) (bv : Value) (bl : List UInt8) (k : Int) (lv : Value) (ls : List Int) (w : World) (hV : V.le (vw w)) (hb : SlOf V encByte 1 bv bl) (hl : SlOf V encI64 1 lv ls)
  (hbn : bl.length ≤ 1099511627776) (hln : ls.length ≤ 1099511627776) : Calls Tryz.prog 46 #[bv, I k, lv] w (PutPost bl k ls w) := by
 have hb' := hb.mono hV
 have hl' := hl.mono hV
 refine enter (E := E0) (O := []) (nl := 0) (V := vw w) [.a (.v bv), .a (.v (I k)), .a (.v lv)] Tryz.func46 rfl rfl (mem0 E0 0 w) rfl rfl ?_
 refine c_seq (c_region ?_)
 iterate 2 refine yO rfl rfl rfl rfl ?_
 refine o_end [0, 1, 2] rfl ?_
 refine x_then (c_seq (c_seq (c_region ?_)))
 refine yO rfl rfl rfl rfl ?_
 refine o_call (.a (.v _)) rfl rfl fnok52 rfl rfl rfl (fun hg E w1 hm => by exact refMost_c _ _) ?_
 refine yO rfl rfl rfl rfl ?_
 refine o_end [0, 1, 2, 14] rfl ?_
 refine x_then ?_
 refine c_cond rfl (fun h => ?_) (fun h => ?_)
 ·
  simp only [Xa, Xb, Xc, Xd, Xe, Xf, Xg, Xh, Xi, Xj, Xk, Xl, Xm, Xn, Xo, Xp] at h
  refine c_seq (c_region ?_)
  iterate 2 refine yO rfl rfl rfl rfl ?_
  refine o_end [6, 7] rfl ?_
  refine x_then (c_ret (x_then_ret ?_))
  refine b_ret tok rfl ?_
  have hw : widthB k = false := by
   cases hq : widthB k with
   | false => rfl
   | true => rw [mostI, if_pos hq] at h; omega
  intro E w' hm _
  exact ⟨.inr ⟨by rw [putOk, hw]; rfl, rfl⟩, hm.below (Vw.le.refl _)⟩
 ·
  simp only [Xa, Xb, Xc, Xd, Xe, Xf, Xg, Xh, Xi, Xj, Xk, Xl, Xm, Xn, Xo, Xp] at h
  refine c_skip (x_then (c_seq (c_region ?_)))
  refine yO rfl rfl rfl rfl ?_
  refine o_end [0, 1, 2, 8] rfl ?_
  refine x_then (c_seq (c_region ?_))
  iterate 2 refine yO rfl rfl rfl rfl ?_
  have hw : widthB k = true := by
   cases hq : widthB k with
   | true => rfl
   | false => rw [mostI, if_neg (by simp [hq])] at h; omega
  have hk := hw
  simp only [widthB, Bool.and_eq_true, decide_eq_true_eq] at hk
  obtain ⟨m, rfl⟩ : ∃ m : Nat, k = m := ⟨k.toNat, by omega⟩
  clear h
  refine k_nil 15 5 1 rfl rfl ?_
  refine o_step rfl rfl rfl rfl rfl (s_app tok (bl.flatMap encByte) rfl (fun E w hm => hb'.sl.src hm.get) (fun _ _ _ => bytes_ones _) (by dsimp only; omega)) (fun _ _ => ?_)
  refine yO rfl rfl rfl rfl ?_
  refine o_end [1, 2, 8] rfl ?_
  refine x_then (c_seq (c_seq (c_region ?_)))
  refine yO rfl rfl rfl rfl ?_
  refine o_end [1, 2, 8, 9] rfl ?_
  refine x_then (c_block ?_)
  rw [Nat.zero_add bl.length, List.nil_append]
  have e0 : putL bl m (ls.take 0) = bl := by simp [putL]
  refine c_loopK [1, 2] [1] rfl rfl (σ := Nat) (fun i => [(8, .a (.row 1)), (9, .a (.v (I i)))]) (fun i => [(1, .row 5 1 (putL bl m (ls.take i)).length ((putL bl m (ls.take i)).flatMap encByte))]) (fun i => i ≤ ls.length ∧ (∀ j n, j < i → ls[j]? = some n → fitsB n m = true) ∧ (putL bl m (ls.take i)).length ≤ bl.length + 6 * i) (fun i => ls.length - i) (0) (⟨by omega, by omega, by simp [putL]⟩) (by repeat (first | exact SubF.nil | refine SubF.cons rfl ?_ | refine SubF.cons (by simp only [e0]; first | done | rfl) ?_)) (by repeat (first | exact SubO.nil | refine SubO.cons rfl ?_ | refine SubO.cons (by simp only [e0]; first | done | rfl) ?_)) rfl ?_
  rintro i ⟨hi, hall, hsz⟩
  iterate 2 refine c_seq ?_
  refine c_region ?_
  iterate 2 refine yO rfl rfl rfl rfl ?_
  refine o_yield rfl rfl rfl (y_len tok rfl (fun hg => hl'.sl)) ?_
  refine yO rfl rfl rfl rfl ?_
  refine o_end [1, 2, 8, 9, 21] rfl ?_
  refine x_then ?_
  refine c_cond rfl (fun h => ?_) (fun h => ?_)
  ·
   simp only [Xa, Xb, Xc, Xd, Xe, Xf, Xg, Xh, Xi, Xj, Xk, Xl, Xm, Xn, Xo, Xp] at h
   refine c_skip (x_then (c_seq (c_block (c_seq (c_seq ?_)))))
   refine c_region ?_
   iterate 2 refine yO rfl rfl rfl rfl ?_
   obtain ⟨n, h_n⟩ := hl'.at (k := i) (by omega)
   have hlt_n := lt_of_at h_n
   refine o_yield rfl rfl rfl (y_idx tok rfl (fun hg => hl'.sl) (fun hg => ⟨by omega, by omega⟩)) ?_
   refine o_yield rfl rfl rfl (y_lel tok (i) 0 (n) rfl (fun hg => hl') (fun hg => h_n) rfl rfl) ?_
   refine yO rfl rfl rfl rfl ?_
   refine o_call (.a (.v _)) rfl rfl fnok53 rfl rfl rfl (fun hg E w1 hm => by exact refFits_c _ _ _) ?_
   refine yO rfl rfl rfl rfl ?_
   refine o_end [1, 2, 8, 9, 30] rfl ?_
   refine x_then ?_
   refine c_cond rfl (fun h => ?_) (fun h => ?_)
   ·
    simp only [Xa, Xb, Xc, Xd, Xe, Xf, Xg, Xh, Xi, Xj, Xk, Xl, Xm, Xn, Xo, Xp] at h
    refine c_seq (c_region ?_)
    iterate 2 refine yO rfl rfl rfl rfl ?_
    refine o_end [6, 7] rfl ?_
    refine x_then (c_ret (x_then_ret (x_block_ret (x_then_ret (x_then_ret ?_)))))
    refine x_block_ret (x_then_ret ?_)
    refine b_ret tok rfl ?_
    intro E w' hm _
    exact ⟨.inr ⟨putOk_no h_n h, rfl⟩, hm.below (Vw.le.refl _)⟩
   ·
    simp only [Xa, Xb, Xc, Xd, Xe, Xf, Xg, Xh, Xi, Xj, Xk, Xl, Xm, Xn, Xo, Xp] at h
    refine c_skip (x_then (c_seq (c_region ?_)))
    iterate 2 refine yO rfl rfl rfl rfl ?_
    have hf := h
    clear h
    have hf' := hf
    simp only [fitsB, Bool.and_eq_true, decide_eq_true_eq] at hf'
    obtain ⟨⟨_, hn0⟩, hn1⟩ := hf'
    obtain ⟨q, rfl⟩ : ∃ q : Nat, n = q := ⟨n.toNat, by omega⟩
    have hq : q ≤ 1099511627776 := by unfold mostN at hn1; omega
    have hlt__q___Int_ := lt_of_at h_n
    refine o_yield rfl rfl rfl (y_idx tok rfl (fun hg => hl'.sl) (fun hg => ⟨by omega, by omega⟩)) ?_
    refine o_yield rfl rfl rfl (y_lel tok (i) 0 ((q : Int)) rfl (fun hg => hl') (fun hg => h_n) rfl rfl) ?_
    refine yO rfl rfl rfl rfl ?_
    refine o_end [1, 2, 8, 9, 10] rfl ?_
    refine x_then (c_seq (c_region ?_))
    refine yO rfl rfl rfl rfl ?_
    refine o_end [1, 2, 8, 9, 10, 11] rfl ?_
    refine x_then (c_block ?_)
    have ep : q / pw 0 = q := by simp [pw]
    have el : leTake q 0 = [] := rfl
    refine c_loopK [1, 2, 9] [1] rfl rfl (σ := Nat) (fun j => [(8, .a (.row 1)), (10, .a (.v (I (q / pw j : Nat)))), (11, .a (.v (I j)))]) (fun j => [(1, .row 5 1 (putL bl m (ls.take i) ++ leTake q j).length ((putL bl m (ls.take i) ++ leTake q j).flatMap encByte))]) (fun j => j ≤ m) (fun j => m - j) (0) (by omega) (by repeat (first | exact SubF.nil | refine SubF.cons rfl ?_ | refine SubF.cons (by simp only [ep, el, List.append_nil]; first | done | rfl) ?_)) (by repeat (first | exact SubO.nil | refine SubO.cons rfl ?_ | refine SubO.cons (by simp only [ep, el, List.append_nil]; first | done | rfl) ?_)) rfl ?_
    rintro j hj
    iterate 2 refine c_seq ?_
    refine c_region ?_
    iterate 3 refine yO rfl rfl rfl rfl ?_
    refine o_end [1, 2, 8, 9, 10, 11, 37] rfl ?_
    refine x_then ?_
    refine c_cond rfl (fun h => ?_) (fun h => ?_)
    ·
     simp only [Xa, Xb, Xc, Xd, Xe, Xf, Xg, Xh, Xi, Xj, Xk, Xl, Xm, Xn, Xo, Xp] at h
     refine c_skip (x_then (c_seq (c_block (c_seq (c_region ?_)))))
     iterate 2 refine yO rfl rfl rfl rfl ?_
     have hqj : q / pw j ≤ q := Nat.div_le_self _ _
     have hnx : q / pw (j + 1) = q / pw j / 256 := by rw [pw_succ, Nat.div_div_eq_div_mul]
     have hlt := leTake_succ q j
     obtain ⟨r, hr⟩ : ∃ r, q / pw j = r := ⟨_, rfl⟩
     rw [hr] at hqj hlt hnx ⊢
     refine o_yield rfl rfl rfl (y_rem rfl (fun hg => by decide)) ?_
     refine yO rfl rfl rfl rfl ?_
     rw [Int.tmod_eq_emod_of_nonneg (by omega), show (r : Int) % 256 = ((r % 256 : Nat) : Int) by omega, wrapU8 (n := r % 256) (by omega), ← ofNat_mod]
     refine o_step rfl rfl rfl rfl rfl (s_bs tok 1 rfl rfl rfl) (fun _ _ => ?_)
     refine o_step rfl rfl rfl rfl rfl (s_app tok [.int .u8 (UInt8.ofNat (r % 256)).toNat] rfl (fun E w hm => ownsRow_src (hm.row 2 _ _ _ _ rfl)) (fun _ _ _ => bytes_ones [_]) (by dsimp only; simp only [List.length_append, leTake_len]; omega)) (fun _ _ => ?_)
     refine yO rfl rfl rfl rfl ?_
     refine o_end [1, 2, 8, 9, 10, 11] rfl ?_
     refine x_then (c_region ?_)
     refine yO rfl rfl rfl rfl ?_
     rw [flat_snoc, List.append_assoc, ← hlt, show (putL bl m (ls.take i) ++ leTake q j).length + 1 = (putL bl m (ls.take i) ++ leTake q (j + 1)).length by simp only [List.length_append, leTake_len]; omega]
     refine k_swap 1 3 rfl ?_
     refine o_yield rfl rfl rfl (y_quo rfl (fun hg => by decide)) ?_
     refine yO rfl rfl rfl rfl ?_
     refine o_end [1, 2, 8, 9, 10, 11] rfl ?_
     refine x_block (x_then (c_region ?_))
     iterate 3 refine yO rfl rfl rfl rfl ?_
     refine o_end [1, 2, 8, 9, 10, 11] rfl ?_
     refine x_then ?_
     rw [Int.tdiv_eq_ediv_of_nonneg (by omega), show (r : Int) / 256 = ((r / 256 : Nat) : Int) by omega, wrapI (n := ((r / 256 : Nat) : Int)) (by omega) (by omega), ← hnx, wrapI (n := (j : Int) + 1) (by omega) (by omega)]
     refine x_round (j + 1) (by omega) (by first | omega | (dsimp only; omega)) (by repeat (first | exact fN | refine fC rfl ?_)) (by repeat (first | exact oN | refine oC rfl ?_)) rfl (Vw.le.refl _)
    ·
     simp only [Xa, Xb, Xc, Xd, Xe, Xf, Xg, Xh, Xi, Xj, Xk, Xl, Xm, Xn, Xo, Xp] at h
     refine c_exit (x_then_exit (x_then_exit (x_block_hit (x_block (x_then ?_)))))
     refine c_region ?_
     iterate 3 refine yO rfl rfl rfl rfl ?_
     refine o_end [1, 2, 8, 9] rfl ?_
     refine x_then ?_
     have hjm : j = m := by omega
     subst hjm
     have hnew : putL bl j (ls.take i) ++ leTake q j = putL bl j (ls.take (i + 1)) := by
      rw [take_succ_at h_n, putL, putL, List.flatMap_append, List.append_assoc]
      simp [leB]
     have hsz2 : (putL bl j (ls.take (i + 1))).length ≤ bl.length + 6 * (i + 1) := by rw [← hnew, List.length_append, leTake_len]; omega
     rw [hnew, wrapI (n := (i : Int) + 1) (by omega) (by omega)]
     refine x_round (i + 1) (⟨by omega, ahead_succ h_n hall hf, hsz2⟩) (by first | omega | (dsimp only; omega)) (by repeat (first | exact fN | refine fC rfl ?_)) (by repeat (first | exact oN | refine oC rfl ?_)) rfl (Vw.le.refl _)
  ·
   simp only [Xa, Xb, Xc, Xd, Xe, Xf, Xg, Xh, Xi, Xj, Xk, Xl, Xm, Xn, Xo, Xp] at h
   refine c_exit (x_then_exit (x_then_exit (x_block_hit (x_then (c_seq ?_)))))
   refine c_region ?_
   iterate 3 refine yO rfl rfl rfl rfl ?_
   refine o_end [6, 7] rfl ?_
   refine x_then (c_ret ?_)
   refine b_ret tok rfl ?_
   have hil : i = ls.length := by omega
   subst hil
   rw [List.take_length]
   intro E w' hm _
   have hok : putOk m ls = true := by
    rw [putOk, hw, Bool.true_and]
    exact all_of_ahead hall
   exact ⟨.inl ⟨hok, E.κ 1, rfl, hm.rowFresh (Vw.le.refl _) (l := 1) rfl⟩, hm.below (Vw.le.refl _)⟩
theorem putOk_two {n : Nat} (h : n ≤ 505) : putOk 2 [(n : Int)] = true := by
 have : mostN (2 : Int).toNat = 65535 := by decide
 simp only [putOk, List.all_cons, List.all_nil, Bool.and_true, fitsB, this]
 simp [widthB]
 omega
def body (k : UInt8) (load : List UInt8) : List UInt8 := putL [k] 2 [(load.length : Int)] ++ load
def sealL (k : UInt8) (load : List UInt8) : List UInt8 := body k load ++ leTake (crcOf (body k load)) 4
theorem body_eq (k : UInt8) (load : List UInt8) : body k load = k :: UInt8.ofNat (load.length / pw 0 % 256) :: UInt8.ofNat (load.length / pw 1 % 256) :: load := by
 simp [body, putL, leB, leTake, List.range_succ]
theorem body_len (k : UInt8) (load : List UInt8) : (body k load).length = 3 + load.length := by rw [body_eq]; simp; omega
theorem sealL_len (k : UInt8) (load : List UInt8) : (sealL k load).length = 7 + load.length := by rw [sealL, List.length_append, body_len, leTake_len]; omega
def kindOf8 (kind : Int) : UInt8 := UInt8.ofNat kind.toNat
def sealS (kind : Int) (s : ByteArray) : ByteArray × Int :=
 if kind < 1 ∨ 505 < s.size then (ByteArray.empty, 2) else (strOf (sealL (kindOf8 kind) s.data.toList), 0)
theorem str_beq (a b : ByteArray) : (a.toList == b.toList) = decide (a.data.toList = b.data.toList) := by
 rw [ByteArray.toList_eq, ByteArray.toList_eq]
 rw [Bool.eq_iff_iff, beq_iff_eq, decide_eq_true_eq]
theorem str_ext {a b : ByteArray} (h : a.data.toList = b.data.toList) : a = b := by
 apply ByteArray.ext
 apply Array.ext'
 exact h
theorem size_list (s : ByteArray) : s.data.toList.length = s.size := by rw [Array.length_toList]; rfl
section
variable {o : Oper} {n : Nat} {F : Frame0} {C : List Nat} {O : Go.Eng.Own} {nl : Nat} {V : Vw}
theorem s_refPut {p : List (Nat × Bool)} (bl : List UInt8) (k : Int) (ls : List Int) {ss : List SV} (hv : evalC F p o.op = some (46, ss)) (hok : putOk k ls = true)
  (hbn : bl.length ≤ 1099511627776) (hln : ls.length ≤ 1099511627776)
  (hargs : ∀ E w, Mem E O nl V w → ∃ bv lv, ss.map (SV.den E) = [bv, I k, lv] ∧ SlOf (vw w) encByte 1 bv bl ∧ SlOf (vw w) encI64 1 lv ls) :
  StepTo Tryz.prog o p n F C O nl V (σ := Unit) (fun _ => True) (fun _ => .tup [.row nl, .v (I 0)]) (fun _ => (nl, .row 5 1 (putL bl k ls).length ((putL bl k ls).flatMap encByte)) :: O) (nl + 1) (fun _ => V) := by
 refine s_callR (fun _ => True) (fun _ => .tup [.row nl, .v (I 0)]) 5 1 (fun _ => (putL bl k ls).length) (fun _ => (putL bl k ls).flatMap encByte) hv fnok46 (fun _ => by simp [SV.ok, allOk, A.ok, blt_iff]) ?_
 intro E w hm
 obtain ⟨bv, lv, ha, hb, hl⟩ := hargs E w hm
 rw [ha]
 refine (refPut_c (vw w) bv bl k lv ls w (Vw.le.refl _) hb hl hbn hln).mono ?_
 rintro e w' ⟨⟨_, v, rfl, hown⟩ | ⟨hno, _⟩, hbl⟩
 · exact ⟨(), v, by simp [SV.den, A.den, Env.setκ], hown, hbl, trivial⟩
 · rw [hok] at hno; cases hno
end
theorem byteOf {c j : Nat} {d : Int} (hd : d = ((c / pw j : Nat) : Int)) : IntKind.u8.wrap d = (((UInt8.ofNat (c / pw j % 256)).toNat : Nat) : Int) := by
 subst hd
 obtain ⟨r, hr⟩ : ∃ r, c / pw j = r := ⟨_, rfl⟩
 rw [hr, IntKind.wrap_u8', ofNat_mod]
 omega
theorem refSeal_c (kind : Int) (hk : R8 kind) (s : ByteArray) (hs : s.size ≤ maxLen) (w : World) :
  Calls Tryz.prog 47 #[I8 kind, S s] w fun e w' => e = .returned (.tuple #[S (sealS kind s).1, I (sealS kind s).2]) ∧ Below w.heap.size w w' := by
 unfold R8 at hk
 simp only [maxLen] at hs
 refine enter (E := E0) (O := []) (nl := 0) (V := vw w) [.a (.v (I8 kind)), .a (.v (S s))] Tryz.func47 rfl rfl (mem0 E0 0 w) rfl rfl ?_
 refine c_seq (c_region ?_)
 iterate 2 refine yO rfl rfl rfl rfl ?_
 refine o_end [0, 1] rfl ?_
 refine x_then (c_seq (c_seq (c_region ?_)))
 iterate 7 refine yO rfl rfl rfl rfl ?_
 refine o_end [0, 1, 15] rfl ?_
 refine x_then ?_
 refine c_cond rfl (fun h => ?_) (fun h => ?_)
 ·
  simp only [Xa, Xb, Xc, Xd, Xe, Xf, Xg, Xh, Xi, Xj, Xk, Xl, Xm, Xn, Xo, Xp] at h
  refine c_seq (c_region ?_)
  iterate 2 refine yO rfl rfl rfl rfl ?_
  refine o_end [4, 5] rfl ?_
  refine x_then (c_ret (x_then_ret ?_))
  refine b_ret tok rfl ?_
  intro E w' hm _
  refine ⟨?_, hm.below (Vw.le.refl _)⟩
  rw [sealS, if_pos (by omega)]
  rfl
 ·
  simp only [Xa, Xb, Xc, Xd, Xe, Xf, Xg, Xh, Xi, Xj, Xk, Xl, Xm, Xn, Xo, Xp] at h
  refine c_skip (x_then (c_seq (c_region ?_)))
  iterate 2 refine yO rfl rfl rfl rfl ?_
  obtain ⟨h1, h2⟩ := h
  have hsz := size_list s
  have hk8 : (kindOf8 kind).toNat = kind.toNat := by
   rw [kindOf8, UInt8.toNat_ofNat']; omega
  rw [show IntKind.u8.wrap kind = (((kindOf8 kind).toNat : Nat) : Int) by rw [hk8, IntKind.wrap_u8']; omega]
  refine o_step rfl rfl rfl rfl rfl (s_bs tok 1 rfl rfl rfl) (fun _ _ => ?_)
  iterate 2 refine yO rfl rfl rfl rfl ?_
  refine o_step rfl rfl rfl rfl rfl (s_bs tok 1 rfl rfl rfl) (fun _ _ => ?_)
  refine o_step rfl rfl rfl rfl rfl (s_refPut [kindOf8 kind] 2 [(s.size : Int)] rfl (putOk_two (by omega)) (by simp) (by simp) (fun E w hm => ⟨_, _, rfl, hm.rowOf (enc := encByte) (L := [kindOf8 kind]) 0 rfl (fun _ => rfl), hm.rowOf (enc := encI64) (L := [(s.size : Int)]) 1 rfl (fun _ => rfl)⟩)) (fun _ _ => ?_)
  iterate 5 refine yO rfl rfl rfl rfl ?_
  refine o_end [1, 6] rfl ?_
  refine x_then (c_seq (c_region ?_))
  iterate 2 refine yO rfl rfl rfl rfl ?_
  have hb3 : (putL [kindOf8 kind] 2 [(s.size : Int)]).length = 3 := by simp [putL, leB, leTake_len]
  refine o_step rfl rfl rfl rfl rfl (s_app tok (byteVs s) rfl (fun _ _ _ => Src.str s) (fun _ _ _ => by rw [byteVs_eq]; exact bytes_ones _) (by dsimp only; rw [hb3]; omega)) (fun _ _ => ?_)
  refine yO rfl rfl rfl rfl ?_
  refine o_end [6] rfl ?_
  refine x_then (c_seq (c_region ?_))
  refine yO rfl rfl rfl rfl ?_
  rw [byteVs_eq, ← List.flatMap_append, ← hsz, ← List.length_append, show putL [kindOf8 kind] 2 [(s.data.toList.length : Int)] ++ s.data.toList = body (kindOf8 kind) s.data.toList from rfl]
  have hbl := body_len (kindOf8 kind) s.data.toList
  obtain ⟨B, hB⟩ : ∃ B, body (kindOf8 kind) s.data.toList = B := ⟨_, rfl⟩
  rw [hB] at hbl ⊢
  refine o_call (.a (.v _)) rfl rfl fnok54 rfl rfl rfl (fun hg E w1 hm => by exact refSum_c _ _ B _ (Vw.le.refl _) (hm.rowOf 3 rfl (fun _ => rfl)) (by simp only [maxLen]; omega)) ?_
  refine yO rfl rfl rfl rfl ?_
  refine o_end [6, 8] rfl ?_
  refine x_then (c_seq (c_region ?_))
  iterate 4 refine yO rfl rfl rfl rfl ?_
  have hc := crcOf_lt B
  have hsh : ∀ (j : Nat) (e : Int), e.toNat = 8 * j → ((crcOf B : Nat) : Int) / 2 ^ e.toNat = ((crcOf B / pw j : Nat) : Int) := fun j e he => by
   rw [he, pw_two]
   norm_cast
  refine o_yield rfl rfl rfl (y_shr rfl (fun hg => ⟨by decide, by decide⟩)) ?_
  iterate 2 refine yO rfl rfl rfl rfl ?_
  refine o_yield rfl rfl rfl (y_shr rfl (fun hg => ⟨by decide, by decide⟩)) ?_
  iterate 2 refine yO rfl rfl rfl rfl ?_
  refine o_yield rfl rfl rfl (y_shr rfl (fun hg => ⟨by decide, by decide⟩)) ?_
  refine yO rfl rfl rfl rfl ?_
  rw [byteOf (d := ((crcOf B : Nat) : Int)) (c := crcOf B) (j := 0) (by simp [pw]), byteOf (c := crcOf B) (j := 1) (hsh 1 8 rfl), byteOf (c := crcOf B) (j := 2) (hsh 2 16 rfl), byteOf (c := crcOf B) (j := 3) (hsh 3 24 rfl)]
  refine o_step rfl rfl rfl rfl rfl (s_bs tok 1 rfl rfl rfl) (fun _ _ => ?_)
  refine o_step rfl rfl rfl rfl rfl (s_app tok ((leTake (crcOf B) 4).flatMap encByte) rfl (fun E w hm => ownsRow_src (hm.row 4 _ _ _ _ rfl)) (fun _ _ _ => bytes_ones _) (by dsimp only; omega)) (fun _ _ => ?_)
  rw [← List.flatMap_append]
  refine o_yield rfl rfl rfl (y_own (s := .a (.v (.string (strOf (B ++ leTake (crcOf B) 4))))) 5 rfl rfl (fun v V' hs => y_b2s tok _ rfl (fun hg => by rw [List.length_append, leTake_len]; exact hs))) ?_
  iterate 2 refine yO rfl rfl rfl rfl ?_
  refine o_end [4, 5] rfl ?_
  refine x_then (c_ret ?_)
  refine b_ret tok rfl ?_
  intro E w' hm _
  refine ⟨?_, hm.below (Vw.le.refl _)⟩
  rw [sealS, if_neg (by omega), sealL, hB]
  rfl
def loadOf (s : ByteArray) : ByteArray := s.extract 3 (s.size - 4)
def openB (s : ByteArray) : Bool := decide (7 ≤ s.size) && decide (s.size ≤ 512) && decide (1 ≤ (byteAt s 0).toNat) && decide ((byteAt s 0).toNat ≤ 127) && decide (sealL (byteAt s 0) (loadOf s).data.toList = s.data.toList)
def openK (s : ByteArray) : Int := if openB s = true then ((byteAt s 0).toNat : Int) else 0
def openL (s : ByteArray) : ByteArray := if openB s = true then loadOf s else ByteArray.empty
def openE (s : ByteArray) : Int := if openB s = true then 0 else 30
theorem refOpen_c (s : ByteArray) (hs : s.size ≤ maxLen) (w : World) :
  Calls Tryz.prog 77 #[S s] w fun e w' => e = .returned (.tuple #[I8 (openK s), S (openL s), I (openE s)]) ∧ Below w.heap.size w w' := by
 simp only [maxLen] at hs
 refine enter (E := E0) (O := []) (nl := 0) (V := vw w) [.a (.v (S s))] Tryz.func77 rfl rfl (mem0 E0 0 w) rfl rfl ?_
 refine c_seq (c_region ?_)
 iterate 3 refine yO rfl rfl rfl rfl ?_
 refine o_end [0] rfl ?_
 refine x_then (c_seq (c_seq (c_region ?_)))
 iterate 10 refine yO rfl rfl rfl rfl ?_
 refine o_yield rfl rfl rfl (y_si tok rfl (fun hg => by simp at hg; omega)) ?_
 iterate 4 refine yO rfl rfl rfl rfl ?_
 refine o_yield rfl rfl rfl (y_si tok rfl (fun hg => by simp at hg; omega)) ?_
 iterate 2 refine yO rfl rfl rfl rfl ?_
 refine o_end [0, 26] rfl ?_
 refine x_then ?_
 refine c_cond rfl (fun h => ?_) (fun h => ?_)
 ·
  simp only [Xa, Xb, Xc, Xd, Xe, Xf, Xg, Xh, Xi, Xj, Xk, Xl, Xm, Xn, Xo, Xp] at h
  refine c_seq (c_region ?_)
  iterate 3 refine yO rfl rfl rfl rfl ?_
  refine o_end [2, 3, 4] rfl ?_
  refine x_then (c_ret (x_then_ret ?_))
  refine b_ret tok rfl ?_
  intro E w' hm _
  refine ⟨?_, hm.below (Vw.le.refl _)⟩
  have hno : openB s = false := by
   rw [Bool.eq_false_iff]
   intro hc
   simp only [openB, Bool.and_eq_true, decide_eq_true_eq] at hc
   have hb : (byteAt s (0 : Int).toNat).toNat = (byteAt s 0).toNat := rfl
   omega
  rw [openK, openL, openE, hno]
  rfl
 ·
  simp only [Xa, Xb, Xc, Xd, Xe, Xf, Xg, Xh, Xi, Xj, Xk, Xl, Xm, Xn, Xo, Xp] at h
  refine c_skip (x_then (c_seq ?_))
  refine c_draw mixed (by kernel_rfl) ?_
  refine d_yield rfl rfl rfl (yV rfl) rfl ?_
  obtain ⟨⟨⟨h1, h2⟩, h3⟩, h4⟩ := h
  have hb : (byteAt s (0 : Int).toNat).toNat = (byteAt s 0).toNat := rfl
  rw [hb] at h3 h4
  refine d_yield rfl rfl rfl (y_si tok rfl (fun hg => by omega)) rfl ?_
  iterate 5 refine d_yield rfl rfl rfl (yV rfl) rfl ?_
  rw [hb, show IntKind.i8.wrap (((byteAt s 0).toNat : Nat) : Int) = (((byteAt s 0).toNat : Nat) : Int) by simp [IntKind.wrap, IntKind.bits, IntKind.signed]; omega, wrapI (n := (s.size : Int) - 4) (by omega) (by omega)]
  refine d_yield rfl rfl rfl (y_ss tok rfl (fun hg => by simp only [Option.getD]; omega)) rfl ?_
  iterate 2 refine d_yield rfl rfl rfl (yV rfl) rfl ?_
  refine d_end [0, 5, 6] rfl ?_
  refine x_then (c_seq (c_region ?_))
  iterate 2 refine yO rfl rfl rfl rfl ?_
  rw [show s.extract ((some (3 : Int)).getD 0).toNat ((some ((s.size : Int) - 4)).getD (s.size : Int)).toNat = loadOf s by simp only [Option.getD, loadOf]; congr 1; omega]
  have hls : (loadOf s).size = s.size - 7 := by rw [loadOf, ByteArray.size_extract]; omega
  have hse : sealS (((byteAt s 0).toNat : Nat) : Int) (loadOf s) = (strOf (sealL (byteAt s 0) (loadOf s).data.toList), 0) := by
   rw [sealS, if_neg (by omega)]
   simp [kindOf8]
  have hop : openB s = decide (sealL (byteAt s 0) (loadOf s).data.toList = s.data.toList) := by
   rw [openB, decide_eq_true (show 7 ≤ s.size by omega), decide_eq_true (show s.size ≤ 512 by omega), decide_eq_true (show 1 ≤ (byteAt s 0).toNat by omega), decide_eq_true (show (byteAt s 0).toNat ≤ 127 by omega)]
   rfl
  refine o_call (.a (.v _)) rfl rfl fnok47 rfl rfl rfl (fun hg E w1 hm => by exact refSeal_c _ (by unfold R8; omega) (loadOf s) (by rw [hls]; simp only [maxLen]; omega) _) ?_
  iterate 5 refine yO rfl rfl rfl rfl ?_
  refine o_end [0, 5, 6, 7, 8] rfl ?_
  refine x_then (c_seq (c_seq (c_region ?_)))
  iterate 7 refine yO rfl rfl rfl rfl ?_
  refine o_end [5, 6, 47] rfl ?_
  refine x_then ?_
  refine c_cond rfl (fun h => ?_) (fun h => ?_)
  ·
   refine c_seq (c_region ?_)
   iterate 3 refine yO rfl rfl rfl rfl ?_
   refine o_end [2, 3, 4] rfl ?_
   refine x_then (c_ret (x_then_ret ?_))
   refine b_ret tok rfl ?_
   rw [hse, str_beq, strOf_list] at h
   simp at h
   intro E w' hm _
   refine ⟨?_, hm.below (Vw.le.refl _)⟩
   rw [openK, openL, openE, if_neg (by simp [hop, h]), if_neg (by simp [hop, h]), if_neg (by simp [hop, h])]
   rfl
  ·
   refine c_skip (x_then (c_seq (c_region ?_)))
   iterate 5 refine yO rfl rfl rfl rfl ?_
   refine o_end [2, 3, 4] rfl ?_
   refine x_then (c_ret ?_)
   refine b_ret tok rfl ?_
   rw [hse, str_beq, strOf_list] at h
   simp at h
   intro E w' hm _
   refine ⟨?_, hm.below (Vw.le.refl _)⟩
   rw [openK, openL, openE, if_pos (by simp [hop, h]), if_pos (by simp [hop, h]), if_pos (by simp [hop, h])]
   rfl
def ofB (kind : Int) (s : ByteArray) : Bool := openB s && decide (((byteAt s 0).toNat : Int) = kind)
def ofL (kind : Int) (s : ByteArray) : ByteArray := if ofB kind s = true then loadOf s else ByteArray.empty
def ofE (kind : Int) (s : ByteArray) : Int := if ofB kind s = true then 0 else 30
theorem ofB_iff (kind : Int) (s : ByteArray) : ((openE s != 0) || (openK s != kind)) = !ofB kind s := by
 unfold ofB openE openK
 cases openB s with
 | true =>
  simp only [if_true, Bool.true_and]
  rw [Bool.eq_iff_iff]; simp
 | false => rfl
theorem refOf_c (kind : Int) (s : ByteArray) (hs : s.size ≤ maxLen) (w : World) :
  Calls Tryz.prog 65 #[I8 kind, S s] w fun e w' => e = .returned (.tuple #[S (ofL kind s), I (ofE kind s)]) ∧ Below w.heap.size w w' := by
 refine enter (E := E0) (O := []) (nl := 0) (V := vw w) [.a (.v (I8 kind)), .a (.v (S s))] Tryz.func65 rfl rfl (mem0 E0 0 w) rfl rfl ?_
 refine c_seq (c_region ?_)
 iterate 2 refine yO rfl rfl rfl rfl ?_
 refine o_end [0, 1] rfl ?_
 refine x_then (c_seq (c_region ?_))
 refine yO rfl rfl rfl rfl ?_
 refine o_call (.a (.v _)) rfl rfl fnok77 rfl rfl rfl (fun hg E w1 hm => by exact refOpen_c s hs _) ?_
 iterate 7 refine yO rfl rfl rfl rfl ?_
 refine o_end [0, 6, 7, 8] rfl ?_
 refine x_then (c_seq (c_seq (c_region ?_)))
 iterate 7 refine yO rfl rfl rfl rfl ?_
 refine o_end [7, 21] rfl ?_
 refine x_then ?_
 refine c_cond rfl (fun h => ?_) (fun h => ?_)
 ·
  refine c_seq (c_region ?_)
  iterate 2 refine yO rfl rfl rfl rfl ?_
  refine o_end [4, 5] rfl ?_
  refine x_then (c_ret (x_then_ret ?_))
  refine b_ret tok rfl ?_
  rw [ofB_iff] at h
  simp at h
  intro E w' hm _
  refine ⟨?_, hm.below (Vw.le.refl _)⟩
  rw [ofL, ofE, if_neg (by simp [h]), if_neg (by simp [h])]
  rfl
 ·
  refine c_skip (x_then (c_seq (c_region ?_)))
  iterate 3 refine yO rfl rfl rfl rfl ?_
  refine o_end [4, 5] rfl ?_
  refine x_then (c_ret ?_)
  refine b_ret tok rfl ?_
  rw [ofB_iff] at h
  simp at h
  have ho : openB s = true := by
   rw [ofB, Bool.and_eq_true] at h; exact h.1
  intro E w' hm _
  refine ⟨?_, hm.below (Vw.le.refl _)⟩
  rw [ofL, ofE, if_pos h, if_pos h]
  show Ending.returned (.tuple #[S (openL s), I 0]) = _
  rw [openL, if_pos ho]
/-! The program's. -/
theorem leTo_two (f : Nat → Nat) : leTo f 2 = f 0 + f 1 * 256 := by simp [leTo, pw]
theorem leTo_four (f : Nat → Nat) : leTo f 4 = f 0 + f 1 * 256 + f 2 * 65536 + f 3 * 16777216 := by simp [leTo, pw]
theorem get_two (s : ByteArray) : getSpec s 1 2 = if s.size < 3 then (0, 10) else (((digit s 1 0 + digit s 1 1 * 256 : Nat) : Int), 0) := by
 have h0 := digit_lt s 1 0
 have h1 := digit_lt s 1 1
 rw [getSpec, if_neg (by decide)]
 by_cases h : s.size < 3
 · rw [if_pos (by omega), if_pos h]
 ·
  rw [if_neg (by omega), if_neg h]
  show (if 1099511627776 < leTo (digit s 1) 2 then _ else _) = _
  rw [leTo_two, if_neg (by omega)]
  show (((leTo (digit s 1) 2 : Nat) : Int), (0 : Int)) = _
  rw [leTo_two]
theorem get_four (s : ByteArray) (n : Nat) (h : n + 4 ≤ s.size) : getSpec s n 4 = (((digit s n 0 + digit s n 1 * 256 + digit s n 2 * 65536 + digit s n 3 * 16777216 : Nat) : Int), 0) := by
 have h0 := digit_lt s n 0
 have h1 := digit_lt s n 1
 have h2 := digit_lt s n 2
 have h3 := digit_lt s n 3
 rw [getSpec, if_neg (by decide), if_neg (by omega)]
 show (if 1099511627776 < leTo (digit s ((n : Int)).toNat) 4 then _ else _) = _
 rw [Int.toNat_natCast, leTo_four, if_neg (by omega)]
 show (((leTo (digit s n) 4 : Nat) : Int), (0 : Int)) = _
 rw [leTo_four]
theorem byteAt_list (s : ByteArray) (i : Nat) : byteAt s i = s.data.toList.getD i 0 := by
 simp [byteAt, List.getD]
theorem parts (L : List UInt8) (h : 7 ≤ L.length) : ∃ b0 b1 b2 load c0 c1 c2 c3, L = b0 :: b1 :: b2 :: (load ++ [c0, c1, c2, c3]) ∧ load.length = L.length - 7 := by
 match L, h with
 | b0 :: b1 :: b2 :: r, h =>
  have hr : 4 ≤ r.length := by simp at h; omega
  have e := List.take_append_drop (r.length - 4) r
  have hd : (r.drop (r.length - 4)).length = 4 := by simp; omega
  match hq : r.drop (r.length - 4), hd with
  | [c0, c1, c2, c3], _ => exact ⟨b0, b1, b2, r.take (r.length - 4), c0, c1, c2, c3, by rw [← hq, e], by simp⟩
theorem four_eq {c : Nat} (hc : c < 4294967296) (c0 c1 c2 c3 : UInt8) : leTake c 4 = [c0, c1, c2, c3] ↔ c0.toNat + c1.toNat * 256 + c2.toNat * 65536 + c3.toNat * 16777216 = c := by
 have h0 := UInt8.toNat_lt c0
 have h1 := UInt8.toNat_lt c1
 have h2 := UInt8.toNat_lt c2
 have h3 := UInt8.toNat_lt c3
 have e : leTake c 4 = [UInt8.ofNat (c % 256), UInt8.ofNat (c / 256 % 256), UInt8.ofNat (c / 65536 % 256), UInt8.ofNat (c / 16777216 % 256)] := by
  simp [leTake, List.range_succ, pw]
 rw [e]
 simp only [List.cons.injEq, and_true]
 rw [← UInt8.toNat_inj, ← UInt8.toNat_inj, ← UInt8.toNat_inj, ← UInt8.toNat_inj, ofNat_mod, ofNat_mod, ofNat_mod, ofNat_mod]
 omega
def openP (s : ByteArray) : Bool :=
 decide (3 ≤ s.size) && decide (s.size = 7 + (digit s 1 0 + digit s 1 1 * 256)) && decide (digit s 1 0 + digit s 1 1 * 256 ≤ 505) && decide (1 ≤ (byteAt s 0).toNat) && decide ((byteAt s 0).toNat ≤ 127) &&
  decide (digit s (s.size - 4) 0 + digit s (s.size - 4) 1 * 256 + digit s (s.size - 4) 2 * 65536 + digit s (s.size - 4) 3 * 16777216 = crcOf (s.data.toList.take (s.size - 4)))
theorem openP_eq (s : ByteArray) : openP s = openB s := by
 have hsz := size_list s
 by_cases h7 : 7 ≤ s.size
 ·
  obtain ⟨b0, b1, b2, load, c0, c1, c2, c3, hL, hlen⟩ := parts s.data.toList (by omega)
  have hb : ∀ i, byteAt s i = (b0 :: b1 :: b2 :: (load ++ [c0, c1, c2, c3])).getD i 0 := fun i => by rw [byteAt_list, hL]
  have d0 : byteAt s 0 = b0 := by rw [hb]; rfl
  have d1 : digit s 1 0 = b1.toNat := by rw [digit, hb]; rfl
  have d2 : digit s 1 1 = b2.toNat := by rw [digit, hb]; rfl
  have dc : ∀ j, digit s (s.size - 4) j = ([c0, c1, c2, c3].getD j 0).toNat := fun j => by
   rw [digit, hb, show s.size - 4 + j = (load.length + j) + 3 by omega]
   simp only [List.getD, List.getElem?_cons_succ]
   rw [List.getElem?_append_right (by omega), Nat.add_sub_cancel_left]
  have hload : (loadOf s).data.toList = load := by
   rw [loadOf, ByteArray.data_extract, Array.toList_extract, List.extract_eq_take_drop, hL, show s.size - 4 - 3 = load.length by omega]
   simp
  have htake : s.data.toList.take (s.size - 4) = b0 :: b1 :: b2 :: load := by
   rw [hL, show s.size - 4 = load.length + 3 by omega]
   simp
  unfold openP openB
  rw [d0, d1, d2, dc, dc, dc, dc, hload, htake, hL]
  have hb1 := UInt8.toNat_lt b1
  have hb2 := UInt8.toNat_lt b2
  have key : sealL b0 load = b0 :: b1 :: b2 :: (load ++ [c0, c1, c2, c3]) ↔ b1.toNat + b2.toNat * 256 = load.length % 65536 ∧ leTake (crcOf (b0 :: b1 :: b2 :: load)) 4 = [c0, c1, c2, c3] := by
   rw [sealL, body_eq]
   have p0 : UInt8.ofNat (load.length / pw 0 % 256) = b1 ↔ load.length % 256 = b1.toNat := by
    rw [← UInt8.toNat_inj, ofNat_mod]; simp [pw]
   have p1 : UInt8.ofNat (load.length / pw 1 % 256) = b2 ↔ load.length / 256 % 256 = b2.toNat := by
    rw [← UInt8.toNat_inj, ofNat_mod]; simp [pw]
   simp only [List.cons_append, List.cons.injEq, true_and, List.append_cancel_left_eq, p0, p1]
   constructor
   ·
    rintro ⟨e1, e2, e3⟩
    refine ⟨by omega, ?_⟩
    rw [← p0.2 e1, ← p1.2 e2]; exact e3
   ·
    rintro ⟨e1, e2⟩
    refine ⟨by omega, by omega, ?_⟩
    rw [p0.2 (by omega), p1.2 (by omega)]; exact e2
  rw [Bool.eq_iff_iff]
  simp only [Bool.and_eq_true, decide_eq_true_eq, key, four_eq (crcOf_lt _)]
  simp only [List.getD_cons_zero, List.getD_cons_succ]
  have hx : load.length = s.size - 7 := by omega
  generalize crcOf (b0 :: b1 :: b2 :: load) = cc
  omega
 ·
  have h1 : openB s = false := by
   rw [openB, decide_eq_false h7]; rfl
  rw [h1, Bool.eq_false_iff]
  intro hc
  simp only [openP, Bool.and_eq_true, decide_eq_true_eq] at hc
  omega
theorem open_c (s : ByteArray) (hs : s.size ≤ maxLen) (w : World) :
  Calls Tryz.prog 103 #[S s] w fun e w' => e = .returned (.tuple #[I8 (openK s), S (openL s), I (openE s)]) ∧ Below w.heap.size w w' := by
 have hs' := hs
 simp only [maxLen] at hs'
 have hb : (byteAt s (0 : Int).toNat).toNat = (byteAt s 0).toNat := rfl
 refine enter (E := E0) (O := []) (nl := 0) (V := vw w) [.a (.v (S s))] Tryz.func103 rfl rfl (mem0 E0 0 w) rfl rfl ?_
 refine c_seq (c_region ?_)
 iterate 3 refine yO rfl rfl rfl rfl ?_
 refine o_end [0] rfl ?_
 refine x_then (c_seq (c_region ?_))
 refine yO rfl rfl rfl rfl ?_
 have h10 := digit_lt s 1 0
 have h11 := digit_lt s 1 1
 obtain ⟨n, e, hge, hfx⟩ : ∃ (n : Nat) (e : Int), getSpec s 1 2 = ((n : Int), e) ∧ n ≤ 65535 ∧ ((s.size < 3 ∧ e = 10) ∨ (3 ≤ s.size ∧ n = digit s 1 0 + digit s 1 1 * 256 ∧ e = 0)) := by
  rw [get_two]
  by_cases h : s.size < 3
  · rw [if_pos h]; exact ⟨0, 10, rfl, by omega, .inl ⟨h, rfl⟩⟩
  · rw [if_neg h]; exact ⟨_, 0, rfl, by omega, .inr ⟨by omega, rfl, rfl⟩⟩
 refine o_call (.a (.v _)) rfl rfl fnok92 rfl rfl rfl (fun hg E w1 hm => by exact numGet_c s 1 2 hs _) ?_
 iterate 5 refine yO rfl rfl rfl rfl ?_
 refine o_end [0, 5, 6] rfl ?_
 refine x_then (c_seq (c_seq (c_region ?_)))
 iterate 16 refine yO rfl rfl rfl rfl ?_
 rw [hge]
 dsimp only
 rw [wrapI (n := 3 + (n : Int)) (by omega) (by omega), wrapI (n := 3 + (n : Int) + 4) (by omega) (by omega)]
 refine o_yield rfl rfl rfl (y_si tok rfl (fun hg => by simp at hg; omega)) ?_
 iterate 4 refine yO rfl rfl rfl rfl ?_
 refine o_yield rfl rfl rfl (y_si tok rfl (fun hg => by simp at hg; omega)) ?_
 iterate 2 refine yO rfl rfl rfl rfl ?_
 refine o_end [0, 5, 37] rfl ?_
 refine x_then ?_
 refine c_cond rfl (fun h => ?_) (fun h => ?_)
 ·
  simp only [Xa, Xb, Xc, Xd, Xe, Xf, Xg, Xh, Xi, Xj, Xk, Xl, Xm, Xn, Xo, Xp] at h
  refine c_seq (c_region ?_)
  iterate 3 refine yO rfl rfl rfl rfl ?_
  refine o_end [2, 3, 4] rfl ?_
  refine x_then (c_ret (x_then_ret ?_))
  refine b_ret tok rfl ?_
  intro E w' hm _
  refine ⟨?_, hm.below (Vw.le.refl _)⟩
  have hno : openB s = false := by
   rw [← openP_eq, Bool.eq_false_iff]
   intro hc
   simp only [openP, Bool.and_eq_true, decide_eq_true_eq] at hc
   omega
  rw [openK, openL, openE, hno]
  rfl
 ·
  simp only [Xa, Xb, Xc, Xd, Xe, Xf, Xg, Xh, Xi, Xj, Xk, Xl, Xm, Xn, Xo, Xp] at h
  rw [hb] at h
  have hn : n = digit s 1 0 + digit s 1 1 * 256 ∧ s.size = 7 + n ∧ n ≤ 505 ∧ 1 ≤ (byteAt s 0).toNat ∧ (byteAt s 0).toNat ≤ 127 := by omega
  clear h hfx
  obtain ⟨hn1, hn2, hn3, hk1, hk2⟩ := hn
  refine c_skip (x_then (c_seq (c_region ?_)))
  iterate 3 refine yO rfl rfl rfl rfl ?_
  rw [show IntKind.i64.wrap (3 + (n : Int)) = ((3 + n : Nat) : Int) by rw [wrapI (by omega) (by omega)]; omega]
  have hop : openB s = decide (digit s (3 + n) 0 + digit s (3 + n) 1 * 256 + digit s (3 + n) 2 * 65536 + digit s (3 + n) 3 * 16777216 = crcOf (s.data.toList.take (3 + n))) := by
   rw [← openP_eq, openP, decide_eq_true (show 3 ≤ s.size by omega), decide_eq_true (show s.size = 7 + (digit s 1 0 + digit s 1 1 * 256) by omega), decide_eq_true (show digit s 1 0 + digit s 1 1 * 256 ≤ 505 by omega), decide_eq_true (show 1 ≤ (byteAt s 0).toNat by omega), decide_eq_true (show (byteAt s 0).toNat ≤ 127 by omega),
    show s.size - 4 = 3 + n by omega]
   simp only [Bool.true_and]
  obtain ⟨sum, hsum⟩ : ∃ sum, digit s (3 + n) 0 + digit s (3 + n) 1 * 256 + digit s (3 + n) 2 * 65536 + digit s (3 + n) 3 * 16777216 = sum := ⟨_, rfl⟩
  have hg4 := get_four s (3 + n) (by omega)
  rw [hsum] at hop hg4
  refine o_call (.a (.v _)) rfl rfl fnok92 rfl rfl rfl (fun hg E w1 hm => by exact numGet_c s ((3 + n : Nat) : Int) 4 hs _) ?_
  iterate 5 refine yO rfl rfl rfl rfl ?_
  refine o_end [0, 5, 7] rfl ?_
  refine x_then (c_seq (c_seq (c_region ?_)))
  iterate 4 refine yO rfl rfl rfl rfl ?_
  rw [hg4]
  dsimp only
  rw [show IntKind.i64.wrap (3 + (n : Int)) = ((3 + n : Nat) : Int) by rw [wrapI (by omega) (by omega)]; omega]
  refine o_yield rfl rfl rfl (y_ss tok rfl (fun hg => by simp only [Option.getD]; omega)) ?_
  refine o_step rfl rfl rfl rfl rfl (s_s2b tok rfl) (fun x hx => ?_)
  have hL : (s.extract (none.getD 0 : Int).toNat ((some ((3 + n : Nat) : Int)).getD (s.size : Int)).toNat).data.toList = s.data.toList.take (3 + n) := by
   simp only [Option.getD, Int.toNat_natCast]
   rw [ByteArray.data_extract, Array.toList_extract, List.extract_eq_take_drop]
   simp
  rw [hL] at hx
  have hxl := hx.1
  have htl : (s.data.toList.take (3 + n)).length = 3 + n := by rw [List.length_take, size_list]; omega
  refine o_call (.a (.v _)) rfl rfl fnok109 rfl rfl rfl (fun hg E w1 hm => by exact sum_crc x.2 _ (s.data.toList.take (3 + n)) _ hm.leV hx.2 (by rw [htl]; simp only [maxLen]; omega)) ?_
  refine yO rfl rfl rfl rfl ?_
  refine o_end [0, 5, 52] rfl ?_
  refine x_then ?_
  refine c_cond rfl (fun h => ?_) (fun h => ?_)
  ·
   simp only [Xa, Xb, Xc, Xd, Xe, Xf, Xg, Xh, Xi, Xj, Xk, Xl, Xm, Xn, Xo, Xp] at h
   refine c_seq (c_region ?_)
   iterate 3 refine yO rfl rfl rfl rfl ?_
   refine o_end [2, 3, 4] rfl ?_
   refine x_then (c_ret (x_then_ret ?_))
   refine b_ret tok rfl ?_
   have ho : openB s = false := by rw [hop]; simp; omega
   intro E w' hm _
   refine ⟨?_, hm.below (hxl)⟩
   rw [openK, openL, openE, ho]
   rfl
  ·
   simp only [Xa, Xb, Xc, Xd, Xe, Xf, Xg, Xh, Xi, Xj, Xk, Xl, Xm, Xn, Xo, Xp] at h
   refine c_skip (x_then (c_seq ?_))
   refine c_draw mixed (by kernel_rfl) ?_
   refine d_yield rfl rfl rfl (yV rfl) rfl ?_
   have ho : openB s = true := by rw [hop]; simp; omega
   refine d_yield rfl rfl rfl (y_si tok rfl (fun hg => by omega)) rfl ?_
   iterate 4 refine d_yield rfl rfl rfl (yV rfl) rfl ?_
   rw [hb, show IntKind.i8.wrap (((byteAt s 0).toNat : Nat) : Int) = (((byteAt s 0).toNat : Nat) : Int) by simp [IntKind.wrap, IntKind.bits, IntKind.signed]; omega]
   rw [show IntKind.i64.wrap (3 + (n : Int)) = ((3 + n : Nat) : Int) by rw [wrapI (by omega) (by omega)]; omega]
   refine d_yield rfl rfl rfl (y_ss tok rfl (fun hg => by simp only [Option.getD]; omega)) rfl ?_
   iterate 3 refine d_yield rfl rfl rfl (yV rfl) rfl ?_
   refine d_end [2, 3, 4] rfl ?_
   refine x_then (c_ret ?_)
   refine b_ret tok rfl ?_
   intro E w' hm _
   refine ⟨?_, hm.below (hxl)⟩
   rw [openK, openL, openE, if_pos ho, if_pos ho, if_pos ho]
   show Ending.returned (.tuple #[I8 (byteAt s 0).toNat, S (s.extract 3 (3 + n)), I 0]) = _
   rw [loadOf, show s.size - 4 = 3 + n by omega]
theorem sealOf_c (kind : Int) (s : ByteArray) (hs : s.size ≤ maxLen) (w : World) :
  Calls Tryz.prog 91 #[I8 kind, S s] w fun e w' => e = .returned (.tuple #[S (ofL kind s), I (ofE kind s)]) ∧ Below w.heap.size w w' := by
 refine enter (E := E0) (O := []) (nl := 0) (V := vw w) [.a (.v (I8 kind)), .a (.v (S s))] Tryz.func91 rfl rfl (mem0 E0 0 w) rfl rfl ?_
 refine c_seq (c_region ?_)
 iterate 2 refine yO rfl rfl rfl rfl ?_
 refine o_end [0, 1] rfl ?_
 refine x_then (c_seq (c_region ?_))
 refine yO rfl rfl rfl rfl ?_
 refine o_call (.a (.v _)) rfl rfl fnok103 rfl rfl rfl (fun hg E w1 hm => by exact open_c s hs _) ?_
 iterate 7 refine yO rfl rfl rfl rfl ?_
 refine o_end [0, 4, 5, 6] rfl ?_
 refine x_then (c_seq (c_seq (c_region ?_)))
 iterate 7 refine yO rfl rfl rfl rfl ?_
 refine o_end [4, 19] rfl ?_
 refine x_then ?_
 refine c_cond rfl (fun h => ?_) (fun h => ?_)
 ·
  refine c_seq (c_region ?_)
  iterate 2 refine yO rfl rfl rfl rfl ?_
  refine o_end [4, 5] rfl ?_
  refine x_then (c_ret (x_then_ret ?_))
  refine b_ret tok rfl ?_
  rw [ofB_iff] at h
  simp at h
  intro E w' hm _
  refine ⟨?_, hm.below (Vw.le.refl _)⟩
  rw [ofL, ofE, if_neg (by simp [h]), if_neg (by simp [h])]
  rfl
 ·
  refine c_skip (x_then (c_seq (c_region ?_)))
  iterate 3 refine yO rfl rfl rfl rfl ?_
  refine o_end [4, 5] rfl ?_
  refine x_then (c_ret ?_)
  refine b_ret tok rfl ?_
  rw [ofB_iff] at h
  simp at h
  have ho : openB s = true := by
   rw [ofB, Bool.and_eq_true] at h; exact h.1
  intro E w' hm _
  refine ⟨?_, hm.below (Vw.le.refl _)⟩
  rw [ofL, ofE, if_pos h, if_pos h]
  show Ending.returned (.tuple #[S (openL s), I 0]) = _
  rw [openL, if_pos ho]
def restOf (s : ByteArray) (k : Nat) : ByteArray := s.extract k s.size
theorem restOf_list (s : ByteArray) (k : Nat) : (restOf s k).data.toList = s.data.toList.drop k := by
 rw [restOf, ByteArray.data_extract, Array.toList_extract, List.extract_eq_take_drop]
 rw [List.take_of_length_le (by rw [List.length_drop, size_list]; omega)]
theorem restOf_size (s : ByteArray) (k : Nat) : (restOf s k).size = s.size - k := by
 rw [← size_list, restOf_list, List.length_drop, size_list]
theorem restOf_add (s : ByteArray) (a b : Nat) : restOf (restOf s a) b = restOf s (a + b) := by
 apply str_ext
 rw [restOf_list, restOf_list, restOf_list, List.drop_drop]
theorem restOf_zero (s : ByteArray) : restOf s 0 = s := by
 apply str_ext
 rw [restOf_list, List.drop_zero]
theorem digit_rest (s : ByteArray) (a j : Nat) : digit (restOf s a) 0 j = digit s a j := by
 rw [digit, digit, byteAt_list, byteAt_list, restOf_list]
 simp [List.getD]
theorem leTo_congr {f g : Nat → Nat} (h : ∀ j, f j = g j) (k : Nat) : leTo f k = leTo g k := by
 rw [funext h]
theorem getSpec_rest (s : ByteArray) {a : Nat} (ha : a ≤ s.size) (k : Int) : getSpec (restOf s a) 0 k = getSpec s a k := by
 have hd : leTo (digit (restOf s a) (0 : Int).toNat) k.toNat = leTo (digit s ((a : Int)).toNat) k.toNat := leTo_congr (fun j => by rw [Int.toNat_natCast]; exact digit_rest s a j) _
 unfold getSpec
 rw [hd, restOf_size]
 by_cases h : widthB k = false
 · rw [if_pos h, if_pos h]
 ·
  rw [if_neg h, if_neg h]
  by_cases h2 : (s.size : Int) - a < k
  · rw [if_pos (by omega), if_pos (by omega)]
  · rw [if_neg (show ¬ ((0 : Int) < 0 ∨ ((s.size - a : Nat) : Int) < 0 ∨ ((s.size - a : Nat) : Int) - 0 < k) by omega), if_neg (show ¬ ((a : Int) < 0 ∨ (s.size : Int) < a ∨ (s.size : Int) - a < k) by omega)]
theorem getSpec_ok {s : ByteArray} {a k : Int} (h : (getSpec s a k).2 = 0) : widthB k = true ∧ 0 ≤ a ∧ a + k ≤ s.size := by
 unfold getSpec at h
 split at h
 · simp at h
 ·
  rename_i hw
  split at h
  · simp at h
  · exact ⟨by simpa using hw, by omega, by omega⟩
theorem getSpec_64 (s : ByteArray) (a k : Int) : 0 ≤ (getSpec s a k).1 ∧ (getSpec s a k).1 ≤ 1099511627776 := by
 unfold getSpec
 split
 · simp
 ·
  split
  · simp
  ·
   split
   · simp
   · simp only; omega
def fldA (acc : List Int) (rest : ByteArray) : List Int → Option (List Int × ByteArray)
 | [] => some (acc, rest)
 | k :: ks => if (getSpec rest 0 k).2 ≠ 0 then none else fldA (acc ++ [(getSpec rest 0 k).1]) (restOf rest k.toNat) ks
def fieldsR (kind : Int) (s : ByteArray) (ks : List Int) : Option (List Int × ByteArray) := if ofB kind s = true then fldA [] (loadOf s) ks else none
def FPost (kind : Int) (s : ByteArray) (ks : List Int) (w : World) (e : Ending) (w' : World) : Prop :=
 ((∃ l r v, fieldsR kind s ks = some (l, r) ∧ e = .returned (.tuple #[v, S r, I 0]) ∧ w'.ownsRow w.heap.size 3 1 v l.length (l.flatMap encI64)) ∨
  (fieldsR kind s ks = none ∧ e = .returned (.tuple #[.slice none 0 0, S ByteArray.empty, I 30]))) ∧ Below w.heap.size w w'
theorem int_ones (l : List Int) : ∀ u ∈ l.flatMap encI64, u.oneCell' = true := by
 intro u hu
 obtain ⟨x, _, hx⟩ := List.mem_flatMap.1 hu
 simp only [List.mem_singleton] at hx
 subst hx
 rfl
theorem load_size (s : ByteArray) (h : openB s = true) : (loadOf s).size ≤ 505 ∧ (loadOf s).size = s.size - 7 := by
 simp only [openB, Bool.and_eq_true, decide_eq_true_eq] at h
 rw [loadOf, ByteArray.size_extract]; omega
theorem ofB_open {kind : Int} {s : ByteArray} (h : ofB kind s = true) : openB s = true := by
 rw [ofB, Bool.and_eq_true] at h; exact h.1
structure FInv (ks acc : List Int) (load rest : ByteArray) (i : Nat) : Prop where
 le : i ≤ ks.length
 eq : fldA [] load ks = fldA acc rest (ks.drop i)
 len : acc.length = i
 size : rest.size ≤ 505
theorem fields_c (kind : Int) (s : ByteArray) (V : Vw) (kv : Value) (ks : List Int) (w : World) (hs : s.size ≤ maxLen) (hV : V.le (vw w)) (hk : SlOf V encI64 1 kv ks) (hn : ks.length ≤ 1000) :
  Calls Tryz.prog 82 #[I8 kind, S s, kv] w (FPost kind s ks w) := by
 have hk' := hk.mono hV
 refine enter (E := E0) (O := []) (nl := 0) (V := vw w) [.a (.v (I8 kind)), .a (.v (S s)), .a (.v kv)] Tryz.func82 rfl rfl (mem0 E0 0 w) rfl rfl ?_
 refine c_seq (c_region ?_)
 iterate 3 refine yO rfl rfl rfl rfl ?_
 refine o_end [0, 1, 2, 6] rfl ?_
 refine x_then (c_seq (c_region ?_))
 iterate 2 refine yO rfl rfl rfl rfl ?_
 refine o_call (.a (.v _)) rfl rfl fnok91 rfl rfl rfl (fun hg E w1 hm => by exact sealOf_c kind s hs _) ?_
 iterate 5 refine yO rfl rfl rfl rfl ?_
 refine o_end [2, 6, 7, 8] rfl ?_
 refine x_then (c_seq (c_seq (c_region ?_)))
 refine yO rfl rfl rfl rfl ?_
 refine o_yield rfl rfl rfl (y_len tok rfl (fun hg => hk'.sl)) ?_
 refine yO rfl rfl rfl rfl ?_
 refine o_end [6, 7, 8, 19, 20, 21] rfl ?_
 refine x_then (c_block ?_)
 have hsz0 : (ofL kind s).size ≤ 505 := by
  unfold ofL
  cases ho : ofB kind s with
  | false => simp
  | true => rw [if_pos rfl]; exact (load_size s (ofB_open ho)).1
 have hno : ofE kind s ≠ 0 → fieldsR kind s ks = none := fun hc => by
  rw [fieldsR, if_neg]
  intro hq
  exact hc (by rw [ofE, if_pos hq])
 have hE30 : ofE kind s ≠ 0 → ofE kind s = 30 := fun hc => by
  unfold ofE at hc ⊢
  split
  · rename_i hq; rw [if_pos hq] at hc; exact absurd rfl hc
  · rfl
 refine k_nil 6 3 1 rfl rfl ?_
 refine c_loopK [19, 20] [0] rfl rfl (σ := Nat × List Int × ByteArray) (fun (i, acc, rest) => [(6, .a (.row 0)), (7, .a (.v (S rest))), (8, .a (.v (I (ofE kind s)))), (21, .a (.v (I i)))]) (fun (i, acc, rest) => [(0, .row 3 1 acc.length (acc.flatMap encI64))]) (fun (i, acc, rest) => FInv ks acc (ofL kind s) rest i) (fun (i, acc, rest) => ks.length - i) ((0, [], ofL kind s)) (⟨by omega, rfl, rfl, hsz0⟩) (by repeat (first | exact fN | refine fC rfl ?_)) (by repeat (first | exact oN | refine oC rfl ?_)) rfl ?_
 rintro ⟨i, acc, rest⟩ ⟨hi, heq, hacc, hsz⟩
 refine c_seq (c_region ?_)
 refine yO rfl rfl rfl rfl ?_
 refine o_end [6, 7, 8, 19, 20, 21, 22] rfl ?_
 refine x_then (c_seq ?_)
 refine c_cond rfl (fun h => ?_) (fun h => ?_)
 ·
  simp only [Xa, Xb, Xc, Xd, Xe, Xf, Xg, Xh, Xi, Xj, Xk, Xl, Xm, Xn, Xo, Xp] at h
  refine c_skip (x_then (c_seq (c_block (c_seq (c_region ?_)))))
  obtain ⟨k, h_k⟩ := hk'.at (k := i) (by omega)
  have hlt_k := lt_of_at h_k
  refine o_yield rfl rfl rfl (y_idx tok rfl (fun hg => hk'.sl) (fun hg => ⟨by omega, by omega⟩)) ?_
  refine o_yield rfl rfl rfl (y_lel tok (i) 0 (k) rfl (fun hg => hk') (fun hg => h_k) rfl rfl) ?_
  refine yO rfl rfl rfl rfl ?_
  refine o_end [6, 7, 8, 10, 19, 20, 21] rfl ?_
  refine x_then (c_seq (c_seq (c_region ?_)))
  iterate 2 refine yO rfl rfl rfl rfl ?_
  refine o_end [6, 7, 8, 10, 19, 20, 21, 26] rfl ?_
  refine x_then ?_
  refine c_cond rfl (fun h => ?_) (fun h => ?_)
  ·
   simp only [Xa, Xb, Xc, Xd, Xe, Xf, Xg, Xh, Xi, Xj, Xk, Xl, Xm, Xn, Xo, Xp] at h
   refine c_exit (x_then_exit ?_)
   refine x_block_miss rfl ?_
   iterate 2 refine x_then_exit ?_
   refine x_block_hit (x_then (c_seq (c_seq (c_region ?_))))
   iterate 2 refine yO rfl rfl rfl rfl ?_
   refine o_end [6, 7, 8, 44] rfl ?_
   refine x_then ?_
   refine c_cond rfl (fun h => ?_) (fun h => ?_)
   ·
    simp only [Xa, Xb, Xc, Xd, Xe, Xf, Xg, Xh, Xi, Xj, Xk, Xl, Xm, Xn, Xo, Xp] at h
    refine c_seq (c_region ?_)
    iterate 4 refine yO rfl rfl rfl rfl ?_
    refine o_end [6, 7, 8] rfl ?_
    refine x_then (c_ret (x_then_ret ?_))
    refine b_ret tok rfl ?_
    rw [hE30 h]
    intro E w' hm _
    exact ⟨.inr ⟨hno h, rfl⟩, hm.below (Vw.le.refl _)⟩
   ·
    simp only [Xa, Xb, Xc, Xd, Xe, Xf, Xg, Xh, Xi, Xj, Xk, Xl, Xm, Xn, Xo, Xp] at h
    refine c_skip (x_then (c_seq (c_region ?_)))
    iterate 5 refine yO rfl rfl rfl rfl ?_
    refine o_end [6, 7, 8] rfl ?_
    refine x_then (c_ret ?_)
    refine b_ret tok rfl ?_
    contradiction
  ·
   simp only [Xa, Xb, Xc, Xd, Xe, Xf, Xg, Xh, Xi, Xj, Xk, Xl, Xm, Xn, Xo, Xp] at h
   refine c_skip (x_then (c_seq (c_region ?_)))
   iterate 2 refine yO rfl rfl rfl rfl ?_
   have hE := h
   clear h
   rw [List.drop_eq_getElem_cons hlt_k] at heq
   have hkk : ks[i] = k := by
    have := h_k
    rw [List.getElem?_eq_getElem hlt_k] at this
    exact Option.some.inj this
   rw [hkk, fldA] at heq
   have hR : fieldsR kind s ks = fldA [] (ofL kind s) ks := by
    have ho : ofB kind s = true := by
     cases hq : ofB kind s with
     | true => rfl
     | false => rw [ofE, if_neg (by simp [hq])] at hE; cases hE
    rw [fieldsR, if_pos ho, ofL, if_pos ho]
   refine o_call (.a (.v _)) rfl rfl fnok92 rfl rfl rfl (fun hg E w1 hm => by exact numGet_c rest 0 k (by simp only [maxLen]; omega) _) ?_
   iterate 5 refine yO rfl rfl rfl rfl ?_
   refine o_end [6, 7, 8, 10, 11, 12, 19, 20, 21] rfl ?_
   refine x_then (c_seq (c_seq (c_region ?_)))
   iterate 2 refine yO rfl rfl rfl rfl ?_
   refine o_end [6, 7, 8, 10, 11, 19, 20, 21, 34] rfl ?_
   refine x_then ?_
   refine c_cond rfl (fun h => ?_) (fun h => ?_)
   ·
    simp only [Xa, Xb, Xc, Xd, Xe, Xf, Xg, Xh, Xi, Xj, Xk, Xl, Xm, Xn, Xo, Xp] at h
    refine c_seq (c_region ?_)
    iterate 3 refine yO rfl rfl rfl rfl ?_
    refine o_end [6, 7, 8] rfl ?_
    refine x_then (c_ret (x_then_ret (x_block_ret (x_then_ret (x_then_ret ?_)))))
    refine x_block_ret (x_then_ret ?_)
    refine b_ret tok rfl ?_
    intro E w' hm _
    exact ⟨.inr ⟨by rw [hR, heq, if_pos h], rfl⟩, hm.below (Vw.le.refl _)⟩
   ·
    simp only [Xa, Xb, Xc, Xd, Xe, Xf, Xg, Xh, Xi, Xj, Xk, Xl, Xm, Xn, Xo, Xp] at h
    rw [if_neg (by simp [h])] at heq
    obtain ⟨hw, _, hle⟩ := getSpec_ok h
    simp only [widthB, Bool.and_eq_true, decide_eq_true_eq] at hw
    refine c_skip (x_then ?_)
    refine c_held [] ([]) mixed (by repeat (first | exact oN | refine oC rfl ?_)) (by first | rfl | simp [okCels, allOk_plain]) ?_
    refine t_take 0 rfl (by kernel_rfl) rfl rfl rfl (yV rfl) rfl ?_
    refine t_take 1 rfl (by kernel_rfl) rfl rfl rfl (yV rfl) rfl ?_
    refine t_take 4 rfl (by kernel_rfl) rfl rfl rfl (yV rfl) rfl ?_
    refine t_take 5 rfl (by kernel_rfl) rfl rfl rfl (yV rfl) rfl ?_
    obtain ⟨q, rfl⟩ : ∃ q : Nat, k = q := ⟨k.toNat, by omega⟩
    refine t_take 6 rfl (by kernel_rfl) rfl rfl rfl (y_ss tok rfl (fun hg => by simp only [Option.getD]; omega)) rfl ?_
    refine t_go ?_
    refine h_one 2 (by kernel_rfl) ?_
    rw [show rest.extract ((some (q : Int)).getD 0).toNat ((none : Option Int).getD (rest.size : Int)).toNat = restOf rest q from rfl]
    refine h_to 2 rfl rfl rfl rfl rfl rfl (s_bs tok 1 rfl rfl rfl) (.inr fun _ _ => ⟨(by repeat (first | exact oN | refine oC rfl ?_)), rfl, (by first | exact Vw.le.refl _ | assumption)⟩) (fun _ _ => ?_)
    refine h_one 3 (by kernel_rfl) ?_
    refine h_to 3 rfl rfl rfl rfl rfl rfl (s_app tok ([(getSpec rest 0 q).1].flatMap encI64) rfl (fun E w hm => ownsRow_src (hm.row 1 _ _ _ _ rfl)) (fun _ _ _ => int_ones _) (by dsimp only; omega)) (.inr fun _ _ => ⟨(by repeat (first | exact oN | refine oC rfl ?_)), rfl, (by first | exact Vw.le.refl _ | assumption)⟩) (fun _ _ => ?_)
    refine h_one 7 (by kernel_rfl) ?_
    refine yH 7 rfl rfl rfl rfl rfl ?_
    refine h_one 8 (by kernel_rfl) ?_
    refine yH 8 rfl rfl rfl rfl rfl ?_
    refine h_done [6, 7, 8, 19, 20, 21] (by kernel_rfl) rfl ?_
    refine x_block (x_then (c_region ?_))
    iterate 2 refine yO rfl rfl rfl rfl ?_
    refine o_end [6, 7, 8, 19, 20, 21] rfl ?_
    refine x_then ?_
    rw [← List.flatMap_append, show acc.length + 1 = (acc ++ [(getSpec rest 0 q).1]).length by simp, wrapI (n := (i : Int) + 1) (by omega) (by omega)]
    refine k_swap 0 2 rfl ?_
    have hrs := restOf_size rest q
    refine x_round ((i + 1, acc ++ [(getSpec rest 0 q).1], restOf rest q)) (⟨by omega, heq, by simp [hacc], by omega⟩) (by first | omega | (dsimp only; omega)) (by repeat (first | exact fN | refine fC rfl ?_)) (by repeat (first | exact oN | refine oC rfl ?_)) rfl (Vw.le.refl _)
 ·
  simp only [Xa, Xb, Xc, Xd, Xe, Xf, Xg, Xh, Xi, Xj, Xk, Xl, Xm, Xn, Xo, Xp] at h
  have hil : i = ks.length := by omega
  subst hil
  rw [List.drop_length] at heq
  refine c_exit (x_then_exit (x_then_exit (x_block_hit (x_then (c_seq ?_)))))
  refine c_seq (c_region ?_)
  iterate 2 refine yO rfl rfl rfl rfl ?_
  refine o_end [6, 7, 8, 44] rfl ?_
  refine x_then ?_
  refine c_cond rfl (fun h => ?_) (fun h => ?_)
  ·
   simp only [Xa, Xb, Xc, Xd, Xe, Xf, Xg, Xh, Xi, Xj, Xk, Xl, Xm, Xn, Xo, Xp] at h
   refine c_seq (c_region ?_)
   iterate 4 refine yO rfl rfl rfl rfl ?_
   refine o_end [6, 7, 8] rfl ?_
   refine x_then (c_ret (x_then_ret ?_))
   refine b_ret tok rfl ?_
   rw [hE30 h]
   intro E w' hm _
   exact ⟨.inr ⟨hno h, rfl⟩, hm.below (Vw.le.refl _)⟩
  ·
   simp only [Xa, Xb, Xc, Xd, Xe, Xf, Xg, Xh, Xi, Xj, Xk, Xl, Xm, Xn, Xo, Xp] at h
   refine c_skip (x_then (c_seq (c_region ?_)))
   iterate 5 refine yO rfl rfl rfl rfl ?_
   refine o_end [6, 7, 8] rfl ?_
   refine x_then (c_ret ?_)
   refine b_ret tok rfl ?_
   have hR : fieldsR kind s ks = some (acc, rest) := by
    have ho : ofB kind s = true := by
     cases hq : ofB kind s with
     | true => rfl
     | false => rw [ofE, if_neg (by simp [hq])] at h; cases h
    rw [ofL, if_pos ho] at heq
    rw [fieldsR, if_pos ho, heq]
    rfl
   intro E w' hm _
   exact ⟨.inl ⟨acc, rest, E.κ 0, hR, rfl, hm.rowFresh (Vw.le.refl _) (l := 0) rfl⟩, hm.below (Vw.le.refl _)⟩
theorem refFields_c (kind : Int) (s : ByteArray) (V : Vw) (kv : Value) (ks : List Int) (w : World) (hs : s.size ≤ maxLen) (hV : V.le (vw w)) (hk : SlOf V encI64 1 kv ks) (hn : ks.length ≤ 1000) :
  Calls Tryz.prog 50 #[I8 kind, S s, kv] w (FPost kind s ks w) := by
 have hk' := hk.mono hV
 refine enter (E := E0) (O := []) (nl := 0) (V := vw w) [.a (.v (I8 kind)), .a (.v (S s)), .a (.v kv)] Tryz.func50 rfl rfl (mem0 E0 0 w) rfl rfl ?_
 refine c_seq (c_region ?_)
 iterate 3 refine yO rfl rfl rfl rfl ?_
 refine o_end [0, 1, 2] rfl ?_
 refine x_then (c_seq (c_region ?_))
 iterate 2 refine yO rfl rfl rfl rfl ?_
 refine o_call (.a (.v _)) rfl rfl fnok65 rfl rfl rfl (fun hg E w1 hm => by exact refOf_c kind s hs _) ?_
 iterate 5 refine yO rfl rfl rfl rfl ?_
 refine o_end [2, 9, 10] rfl ?_
 refine x_then (c_seq (c_seq (c_region ?_)))
 iterate 2 refine yO rfl rfl rfl rfl ?_
 refine o_end [2, 9, 10, 23] rfl ?_
 refine x_then ?_
 refine c_cond rfl (fun h => ?_) (fun h => ?_)
 ·
  simp only [Xa, Xb, Xc, Xd, Xe, Xf, Xg, Xh, Xi, Xj, Xk, Xl, Xm, Xn, Xo, Xp] at h
  refine c_seq (c_region ?_)
  iterate 4 refine yO rfl rfl rfl rfl ?_
  refine o_end [6, 7, 8] rfl ?_
  refine x_then (c_ret (x_then_ret ?_))
  refine b_ret tok rfl ?_
  have hE : ofE kind s = 30 := by
   unfold ofE at h ⊢
   split
   · rename_i hq; rw [if_pos hq] at h; exact absurd rfl h
   · rfl
  have hR : fieldsR kind s ks = none := by
   rw [fieldsR, if_neg]
   intro hq
   exact h (by rw [ofE, if_pos hq])
  rw [hE]
  intro E w' hm _
  exact ⟨.inr ⟨hR, rfl⟩, hm.below (Vw.le.refl _)⟩
 ·
  simp only [Xa, Xb, Xc, Xd, Xe, Xf, Xg, Xh, Xi, Xj, Xk, Xl, Xm, Xn, Xo, Xp] at h
  refine c_skip (x_then (c_seq (c_region ?_)))
  refine yO rfl rfl rfl rfl ?_
  refine o_end [2, 9, 11] rfl ?_
  refine x_then (c_seq (c_region ?_))
  refine yO rfl rfl rfl rfl ?_
  refine o_end [2, 9, 11, 12] rfl ?_
  refine x_then (c_seq (c_seq (c_region ?_)))
  refine yO rfl rfl rfl rfl ?_
  refine o_end [2, 9, 11, 12, 13] rfl ?_
  refine x_then (c_block ?_)
  have ho : ofB kind s = true := by
   cases hq : ofB kind s with
   | true => rfl
   | false => rw [ofE, if_neg (by simp [hq])] at h; cases h
  have hsz0 := (load_size s (ofB_open ho)).1
  rw [show ofL kind s = loadOf s by rw [ofL, if_pos ho]]
  obtain ⟨L, hL⟩ : ∃ L, loadOf s = L := ⟨_, rfl⟩
  have hR : fieldsR kind s ks = fldA [] L ks := by rw [fieldsR, if_pos ho, hL]
  rw [hL] at hsz0 ⊢
  refine k_nil 11 3 1 rfl rfl ?_
  refine c_loopK [2, 9] [0] rfl rfl (σ := Nat × List Int × Nat) (fun (i, acc, a) => [(11, .a (.row 0)), (12, .a (.v (I a))), (13, .a (.v (I i)))]) (fun (i, acc, a) => [(0, .row 3 1 acc.length (acc.flatMap encI64))]) (fun (i, acc, a) => FInv ks acc L (restOf L a) i ∧ a ≤ L.size) (fun (i, acc, a) => ks.length - i) ((0, [], 0)) (⟨⟨by omega, by rw [restOf_zero]; rfl, rfl, by rw [restOf_zero]; exact hsz0⟩, by omega⟩) (by repeat (first | exact fN | refine fC rfl ?_)) (by repeat (first | exact oN | refine oC rfl ?_)) rfl ?_
  rintro ⟨i, acc, a⟩ ⟨⟨hi, heq, hacc, hsz⟩, ha⟩
  iterate 2 refine c_seq ?_
  refine c_region ?_
  iterate 2 refine yO rfl rfl rfl rfl ?_
  refine o_yield rfl rfl rfl (y_len tok rfl (fun hg => hk'.sl)) ?_
  refine yO rfl rfl rfl rfl ?_
  refine o_end [2, 9, 11, 12, 13, 28] rfl ?_
  refine x_then ?_
  refine c_cond rfl (fun h => ?_) (fun h => ?_)
  ·
   simp only [Xa, Xb, Xc, Xd, Xe, Xf, Xg, Xh, Xi, Xj, Xk, Xl, Xm, Xn, Xo, Xp] at h
   refine c_skip (x_then (c_seq (c_block (c_seq (c_region ?_)))))
   iterate 4 refine yO rfl rfl rfl rfl ?_
   obtain ⟨k, h_k⟩ := hk'.at (k := i) (by omega)
   have hlt_k := lt_of_at h_k
   refine o_yield rfl rfl rfl (y_idx tok rfl (fun hg => hk'.sl) (fun hg => ⟨by omega, by omega⟩)) ?_
   refine o_yield rfl rfl rfl (y_lel tok (i) 0 (k) rfl (fun hg => hk') (fun hg => h_k) rfl rfl) ?_
   rw [List.drop_eq_getElem_cons hlt_k] at heq
   have hkk : ks[i] = k := by
    have := h_k
    rw [List.getElem?_eq_getElem hlt_k] at this
    exact Option.some.inj this
   rw [hkk, fldA, getSpec_rest L ha] at heq
   refine o_call (.a (.v _)) rfl rfl fnok66 rfl rfl rfl (fun hg E w1 hm => by exact refGet_c L a k (by simp only [maxLen]; omega) _) ?_
   iterate 5 refine yO rfl rfl rfl rfl ?_
   refine o_end [2, 9, 11, 12, 13, 14, 15] rfl ?_
   refine x_then (c_seq (c_seq (c_region ?_)))
   iterate 2 refine yO rfl rfl rfl rfl ?_
   refine o_end [2, 9, 11, 12, 13, 14, 42] rfl ?_
   refine x_then ?_
   refine c_cond rfl (fun h => ?_) (fun h => ?_)
   ·
    simp only [Xa, Xb, Xc, Xd, Xe, Xf, Xg, Xh, Xi, Xj, Xk, Xl, Xm, Xn, Xo, Xp] at h
    refine c_seq (c_region ?_)
    iterate 3 refine yO rfl rfl rfl rfl ?_
    refine o_end [6, 7, 8] rfl ?_
    refine x_then (c_ret (x_then_ret (x_block_ret (x_then_ret (x_then_ret ?_)))))
    refine x_block_ret (x_then_ret ?_)
    refine b_ret tok rfl ?_
    intro E w' hm _
    exact ⟨.inr ⟨by rw [hR, heq, if_pos h], rfl⟩, hm.below (Vw.le.refl _)⟩
   ·
    simp only [Xa, Xb, Xc, Xd, Xe, Xf, Xg, Xh, Xi, Xj, Xk, Xl, Xm, Xn, Xo, Xp] at h
    rw [if_neg (by simp [h])] at heq
    obtain ⟨hw, _, hle⟩ := getSpec_ok h
    simp only [widthB, Bool.and_eq_true, decide_eq_true_eq] at hw
    obtain ⟨q, rfl⟩ : ∃ q : Nat, k = q := ⟨k.toNat, by omega⟩
    refine c_skip (x_then (c_seq (c_region ?_)))
    iterate 2 refine yO rfl rfl rfl rfl ?_
    refine o_step rfl rfl rfl rfl rfl (s_bs tok 1 rfl rfl rfl) (fun _ _ => ?_)
    refine o_step rfl rfl rfl rfl rfl (s_app tok ([(getSpec L a q).1].flatMap encI64) rfl (fun E w hm => ownsRow_src (hm.row 1 _ _ _ _ rfl)) (fun _ _ _ => int_ones _) (by dsimp only; omega)) (fun _ _ => ?_)
    refine yO rfl rfl rfl rfl ?_
    refine o_end [2, 9, 11, 12, 13] rfl ?_
    refine x_then (c_region ?_)
    iterate 3 refine yO rfl rfl rfl rfl ?_
    rw [← List.flatMap_append, show acc.length + 1 = (acc ++ [(getSpec L a q).1]).length by simp]
    have hlt__q___Int_ := lt_of_at h_k
    refine o_yield rfl rfl rfl (y_idx tok rfl (fun hg => hk'.sl) (fun hg => ⟨by omega, by omega⟩)) ?_
    refine o_yield rfl rfl rfl (y_lel tok (i) 0 ((q : Int)) rfl (fun hg => hk') (fun hg => h_k) rfl rfl) ?_
    iterate 2 refine yO rfl rfl rfl rfl ?_
    refine o_end [2, 9, 11, 12, 13] rfl ?_
    refine x_block (x_then (c_region ?_))
    iterate 3 refine yO rfl rfl rfl rfl ?_
    refine o_end [2, 9, 11, 12, 13] rfl ?_
    refine x_then ?_
    rw [wrapI (n := (i : Int) + 1) (by omega) (by omega), show IntKind.i64.wrap ((a : Int) + q) = ((a + q : Nat) : Int) by rw [wrapI (by omega) (by omega)]; omega]
    refine k_swap 0 2 rfl ?_
    rw [Int.toNat_natCast, restOf_add] at heq
    have hrs := restOf_size L (a + q)
    refine x_round ((i + 1, acc ++ [(getSpec L a q).1], a + q)) (⟨⟨by omega, heq, by simp [hacc], by omega⟩, by omega⟩) (by first | omega | (dsimp only; omega)) (by repeat (first | exact fN | refine fC rfl ?_)) (by repeat (first | exact oN | refine oC rfl ?_)) rfl (Vw.le.refl _)
  ·
   simp only [Xa, Xb, Xc, Xd, Xe, Xf, Xg, Xh, Xi, Xj, Xk, Xl, Xm, Xn, Xo, Xp] at h
   refine c_exit (x_then_exit (x_then_exit (x_block_hit (x_then (c_seq ?_)))))
   refine c_draw mixed (by kernel_rfl) ?_
   iterate 3 refine d_yield rfl rfl rfl (yV rfl) rfl ?_
   have hil : i = ks.length := by omega
   subst hil
   rw [List.drop_length] at heq
   refine d_yield rfl rfl rfl (y_ss tok rfl (fun hg => by simp only [Option.getD]; omega)) rfl ?_
   iterate 3 refine d_yield rfl rfl rfl (yV rfl) rfl ?_
   refine d_end [6, 7, 8] rfl ?_
   refine x_then (c_ret ?_)
   refine b_ret tok rfl ?_
   intro E w' hm _
   exact ⟨.inl ⟨acc, restOf L a, E.κ 0, by rw [hR, heq]; rfl, rfl, hm.rowFresh (Vw.le.refl _) (l := 0) rfl⟩, hm.below (Vw.le.refl _)⟩
def FVal (kind : Int) (s : ByteArray) (ks : List Int) (x : Value) (V' : Vw) : Prop :=
 (∃ l r v, fieldsR kind s ks = some (l, r) ∧ x = .tuple #[v, S r, I 0] ∧ SlOf V' encI64 1 v l) ∨ (fieldsR kind s ks = none ∧ x = .tuple #[.slice none 0 0, S ByteArray.empty, I 30])
theorem fval_of {P : Program} {f : Nat} {args : Array Value} {kind : Int} {s : ByteArray} {ks : List Int} {V : Vw} {w : World} (hV : V.le (vw w)) (h : Calls P f args w (FPost kind s ks w)) :
  Calls P f args w fun e w' => ∃ x V', e = .returned x ∧ Below w.heap.size w w' ∧ Vext w.heap.size V V' w' ∧ FVal kind s ks x V' := by
 refine h.mono ?_
 rintro e w' ⟨⟨l, r, v, h1, rfl, hown⟩ | ⟨h1, rfl⟩, hb⟩
 ·
  obtain ⟨V', hx, hsl⟩ := ownsRow_vext hV hb hown
  exact ⟨_, V', rfl, hb, hx, .inl ⟨l, r, v, h1, rfl, hsl, fun _ => rfl⟩⟩
 · exact ⟨_, V, rfl, hb, Vext.same hV hb, .inr ⟨h1, rfl⟩⟩
end Go.Proofs.YtlafboeohojcbaaGreat
