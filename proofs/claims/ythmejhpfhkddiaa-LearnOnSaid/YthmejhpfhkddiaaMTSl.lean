import Derived.Test.YthmejhpfhkddiaaMCmd2
import Derived.Test.YthmejhpfhkddiaaEng35
import Derived.Lib.SliceRun
/- Slots and holds of tables: what is looked for, and copies. -/
set_option linter.unusedVariables false
set_option linter.unusedSimpArgs false
set_option maxRecDepth 100000
namespace Go.Proofs.Ythmejhpfhkddiaa
open Go Go.Eng Go.RowKit

theorem slot_ones (l : List Slot) : ∀ u ∈ l.flatMap Slot.cells, u.oneCell' = true := by
  intro u hu
  obtain ⟨x, _, hx⟩ := List.mem_flatMap.1 hu
  simp only [Slot.cells, List.mem_cons, List.not_mem_nil, or_false] at hx
  rcases hx with rfl | rfl <;> rfl

/-- A function value that tells pr of slots, wherever V is read. -/
def TellsT (V : Vw) (fv : Value) (pr : Slot → Bool) : Prop :=
  ∀ (x : Slot) w', V.le (vw w') → CallsFn Try.prog fv [x.val] w' fun e w'' => e = .returned (.bool (pr x)) ∧ Below w'.heap.size w' w''

theorem tIndex_c (V : Vw) (fv sv : Value) (pr : Slot → Bool) (l : List Slot) (w : World) (hV : V.le (vw w)) (hs0 : SlOf V Slot.cells 2 sv l) (hn : l.length ≤ lim) (hf : TellsT V fv pr) :
    Calls Try.prog 57 #[sv, fv] w fun e w' => e = .returned (I (idxOf pr l)) ∧ Below w.heap.size w w' := by
  unfold lim at hn
  have hs := hs0.mono hV
  refine enter (E := E0) (O := []) (nl := 0) (V := vw w) [.a (.v sv), .a (.v fv)] Try.func57 rfl rfl (mem0 E0 0 w) rfl rfl ?_
  refine c_seq ?_
  refine c_region ?_
  refine o_yield rfl rfl rfl (y_val tok rfl) ?_
  refine o_end [0, 1] rfl ?_
  refine x_then ?_
  refine c_seq ?_
  refine c_seq ?_
  refine c_region ?_
  refine o_yield rfl rfl rfl (y_val tok rfl) ?_
  refine o_yield rfl rfl rfl (y_len tok rfl (fun hg => hs.sl)) ?_
  refine o_yield rfl rfl rfl (y_val tok rfl) ?_
  refine o_end [0, 1, 7, 8] rfl ?_
  refine x_then ?_
  refine c_block ?_
  refine c_loopK [0, 1, 7] [] rfl rfl (σ := Nat) (fun k => [(8, .a (.v (I k)))]) (fun k => []) (fun k => k ≤ l.length ∧ ∀ j x, j < k → l[j]? = some x → pr x = false) (fun k => l.length - k) (0) (⟨by omega, by simp⟩) (by repeat (first | exact SubF.nil | refine SubF.cons rfl ?_)) (by repeat (first | exact SubO.nil | refine SubO.cons rfl ?_)) rfl ?_
  rintro k ⟨hk, hall⟩
  refine c_seq ?_
  refine c_region ?_
  refine o_yield rfl rfl rfl (y_val tok rfl) ?_
  refine o_end [0, 1, 7, 8, 9] rfl ?_
  refine x_then ?_
  refine c_seq ?_
  refine c_cond rfl (fun h => ?_) (fun h => ?_)
  ·
    simp only [Bool.and_eq_true, Bool.or_eq_true, Bool.not_eq_true', Bool.or_eq_false_iff, Bool.and_eq_false_iff, decide_eq_true_eq, decide_eq_false_iff_not, beq_iff_eq, bne_iff_ne, Bool.not_eq_false', beq_eq_false_iff_ne, bne_eq_false_iff_eq, ne_eq, Decidable.not_not, Int.not_lt, Int.not_le] at h
    refine c_skip ?_
    refine x_then ?_
    refine c_seq ?_
    refine c_block ?_
    refine c_seq ?_
    refine c_region ?_
    refine o_yield rfl rfl rfl (y_val tok rfl) ?_
    refine o_yield rfl rfl rfl (y_val tok rfl) ?_
    refine o_end [0, 1, 5, 7, 8] rfl ?_
    refine x_then ?_
    refine c_seq ?_
    refine c_region ?_
    refine o_yield rfl rfl rfl (y_val tok rfl) ?_
    refine o_yield rfl rfl rfl (y_val tok rfl) ?_
    refine o_yield rfl rfl rfl (y_val tok rfl) ?_
    obtain ⟨x, h_x⟩ := hs.at (k := k) (by omega)
    have hlt_x := lt_of_at h_x
    refine o_yield rfl rfl rfl (y_idx tok rfl (fun hg => hs.sl) (fun hg => ⟨by omega, by omega⟩)) ?_
    refine o_yield rfl rfl rfl (y_lel tok (k) 0 (x) rfl (fun hg => hs) (fun hg => h_x) rfl rfl) ?_
    refine o_callF (.a (.v _)) rfl rfl rfl rfl rfl (fun hg E w1 hm => by exact hf x w1 (hV.trans hm.leV)) ?_
    refine o_end [0, 1, 5, 7, 8, 16] rfl ?_
    refine x_then ?_
    refine c_cond rfl (fun h => ?_) (fun h => ?_)
    ·
      refine c_seq ?_
      refine c_region ?_
      refine o_yield rfl rfl rfl (y_val tok rfl) ?_
      refine o_yield rfl rfl rfl (y_val tok rfl) ?_
      refine o_end [4] rfl ?_
      refine x_then ?_
      refine c_ret ?_
      refine x_block_ret ?_
      refine x_then_ret ?_
      refine x_then_ret ?_
      refine x_block_ret ?_
      refine x_then_ret ?_
      refine b_ret tok rfl ?_
      intro E w' hm _
      refine ⟨?_, hm.below (Vw.le.refl _)⟩
      rw [idxOf, findIdx?_at h_x h hall]; rfl
    ·
      refine c_skip ?_
      refine x_block ?_
      refine x_then ?_
      refine c_region ?_
      refine o_yield rfl rfl rfl (y_val tok rfl) ?_
      refine o_yield rfl rfl rfl (y_val tok rfl) ?_
      refine o_end [0, 1, 7, 8] rfl ?_
      refine x_then ?_
      rw [wrapI (n := (k : Int) + 1) (by omega) (by omega)]
      refine x_round (k + 1) (⟨by omega, ahead_succ h_x hall h⟩) (by first | omega | (dsimp only; omega)) (by repeat (first | exact SubF.nil | refine SubF.cons rfl ?_)) (by repeat (first | exact SubO.nil | refine SubO.cons rfl ?_)) rfl (Vw.le.refl _)
  ·
    simp only [Bool.and_eq_true, Bool.or_eq_true, Bool.not_eq_true', Bool.or_eq_false_iff, Bool.and_eq_false_iff, decide_eq_true_eq, decide_eq_false_iff_not, beq_iff_eq, bne_iff_ne, Bool.not_eq_false', beq_eq_false_iff_ne, bne_eq_false_iff_eq, ne_eq, Decidable.not_not, Int.not_lt, Int.not_le] at h
    refine c_exit ?_
    refine x_then_exit ?_
    refine x_then_exit ?_
    refine x_block_hit ?_
    refine x_then ?_
    refine c_seq ?_
    refine c_region ?_
    refine o_yield rfl rfl rfl (y_val tok rfl) ?_
    refine o_end [4] rfl ?_
    refine x_then ?_
    refine c_ret ?_
    refine b_ret tok rfl ?_
    have hge : k = l.length := by omega
    intro E w' hm _
    refine ⟨?_, hm.below (Vw.le.refl _)⟩
    rw [idxOf, findIdx?_no (hge ▸ hall)]; rfl

theorem slotFn_c (x : Slot) (key : Int) (b : Nat) (V : Vw) (hb : V.get b = some (.cells [I key].toArray 3 (0, 0))) (w : World) (hV : V.le (vw w)) :
    Calls Try.prog 87 #[x.val, .pointer (some ⟨b, 0, none⟩)] w fun e w' => e = .returned (.bool (x.key == key)) ∧ Below w.heap.size w w' := by
  refine enter (E := E0) (O := []) (nl := 0) (V := vw w) [.a (.v x.val), .a (.v (.pointer (some ⟨b, 0, none⟩)))] Try.func87 rfl rfl (mem0 E0 0 w) rfl rfl ?_
  refine c_seq ?_
  refine c_region ?_
  refine o_new tok rfl rfl rfl rfl ?_
  refine o_yield rfl rfl rfl (y_val tok rfl) ?_
  refine o_end [1, 2] rfl ?_
  refine x_then ?_
  refine c_seq ?_
  refine c_region ?_
  refine o_yield rfl rfl rfl (y_val tok rfl) ?_
  refine o_yield rfl rfl rfl (y_val tok rfl) ?_
  refine o_yield rfl rfl rfl (y_ldp (cs := [I key]) tok rfl (fun hg => hV.get _ _ hb) rfl) ?_
  refine o_yield rfl rfl rfl (y_val tok rfl) ?_
  refine o_yield rfl rfl rfl (y_val tok rfl) ?_
  refine o_end [3] rfl ?_
  refine x_then ?_
  refine c_ret ?_
  refine b_ret tok rfl ?_
  intro E w' hm _
  refine ⟨?_, hm.below (Vw.le.refl _)⟩
  rfl

/-- The place of a key's slot; -1: it has none. -/
def slotI (S : List Slot) (key : Int) : Int := if key < 1 then -1 else idxOf (fun x => x.key == key) S

theorem idxOf_cases {α : Type} (pr : α → Bool) (l : List α) : (idxOf pr l = -1 ∧ ∀ (j : Nat) (x : α), l[j]? = some x → pr x = false) ∨ ∃ (k : Nat) (x : α), idxOf pr l = k ∧ l[k]? = some x ∧ pr x = true ∧ ∀ (j : Nat) (y : α), j < k → l[j]? = some y → pr y = false := by
  rw [idxOf]
  cases hq : l.findIdx? pr with
  | none =>
    rw [List.findIdx?_eq_none_iff] at hq
    exact .inl ⟨rfl, fun j x hx => hq x (List.mem_of_getElem? hx)⟩
  | some k =>
    rw [List.findIdx?_eq_some_iff_getElem] at hq
    obtain ⟨hlt, h1, h2⟩ := hq
    refine .inr ⟨k, l[k], rfl, by simp [hlt], h1, fun j y hj hy => ?_⟩
    have := h2 j hj
    rw [List.getElem?_eq_getElem (by omega)] at hy
    cases hy
    simpa using this

theorem tSlot_c (V : Vw) (a : Option Addr) (n c : Nat) (hv qv : Value) (S : List Slot) (key : Int) (w : World) (hV : V.le (vw w)) (hs0 : SlOf V Slot.cells 2 (.slice a n c) S) (hn : S.length ≤ lim) :
    Calls Try.prog 76 #[.agg #[.slice a n c, hv, qv], I key] w fun e w' => e = .returned (.tuple #[I (max (slotI S key) 0), .bool (decide (0 ≤ slotI S key))]) ∧ Below w.heap.size w w' := by
  have hs := hs0.mono hV
  refine enter (E := E0) (O := []) (nl := 0) (V := vw w) [.a (.v (.agg #[.slice a n c, hv, qv])), .a (.v (I key))] Try.func76 rfl rfl (mem0 E0 0 w) rfl rfl ?_
  refine c_seq ?_
  refine c_region ?_
  refine o_new tok rfl rfl rfl rfl ?_
  refine o_new tok rfl rfl rfl rfl ?_
  refine o_yield rfl rfl rfl (y_val tok rfl) ?_
  refine o_yield rfl rfl rfl (y_val tok rfl) ?_
  refine o_end [2, 3] rfl ?_
  refine x_then ?_
  refine c_seq ?_
  refine c_seq ?_
  refine c_region ?_
  refine o_yield rfl rfl rfl (y_val tok rfl) ?_
  refine o_yield rfl rfl rfl (y_val tok rfl) ?_
  refine o_end [2, 3, 8] rfl ?_
  refine x_then ?_
  refine c_cond rfl (fun h => ?_) (fun h => ?_)
  ·
    simp only [Bool.and_eq_true, Bool.or_eq_true, Bool.not_eq_true', Bool.or_eq_false_iff, Bool.and_eq_false_iff, decide_eq_true_eq, decide_eq_false_iff_not, beq_iff_eq, bne_iff_ne, Bool.not_eq_false', beq_eq_false_iff_ne, bne_eq_false_iff_eq, ne_eq, Decidable.not_not, Int.not_lt, Int.not_le] at h
    refine c_seq ?_
    refine c_region ?_
    refine o_yield rfl rfl rfl (y_val tok rfl) ?_
    refine o_yield rfl rfl rfl (y_val tok rfl) ?_
    refine o_end [4, 5] rfl ?_
    refine x_then ?_
    refine c_ret ?_
    refine x_then_ret ?_
    refine b_ret tok rfl ?_
    intro E w' hm _
    refine ⟨?_, hm.below (Vw.le.refl _)⟩
    rw [slotI, if_pos h]; rfl
  ·
    simp only [Bool.and_eq_true, Bool.or_eq_true, Bool.not_eq_true', Bool.or_eq_false_iff, Bool.and_eq_false_iff, decide_eq_true_eq, decide_eq_false_iff_not, beq_iff_eq, bne_iff_ne, Bool.not_eq_false', beq_eq_false_iff_ne, bne_eq_false_iff_eq, ne_eq, Decidable.not_not, Int.not_lt, Int.not_le] at h
    refine c_skip ?_
    refine x_then ?_
    refine c_seq ?_
    refine c_region ?_
    refine o_yield rfl rfl rfl (y_val tok rfl) ?_
    refine o_yield rfl rfl rfl (y_val tok rfl) ?_
    refine o_yield rfl rfl rfl (y_val tok rfl) ?_
    refine o_call (.a (.v _)) rfl rfl fnok57 rfl rfl rfl (fun hg E w1 hm => by exact tIndex_c (vw w1) _ _ (fun x => x.key == key) S _ (Vw.le.refl _) (hs.mono hm.leV) hn (fun x w' hle => ⟨87, _, rfl, fnok87, slotFn_c x key _ (vw w1) (hm.lit 1 _ _ rfl) w' hle⟩)) ?_
    refine o_yield rfl rfl rfl (y_val tok rfl) ?_
    refine o_end [6] rfl ?_
    refine x_then ?_
    refine c_seq ?_
    refine c_region ?_
    refine o_yield rfl rfl rfl (y_val tok rfl) ?_
    refine o_yield rfl rfl rfl (y_mm rfl) ?_
    refine o_yield rfl rfl rfl (y_val tok rfl) ?_
    refine o_yield rfl rfl rfl (y_val tok rfl) ?_
    refine o_yield rfl rfl rfl (y_val tok rfl) ?_
    refine o_yield rfl rfl rfl (y_val tok rfl) ?_
    refine o_end [4, 5] rfl ?_
    refine x_then ?_
    refine c_ret ?_
    refine b_ret tok rfl ?_
    intro E w' hm _
    refine ⟨?_, hm.below (Vw.le.refl _)⟩
    rw [slotI, if_neg (by omega)]; rfl

theorem freeFn_c (x : Slot) (w : World) : Calls Try.prog 58 #[x.val] w fun e w' => e = .returned (.bool (x.key == 0)) ∧ Below w.heap.size w w' := by
  refine enter (E := E0) (O := []) (nl := 0) (V := vw w) [.a (.v x.val)] Try.func58 rfl rfl (mem0 E0 0 w) rfl rfl ?_
  refine c_seq ?_
  refine c_region ?_
  refine o_new tok rfl rfl rfl rfl ?_
  refine o_yield rfl rfl rfl (y_val tok rfl) ?_
  refine o_end [1] rfl ?_
  refine x_then ?_
  refine c_seq ?_
  refine c_region ?_
  refine o_yield rfl rfl rfl (y_val tok rfl) ?_
  refine o_yield rfl rfl rfl (y_val tok rfl) ?_
  refine o_yield rfl rfl rfl (y_val tok rfl) ?_
  refine o_yield rfl rfl rfl (y_val tok rfl) ?_
  refine o_end [2] rfl ?_
  refine x_then ?_
  refine c_ret ?_
  refine b_ret tok rfl ?_
  intro E w' hm _
  refine ⟨?_, hm.below (Vw.le.refl _)⟩
  rfl

theorem nilEqT (a : Option Addr) (n c : Nat) (w : World) {ox oy : Operand} : (do eqGuard .eql 26 ox oy (.slice a n c) (.slice none 0 0); binOp .eql 26 (.slice a n c) (.slice none 0 0) : Sem Value).run Try.prog w = .ok (.bool a.isNone) w := by
  have hg : (eqGuard .eql 26 ox oy (.slice a n c) (.slice none 0 0)).run Try.prog w = .ok () w := by simp [eqGuard]
  rw [Sem.run_bind, hg]
  simp only [Result.andThen_ok]
  exact Lib.run_eql_slice_nil w 26 67 a n c 0 0 Try.underlying26

theorem nilEqH (a : Option Addr) (n c : Nat) (w : World) {ox oy : Operand} : (do eqGuard .eql 27 ox oy (.slice a n c) (.slice none 0 0); binOp .eql 27 (.slice a n c) (.slice none 0 0) : Sem Value).run Try.prog w = .ok (.bool a.isNone) w := by
  have hg : (eqGuard .eql 27 ox oy (.slice a n c) (.slice none 0 0)).run Try.prog w = .ok () w := by simp [eqGuard]
  rw [Sem.run_bind, hg]
  simp only [Result.andThen_ok]
  exact Lib.run_eql_slice_nil w 27 92 a n c 0 0 Try.underlying27

theorem cloneT_c (V : Vw) (sv : Value) (l : List Slot) (w : World) (hV : V.le (vw w)) (hs0 : SlOf V Slot.cells 2 sv l) (hn : l.length ≤ 1048576) :
    Calls Try.prog 50 #[sv] w fun e w' => ∃ v', e = .returned v' ∧ w'.ownsRow w.heap.size 67 2 v' l.length (l.flatMap Slot.cells) ∧ Below w.heap.size w w' := by
  obtain ⟨a, n, c, rfl⟩ := sl_shape hs0.sl
  have hs := hs0.mono hV
  refine enter (E := E0) (O := []) (nl := 0) (V := vw w) [.a (.v (.slice a n c))] Try.func50 rfl rfl (mem0 E0 0 w) rfl rfl ?_
  refine c_seq ?_
  refine c_region ?_
  refine o_yield rfl rfl rfl (y_val tok rfl) ?_
  refine o_end [0] rfl ?_
  refine x_then ?_
  refine c_seq ?_
  refine c_seq ?_
  refine c_region ?_
  refine o_yield rfl rfl rfl (y_val tok rfl) ?_
  refine o_yield rfl rfl rfl (y_seq (.bool a.isNone) rfl (fun E w => nilEqT a n c w)) ?_
  refine o_end [0, 4] rfl ?_
  refine x_then ?_
  refine c_cond rfl (fun h => ?_) (fun h => ?_)
  ·
    refine c_seq ?_
    refine c_region ?_
    refine o_yield rfl rfl rfl (y_val tok rfl) ?_
    refine o_end [2] rfl ?_
    refine x_then ?_
    refine c_ret ?_
    refine x_then_ret ?_
    refine b_ret tok rfl ?_
    intro E w' hm _
    have hnil : l = [] := by
      rcases hs0.sl.2 with ⟨a', c', h1, h2⟩ | ⟨b, off, cap, cs, e, f, h1, _⟩
      · exact List.eq_nil_of_length_eq_zero h2
      · cases h1; cases h
    subst hnil
    exact ⟨_, rfl, World.ownsRow_nil w' w.heap.size _ _, hm.below (Vw.le.refl _)⟩
  ·
    refine c_skip ?_
    refine x_then ?_
    refine c_seq ?_
    refine c_region ?_
    clear h
    refine o_step rfl rfl rfl rfl rfl (s_bs tok 2 rfl rfl rfl) (fun _ _ => ?_)
    refine o_yield rfl rfl rfl (y_val tok rfl) ?_
    refine o_step rfl rfl rfl rfl rfl (s_app (l := 0) (e := 67) (sz := 2) (by_ := 16) (m := 0) (k := l.length) (x := .a (.v (.slice a n c))) (olds := []) tok (l.flatMap Slot.cells) rfl (fun E w1 hm => hs.sl.src hm.get) (fun _ _ _ => slot_ones l) (by omega)) (fun _ _ => ?_)
    refine o_yield rfl rfl rfl (y_val tok rfl) ?_
    refine o_end [2] rfl ?_
    refine x_then ?_
    refine c_ret ?_
    refine b_ret tok rfl ?_
    intro E w' hm _
    refine ⟨_, rfl, ?_, hm.below (Vw.le.refl _)⟩
    have := hm.rowFresh (Vw.le.refl _) (l := 1) rfl
    rw [Nat.zero_add, List.nil_append] at this
    exact this

theorem cloneH_c (V : Vw) (sv : Value) (l : List Hold) (w : World) (hV : V.le (vw w)) (hs0 : SlOf V Hold.cells 4 sv l) (hn : l.length ≤ 1048576) :
    Calls Try.prog 51 #[sv] w fun e w' => ∃ v', e = .returned v' ∧ w'.ownsRow w.heap.size 92 4 v' l.length (l.flatMap Hold.cells) ∧ Below w.heap.size w w' := by
  obtain ⟨a, n, c, rfl⟩ := sl_shape hs0.sl
  have hs := hs0.mono hV
  refine enter (E := E0) (O := []) (nl := 0) (V := vw w) [.a (.v (.slice a n c))] Try.func51 rfl rfl (mem0 E0 0 w) rfl rfl ?_
  refine c_seq ?_
  refine c_region ?_
  refine o_yield rfl rfl rfl (y_val tok rfl) ?_
  refine o_end [0] rfl ?_
  refine x_then ?_
  refine c_seq ?_
  refine c_seq ?_
  refine c_region ?_
  refine o_yield rfl rfl rfl (y_val tok rfl) ?_
  refine o_yield rfl rfl rfl (y_seq (.bool a.isNone) rfl (fun E w => nilEqH a n c w)) ?_
  refine o_end [0, 4] rfl ?_
  refine x_then ?_
  refine c_cond rfl (fun h => ?_) (fun h => ?_)
  ·
    refine c_seq ?_
    refine c_region ?_
    refine o_yield rfl rfl rfl (y_val tok rfl) ?_
    refine o_end [2] rfl ?_
    refine x_then ?_
    refine c_ret ?_
    refine x_then_ret ?_
    refine b_ret tok rfl ?_
    intro E w' hm _
    have hnil : l = [] := by
      rcases hs0.sl.2 with ⟨a', c', h1, h2⟩ | ⟨b, off, cap, cs, e, f, h1, _⟩
      · exact List.eq_nil_of_length_eq_zero h2
      · cases h1; cases h
    subst hnil
    exact ⟨_, rfl, World.ownsRow_nil w' w.heap.size _ _, hm.below (Vw.le.refl _)⟩
  ·
    refine c_skip ?_
    refine x_then ?_
    refine c_seq ?_
    refine c_region ?_
    clear h
    refine o_step rfl rfl rfl rfl rfl (s_bs tok 4 rfl rfl rfl) (fun _ _ => ?_)
    refine o_yield rfl rfl rfl (y_val tok rfl) ?_
    refine o_step rfl rfl rfl rfl rfl (s_app (l := 0) (e := 92) (sz := 4) (by_ := 32) (m := 0) (k := l.length) (x := .a (.v (.slice a n c))) (olds := []) tok (l.flatMap Hold.cells) rfl (fun E w1 hm => hs.sl.src hm.get) (fun _ _ _ => hold_ones l) (by omega)) (fun _ _ => ?_)
    refine o_yield rfl rfl rfl (y_val tok rfl) ?_
    refine o_end [2] rfl ?_
    refine x_then ?_
    refine c_ret ?_
    refine b_ret tok rfl ?_
    intro E w' hm _
    refine ⟨_, rfl, ?_, hm.below (Vw.le.refl _)⟩
    have := hm.rowFresh (Vw.le.refl _) (l := 1) rfl
    rw [Nat.zero_add, List.nil_append] at this
    exact this

/-! What is asked of a hold: of a key, of just a span. -/

theorem byFn_c (x : Hold) (key : Int) (b : Nat) (V : Vw) (hb : V.get b = some (.cells [I key].toArray 3 (0, 0))) (w : World) (hV : V.le (vw w)) :
    Calls Try.prog 84 #[x.val, .pointer (some ⟨b, 0, none⟩)] w fun e w' => e = .returned (.bool (x.key == key)) ∧ Below w.heap.size w w' := by
  refine enter (E := E0) (O := []) (nl := 0) (V := vw w) [.a (.v x.val), .a (.v (.pointer (some ⟨b, 0, none⟩)))] Try.func84 rfl rfl (mem0 E0 0 w) rfl rfl ?_
  refine c_seq ?_
  refine c_region ?_
  refine o_new tok rfl rfl rfl rfl ?_
  refine o_yield rfl rfl rfl (y_val tok rfl) ?_
  refine o_end [1, 2] rfl ?_
  refine x_then ?_
  refine c_seq ?_
  refine c_region ?_
  refine o_yield rfl rfl rfl (y_val tok rfl) ?_
  refine o_yield rfl rfl rfl (y_val tok rfl) ?_
  refine o_yield rfl rfl rfl (y_ldp (cs := [I key]) tok rfl (fun hg => hV.get _ _ hb) rfl) ?_
  refine o_yield rfl rfl rfl (y_val tok rfl) ?_
  refine o_yield rfl rfl rfl (y_val tok rfl) ?_
  refine o_end [3] rfl ?_
  refine x_then ?_
  refine c_ret ?_
  refine b_ret tok rfl ?_
  intro E w' hm _
  refine ⟨?_, hm.below (Vw.le.refl _)⟩
  rfl

theorem justFn_c (x : Hold) (lo hi : Int) (b : Nat) (V : Vw) (hb : V.get b = some (.cells [I lo, I hi].toArray 36 (0, 0))) (w : World) (hV : V.le (vw w)) :
    Calls Try.prog 85 #[x.val, .pointer (some ⟨b, 0, none⟩)] w fun e w' => e = .returned (.bool (x.lo == lo && x.hi == hi)) ∧ Below w.heap.size w w' := by
  refine enter (E := E0) (O := []) (nl := 0) (V := vw w) [.a (.v x.val), .a (.v (.pointer (some ⟨b, 0, none⟩)))] Try.func85 rfl rfl (mem0 E0 0 w) rfl rfl ?_
  refine c_seq ?_
  refine c_region ?_
  refine o_new tok rfl rfl rfl rfl ?_
  refine o_yield rfl rfl rfl (y_val tok rfl) ?_
  refine o_end [1, 2] rfl ?_
  refine x_then ?_
  refine c_seq ?_
  refine c_region ?_
  refine o_yield rfl rfl rfl (y_val tok rfl) ?_
  refine o_yield rfl rfl rfl (y_val tok rfl) ?_
  refine o_yield rfl rfl rfl (y_ldp (cs := [I lo, I hi]) tok rfl (fun hg => hV.get _ _ hb) rfl) ?_
  refine o_yield rfl rfl rfl (y_seq (.bool (x.lo == lo && x.hi == hi)) rfl (fun E w => spanEq x.lo x.hi lo hi w (.inl rfl))) ?_
  refine o_yield rfl rfl rfl (y_val tok rfl) ?_
  refine o_end [3] rfl ?_
  refine x_then ?_
  refine c_ret ?_
  refine b_ret tok rfl ?_
  intro E w' hm _
  refine ⟨?_, hm.below (Vw.le.refl _)⟩
  rfl

/-- A function value made where nobody writes any more, that tells pr. -/
def MkTells (pr : Hold → Bool) (v : Value) (V' : Vw) : Prop := ∃ f caps, v = .func (.func f) #[] caps ∧ Tells V' v pr

theorem mkBy_c (V : Vw) (key : Int) (w : World) (hV : V.le (vw w)) : Calls Try.prog 66 #[I key] w fun e w' => ∃ v V', e = .returned v ∧ Below w.heap.size w w' ∧ Vext w.heap.size V V' w' ∧ MkTells (fun h => h.key == key) v V' := by
  refine enter (E := E0) (O := []) (nl := 0) (V := vw w) [.a (.v (I key))] Try.func66 rfl rfl (mem0 E0 0 w) rfl rfl ?_
  refine c_seq ?_
  refine c_region ?_
  refine o_new tok rfl rfl rfl rfl ?_
  refine o_yield rfl rfl rfl (y_val tok rfl) ?_
  refine o_end [1] rfl ?_
  refine x_then ?_
  refine c_seq ?_
  refine c_region ?_
  refine o_yield rfl rfl rfl (y_val tok rfl) ?_
  refine o_yield rfl rfl rfl (y_val tok rfl) ?_
  refine o_end [2] rfl ?_
  refine x_then ?_
  refine c_ret ?_
  refine b_ret tok rfl ?_
  intro E w' hm _
  obtain ⟨h1, h2⟩ := lit_vext hV hm (l := 0) rfl
  exact ⟨_, _, rfl, hm.below (Vw.le.refl _), h1, _, _, rfl, fun x w hle => ⟨84, _, rfl, fnok84, byFn_c x key _ _ h2 w hle⟩⟩

theorem mkJust_c (V : Vw) (lo hi : Int) (w : World) (hV : V.le (vw w)) : Calls Try.prog 67 #[.agg #[I lo, I hi]] w fun e w' => ∃ v V', e = .returned v ∧ Below w.heap.size w w' ∧ Vext w.heap.size V V' w' ∧ MkTells (fun h => h.lo == lo && h.hi == hi) v V' := by
  refine enter (E := E0) (O := []) (nl := 0) (V := vw w) [.a (.v (.agg #[I lo, I hi]))] Try.func67 rfl rfl (mem0 E0 0 w) rfl rfl ?_
  refine c_seq ?_
  refine c_region ?_
  refine o_new tok rfl rfl rfl rfl ?_
  refine o_yield rfl rfl rfl (y_val tok rfl) ?_
  refine o_end [1] rfl ?_
  refine x_then ?_
  refine c_seq ?_
  refine c_region ?_
  refine o_yield rfl rfl rfl (y_val tok rfl) ?_
  refine o_yield rfl rfl rfl (y_val tok rfl) ?_
  refine o_end [2] rfl ?_
  refine x_then ?_
  refine c_ret ?_
  refine b_ret tok rfl ?_
  intro E w' hm _
  obtain ⟨h1, h2⟩ := lit_vext hV hm (l := 0) rfl
  exact ⟨_, _, rfl, hm.below (Vw.le.refl _), h1, _, _, rfl, fun x w hle => ⟨85, _, rfl, fnok85, justFn_c x lo hi _ _ h2 w hle⟩⟩

/-! Conditions: a row of one. -/

abbrev encF (v : Value) : List Value := [v]

theorem condFn_c (V : Vw) (x : Hold) (f : Nat) (caps : Array Value) (pr : Hold → Bool) (b : Nat) (hb : V.get b = some (.cells x.cells.toArray 92 (0, 0))) (hf : Tells V (.func (.func f) #[] caps) pr) (w : World) (hV : V.le (vw w)) :
    Calls Try.prog 91 #[.func (.func f) #[] caps, .pointer (some ⟨b, 0, none⟩)] w fun e w' => e = .returned (.bool (!pr x)) ∧ Below w.heap.size w w' := by
  refine enter (E := E0) (O := []) (nl := 0) (V := vw w) [.a (.v (.func (.func f) #[] caps)), .a (.v (.pointer (some ⟨b, 0, none⟩)))] Try.func91 rfl rfl (mem0 E0 0 w) rfl rfl ?_
  refine c_seq ?_
  refine c_region ?_
  refine o_yield rfl rfl rfl (y_val tok rfl) ?_
  refine o_end [0, 1] rfl ?_
  refine x_then ?_
  refine c_seq ?_
  refine c_region ?_
  refine o_yield rfl rfl rfl (y_val tok rfl) ?_
  refine o_yield rfl rfl rfl (y_ldp (cs := x.cells) tok rfl (fun hg => hV.get _ _ hb) rfl) ?_
  refine o_callF (.a (.v _)) rfl rfl rfl rfl rfl (fun hg E w1 hm => by exact hf x w1 (hV.trans hm.leV)) ?_
  refine o_yield rfl rfl rfl (y_val tok rfl) ?_
  refine o_yield rfl rfl rfl (y_val tok rfl) ?_
  refine o_end [3] rfl ?_
  refine x_then ?_
  refine c_ret ?_
  refine b_ret tok rfl ?_
  intro E w' hm _
  refine ⟨?_, hm.below (Vw.le.refl _)⟩
  rfl

theorem condIdx_c (V : Vw) (gv sv fv : Value) (r : Bool) (w : World) (hV : V.le (vw w)) (hs0 : SlOf V encF 1 sv [fv]) (hgv : ∀ w', V.le (vw w') → CallsFn Try.prog gv [fv] w' fun e w'' => e = .returned (.bool r) ∧ Below w'.heap.size w' w'') :
    Calls Try.prog 98 #[sv, gv] w fun e w' => e = .returned (I (if r = true then 0 else -1)) ∧ Below w.heap.size w w' := by
  have hs := hs0.mono hV
  refine enter (E := E0) (O := []) (nl := 0) (V := vw w) [.a (.v sv), .a (.v gv)] Try.func98 rfl rfl (mem0 E0 0 w) rfl rfl ?_
  refine c_seq ?_
  refine c_region ?_
  refine o_yield rfl rfl rfl (y_val tok rfl) ?_
  refine o_end [0, 1] rfl ?_
  refine x_then ?_
  refine c_seq ?_
  refine c_seq ?_
  refine c_region ?_
  refine o_yield rfl rfl rfl (y_val tok rfl) ?_
  refine o_yield rfl rfl rfl (y_len tok rfl (fun hg => hs.sl)) ?_
  refine o_yield rfl rfl rfl (y_val tok rfl) ?_
  refine o_end [0, 1, 7, 8] rfl ?_
  refine x_then ?_
  refine c_block ?_
  refine c_loopK [0, 1, 7] [] rfl rfl (σ := Nat) (fun k => [(8, .a (.v (I k)))]) (fun k => []) (fun k => k ≤ 1 ∧ (k = 1 → r = false)) (fun k => 1 - k) (0) (⟨by omega, by omega⟩) (by repeat (first | exact SubF.nil | refine SubF.cons rfl ?_)) (by repeat (first | exact SubO.nil | refine SubO.cons rfl ?_)) rfl ?_
  rintro k ⟨hk, hall⟩
  refine c_seq ?_
  refine c_region ?_
  refine o_yield rfl rfl rfl (y_val tok rfl) ?_
  refine o_end [0, 1, 7, 8, 9] rfl ?_
  refine x_then ?_
  refine c_seq ?_
  refine c_cond rfl (fun h => ?_) (fun h => ?_)
  ·
    simp only [Bool.and_eq_true, Bool.or_eq_true, Bool.not_eq_true', Bool.or_eq_false_iff, Bool.and_eq_false_iff, decide_eq_true_eq, decide_eq_false_iff_not, beq_iff_eq, bne_iff_ne, Bool.not_eq_false', beq_eq_false_iff_ne, bne_eq_false_iff_eq, ne_eq, Decidable.not_not, Int.not_lt, Int.not_le] at h
    refine c_skip ?_
    refine x_then ?_
    refine c_seq ?_
    refine c_block ?_
    refine c_seq ?_
    refine c_region ?_
    refine o_yield rfl rfl rfl (y_val tok rfl) ?_
    refine o_yield rfl rfl rfl (y_val tok rfl) ?_
    refine o_end [0, 1, 5, 7, 8] rfl ?_
    refine x_then ?_
    refine c_seq ?_
    refine c_region ?_
    refine o_yield rfl rfl rfl (y_val tok rfl) ?_
    refine o_yield rfl rfl rfl (y_val tok rfl) ?_
    refine o_yield rfl rfl rfl (y_val tok rfl) ?_
    have hk0 : k = 0 := by simp at h; omega
    subst hk0
    have h_x : ([fv] : List Value)[0]? = some fv := rfl
    have hlt_fv := lt_of_at h_x
    refine o_yield rfl rfl rfl (y_idx tok rfl (fun hg => hs.sl) (fun hg => ⟨by omega, by omega⟩)) ?_
    refine o_yield rfl rfl rfl (y_lel tok (0) 0 (fv) rfl (fun hg => hs) (fun hg => h_x) rfl rfl) ?_
    refine o_callF (.a (.v _)) rfl rfl rfl rfl rfl (fun hg E w1 hm => by exact hgv w1 (hV.trans hm.leV)) ?_
    refine o_end [0, 1, 5, 7, 8, 16] rfl ?_
    refine x_then ?_
    refine c_cond rfl (fun h => ?_) (fun h => ?_)
    ·
      refine c_seq ?_
      refine c_region ?_
      refine o_yield rfl rfl rfl (y_val tok rfl) ?_
      refine o_yield rfl rfl rfl (y_val tok rfl) ?_
      refine o_end [4] rfl ?_
      refine x_then ?_
      refine c_ret ?_
      refine x_block_ret ?_
      refine x_then_ret ?_
      refine x_then_ret ?_
      refine x_block_ret ?_
      refine x_then_ret ?_
      refine b_ret tok rfl ?_
      intro E w' hm _
      refine ⟨?_, hm.below (Vw.le.refl _)⟩
      rw [if_pos h]; rfl
    ·
      refine c_skip ?_
      refine x_block ?_
      refine x_then ?_
      refine c_region ?_
      refine o_yield rfl rfl rfl (y_val tok rfl) ?_
      refine o_yield rfl rfl rfl (y_val tok rfl) ?_
      refine o_end [0, 1, 7, 8] rfl ?_
      refine x_then ?_
      refine x_round (1) (⟨by omega, fun _ => h⟩) (by first | omega | (dsimp only; omega)) (by repeat (first | exact SubF.nil | refine SubF.cons rfl ?_)) (by repeat (first | exact SubO.nil | refine SubO.cons rfl ?_)) rfl (Vw.le.refl _)
  ·
    simp only [Bool.and_eq_true, Bool.or_eq_true, Bool.not_eq_true', Bool.or_eq_false_iff, Bool.and_eq_false_iff, decide_eq_true_eq, decide_eq_false_iff_not, beq_iff_eq, bne_iff_ne, Bool.not_eq_false', beq_eq_false_iff_ne, bne_eq_false_iff_eq, ne_eq, Decidable.not_not, Int.not_lt, Int.not_le] at h
    refine c_exit ?_
    refine x_then_exit ?_
    refine x_then_exit ?_
    refine x_block_hit ?_
    refine x_then ?_
    refine c_seq ?_
    refine c_region ?_
    refine o_yield rfl rfl rfl (y_val tok rfl) ?_
    refine o_end [4] rfl ?_
    refine x_then ?_
    refine c_ret ?_
    refine b_ret tok rfl ?_
    have hk1 : k = 1 := by simp at h; omega
    intro E w' hm _
    refine ⟨?_, hm.below (Vw.le.refl _)⟩
    rw [if_neg (by simp [hall hk1])]; rfl

theorem condHas_c (V : Vw) (gv sv fv : Value) (r : Bool) (w : World) (hV : V.le (vw w)) (hs0 : SlOf V encF 1 sv [fv]) (hgv : ∀ w', V.le (vw w') → CallsFn Try.prog gv [fv] w' fun e w'' => e = .returned (.bool r) ∧ Below w'.heap.size w' w'') :
    Calls Try.prog 90 #[sv, gv] w fun e w' => e = .returned (.bool r) ∧ Below w.heap.size w w' := by
  refine enter (E := E0) (O := []) (nl := 0) (V := vw w) [.a (.v sv), .a (.v gv)] Try.func90 rfl rfl (mem0 E0 0 w) rfl rfl ?_
  refine c_seq ?_
  refine c_region ?_
  refine o_yield rfl rfl rfl (y_val tok rfl) ?_
  refine o_end [0, 1] rfl ?_
  refine x_then ?_
  refine c_seq ?_
  refine c_region ?_
  refine o_yield rfl rfl rfl (y_val tok rfl) ?_
  refine o_yield rfl rfl rfl (y_val tok rfl) ?_
  refine o_call (.a (.v _)) rfl rfl fnok98 rfl rfl rfl (fun hg E w1 hm => by exact condIdx_c V gv sv fv r _ (hV.trans hm.leV) hs0 hgv) ?_
  refine o_yield rfl rfl rfl (y_val tok rfl) ?_
  refine o_yield rfl rfl rfl (y_val tok rfl) ?_
  refine o_end [4] rfl ?_
  refine x_then ?_
  refine c_ret ?_
  refine b_ret tok rfl ?_
  intro E w' hm _
  refine ⟨?_, hm.below (Vw.le.refl _)⟩
  cases r <;> rfl

theorem condAll_c (V : Vw) (x : Hold) (sv : Value) (f : Nat) (caps : Array Value) (pr : Hold → Bool) (b : Nat) (hb : V.get b = some (.cells [sv].toArray 159 (0, 0))) (hs : SlOf V encF 1 sv [.func (.func f) #[] caps]) (hf : Tells V (.func (.func f) #[] caps) pr) (w : World) (hV : V.le (vw w)) :
    Calls Try.prog 89 #[x.val, .pointer (some ⟨b, 0, none⟩)] w fun e w' => e = .returned (.bool (pr x)) ∧ Below w.heap.size w w' := by
  obtain ⟨sa, sn, sc, rfl⟩ := sl_shape hs.sl
  refine enter (E := E0) (O := []) (nl := 0) (V := vw w) [.a (.v x.val), .a (.v (.pointer (some ⟨b, 0, none⟩)))] Try.func89 rfl rfl (mem0 E0 0 w) rfl rfl ?_
  refine c_seq ?_
  refine c_region ?_
  refine o_new tok rfl rfl rfl rfl ?_
  refine o_yield rfl rfl rfl (y_val tok rfl) ?_
  refine o_end [1, 2] rfl ?_
  refine x_then ?_
  refine c_seq ?_
  refine c_region ?_
  refine o_yield rfl rfl rfl (y_ldp (cs := [.slice sa sn sc]) tok rfl (fun hg => hV.get _ _ hb) rfl) ?_
  refine o_yield rfl rfl rfl (y_val tok rfl) ?_
  refine o_call (.a (.v _)) rfl rfl fnok90 rfl rfl rfl (fun hg E w1 hm => by exact condHas_c (vw w1) _ _ _ (!pr x) _ (Vw.le.refl _) (hs.mono (hV.trans hm.leV)) (fun w' hle => ⟨91, _, rfl, fnok91, condFn_c (vw w1) x f caps pr _ (hm.lit 0 _ _ rfl) (fun y w2 h2 => hf y w2 ((hV.trans hm.leV).trans h2)) w' hle⟩)) ?_
  refine o_yield rfl rfl rfl (y_val tok rfl) ?_
  refine o_yield rfl rfl rfl (y_val tok rfl) ?_
  refine o_end [3] rfl ?_
  refine x_then ?_
  refine c_ret ?_
  refine b_ret tok rfl ?_
  intro E w' hm _
  refine ⟨?_, hm.below (Vw.le.refl _)⟩
  cases pr x <;> rfl
end Go.Proofs.Ythmejhpfhkddiaa

/- Holds taken out of a row of one's own. -/
set_option linter.unusedVariables false
set_option linter.unusedSimpArgs false
set_option maxRecDepth 100000
namespace Go.Proofs.Ythmejhpfhkddiaa
open Go Go.Eng Go.RowKit

theorem sliceV_own {w : World} {b e sz n : Nat} {v : Value} {xs : List Value} (h : w.ownsRow b e sz v n xs) (i : Nat) : (sliceV v 0 i sz).ownBlock = v.ownBlock := by
  rcases h.2 with ⟨rfl, rfl⟩ | ⟨g, cap, cur, rfl, _⟩
  · rfl
  · simp only [sliceV]
    by_cases hc : cap = 0 <;> simp [hc, Addr.add, Value.ownBlock]

/-- Whatever a row came to, in a call that was handed one row: where it stands. -/
theorem rowBack {E' : Env} {O' : Go.Eng.Own} {nl' : Nat} {V0 V' : Vw} {w w' : World} {v : Value} (hm : Mem E' O' nl' V' w') (hle : V0.le V') (h0 : ∀ k o, w.heap[k]? = some o → v.ownBlock ≠ some k → V0.get k = some o) {l e sz n : Nat} {xs : List Value} (hl : lk O' l = some (.row e sz n xs)) :
    (E'.κ l).ownBlock = v.ownBlock ∨ ∀ k, (E'.κ l).ownBlock = some k → w.heap.size ≤ k := by
  cases hv : (E'.κ l).ownBlock with
  | none => exact .inr fun k h => by cases h
  | some k =>
    by_cases hk : v.ownBlock = some k
    · exact .inl hk.symm
    · refine .inr fun k' h => ?_
      cases h
      rcases Nat.lt_or_ge k w.heap.size with hlt | hge
      · have h1 := hle.get _ _ (h0 k w.heap[k] (by simp [hlt]) hk)
        have h2 := hm.off l _ k hl (by simpa [blk] using hv)
        rw [h1] at h2
        cases h2
      · exact hge

theorem delO_get {w : World} {v : Value} : ∀ k o, w.heap[k]? = some o → v.ownBlock ≠ some k → ((vw w).delO v.ownBlock).get k = some o := fun k o hk h => by
  cases hv : v.ownBlock with
  | none => exact hk
  | some b =>
    simp only [Vw.delO, Vw.del, vw]
    rw [if_neg (fun e => h (by rw [hv, e]))]
    exact hk

theorem delO_os {w : World} {v : Value} : ((vw w).delO v.ownBlock).os = w.os ∧ ((vw w).delO v.ownBlock).tape = w.tape ∧ ((vw w).delO v.ownBlock).output = w.output := by
  cases v.ownBlock <;> exact ⟨rfl, rfl, rfl⟩

theorem grown_of {S : Nat → Prop} {w w' : World} {r : Option Nat} (h : Go.Eng.Touch S w w') (hs : ∀ k, S k → r = some k) : w.grownBy w' r :=
  ⟨h.os, h.tape, h.output, h.size, fun k hk hr => h.block k hk (fun hS => hr (hs k hS).symm)⟩

theorem filt_init {pr : Hold → Bool} {l : List Hold} {k : Nat} {x : Hold} (hx : l[k]? = some x) (hp : pr x = true) (h : ∀ (j : Nat) (y : Hold), j < k → l[j]? = some y → pr y = false) : l.take k = (l.take (k + 1)).filter (fun h => !pr h) := by
  rw [take_succ_at' hx, List.filter_append, List.filter_eq_self.2]
  · simp [hp]
  · intro y hy
    obtain ⟨j, hj⟩ := List.mem_iff_getElem?.1 hy
    rw [List.getElem?_take] at hj
    split at hj
    · rw [h j y (by assumption) hj]; rfl
    · cases hj

theorem hold_flat (l : List Hold) : (l.flatMap Hold.cells).length = l.length * 4 := by
  induction l with
  | nil => rfl
  | cons a r ih => rw [List.flatMap_cons, List.length_append, ih, List.length_cons]; simp [Hold.cells]; omega

theorem hold_zero : ∀ u ∈ [I 0, I 0, I 0, I8 0], u.oneCell' = true := by
  intro u hu
  simp only [List.mem_cons, List.not_mem_nil, or_false] at hu
  rcases hu with rfl | rfl | rfl | rfl <;> rfl

theorem delFunc_c (v fv : Value) (pr : Hold → Bool) (l : List Hold) (w : World) (hr : w.ownsRow 0 92 4 v l.length (l.flatMap Hold.cells)) (hn : l.length ≤ 1000000) (hf0 : Tells ((vw w).delO v.ownBlock) fv pr) :
    Calls Try.prog 88 #[v, fv] w fun e w' => ∃ v', e = .returned v' ∧ w'.ownsRow 0 92 4 v' (l.filter fun h => !pr h).length ((l.filter fun h => !pr h).flatMap Hold.cells) ∧ w.grownBy w' v.ownBlock ∧
      (v'.ownBlock = v.ownBlock ∨ ∀ k, v'.ownBlock = some k → w.heap.size ≤ k) := by
  have hV : ∀ k, v.ownBlock = some k → ((vw w).get k).isSome = true := fun k h => by
    have := (hr.lt k h).2
    simp [vw, this]
  have hm1 := ((mem0 E0 0 w).addRow hr hV).addSize
  have h0 := delO_get (w := w) (v := v)
  have hos := delO_os (w := w) (v := v)
  have hf := hf0
  clear hf0
  generalize (vw w).delO v.ownBlock = V0 at *
  obtain ⟨E, hE⟩ : ∃ E, E = E0.setκ 0 v := ⟨_, rfl⟩
  have hvE : E.κ 0 = v := by rw [hE]; simp [Env.setκ]
  rw [← hE] at hm1
  clear hE hV hr
  subst hvE
  refine enter [.a (.row 0), .a (.v fv)] Try.func88 rfl rfl (hm1) rfl rfl ?_
  refine c_seq ?_
  refine c_region ?_
  refine o_yield rfl rfl rfl (y_val tok rfl) ?_
  refine o_end [0, 1] rfl ?_
  refine x_then ?_
  refine c_seq ?_
  refine c_region ?_
  refine o_yield rfl rfl rfl (y_val tok rfl) ?_
  refine o_yield rfl rfl rfl (y_val tok rfl) ?_
  refine o_call (.a (.v _)) rfl rfl fnok64 rfl rfl rfl (fun hg E w1 hm => by exact spIndexFunc_c (vw w1) fv _ pr l _ (Vw.le.refl _) (hm.rowOf 0 rfl (fun _ => rfl)) (by unfold lim; omega) (fun x w' hle => hf x w' (hm.leV.trans hle))) ?_
  refine o_yield rfl rfl rfl (y_val tok rfl) ?_
  refine o_end [0, 1, 5] rfl ?_
  refine x_then ?_
  refine c_seq ?_
  refine c_seq ?_
  refine c_region ?_
  refine o_yield rfl rfl rfl (y_val tok rfl) ?_
  refine o_yield rfl rfl rfl (y_val tok rfl) ?_
  refine o_end [0, 1, 5, 12] rfl ?_
  refine x_then ?_
  refine c_cond rfl (fun h => ?_) (fun h => ?_)
  ·
    refine c_seq ?_
    refine c_region ?_
    refine o_yield rfl rfl rfl (y_val tok rfl) ?_
    refine o_yield rfl rfl rfl (y_val tok rfl) ?_
    refine o_end [4] rfl ?_
    refine x_then ?_
    refine c_ret ?_
    refine x_then_ret ?_
    refine b_ret tok rfl ?_
    have hall : ∀ (j : Nat) (y : Hold), l[j]? = some y → pr y = false := by
      rcases idxOf_cases pr l with ⟨_, hall⟩ | ⟨k, _, hi, _⟩
      · exact hall
      · rw [hi] at h; simp at h
    have hfl : l.filter (fun h => !pr h) = l := List.filter_eq_self.2 fun y hy => by
      obtain ⟨j, hj⟩ := List.mem_iff_getElem?.1 hy
      rw [hall j y hj]; rfl
    intro E' w' hm _
    refine ⟨E'.κ 0, rfl, by rw [hfl]; exact hm.row 0 _ _ _ _ rfl, grown_of (hm.touch (S := fun k => (E.κ 0).ownBlock = some k) (Vw.le.refl _) h0 hos (hm.big 1 _ rfl)) (fun k h => h), rowBack hm (Vw.le.refl _) h0 (l := 0) rfl⟩
  ·
    rcases idxOf_cases pr l with ⟨hi, _⟩ | ⟨k, x0, hi, hx0, hp0, hall⟩
    · exfalso
      rw [hi] at h; simp at h
    · rw [hi]
      have hk := lt_of_at hx0
      clear h
      refine c_skip ?_
      refine x_then ?_
      refine c_seq ?_
      refine c_seq ?_
      refine c_region ?_
      refine o_yield rfl rfl rfl (y_val tok rfl) ?_
      refine o_yield rfl rfl rfl (y_val tok rfl) ?_
      refine o_yield rfl rfl rfl (y_val tok rfl) ?_
      refine o_end [0, 1, 5, 6] rfl ?_
      refine x_then ?_
      refine c_block ?_
      rw [wrapI (n := (k : Int) + 1) (by omega) (by omega), show (k : Int) + 1 = ((k + 1 : Nat) : Int) by omega]
      refine c_loopK [0, 1] [0] rfl rfl (σ := Nat × Nat × List Hold) (fun (i, j, L) => [(5, .a (.v (I i))), (6, .a (.v (I j)))]) (fun (i, j, L) => [(0, .row 92 4 l.length (L.flatMap Hold.cells))]) (fun (i, j, L) => j ≤ l.length ∧ i < j ∧ L.length = l.length ∧ L.take i = (l.take j).filter (fun h => !pr h) ∧ L.drop j = l.drop j) (fun (i, j, L) => l.length - j) ((k, k + 1, l)) (⟨by omega, by omega, rfl, filt_init hx0 hp0 hall, rfl⟩) (by repeat (first | exact SubF.nil | refine SubF.cons rfl ?_)) (by repeat (first | exact SubO.nil | refine SubO.cons rfl ?_)) rfl ?_
      rintro ⟨i, j, L⟩ ⟨hj, hij, hL, htk, hdr⟩
      dsimp only at hj hij hL htk hdr ⊢
      refine c_seq ?_
      refine c_seq ?_
      refine c_region ?_
      refine o_yield rfl rfl rfl (y_val tok rfl) ?_
      refine o_yield rfl rfl rfl (y_val tok rfl) ?_
      refine o_yield rfl rfl rfl (y_own (s := .a (.v (I l.length))) 0 rfl rfl (fun v V' hv => y_len tok rfl (fun hg => hv))) ?_
      refine o_yield rfl rfl rfl (y_val tok rfl) ?_
      refine o_end [0, 1, 5, 6, 19] rfl ?_
      refine x_then ?_
      refine c_cond rfl (fun h => ?_) (fun h => ?_)
      ·
        simp only [Bool.and_eq_true, Bool.or_eq_true, Bool.not_eq_true', Bool.or_eq_false_iff, Bool.and_eq_false_iff, decide_eq_true_eq, decide_eq_false_iff_not, beq_iff_eq, bne_iff_ne, Bool.not_eq_false', beq_eq_false_iff_ne, bne_eq_false_iff_eq, ne_eq, Decidable.not_not, Int.not_lt, Int.not_le] at h
        refine c_skip ?_
        refine x_then ?_
        refine c_seq ?_
        refine c_block ?_
        refine c_seq ?_
        refine c_region ?_
        refine o_yield rfl rfl rfl (y_val tok rfl) ?_
        refine o_yield rfl rfl rfl (y_val tok rfl) ?_
        obtain ⟨x, hx⟩ : ∃ x, l[j]? = some x := ⟨_, List.getElem?_eq_getElem (by omega)⟩
        have hxL : L[j]? = some x := by
          have := congrArg (fun q : List Hold => q[0]?) hdr
          simp only [List.getElem?_drop, Nat.add_zero] at this
          rw [this, hx]
        have hwj : IntKind.i64.wrap ((j : Int) + 1) = ((j + 1 : Nat) : Int) := wrapI (by omega) (by omega)
        have hwi : IntKind.i64.wrap ((i : Int) + 1) = ((i + 1 : Nat) : Int) := wrapI (by omega) (by omega)
        have hdr2 : L.drop (j + 1) = l.drop (j + 1) := by
          have := congrArg List.tail hdr
          rwa [List.tail_drop, List.tail_drop] at this
        have hft : (l.take (j + 1)).filter (fun h => !pr h) = (l.take j).filter (fun h => !pr h) ++ (if pr x = true then [] else [x]) := by
          rw [take_succ_at' hx, List.filter_append]
          cases hq : pr x <;> simp [hq]
        refine o_yield rfl rfl rfl (y_own (s := .a (.rel 0 (j * 4))) 0 rfl rfl (fun v V' hv => y_idxK tok (j * 4) rfl (by simp) (fun hg => hv) (fun hg => by omega))) ?_
        refine o_yield rfl rfl rfl (y_own (s := .agg (x.cells.map .v)) 0 rfl rfl (fun v V' hv => y_lel (enc := Hold.cells) (l := L) tok j 0 x rfl (fun hg => ⟨by rw [hL]; exact hv, fun _ => rfl⟩) (fun hg => hxL) rfl rfl)) ?_
        refine o_new tok rfl rfl rfl rfl ?_
        refine o_store tok rfl rfl rfl (by first | exact ⟨trivial, trivial⟩ | (repeat' first | exact trivial | exact rfl | apply And.intro); done | simp [onesP, oneP, lk, Value.oneCell']) ?_
        refine o_end [0, 1, 5, 6, 7] rfl ?_
        refine x_then ?_
        refine c_seq ?_
        refine c_region ?_
        refine o_yield rfl rfl rfl (y_val tok rfl) ?_
        refine o_yield rfl rfl rfl (y_val tok rfl) ?_
        refine o_callF (.a (.v _)) rfl rfl rfl rfl rfl (fun hg E w1 hm => by exact hf x w1 hm.leV) ?_
        refine o_yield rfl rfl rfl (y_val tok rfl) ?_
        refine o_end [0, 1, 5, 6, 7, 29] rfl ?_
        refine x_then ?_
        refine c_cond rfl (fun h => ?_) (fun h => ?_)
        ·
          refine c_seq ?_
          refine c_region ?_
          refine o_yield rfl rfl rfl (y_val tok rfl) ?_
          refine o_yield rfl rfl rfl (y_val tok rfl) ?_
          refine o_yield rfl rfl rfl (y_val tok rfl) ?_
          have hpx : pr x = false := by simpa using h
          rw [hpx, if_neg (by simp)] at hft
          refine o_yield rfl rfl rfl (y_own (s := .a (.rel 0 (i * 4))) 0 rfl rfl (fun v V' hv => y_idxK tok (i * 4) rfl (by simp) (fun hg => hv) (fun hg => by omega))) ?_
          refine o_stepN rfl rfl rfl rfl (s_rst tok rfl rfl (by simpa using hold_ones [x]) (by show i * 4 + 4 ≤ _; omega) (by omega)) (fun _ _ => ?_)
          refine o_end [0, 1, 5, 6] rfl ?_
          refine x_then ?_
          refine c_region ?_
          refine o_yield rfl rfl rfl (y_val tok rfl) ?_
          refine o_yield rfl rfl rfl (y_val tok rfl) ?_
          refine o_yield rfl rfl rfl (y_val tok rfl) ?_
          refine o_end [0, 1, 5, 6] rfl ?_
          refine x_block ?_
          refine x_then ?_
          refine c_region ?_
          refine o_yield rfl rfl rfl (y_val tok rfl) ?_
          refine o_yield rfl rfl rfl (y_val tok rfl) ?_
          refine o_yield rfl rfl rfl (y_val tok rfl) ?_
          refine o_end [0, 1, 5, 6] rfl ?_
          refine x_then ?_
          have hset := overL_set (enc := Hold.cells) (sz := 4) (fun _ => rfl) L i x (by omega)
          rw [show overL (i * 4) _ _ = _ from hset, hwi, hwj]
          refine x_round ((i + 1, j + 1, L.set i x)) (⟨by dsimp only; omega, by dsimp only; omega, by dsimp only; rw [List.length_set, hL], by dsimp only; rw [hft, ← htk, List.take_add_one, List.take_set_of_le (Nat.le_refl _), List.getElem?_set_self (by omega)]; rfl, by dsimp only; rw [List.drop_set_of_lt (by omega), hdr2]⟩) (by first | omega | (dsimp only; omega)) (by repeat (first | exact SubF.nil | refine SubF.cons rfl ?_)) (by repeat (first | exact SubO.nil | refine SubO.cons rfl ?_)) rfl (Vw.le.refl _)
        ·
          refine c_skip ?_
          refine x_block ?_
          refine x_then ?_
          refine c_region ?_
          refine o_yield rfl rfl rfl (y_val tok rfl) ?_
          refine o_yield rfl rfl rfl (y_val tok rfl) ?_
          refine o_yield rfl rfl rfl (y_val tok rfl) ?_
          refine o_end [0, 1, 5, 6] rfl ?_
          refine x_then ?_
          have hpx : pr x = true := by simpa using h
          rw [hpx, if_pos rfl, List.append_nil] at hft
          rw [hwj]
          refine x_round ((i, j + 1, L)) (⟨by dsimp only; omega, by dsimp only; omega, hL, by dsimp only; rw [hft, ← htk], hdr2⟩) (by first | omega | (dsimp only; omega)) (by repeat (first | exact SubF.nil | refine SubF.cons rfl ?_)) (by repeat (first | exact SubO.nil | refine SubO.cons rfl ?_)) rfl (Vw.le.refl _)
      ·
        simp only [Bool.and_eq_true, Bool.or_eq_true, Bool.not_eq_true', Bool.or_eq_false_iff, Bool.and_eq_false_iff, decide_eq_true_eq, decide_eq_false_iff_not, beq_iff_eq, bne_iff_ne, Bool.not_eq_false', beq_eq_false_iff_ne, bne_eq_false_iff_eq, ne_eq, Decidable.not_not, Int.not_lt, Int.not_le] at h
        have hjl : j = l.length := by omega
        subst hjl
        rw [List.take_length] at htk
        clear h
        refine c_exit ?_
        refine x_then_exit ?_
        refine x_then_exit ?_
        refine x_block_hit ?_
        refine x_then ?_
        refine c_seq ?_
        refine k_plainS [0, 5] [0, 1] rfl (by repeat (first | exact SubF.nil | refine SubF.cons rfl ?_)) rfl rfl (fun Ea V1 hle1 hlit => ?_)
        clear hlit
        refine c_region ?_
        refine o_yield rfl rfl rfl (y_val tok rfl) ?_
        refine o_yield rfl rfl rfl (y_val tok rfl) ?_
        refine o_yield rfl rfl rfl (y_ownKs 0 3 _ (.a (.v (sliceV (Ea.κ 0) ((i : Int)).toNat ((l.length : Int)).toNat 4))) rfl rfl rfl (fun V' hv => y_sl (lo := some (i : Int)) (hi := none) tok rfl (fun hg => hv) (fun hg => by dsimp only [Option.getD]; omega))) ?_
        rw [Int.toNat_natCast, Int.toNat_natCast]
        refine o_stepN rfl rfl rfl rfl (s_clearP (t := 27) (l := 0) (q := 3) (lo := i) (m := l.length) tok rfl rfl rfl rfl hold_zero rfl rfl (by omega)) (fun zs hz => ?_)
        refine o_end [0, 5] rfl ?_
        refine x_then ?_
        refine c_seq ?_
        refine c_region ?_
        refine o_yield rfl rfl rfl (y_val tok rfl) ?_
        refine o_yield rfl rfl rfl (y_val tok rfl) ?_
        refine o_yield rfl rfl rfl (y_ownKs 0 3 _ (.a (.v (sliceV (Ea.κ 0) (0 : Int).toNat ((i : Int)).toNat 4))) rfl rfl rfl (fun V' hv => y_sl (lo := none) (hi := some (i : Int)) tok rfl (fun hg => hv) (fun hg => by dsimp only [Option.getD]; omega))) ?_
        refine o_yield rfl rfl rfl (y_val tok rfl) ?_
        refine o_end [4] rfl ?_
        refine x_then ?_
        refine c_ret ?_
        refine b_ret tok rfl ?_
        intro E' w' hm _
        have hkp := (hm.kp 3 0 _ _ rfl).2.1
        have hrow := hm.row 0 _ _ _ _ rfl
        rw [hkp] at hrow
        have hcut := ownsRow_cut hrow (i := i) (by omega)
        have hLi : (L.take i).length = i := by rw [List.length_take]; omega
        have htake : (overL (i * 4) zs (L.flatMap Hold.cells)).take (i * 4) = (L.take i).flatMap Hold.cells := by
          have hfl := flatMap_take (enc := Hold.cells) (sz := 4) (fun _ => rfl) L i
          have hll : (L.flatMap Hold.cells).length = L.length * 4 := hold_flat L
          rw [overL, List.append_assoc, List.take_append_of_le_length (by rw [List.length_take]; omega), List.take_take, Nat.min_self, hfl]
        rw [htake, htk] at hcut
        rw [htk] at hLi
        refine ⟨sliceV (Ea.κ 0) 0 i 4, rfl, by rw [hLi]; exact hcut, grown_of (hm.touch (S := fun k => (E.κ 0).ownBlock = some k) hle1 h0 hos (hm.big 1 _ rfl)) (fun k h => h), ?_⟩
        rw [sliceV_own hrow, ← hkp]
        exact rowBack hm hle1 h0 (l := 0) rfl

theorem slOfKeepH {E : Env} {O : Go.Eng.Own} {nl : Nat} {V : Vw} {w : World} (hm : Mem E O nl V w) (l q : Nat) {b e : Nat} {L : List Hold} {v : Value} (hl : lk O l = some (.row e 4 L.length (L.flatMap Hold.cells))) (hk : lk O q = some (.keep l b v)) :
    SlOf (vw w) Hold.cells 4 v L := by
  have := hm.rowOf (enc := Hold.cells) (L := L) l hl (fun _ => rfl)
  rwa [(hm.kp _ _ _ _ hk).2.1] at this

theorem srcTail {E : Env} {O : Go.Eng.Own} {nl : Nat} {V : Vw} {w : World} (hm : Mem E O nl V w) (l q : Nat) {b e i : Nat} {L : List Hold} {v : Value} (hl : lk O l = some (.row e 4 L.length (L.flatMap Hold.cells))) (hk : lk O q = some (.keep l b v)) (hi : i < L.length) :
    Go.Eng.Src Try.prog 4 (sliceV v (i + 1) L.length 4) (L.length - (i + 1)) ((L.drop (i + 1)).flatMap Hold.cells) w := by
  have h1 := (slOfKeepH (L := L) hm l q hl hk).cut (lo := i + 1) (hi := L.length) (by omega) (Nat.le_refl _)
  rw [List.take_of_length_le (by rw [List.length_drop]; omega)] at h1
  have h2 := h1.sl
  rw [List.length_drop] at h2
  exact h2.src (fun _ _ h => h)

theorem delete_c (v : Value) (l : List Hold) (i : Nat) (w : World) (hr : w.ownsRow 0 92 4 v l.length (l.flatMap Hold.cells)) (hn : l.length ≤ 1000000) (hi : i < l.length) :
    Calls Try.prog 68 #[v, I i, I ((i + 1 : Nat) : Int)] w fun e w' => ∃ v', e = .returned v' ∧ w'.ownsRow 0 92 4 v' (l.take i ++ l.drop (i + 1)).length ((l.take i ++ l.drop (i + 1)).flatMap Hold.cells) ∧ w.grownBy w' v.ownBlock ∧
      (v'.ownBlock = v.ownBlock ∨ ∀ k, v'.ownBlock = some k → w.heap.size ≤ k) := by
  have hV : ∀ k, v.ownBlock = some k → ((vw w).get k).isSome = true := fun k h => by
    have := (hr.lt k h).2
    simp [vw, this]
  have hm1 := ((mem0 E0 0 w).addRow hr hV).addSize
  have h0 := delO_get (w := w) (v := v)
  have hos := delO_os (w := w) (v := v)
  generalize (vw w).delO v.ownBlock = V0 at *
  obtain ⟨E, hE⟩ : ∃ E, E = E0.setκ 0 v := ⟨_, rfl⟩
  have hvE : E.κ 0 = v := by rw [hE]; simp [Env.setκ]
  rw [← hE] at hm1
  clear hE hV hr
  subst hvE
  have hkl : (l.drop (i + 1)).length = l.length - (i + 1) := List.length_drop
  have hfl := hold_flat l
  have hnews := hold_flat (l.drop (i + 1))
  refine enter [.a (.row 0), .a (.v (I i)), .a (.v (I ((i + 1 : Nat) : Int)))] Try.func68 rfl rfl (hm1) rfl rfl ?_
  refine c_seq ?_
  refine k_plainS [0, 1, 2] [0, 1] rfl (by repeat (first | exact SubF.nil | refine SubF.cons rfl ?_)) rfl rfl (fun Ea V1 hle1 hlit => ?_)
  clear hlit
  refine c_region ?_
  refine o_yield rfl rfl rfl (y_val tok rfl) ?_
  refine o_end [0, 1, 2] rfl ?_
  refine x_then ?_
  refine c_seq ?_
  refine c_region ?_
  refine o_yield rfl rfl rfl (y_val tok rfl) ?_
  refine o_yield rfl rfl rfl (y_val tok rfl) ?_
  refine o_yield rfl rfl rfl (y_val tok rfl) ?_
  refine o_yield rfl rfl rfl (y_val tok rfl) ?_
  refine o_yield rfl rfl rfl (y_ownKs 0 3 _ (.a (.v (I l.length))) rfl rfl rfl (fun V' hv => y_len tok rfl (fun hg => hv))) ?_
  refine o_yield rfl rfl rfl (y_ownKs 0 3 _ (.a (.v (sliceV (capTo (Ea.κ 0) ((l.length : Int)).toNat) ((i : Int)).toNat (((i + 1 : Nat) : Int)).toNat 4))) rfl rfl rfl (fun V' hv => y_sl4 tok rfl (fun hg => hv) (fun hg => by omega))) ?_
  refine o_end [0, 1, 2] rfl ?_
  refine x_then ?_
  refine c_seq ?_
  refine c_seq ?_
  refine c_region ?_
  refine o_yield rfl rfl rfl (y_val tok rfl) ?_
  refine o_yield rfl rfl rfl (y_val tok rfl) ?_
  refine o_yield rfl rfl rfl (y_val tok rfl) ?_
  refine o_end [0, 1, 2, 16] rfl ?_
  refine x_then ?_
  refine c_cond rfl (fun h => ?_) (fun h => ?_)
  ·
    refine c_seq ?_
    refine c_region ?_
    refine o_yield rfl rfl rfl (y_val tok rfl) ?_
    refine o_yield rfl rfl rfl (y_val tok rfl) ?_
    refine o_end [6] rfl ?_
    refine x_then ?_
    refine c_ret ?_
    refine x_then_ret ?_
    refine b_ret tok rfl ?_
    exact absurd h (by simp; omega)
  ·
    clear h
    refine c_skip ?_
    refine x_then ?_
    refine c_seq ?_
    refine c_region ?_
    refine o_yield rfl rfl rfl (y_val tok rfl) ?_
    refine o_yield rfl rfl rfl (y_ownKs 0 3 _ (.a (.v (I l.length))) rfl rfl rfl (fun V' hv => y_len tok rfl (fun hg => hv))) ?_
    refine o_yield rfl rfl rfl (y_val tok rfl) ?_
    refine o_end [0, 1, 2, 7] rfl ?_
    refine x_then ?_
    refine c_seq ?_
    refine c_heldS [6] mixed rfl (by repeat (first | exact SubO.nil | refine SubO.cons rfl ?_)) (by first | rfl | simp [okCels, allOk_plain]) ?_
    refine t_takeD 0 rfl (by kernel_rfl) rfl rfl rfl (y_val tok rfl) rfl ?_
    refine t_takeD 1 rfl (by kernel_rfl) rfl rfl rfl (y_val tok rfl) rfl ?_
    refine t_takeD 2 rfl (by kernel_rfl) rfl rfl rfl (y_ownKs 0 3 _ (.a (.v (sliceV (Ea.κ 0) (0 : Int).toNat ((i : Int)).toNat 4))) rfl rfl rfl (fun V' hv => y_sl (lo := none) (hi := some (i : Int)) tok rfl (fun hg => hv) (fun hg => by dsimp only [Option.getD]; omega))) rfl ?_
    refine t_takeD 3 rfl (by kernel_rfl) rfl rfl rfl (y_val tok rfl) rfl ?_
    refine t_takeD 4 rfl (by kernel_rfl) rfl rfl rfl (y_val tok rfl) rfl ?_
    refine t_takeD 5 rfl (by kernel_rfl) rfl rfl rfl (y_ownKs 0 3 _ (.a (.v (sliceV (Ea.κ 0) (((i + 1 : Nat) : Int)).toNat ((l.length : Int)).toNat 4))) rfl rfl rfl (fun V' hv => y_sl (lo := some ((i + 1 : Nat) : Int)) (hi := none) tok rfl (fun hg => hv) (fun hg => by dsimp only [Option.getD]; omega))) rfl ?_
    refine t_go ?_
    refine h_one 6 (by kernel_rfl) ?_
    rw [Int.toNat_natCast, Int.toNat_natCast, Int.toNat_natCast, show (0 : Int).toNat = 0 from rfl]
    refine h_to 6 rfl rfl rfl rfl rfl rfl (s_apC (t := 27) (l := 0) (q := 3) (m := l.length) (i := i) (k := l.length - (i + 1)) tok ((l.drop (i + 1)).flatMap Hold.cells) rfl rfl rfl rfl rfl (fun E w hm => srcTail hm 0 3 rfl rfl hi) (hold_ones _) (by omega) (by omega)) (.inl rfl) (fun _ _ => ?_)
    refine h_one 7 (by kernel_rfl) ?_
    refine h_yield 7 rfl rfl rfl rfl (y_val tok rfl) ?_
    refine h_done [0, 7] (by kernel_rfl) rfl ?_
    refine x_then ?_
    refine c_seq ?_
    refine c_region ?_
    refine o_yield rfl rfl rfl (y_val tok rfl) ?_
    refine o_yield rfl rfl rfl (y_val tok rfl) ?_
    obtain ⟨k, hk⟩ : ∃ k, l.length - (i + 1) = k := ⟨_, rfl⟩
    rw [hk]
    rw [hk] at hkl
    refine o_yield rfl rfl rfl (y_ownKs 0 3 _ (.a (.v (I ((i + k : Nat) : Int)))) rfl rfl rfl (fun V' hv => by have h1 := hv.cut (lo := 0) (hi := i + k) (by omega) (by omega); rw [Nat.sub_zero] at h1; exact y_len tok rfl (fun hg => h1))) ?_
    refine o_yield rfl rfl rfl (y_val tok rfl) ?_
    refine o_yield rfl rfl rfl (y_ownKs 0 3 _ (.a (.v (sliceV (Ea.κ 0) (((i + k : Nat) : Int)).toNat ((l.length : Int)).toNat 4))) rfl rfl rfl (fun V' hv => y_sl5 tok rfl (fun hg => hv) (fun hg => by omega))) ?_
    rw [Int.toNat_natCast, Int.toNat_natCast]
    refine o_stepN rfl rfl rfl rfl (s_clearP (t := 27) (l := 0) (q := 3) (lo := i + k) (m := l.length) tok rfl rfl rfl rfl hold_zero rfl rfl (by omega)) (fun zs hz => ?_)
    refine o_end [0] rfl ?_
    refine x_then ?_
    refine c_seq ?_
    refine c_region ?_
    refine o_yield rfl rfl rfl (y_val tok rfl) ?_
    refine o_yield rfl rfl rfl (y_val tok rfl) ?_
    refine o_end [6] rfl ?_
    refine x_then ?_
    refine c_ret ?_
    refine b_ret tok rfl ?_
    intro E' w' hm _
    have hkp := (hm.kp 3 0 _ _ rfl).2.1
    have hrow := hm.row 0 _ _ _ _ rfl
    rw [hkp] at hrow
    have hcut := ownsRow_cut hrow (i := i + k) (by omega)
    have htk := hold_flat (l.take i)
    have htl : (l.take i).length = i := by rw [List.length_take]; omega
    have hLi : (l.take i ++ l.drop (i + 1)).length = i + k := by rw [List.length_append, htl, hkl]
    have hft := flatMap_take (enc := Hold.cells) (sz := 4) (fun _ => rfl) l i
    have htake : (overL ((i + k) * 4) zs (overL (i * 4) ((l.drop (i + 1)).flatMap Hold.cells) (l.flatMap Hold.cells))).take ((i + k) * 4) = (l.take i ++ l.drop (i + 1)).flatMap Hold.cells := by
      have hlen : (overL (i * 4) ((l.drop (i + 1)).flatMap Hold.cells) (l.flatMap Hold.cells)).length = l.length * 4 := by rw [overL_length (by omega), hfl]
      rw [overL, List.append_assoc, List.take_append_of_le_length (by rw [List.length_take, hlen]; omega), List.take_take, Nat.min_self]
      rw [overL, hft, ← List.flatMap_append]
      exact List.take_left' (by rw [hold_flat, hLi])
    rw [htake] at hcut
    refine ⟨sliceV (Ea.κ 0) 0 (i + k) 4, rfl, by rw [hLi]; exact hcut, grown_of (hm.touch (S := fun k => (E.κ 0).ownBlock = some k) hle1 h0 hos (hm.big 1 _ rfl)) (fun k h => h), ?_⟩
    rw [sliceV_own hrow, ← hkp]
    exact rowBack hm hle1 h0 (l := 0) rfl
end Go.Proofs.Ythmejhpfhkddiaa

/- Tables: plain laws. -/
set_option linter.unusedVariables false
set_option linter.unusedSimpArgs false
set_option maxRecDepth 100000
namespace Go.Proofs.Ythmejhpfhkddiaa
open Go Go.Eng Go.RowKit

/-- Whether something holds. -/
noncomputable def cdec (p : Prop) : Bool := @decide p (Classical.propDecidable p)
/-- A table, in plain rows. -/
structure Tb where
  S : List Slot
  H : List Hold
  Q : List Hold

def grantGo : List Hold → List Hold → List Hold → List Hold × List Hold
  | [], H, Q => (H, Q)
  | h :: r, H, Q => if (fits h H && fits h Q) = true then grantGo r (H ++ [h]) Q else grantGo r H (Q ++ [h])

def Tb.grant (t : Tb) : Tb := ⟨t.S, (grantGo t.Q t.H []).1, (grantGo t.Q t.H []).2⟩

def Tb.slot (t : Tb) (key : Int) : Option Nat := if key < 1 then none else t.S.findIdx? (fun x => x.key == key)

def slotKey (S : List Slot) (k : Nat) : Int := (S[k]?.getD ⟨0, 0⟩).key
def slotClaim (S : List Slot) (k : Nat) : Int := (S[k]?.getD ⟨0, 0⟩).claim

def Tb.clear (t : Tb) (k : Nat) : Tb :=
  Tb.grant ⟨t.S.set k ⟨0, 0⟩, t.H.filter (fun h => !(h.key == slotKey t.S k)), t.Q.filter (fun h => !(h.key == slotKey t.S k))⟩

def Tb.mount (t : Tb) (by_ : Int) : Tb := match t.slot by_ with
  | some _ => t
  | none => match t.S.findIdx? (fun x => x.key == 0) with
    | none => t
    | some k => ⟨t.S.set k ⟨by_, slotClaim t.S k⟩, t.H, t.Q⟩

def Tb.leave (t : Tb) (by_ : Int) : Tb := match t.slot by_ with
  | some k => t.clear k
  | none => t

def ownN (l : List Hold) (key : Int) : Nat := (l.filter (fun h => h.key == key)).length

def Tb.asks (blocks : Int) (t : Tb) (h : Hold) : Bool :=
  (((t.slot h.key).isSome && holdB blocks h) && !touches (t.H ++ t.Q) h.key h.lo h.hi) && decide (ownN (t.H ++ t.Q) h.key < 64)

def Tb.ask (blocks : Int) (t : Tb) (h : Hold) : Tb := if t.asks blocks h = true then Tb.grant ⟨t.S, t.H, t.Q ++ [h]⟩ else t

def justB (key lo hi : Int) (h : Hold) : Bool := (h.key == key) && (h.lo == lo && h.hi == hi)

def Tb.free (t : Tb) (key lo hi : Int) : Tb := match t.H.findIdx? (justB key lo hi) with
  | some i => Tb.grant ⟨t.S, t.H.take i ++ t.H.drop (i + 1), t.Q⟩
  | none => match t.Q.findIdx? (justB key lo hi) with
    | some i => Tb.grant ⟨t.S, t.H, t.Q.take i ++ t.Q.drop (i + 1)⟩
    | none => t

def Tb.claim (t : Tb) (by_ dead was : Int) : Tb := match t.slot dead with
  | some k => if slotClaim t.S k = was ∧ by_ ≠ dead then ⟨t.S.set k ⟨slotKey t.S k, by_⟩, t.H, t.Q⟩ else t
  | none => t

def Tb.purge (t : Tb) (by_ dead : Int) : Tb := match t.slot dead with
  | some k => if by_ ≠ 0 ∧ slotClaim t.S k = by_ then t.clear k else t
  | none => t

/-- What comes of a command. -/
def Tb.apply (blocks : Int) (t : Tb) (c : Cmd) : Tb :=
  if c.kind = 0 then t.mount c.by_ else if c.kind = 1 then t.leave c.by_ else if c.kind = 2 then t.ask blocks ⟨c.by_, c.lo, c.hi, c.mode⟩ else if c.kind = 3 then t.free c.by_ c.lo c.hi
    else if c.kind = 4 then t.claim c.by_ c.dead c.was else if c.kind = 5 then t.purge c.by_ c.dead else t

def newN (slots : Int) : Nat := (min (max slots 0) 16).toNat
def newT (slots : Int) : Tb := ⟨List.replicate (newN slots) ⟨0, 0⟩, [], []⟩

/-! Which tables may be. -/

structure SlotsOk (S : List Slot) : Prop where
  pos : ∀ x ∈ S, 0 ≤ x.key ∧ 0 ≤ x.claim ∧ (x.key = 0 → x.claim = 0)
  once : (S.map (·.key)).Pairwise (fun a b => b ≠ 0 → a ≠ b)

def apart (a b : Hold) : Prop := ¬ (a.key = b.key ∧ meets a.lo a.hi b.lo b.hi = true)

/-- What may be, but for who could be granted. -/
structure TbPre (n blocks : Int) (t : Tb) : Prop where
  n : (t.S.length : Int) = n
  slots : SlotsOk t.S
  all : allB t.H = true
  mem : ∀ h ∈ t.H ++ t.Q, (∃ x ∈ t.S, x.key = h.key) ∧ holdB blocks h = true
  apart : (t.H ++ t.Q).Pairwise apart
  few : ∀ key, ownN (t.H ++ t.Q) key ≤ 64

structure TbOk (n blocks : Int) (t : Tb) : Prop extends TbPre n blocks t where
  still : t.grant.Q.length = t.Q.length

theorem apart_comm {a b : Hold} (h : apart a b) : apart b a := fun ⟨h1, h2⟩ => h ⟨h1.symm, by rw [meets_comm]; exact h2⟩

theorem fits_append (h : Hold) (a b : List Hold) : fits h (a ++ b) = (fits h a && fits h b) := by simp [fits, List.all_append]

/-- Nobody of a queue could be granted. -/
def Stuck (H Q : List Hold) : Prop := ∀ j h, Q[j]? = some h → ¬ (fits h H = true ∧ fits h (Q.take j) = true)

theorem Stuck.nil (H : List Hold) : Stuck H [] := fun j h hj => by simp at hj

theorem Stuck.more {H Q : List Hold} (hs : Stuck H Q) (H2 : List Hold) : Stuck (H ++ H2) Q := fun j h hj ⟨h1, h2⟩ =>
  hs j h hj ⟨by rw [fits_append, Bool.and_eq_true] at h1; exact h1.1, h2⟩

theorem Stuck.snoc {H Q : List Hold} {x : Hold} (hs : Stuck H Q) (hx : ¬ (fits x H = true ∧ fits x Q = true)) : Stuck H (Q ++ [x]) := by
  intro j h hj
  rcases Nat.lt_or_ge j Q.length with hlt | hge
  · rw [List.getElem?_append_left hlt] at hj
    rw [List.take_append_of_le_length (by omega)]
    exact hs j h hj
  · rw [List.getElem?_append_right hge] at hj
    have hjl : j = Q.length := by
      have := (List.getElem?_eq_some_iff.1 hj).1
      simp at this; omega
    subst hjl
    simp at hj
    subst hj
    simpa using hx

theorem grant_stuck : ∀ (w H Q : List Hold), Stuck H Q → Stuck (grantGo w H Q).1 (grantGo w H Q).2
  | [], _, _, hs => hs
  | h :: r, H, Q, hs => by
    rw [grantGo]
    split
    · exact grant_stuck r _ _ (hs.more [h])
    · rename_i hc
      rw [Bool.and_eq_true] at hc
      exact grant_stuck r _ _ (hs.snoc hc)

theorem grant_perm : ∀ (w H Q : List Hold), ((grantGo w H Q).1 ++ (grantGo w H Q).2).Perm (H ++ Q ++ w)
  | [], H, Q => by simp [grantGo]
  | h :: r, H, Q => by
    rw [grantGo]
    split
    · refine (grant_perm r _ _).trans ?_
      simp only [List.append_assoc, List.cons_append, List.nil_append]
      refine List.Perm.append_left H ?_
      exact (List.perm_middle (a := h) (l₁ := Q) (l₂ := r)).symm
    · refine (grant_perm r _ _).trans ?_
      simp

theorem grant_all : ∀ (w H Q : List Hold), allB H = true → allB (grantGo w H Q).1 = true
  | [], _, _, h => h
  | h :: r, H, Q, hH => by
    rw [grantGo]
    split
    · rename_i hc
      rw [Bool.and_eq_true] at hc
      exact grant_all r _ _ (by rw [allB_more _ _ hH]; exact hc.1)
    · exact grant_all r _ _ hH

theorem grant_len' : ∀ (w H Q : List Hold), (grantGo w H Q).1.length + (grantGo w H Q).2.length = H.length + Q.length + w.length
  | w, H, Q => by
    have := (grant_perm w H Q).length_eq
    simp only [List.length_append] at this
    exact this

theorem grant_same : ∀ (w H Q : List Hold), (∀ j h, w[j]? = some h → ¬ (fits h H = true ∧ fits h (Q ++ w.take j) = true)) → grantGo w H Q = (H, Q ++ w)
  | [], H, Q, _ => by simp [grantGo]
  | h :: r, H, Q, hs => by
    have h0 := hs 0 h rfl
    rw [grantGo, if_neg (by rw [Bool.and_eq_true]; simpa using h0)]
    rw [grant_same r H (Q ++ [h]) (fun j x hj => by
      have := hs (j + 1) x (by simpa using hj)
      simpa using this)]
    simp

theorem grant_still {S : List Slot} {H Q : List Hold} (hs : Stuck H Q) : (Tb.grant ⟨S, H, Q⟩).Q = Q ∧ (Tb.grant ⟨S, H, Q⟩).H = H := by
  have := grant_same Q H [] (fun j h hj => by simpa using hs j h hj)
  simp [Tb.grant, this]

theorem ownN_perm {a b : List Hold} (h : a.Perm b) (key : Int) : ownN a key = ownN b key := (h.filter _).length_eq

theorem ownN_append (a b : List Hold) (key : Int) : ownN (a ++ b) key = ownN a key + ownN b key := by simp [ownN, List.filter_append]

theorem pairwise_perm {a b : List Hold} (h : a.Perm b) (hp : b.Pairwise apart) : a.Pairwise apart := by
  refine (h.pairwise_iff ?_).2 hp
  intro x y; exact apart_comm

theorem TbPre.grant {n blocks : Int} {t : Tb} (h : TbPre n blocks t) : TbOk n blocks t.grant := by
  have hp := grant_perm t.Q t.H []
  rw [List.append_nil] at hp
  have hst := grant_stuck t.Q t.H [] (Stuck.nil _)
  refine ⟨⟨h.n, h.slots, grant_all _ _ _ h.all, ?_, pairwise_perm hp h.apart, ?_⟩, ?_⟩
  · intro x hx
    exact h.mem x (hp.mem_iff.1 hx)
  · intro key
    show ownN ((grantGo t.Q t.H []).1 ++ (grantGo t.Q t.H []).2) key ≤ 64
    rw [ownN_perm hp]
    exact h.few key
  · have := grant_still (S := t.S) hst
    show (Tb.grant ⟨t.S, (grantGo t.Q t.H []).1, (grantGo t.Q t.H []).2⟩).Q.length = _
    rw [this.1]; rfl

theorem ownN_sub {a b : List Hold} (h : a.Sublist b) (key : Int) : ownN a key ≤ ownN b key := (h.filter _).length_le

theorem allB_pair (l : List Hold) : allB l = true ↔ l.Pairwise (fun a b => together a b = true) := by
  constructor
  · intro h
    rw [List.pairwise_iff_getElem]
    intro i j hi hj hij
    exact allB_two h (List.getElem?_eq_getElem hi) (List.getElem?_eq_getElem hj)
  · intro h
    rw [allB_iff]
    intro j x hx
    rw [fits, List.all_eq_true]
    intro y hy
    obtain ⟨i, hi⟩ := List.mem_iff_getElem?.1 hy
    rw [List.getElem?_take] at hi
    split at hi
    · rename_i hij
      obtain ⟨h1, rfl⟩ := List.getElem?_eq_some_iff.1 hi
      obtain ⟨h2, rfl⟩ := List.getElem?_eq_some_iff.1 hx
      rw [together_comm]
      exact (List.pairwise_iff_getElem.1 h) i j h1 h2 hij
    · cases hi

theorem allB_sub {a b : List Hold} (h : a.Sublist b) (hb : allB b = true) : allB a = true := by
  rw [allB_pair] at hb ⊢
  exact hb.sublist h

/-- Fewer holds. -/
theorem TbPre.sub {n blocks : Int} {t : Tb} (h : TbPre n blocks t) {H Q : List Hold} (h1 : H.Sublist t.H) (h2 : Q.Sublist t.Q) : TbPre n blocks ⟨t.S, H, Q⟩ := by
  have hs := h1.append h2
  exact ⟨h.n, h.slots, allB_sub h1 h.all, fun x hx => h.mem x (hs.subset hx), h.apart.sublist hs, fun key => Nat.le_trans (ownN_sub hs key) (h.few key)⟩

theorem slot_some {t : Tb} {key : Int} {k : Nat} (h : t.slot key = some k) : 1 ≤ key ∧ ∃ x, t.S[k]? = some x ∧ x.key = key := by
  unfold Tb.slot at h
  split at h
  · cases h
  · rw [List.findIdx?_eq_some_iff_getElem] at h
    obtain ⟨hlt, h1, _⟩ := h
    exact ⟨by omega, t.S[k], List.getElem?_eq_getElem hlt, by simpa using h1⟩

theorem slot_none {t : Tb} {key : Int} (h : t.slot key = none) (hk : 1 ≤ key) : ∀ x ∈ t.S, x.key ≠ key := by
  unfold Tb.slot at h
  rw [if_neg (by omega), List.findIdx?_eq_none_iff] at h
  intro x hx e
  have := h x hx
  simp [e] at this

theorem mem_set_cases {α : Type} {l : List α} {k : Nat} {a x : α} (h : x ∈ l.set k a) : x = a ∨ ∃ j, j ≠ k ∧ l[j]? = some x := by
  obtain ⟨j, hj⟩ := List.mem_iff_getElem?.1 h
  rw [List.getElem?_set] at hj
  split at hj
  · split at hj
    · cases hj; exact .inl rfl
    · cases hj
  · exact .inr ⟨j, by omega, hj⟩

theorem mem_set_other {α : Type} {l : List α} {k j : Nat} {a x : α} (hj : l[j]? = some x) (h : j ≠ k) : x ∈ l.set k a := by
  refine List.mem_iff_getElem?.2 ⟨j, ?_⟩
  rw [List.getElem?_set]
  rw [if_neg (by omega)]
  exact hj

theorem SlotsOk.two {S : List Slot} (h : SlotsOk S) {i j : Nat} {x y : Slot} (hx : S[i]? = some x) (hy : S[j]? = some y) (he : x.key = y.key) (h0 : x.key ≠ 0) : i = j := by
  have key : ∀ {i j : Nat} {x y : Slot}, i < j → S[i]? = some x → S[j]? = some y → x.key = y.key → y.key ≠ 0 → False := by
    intro i j x y hij hx hy he h0
    obtain ⟨h1, rfl⟩ := List.getElem?_eq_some_iff.1 hx
    obtain ⟨h2, rfl⟩ := List.getElem?_eq_some_iff.1 hy
    have := (List.pairwise_iff_getElem.1 h.once) i j (by simpa using h1) (by simpa using h2) hij
    simp only [List.getElem_map] at this
    exact this h0 he
  rcases Nat.lt_trichotomy i j with hij | hij | hij
  · exact (key hij hx hy he (by rw [← he]; exact h0)).elim
  · exact hij
  · exact (key hij hy hx he.symm h0).elim

theorem SlotsOk.set {S : List Slot} (h : SlotsOk S) {k : Nat} {a x : Slot} (hx : S[k]? = some x) (ha : 0 ≤ a.key ∧ 0 ≤ a.claim ∧ (a.key = 0 → a.claim = 0)) (hn : a.key ≠ 0 → ∀ j y, j ≠ k → S[j]? = some y → y.key ≠ a.key) : SlotsOk (S.set k a) := by
  constructor
  · intro y hy
    rcases mem_set_cases hy with rfl | ⟨j, _, hj⟩
    · exact ha
    · exact h.pos y (List.mem_of_getElem? hj)
  · rw [List.pairwise_iff_getElem]
    intro i j hi hj hij
    have hl : (S.set k a).length = S.length := List.length_set
    simp only [List.length_map, hl] at hi hj
    have hold := (List.pairwise_iff_getElem.1 h.once) i j (by simpa using hi) (by simpa using hj) hij
    simp only [List.getElem_map, List.getElem_set] at hold ⊢
    by_cases e1 : k = i
    · by_cases e2 : k = j
      · omega
      · rw [if_pos e1, if_neg e2]
        intro h0 e
        exact hn (by rw [e]; exact h0) j S[j] (by omega) (List.getElem?_eq_getElem hj) e.symm
    · by_cases e2 : k = j
      · rw [if_neg e1, if_pos e2]
        intro h0 e
        exact hn h0 i S[i] (by omega) (List.getElem?_eq_getElem hi) e
      · rw [if_neg e1, if_neg e2]; exact hold

theorem slotKey_at {S : List Slot} {k : Nat} {x : Slot} (h : S[k]? = some x) : slotKey S k = x.key := by simp [slotKey, h]
theorem slotClaim_at {S : List Slot} {k : Nat} {x : Slot} (h : S[k]? = some x) : slotClaim S k = x.claim := by simp [slotClaim, h]

theorem holdB_key {blocks : Int} {h : Hold} (hh : holdB blocks h = true) : 0 < h.key := by
  simp only [holdB, Bool.and_eq_true, decide_eq_true_eq] at hh
  exact hh.1.1

theorem TbOk.clear {n blocks : Int} {t : Tb} (h : TbOk n blocks t) {k : Nat} {x : Slot} (hx : t.S[k]? = some x) : TbOk n blocks (t.clear k) := by
  refine TbPre.grant ?_
  have hs := h.toTbPre.sub (H := t.H.filter (fun h => !(h.key == slotKey t.S k))) (Q := t.Q.filter (fun h => !(h.key == slotKey t.S k))) List.filter_sublist List.filter_sublist
  refine ⟨by rw [← h.n]; simp, h.slots.set hx ⟨by simp, by simp, by simp⟩ (by simp), hs.all, ?_, hs.apart, hs.few⟩
  intro y hy
  obtain ⟨⟨z, hz, hzk⟩, hb⟩ := hs.mem y hy
  refine ⟨⟨z, ?_, hzk⟩, hb⟩
  obtain ⟨j, hj⟩ := List.mem_iff_getElem?.1 hz
  refine mem_set_other hj fun e => ?_
  subst e
  have hne : y.key ≠ slotKey t.S j := by
    rcases List.mem_append.1 hy with hy | hy
    · have := (List.mem_filter.1 hy).2
      simpa using this
    · have := (List.mem_filter.1 hy).2
      simpa using this
  exact hne (by rw [slotKey_at hj, hzk])

theorem TbOk.slotsIn {n blocks : Int} {t : Tb} (h : TbOk n blocks t) {S : List Slot} (hl : S.length = t.S.length) (hS : SlotsOk S) (hk : ∀ x ∈ t.S, x.key ≠ 0 → ∃ y ∈ S, y.key = x.key) : TbOk n blocks ⟨S, t.H, t.Q⟩ := by
  refine ⟨⟨by rw [← h.n]; show (S.length : Int) = _; rw [hl], hS, h.all, ?_, h.apart, h.few⟩, h.still⟩
  intro y hy
  obtain ⟨⟨z, hz, hzk⟩, hb⟩ := h.mem y hy
  obtain ⟨u, hu, huk⟩ := hk z hz (by rw [hzk]; have := holdB_key hb; omega)
  exact ⟨⟨u, hu, by rw [huk, hzk]⟩, hb⟩

theorem findIdx_cases {α : Type} (pr : α → Bool) (l : List α) : (l.findIdx? pr = none ∧ ∀ x ∈ l, pr x = false) ∨ ∃ (k : Nat) (x : α), l.findIdx? pr = some k ∧ l[k]? = some x ∧ pr x = true ∧ ∀ (j : Nat) (y : α), j < k → l[j]? = some y → pr y = false := by
  cases hq : l.findIdx? pr with
  | none =>
    rw [List.findIdx?_eq_none_iff] at hq
    exact .inl ⟨rfl, hq⟩
  | some k =>
    rw [List.findIdx?_eq_some_iff_getElem] at hq
    obtain ⟨hlt, h1, h2⟩ := hq
    refine .inr ⟨k, l[k], rfl, by simp [hlt], h1, fun j y hj hy => ?_⟩
    have := h2 j hj
    rw [List.getElem?_eq_getElem (by omega)] at hy
    cases hy
    simpa using this

theorem TbOk.mount {n blocks : Int} {t : Tb} (h : TbOk n blocks t) {key : Int} (hk : 16 ≤ key) : TbOk n blocks (t.mount key) := by
  unfold Tb.mount
  cases hs : t.slot key with
  | some k => exact h
  | none =>
    dsimp only
    rcases findIdx_cases (fun x : Slot => x.key == 0) t.S with ⟨h1, _⟩ | ⟨k, x, h1, hx, h0, _⟩
    · rw [h1]; exact h
    · rw [h1]
      dsimp only
      have hx0 : x.key = 0 := by simpa using h0
      have hc := (h.slots.pos x (List.mem_of_getElem? hx))
      refine h.slotsIn (by simp) (h.slots.set hx ⟨by dsimp only; omega, by rw [slotClaim_at hx]; exact hc.2.1, by dsimp only; omega⟩ ?_) ?_
      · intro _ j y _ hy
        exact slot_none hs (by omega) y (List.mem_of_getElem? hy)
      · intro y hy hy0
        obtain ⟨j, hj⟩ := List.mem_iff_getElem?.1 hy
        refine ⟨y, mem_set_other hj fun e => ?_, rfl⟩
        subst e
        rw [hx] at hj
        cases hj
        exact hy0 hx0

theorem TbOk.leave {n blocks : Int} {t : Tb} (h : TbOk n blocks t) (key : Int) : TbOk n blocks (t.leave key) := by
  unfold Tb.leave
  cases hs : t.slot key with
  | none => exact h
  | some k =>
    obtain ⟨_, x, hx, _⟩ := slot_some hs
    exact h.clear hx

theorem TbOk.purge {n blocks : Int} {t : Tb} (h : TbOk n blocks t) (by_ dead : Int) : TbOk n blocks (t.purge by_ dead) := by
  unfold Tb.purge
  cases hs : t.slot dead with
  | none => exact h
  | some k =>
    obtain ⟨_, x, hx, _⟩ := slot_some hs
    dsimp only
    split
    · exact h.clear hx
    · exact h

theorem TbOk.claim {n blocks : Int} {t : Tb} (h : TbOk n blocks t) {by_ : Int} (hb : 0 ≤ by_) (dead was : Int) : TbOk n blocks (t.claim by_ dead was) := by
  unfold Tb.claim
  cases hs : t.slot dead with
  | none => exact h
  | some k =>
    obtain ⟨hd, x, hx, hk⟩ := slot_some hs
    dsimp only
    split
    · rw [slotKey_at hx]
      refine h.slotsIn (by simp) (h.slots.set hx ⟨by dsimp only; omega, hb, by dsimp only; omega⟩ ?_) ?_
      · intro h0 j y hj hy e
        exact hj (h.slots.two hy hx e (by rw [e]; exact h0))
      · intro y hy hy0
        obtain ⟨j, hj⟩ := List.mem_iff_getElem?.1 hy
        by_cases e : j = k
        · subst e
          rw [hx] at hj
          cases hj
          have hlt := (List.getElem?_eq_some_iff.1 hx).1
          exact ⟨⟨x.key, by_⟩, List.mem_iff_getElem?.2 ⟨j, by rw [List.getElem?_set_self hlt]⟩, rfl⟩
        · exact ⟨y, mem_set_other hj e, rfl⟩
    · exact h

theorem TbOk.ask {n blocks : Int} {t : Tb} (h : TbOk n blocks t) (x : Hold) : TbOk n blocks (t.ask blocks x) := by
  unfold Tb.ask
  split
  · rename_i ha
    simp only [Tb.asks, Bool.and_eq_true, decide_eq_true_eq, Bool.not_eq_true'] at ha
    obtain ⟨⟨⟨h1, h2⟩, h3⟩, h4⟩ := ha
    refine TbPre.grant ⟨h.n, h.slots, h.all, ?_, ?_, ?_⟩
    · intro y hy
      have hy2 : y ∈ (t.H ++ t.Q) ++ [x] := by rw [List.append_assoc]; exact hy
      rcases List.mem_append.1 hy2 with hy2 | hy2
      · exact h.mem y hy2
      · simp only [List.mem_singleton] at hy2
        subst hy2
        refine ⟨?_, h2⟩
        cases hs : t.slot y.key with
        | none => rw [hs] at h1; cases h1
        | some k =>
          obtain ⟨_, z, hz, hk⟩ := slot_some hs
          exact ⟨z, List.mem_of_getElem? hz, hk⟩
    · show (t.H ++ (t.Q ++ [x])).Pairwise Go.Proofs.Ythmejhpfhkddiaa.apart
      rw [← List.append_assoc, List.pairwise_append]
      refine ⟨h.apart, by simp, ?_⟩
      intro a ha b hb ⟨e1, e2⟩
      simp only [List.mem_singleton] at hb
      subst hb
      rw [touches, List.any_eq_false] at h3
      have := h3 a ha
      simp [touchesAt, e1, e2] at this
    · intro key
      show ownN (t.H ++ (t.Q ++ [x])) key ≤ 64
      rw [← List.append_assoc, ownN_append]
      have hf := h.few key
      by_cases e : x.key = key
      · subst e
        have : ownN [x] x.key ≤ 1 := by simp only [ownN]; exact Nat.le_trans (List.length_filter_le _ _) (by simp)
        omega
      · have : ownN [x] key = 0 := by simp [ownN, e]
        omega
  · exact h

theorem erase_sub {α : Type} (l : List α) (i : Nat) : (l.take i ++ l.drop (i + 1)).Sublist l := by
  have h1 : (l.drop (i + 1)).Sublist (l.drop i) := by
    rw [← List.drop_drop]
    exact List.drop_sublist _ _
  have := (List.Sublist.refl (l.take i)).append h1
  rwa [List.take_append_drop] at this

theorem TbOk.free {n blocks : Int} {t : Tb} (h : TbOk n blocks t) (key lo hi : Int) : TbOk n blocks (t.free key lo hi) := by
  unfold Tb.free
  split
  · exact (h.toTbPre.sub (erase_sub _ _) (List.Sublist.refl _)).grant
  · split
    · exact (h.toTbPre.sub (List.Sublist.refl _) (erase_sub _ _)).grant
    · exact h

theorem TbOk.apply {n blocks : Int} {t : Tb} (h : TbOk n blocks t) {c : Cmd} (hc : 16 ≤ c.by_) : TbOk n blocks (t.apply blocks c) := by
  unfold Tb.apply
  split
  · exact h.mount hc
  · split
    · exact h.leave _
    · split
      · exact h.ask _
      · split
        · exact h.free _ _ _
        · split
          · exact h.claim (by omega) _ _
          · split
            · exact h.purge _ _
            · exact h

theorem TbOk.new (k : Nat) (blocks : Int) : TbOk k blocks ⟨List.replicate k ⟨0, 0⟩, [], []⟩ := by
  refine ⟨⟨by simp, ⟨?_, ?_⟩, rfl, by simp, by simp, by simp [ownN]⟩, rfl⟩
  · intro x hx
    rw [List.eq_of_mem_replicate hx]
    simp
  · rw [List.map_replicate, List.pairwise_replicate]
    right
    intro h; exact absurd rfl h
end Go.Proofs.Ythmejhpfhkddiaa

/- What a book's methods do to it. -/
set_option linter.unusedVariables false
set_option linter.unusedSimpArgs false
set_option maxRecDepth 100000
namespace Go.Proofs.Ythmejhpfhkddiaa
open Go Go.Eng Go.RowKit

abbrev slR (S : List Slot) : Rw := ⟨67, 2, S.length, S.flatMap Slot.cells⟩
abbrev hoR (H : List Hold) : Rw := ⟨92, 4, H.length, H.flatMap Hold.cells⟩
abbrev tbO (g : Geo) (t : Tb) : Go.Eng.Own := bkO 100 g.cells (slR t.S) (hoR t.H) (hoR t.Q)

/-- A table of rows that are not too great. -/
structure Tb.Fit (t : Tb) : Prop where
  s : t.S.length ≤ 1000
  h : t.H.length ≤ 100000
  q : t.Q.length ≤ 100000

abbrev TbLeft (E : Env) (g : Geo) (t : Tb) (V : Vw) (w : World) : Ending → World → Prop := BkPost E 0 100 g.cells (fun _ => True) (slR t.S) (hoR t.H) (hoR t.Q) V w

theorem removeH_c (g : Geo) (t : Tb) (ht : t.Fit) (pr : Hold → Bool) (sv : Value) (f : Nat) (caps : Array Value) (E : Env) (V : Vw) (w : World) (hm0 : Mem E (tbO g t) 4 V w) (hs : SlOf V encF 1 sv [.func (.func f) #[] caps]) (hf : Tells V (.func (.func f) #[] caps) pr) :
    Calls Try.prog 77 #[.pointer (some ⟨E.ρ 0, 0, none⟩), .pointer (some ⟨E.ρ 0, 1, none⟩), sv] w (TbLeft E g ⟨t.S, t.H.filter fun h => !pr h, t.Q⟩ V w) := by
  obtain ⟨sa, sn, sc, rfl⟩ := sl_shape hs.sl
  have hl := ht.h
  have hm1 := bookPin hm0
  refine enter [.a (.ptr 0 0), .a (.ptr 0 1), .a (.v (.slice sa sn sc))] Try.func77 rfl rfl (hm1) rfl rfl ?_
  refine c_seq ?_
  refine c_region ?_
  refine o_new tok rfl rfl rfl rfl ?_
  refine o_yield rfl rfl rfl (y_val tok rfl) ?_
  refine o_end [1, 5] rfl ?_
  refine x_then ?_
  refine c_seq ?_
  refine c_region ?_
  refine o_yield rfl rfl rfl (y_val tok rfl) ?_
  refine o_yield rfl rfl rfl (y_val tok rfl) ?_
  refine o_yield rfl rfl rfl (y_val tok rfl) ?_
  refine o_yield rfl rfl rfl (y_own (s := .a (.v (I t.H.length))) 2 rfl rfl (fun v V' hv => y_len tok rfl (fun hg => hv))) ?_
  refine o_yield rfl rfl rfl (y_val tok rfl) ?_
  refine o_end [1, 5, 7] rfl ?_
  refine x_then ?_
  refine c_seq ?_
  refine c_region ?_
  refine o_yield rfl rfl rfl (y_val tok rfl) ?_
  refine o_yield rfl rfl rfl (y_val tok rfl) ?_
  refine o_yield rfl rfl rfl (y_val tok rfl) ?_
  refine o_yield rfl rfl rfl (y_val tok rfl) ?_
  refine o_yield rfl rfl rfl (y_val tok rfl) ?_
  refine o_step rfl rfl rfl rfl rfl (s_rowFn 92 4 (t.H.filter fun h => !pr h).length ((t.H.filter fun h => !pr h).flatMap Hold.cells) rfl fnok88 rfl (fun E w1 hm => delFunc_c _ _ pr t.H w1 (hm.row 2 _ _ _ _ rfl) (by omega) (fun x w2 hle => ⟨89, _, rfl, fnok89, condAll_c _ x _ f caps pr _ (hm.litRow rfl (q := 6) rfl) (hs.mono (hm.leRow (l := 2) rfl)) (fun y w3 h3 => hf y w3 ((hm.leRow (l := 2) rfl).trans h3)) w2 hle⟩))) (fun _ _ => ?_)
  refine o_yield rfl rfl rfl (y_val tok rfl) ?_
  refine o_store tok rfl rfl rfl (by first | exact ⟨trivial, trivial⟩ | (repeat' first | exact trivial | exact rfl | apply And.intro); done | simp [onesP, oneP, lk, Value.oneCell']) ?_
  refine o_end [1, 7] rfl ?_
  refine x_then ?_
  refine c_seq ?_
  refine c_region ?_
  refine o_yield rfl rfl rfl (y_val tok rfl) ?_
  refine o_yield rfl rfl rfl (y_val tok rfl) ?_
  refine o_yield rfl rfl rfl (y_val tok rfl) ?_
  refine o_yield rfl rfl rfl (y_val tok rfl) ?_
  refine o_yield rfl rfl rfl (y_own (s := .a (.v (I (t.H.filter fun h => !pr h).length))) 7 rfl rfl (fun v V' hv => y_len tok rfl (fun hg => hv))) ?_
  refine o_yield rfl rfl rfl (y_val tok rfl) ?_
  refine o_yield rfl rfl rfl (y_val tok rfl) ?_
  refine o_end [6] rfl ?_
  refine x_then ?_
  refine c_ret ?_
  refine b_ret tok rfl ?_
  intro E' w' hm _
  exact ⟨_, rfl, trivial, bookEnd hm (Vw.le.refl _) (a := 1) (b := 7) (c := 3) rfl rfl rfl rfl ⟨⟨by decide, by decide⟩, by decide⟩ rfl rfl⟩

theorem removeQ_c (g : Geo) (t : Tb) (ht : t.Fit) (pr : Hold → Bool) (sv : Value) (f : Nat) (caps : Array Value) (E : Env) (V : Vw) (w : World) (hm0 : Mem E (tbO g t) 4 V w) (hs : SlOf V encF 1 sv [.func (.func f) #[] caps]) (hf : Tells V (.func (.func f) #[] caps) pr) :
    Calls Try.prog 77 #[.pointer (some ⟨E.ρ 0, 0, none⟩), .pointer (some ⟨E.ρ 0, 2, none⟩), sv] w (TbLeft E g ⟨t.S, t.H, t.Q.filter fun h => !pr h⟩ V w) := by
  obtain ⟨sa, sn, sc, rfl⟩ := sl_shape hs.sl
  have hl := ht.q
  have hm1 := bookPin hm0
  refine enter [.a (.ptr 0 0), .a (.ptr 0 2), .a (.v (.slice sa sn sc))] Try.func77 rfl rfl (hm1) rfl rfl ?_
  refine c_seq ?_
  refine c_region ?_
  refine o_new tok rfl rfl rfl rfl ?_
  refine o_yield rfl rfl rfl (y_val tok rfl) ?_
  refine o_end [1, 5] rfl ?_
  refine x_then ?_
  refine c_seq ?_
  refine c_region ?_
  refine o_yield rfl rfl rfl (y_val tok rfl) ?_
  refine o_yield rfl rfl rfl (y_val tok rfl) ?_
  refine o_yield rfl rfl rfl (y_val tok rfl) ?_
  refine o_yield rfl rfl rfl (y_own (s := .a (.v (I t.Q.length))) 3 rfl rfl (fun v V' hv => y_len tok rfl (fun hg => hv))) ?_
  refine o_yield rfl rfl rfl (y_val tok rfl) ?_
  refine o_end [1, 5, 7] rfl ?_
  refine x_then ?_
  refine c_seq ?_
  refine c_region ?_
  refine o_yield rfl rfl rfl (y_val tok rfl) ?_
  refine o_yield rfl rfl rfl (y_val tok rfl) ?_
  refine o_yield rfl rfl rfl (y_val tok rfl) ?_
  refine o_yield rfl rfl rfl (y_val tok rfl) ?_
  refine o_yield rfl rfl rfl (y_val tok rfl) ?_
  refine o_step rfl rfl rfl rfl rfl (s_rowFn 92 4 (t.Q.filter fun h => !pr h).length ((t.Q.filter fun h => !pr h).flatMap Hold.cells) rfl fnok88 rfl (fun E w1 hm => delFunc_c _ _ pr t.Q w1 (hm.row 3 _ _ _ _ rfl) (by omega) (fun x w2 hle => ⟨89, _, rfl, fnok89, condAll_c _ x _ f caps pr _ (hm.litRow rfl (q := 6) rfl) (hs.mono (hm.leRow (l := 3) rfl)) (fun y w3 h3 => hf y w3 ((hm.leRow (l := 3) rfl).trans h3)) w2 hle⟩))) (fun _ _ => ?_)
  refine o_yield rfl rfl rfl (y_val tok rfl) ?_
  refine o_store tok rfl rfl rfl (by first | exact ⟨trivial, trivial⟩ | (repeat' first | exact trivial | exact rfl | apply And.intro); done | simp [onesP, oneP, lk, Value.oneCell']) ?_
  refine o_end [1, 7] rfl ?_
  refine x_then ?_
  refine c_seq ?_
  refine c_region ?_
  refine o_yield rfl rfl rfl (y_val tok rfl) ?_
  refine o_yield rfl rfl rfl (y_val tok rfl) ?_
  refine o_yield rfl rfl rfl (y_val tok rfl) ?_
  refine o_yield rfl rfl rfl (y_val tok rfl) ?_
  refine o_yield rfl rfl rfl (y_own (s := .a (.v (I (t.Q.filter fun h => !pr h).length))) 7 rfl rfl (fun v V' hv => y_len tok rfl (fun hg => hv))) ?_
  refine o_yield rfl rfl rfl (y_val tok rfl) ?_
  refine o_yield rfl rfl rfl (y_val tok rfl) ?_
  refine o_end [6] rfl ?_
  refine x_then ?_
  refine c_ret ?_
  refine b_ret tok rfl ?_
  intro E' w' hm _
  exact ⟨_, rfl, trivial, bookEnd hm (Vw.le.refl _) (a := 1) (b := 2) (c := 7) rfl rfl rfl rfl ⟨⟨by decide, by decide⟩, by decide⟩ rfl rfl⟩

theorem grantGo_at {l H Q : List Hold} {k : Nat} {x : Hold} (h : l[k]? = some x) : grantGo (l.drop k) H Q = if (fits x H && fits x Q) = true then grantGo (l.drop (k + 1)) (H ++ [x]) Q else grantGo (l.drop (k + 1)) H (Q ++ [x]) := by
  rw [drop_at h, grantGo]

theorem hold_snoc (L : List Hold) (x : Hold) : L.length + 1 = (L ++ [x]).length ∧ L.flatMap Hold.cells ++ x.cells = (L ++ [x]).flatMap Hold.cells := by simp

theorem grant_c (g : Geo) (t : Tb) (ht : t.Fit) (E : Env) (V : Vw) (w : World) (hm0 : Mem E (tbO g t) 4 V w) :
    Calls Try.prog 63 #[.pointer (some ⟨E.ρ 0, 0, none⟩)] w (TbLeft E g t.grant V w) := by
  have hh := ht.h
  have hq := ht.q
  have hlim : lim = 4398046511104 := rfl
  have hm1 := bookPin hm0
  refine enter [.a (.ptr 0 0)] Try.func63 rfl rfl (hm1) rfl rfl ?_
  refine c_seq ?_
  refine c_region ?_
  refine o_yield rfl rfl rfl (y_val tok rfl) ?_
  refine o_yield rfl rfl rfl (y_val tok rfl) ?_
  refine o_yield rfl rfl rfl (y_val tok rfl) ?_
  refine o_yield rfl rfl rfl (y_val tok rfl) ?_
  refine o_yield rfl rfl rfl (y_val tok rfl) ?_
  refine o_yield rfl rfl rfl (y_val tok rfl) ?_
  refine o_end [0, 2] rfl ?_
  refine x_then ?_
  refine c_seq ?_
  refine c_region ?_
  refine o_yield rfl rfl rfl (y_val tok rfl) ?_
  refine o_yield rfl rfl rfl (y_val tok rfl) ?_
  refine o_yield rfl rfl rfl (y_val tok rfl) ?_
  refine o_yield rfl rfl rfl (y_val tok rfl) ?_
  refine o_store tok rfl rfl rfl (by first | exact ⟨trivial, trivial⟩ | (repeat' first | exact trivial | exact rfl | apply And.intro); done | simp [onesP, oneP, lk, Value.oneCell']) ?_
  refine o_end [0, 2] rfl ?_
  refine x_then ?_
  refine c_seq ?_
  refine k_nilO 0 2 92 4 rfl rfl ?_
  refine c_region ?_
  refine o_yield rfl rfl rfl (y_val tok rfl) ?_
  refine o_yield rfl rfl rfl (y_own (s := .a (.v (I t.Q.length))) 3 rfl rfl (fun v V' hv => y_len tok rfl (fun hg => hv))) ?_
  refine o_yield rfl rfl rfl (y_val tok rfl) ?_
  refine o_end [0, 15, 16, 17] rfl ?_
  refine x_then ?_
  refine c_block ?_
  refine c_loopK [0, 15, 16] [2, 6] rfl rfl (σ := Nat × List Hold × List Hold) (fun (k, A, B) => [(17, .a (.v (I k)))]) (fun (k, A, B) => [(2, .row 92 4 A.length (A.flatMap Hold.cells)), (6, .row 92 4 B.length (B.flatMap Hold.cells))]) (fun (k, A, B) => k ≤ t.Q.length ∧ A.length + B.length = t.H.length + k ∧ grantGo (t.Q.drop k) A B = grantGo t.Q t.H []) (fun (k, A, B) => t.Q.length - k) ((0, t.H, [])) (⟨by omega, by simp, rfl⟩) (by repeat (first | exact SubF.nil | refine SubF.cons rfl ?_)) (by repeat (first | exact SubO.nil | refine SubO.cons rfl ?_)) rfl ?_
  rintro ⟨k, A, B⟩ ⟨hk, hl, hgo⟩
  dsimp only at hk hl hgo ⊢
  refine c_seq ?_
  refine c_region ?_
  refine o_yield rfl rfl rfl (y_val tok rfl) ?_
  refine o_end [0, 15, 16, 17, 18] rfl ?_
  refine x_then ?_
  refine c_seq ?_
  refine c_cond rfl (fun h => ?_) (fun h => ?_)
  ·
    simp only [Bool.and_eq_true, Bool.or_eq_true, Bool.not_eq_true', Bool.or_eq_false_iff, Bool.and_eq_false_iff, decide_eq_true_eq, decide_eq_false_iff_not, beq_iff_eq, bne_iff_ne, Bool.not_eq_false', beq_eq_false_iff_ne, bne_eq_false_iff_eq, ne_eq, Decidable.not_not, Int.not_lt, Int.not_le] at h
    refine c_skip ?_
    refine x_then ?_
    refine c_seq ?_
    refine c_block ?_
    refine c_seq ?_
    refine c_region ?_
    obtain ⟨x, hx⟩ : ∃ x, t.Q[k]? = some x := ⟨_, List.getElem?_eq_getElem (by omega)⟩
    rw [grantGo_at hx] at hgo
    have hwk : IntKind.i64.wrap ((k : Int) + 1) = ((k + 1 : Nat) : Int) := wrapI (by omega) (by omega)
    refine o_yield rfl rfl rfl (y_own (s := .a (.rel 3 (k * 4))) 3 rfl rfl (fun v V' hv => y_idxK tok (k * 4) rfl (by simp) (fun hg => hv) (fun hg => by dsimp only [hoR]; omega))) ?_
    refine o_yield rfl rfl rfl (y_own (s := .agg (x.cells.map .v)) 3 rfl rfl (fun v V' hv => y_lel (enc := Hold.cells) (l := t.Q) tok k 0 x rfl (fun hg => ⟨hv, fun _ => rfl⟩) (fun hg => hx) rfl rfl)) ?_
    refine o_new tok rfl rfl rfl rfl ?_
    refine o_store tok rfl rfl rfl (by first | exact ⟨trivial, trivial⟩ | (repeat' first | exact trivial | exact rfl | apply And.intro); done | simp [onesP, oneP, lk, Value.oneCell']) ?_
    refine o_end [0, 4, 15, 16, 17] rfl ?_
    refine x_then ?_
    refine c_seq ?_
    refine c_region ?_
    refine o_yield rfl rfl rfl (y_val tok rfl) ?_
    refine o_yield rfl rfl rfl (y_val tok rfl) ?_
    refine o_yield rfl rfl rfl (y_val tok rfl) ?_
    refine o_yield rfl rfl rfl (y_val tok rfl) ?_
    refine o_yield rfl rfl rfl (y_val tok rfl) ?_
    refine o_end [0, 4, 5, 15, 16, 17] rfl ?_
    refine x_then ?_
    refine c_seq ?_
    refine c_seq ?_
    refine c_draw mixed (by kernel_rfl) ?_
    refine d_yield rfl rfl rfl (y_val tok rfl) rfl ?_
    refine d_yield rfl rfl rfl (y_val tok rfl) rfl ?_
    refine d_yield rfl rfl rfl (y_val tok rfl) rfl ?_
    refine d_yield rfl rfl rfl (y_val tok rfl) rfl ?_
    refine d_yield rfl rfl rfl (y_val tok rfl) rfl ?_
    refine d_yield rfl rfl rfl (y_val tok rfl) rfl ?_
    refine d_call (.a (.v _)) rfl rfl fnok83 rfl rfl rfl (fun hg E w1 hm => by exact spFits_c (vw w1) x (E.κ 2) A _ (Vw.le.refl _) (hm.rowOf 2 rfl (fun _ => rfl)) (by omega)) ?_
    refine d_yield rfl rfl rfl (y_val tok rfl) rfl ?_
    refine d_yield rfl rfl rfl (y_val tok rfl) rfl ?_
    refine d_yield rfl rfl rfl (y_val tok rfl) rfl ?_
    refine d_yield rfl rfl rfl (y_val tok rfl) rfl ?_
    refine d_yield rfl rfl rfl (y_val tok rfl) rfl ?_
    refine d_yield rfl rfl rfl (y_val tok rfl) rfl ?_
    refine d_yield rfl rfl rfl (y_val tok rfl) rfl ?_
    refine d_call (.a (.v _)) rfl rfl fnok83 rfl rfl rfl (fun hg E w1 hm => by exact spFits_c (vw w1) x (E.κ 6) B _ (Vw.le.refl _) (hm.rowOf 6 rfl (fun _ => rfl)) (by omega)) ?_
    refine d_yield rfl rfl rfl (y_val tok rfl) rfl ?_
    refine d_end [0, 4, 5, 15, 16, 17, 40] rfl ?_
    refine x_then ?_
    refine c_cond rfl (fun h => ?_) (fun h => ?_)
    ·
      refine c_region ?_
      refine o_yield rfl rfl rfl (y_val tok rfl) ?_
      refine o_yield rfl rfl rfl (y_val tok rfl) ?_
      refine o_yield rfl rfl rfl (y_val tok rfl) ?_
      refine o_yield rfl rfl rfl (y_val tok rfl) ?_
      refine o_yield rfl rfl rfl (y_val tok rfl) ?_
      refine o_end [0, 4, 5, 15, 16, 17] rfl ?_
      refine x_then ?_
      refine c_heldS [6, 8] mixed rfl (by repeat (first | exact SubO.nil | refine SubO.cons rfl ?_)) (by first | rfl | simp [okCels, allOk_plain]) ?_
      refine t_takeR 0 rfl (by kernel_rfl) rfl rfl rfl (fun _ => y_val tok rfl) rfl ?_
      refine t_takeD 1 rfl (by kernel_rfl) rfl rfl rfl (y_val tok rfl) rfl ?_
      refine t_takeD 2 rfl (by kernel_rfl) rfl rfl rfl (y_val tok rfl) rfl ?_
      refine t_takeD 3 rfl (by kernel_rfl) rfl rfl rfl (y_val tok rfl) rfl ?_
      refine t_takeD 4 rfl (by kernel_rfl) rfl rfl rfl (y_val tok rfl) rfl ?_
      refine t_go ?_
      refine h_one 5 (by kernel_rfl) ?_
      rw [if_pos h] at hgo
      clear h
      refine h_to 5 rfl rfl rfl rfl rfl rfl (s_bs tok 4 rfl rfl rfl) (.inr fun _ _ => ⟨(by repeat (first | exact SubO.nil | refine SubO.cons rfl ?_)), rfl, (by first | exact Vw.le.refl _ | assumption)⟩) (fun _ _ => ?_)
      refine h_one 6 (by kernel_rfl) ?_
      refine h_to 6 rfl rfl rfl rfl rfl rfl (s_app tok x.cells rfl (fun E w hm => ownsRow_src (hm.row _ _ _ _ _ rfl)) (fun _ _ _ => by simpa using hold_ones [x]) (by dsimp only; omega)) (.inl rfl) (fun _ _ => ?_)
      refine h_one 7 (by kernel_rfl) ?_
      refine h_yield 7 rfl rfl rfl rfl (y_val tok rfl) ?_
      refine h_one 8 (by kernel_rfl) ?_
      refine h_store 8 tok rfl rfl rfl rfl (by first | exact ⟨trivial, trivial⟩ | (repeat' first | exact trivial | exact rfl | apply And.intro); done | simp [onesP, oneP, lk, Value.oneCell']) (.inl rfl) ?_
      refine h_done [0, 15, 16, 17] (by kernel_rfl) rfl ?_
      refine x_block ?_
      refine x_then ?_
      refine c_region ?_
      refine o_yield rfl rfl rfl (y_val tok rfl) ?_
      refine o_yield rfl rfl rfl (y_val tok rfl) ?_
      refine o_end [0, 15, 16, 17] rfl ?_
      refine x_then ?_
      rw [(hold_snoc A x).1, (hold_snoc A x).2, hwk]
      refine k_swap 2 9 rfl ?_
      refine x_round ((k + 1, A ++ [x], B)) (⟨by dsimp only; omega, by simp; omega, hgo⟩) (by first | omega | (dsimp only; omega)) (by repeat (first | exact SubF.nil | refine SubF.cons rfl ?_)) (by repeat (first | exact SubO.nil | refine SubO.cons rfl ?_)) rfl (Vw.le.refl _)
    ·
      refine c_skip ?_
      refine x_then ?_
      refine c_heldS [6, 8] mixed rfl (by repeat (first | exact SubO.nil | refine SubO.cons rfl ?_)) (by first | rfl | simp [okCels, allOk_plain]) ?_
      refine t_takeR 0 rfl (by kernel_rfl) rfl rfl rfl (fun _ => y_val tok rfl) rfl ?_
      refine t_takeD 1 rfl (by kernel_rfl) rfl rfl rfl (y_val tok rfl) rfl ?_
      refine t_takeD 2 rfl (by kernel_rfl) rfl rfl rfl (y_val tok rfl) rfl ?_
      refine t_takeD 3 rfl (by kernel_rfl) rfl rfl rfl (y_val tok rfl) rfl ?_
      refine t_takeD 4 rfl (by kernel_rfl) rfl rfl rfl (y_val tok rfl) rfl ?_
      refine t_go ?_
      refine h_one 5 (by kernel_rfl) ?_
      rw [if_neg (by rw [h]; simp)] at hgo
      clear h
      refine h_to 5 rfl rfl rfl rfl rfl rfl (s_bs tok 4 rfl rfl rfl) (.inr fun _ _ => ⟨(by repeat (first | exact SubO.nil | refine SubO.cons rfl ?_)), rfl, (by first | exact Vw.le.refl _ | assumption)⟩) (fun _ _ => ?_)
      refine h_one 6 (by kernel_rfl) ?_
      refine h_to 6 rfl rfl rfl rfl rfl rfl (s_app tok x.cells rfl (fun E w hm => ownsRow_src (hm.row _ _ _ _ _ rfl)) (fun _ _ _ => by simpa using hold_ones [x]) (by dsimp only; omega)) (.inl rfl) (fun _ _ => ?_)
      refine h_one 7 (by kernel_rfl) ?_
      refine h_yield 7 rfl rfl rfl rfl (y_val tok rfl) ?_
      refine h_one 8 (by kernel_rfl) ?_
      refine h_store 8 tok rfl rfl rfl rfl (by first | exact ⟨trivial, trivial⟩ | (repeat' first | exact trivial | exact rfl | apply And.intro); done | simp [onesP, oneP, lk, Value.oneCell']) (.inl rfl) ?_
      refine h_done [0, 15, 16, 17] (by kernel_rfl) rfl ?_
      refine x_block ?_
      refine x_then ?_
      refine c_region ?_
      refine o_yield rfl rfl rfl (y_val tok rfl) ?_
      refine o_yield rfl rfl rfl (y_val tok rfl) ?_
      refine o_end [0, 15, 16, 17] rfl ?_
      refine x_then ?_
      rw [(hold_snoc B x).1, (hold_snoc B x).2, hwk]
      refine k_swap 6 9 rfl ?_
      refine x_round ((k + 1, A, B ++ [x])) (⟨by dsimp only; omega, by simp; omega, hgo⟩) (by first | omega | (dsimp only; omega)) (by repeat (first | exact SubF.nil | refine SubF.cons rfl ?_)) (by repeat (first | exact SubO.nil | refine SubO.cons rfl ?_)) rfl (Vw.le.refl _)
  ·
    simp only [Bool.and_eq_true, Bool.or_eq_true, Bool.not_eq_true', Bool.or_eq_false_iff, Bool.and_eq_false_iff, decide_eq_true_eq, decide_eq_false_iff_not, beq_iff_eq, bne_iff_ne, Bool.not_eq_false', beq_eq_false_iff_ne, bne_eq_false_iff_eq, ne_eq, Decidable.not_not, Int.not_lt, Int.not_le] at h
    have hkl : k = t.Q.length := by omega
    subst hkl
    rw [List.drop_length] at hgo
    have hA : t.grant = ⟨t.S, A, B⟩ := by rw [Tb.grant, ← hgo]; rfl
    rw [hA]
    clear h hA
    refine c_exit ?_
    refine x_then_exit ?_
    refine x_then_exit ?_
    refine x_block_hit ?_
    refine b_end tok rfl ?_
    intro E' w' hm _
    exact ⟨_, rfl, trivial, bookEnd hm (Vw.le.refl _) (a := 1) (b := 2) (c := 6) rfl rfl rfl rfl ⟨⟨by decide, by decide⟩, by decide⟩ rfl rfl⟩

/-- A book's cells. -/
abbrev bkC (sv hv qv : Value) (g : Geo) : List Value := sv :: hv :: qv :: g.cells

theorem bSlot_c (V : Vw) (b : Nat) (sv hv qv : Value) (g : Geo) (S : List Slot) (key : Int) (w : World) (hV : V.le (vw w)) (hb : V.get b = some (.cells (bkC sv hv qv g).toArray 100 (0, 0))) (hs0 : SlOf V Slot.cells 2 sv S) (hn : S.length ≤ lim) :
    Calls Try.prog 56 #[.pointer (some ⟨b, 0, none⟩), I key] w fun e w' => e = .returned (.tuple #[I (max (slotI S key) 0), .bool (decide (0 ≤ slotI S key))]) ∧ Below w.heap.size w w' := by
  obtain ⟨a, n, c, rfl⟩ := sl_shape hs0.sl
  have hs := hs0.mono hV
  refine enter (E := E0) (O := []) (nl := 0) (V := vw w) [.a (.v (.pointer (some ⟨b, 0, none⟩))), .a (.v (I key))] Try.func56 rfl rfl (mem0 E0 0 w) rfl rfl ?_
  refine c_seq ?_
  refine c_region ?_
  refine o_yield rfl rfl rfl (y_val tok rfl) ?_
  refine o_yield rfl rfl rfl (y_val tok rfl) ?_
  refine o_end [0, 1] rfl ?_
  refine x_then ?_
  refine c_seq ?_
  refine c_region ?_
  refine o_yield rfl rfl rfl (y_val tok rfl) ?_
  refine o_yield rfl rfl rfl (y_val tok rfl) ?_
  refine o_yield rfl rfl rfl (y_val tok rfl) ?_
  refine o_yield rfl rfl rfl (y_ldp (cs := bkC (.slice a n c) hv qv g) tok rfl (fun hg => hV.get _ _ hb) rfl) ?_
  refine o_yield rfl rfl rfl (y_val tok rfl) ?_
  refine o_call (.a (.v _)) rfl rfl fnok76 rfl rfl rfl (fun hg E w1 hm => by exact tSlot_c (vw w1) a n c hv qv S key _ (Vw.le.refl _) (hs.mono hm.leV) hn) ?_
  refine o_yield rfl rfl rfl (y_val tok rfl) ?_
  refine o_yield rfl rfl rfl (y_val tok rfl) ?_
  refine o_yield rfl rfl rfl (y_val tok rfl) ?_
  refine o_yield rfl rfl rfl (y_val tok rfl) ?_
  refine o_end [4, 5] rfl ?_
  refine x_then ?_
  refine c_ret ?_
  refine b_ret tok rfl ?_
  intro E w' hm _
  refine ⟨?_, hm.below (Vw.le.refl _)⟩
  rfl

theorem slotI_slot (t : Tb) (key : Int) : (t.slot key = none ∧ slotI t.S key = -1) ∨ ∃ k : Nat, t.slot key = some k ∧ slotI t.S key = k ∧ k < t.S.length := by
  unfold Tb.slot slotI
  split
  · exact .inl ⟨rfl, rfl⟩
  · unfold idxOf
    cases hq : t.S.findIdx? (fun x => x.key == key) with
    | none => exact .inl ⟨rfl, rfl⟩
    | some k =>
      rw [List.findIdx?_eq_some_iff_getElem] at hq
      exact .inr ⟨k, rfl, rfl, hq.1⟩

theorem slR_set (S : List Slot) (k : Nat) (a : Slot) : (⟨67, 2, S.length, (S.set k a).flatMap Slot.cells⟩ : Rw) = slR (S.set k a) := by simp [slR]

theorem Tells.mono {V V' : Vw} {fv : Value} {pr : Hold → Bool} (h : Tells V fv pr) (hle : V.le V') : Tells V' fv pr := fun x w hw => h x w (hle.trans hw)

theorem clear_c (g : Geo) (t : Tb) (ht : t.Fit) (k : Nat) (x : Slot) (hx : t.S[k]? = some x) (E : Env) (V : Vw) (w : World) (hm0 : Mem E (tbO g t) 4 V w) :
    Calls Try.prog 59 #[.pointer (some ⟨E.ρ 0, 0, none⟩), I k] w (TbLeft E g (t.clear k) V w) := by
  have hsl := ht.s
  have hk := lt_of_at hx
  have hm1 := bookPin hm0
  have hcl : t.clear k = Tb.grant ⟨t.S.set k ⟨0, 0⟩, t.H.filter (fun h => !(h.key == x.key)), t.Q.filter (fun h => !(h.key == x.key))⟩ := by rw [Tb.clear, slotKey_at hx]
  rw [hcl]
  refine enter [.a (.ptr 0 0), .a (.v (I k))] Try.func59 rfl rfl (hm1) rfl rfl ?_
  refine c_seq ?_
  refine c_region ?_
  refine o_yield rfl rfl rfl (y_val tok rfl) ?_
  refine o_yield rfl rfl rfl (y_val tok rfl) ?_
  refine o_yield rfl rfl rfl (y_val tok rfl) ?_
  refine o_yield rfl rfl rfl (y_val tok rfl) ?_
  refine o_yield rfl rfl rfl (y_val tok rfl) ?_
  refine o_yield rfl rfl rfl (y_val tok rfl) ?_
  refine o_yield rfl rfl rfl (y_own (s := .a (.rel 1 (k * 2))) 1 rfl rfl (fun v V' hv => y_idxK tok (k * 2) rfl (by simp) (fun hg => hv) (fun hg => by dsimp only [slR]; omega))) ?_
  refine o_yield rfl rfl rfl (y_own (s := .a (.rel 1 (k * 2))) 1 rfl rfl (fun v V' hv => y_fel tok rfl (fun hg => hv) (fun hg => by dsimp only [slR]; omega))) ?_
  refine o_yield rfl rfl rfl (y_own (s := .a (.v (I x.key))) 1 rfl rfl (fun v V' hv => y_lel (enc := Slot.cells) (l := t.S) tok k 0 x rfl (fun hg => ⟨hv, fun _ => rfl⟩) (fun hg => hx) rfl rfl)) ?_
  refine o_yield rfl rfl rfl (y_val tok rfl) ?_
  refine o_end [0, 1, 4] rfl ?_
  refine x_then ?_
  refine c_seq ?_
  refine c_heldS [8] mixed rfl (by repeat (first | exact SubO.nil | refine SubO.cons rfl ?_)) (by first | rfl | simp [okCels, allOk_plain]) ?_
  refine t_takeD 0 rfl (by kernel_rfl) rfl rfl rfl (y_val tok rfl) rfl ?_
  refine t_takeD 1 rfl (by kernel_rfl) rfl rfl rfl (y_val tok rfl) rfl ?_
  refine t_takeD 2 rfl (by kernel_rfl) rfl rfl rfl (y_val tok rfl) rfl ?_
  refine t_takeD 3 rfl (by kernel_rfl) rfl rfl rfl (y_val tok rfl) rfl ?_
  refine t_takeD 4 rfl (by kernel_rfl) rfl rfl rfl (y_val tok rfl) rfl ?_
  refine t_takeD 5 rfl (by kernel_rfl) rfl rfl rfl (y_val tok rfl) rfl ?_
  refine t_go ?_
  refine h_one 6 (by kernel_rfl) ?_
  refine h_callV 6 (fun v V' => MkTells (fun h => h.key == x.key) v V') rfl rfl rfl fnok66 rfl rfl (fun hg E w1 hm => by exact mkBy_c V x.key _ hm.leV) ?_
  rintro v1 V1 hle1 hf1
  obtain ⟨f1, caps1, rfl, hf1⟩ := hf1 rfl
  refine h_one 7 (by kernel_rfl) ?_
  refine h_to 7 rfl rfl rfl rfl rfl rfl (s_bs tok 1 rfl rfl rfl) (.inr fun _ _ => ⟨(by repeat (first | exact SubO.nil | refine SubO.cons rfl ?_)), rfl, (by first | exact Vw.le.refl _ | assumption)⟩) (fun _ _ => ?_)
  refine h_one 8 (by kernel_rfl) ?_
  refine h_to 8 rfl rfl rfl rfl rfl rfl (s_bookW (a := 1) (b := 2) (c := 3) (fun _ => True) (slR t.S) (hoR (t.H.filter fun h => !(h.key == x.key))) (hoR t.Q) rfl fnok77 rfl rfl rfl rfl ⟨⟨by decide, by decide⟩, by decide⟩ (fun E w hm hin hle => removeH_c g t ht (fun h => h.key == x.key) _ f1 caps1 (bkE E 0 1 2 3) _ w hin (hm.bkRow (L := [Value.func (.func f1) #[] caps1]) (a := 1) (b := 2) (c := 3) rfl rfl rfl rfl (q := 6) rfl ⟨⟨⟨by decide, by decide⟩, by decide⟩, by decide⟩ (fun _ => rfl)) (hf1.mono hle))) (.inl rfl) (fun _ _ => ?_)
  refine h_done [0, 1, 4] (by kernel_rfl) rfl ?_
  refine x_then ?_
  refine c_seq ?_
  refine c_heldS [8] mixed rfl (by repeat (first | exact SubO.nil | refine SubO.cons rfl ?_)) (by first | rfl | simp [okCels, allOk_plain]) ?_
  refine t_takeD 0 rfl (by kernel_rfl) rfl rfl rfl (y_val tok rfl) rfl ?_
  refine t_takeD 1 rfl (by kernel_rfl) rfl rfl rfl (y_val tok rfl) rfl ?_
  refine t_takeD 2 rfl (by kernel_rfl) rfl rfl rfl (y_val tok rfl) rfl ?_
  refine t_takeD 3 rfl (by kernel_rfl) rfl rfl rfl (y_val tok rfl) rfl ?_
  refine t_takeD 4 rfl (by kernel_rfl) rfl rfl rfl (y_val tok rfl) rfl ?_
  refine t_takeD 5 rfl (by kernel_rfl) rfl rfl rfl (y_val tok rfl) rfl ?_
  refine t_go ?_
  refine h_one 6 (by kernel_rfl) ?_
  obtain ⟨H1, hH1⟩ : ∃ H1, H1 = t.H.filter fun h => !(h.key == x.key) := ⟨_, rfl⟩
  have hH1l : H1.length ≤ t.H.length := by rw [hH1]; exact List.length_filter_le _ _
  rw [← hH1]
  refine h_callV 6 (fun v V' => MkTells (fun h => h.key == x.key) v V') rfl rfl rfl fnok66 rfl rfl (fun hg E w1 hm => by exact mkBy_c V1 x.key _ hm.leV) ?_
  rintro v2 V2 hle2 hf2
  obtain ⟨f2, caps2, rfl, hf2⟩ := hf2 rfl
  refine h_one 7 (by kernel_rfl) ?_
  refine h_to 7 rfl rfl rfl rfl rfl rfl (s_bs tok 1 rfl rfl rfl) (.inr fun _ _ => ⟨(by repeat (first | exact SubO.nil | refine SubO.cons rfl ?_)), rfl, (by first | exact Vw.le.refl _ | assumption)⟩) (fun _ _ => ?_)
  refine h_one 8 (by kernel_rfl) ?_
  refine h_to 8 rfl rfl rfl rfl rfl rfl (s_bookW (a := 7) (b := 8) (c := 9) (fun _ => True) (slR t.S) (hoR H1) (hoR (t.Q.filter fun h => !(h.key == x.key))) rfl fnok77 rfl rfl rfl rfl ⟨⟨by decide, by decide⟩, by decide⟩ (fun E w hm hin hle => removeQ_c g ⟨t.S, H1, t.Q⟩ ⟨ht.s, Nat.le_trans hH1l ht.h, ht.q⟩ (fun h => h.key == x.key) _ f2 caps2 (bkE E 0 7 8 9) _ w hin (hm.bkRow (L := [Value.func (.func f2) #[] caps2]) (a := 7) (b := 8) (c := 9) rfl rfl rfl rfl (q := 10) rfl ⟨⟨⟨by decide, by decide⟩, by decide⟩, by decide⟩ (fun _ => rfl)) (hf2.mono hle))) (.inl rfl) (fun _ _ => ?_)
  refine h_done [0, 1] (by kernel_rfl) rfl ?_
  refine x_then ?_
  refine c_seq ?_
  refine c_region ?_
  refine o_yield rfl rfl rfl (y_val tok rfl) ?_
  refine o_yield rfl rfl rfl (y_val tok rfl) ?_
  refine o_yield rfl rfl rfl (y_val tok rfl) ?_
  refine o_yield rfl rfl rfl (y_val tok rfl) ?_
  refine o_yield rfl rfl rfl (y_val tok rfl) ?_
  refine o_yield rfl rfl rfl (y_val tok rfl) ?_
  refine o_yield rfl rfl rfl (y_val tok rfl) ?_
  obtain ⟨Q1, hQ1⟩ : ∃ Q1, Q1 = t.Q.filter fun h => !(h.key == x.key) := ⟨_, rfl⟩
  have hQ1l : Q1.length ≤ t.Q.length := by rw [hQ1]; exact List.length_filter_le _ _
  rw [← hQ1]
  refine o_yield rfl rfl rfl (y_own (s := .a (.rel 11 (k * 2))) 11 rfl rfl (fun v V' hv => y_idxK tok (k * 2) rfl (by simp) (fun hg => hv) (fun hg => by dsimp only [slR]; omega))) ?_
  refine o_stepN rfl rfl rfl rfl (s_rst tok rfl rfl (by simpa using slot_ones [⟨0, 0⟩]) (by show k * 2 + 2 ≤ _; dsimp only [slR]; omega) (by dsimp only [slR]; omega)) (fun _ _ => ?_)
  refine o_end [0] rfl ?_
  refine x_then ?_
  refine c_region ?_
  refine o_yield rfl rfl rfl (y_val tok rfl) ?_
  rw [show overL (k * 2) _ _ = (t.S.set k ⟨0, 0⟩).flatMap Slot.cells from overL_set (enc := Slot.cells) (sz := 2) (fun _ => rfl) t.S k ⟨0, 0⟩ hk]
  refine o_step rfl rfl rfl rfl rfl (s_bookW (a := 11) (b := 12) (c := 13) (R1 := ⟨67, 2, t.S.length, (t.S.set k ⟨0, 0⟩).flatMap Slot.cells⟩) (R2 := hoR H1) (R3 := hoR Q1) (fun _ => True) (slR (t.S.set k ⟨0, 0⟩)) (hoR (Tb.grant ⟨t.S.set k ⟨0, 0⟩, H1, Q1⟩).H) (hoR (Tb.grant ⟨t.S.set k ⟨0, 0⟩, H1, Q1⟩).Q) rfl fnok63 rfl rfl rfl rfl ⟨⟨by decide, by decide⟩, by decide⟩ (fun E w hm hin hle => grant_c g ⟨t.S.set k ⟨0, 0⟩, H1, Q1⟩ ⟨by simpa using ht.s, Nat.le_trans hH1l ht.h, Nat.le_trans hQ1l ht.q⟩ (bkE E 0 11 12 13) _ w (by rw [slR_set] at hin; exact hin))) (fun _ _ => ?_)
  refine o_end [] rfl ?_
  refine b_end tok rfl ?_
  intro E' w' hm _
  exact ⟨_, rfl, trivial, bookEnd hm (by repeat (first | exact Vw.le.refl _ | assumption | (refine Vw.le.trans ?_ (by assumption)))) (a := 14) (b := 15) (c := 16) rfl rfl rfl rfl ⟨⟨by decide, by decide⟩, by decide⟩ rfl rfl⟩

theorem leave_c (g : Geo) (t : Tb) (ht : t.Fit) (c : Cmd) (E : Env) (V : Vw) (w : World) (hm0 : Mem E (tbO g t) 4 V w) :
    Calls Try.prog 45 #[.pointer (some ⟨E.ρ 0, 0, none⟩), c.val] w (TbLeft E g (t.leave c.by_) V w) := by
  have hsl := ht.s
  have hlim : lim = 4398046511104 := rfl
  have hm1 := bookPin hm0
  refine enter [.a (.ptr 0 0), .a (.v c.val)] Try.func45 rfl rfl (hm1) rfl rfl ?_
  refine c_seq ?_
  refine c_region ?_
  refine o_new tok rfl rfl rfl rfl ?_
  refine o_end [0, 3] rfl ?_
  refine x_then ?_
  refine c_seq ?_
  refine c_region ?_
  refine o_yield rfl rfl rfl (y_val tok rfl) ?_
  refine o_yield rfl rfl rfl (y_val tok rfl) ?_
  refine o_yield rfl rfl rfl (y_val tok rfl) ?_
  refine o_call (.a (.v _)) rfl rfl fnok56 rfl rfl rfl (fun hg E w1 hm => by exact bSlot_c (vw w1) (E.ρ 0) (E.κ 1) (E.κ 2) (E.κ 3) g t.S c.by_ _ (Vw.le.refl _) (hm.lit 0 _ _ rfl) (hm.rowOf 1 rfl (fun _ => rfl)) (by omega)) ?_
  refine o_yield rfl rfl rfl (y_val tok rfl) ?_
  refine o_yield rfl rfl rfl (y_val tok rfl) ?_
  refine o_yield rfl rfl rfl (y_val tok rfl) ?_
  refine o_yield rfl rfl rfl (y_val tok rfl) ?_
  refine o_yield rfl rfl rfl (y_val tok rfl) ?_
  refine o_end [0, 4, 5] rfl ?_
  refine x_then ?_
  refine c_seq ?_
  refine c_region ?_
  refine o_yield rfl rfl rfl (y_val tok rfl) ?_
  refine o_end [0, 4, 13] rfl ?_
  refine x_then ?_
  refine c_cond rfl (fun h => ?_) (fun h => ?_)
  ·
    rcases slotI_slot t c.by_ with ⟨h1, h2⟩ | ⟨k, h1, h2, hk⟩
    · rw [h2] at h; simp at h
    · have hres : t.leave c.by_ = t.clear k := by rw [Tb.leave, h1]
      rw [hres]
      obtain ⟨x, hx⟩ : ∃ x, t.S[k]? = some x := ⟨_, List.getElem?_eq_getElem hk⟩
      clear h
      have hmx : max (slotI t.S c.by_) 0 = (k : Int) := by rw [h2]; omega
      rw [hmx]
      refine c_region ?_
      refine o_yield rfl rfl rfl (y_val tok rfl) ?_
      refine o_yield rfl rfl rfl (y_val tok rfl) ?_
      refine o_step rfl rfl rfl rfl rfl (s_bookW (a := 1) (b := 2) (c := 3) (fun _ => True) (slR (t.clear k).S) (hoR (t.clear k).H) (hoR (t.clear k).Q) rfl fnok59 rfl rfl rfl rfl ⟨⟨by decide, by decide⟩, by decide⟩ (fun E w hm hin hle => clear_c g t ht k x hx (bkE E 0 1 2 3) _ w hin)) (fun _ _ => ?_)
      refine o_end [] rfl ?_
      refine b_end tok rfl ?_
      intro E' w' hm _
      exact ⟨_, rfl, trivial, bookEnd hm (by repeat (first | exact Vw.le.refl _ | assumption | (refine Vw.le.trans ?_ (by assumption)))) (a := 7) (b := 8) (c := 9) rfl rfl rfl rfl ⟨⟨by decide, by decide⟩, by decide⟩ rfl rfl⟩
  ·
    refine c_skip ?_
    refine b_end tok rfl ?_
    rcases slotI_slot t c.by_ with ⟨h1, h2⟩ | ⟨k, h1, h2, hk⟩
    · have hres : t.leave c.by_ = t := by rw [Tb.leave, h1]
      rw [hres]
      intro E' w' hm _
      exact ⟨_, rfl, trivial, bookEnd hm (by repeat (first | exact Vw.le.refl _ | assumption | (refine Vw.le.trans ?_ (by assumption)))) (a := 1) (b := 2) (c := 3) rfl rfl rfl rfl ⟨⟨by decide, by decide⟩, by decide⟩ rfl rfl⟩
    · rw [h2] at h; simp at h

theorem slot_flat (l : List Slot) : (l.flatMap Slot.cells).length = l.length * 2 := by
  induction l with
  | nil => rfl
  | cons a r ih => rw [List.flatMap_cons, List.length_append, ih, List.length_cons]; simp [Slot.cells]; omega

theorem slot_split {S : List Slot} {k : Nat} {x : Slot} (hx : S[k]? = some x) (y : Slot) :
    S.flatMap Slot.cells = (S.take k).flatMap Slot.cells ++ (I x.key :: I x.claim :: (S.drop (k + 1)).flatMap Slot.cells) ∧ (S.set k y).flatMap Slot.cells = (S.take k).flatMap Slot.cells ++ (I y.key :: I y.claim :: (S.drop (k + 1)).flatMap Slot.cells) ∧ ((S.take k).flatMap Slot.cells).length = k * 2 := by
  have hk := lt_of_at hx
  refine ⟨?_, ?_, ?_⟩
  · conv => lhs; rw [← List.take_append_drop k S, drop_at hx]
    simp [List.flatMap_append, List.flatMap_cons]
  · rw [List.set_eq_take_append_cons_drop, if_pos hk]
    simp [List.flatMap_append, List.flatMap_cons]
  · rw [slot_flat, List.length_take]; omega

theorem over_key {S : List Slot} {k : Nat} {x : Slot} (hx : S[k]? = some x) (a : Int) : overL (k * 2) [I a] (S.flatMap Slot.cells) = (S.set k ⟨a, x.claim⟩).flatMap Slot.cells := by
  obtain ⟨h1, h2, h3⟩ := slot_split hx ⟨a, x.claim⟩
  rw [h1, h2, overL, List.take_left' h3, List.length_singleton, ← h3, List.drop_append]
  simp

theorem over_mid (A B : List Value) (p q a : Value) : overL (A.length + 1) [a] (A ++ p :: q :: B) = A ++ p :: a :: B := by
  have h1 : A ++ p :: q :: B = (A ++ [p]) ++ q :: B := by simp
  have h2 : A ++ p :: q :: B = (A ++ [p, q]) ++ B := by simp
  rw [overL, List.length_singleton]
  conv => lhs; lhs; rw [h1, List.take_left' (by simp)]
  rw [h2, List.drop_left' (by simp)]
  simp

theorem over_claim {S : List Slot} {k : Nat} {x : Slot} (hx : S[k]? = some x) (a : Int) : overL (k * 2 + 1) [I a] (S.flatMap Slot.cells) = (S.set k ⟨x.key, a⟩).flatMap Slot.cells := by
  obtain ⟨h1, h2, h3⟩ := slot_split hx ⟨x.key, a⟩
  rw [h1, h2, ← h3]
  exact over_mid _ _ _ _ _

theorem idxOf_find {α : Type} (pr : α → Bool) (l : List α) : (l.findIdx? pr = none ∧ idxOf pr l = -1) ∨ ∃ (k : Nat) (x : α), l.findIdx? pr = some k ∧ idxOf pr l = k ∧ l[k]? = some x ∧ pr x = true ∧ ∀ (j : Nat) (y : α), j < k → l[j]? = some y → pr y = false := by
  rcases findIdx_cases pr l with ⟨h1, _⟩ | ⟨k, x, h1, h2⟩
  · exact .inl ⟨h1, by rw [idxOf, h1]⟩
  · exact .inr ⟨k, x, h1, by rw [idxOf, h1], h2⟩

theorem mount_c (g : Geo) (t : Tb) (ht : t.Fit) (c : Cmd) (E : Env) (V : Vw) (w : World) (hm0 : Mem E (tbO g t) 4 V w) :
    Calls Try.prog 44 #[.pointer (some ⟨E.ρ 0, 0, none⟩), c.val] w (TbLeft E g (t.mount c.by_) V w) := by
  have hsl := ht.s
  have hlim : lim = 4398046511104 := rfl
  have hm1 := bookPin hm0
  refine enter [.a (.ptr 0 0), .a (.v c.val)] Try.func44 rfl rfl (hm1) rfl rfl ?_
  refine c_seq ?_
  refine c_region ?_
  refine o_new tok rfl rfl rfl rfl ?_
  refine o_end [0, 3] rfl ?_
  refine x_then ?_
  refine c_seq ?_
  refine c_region ?_
  refine o_yield rfl rfl rfl (y_val tok rfl) ?_
  refine o_yield rfl rfl rfl (y_val tok rfl) ?_
  refine o_yield rfl rfl rfl (y_val tok rfl) ?_
  refine o_call (.a (.v _)) rfl rfl fnok56 rfl rfl rfl (fun hg E w1 hm => by exact bSlot_c (vw w1) (E.ρ 0) (E.κ 1) (E.κ 2) (E.κ 3) g t.S c.by_ _ (Vw.le.refl _) (hm.lit 0 _ _ rfl) (hm.rowOf 1 rfl (fun _ => rfl)) (by omega)) ?_
  refine o_yield rfl rfl rfl (y_val tok rfl) ?_
  refine o_yield rfl rfl rfl (y_val tok rfl) ?_
  refine o_yield rfl rfl rfl (y_val tok rfl) ?_
  refine o_yield rfl rfl rfl (y_val tok rfl) ?_
  refine o_yield rfl rfl rfl (y_val tok rfl) ?_
  refine o_end [0, 3, 5] rfl ?_
  refine x_then ?_
  refine c_seq ?_
  refine c_region ?_
  refine o_yield rfl rfl rfl (y_val tok rfl) ?_
  refine o_yield rfl rfl rfl (y_val tok rfl) ?_
  refine o_yield rfl rfl rfl (y_val tok rfl) ?_
  refine o_yield rfl rfl rfl (y_val tok rfl) ?_
  refine o_yield rfl rfl rfl (y_val tok rfl) ?_
  refine o_call (.a (.v _)) rfl rfl fnok57 rfl rfl rfl (fun hg E w1 hm => by exact tIndex_c (vw w1) _ _ (fun x => x.key == 0) t.S _ (Vw.le.refl _) (hm.rowOf 1 rfl (fun _ => rfl)) (by omega) (fun x w' hle => ⟨58, #[], rfl, fnok58, freeFn_c x w'⟩)) ?_
  refine o_yield rfl rfl rfl (y_val tok rfl) ?_
  refine o_end [0, 3, 5, 6] rfl ?_
  refine x_then ?_
  refine c_seq ?_
  refine c_region ?_
  refine o_yield rfl rfl rfl (y_val tok rfl) ?_
  refine o_yield rfl rfl rfl (y_val tok rfl) ?_
  refine o_yield rfl rfl rfl (y_val tok rfl) ?_
  refine o_yield rfl rfl rfl (y_val tok rfl) ?_
  refine o_yield rfl rfl rfl (y_val tok rfl) ?_
  refine o_yield rfl rfl rfl (y_val tok rfl) ?_
  refine o_end [0, 3, 6, 25] rfl ?_
  refine x_then ?_
  refine c_cond rfl (fun h => ?_) (fun h => ?_)
  ·
    rcases slotI_slot t c.by_ with ⟨h1, h2⟩ | ⟨k, h1, h2, hk⟩
    · rcases idxOf_find (fun x : Slot => x.key == 0) t.S with ⟨h3, h4⟩ | ⟨k, x, h3, h4, hx, _, _⟩
      · rw [h4] at h; simp at h
      · rw [h4]
        have hk := lt_of_at hx
        have hres : t.mount c.by_ = ⟨t.S.set k ⟨c.by_, x.claim⟩, t.H, t.Q⟩ := by rw [Tb.mount, h1]; dsimp only; rw [h3]; dsimp only; rw [slotClaim_at hx]
        rw [hres]
        clear h
        refine c_heldS [10] mixed rfl (by repeat (first | exact SubO.nil | refine SubO.cons rfl ?_)) (by first | rfl | simp [okCels, allOk_plain]) ?_
        refine t_takeD 0 rfl (by kernel_rfl) rfl rfl rfl (y_val tok rfl) rfl ?_
        refine t_takeD 1 rfl (by kernel_rfl) rfl rfl rfl (y_val tok rfl) rfl ?_
        refine t_takeD 2 rfl (by kernel_rfl) rfl rfl rfl (y_val tok rfl) rfl ?_
        refine t_takeD 3 rfl (by kernel_rfl) rfl rfl rfl (y_val tok rfl) rfl ?_
        refine t_takeD 4 rfl (by kernel_rfl) rfl rfl rfl (y_val tok rfl) rfl ?_
        refine t_takeD 5 rfl (by kernel_rfl) rfl rfl rfl (y_val tok rfl) rfl ?_
        refine t_takeD 6 rfl (by kernel_rfl) rfl rfl rfl (y_val tok rfl) rfl ?_
        refine t_takeD 7 rfl (by kernel_rfl) rfl rfl rfl (y_val tok rfl) rfl ?_
        refine t_takeD 8 rfl (by kernel_rfl) rfl rfl rfl (y_own (s := .a (.rel 1 (k * 2))) 1 rfl rfl (fun v V' hv => y_idxK tok (k * 2) rfl (by simp) (fun hg => hv) (fun hg => by dsimp only [slR]; omega))) rfl ?_
        refine t_takeD 9 rfl (by kernel_rfl) rfl rfl rfl (y_own (s := .a (.rel 1 (k * 2))) 1 rfl rfl (fun v V' hv => y_fel tok rfl (fun hg => hv) (fun hg => by dsimp only [slR]; omega))) rfl ?_
        refine t_go ?_
        refine h_one 10 (by kernel_rfl) ?_
        refine h_toN 10 rfl rfl rfl rfl rfl (s_rst tok rfl rfl (by simp [Value.oneCell']) (by simp only [List.length_singleton]; first | omega | (dsimp only [slR]; omega)) (by first | omega | (dsimp only [slR]; omega))) (.inl rfl) (fun _ _ => ?_)
        refine h_done [] (by kernel_rfl) rfl ?_
        refine b_end tok rfl ?_
        rw [show overL (k * 2) _ _ = _ from over_key hx c.by_]
        intro E' w' hm _
        exact ⟨_, rfl, trivial, bookEnd hm (by repeat (first | exact Vw.le.refl _ | assumption | (refine Vw.le.trans ?_ (by assumption)))) (a := 1) (b := 2) (c := 3) (R1 := slR (t.S.set k ⟨c.by_, x.claim⟩)) rfl (by rw [← slR_set]; rfl) rfl rfl ⟨⟨by decide, by decide⟩, by decide⟩ rfl rfl⟩
    · rw [h2] at h; simp at h
  ·
    refine c_skip ?_
    refine b_end tok rfl ?_
    have hres : t.mount c.by_ = t := by
      rcases slotI_slot t c.by_ with ⟨h1, h2⟩ | ⟨k, h1, h2, hk⟩
      · rcases idxOf_find (fun x : Slot => x.key == 0) t.S with ⟨h3, h4⟩ | ⟨k, x, h3, h4, hx, _, _⟩
        · rw [Tb.mount, h1]; dsimp only; rw [h3]
        · rw [h2, h4] at h; simp at h
      · rw [Tb.mount, h1]
    rw [hres]
    intro E' w' hm _
    exact ⟨_, rfl, trivial, bookEnd hm (by repeat (first | exact Vw.le.refl _ | assumption | (refine Vw.le.trans ?_ (by assumption)))) (a := 1) (b := 2) (c := 3) rfl rfl rfl rfl ⟨⟨by decide, by decide⟩, by decide⟩ rfl rfl⟩

theorem claim_c (g : Geo) (t : Tb) (ht : t.Fit) (c : Cmd) (E : Env) (V : Vw) (w : World) (hm0 : Mem E (tbO g t) 4 V w) :
    Calls Try.prog 48 #[.pointer (some ⟨E.ρ 0, 0, none⟩), c.val] w (TbLeft E g (t.claim c.by_ c.dead c.was) V w) := by
  have hsl := ht.s
  have hlim : lim = 4398046511104 := rfl
  have hm1 := bookPin hm0
  refine enter [.a (.ptr 0 0), .a (.v c.val)] Try.func48 rfl rfl (hm1) rfl rfl ?_
  refine c_seq ?_
  refine c_region ?_
  refine o_new tok rfl rfl rfl rfl ?_
  refine o_end [0, 3] rfl ?_
  refine x_then ?_
  refine c_seq ?_
  refine c_region ?_
  refine o_yield rfl rfl rfl (y_val tok rfl) ?_
  refine o_yield rfl rfl rfl (y_val tok rfl) ?_
  refine o_yield rfl rfl rfl (y_val tok rfl) ?_
  refine o_call (.a (.v _)) rfl rfl fnok56 rfl rfl rfl (fun hg E w1 hm => by exact bSlot_c (vw w1) (E.ρ 0) (E.κ 1) (E.κ 2) (E.κ 3) g t.S c.dead _ (Vw.le.refl _) (hm.lit 0 _ _ rfl) (hm.rowOf 1 rfl (fun _ => rfl)) (by omega)) ?_
  refine o_yield rfl rfl rfl (y_val tok rfl) ?_
  refine o_yield rfl rfl rfl (y_val tok rfl) ?_
  refine o_yield rfl rfl rfl (y_val tok rfl) ?_
  refine o_yield rfl rfl rfl (y_val tok rfl) ?_
  refine o_yield rfl rfl rfl (y_val tok rfl) ?_
  refine o_end [0, 3, 4, 5] rfl ?_
  refine x_then ?_
  refine c_seq ?_
  rcases slotI_slot t c.dead with ⟨h1, h2⟩ | ⟨k, h1, h2, hk⟩
  · have hres : t.claim c.by_ c.dead c.was = t := by rw [Tb.claim, h1]
    rw [hres, h2, show decide ((0 : Int) ≤ -1) = false from rfl]
    refine c_draw mixed (by kernel_rfl) ?_
    refine d_yield rfl rfl rfl (y_val tok rfl) rfl ?_
    refine d_yield rfl rfl rfl (y_val tok rfl) rfl ?_
    refine d_yield rfl rfl rfl (y_val tok rfl) rfl ?_
    refine d_yield rfl rfl rfl (y_val tok rfl) rfl ?_
    refine d_yield rfl rfl rfl (y_val tok rfl) rfl ?_
    refine d_yield rfl rfl rfl (y_val tok rfl) rfl ?_
    refine d_yield rfl rfl rfl (y_val tok rfl) rfl ?_
    refine d_yield rfl rfl rfl (y_val tok rfl) rfl ?_
    refine d_yield rfl rfl rfl (y_own (s := .a (.rel 1 0)) 1 rfl rfl (fun v V' hv => y_idxK tok 0 rfl rfl (fun hg => hv) (fun hg => by cases hg))) rfl ?_
    refine d_yield rfl rfl rfl (y_own (s := .a (.rel 1 1)) 1 rfl rfl (fun v V' hv => y_fel tok rfl (fun hg => hv) (fun hg => by cases hg))) rfl ?_
    refine d_yield rfl rfl rfl (y_own (s := .a (.v (I 0))) 1 rfl rfl (fun v V' hv => y_lel (enc := Slot.cells) (l := t.S) tok 0 1 ⟨0, 0⟩ rfl (fun hg => ⟨hv, fun _ => rfl⟩) (fun hg => by cases hg) rfl rfl)) rfl ?_
    refine d_yield rfl rfl rfl (y_val tok rfl) rfl ?_
    refine d_yield rfl rfl rfl (y_val tok rfl) rfl ?_
    refine d_yield rfl rfl rfl (y_val tok rfl) rfl ?_
    refine d_yield rfl rfl rfl (y_val tok rfl) rfl ?_
    refine d_yield rfl rfl rfl (y_val tok rfl) rfl ?_
    refine d_yield rfl rfl rfl (y_val tok rfl) rfl ?_
    refine d_yield rfl rfl rfl (y_val tok rfl) rfl ?_
    refine d_yield rfl rfl rfl (y_val tok rfl) rfl ?_
    refine d_yield rfl rfl rfl (y_val tok rfl) rfl ?_
    refine d_yield rfl rfl rfl (y_val tok rfl) rfl ?_
    refine d_yield rfl rfl rfl (y_val tok rfl) rfl ?_
    refine d_end [0, 3, 4, 34] rfl ?_
    refine x_then ?_
    refine c_cond rfl (fun h => ?_) (fun h => ?_)
    ·
      cases h
    ·
      refine c_skip ?_
      refine b_end tok rfl ?_
      intro E' w' hm _
      exact ⟨_, rfl, trivial, bookEnd hm (by repeat (first | exact Vw.le.refl _ | assumption | (refine Vw.le.trans ?_ (by assumption)))) (a := 1) (b := 2) (c := 3) rfl rfl rfl rfl ⟨⟨by decide, by decide⟩, by decide⟩ rfl rfl⟩
  · obtain ⟨x, hx⟩ : ∃ x, t.S[k]? = some x := ⟨_, List.getElem?_eq_getElem hk⟩
    have hres : t.claim c.by_ c.dead c.was = if x.claim = c.was ∧ c.by_ ≠ c.dead then ⟨t.S.set k ⟨x.key, c.by_⟩, t.H, t.Q⟩ else t := by rw [Tb.claim, h1]; dsimp only; rw [slotClaim_at hx, slotKey_at hx]
    rw [hres, h2, show max (k : Int) 0 = k by omega, decide_eq_true (by omega : (0 : Int) ≤ k)]
    refine c_draw mixed (by kernel_rfl) ?_
    refine d_yield rfl rfl rfl (y_val tok rfl) rfl ?_
    refine d_yield rfl rfl rfl (y_val tok rfl) rfl ?_
    refine d_yield rfl rfl rfl (y_val tok rfl) rfl ?_
    refine d_yield rfl rfl rfl (y_val tok rfl) rfl ?_
    refine d_yield rfl rfl rfl (y_val tok rfl) rfl ?_
    refine d_yield rfl rfl rfl (y_val tok rfl) rfl ?_
    refine d_yield rfl rfl rfl (y_val tok rfl) rfl ?_
    refine d_yield rfl rfl rfl (y_val tok rfl) rfl ?_
    refine d_yield rfl rfl rfl (y_own (s := .a (.rel 1 (k * 2))) 1 rfl rfl (fun v V' hv => y_idxK tok (k * 2) rfl (by simp) (fun hg => hv) (fun hg => by dsimp only [slR]; omega))) rfl ?_
    refine d_yield rfl rfl rfl (y_own (s := .a (.rel 1 (k * 2 + 1))) 1 rfl rfl (fun v V' hv => y_fel tok rfl (fun hg => hv) (fun hg => by dsimp only [slR]; omega))) rfl ?_
    refine d_yield rfl rfl rfl (y_own (s := .a (.v (I x.claim))) 1 rfl rfl (fun v V' hv => y_lel (enc := Slot.cells) (l := t.S) tok k 1 x rfl (fun hg => ⟨hv, fun _ => rfl⟩) (fun hg => hx) rfl rfl)) rfl ?_
    refine d_yield rfl rfl rfl (y_val tok rfl) rfl ?_
    refine d_yield rfl rfl rfl (y_val tok rfl) rfl ?_
    refine d_yield rfl rfl rfl (y_val tok rfl) rfl ?_
    refine d_yield rfl rfl rfl (y_val tok rfl) rfl ?_
    refine d_yield rfl rfl rfl (y_val tok rfl) rfl ?_
    refine d_yield rfl rfl rfl (y_val tok rfl) rfl ?_
    refine d_yield rfl rfl rfl (y_val tok rfl) rfl ?_
    refine d_yield rfl rfl rfl (y_val tok rfl) rfl ?_
    refine d_yield rfl rfl rfl (y_val tok rfl) rfl ?_
    refine d_yield rfl rfl rfl (y_val tok rfl) rfl ?_
    refine d_yield rfl rfl rfl (y_val tok rfl) rfl ?_
    refine d_end [0, 3, 4, 34] rfl ?_
    refine x_then ?_
    refine c_cond rfl (fun h => ?_) (fun h => ?_)
    ·
      have hc : x.claim = c.was ∧ c.by_ ≠ c.dead := by simpa using h
      rw [if_pos hc]
      clear h
      refine c_heldS [10] mixed rfl (by repeat (first | exact SubO.nil | refine SubO.cons rfl ?_)) (by first | rfl | simp [okCels, allOk_plain]) ?_
      refine t_takeD 0 rfl (by kernel_rfl) rfl rfl rfl (y_val tok rfl) rfl ?_
      refine t_takeD 1 rfl (by kernel_rfl) rfl rfl rfl (y_val tok rfl) rfl ?_
      refine t_takeD 2 rfl (by kernel_rfl) rfl rfl rfl (y_val tok rfl) rfl ?_
      refine t_takeD 3 rfl (by kernel_rfl) rfl rfl rfl (y_val tok rfl) rfl ?_
      refine t_takeD 4 rfl (by kernel_rfl) rfl rfl rfl (y_val tok rfl) rfl ?_
      refine t_takeD 5 rfl (by kernel_rfl) rfl rfl rfl (y_val tok rfl) rfl ?_
      refine t_takeD 6 rfl (by kernel_rfl) rfl rfl rfl (y_val tok rfl) rfl ?_
      refine t_takeD 7 rfl (by kernel_rfl) rfl rfl rfl (y_val tok rfl) rfl ?_
      refine t_takeD 8 rfl (by kernel_rfl) rfl rfl rfl (y_own (s := .a (.rel 1 (k * 2))) 1 rfl rfl (fun v V' hv => y_idxK tok (k * 2) rfl (by simp) (fun hg => hv) (fun hg => by dsimp only [slR]; omega))) rfl ?_
      refine t_takeD 9 rfl (by kernel_rfl) rfl rfl rfl (y_own (s := .a (.rel 1 (k * 2 + 1))) 1 rfl rfl (fun v V' hv => y_fel tok rfl (fun hg => hv) (fun hg => by dsimp only [slR]; omega))) rfl ?_
      refine t_go ?_
      refine h_one 10 (by kernel_rfl) ?_
      refine h_toN 10 rfl rfl rfl rfl rfl (s_rst tok rfl rfl (by simp [Value.oneCell']) (by simp only [List.length_singleton]; first | omega | (dsimp only [slR]; omega)) (by first | omega | (dsimp only [slR]; omega))) (.inl rfl) (fun _ _ => ?_)
      refine h_done [] (by kernel_rfl) rfl ?_
      refine b_end tok rfl ?_
      rw [show overL (k * 2 + 1) _ _ = _ from over_claim hx c.by_]
      intro E' w' hm _
      exact ⟨_, rfl, trivial, bookEnd hm (by repeat (first | exact Vw.le.refl _ | assumption | (refine Vw.le.trans ?_ (by assumption)))) (a := 1) (b := 2) (c := 3) (R1 := slR (t.S.set k ⟨x.key, c.by_⟩)) rfl (by rw [← slR_set]; rfl) rfl rfl ⟨⟨by decide, by decide⟩, by decide⟩ rfl rfl⟩
    ·
      refine c_skip ?_
      refine b_end tok rfl ?_
      have hc : ¬ (x.claim = c.was ∧ c.by_ ≠ c.dead) := by
        intro hc
        simp [hc.1, hc.2] at h
      rw [if_neg hc]
      intro E' w' hm _
      exact ⟨_, rfl, trivial, bookEnd hm (by repeat (first | exact Vw.le.refl _ | assumption | (refine Vw.le.trans ?_ (by assumption)))) (a := 1) (b := 2) (c := 3) rfl rfl rfl rfl ⟨⟨by decide, by decide⟩, by decide⟩ rfl rfl⟩

theorem purge_c (g : Geo) (t : Tb) (ht : t.Fit) (c : Cmd) (E : Env) (V : Vw) (w : World) (hm0 : Mem E (tbO g t) 4 V w) :
    Calls Try.prog 49 #[.pointer (some ⟨E.ρ 0, 0, none⟩), c.val] w (TbLeft E g (t.purge c.by_ c.dead) V w) := by
  have hsl := ht.s
  have hlim : lim = 4398046511104 := rfl
  have hm1 := bookPin hm0
  refine enter [.a (.ptr 0 0), .a (.v c.val)] Try.func49 rfl rfl (hm1) rfl rfl ?_
  refine c_seq ?_
  refine c_region ?_
  refine o_new tok rfl rfl rfl rfl ?_
  refine o_end [0, 3] rfl ?_
  refine x_then ?_
  refine c_seq ?_
  refine c_region ?_
  refine o_yield rfl rfl rfl (y_val tok rfl) ?_
  refine o_yield rfl rfl rfl (y_val tok rfl) ?_
  refine o_yield rfl rfl rfl (y_val tok rfl) ?_
  refine o_call (.a (.v _)) rfl rfl fnok56 rfl rfl rfl (fun hg E w1 hm => by exact bSlot_c (vw w1) (E.ρ 0) (E.κ 1) (E.κ 2) (E.κ 3) g t.S c.dead _ (Vw.le.refl _) (hm.lit 0 _ _ rfl) (hm.rowOf 1 rfl (fun _ => rfl)) (by omega)) ?_
  refine o_yield rfl rfl rfl (y_val tok rfl) ?_
  refine o_yield rfl rfl rfl (y_val tok rfl) ?_
  refine o_yield rfl rfl rfl (y_val tok rfl) ?_
  refine o_yield rfl rfl rfl (y_val tok rfl) ?_
  refine o_yield rfl rfl rfl (y_val tok rfl) ?_
  refine o_end [0, 3, 4, 5] rfl ?_
  refine x_then ?_
  refine c_seq ?_
  rcases slotI_slot t c.dead with ⟨h1, h2⟩ | ⟨k, h1, h2, hk⟩
  · have hres : t.purge c.by_ c.dead = t := by rw [Tb.purge, h1]
    rw [hres, h2, show decide ((0 : Int) ≤ -1) = false from rfl]
    refine c_draw mixed (by kernel_rfl) ?_
    refine d_yield rfl rfl rfl (y_val tok rfl) rfl ?_
    refine d_yield rfl rfl rfl (y_val tok rfl) rfl ?_
    refine d_yield rfl rfl rfl (y_val tok rfl) rfl ?_
    refine d_yield rfl rfl rfl (y_val tok rfl) rfl ?_
    refine d_yield rfl rfl rfl (y_val tok rfl) rfl ?_
    refine d_yield rfl rfl rfl (y_val tok rfl) rfl ?_
    refine d_yield rfl rfl rfl (y_val tok rfl) rfl ?_
    refine d_yield rfl rfl rfl (y_val tok rfl) rfl ?_
    refine d_yield rfl rfl rfl (y_val tok rfl) rfl ?_
    refine d_yield rfl rfl rfl (y_val tok rfl) rfl ?_
    refine d_yield rfl rfl rfl (y_val tok rfl) rfl ?_
    refine d_yield rfl rfl rfl (y_val tok rfl) rfl ?_
    refine d_yield rfl rfl rfl (y_val tok rfl) rfl ?_
    refine d_yield rfl rfl rfl (y_own (s := .a (.rel 1 0)) 1 rfl rfl (fun v V' hv => y_idxK tok 0 rfl rfl (fun hg => hv) (fun hg => by cases hg))) rfl ?_
    refine d_yield rfl rfl rfl (y_own (s := .a (.rel 1 1)) 1 rfl rfl (fun v V' hv => y_fel tok rfl (fun hg => hv) (fun hg => by cases hg))) rfl ?_
    refine d_yield rfl rfl rfl (y_own (s := .a (.v (I 0))) 1 rfl rfl (fun v V' hv => y_lel (enc := Slot.cells) (l := t.S) tok 0 1 ⟨0, 0⟩ rfl (fun hg => ⟨hv, fun _ => rfl⟩) (fun hg => by cases hg) rfl rfl)) rfl ?_
    refine d_yield rfl rfl rfl (y_val tok rfl) rfl ?_
    refine d_yield rfl rfl rfl (y_val tok rfl) rfl ?_
    refine d_yield rfl rfl rfl (y_val tok rfl) rfl ?_
    refine d_yield rfl rfl rfl (y_val tok rfl) rfl ?_
    refine d_end [0, 4, 32] rfl ?_
    refine x_then ?_
    refine c_cond rfl (fun h => ?_) (fun h => ?_)
    ·
      cases h
    ·
      refine c_skip ?_
      refine b_end tok rfl ?_
      intro E' w' hm _
      exact ⟨_, rfl, trivial, bookEnd hm (by repeat (first | exact Vw.le.refl _ | assumption | (refine Vw.le.trans ?_ (by assumption)))) (a := 1) (b := 2) (c := 3) rfl rfl rfl rfl ⟨⟨by decide, by decide⟩, by decide⟩ rfl rfl⟩
  · obtain ⟨x, hx⟩ : ∃ x, t.S[k]? = some x := ⟨_, List.getElem?_eq_getElem hk⟩
    have hres : t.purge c.by_ c.dead = if c.by_ ≠ 0 ∧ x.claim = c.by_ then t.clear k else t := by rw [Tb.purge, h1]; dsimp only; rw [slotClaim_at hx]
    rw [hres, h2, show max (k : Int) 0 = k by omega, decide_eq_true (by omega : (0 : Int) ≤ k)]
    refine c_draw mixed (by kernel_rfl) ?_
    refine d_yield rfl rfl rfl (y_val tok rfl) rfl ?_
    refine d_yield rfl rfl rfl (y_val tok rfl) rfl ?_
    refine d_yield rfl rfl rfl (y_val tok rfl) rfl ?_
    refine d_yield rfl rfl rfl (y_val tok rfl) rfl ?_
    refine d_yield rfl rfl rfl (y_val tok rfl) rfl ?_
    refine d_yield rfl rfl rfl (y_val tok rfl) rfl ?_
    refine d_yield rfl rfl rfl (y_val tok rfl) rfl ?_
    refine d_yield rfl rfl rfl (y_val tok rfl) rfl ?_
    refine d_yield rfl rfl rfl (y_val tok rfl) rfl ?_
    refine d_yield rfl rfl rfl (y_val tok rfl) rfl ?_
    refine d_yield rfl rfl rfl (y_val tok rfl) rfl ?_
    refine d_yield rfl rfl rfl (y_val tok rfl) rfl ?_
    refine d_yield rfl rfl rfl (y_val tok rfl) rfl ?_
    refine d_yield rfl rfl rfl (y_own (s := .a (.rel 1 (k * 2))) 1 rfl rfl (fun v V' hv => y_idxK tok (k * 2) rfl (by simp) (fun hg => hv) (fun hg => by dsimp only [slR]; omega))) rfl ?_
    refine d_yield rfl rfl rfl (y_own (s := .a (.rel 1 (k * 2 + 1))) 1 rfl rfl (fun v V' hv => y_fel tok rfl (fun hg => hv) (fun hg => by dsimp only [slR]; omega))) rfl ?_
    refine d_yield rfl rfl rfl (y_own (s := .a (.v (I x.claim))) 1 rfl rfl (fun v V' hv => y_lel (enc := Slot.cells) (l := t.S) tok k 1 x rfl (fun hg => ⟨hv, fun _ => rfl⟩) (fun hg => hx) rfl rfl)) rfl ?_
    refine d_yield rfl rfl rfl (y_val tok rfl) rfl ?_
    refine d_yield rfl rfl rfl (y_val tok rfl) rfl ?_
    refine d_yield rfl rfl rfl (y_val tok rfl) rfl ?_
    refine d_yield rfl rfl rfl (y_val tok rfl) rfl ?_
    refine d_end [0, 4, 32] rfl ?_
    refine x_then ?_
    refine c_cond rfl (fun h => ?_) (fun h => ?_)
    ·
      have hc : c.by_ ≠ 0 ∧ x.claim = c.by_ := by simpa using h
      rw [if_pos hc]
      clear h
      refine c_region ?_
      refine o_yield rfl rfl rfl (y_val tok rfl) ?_
      refine o_yield rfl rfl rfl (y_val tok rfl) ?_
      refine o_step rfl rfl rfl rfl rfl (s_bookW (a := 1) (b := 2) (c := 3) (fun _ => True) (slR (t.clear k).S) (hoR (t.clear k).H) (hoR (t.clear k).Q) rfl fnok59 rfl rfl rfl rfl ⟨⟨by decide, by decide⟩, by decide⟩ (fun E w hm hin hle => clear_c g t ht k x hx (bkE E 0 1 2 3) _ w hin)) (fun _ _ => ?_)
      refine o_end [] rfl ?_
      refine b_end tok rfl ?_
      intro E' w' hm _
      exact ⟨_, rfl, trivial, bookEnd hm (by repeat (first | exact Vw.le.refl _ | assumption | (refine Vw.le.trans ?_ (by assumption)))) (a := 7) (b := 8) (c := 9) rfl rfl rfl rfl ⟨⟨by decide, by decide⟩, by decide⟩ rfl rfl⟩
    ·
      refine c_skip ?_
      refine b_end tok rfl ?_
      have hc : ¬ (c.by_ ≠ 0 ∧ x.claim = c.by_) := by
        intro hc
        rw [hc.2] at h
        have h1 := hc.1
        simp [h1] at h
      rw [if_neg hc]
      intro E' w' hm _
      exact ⟨_, rfl, trivial, bookEnd hm (by repeat (first | exact Vw.le.refl _ | assumption | (refine Vw.le.trans ?_ (by assumption)))) (a := 1) (b := 2) (c := 3) rfl rfl rfl rfl ⟨⟨by decide, by decide⟩, by decide⟩ rfl rfl⟩

theorem freeFn1_c (x : Hold) (c : Cmd) (b : Nat) (V : Vw) (hb : V.get b = some (.cells c.cells.toArray 38 (0, 0))) (w : World) (hV : V.le (vw w)) :
    Calls Try.prog 65 #[x.val, .pointer (some ⟨b, 0, none⟩)] w fun e w' => e = .returned (.bool (justB c.by_ c.lo c.hi x)) ∧ Below w.heap.size w w' := by
  refine enter (E := E0) (O := []) (nl := 0) (V := vw w) [.a (.v x.val), .a (.v (.pointer (some ⟨b, 0, none⟩)))] Try.func65 rfl rfl (mem0 E0 0 w) rfl rfl ?_
  refine c_seq ?_
  refine c_region ?_
  refine o_new tok rfl rfl rfl rfl ?_
  refine o_yield rfl rfl rfl (y_val tok rfl) ?_
  refine o_end [1, 2] rfl ?_
  refine x_then ?_
  refine c_seq ?_
  refine c_heldR mixed rfl (by repeat (first | exact SubO.nil | refine SubO.cons rfl ?_)) (by first | rfl | simp [okCels, allOk_plain]) ?_
  refine t_take 0 rfl (by kernel_rfl) rfl rfl rfl (y_val tok rfl) rfl ?_
  refine t_take 1 rfl (by kernel_rfl) rfl rfl rfl (y_ldp (cs := c.cells) tok rfl (fun hg => hV.get _ _ hb) rfl) rfl ?_
  refine t_take 3 rfl (by kernel_rfl) rfl rfl rfl (y_val tok rfl) rfl ?_
  refine t_go ?_
  refine h_one 2 (by kernel_rfl) ?_
  refine h_callV 2 (fun v V' => MkTells (fun h => h.key == c.by_) v V') rfl rfl rfl fnok66 rfl rfl (fun hg E w1 hm => by exact mkBy_c (vw w) c.by_ _ hm.leV) ?_
  rintro v1 V1 hle1 hf1
  refine h_one 4 (by kernel_rfl) ?_
  refine h_callF 4 (.a (.v _)) rfl rfl rfl rfl rfl rfl (fun hg E w1 hm => by exact (by obtain ⟨f, caps, rfl, hf⟩ := hf1 rfl; exact hf x w1 hm.leV)) ?_
  refine h_one 5 (by kernel_rfl) ?_
  refine h_yield 5 rfl rfl rfl rfl (y_val tok rfl) ?_
  refine h_take 6 rfl (by kernel_rfl) rfl rfl rfl rfl (y_val tok rfl) rfl ?_
  refine h_take 7 rfl (by kernel_rfl) rfl rfl rfl rfl (y_ldp (cs := c.cells) tok rfl (fun hg => hV.get _ _ hb) rfl) rfl ?_
  refine h_take 9 rfl (by kernel_rfl) rfl rfl rfl rfl (y_val tok rfl) rfl ?_
  refine h_one 8 (by kernel_rfl) ?_
  refine h_callV 8 (fun v V' => MkTells (fun h => h.lo == c.lo && h.hi == c.hi) v V') rfl rfl rfl fnok67 rfl rfl (fun hg E w1 hm => by exact mkJust_c V1 c.lo c.hi _ hm.leV) ?_
  rintro v2 V2 hle2 hf2
  refine h_one 10 (by kernel_rfl) ?_
  refine h_callF 10 (.a (.v _)) rfl rfl rfl rfl rfl rfl (fun hg E w1 hm => by exact (by obtain ⟨f, caps, rfl, hf⟩ := hf2 hg; exact hf x w1 hm.leV)) ?_
  refine h_one 11 (by kernel_rfl) ?_
  refine h_yield 11 rfl rfl rfl rfl (y_val tok rfl) ?_
  refine h_one 12 (by kernel_rfl) ?_
  refine h_yield 12 rfl rfl rfl rfl (y_val tok rfl) ?_
  refine h_done [3] (by kernel_rfl) rfl ?_
  refine x_then ?_
  refine c_ret ?_
  refine b_ret tok rfl ?_
  intro E w' hm _
  refine ⟨?_, hm.below (by repeat (first | exact Vw.le.refl _ | assumption | (refine Vw.le.trans ?_ (by assumption))))⟩
  rfl
theorem freeFn2_c (x : Hold) (c : Cmd) (b : Nat) (V : Vw) (hb : V.get b = some (.cells c.cells.toArray 38 (0, 0))) (w : World) (hV : V.le (vw w)) :
    Calls Try.prog 69 #[x.val, .pointer (some ⟨b, 0, none⟩)] w fun e w' => e = .returned (.bool (justB c.by_ c.lo c.hi x)) ∧ Below w.heap.size w w' := by
  refine enter (E := E0) (O := []) (nl := 0) (V := vw w) [.a (.v x.val), .a (.v (.pointer (some ⟨b, 0, none⟩)))] Try.func69 rfl rfl (mem0 E0 0 w) rfl rfl ?_
  refine c_seq ?_
  refine c_region ?_
  refine o_new tok rfl rfl rfl rfl ?_
  refine o_yield rfl rfl rfl (y_val tok rfl) ?_
  refine o_end [1, 2] rfl ?_
  refine x_then ?_
  refine c_seq ?_
  refine c_heldR mixed rfl (by repeat (first | exact SubO.nil | refine SubO.cons rfl ?_)) (by first | rfl | simp [okCels, allOk_plain]) ?_
  refine t_take 0 rfl (by kernel_rfl) rfl rfl rfl (y_val tok rfl) rfl ?_
  refine t_take 1 rfl (by kernel_rfl) rfl rfl rfl (y_ldp (cs := c.cells) tok rfl (fun hg => hV.get _ _ hb) rfl) rfl ?_
  refine t_take 3 rfl (by kernel_rfl) rfl rfl rfl (y_val tok rfl) rfl ?_
  refine t_go ?_
  refine h_one 2 (by kernel_rfl) ?_
  refine h_callV 2 (fun v V' => MkTells (fun h => h.key == c.by_) v V') rfl rfl rfl fnok66 rfl rfl (fun hg E w1 hm => by exact mkBy_c (vw w) c.by_ _ hm.leV) ?_
  rintro v1 V1 hle1 hf1
  refine h_one 4 (by kernel_rfl) ?_
  refine h_callF 4 (.a (.v _)) rfl rfl rfl rfl rfl rfl (fun hg E w1 hm => by exact (by obtain ⟨f, caps, rfl, hf⟩ := hf1 rfl; exact hf x w1 hm.leV)) ?_
  refine h_one 5 (by kernel_rfl) ?_
  refine h_yield 5 rfl rfl rfl rfl (y_val tok rfl) ?_
  refine h_take 6 rfl (by kernel_rfl) rfl rfl rfl rfl (y_val tok rfl) rfl ?_
  refine h_take 7 rfl (by kernel_rfl) rfl rfl rfl rfl (y_ldp (cs := c.cells) tok rfl (fun hg => hV.get _ _ hb) rfl) rfl ?_
  refine h_take 9 rfl (by kernel_rfl) rfl rfl rfl rfl (y_val tok rfl) rfl ?_
  refine h_one 8 (by kernel_rfl) ?_
  refine h_callV 8 (fun v V' => MkTells (fun h => h.lo == c.lo && h.hi == c.hi) v V') rfl rfl rfl fnok67 rfl rfl (fun hg E w1 hm => by exact mkJust_c V1 c.lo c.hi _ hm.leV) ?_
  rintro v2 V2 hle2 hf2
  refine h_one 10 (by kernel_rfl) ?_
  refine h_callF 10 (.a (.v _)) rfl rfl rfl rfl rfl rfl (fun hg E w1 hm => by exact (by obtain ⟨f, caps, rfl, hf⟩ := hf2 hg; exact hf x w1 hm.leV)) ?_
  refine h_one 11 (by kernel_rfl) ?_
  refine h_yield 11 rfl rfl rfl rfl (y_val tok rfl) ?_
  refine h_one 12 (by kernel_rfl) ?_
  refine h_yield 12 rfl rfl rfl rfl (y_val tok rfl) ?_
  refine h_done [3] (by kernel_rfl) rfl ?_
  refine x_then ?_
  refine c_ret ?_
  refine b_ret tok rfl ?_
  intro E w' hm _
  refine ⟨?_, hm.below (by repeat (first | exact Vw.le.refl _ | assumption | (refine Vw.le.trans ?_ (by assumption))))⟩
  rfl
theorem free_c (g : Geo) (t : Tb) (ht : t.Fit) (c : Cmd) (E : Env) (V : Vw) (w : World) (hm0 : Mem E (tbO g t) 4 V w) :
    Calls Try.prog 47 #[.pointer (some ⟨E.ρ 0, 0, none⟩), c.val] w (TbLeft E g (t.free c.by_ c.lo c.hi) V w) := by
  have hsl := ht.s
  have hh := ht.h
  have hq := ht.q
  have hlim : lim = 4398046511104 := rfl
  have hm1 := bookPin hm0
  refine enter [.a (.ptr 0 0), .a (.v c.val)] Try.func47 rfl rfl (hm1) rfl rfl ?_
  refine c_seq ?_
  refine c_region ?_
  refine o_new tok rfl rfl rfl rfl ?_
  refine o_end [0, 3] rfl ?_
  refine x_then ?_
  refine c_seq ?_
  refine c_region ?_
  refine o_yield rfl rfl rfl (y_val tok rfl) ?_
  refine o_yield rfl rfl rfl (y_val tok rfl) ?_
  refine o_yield rfl rfl rfl (y_val tok rfl) ?_
  refine o_yield rfl rfl rfl (y_val tok rfl) ?_
  refine o_yield rfl rfl rfl (y_val tok rfl) ?_
  refine o_yield rfl rfl rfl (y_val tok rfl) ?_
  refine o_call (.a (.v _)) rfl rfl fnok64 rfl rfl rfl (fun hg E w1 hm => by exact spIndexFunc_c (vw w1) _ _ (justB c.by_ c.lo c.hi) t.H _ (Vw.le.refl _) (hm.rowOf 2 rfl (fun _ => rfl)) (by omega) (fun x w' hle => ⟨65, _, rfl, fnok65, freeFn1_c x c _ (vw w1) (hm.lit 6 _ _ rfl) w' hle⟩)) ?_
  refine o_yield rfl rfl rfl (y_val tok rfl) ?_
  refine o_end [0, 3, 4] rfl ?_
  refine x_then ?_
  refine c_seq ?_
  refine c_seq ?_
  refine c_region ?_
  refine o_yield rfl rfl rfl (y_val tok rfl) ?_
  refine o_yield rfl rfl rfl (y_val tok rfl) ?_
  refine o_end [0, 3, 4, 13] rfl ?_
  refine x_then ?_
  refine c_cond rfl (fun h => ?_) (fun h => ?_)
  ·
    refine c_seq ?_
    obtain ⟨i, x, h1, hi, hx⟩ : ∃ (i : Nat) (x : Hold), t.H.findIdx? (justB c.by_ c.lo c.hi) = some i ∧ idxOf (justB c.by_ c.lo c.hi) t.H = i ∧ t.H[i]? = some x := by
      rcases idxOf_find (justB c.by_ c.lo c.hi) t.H with ⟨h1, h2⟩ | ⟨i, x, h1, h2, h3, _⟩
      · rw [h2] at h; simp at h
      · exact ⟨i, x, h1, h2, h3⟩
    have hres : t.free c.by_ c.lo c.hi = Tb.grant ⟨t.S, t.H.take i ++ t.H.drop (i + 1), t.Q⟩ := by rw [Tb.free, h1]
    rw [hres]
    rw [hi]
    clear h
    have hk := lt_of_at hx
    have hwi : IntKind.i64.wrap ((i : Int) + 1) = ((i + 1 : Nat) : Int) := wrapI (by omega) (by omega)
    refine c_region ?_
    refine o_yield rfl rfl rfl (y_val tok rfl) ?_
    refine o_yield rfl rfl rfl (y_val tok rfl) ?_
    refine o_yield rfl rfl rfl (y_val tok rfl) ?_
    refine o_yield rfl rfl rfl (y_val tok rfl) ?_
    refine o_yield rfl rfl rfl (y_val tok rfl) ?_
    refine o_yield rfl rfl rfl (y_val tok rfl) ?_
    refine o_yield rfl rfl rfl (y_val tok rfl) ?_
    refine o_yield rfl rfl rfl (y_val tok rfl) ?_
    refine o_yield rfl rfl rfl (y_val tok rfl) ?_
    rw [hwi]
    refine o_step rfl rfl rfl rfl rfl (s_rowFn 92 4 (t.H.take i ++ t.H.drop (i + 1)).length ((t.H.take i ++ t.H.drop (i + 1)).flatMap Hold.cells) rfl fnok68 rfl (fun E w1 hm => delete_c _ t.H i w1 (hm.row 2 _ _ _ _ rfl) (by omega) hk)) (fun _ _ => ?_)
    refine o_yield rfl rfl rfl (y_val tok rfl) ?_
    refine o_yield rfl rfl rfl (y_val tok rfl) ?_
    refine o_yield rfl rfl rfl (y_val tok rfl) ?_
    refine o_store tok rfl rfl rfl (by first | exact ⟨trivial, trivial⟩ | (repeat' first | exact trivial | exact rfl | apply And.intro); done | simp [onesP, oneP, lk, Value.oneCell']) ?_
    refine o_end [0] rfl ?_
    refine x_then ?_
    refine c_seq ?_
    refine c_region ?_
    refine o_yield rfl rfl rfl (y_val tok rfl) ?_
    have hel : (t.H.take i ++ t.H.drop (i + 1)).length ≤ t.H.length := (erase_sub t.H i).length_le
    refine o_step rfl rfl rfl rfl rfl (s_bookW (a := 1) (b := 7) (c := 3) (fun _ => True) (slR t.S) (hoR (Tb.grant ⟨t.S, t.H.take i ++ t.H.drop (i + 1), t.Q⟩).H) (hoR (Tb.grant ⟨t.S, t.H.take i ++ t.H.drop (i + 1), t.Q⟩).Q) rfl fnok63 rfl rfl rfl rfl ⟨⟨by decide, by decide⟩, by decide⟩ (fun E w hm hin hle => grant_c g ⟨t.S, t.H.take i ++ t.H.drop (i + 1), t.Q⟩ ⟨ht.s, Nat.le_trans hel ht.h, ht.q⟩ (bkE E 0 1 7 3) _ w hin)) (fun _ _ => ?_)
    refine o_end [] rfl ?_
    refine x_then ?_
    refine c_ret ?_
    refine x_then_ret ?_
    refine b_ret tok rfl ?_
    intro E' w' hm _
    exact ⟨_, rfl, trivial, bookEnd hm (by repeat (first | exact Vw.le.refl _ | assumption | (refine Vw.le.trans ?_ (by assumption)))) (a := 8) (b := 9) (c := 10) rfl rfl rfl rfl ⟨⟨by decide, by decide⟩, by decide⟩ rfl rfl⟩
  ·
    have hno : t.H.findIdx? (justB c.by_ c.lo c.hi) = none := by
      rcases idxOf_find (justB c.by_ c.lo c.hi) t.H with ⟨h1, h2⟩ | ⟨i, x, h1, h2, h3, _⟩
      · exact h1
      · rw [h2] at h; simp at h
    clear h
    refine c_skip ?_
    refine x_then ?_
    refine c_seq ?_
    refine c_region ?_
    refine o_yield rfl rfl rfl (y_val tok rfl) ?_
    refine o_yield rfl rfl rfl (y_val tok rfl) ?_
    refine o_yield rfl rfl rfl (y_val tok rfl) ?_
    refine o_yield rfl rfl rfl (y_val tok rfl) ?_
    refine o_yield rfl rfl rfl (y_val tok rfl) ?_
    refine o_yield rfl rfl rfl (y_val tok rfl) ?_
    refine o_call (.a (.v _)) rfl rfl fnok64 rfl rfl rfl (fun hg E w1 hm => by exact spIndexFunc_c (vw w1) _ _ (justB c.by_ c.lo c.hi) t.Q _ (Vw.le.refl _) (hm.rowOf 3 rfl (fun _ => rfl)) (by omega) (fun x w' hle => ⟨69, _, rfl, fnok69, freeFn2_c x c _ (vw w1) (hm.lit 6 _ _ rfl) w' hle⟩)) ?_
    refine o_yield rfl rfl rfl (y_val tok rfl) ?_
    refine o_end [0, 4] rfl ?_
    refine x_then ?_
    refine c_seq ?_
    refine c_region ?_
    refine o_yield rfl rfl rfl (y_val tok rfl) ?_
    refine o_yield rfl rfl rfl (y_val tok rfl) ?_
    refine o_end [0, 4, 37] rfl ?_
    refine x_then ?_
    refine c_cond rfl (fun h => ?_) (fun h => ?_)
    ·
      refine c_seq ?_
      obtain ⟨i, x, h1, hi, hx⟩ : ∃ (i : Nat) (x : Hold), t.Q.findIdx? (justB c.by_ c.lo c.hi) = some i ∧ idxOf (justB c.by_ c.lo c.hi) t.Q = i ∧ t.Q[i]? = some x := by
        rcases idxOf_find (justB c.by_ c.lo c.hi) t.Q with ⟨h1, h2⟩ | ⟨i, x, h1, h2, h3, _⟩
        · rw [h2] at h; simp at h
        · exact ⟨i, x, h1, h2, h3⟩
      have hres : t.free c.by_ c.lo c.hi = Tb.grant ⟨t.S, t.H, t.Q.take i ++ t.Q.drop (i + 1)⟩ := by rw [Tb.free, hno]; dsimp only; rw [h1]
      rw [hres]
      rw [hi]
      clear h
      have hk := lt_of_at hx
      have hwi : IntKind.i64.wrap ((i : Int) + 1) = ((i + 1 : Nat) : Int) := wrapI (by omega) (by omega)
      refine c_region ?_
      refine o_yield rfl rfl rfl (y_val tok rfl) ?_
      refine o_yield rfl rfl rfl (y_val tok rfl) ?_
      refine o_yield rfl rfl rfl (y_val tok rfl) ?_
      refine o_yield rfl rfl rfl (y_val tok rfl) ?_
      refine o_yield rfl rfl rfl (y_val tok rfl) ?_
      refine o_yield rfl rfl rfl (y_val tok rfl) ?_
      refine o_yield rfl rfl rfl (y_val tok rfl) ?_
      refine o_yield rfl rfl rfl (y_val tok rfl) ?_
      refine o_yield rfl rfl rfl (y_val tok rfl) ?_
      rw [hwi]
      refine o_step rfl rfl rfl rfl rfl (s_rowFn 92 4 (t.Q.take i ++ t.Q.drop (i + 1)).length ((t.Q.take i ++ t.Q.drop (i + 1)).flatMap Hold.cells) rfl fnok68 rfl (fun E w1 hm => delete_c _ t.Q i w1 (hm.row 3 _ _ _ _ rfl) (by omega) hk)) (fun _ _ => ?_)
      refine o_yield rfl rfl rfl (y_val tok rfl) ?_
      refine o_yield rfl rfl rfl (y_val tok rfl) ?_
      refine o_yield rfl rfl rfl (y_val tok rfl) ?_
      refine o_store tok rfl rfl rfl (by first | exact ⟨trivial, trivial⟩ | (repeat' first | exact trivial | exact rfl | apply And.intro); done | simp [onesP, oneP, lk, Value.oneCell']) ?_
      refine o_end [0] rfl ?_
      refine x_then ?_
      refine c_region ?_
      refine o_yield rfl rfl rfl (y_val tok rfl) ?_
      have hel : (t.Q.take i ++ t.Q.drop (i + 1)).length ≤ t.Q.length := (erase_sub t.Q i).length_le
      refine o_step rfl rfl rfl rfl rfl (s_bookW (a := 1) (b := 2) (c := 7) (fun _ => True) (slR t.S) (hoR (Tb.grant ⟨t.S, t.H, t.Q.take i ++ t.Q.drop (i + 1)⟩).H) (hoR (Tb.grant ⟨t.S, t.H, t.Q.take i ++ t.Q.drop (i + 1)⟩).Q) rfl fnok63 rfl rfl rfl rfl ⟨⟨by decide, by decide⟩, by decide⟩ (fun E w hm hin hle => grant_c g ⟨t.S, t.H, t.Q.take i ++ t.Q.drop (i + 1)⟩ ⟨ht.s, ht.h, Nat.le_trans hel ht.q⟩ (bkE E 0 1 2 7) _ w hin)) (fun _ _ => ?_)
      refine o_end [] rfl ?_
      refine b_end tok rfl ?_
      intro E' w' hm _
      exact ⟨_, rfl, trivial, bookEnd hm (by repeat (first | exact Vw.le.refl _ | assumption | (refine Vw.le.trans ?_ (by assumption)))) (a := 8) (b := 9) (c := 10) rfl rfl rfl rfl ⟨⟨by decide, by decide⟩, by decide⟩ rfl rfl⟩
    ·
      refine c_skip ?_
      refine b_end tok rfl ?_
      have hno2 : t.Q.findIdx? (justB c.by_ c.lo c.hi) = none := by
        rcases idxOf_find (justB c.by_ c.lo c.hi) t.Q with ⟨h1, h2⟩ | ⟨i, x, h1, h2, h3, _⟩
        · exact h1
        · rw [h2] at h; simp at h
      have hres : t.free c.by_ c.lo c.hi = t := by rw [Tb.free, hno]; dsimp only; rw [hno2]
      rw [hres]
      intro E' w' hm _
      exact ⟨_, rfl, trivial, bookEnd hm (by repeat (first | exact Vw.le.refl _ | assumption | (refine Vw.le.trans ?_ (by assumption)))) (a := 1) (b := 2) (c := 3) rfl rfl rfl rfl ⟨⟨by decide, by decide⟩, by decide⟩ rfl rfl⟩

end Go.Proofs.Ythmejhpfhkddiaa
