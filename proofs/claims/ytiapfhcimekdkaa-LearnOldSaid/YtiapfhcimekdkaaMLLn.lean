import Derived.Test.YtiapfhcimekdkaaMLkS
import Derived.Test.YtiapfhcimekdkaaEng38
/- Learning: members and old keys. -/
set_option linter.unusedVariables false
set_option linter.unusedSimpArgs false
set_option maxRecDepth 100000
namespace Go.Proofs.Ytiapfhcimekdkaa
open Go Go.Eng Go.RowKit

def seatOf (n : Int) : Int := if keyB n = true then n.tmod 16 else -1

theorem cof_c (n : Int) (w : World) : Calls Try.prog 102 #[I n] w fun e w' => e = .returned (I (seatOf n)) ∧ Below w.heap.size w w' := by
  refine enter (E := E0) (O := []) (nl := 0) (V := vw w) [.a (.v (I n))] Try.func102 rfl rfl (mem0 E0 0 w) rfl rfl ?_
  refine c_seq ?_
  refine c_region ?_
  refine o_yield rfl rfl rfl (y_val tok rfl) ?_
  refine o_end [0] rfl ?_
  refine x_then ?_
  refine c_seq ?_
  refine c_seq ?_
  refine c_region ?_
  refine o_yield rfl rfl rfl (y_val tok rfl) ?_
  refine o_call (.a (.v _)) rfl rfl fnok101 rfl rfl rfl (fun hg E w1 hm => by exact key_c _ _) ?_
  refine o_end [0, 4] rfl ?_
  refine x_then ?_
  refine c_cond rfl (fun h => ?_) (fun h => ?_)
  ·
    refine c_seq ?_
    refine c_region ?_
    refine o_yield rfl rfl rfl (y_val tok rfl) ?_
    refine o_yield rfl rfl rfl (y_rem rfl (fun hg => by decide)) ?_
    refine o_yield rfl rfl rfl (y_val tok rfl) ?_
    refine o_end [2] rfl ?_
    refine x_then ?_
    refine c_ret ?_
    refine x_then_ret ?_
    refine b_ret tok rfl ?_
    intro E w' hm _
    refine ⟨?_, hm.below (Vw.le.refl _)⟩
    rw [seatOf, if_pos h]; rfl
  ·
    refine c_skip ?_
    refine x_then ?_
    refine c_seq ?_
    refine c_region ?_
    refine o_yield rfl rfl rfl (y_val tok rfl) ?_
    refine o_end [2] rfl ?_
    refine x_then ?_
    refine c_ret ?_
    refine b_ret tok rfl ?_
    intro E w' hm _
    refine ⟨?_, hm.below (Vw.le.refl _)⟩
    rw [seatOf, if_neg (by simp [h])]; rfl

/-- A function value that tells pr of numbers. -/
def TellsN (V : Vw) (fv : Value) (pr : Int → Bool) : Prop :=
  ∀ (x : Int) w', V.le (vw w') → CallsB Try.prog fv [I x] w' fun e w'' => e = .returned (.bool (pr x)) ∧ Below w'.heap.size w' w''

/-- Keys of slots of which pr is told. -/
def keysL (pr : Int → Bool) (S : List Slot) : List Int := (S.filter fun x => !(x.key == 0) && pr x.key).map (·.key)

theorem keysL_step {S : List Slot} {k : Nat} {x : Slot} (pr : Int → Bool) (h : S[k]? = some x) : keysL pr (S.take (k + 1)) = keysL pr (S.take k) ++ (if (!(x.key == 0) && pr x.key) = true then [x.key] else []) := by
  rw [keysL, take_succ_at' h, List.filter_append, List.map_append, keysL]
  cases hq : (!(x.key == 0) && pr x.key) <;> simp [hq]

theorem keysL_len (pr : Int → Bool) (S : List Slot) (k : Nat) : (keysL pr (S.take k)).length ≤ k := by
  rw [keysL, List.length_map]
  exact Nat.le_trans (List.length_filter_le _ _) (by rw [List.length_take]; omega)

theorem lmembers_c (V : Vw) (tv fv : Value) (t : Tb) (pr : Int → Bool) (w : World) (ht : t.Fit) (hV : V.le (vw w)) (h : TbIs V tv t) (hf : TellsN V fv pr) :
    Calls Try.prog 98 #[tv, fv] w (IRow (keysL pr t.S) w) := by
  obtain ⟨a, n, c, a2, n2, c2, a3, n3, c3, rfl, h1, h2, h3⟩ := h
  have hss := ht.s
  have hs := h1.mono hV
  generalize t.S = S at *
  refine enter (E := E0) (O := []) (nl := 0) (V := vw w) [.a (.v (.agg #[.slice a n c, .slice a2 n2 c2, .slice a3 n3 c3])), .a (.v fv)] Try.func98 rfl rfl (mem0 E0 0 w) rfl rfl ?_
  refine c_seq ?_
  refine c_region ?_
  refine o_new tok rfl rfl rfl rfl ?_
  refine o_yield rfl rfl rfl (y_val tok rfl) ?_
  refine o_end [1, 2, 4] rfl ?_
  refine x_then ?_
  refine c_seq ?_
  refine c_seq ?_
  refine c_region ?_
  refine o_yield rfl rfl rfl (y_val tok rfl) ?_
  refine o_yield rfl rfl rfl (y_val tok rfl) ?_
  refine o_yield rfl rfl rfl (y_len tok rfl (fun hg => hs.sl)) ?_
  refine o_yield rfl rfl rfl (y_val tok rfl) ?_
  refine o_end [1, 4, 8, 9, 10] rfl ?_
  refine x_then ?_
  refine c_block ?_
  refine k_nil 4 3 1 rfl rfl ?_
  refine c_loopK [1, 8, 9] [1] rfl rfl (σ := Nat) (fun i => [(4, .a (.row 1)), (10, .a (.v (I i)))]) (fun i => [(1, .row 3 1 (keysL pr (S.take i)).length ((keysL pr (S.take i)).flatMap encI64))]) (fun i => i ≤ S.length) (fun i => S.length - i) (0) (by omega) (by repeat (first | exact SubF.nil | refine SubF.cons rfl ?_)) (by repeat (first | exact SubO.nil | refine SubO.cons rfl ?_)) rfl ?_
  rintro i hi
  refine c_seq ?_
  refine c_region ?_
  refine o_yield rfl rfl rfl (y_val tok rfl) ?_
  refine o_end [1, 4, 8, 9, 10, 11] rfl ?_
  refine x_then ?_
  refine c_seq ?_
  refine c_cond rfl (fun h => ?_) (fun h => ?_)
  ·
    simp only [Bool.and_eq_true, Bool.or_eq_true, Bool.not_eq_true', Bool.or_eq_false_iff, Bool.and_eq_false_iff, decide_eq_true_eq, decide_eq_false_iff_not, beq_iff_eq, bne_iff_ne, Bool.not_eq_false', beq_eq_false_iff_ne, bne_eq_false_iff_eq, ne_eq, Decidable.not_not, Int.not_lt, Int.not_le] at h
    obtain ⟨x, h_x⟩ : ∃ x, S[i]? = some x := ⟨_, List.getElem?_eq_getElem (by omega)⟩
    have hwi : IntKind.i64.wrap ((i : Int) + 1) = ((i + 1 : Nat) : Int) := wrapI (by omega) (by omega)
    have hfl := keysL_len pr S i
    have hft := keysL_step pr h_x
    refine c_skip ?_
    refine x_then ?_
    refine c_seq ?_
    refine c_block ?_
    refine c_seq ?_
    refine c_region ?_
    have hlt_x := lt_of_at h_x
    refine o_yield rfl rfl rfl (y_idx tok rfl (fun hg => hs.sl) (fun hg => ⟨by omega, by omega⟩)) ?_
    refine o_yield rfl rfl rfl (y_lel tok (i) 0 (x) rfl (fun hg => hs) (fun hg => h_x) rfl rfl) ?_
    refine o_new tok rfl rfl rfl rfl ?_
    refine o_store tok rfl rfl rfl (by first | exact ⟨trivial, trivial⟩ | (repeat' first | exact trivial | exact rfl | apply And.intro); done | simp [onesP, oneP, lk, Value.oneCell']) ?_
    refine o_end [1, 4, 6, 8, 9, 10] rfl ?_
    refine x_then ?_
    refine c_seq ?_
    refine c_region ?_
    refine o_yield rfl rfl rfl (y_val tok rfl) ?_
    refine o_yield rfl rfl rfl (y_val tok rfl) ?_
    refine o_yield rfl rfl rfl (y_val tok rfl) ?_
    refine o_yield rfl rfl rfl (y_val tok rfl) ?_
    refine o_yield rfl rfl rfl (y_val tok rfl) ?_
    refine o_yield rfl rfl rfl (y_val tok rfl) ?_
    refine o_yield rfl rfl rfl (y_val tok rfl) ?_
    refine o_callB (.a (.v (.bool (pr x.key)))) rfl rfl rfl rfl rfl (fun hg E w1 hm => hf x.key w1 (hV.trans hm.leV)) ?_
    refine o_yield rfl rfl rfl (y_val tok rfl) ?_
    refine o_end [1, 4, 6, 8, 9, 10, 22] rfl ?_
    refine x_then ?_
    refine c_cond rfl (fun h => ?_) (fun h => ?_)
    ·
      refine c_region ?_
      refine o_yield rfl rfl rfl (y_val tok rfl) ?_
      refine o_yield rfl rfl rfl (y_val tok rfl) ?_
      refine o_yield rfl rfl rfl (y_val tok rfl) ?_
      have h' : (!(x.key == 0) && pr x.key) = true := by simpa [bne] using h
      rw [if_pos h'] at hft
      refine o_step rfl rfl rfl rfl rfl (s_bs tok 1 rfl rfl rfl) (fun _ _ => ?_)
      refine o_step rfl rfl rfl rfl rfl (s_app tok [I x.key] rfl (fun E w hm => ownsRow_src (hm.row _ _ _ _ _ rfl)) (fun _ _ _ => by intro u hu; simp only [List.mem_singleton] at hu; subst hu; rfl) (by dsimp only; omega)) (fun _ _ => ?_)
      refine o_yield rfl rfl rfl (y_val tok rfl) ?_
      refine o_end [1, 4, 8, 9, 10] rfl ?_
      refine x_block ?_
      refine x_then ?_
      refine c_region ?_
      refine o_yield rfl rfl rfl (y_val tok rfl) ?_
      refine o_yield rfl rfl rfl (y_val tok rfl) ?_
      refine o_end [1, 4, 8, 9, 10] rfl ?_
      refine x_then ?_
      rw [(mint_snoc _ x.key).1, (mint_snoc _ x.key).2, ← hft, hwi]
      refine k_swap 1 4 rfl ?_
      refine x_round (i + 1) (by omega) (by first | omega | (dsimp only; omega)) (by repeat (first | exact SubF.nil | refine SubF.cons rfl ?_)) (by repeat (first | exact SubO.nil | refine SubO.cons rfl ?_)) rfl (Vw.le.refl _)
    ·
      refine c_skip ?_
      refine x_block ?_
      refine x_then ?_
      refine c_region ?_
      refine o_yield rfl rfl rfl (y_val tok rfl) ?_
      refine o_yield rfl rfl rfl (y_val tok rfl) ?_
      refine o_end [1, 4, 8, 9, 10] rfl ?_
      refine x_then ?_
      have h' : ¬ (!(x.key == 0) && pr x.key) = true := by simpa [bne] using h
      rw [if_neg h', List.append_nil] at hft
      rw [← hft, hwi]
      refine x_round (i + 1) (by omega) (by first | omega | (dsimp only; omega)) (by repeat (first | exact SubF.nil | refine SubF.cons rfl ?_)) (by repeat (first | exact SubO.nil | refine SubO.cons rfl ?_)) rfl (Vw.le.refl _)
  ·
    simp only [Bool.and_eq_true, Bool.or_eq_true, Bool.not_eq_true', Bool.or_eq_false_iff, Bool.and_eq_false_iff, decide_eq_true_eq, decide_eq_false_iff_not, beq_iff_eq, bne_iff_ne, Bool.not_eq_false', beq_eq_false_iff_ne, bne_eq_false_iff_eq, ne_eq, Decidable.not_not, Int.not_lt, Int.not_le] at h
    refine c_exit ?_
    refine x_then_exit ?_
    refine x_then_exit ?_
    refine x_block_hit ?_
    refine x_then ?_
    refine c_seq ?_
    refine c_region ?_
    refine o_yield rfl rfl rfl (y_val tok rfl) ?_
    refine o_yield rfl rfl rfl (y_val tok rfl) ?_
    refine o_end [4] rfl ?_
    refine x_then ?_
    refine c_ret ?_
    refine b_ret tok rfl ?_
    have hil : i = S.length := by omega
    subst hil
    rw [List.take_length]
    intro E' w' hm _
    exact ⟨_, rfl, hm.rowFresh (Vw.le.refl _) (l := 1) rfl, hm.below (Vw.le.refl _)⟩

theorem keysL_all (S : List Slot) : keysL (fun _ => true) S = memL S := by
  rw [keysL, memL]; simp

theorem lmemFn_c (x : Int) (w : World) : Calls Try.prog 99 #[I x] w fun e w' => e = .returned (.bool true) ∧ Below w.heap.size w w' := by
  refine enter (E := E0) (O := []) (nl := 0) (V := vw w) [.a (.v (I x))] Try.func99 rfl rfl (mem0 E0 0 w) rfl rfl ?_
  refine c_seq ?_
  refine c_region ?_
  refine o_yield rfl rfl rfl (y_val tok rfl) ?_
  refine o_end [] rfl ?_
  refine x_then ?_
  refine c_seq ?_
  refine c_region ?_
  refine o_yield rfl rfl rfl (y_val tok rfl) ?_
  refine o_end [2] rfl ?_
  refine x_then ?_
  refine c_ret ?_
  refine b_ret tok rfl ?_
  intro E w' hm _
  refine ⟨?_, hm.below (Vw.le.refl _)⟩
  rfl

theorem lMembers_c (V : Vw) (tv : Value) (t : Tb) (w : World) (ht : t.Fit) (hV : V.le (vw w)) (h : TbIs V tv t) :
    Calls Try.prog 49 #[tv] w (IRow (memL t.S) w) := by
  have h0 := h
  obtain ⟨a, n, c, a2, n2, c2, a3, n3, c3, rfl, h1, h2, h3⟩ := h
  refine enter (E := E0) (O := []) (nl := 0) (V := vw w) [.a (.v (.agg #[.slice a n c, .slice a2 n2 c2, .slice a3 n3 c3]))] Try.func49 rfl rfl (mem0 E0 0 w) rfl rfl ?_
  refine c_seq ?_
  refine c_region ?_
  refine o_new tok rfl rfl rfl rfl ?_
  refine o_yield rfl rfl rfl (y_val tok rfl) ?_
  refine o_end [1] rfl ?_
  refine x_then ?_
  refine c_seq ?_
  refine c_region ?_
  refine o_yield rfl rfl rfl (y_val tok rfl) ?_
  refine o_step rfl rfl rfl rfl rfl (s_callRow 3 1 (memL t.S).length ((memL t.S).flatMap encI64) rfl fnok98 (fun E w1 hm => by rw [← keysL_all]; exact lmembers_c V _ _ t (fun _ => true) w1 ht (hV.trans hm.leV) h0 (fun x w' hle => ⟨99, #[], #[], rfl, fnok99, lmemFn_c x w'⟩))) (fun _ _ => ?_)
  refine o_yield rfl rfl rfl (y_val tok rfl) ?_
  refine o_end [2] rfl ?_
  refine x_then ?_
  refine c_ret ?_
  refine b_ret tok rfl ?_
  intro E' w' hm _
  exact ⟨_, rfl, hm.rowFresh (Vw.le.refl _) (l := 1) rfl, hm.below (Vw.le.refl _)⟩

def oldB (key m : Int) : Bool := (keyB key && decide (m < key)) && (seatOf m == seatOf key)

theorem lOldFn_c (x key : Int) (b : Nat) (V : Vw) (hb : V.get b = some (.cells [I key].toArray 3 (0, 0))) (w : World) (hV : V.le (vw w)) :
    Calls Try.prog 100 #[I x, .pointer (some ⟨b, 0, none⟩)] w fun e w' => e = .returned (.bool (oldB key x)) ∧ Below w.heap.size w w' := by
  refine enter (E := E0) (O := []) (nl := 0) (V := vw w) [.a (.v (I x)), .a (.v (.pointer (some ⟨b, 0, none⟩)))] Try.func100 rfl rfl (mem0 E0 0 w) rfl rfl ?_
  refine c_seq ?_
  refine c_region ?_
  refine o_yield rfl rfl rfl (y_val tok rfl) ?_
  refine o_end [0, 1] rfl ?_
  refine x_then ?_
  refine c_seq ?_
  refine c_heldR mixed rfl (by repeat (first | exact SubO.nil | refine SubO.cons rfl ?_)) (by first | rfl | simp [okCels, allOk_plain]) ?_
  refine t_take 0 rfl (by kernel_rfl) rfl rfl rfl (y_ldp (cs := [I key]) tok rfl (fun hg => hV.get _ _ hb) rfl) rfl ?_
  refine t_go ?_
  refine h_one 1 (by kernel_rfl) ?_
  refine h_call 1 (.a (.v _)) rfl rfl rfl fnok101 rfl rfl rfl (fun hg E w1 hm => by exact key_c _ _) ?_
  refine h_one 2 (by kernel_rfl) ?_
  refine h_yield 2 rfl rfl rfl rfl (y_val tok rfl) ?_
  refine h_take 3 rfl (by kernel_rfl) rfl rfl rfl rfl (y_val tok rfl) rfl ?_
  refine h_one 4 (by kernel_rfl) ?_
  refine h_yield 4 rfl rfl rfl rfl (y_ldp (cs := [I key]) tok rfl (fun hg => hV.get _ _ hb) rfl) ?_
  refine h_one 5 (by kernel_rfl) ?_
  refine h_yield 5 rfl rfl rfl rfl (y_val tok rfl) ?_
  refine h_one 6 (by kernel_rfl) ?_
  refine h_yield 6 rfl rfl rfl rfl (y_val tok rfl) ?_
  refine h_one 7 (by kernel_rfl) ?_
  refine h_yield 7 rfl rfl rfl rfl (y_val tok rfl) ?_
  refine h_take 8 rfl (by kernel_rfl) rfl rfl rfl rfl (y_val tok rfl) rfl ?_
  refine h_take 10 rfl (by kernel_rfl) rfl rfl rfl rfl (y_ldp (cs := [I key]) tok rfl (fun hg => hV.get _ _ hb) rfl) rfl ?_
  refine h_one 9 (by kernel_rfl) ?_
  refine h_call 9 (.a (.v _)) rfl rfl rfl fnok102 rfl rfl rfl (fun hg E w1 hm => by exact cof_c _ _) ?_
  refine h_one 11 (by kernel_rfl) ?_
  refine h_call 11 (.a (.v _)) rfl rfl rfl fnok102 rfl rfl rfl (fun hg E w1 hm => by exact cof_c _ _) ?_
  refine h_one 12 (by kernel_rfl) ?_
  refine h_yield 12 rfl rfl rfl rfl (y_val tok rfl) ?_
  refine h_one 13 (by kernel_rfl) ?_
  refine h_yield 13 rfl rfl rfl rfl (y_val tok rfl) ?_
  refine h_one 14 (by kernel_rfl) ?_
  refine h_yield 14 rfl rfl rfl rfl (y_val tok rfl) ?_
  refine h_done [3] (by kernel_rfl) rfl ?_
  refine x_then ?_
  refine c_ret ?_
  refine b_ret tok rfl ?_
  intro E w' hm _
  refine ⟨?_, hm.below (Vw.le.refl _)⟩
  rfl

theorem lOld_c (V : Vw) (tv : Value) (t : Tb) (key : Int) (w : World) (ht : t.Fit) (hV : V.le (vw w)) (h : TbIs V tv t) :
    Calls Try.prog 50 #[tv, I key] w (IRow (keysL (oldB key) t.S) w) := by
  have h0 := h
  obtain ⟨a, n, c, a2, n2, c2, a3, n3, c3, rfl, h1, h2, h3⟩ := h
  refine enter (E := E0) (O := []) (nl := 0) (V := vw w) [.a (.v (.agg #[.slice a n c, .slice a2 n2 c2, .slice a3 n3 c3])), .a (.v (I key))] Try.func50 rfl rfl (mem0 E0 0 w) rfl rfl ?_
  refine c_seq ?_
  refine c_region ?_
  refine o_new tok rfl rfl rfl rfl ?_
  refine o_new tok rfl rfl rfl rfl ?_
  refine o_yield rfl rfl rfl (y_val tok rfl) ?_
  refine o_end [2, 3] rfl ?_
  refine x_then ?_
  refine c_seq ?_
  refine c_region ?_
  refine o_yield rfl rfl rfl (y_val tok rfl) ?_
  refine o_yield rfl rfl rfl (y_val tok rfl) ?_
  refine o_step rfl rfl rfl rfl rfl (s_callRow 3 1 (keysL (oldB key) t.S).length ((keysL (oldB key) t.S).flatMap encI64) rfl fnok98 (fun E w1 hm => lmembers_c (vw w1) _ _ t (oldB key) w1 ht (Vw.le.refl _) (h0.mono (hV.trans hm.leV)) (fun x w' hle => CallsFn.b ⟨100, _, rfl, fnok100, lOldFn_c x key _ (vw w1) (hm.lit 1 _ _ rfl) w' hle⟩))) (fun _ _ => ?_)
  refine o_yield rfl rfl rfl (y_val tok rfl) ?_
  refine o_end [4] rfl ?_
  refine x_then ?_
  refine c_ret ?_
  refine b_ret tok rfl ?_
  intro E' w' hm _
  exact ⟨_, rfl, hm.rowFresh (Vw.le.refl _) (l := 2) rfl, hm.below (Vw.le.refl _)⟩
end Go.Proofs.Ytiapfhcimekdkaa

/- Learning: the table behind commands. -/
set_option linter.unusedVariables false
set_option linter.unusedSimpArgs false
set_option maxRecDepth 100000
namespace Go.Proofs.Ytiapfhcimekdkaa
open Go Go.Eng Go.RowKit

def behind (blocks : Int) (t : Tb) (l : List Cmd) : Tb := l.foldl (fun t c => t.apply blocks c) t

theorem behind_c (V : Vw) (g : Geo) (lv : Value) (l : List Cmd) (w : World) (hV : V.le (vw w)) (hs0 : SlOf V Cmd.cells 8 lv l) (hl : l.length ≤ 100) (hcm : ∀ c ∈ l, cmdB c = true) :
    Calls Try.prog 48 #[g.val, lv] w (TbOut V (behind g.blocks (newT g.slots) l) w) := by
  obtain ⟨a0, n0, c0, rfl⟩ := sl_shape hs0.sl
  have hs := hs0.mono hV
  refine enter (E := E0) (O := []) (nl := 0) (V := vw w) [.a (.v g.val), .a (.v (.slice a0 n0 c0))] Try.func48 rfl rfl (mem0 E0 0 w) rfl rfl ?_
  refine c_seq ?_
  refine c_region ?_
  refine o_new tok rfl rfl rfl rfl ?_
  refine o_new tok rfl rfl rfl rfl ?_
  refine o_end [1, 2, 4] rfl ?_
  refine x_then ?_
  refine c_seq ?_
  refine c_held [] ([(0, .lit (g.cells.map .v) 23)]) mixed (by repeat (first | exact SubO.nil | refine SubO.cons rfl ?_)) (by first | rfl | simp [okCels, allOk_plain]) ?_
  refine t_take 0 rfl (by kernel_rfl) rfl rfl rfl (y_val tok rfl) rfl ?_
  refine t_take 2 rfl (by kernel_rfl) rfl rfl rfl (y_val tok rfl) rfl ?_
  refine t_take 5 rfl (by kernel_rfl) rfl rfl rfl (y_val tok rfl) rfl ?_
  refine t_go ?_
  refine h_one 1 (by kernel_rfl) ?_
  refine h_callV 1 (fun v V' => ∃ V2 : Vw, V2.le V' ∧ V.le V2 ∧ (∀ k o, V2.get k = some o → V.get k = some o ∨ w.heap.size ≤ k) ∧ TbIs V2 v (newT g.slots)) rfl rfl rfl fnok12 rfl rfl (fun hg E w1 hm => by exact (new_c V g _ (hV.trans hm.leV)).mono fun e w' h => small_view (hm.below (Vw.le.refl _)).size hV hm.leV h) ?_
  rintro v1 W0 hle0 hv0
  obtain ⟨W1, hW10, hle1, hget1, hT1⟩ := hv0 rfl
  obtain ⟨d1, m1, e1, d2, m2, e2, d3, m3, e3, rfl, _⟩ := id hT1
  refine h_one 3 (by kernel_rfl) ?_
  refine h_yield 3 rfl rfl rfl rfl (y_val tok rfl) ?_
  refine h_one 4 (by kernel_rfl) ?_
  refine h_new 4 tok rfl rfl rfl rfl rfl rfl ?_
  refine h_one 6 (by kernel_rfl) ?_
  refine h_inl 6 rfl rfl rfl rfl rfl rfl rfl fnok97 Try.func97 rfl rfl rfl (fun E => ?_)
  refine c_seq ?_
  refine c_region ?_
  refine o_yield rfl rfl rfl (y_val tok rfl) ?_
  refine o_end [0, 1] rfl ?_
  refine x_then ?_
  refine c_seq ?_
  refine c_seq ?_
  refine c_region ?_
  refine o_yield rfl rfl rfl (y_val tok rfl) ?_
  refine o_yield rfl rfl rfl (y_len tok rfl (fun hg => (hs0.mono hV |>.mono hle0).sl)) ?_
  refine o_yield rfl rfl rfl (y_val tok rfl) ?_
  refine o_end [0, 7, 8, 9] rfl ?_
  refine x_then ?_
  refine c_block ?_
  refine c_loopV [0, 7, 8] [2] rfl rfl (σ := Nat × Value × Value × Value × Tb × Vw × Vw) (fun (i, s, u, q, t, W, Z) => [(9, .a (.v (I i)))]) (fun (i, s, u, q, t, W, Z) => [(2, .lit ([.v s, .v u, .v q] ++ g.cells.map .v ++ [.v (I i)]) 125)]) (fun (i, s, u, q, t, W, Z) => W) (fun (i, s, u, q, t, W, Z) => (i ≤ l.length ∧ t.H.length + t.Q.length ≤ i ∧ t = behind g.blocks (newT g.slots) (l.take i)) ∧ ((vw w).le W ∧ Z.le W) ∧ V.le Z ∧ TbIs Z (.agg #[s, u, q]) t ∧ TbOk (newN g.slots) g.blocks t ∧ ∀ k o, Z.get k = some o → V.get k = some o ∨ w.heap.size ≤ k) (fun (i, s, u, q, t, W, Z) => l.length - i) ((0, _, _, _, newT g.slots, W0, W1)) (⟨⟨by omega, Nat.le_refl _, rfl⟩, ⟨hle0, hW10⟩, hle1, hT1, TbOk.new _ _, hget1⟩) (by repeat (first | exact SubF.nil | refine SubF.cons rfl ?_)) (by repeat (first | exact SubO.nil | refine SubO.cons rfl ?_)) rfl (Vw.le.refl _) ?_
  rintro ⟨i, s, u, q, t, W, Z⟩ ⟨⟨hi, hsum, hbe⟩, ⟨hwW, hZW⟩, hle, hT, hok, hgt⟩
  dsimp only at hi hsum hbe hwW hZW hle hT hok hgt ⊢
  have hn16 : ((newN g.slots : Nat) : Int) ≤ 16 := by rw [newN]; omega
  have hs' := (hs0.mono hle).mono hZW
  have hfit := hok.fitS hn16 (by omega)
  refine c_seq ?_
  refine c_region ?_
  refine o_yield rfl rfl rfl (y_val tok rfl) ?_
  refine o_end [0, 7, 8, 9, 10] rfl ?_
  refine x_then ?_
  refine c_seq ?_
  refine c_cond rfl (fun h => ?_) (fun h => ?_)
  ·
    simp only [Bool.and_eq_true, Bool.or_eq_true, Bool.not_eq_true', Bool.or_eq_false_iff, Bool.and_eq_false_iff, decide_eq_true_eq, decide_eq_false_iff_not, beq_iff_eq, bne_iff_ne, Bool.not_eq_false', beq_eq_false_iff_ne, bne_eq_false_iff_eq, ne_eq, Decidable.not_not, Int.not_lt, Int.not_le] at h
    refine c_skip ?_
    refine x_then ?_
    refine c_seq ?_
    refine c_block ?_
    refine c_seq ?_
    refine c_region ?_
    obtain ⟨c, h_c⟩ := hs'.at (k := i) (by omega)
    have hlt_c := lt_of_at h_c
    refine o_yield rfl rfl rfl (y_idx tok rfl (fun hg => hs'.sl) (fun hg => ⟨by omega, by omega⟩)) ?_
    refine o_yield rfl rfl rfl (y_lel tok (i) 0 (c) rfl (fun hg => hs') (fun hg => h_c) rfl rfl) ?_
    refine o_new tok rfl rfl rfl rfl ?_
    refine o_store tok rfl rfl rfl (by first | exact ⟨trivial, trivial⟩ | (repeat' first | exact trivial | exact rfl | apply And.intro); done | simp [onesP, oneP, lk, Value.oneCell']) ?_
    refine o_end [0, 6, 7, 8, 9] rfl ?_
    refine x_then ?_
    refine c_seq ?_
    refine c_heldS [13] mixed rfl (by repeat (first | exact SubO.nil | refine SubO.cons rfl ?_)) (by first | rfl | simp [okCels, allOk_plain]) ?_
    refine t_takeD 0 rfl (by kernel_rfl) rfl rfl rfl (y_val tok rfl) rfl ?_
    refine t_takeD 1 rfl (by kernel_rfl) rfl rfl rfl (y_val tok rfl) rfl ?_
    refine t_takeD 2 rfl (by kernel_rfl) rfl rfl rfl (y_val tok rfl) rfl ?_
    refine t_takeD 3 rfl (by kernel_rfl) rfl rfl rfl (y_val tok rfl) rfl ?_
    refine t_takeD 4 rfl (by kernel_rfl) rfl rfl rfl (y_val tok rfl) rfl ?_
    refine t_takeD 5 rfl (by kernel_rfl) rfl rfl rfl (y_val tok rfl) rfl ?_
    refine t_takeD 6 rfl (by kernel_rfl) rfl rfl rfl (y_val tok rfl) rfl ?_
    refine t_takeD 7 rfl (by kernel_rfl) rfl rfl rfl (y_val tok rfl) rfl ?_
    refine t_takeD 8 rfl (by kernel_rfl) rfl rfl rfl (y_val tok rfl) rfl ?_
    refine t_takeD 9 rfl (by kernel_rfl) rfl rfl rfl (y_val tok rfl) rfl ?_
    refine t_go ?_
    refine h_one 10 (by kernel_rfl) ?_
    have hcB := hcm c (List.mem_of_getElem? h_c)
    have hck : -128 ≤ c.kind ∧ c.kind ≤ 127 := by have := (cmdOk hcB).kind; omega
    have hok2 := hok.apply (c := c) (cmdB_key hcB)
    have hsum2 := apply_sum g.blocks t c
    have hwi : IntKind.i64.wrap ((i : Int) + 1) = ((i + 1 : Nat) : Int) := wrapI (by omega) (by omega)
    have hbe2 : t.apply g.blocks c = behind g.blocks (newT g.slots) (l.take (i + 1)) := by
      rw [take_succ_at' h_c, behind, List.foldl_append, hbe]; rfl
    refine h_callV 10 (fun v V' => ∃ V2 : Vw, V2.le V' ∧ Z.le V2 ∧ (∀ k o, V2.get k = some o → Z.get k = some o ∨ w.heap.size ≤ k) ∧ TbIs V2 v (t.apply g.blocks c)) rfl rfl rfl fnok14 rfl rfl (fun hg E w1 hm => by exact (apply_c Z g _ t hfit.1 hfit.2 c hck _ (hZW.trans hm.leV) hT).mono fun e w' h => small_view (hm.below hwW).size hZW hm.leV h) ?_
    rintro v2 W2 hle2 hv2
    obtain ⟨Z2, hZ2, hZZ, hgt2, hT2⟩ := hv2 rfl
    obtain ⟨x1, y1, z1, x2, y2, z2, x3, y3, z3, rfl, _⟩ := id hT2
    refine h_one 11 (by kernel_rfl) ?_
    refine h_yield 11 rfl rfl rfl rfl (y_val tok rfl) ?_
    refine h_one 12 (by kernel_rfl) ?_
    refine h_yield 12 rfl rfl rfl rfl (y_val tok rfl) ?_
    refine h_one 13 (by kernel_rfl) ?_
    refine h_store 13 tok rfl rfl rfl rfl (by first | exact ⟨trivial, trivial⟩ | (repeat' first | exact trivial | exact rfl | apply And.intro); done | simp [onesP, oneP, lk, Value.oneCell']) (.inl rfl) ?_
    refine h_done [0, 7, 8, 9] (by kernel_rfl) rfl ?_
    refine x_then ?_
    refine c_region ?_
    refine o_yield rfl rfl rfl (y_val tok rfl) ?_
    refine o_yield rfl rfl rfl (y_val tok rfl) ?_
    refine o_yield rfl rfl rfl (y_val tok rfl) ?_
    refine o_yield rfl rfl rfl (y_val tok rfl) ?_
    refine o_yield rfl rfl rfl (y_val tok rfl) ?_
    refine o_yield rfl rfl rfl (y_val tok rfl) ?_
    refine o_yield rfl rfl rfl (y_val tok rfl) ?_
    refine o_store tok rfl rfl rfl (by first | exact ⟨trivial, trivial⟩ | (repeat' first | exact trivial | exact rfl | apply And.intro); done | simp [onesP, oneP, lk, Value.oneCell']) ?_
    refine o_end [0, 7, 8, 9] rfl ?_
    refine x_block ?_
    refine x_then ?_
    refine c_region ?_
    refine o_yield rfl rfl rfl (y_val tok rfl) ?_
    refine o_yield rfl rfl rfl (y_val tok rfl) ?_
    refine o_end [0, 7, 8, 9] rfl ?_
    refine x_then ?_
    rw [hwi]
    refine x_round ((i + 1, _, _, _, t.apply g.blocks c, W2, Z2)) (⟨⟨by dsimp only; omega, by dsimp only; omega, hbe2⟩, ⟨hwW.trans hle2, hZ2⟩, hle.trans hZZ, hT2, hok2, fun k o hk => (hgt2 k o hk).elim (hgt k o) .inr⟩) (by first | omega | (dsimp only; omega)) (by repeat (first | exact SubF.nil | refine SubF.cons rfl ?_)) (by repeat (first | exact SubO.nil | refine SubO.cons rfl ?_)) rfl (Vw.le.refl _)
  ·
    simp only [Bool.and_eq_true, Bool.or_eq_true, Bool.not_eq_true', Bool.or_eq_false_iff, Bool.and_eq_false_iff, decide_eq_true_eq, decide_eq_false_iff_not, beq_iff_eq, bne_iff_ne, Bool.not_eq_false', beq_eq_false_iff_ne, bne_eq_false_iff_eq, ne_eq, Decidable.not_not, Int.not_lt, Int.not_le] at h
    have hil : i = l.length := by simp at h; omega
    clear h
    subst hil
    rw [List.take_length] at hbe
    obtain ⟨x1, y1, z1, x2, y2, z2, x3, y3, z3, hv, _⟩ := id hT
    simp only [Value.agg.injEq, Array.mk.injEq, List.cons.injEq, and_true] at hv
    obtain ⟨rfl, rfl, rfl⟩ := hv
    refine c_exit ?_
    refine x_then_exit ?_
    refine x_then_exit ?_
    refine x_block_hit ?_
    refine x_then ?_
    refine c_seq ?_
    refine c_region ?_
    refine o_yield rfl rfl rfl (y_val tok rfl) ?_
    refine o_yield rfl rfl rfl (y_val tok rfl) ?_
    refine o_end [4] rfl ?_
    refine x_then ?_
    refine c_ret ?_
    refine b_ret tok rfl ?_
    intro E1 w1 hm1 hok1
    refine inl_end (E := E) hm1 hok1 rfl rfl (by repeat (first | exact KeepsIn.zero | refine KeepsIn.succ rfl ?_)) rfl (by repeat (first | exact SubO.nil | refine SubO.cons rfl ?_)) rfl ?_
    clear hm1 hok1 w1 E1 E
    refine ⟨.inr ⟨(by repeat (first | exact SubO.nil | refine SubO.cons rfl ?_)), rfl, by first | exact Vw.le.refl _ | assumption⟩, ?_⟩
    refine h_one 7 (by kernel_rfl) ?_
    refine h_yield 7 rfl rfl rfl rfl (y_val tok rfl) ?_
    refine h_one 8 (by kernel_rfl) ?_
    refine h_yield 8 rfl rfl rfl rfl (y_val tok rfl) ?_
    refine h_one 9 (by kernel_rfl) ?_
    refine h_yield 9 rfl rfl rfl rfl (y_val tok rfl) ?_
    refine h_one 10 (by kernel_rfl) ?_
    refine h_store 10 tok rfl rfl rfl rfl (by first | exact ⟨trivial, trivial⟩ | (repeat' first | exact trivial | exact rfl | apply And.intro); done | simp [onesP, oneP, lk, Value.oneCell']) (.inr ⟨(by repeat (first | exact SubO.nil | refine SubO.cons rfl ?_)), rfl, (by first | exact Vw.le.refl _ | assumption)⟩) ?_
    refine h_done [4] (by kernel_rfl) rfl ?_
    refine x_then ?_
    refine c_ret ?_
    refine b_ret tok rfl ?_
    intro E' w' hm _
    exact ⟨_, Z, rfl, hm.below hwW, ⟨hle, fun k o hk => ⟨(hZW.trans hm.leV).get k o hk, hgt k o hk⟩⟩, hbe ▸ hT⟩
end Go.Proofs.Ytiapfhcimekdkaa

/- LearnOld: the example, and the law. -/
set_option linter.unusedVariables false
set_option linter.unusedSimpArgs false
set_option maxRecDepth 100000
namespace Go.Proofs.Ytiapfhcimekdkaa
open Go Go.Eng Go.RowKit

abbrev gS14 : Geo := ⟨2, 2, 1, 1, 3, 16, 1, 2⟩

theorem small14_c (w : World) : Calls Try.prog 95 #[] w fun e w' => e = .returned gS14.val ∧ Below w.heap.size w w' := by
  refine enter (E := E0) (O := []) (nl := 0) (V := vw w) [] Try.func95 rfl rfl (mem0 E0 0 w) rfl rfl ?_
  refine c_seq ?_
  refine c_region ?_
  refine o_new tok rfl rfl rfl rfl ?_
  refine o_end [0] rfl ?_
  refine x_then ?_
  refine c_seq ?_
  refine c_region ?_
  refine o_yield rfl rfl rfl (y_val tok rfl) ?_
  refine o_store tok rfl rfl rfl (by first | exact ⟨trivial, trivial⟩ | (repeat' first | exact trivial | exact rfl | apply And.intro); done | simp [onesP, oneP, lk, Value.oneCell']) ?_
  refine o_end [0] rfl ?_
  refine x_then ?_
  refine c_ret ?_
  refine b_ret tok rfl ?_
  intro E w' hm _
  refine ⟨?_, hm.below (Vw.le.refl _)⟩
  rfl

theorem ok14 : gS14.Ok := ⟨⟨by decide, by decide⟩, ⟨by decide, by decide⟩, ⟨by decide, by decide⟩, ⟨by decide, by decide⟩, ⟨by decide, by decide⟩, ⟨by decide, by decide⟩, ⟨by decide, by decide⟩, ⟨by decide, by decide⟩⟩
theorem geoB14 : geoB gS14 = true := by decide

theorem log14_c (i v : Int) (hv : v = if i < 0 ∨ 16 ≤ i then -1 else 5 + i) (w : World) : Calls Try.prog 129 #[gS14.val, I i] w fun e w' => e = .returned (I v) ∧ Below w.heap.size w w' := by
  have hr : findR 4 (regL gS14) = ⟨5, 16, 4, 1⟩ := by rw [regL, if_pos geoB14]; rfl
  refine enter (E := E0) (O := []) (nl := 0) (V := vw w) [.a (.v gS14.val), .a (.v (I i))] Try.func129 rfl rfl (mem0 E0 0 w) rfl rfl ?_
  refine c_seq ?_
  refine c_region ?_
  refine o_new tok rfl rfl rfl rfl ?_
  refine o_yield rfl rfl rfl (y_val tok rfl) ?_
  refine o_end [1, 2] rfl ?_
  refine x_then ?_
  refine c_seq ?_
  refine c_region ?_
  refine o_yield rfl rfl rfl (y_val tok rfl) ?_
  refine o_yield rfl rfl rfl (y_val tok rfl) ?_
  refine o_call (.a (.v _)) rfl rfl fnok150 rfl rfl rfl (fun hg E w1 hm => by exact of_c' gS14 ok14 4 i 0 _ hr 16 (by omega) (by dsimp only; omega) (by dsimp only; omega) (by dsimp only; omega) (by dsimp only; omega) (by dsimp only; omega) v (by rw [hv]; dsimp only; split <;> split <;> omega) _) ?_
  refine o_yield rfl rfl rfl (y_val tok rfl) ?_
  refine o_end [4] rfl ?_
  refine x_then ?_
  refine c_ret ?_
  refine b_ret tok rfl ?_
  intro E w' hm _
  refine ⟨?_, hm.below (Vw.le.refl _)⟩
  rfl

theorem want0_c (w : World) : Calls Try.prog 96 #[gS14.val, I 0] w fun e w' => e = .returned (.agg #[I8 1, I 5, .string ByteArray.empty, I 0]) ∧ Below w.heap.size w w' := by
  refine enter (E := E0) (O := []) (nl := 0) (V := vw w) [.a (.v gS14.val), .a (.v (I 0))] Try.func96 rfl rfl (mem0 E0 0 w) rfl rfl ?_
  refine c_seq ?_
  refine c_region ?_
  refine o_new tok rfl rfl rfl rfl ?_
  refine o_new tok rfl rfl rfl rfl ?_
  refine o_end [1, 2, 4] rfl ?_
  refine x_then ?_
  refine c_seq ?_
  refine c_seq ?_
  refine c_region ?_
  refine o_yield rfl rfl rfl (y_val tok rfl) ?_
  refine o_yield rfl rfl rfl (y_val tok rfl) ?_
  refine o_call (.a (.v _)) rfl rfl fnok129 rfl rfl rfl (fun hg E w1 hm => by exact log14_c 0 5 (by decide) _) ?_
  refine o_yield rfl rfl rfl (y_val tok rfl) ?_
  refine o_end [4, 5] rfl ?_
  refine x_then ?_
  refine c_seq ?_
  refine c_region ?_
  refine o_yield rfl rfl rfl (y_val tok rfl) ?_
  refine o_yield rfl rfl rfl (y_val tok rfl) ?_
  refine o_end [4, 5, 10] rfl ?_
  refine x_then ?_
  refine c_cond rfl (fun h => ?_) (fun h => ?_)
  ·
    refine c_region ?_
    refine o_yield rfl rfl rfl (y_val tok rfl) ?_
    refine o_yield rfl rfl rfl (y_val tok rfl) ?_
    refine o_store tok rfl rfl rfl (by first | exact ⟨trivial, trivial⟩ | (repeat' first | exact trivial | exact rfl | apply And.intro); done | simp [onesP, oneP, lk, Value.oneCell']) ?_
    refine o_yield rfl rfl rfl (y_val tok rfl) ?_
    refine o_store tok rfl rfl rfl (by first | exact ⟨trivial, trivial⟩ | (repeat' first | exact trivial | exact rfl | apply And.intro); done | simp [onesP, oneP, lk, Value.oneCell']) ?_
    refine o_end [4] rfl ?_
    refine x_then ?_
    refine c_seq ?_
    refine c_region ?_
    refine o_yield rfl rfl rfl (y_val tok rfl) ?_
    refine o_store tok rfl rfl rfl (by first | exact ⟨trivial, trivial⟩ | (repeat' first | exact trivial | exact rfl | apply And.intro); done | simp [onesP, oneP, lk, Value.oneCell']) ?_
    refine o_end [4] rfl ?_
    refine x_then ?_
    refine c_ret ?_
    refine b_ret tok rfl ?_
    intro E w' hm _
    refine ⟨?_, hm.below (Vw.le.refl _)⟩
    rfl
  ·
    cases h

theorem want16_c (w : World) : Calls Try.prog 96 #[gS14.val, I 16] w fun e w' => e = .returned (.agg #[I8 0, I 0, .string ByteArray.empty, I 0]) ∧ Below w.heap.size w w' := by
  refine enter (E := E0) (O := []) (nl := 0) (V := vw w) [.a (.v gS14.val), .a (.v (I 16))] Try.func96 rfl rfl (mem0 E0 0 w) rfl rfl ?_
  refine c_seq ?_
  refine c_region ?_
  refine o_new tok rfl rfl rfl rfl ?_
  refine o_new tok rfl rfl rfl rfl ?_
  refine o_end [1, 2, 4] rfl ?_
  refine x_then ?_
  refine c_seq ?_
  refine c_seq ?_
  refine c_region ?_
  refine o_yield rfl rfl rfl (y_val tok rfl) ?_
  refine o_yield rfl rfl rfl (y_val tok rfl) ?_
  refine o_call (.a (.v _)) rfl rfl fnok129 rfl rfl rfl (fun hg E w1 hm => by exact log14_c 16 (-1) (by decide) _) ?_
  refine o_yield rfl rfl rfl (y_val tok rfl) ?_
  refine o_end [4, 5] rfl ?_
  refine x_then ?_
  refine c_seq ?_
  refine c_region ?_
  refine o_yield rfl rfl rfl (y_val tok rfl) ?_
  refine o_yield rfl rfl rfl (y_val tok rfl) ?_
  refine o_end [4, 5, 10] rfl ?_
  refine x_then ?_
  refine c_cond rfl (fun h => ?_) (fun h => ?_)
  ·
    cases h
  ·
    refine c_skip ?_
    refine x_then ?_
    refine c_seq ?_
    refine c_region ?_
    refine o_yield rfl rfl rfl (y_val tok rfl) ?_
    refine o_store tok rfl rfl rfl (by first | exact ⟨trivial, trivial⟩ | (repeat' first | exact trivial | exact rfl | apply And.intro); done | simp [onesP, oneP, lk, Value.oneCell']) ?_
    refine o_end [4] rfl ?_
    refine x_then ?_
    refine c_ret ?_
    refine b_ret tok rfl ?_
    intro E w' hm _
    refine ⟨?_, hm.below (Vw.le.refl _)⟩
    rfl

abbrev l14 : List Cmd := [⟨0, 16, 1, 0, 0, 0, 0, 0⟩, ⟨0, 33, 1, 0, 0, 0, 0, 0⟩, ⟨1, 16, 2, 0, 0, 0, 0, 0⟩]
theorem mem14 : memL (behind 1 (newT 2) l14).S = [33] := rfl
theorem cmd14 : ∀ c ∈ l14, cmdB c = true := by decide

theorem wakes14_c (w : World) : Calls Try.prog 47 #[] w fun e w' => e = .returned (.bool true) ∧ Below w.heap.size w w' := by
  refine enter (E := E0) (O := []) (nl := 0) (V := vw w) [] Try.func47 rfl rfl (mem0 E0 0 w) rfl rfl ?_
  refine c_seq ?_
  refine c_region ?_
  refine o_yield rfl rfl rfl (y_val tok rfl) ?_
  refine o_end [] rfl ?_
  refine x_then ?_
  refine c_seq ?_
  refine c_region ?_
  refine o_call (.agg [.v (I 2), .v (I 2), .v (I 1), .v (I 1), .v (I 3), .v (I 16), .v (I 1), .v (I 2)]) rfl rfl fnok95 rfl rfl rfl (fun hg E w1 hm => by exact small14_c _) ?_
  refine o_yield rfl rfl rfl (y_val tok rfl) ?_
  refine o_yield rfl rfl rfl (y_val tok rfl) ?_
  refine o_yield rfl rfl rfl (y_val tok rfl) ?_
  refine o_bs tok rfl rfl rfl rfl (fun b1 W1 hlw1 hb1 => ?_)
  have hL : SlOf W1 Cmd.cells 8 (.slice (some ⟨b1, 0, none⟩) 3 3) l14 := SlOf.ofBlock (enc := Cmd.cells) (sz := 8) (l := l14) (hb1 rfl) rfl (fun _ => rfl) (Nat.le_refl _)
  obtain ⟨T, hT⟩ : ∃ T, T = behind 1 (newT 2) l14 := ⟨_, rfl⟩
  refine o_callV (fun v V' => TbIs V' v T) rfl rfl fnok48 rfl rfl (fun hg E w1 hm => by exact (by have h := behind_c W1 gS14 _ l14 w1 hm.leV hL (by decide) cmd14; rw [hT]; exact h)) ?_
  rintro v2 W2 hlw2 hv2
  have hv2' := hv2 rfl
  obtain ⟨x1, y1, z1, x2, y2, z2, x3, y3, z3, rfl, _⟩ := id hv2'
  have hfit : T.Fit := by rw [hT]; exact ⟨by decide, by decide, by decide⟩
  refine o_new tok rfl rfl rfl rfl ?_
  refine o_store tok rfl rfl rfl (by first | exact ⟨trivial, trivial⟩ | (repeat' first | exact trivial | exact rfl | apply And.intro); done | simp [onesP, oneP, lk, Value.oneCell']) ?_
  refine o_end [1] rfl ?_
  refine x_then ?_
  refine c_seq ?_
  refine c_region ?_
  refine o_yield rfl rfl rfl (y_val tok rfl) ?_
  refine o_callV (fun v V' => SlOf V' encI64 1 v [33]) rfl rfl fnok49 rfl rfl (fun hg E w1 hm => by exact (lMembers_c W2 _ T _ hfit hm.leV hv2').mono fun e w' h => IRow.out (l := [33]) (by rw [hT, mem14] at h; exact h) hm.leV) ?_
  rintro v3 W3 hlw3 hv3
  have hs3 := hv3 rfl
  obtain ⟨a3, n3, c3, rfl⟩ := sl_shape hs3.sl
  refine o_yield rfl rfl rfl (y_val tok rfl) ?_
  refine o_end [2] rfl ?_
  refine x_then ?_
  refine c_seq ?_
  refine c_region ?_
  refine o_call (.agg [.v (I 2), .v (I 2), .v (I 1), .v (I 1), .v (I 3), .v (I 16), .v (I 1), .v (I 2)]) rfl rfl fnok95 rfl rfl rfl (fun hg E w1 hm => by exact small14_c _) ?_
  refine o_call (.agg [.v (I8 1), .v (I 5), .v (.string ByteArray.empty), .v (I 0)]) rfl rfl fnok96 rfl rfl rfl (fun hg E w1 hm => by exact want0_c _) ?_
  refine o_new tok rfl rfl rfl rfl ?_
  refine o_store tok rfl rfl rfl (by first | exact ⟨trivial, trivial⟩ | (repeat' first | exact trivial | exact rfl | apply And.intro); done | simp [onesP, oneP, lk, Value.oneCell']) ?_
  refine o_end [2, 3] rfl ?_
  refine x_then ?_
  refine c_seq ?_
  refine c_region ?_
  refine o_yield rfl rfl rfl (y_val tok rfl) ?_
  have h33 : ([33] : List Int)[0]? = some 33 := rfl
  refine o_yield rfl rfl rfl (y_len tok rfl (fun hg => hs3.sl)) ?_
  refine o_yield rfl rfl rfl (y_val tok rfl) ?_
  refine o_yield rfl rfl rfl (y_val tok rfl) ?_
  refine o_yield rfl rfl rfl (y_val tok rfl) ?_
  have hlt__33___Int_ := lt_of_at h33
  refine o_yield rfl rfl rfl (y_idx tok rfl (fun hg => hs3.sl) (fun hg => ⟨by decide, by decide⟩)) ?_
  refine o_yield rfl rfl rfl (y_lel tok (0) 0 ((33 : Int)) rfl (fun hg => hs3) (fun hg => h33) rfl rfl) ?_
  refine o_yield rfl rfl rfl (y_val tok rfl) ?_
  refine o_yield rfl rfl rfl (y_val tok rfl) ?_
  refine o_yield rfl rfl rfl (y_val tok rfl) ?_
  refine o_yield rfl rfl rfl (y_val tok rfl) ?_
  refine o_yield rfl rfl rfl (y_val tok rfl) ?_
  refine o_yield rfl rfl rfl (y_val tok rfl) ?_
  refine o_yield rfl rfl rfl (y_val tok rfl) ?_
  refine o_yield rfl rfl rfl (y_val tok rfl) ?_
  refine o_yield rfl rfl rfl (y_val tok rfl) ?_
  refine o_yield rfl rfl rfl (y_val tok rfl) ?_
  refine o_yield rfl rfl rfl (y_val tok rfl) ?_
  refine o_yield rfl rfl rfl (y_val tok rfl) ?_
  refine o_yield rfl rfl rfl (y_val tok rfl) ?_
  refine o_call (.agg [.v (I 2), .v (I 2), .v (I 1), .v (I 1), .v (I 3), .v (I 16), .v (I 1), .v (I 2)]) rfl rfl fnok95 rfl rfl rfl (fun hg E w1 hm => by exact small14_c _) ?_
  refine o_call (.agg [.v (I8 0), .v (I 0), .v (.string ByteArray.empty), .v (I 0)]) rfl rfl fnok96 rfl rfl rfl (fun hg E w1 hm => by exact want16_c _) ?_
  refine o_yield rfl rfl rfl (y_val tok rfl) ?_
  refine o_yield rfl rfl rfl (y_val tok rfl) ?_
  refine o_yield rfl rfl rfl (y_val tok rfl) ?_
  refine o_yield rfl rfl rfl (y_val tok rfl) ?_
  refine o_end [0] rfl ?_
  refine x_then ?_
  refine c_ret ?_
  refine b_ret tok rfl ?_
  intro E w' hm _
  refine ⟨?_, hm.below (by repeat (first | exact Vw.le.refl _ | assumption | (refine Vw.le.trans ?_ (by assumption))))⟩
  rfl
end Go.Proofs.Ytiapfhcimekdkaa

/- LearnOld: plain facts, and what is among numbers. -/
set_option linter.unusedVariables false
set_option linter.unusedSimpArgs false
set_option maxRecDepth 100000
namespace Go.Proofs.Ytiapfhcimekdkaa
open Go Go.Eng Go.RowKit

/-- Keys of slots may be. -/
def KeysB (S : List Slot) : Prop := ∀ x ∈ S, x.key = 0 ∨ keyB x.key = true

theorem KeysB.set {S : List Slot} (h : KeysB S) (k : Nat) (a : Slot) (ha : a.key = 0 ∨ keyB a.key = true) : KeysB (S.set k a) := by
  intro x hx
  rcases mem_set_cases hx with rfl | ⟨j, _, hj⟩
  · exact ha
  · exact h x (List.mem_of_getElem? hj)

theorem KeysB.clear {t : Tb} (h : KeysB t.S) (k : Nat) : KeysB (t.clear k).S := KeysB.set h k ⟨0, 0⟩ (.inl rfl)

theorem KeysB.apply {t : Tb} (h : KeysB t.S) (blocks : Int) {c : Cmd} (hc : keyB c.by_ = true) : KeysB (t.apply blocks c).S := by
  unfold Tb.apply
  split
  · unfold Tb.mount
    split
    · exact h
    · split
      · exact h
      · exact h.set _ _ (.inr hc)
  · split
    · unfold Tb.leave
      split
      · exact h.clear _
      · exact h
    · split
      · unfold Tb.ask
        split
        · exact h
        · exact h
      · split
        · unfold Tb.free
          split
          · exact h
          · split <;> exact h
        · split
          · unfold Tb.claim
            split
            · rename_i k hk
              split
              · obtain ⟨_, x, hx, he⟩ := slot_some hk
                refine h.set _ _ ?_
                dsimp only
                rw [slotKey_at hx]
                exact h x (List.mem_of_getElem? hx)
              · exact h
            · exact h
          · split
            · unfold Tb.purge
              split
              · split
                · exact h.clear _
                · exact h
              · exact h
            · exact h

theorem cmdB_keyB {c : Cmd} (h : cmdB c = true) : keyB c.by_ = true := by
  simp only [cmdB, Bool.and_eq_true] at h
  exact h.1.1.1

theorem behind_ok (blocks : Int) : ∀ (l : List Cmd) (n : Int) (t : Tb), (∀ c ∈ l, cmdB c = true) → TbOk n blocks t → KeysB t.S →
    TbOk n blocks (behind blocks t l) ∧ KeysB (behind blocks t l).S ∧ (behind blocks t l).H.length + (behind blocks t l).Q.length ≤ t.H.length + t.Q.length + l.length
  | [], n, t, _, h1, h2 => ⟨h1, h2, Nat.le_refl _⟩
  | c :: l, n, t, hc, h1, h2 => by
    have hcB := hc c List.mem_cons_self
    have ih := behind_ok blocks l n (t.apply blocks c) (fun d hd => hc d (List.mem_cons_of_mem _ hd)) (h1.apply (cmdB_key hcB)) (h2.apply blocks (cmdB_keyB hcB))
    have hs := apply_sum blocks t c
    refine ⟨ih.1, ih.2.1, Nat.le_trans ih.2.2 ?_⟩
    rw [List.length_cons]; omega

theorem new_keys (slots : Int) : KeysB (newT slots).S := by
  intro x hx
  rw [(List.mem_replicate.1 hx).2]
  exact .inl rfl

theorem mem_memL {S : List Slot} {m : Int} : m ∈ memL S ↔ m ≠ 0 ∧ ∃ x ∈ S, x.key = m := by
  rw [memL, List.mem_map]
  constructor
  · rintro ⟨x, hx, rfl⟩
    rw [List.mem_filter] at hx
    exact ⟨by simpa using hx.2, x, hx.1, rfl⟩
  · rintro ⟨h0, x, hx, rfl⟩
    exact ⟨x, List.mem_filter.2 ⟨hx, by simpa using h0⟩, rfl⟩

theorem memL_nodup {S : List Slot} (h : SlotsOk S) : (memL S).Pairwise (· ≠ ·) := by
  rw [memL, List.pairwise_map]
  have hp := h.once
  rw [List.pairwise_map] at hp
  have := hp.filter (fun x => !(x.key == 0))
  rw [List.pairwise_iff_getElem] at this ⊢
  intro i j hi hj hij
  refine this i j hi hj hij ?_
  have := List.getElem_mem hj
  rw [List.mem_filter] at this
  simpa using this.2

theorem keysL_filter (pr : Int → Bool) (S : List Slot) : keysL pr S = (memL S).filter pr := by
  rw [keysL, memL, List.filter_map, List.filter_filter]
  congr 1
  refine List.filter_congr fun x _ => ?_
  rw [Bool.and_comm]; rfl

theorem old_same {key m : Int} (hk : keyB key = true) (hm : keyB m = true) : oldB key m = (decide (m < key) && (m.tmod 16 == key.tmod 16)) := by
  rw [oldB, seatOf, seatOf, if_pos hk, if_pos hm, hk, Bool.true_and]

theorem old_key {key m : Int} (h : oldB key m = true) (hm : keyB m = true) : m < key ∧ m.tmod 16 = key.tmod 16 := by
  have hk : keyB key = true := by
    simp only [oldB, Bool.and_eq_true] at h
    exact h.1.1
  rw [old_same hk hm] at h
  simpa using h

theorem amongL {M : List Int} (h : M.Pairwise (· ≠ ·)) {m : Int} (hm : m ∈ M) : M.filter (fun x => x == m) = [m] := by
  induction M with
  | nil => simp at hm
  | cons a M ih =>
    rw [List.pairwise_cons] at h
    by_cases e : a = m
    · subst e
      rw [List.filter_cons_of_pos (by simp), List.filter_eq_nil_iff.2]
      intro x hx
      simpa using (h.1 x hx).symm
    · rw [List.filter_cons_of_neg (by simpa using e)]
      exact ih h.2 ((List.mem_cons.1 hm).resolve_left (fun he => e he.symm))

theorem ifilt_step {l : List Int} {k : Nat} {x : Int} (pr : Int → Bool) (h : l[k]? = some x) : (l.take (k + 1)).filter pr = (l.take k).filter pr ++ (if pr x = true then [x] else []) := by
  rw [take_succ_at' h, List.filter_append]
  cases hq : pr x <;> simp [hq]

theorem ifilt_len (l : List Int) (k : Nat) (pr : Int → Bool) : ((l.take k).filter pr).length ≤ k := Nat.le_trans (List.length_filter_le _ _) (by rw [List.length_take]; omega)

theorem among_c (V : Vw) (mv : Value) (M : List Int) (m : Int) (w : World) (hV : V.le (vw w)) (hs0 : SlOf V encI64 1 mv M) (hn : M.length ≤ 1000) :
    Calls Try.prog 52 #[mv, I m] w (IRow (M.filter fun x => x == m) w) := by
  have hs := hs0.mono hV
  refine enter (E := E0) (O := []) (nl := 0) (V := vw w) [.a (.v mv), .a (.v (I m))] Try.func52 rfl rfl (mem0 E0 0 w) rfl rfl ?_
  refine c_seq ?_
  refine c_region ?_
  refine o_yield rfl rfl rfl (y_val tok rfl) ?_
  refine o_end [0, 1] rfl ?_
  refine x_then ?_
  refine c_seq ?_
  refine c_region ?_
  refine o_yield rfl rfl rfl (y_val tok rfl) ?_
  refine o_end [0, 1, 5] rfl ?_
  refine x_then ?_
  refine c_seq ?_
  refine c_seq ?_
  refine c_region ?_
  refine o_yield rfl rfl rfl (y_val tok rfl) ?_
  refine o_end [0, 1, 5, 6] rfl ?_
  refine x_then ?_
  refine c_block ?_
  refine k_nil 5 3 1 rfl rfl ?_
  refine c_loopK [0, 1] [0] rfl rfl (σ := Nat) (fun i => [(5, .a (.row 0)), (6, .a (.v (I i)))]) (fun i => [(0, .row 3 1 ((M.take i).filter fun x => x == m).length (((M.take i).filter fun x => x == m).flatMap encI64))]) (fun i => i ≤ M.length) (fun i => M.length - i) (0) (by omega) (by repeat (first | exact SubF.nil | refine SubF.cons rfl ?_)) (by repeat (first | exact SubO.nil | refine SubO.cons rfl ?_)) rfl ?_
  rintro i hi
  refine c_seq ?_
  refine c_seq ?_
  refine c_region ?_
  refine o_yield rfl rfl rfl (y_val tok rfl) ?_
  refine o_yield rfl rfl rfl (y_val tok rfl) ?_
  refine o_yield rfl rfl rfl (y_len tok rfl (fun hg => hs.sl)) ?_
  refine o_yield rfl rfl rfl (y_val tok rfl) ?_
  refine o_end [0, 1, 5, 6, 10] rfl ?_
  refine x_then ?_
  refine c_cond rfl (fun h => ?_) (fun h => ?_)
  ·
    simp only [Bool.and_eq_true, Bool.or_eq_true, Bool.not_eq_true', Bool.or_eq_false_iff, Bool.and_eq_false_iff, decide_eq_true_eq, decide_eq_false_iff_not, beq_iff_eq, bne_iff_ne, Bool.not_eq_false', beq_eq_false_iff_ne, bne_eq_false_iff_eq, ne_eq, Decidable.not_not, Int.not_lt, Int.not_le] at h
    obtain ⟨x, h_x⟩ : ∃ x, M[i]? = some x := ⟨_, List.getElem?_eq_getElem (by omega)⟩
    have hwi : IntKind.i64.wrap ((i : Int) + 1) = ((i + 1 : Nat) : Int) := wrapI (by omega) (by omega)
    have hfl := ifilt_len M i (fun x => x == m)
    have hft := ifilt_step (fun x => x == m) h_x
    refine c_skip ?_
    refine x_then ?_
    refine c_seq ?_
    refine c_block ?_
    refine c_seq ?_
    refine c_region ?_
    refine o_yield rfl rfl rfl (y_val tok rfl) ?_
    refine o_yield rfl rfl rfl (y_val tok rfl) ?_
    have hlt_x := lt_of_at h_x
    refine o_yield rfl rfl rfl (y_idx tok rfl (fun hg => hs.sl) (fun hg => ⟨by omega, by omega⟩)) ?_
    refine o_yield rfl rfl rfl (y_lel tok (i) 0 (x) rfl (fun hg => hs) (fun hg => h_x) rfl rfl) ?_
    refine o_yield rfl rfl rfl (y_val tok rfl) ?_
    refine o_yield rfl rfl rfl (y_val tok rfl) ?_
    refine o_end [0, 1, 5, 6, 18] rfl ?_
    refine x_then ?_
    refine c_cond rfl (fun h => ?_) (fun h => ?_)
    ·
      refine c_region ?_
      refine o_yield rfl rfl rfl (y_val tok rfl) ?_
      refine o_yield rfl rfl rfl (y_val tok rfl) ?_
      have h' : (x == m) = true := by simpa using h
      have hxm : x = m := by simpa using h
      rw [if_pos h'] at hft
      refine o_step rfl rfl rfl rfl rfl (s_bs tok 1 rfl rfl rfl) (fun _ _ => ?_)
      refine o_step rfl rfl rfl rfl rfl (s_app tok [I m] rfl (fun E w hm => ownsRow_src (hm.row _ _ _ _ _ rfl)) (fun _ _ _ => by intro u hu; simp only [List.mem_singleton] at hu; subst hu; rfl) (by dsimp only; omega)) (fun _ _ => ?_)
      refine o_yield rfl rfl rfl (y_val tok rfl) ?_
      refine o_end [0, 1, 5, 6] rfl ?_
      refine x_block ?_
      refine x_then ?_
      refine c_region ?_
      refine o_yield rfl rfl rfl (y_val tok rfl) ?_
      refine o_yield rfl rfl rfl (y_val tok rfl) ?_
      refine o_yield rfl rfl rfl (y_val tok rfl) ?_
      refine o_end [0, 1, 5, 6] rfl ?_
      refine x_then ?_
      rw [hxm] at hft
      rw [(mint_snoc _ m).1, (mint_snoc _ m).2, ← hft, hwi]
      refine k_swap 0 2 rfl ?_
      refine x_round (i + 1) (by omega) (by first | omega | (dsimp only; omega)) (by repeat (first | exact SubF.nil | refine SubF.cons rfl ?_)) (by repeat (first | exact SubO.nil | refine SubO.cons rfl ?_)) rfl (Vw.le.refl _)
    ·
      refine c_skip ?_
      refine x_block ?_
      refine x_then ?_
      refine c_region ?_
      refine o_yield rfl rfl rfl (y_val tok rfl) ?_
      refine o_yield rfl rfl rfl (y_val tok rfl) ?_
      refine o_yield rfl rfl rfl (y_val tok rfl) ?_
      refine o_end [0, 1, 5, 6] rfl ?_
      refine x_then ?_
      have h' : ¬ (x == m) = true := by simpa using h
      rw [if_neg h', List.append_nil] at hft
      rw [← hft, hwi]
      refine x_round (i + 1) (by omega) (by first | omega | (dsimp only; omega)) (by repeat (first | exact SubF.nil | refine SubF.cons rfl ?_)) (by repeat (first | exact SubO.nil | refine SubO.cons rfl ?_)) rfl (Vw.le.refl _)
  ·
    simp only [Bool.and_eq_true, Bool.or_eq_true, Bool.not_eq_true', Bool.or_eq_false_iff, Bool.and_eq_false_iff, decide_eq_true_eq, decide_eq_false_iff_not, beq_iff_eq, bne_iff_ne, Bool.not_eq_false', beq_eq_false_iff_ne, bne_eq_false_iff_eq, ne_eq, Decidable.not_not, Int.not_lt, Int.not_le] at h
    refine c_exit ?_
    refine x_then_exit ?_
    refine x_then_exit ?_
    refine x_block_hit ?_
    refine x_then ?_
    refine c_seq ?_
    refine c_region ?_
    refine o_yield rfl rfl rfl (y_val tok rfl) ?_
    refine o_yield rfl rfl rfl (y_val tok rfl) ?_
    refine o_end [4] rfl ?_
    refine x_then ?_
    refine c_ret ?_
    refine b_ret tok rfl ?_
    have hil : i = M.length := by omega
    subst hil
    rw [List.take_length]
    intro E' w' hm _
    exact ⟨_, rfl, hm.rowFresh (Vw.le.refl _) (l := 0) rfl, hm.below (Vw.le.refl _)⟩
end Go.Proofs.Ytiapfhcimekdkaa

/- THE LAW LearnOld. -/
set_option linter.unusedVariables false
set_option linter.unusedSimpArgs false
set_option maxRecDepth 100000
namespace Go.Proofs.Ytiapfhcimekdkaa
open Go Go.Eng Go.RowKit

theorem ints_eq (V : Vw) (av bv : Value) (A : List Int) (w : World) (hV : V.le (vw w)) (ha0 : SlOf V encI64 1 av A) (hb0 : SlOf V encI64 1 bv A) (hA : A.length ≤ 1000000) :
    Calls Try.prog 51 #[av, bv] w fun e w' => e = .returned (.bool true) ∧ Below w.heap.size w w' := by
  have ha := ha0.mono hV
  have hb := hb0.mono hV
  refine enter (E := E0) (O := []) (nl := 0) (V := vw w) [.a (.v av), .a (.v bv)] Try.func51 rfl rfl (mem0 E0 0 w) rfl rfl ?_
  refine c_seq ?_
  refine c_region ?_
  refine o_yield rfl rfl rfl (y_val tok rfl) ?_
  refine o_end [0, 1] rfl ?_
  refine x_then ?_
  refine c_seq ?_
  refine c_seq ?_
  refine c_region ?_
  refine o_yield rfl rfl rfl (y_val tok rfl) ?_
  refine o_yield rfl rfl rfl (y_len tok rfl (fun hg => ha.sl)) ?_
  refine o_yield rfl rfl rfl (y_val tok rfl) ?_
  refine o_yield rfl rfl rfl (y_len tok rfl (fun hg => hb.sl)) ?_
  refine o_yield rfl rfl rfl (y_val tok rfl) ?_
  refine o_end [0, 1, 10] rfl ?_
  refine x_then ?_
  refine c_cond rfl (fun h => ?_) (fun h => ?_)
  ·
    exfalso
    simp at h
  ·
    refine c_skip ?_
    refine x_then ?_
    refine c_seq ?_
    refine c_seq ?_
    refine c_region ?_
    refine o_yield rfl rfl rfl (y_val tok rfl) ?_
    refine o_end [0, 1, 5] rfl ?_
    refine x_then ?_
    refine c_block ?_
    clear h
    refine c_loopK [0, 1] [] rfl rfl (σ := Nat) (fun k => [(5, .a (.v (I k)))]) (fun k => []) (fun k => k ≤ A.length) (fun k => A.length - k) (0) (by omega) (by repeat (first | exact SubF.nil | refine SubF.cons rfl ?_)) (by repeat (first | exact SubO.nil | refine SubO.cons rfl ?_)) rfl ?_
    rintro k hk
    refine c_seq ?_
    refine c_seq ?_
    refine c_region ?_
    refine o_yield rfl rfl rfl (y_val tok rfl) ?_
    refine o_yield rfl rfl rfl (y_val tok rfl) ?_
    refine o_yield rfl rfl rfl (y_len tok rfl (fun hg => ha.sl)) ?_
    refine o_yield rfl rfl rfl (y_val tok rfl) ?_
    refine o_end [0, 1, 5, 14] rfl ?_
    refine x_then ?_
    refine c_cond rfl (fun h => ?_) (fun h => ?_)
    ·
      simp only [Bool.and_eq_true, Bool.or_eq_true, Bool.not_eq_true', Bool.or_eq_false_iff, Bool.and_eq_false_iff, decide_eq_true_eq, decide_eq_false_iff_not, beq_iff_eq, bne_iff_ne, Bool.not_eq_false', beq_eq_false_iff_ne, bne_eq_false_iff_eq, ne_eq, Decidable.not_not, Int.not_lt, Int.not_le] at h
      refine c_skip ?_
      refine x_then ?_
      refine c_seq ?_
      refine c_block ?_
      refine c_seq ?_
      refine c_draw mixed (by kernel_rfl) ?_
      refine d_yield rfl rfl rfl (y_val tok rfl) rfl ?_
      refine d_yield rfl rfl rfl (y_val tok rfl) rfl ?_
      obtain ⟨x, h_x⟩ := ha.at (k := k) (by omega)
      have hlt_x := lt_of_at h_x
      refine d_yield rfl rfl rfl (y_idx tok rfl (fun hg => ha.sl) (fun hg => ⟨by omega, by omega⟩)) rfl ?_
      refine d_yield rfl rfl rfl (y_lel tok (k) 0 (x) rfl (fun hg => ha) (fun hg => h_x) rfl rfl) rfl ?_
      refine d_yield rfl rfl rfl (y_val tok rfl) rfl ?_
      refine d_yield rfl rfl rfl (y_val tok rfl) rfl ?_
      have hlt_x := lt_of_at h_x
      refine d_yield rfl rfl rfl (y_idx tok rfl (fun hg => hb.sl) (fun hg => ⟨by omega, by omega⟩)) rfl ?_
      refine d_yield rfl rfl rfl (y_lel tok (k) 0 (x) rfl (fun hg => hb) (fun hg => h_x) rfl rfl) rfl ?_
      refine d_yield rfl rfl rfl (y_val tok rfl) rfl ?_
      refine d_end [0, 1, 5, 25] rfl ?_
      refine x_then ?_
      refine c_cond rfl (fun h => ?_) (fun h => ?_)
      ·
        exfalso
        simp at h
      ·
        refine c_skip ?_
        refine x_block ?_
        refine x_then ?_
        refine c_region ?_
        refine o_yield rfl rfl rfl (y_val tok rfl) ?_
        refine o_yield rfl rfl rfl (y_val tok rfl) ?_
        refine o_yield rfl rfl rfl (y_val tok rfl) ?_
        refine o_end [0, 1, 5] rfl ?_
        refine x_then ?_
        rw [wrapI (n := (k : Int) + 1) (by omega) (by omega)]
        refine x_round (k + 1) (by omega) (by first | omega | (dsimp only; omega)) (by repeat (first | exact SubF.nil | refine SubF.cons rfl ?_)) (by repeat (first | exact SubO.nil | refine SubO.cons rfl ?_)) rfl (Vw.le.refl _)
    ·
      simp only [Bool.and_eq_true, Bool.or_eq_true, Bool.not_eq_true', Bool.or_eq_false_iff, Bool.and_eq_false_iff, decide_eq_true_eq, decide_eq_false_iff_not, beq_iff_eq, bne_iff_ne, Bool.not_eq_false', beq_eq_false_iff_ne, bne_eq_false_iff_eq, ne_eq, Decidable.not_not, Int.not_lt, Int.not_le] at h
      refine c_exit ?_
      refine x_then_exit ?_
      refine x_then_exit ?_
      refine x_block_hit ?_
      refine x_then ?_
      refine c_seq ?_
      refine c_region ?_
      refine o_yield rfl rfl rfl (y_val tok rfl) ?_
      refine o_end [4] rfl ?_
      refine x_then ?_
      refine c_ret ?_
      refine b_ret tok rfl ?_
      intro E w' hm _
      refine ⟨?_, hm.below (Vw.le.refl _)⟩
      rfl

def cqB (key m : Int) : Bool := decide (m < key) && (m.tmod 16 == key.tmod 16)

theorem learnOld_law (w : World) {v0 v1 v2 : Value} (R0 : ∃ g : Geo, v0 = g.val ∧ g.Ok) (R1 : ∃ l : List Cmd, SlOf (vw w) Cmd.cells 8 v1 l ∧ l.length ≤ maxLen ∧ ∀ a ∈ l, Cmd.Ok a) (R2 : ∃ n : Int, v2 = I n ∧ R64 n) :
    Calls Try.prog 10 #[v0, v1, v2] w fun e w' => e = .returned (.bool true) ∧ Below w.heap.size w w' := by
  obtain ⟨g, rfl, _⟩ := R0
  obtain ⟨l, hs, hlm, _⟩ := R1
  obtain ⟨key, rfl, hkr⟩ := R2
  obtain ⟨a0, n0, c0, rfl⟩ := sl_shape hs.sl
  simp only [maxLen] at hlm
  refine enter (E := E0) (O := []) (nl := 0) (V := vw w) [.a (.v g.val), .a (.v (.slice a0 n0 c0)), .a (.v (I key))] Try.func10 rfl rfl (mem0 E0 0 w) rfl rfl ?_
  refine c_seq ?_
  refine c_region ?_
  refine o_new tok rfl rfl rfl rfl ?_
  refine o_yield rfl rfl rfl (y_val tok rfl) ?_
  refine o_end [1, 2, 3] rfl ?_
  refine x_then ?_
  refine c_seq ?_
  refine c_seq ?_
  refine c_region ?_
  refine o_yield rfl rfl rfl (y_val tok rfl) ?_
  refine o_yield rfl rfl rfl (y_len tok rfl (fun hg => hs.sl)) ?_
  refine o_yield rfl rfl rfl (y_val tok rfl) ?_
  refine o_end [1, 2, 3, 18] rfl ?_
  refine x_then ?_
  refine c_cond rfl (fun h => ?_) (fun h => ?_)
  ·
    simp only [Bool.and_eq_true, Bool.or_eq_true, Bool.not_eq_true', Bool.or_eq_false_iff, Bool.and_eq_false_iff, decide_eq_true_eq, decide_eq_false_iff_not, beq_iff_eq, bne_iff_ne, Bool.not_eq_false', beq_eq_false_iff_ne, bne_eq_false_iff_eq, ne_eq, Decidable.not_not, Int.not_lt, Int.not_le] at h
    refine c_seq ?_
    refine c_region ?_
    refine o_call (.a (.v _)) rfl rfl fnok47 rfl rfl rfl (fun hg E w1 hm => by exact wakes14_c _) ?_
    refine o_yield rfl rfl rfl (y_val tok rfl) ?_
    refine o_end [6] rfl ?_
    refine x_then ?_
    refine c_ret ?_
    refine x_then_ret ?_
    refine b_ret tok rfl ?_
    intro E w' hm _
    refine ⟨?_, hm.below (Vw.le.refl _)⟩
    rfl
  ·
    simp only [Bool.and_eq_true, Bool.or_eq_true, Bool.not_eq_true', Bool.or_eq_false_iff, Bool.and_eq_false_iff, decide_eq_true_eq, decide_eq_false_iff_not, beq_iff_eq, bne_iff_ne, Bool.not_eq_false', beq_eq_false_iff_ne, bne_eq_false_iff_eq, ne_eq, Decidable.not_not, Int.not_lt, Int.not_le] at h
    have hl60 : l.length ≤ 60 := by omega
    clear h
    refine c_skip ?_
    refine x_then ?_
    refine c_seq ?_
    refine c_seq ?_
    refine c_region ?_
    refine o_yield rfl rfl rfl (y_val tok rfl) ?_
    refine o_end [1, 2, 3, 7] rfl ?_
    refine x_then ?_
    refine c_block ?_
    refine c_loopK [1, 2, 3] [] rfl rfl (σ := Nat) (fun i => [(7, .a (.v (I i)))]) (fun i => []) (fun i => i ≤ l.length ∧ ∀ (j : Nat) (c : Cmd), j < i → l[j]? = some c → cmdB c = true) (fun i => l.length - i) (0) (⟨by omega, fun j c hj => by omega⟩) (by repeat (first | exact SubF.nil | refine SubF.cons rfl ?_)) (by repeat (first | exact SubO.nil | refine SubO.cons rfl ?_)) rfl ?_
    rintro i ⟨hi, hall⟩
    refine c_seq ?_
    refine c_seq ?_
    refine c_region ?_
    refine o_yield rfl rfl rfl (y_val tok rfl) ?_
    refine o_yield rfl rfl rfl (y_val tok rfl) ?_
    refine o_yield rfl rfl rfl (y_len tok rfl (fun hg => hs.sl)) ?_
    refine o_yield rfl rfl rfl (y_val tok rfl) ?_
    refine o_end [1, 2, 3, 7, 23] rfl ?_
    refine x_then ?_
    refine c_cond rfl (fun h => ?_) (fun h => ?_)
    ·
      simp only [Bool.and_eq_true, Bool.or_eq_true, Bool.not_eq_true', Bool.or_eq_false_iff, Bool.and_eq_false_iff, decide_eq_true_eq, decide_eq_false_iff_not, beq_iff_eq, bne_iff_ne, Bool.not_eq_false', beq_eq_false_iff_ne, bne_eq_false_iff_eq, ne_eq, Decidable.not_not, Int.not_lt, Int.not_le] at h
      refine c_skip ?_
      refine x_then ?_
      refine c_seq ?_
      refine c_block ?_
      refine c_seq ?_
      refine c_region ?_
      refine o_yield rfl rfl rfl (y_val tok rfl) ?_
      refine o_yield rfl rfl rfl (y_val tok rfl) ?_
      obtain ⟨c, h_c⟩ := hs.at (k := i) (by omega)
      have hlt_c := lt_of_at h_c
      refine o_yield rfl rfl rfl (y_idx tok rfl (fun hg => hs.sl) (fun hg => ⟨by omega, by omega⟩)) ?_
      refine o_yield rfl rfl rfl (y_lel tok (i) 0 (c) rfl (fun hg => hs) (fun hg => h_c) rfl rfl) ?_
      refine o_call (.a (.v _)) rfl rfl fnok13 rfl rfl rfl (fun hg E w1 hm => by exact refCmdMay_c c _) ?_
      refine o_yield rfl rfl rfl (y_val tok rfl) ?_
      refine o_end [1, 2, 3, 7, 31] rfl ?_
      refine x_then ?_
      refine c_cond rfl (fun h => ?_) (fun h => ?_)
      ·
        refine c_seq ?_
        refine c_region ?_
        refine o_call (.a (.v _)) rfl rfl fnok47 rfl rfl rfl (fun hg E w1 hm => by exact wakes14_c _) ?_
        refine o_yield rfl rfl rfl (y_val tok rfl) ?_
        refine o_end [6] rfl ?_
        refine x_then ?_
        refine c_ret ?_
        refine x_block_ret ?_
        refine x_then_ret ?_
        refine x_then_ret ?_
        refine x_block_ret ?_
        refine x_then_ret ?_
        refine b_ret tok rfl ?_
        intro E w' hm _
        refine ⟨?_, hm.below (Vw.le.refl _)⟩
        rfl
      ·
        refine c_skip ?_
        refine x_block ?_
        refine x_then ?_
        refine c_region ?_
        refine o_yield rfl rfl rfl (y_val tok rfl) ?_
        refine o_yield rfl rfl rfl (y_val tok rfl) ?_
        refine o_yield rfl rfl rfl (y_val tok rfl) ?_
        refine o_end [1, 2, 3, 7] rfl ?_
        refine x_then ?_
        have hc : cmdB c = true := by simpa using h
        rw [wrapI (by omega) (by omega)]
        refine x_round (i + 1) (⟨by omega, ahead_succ h_c hall hc⟩) (by first | omega | (dsimp only; omega)) (by repeat (first | exact SubF.nil | refine SubF.cons rfl ?_)) (by repeat (first | exact SubO.nil | refine SubO.cons rfl ?_)) rfl (Vw.le.refl _)
    ·
      simp only [Bool.and_eq_true, Bool.or_eq_true, Bool.not_eq_true', Bool.or_eq_false_iff, Bool.and_eq_false_iff, decide_eq_true_eq, decide_eq_false_iff_not, beq_iff_eq, bne_iff_ne, Bool.not_eq_false', beq_eq_false_iff_ne, bne_eq_false_iff_eq, ne_eq, Decidable.not_not, Int.not_lt, Int.not_le] at h
      have hil : i = l.length := by omega
      have hcm : ∀ c ∈ l, cmdB c = true := by
        intro c hc
        obtain ⟨j, hj⟩ := List.mem_iff_getElem?.1 hc
        exact hall j c (by rw [hil]; exact lt_of_at hj) hj
      obtain ⟨T, hT⟩ : ∃ T, T = behind g.blocks (newT g.slots) l := ⟨_, rfl⟩
      obtain ⟨hok, hkb, hsum⟩ := behind_ok g.blocks l (newN g.slots) (newT g.slots) hcm (TbOk.new _ _) (new_keys _)
      have hbc := fun w1 hw1 => behind_c (vw w) g _ l w1 hw1 hs (by omega) hcm
      rw [← hT] at hok hkb hsum hbc
      have hn16 : ((newN g.slots : Nat) : Int) ≤ 16 := by rw [newN]; omega
      have h00 : (newT g.slots).H.length + (newT g.slots).Q.length = 0 := rfl
      have hfit := hok.fitS hn16 (by omega)
      have hSn := hok.n
      have hnd := memL_nodup hok.slots
      have hML : (memL T.S).length ≤ T.S.length := by have := memL_len T.S T.S.length; rwa [List.take_length] at this
      have hMk : ∀ m ∈ memL T.S, keyB m = true := by
        intro m hm
        obtain ⟨h0, x, hx, rfl⟩ := mem_memL.1 hm
        exact (hkb x hx).resolve_left h0
      have hMc := fun (V : Vw) (tv : Value) (hT : TbIs V tv T) w1 (hw1 : V.le (vw w1)) => lMembers_c V tv T w1 hfit.1 hw1 hT
      have hDc := fun (V : Vw) (tv : Value) (hT : TbIs V tv T) w1 (hw1 : V.le (vw w1)) => lOld_c V tv T key w1 hfit.1 hw1 hT
      have hDf := keysL_filter (oldB key) T.S
      rw [hDf] at hDc
      clear h hDf
      generalize memL T.S = M at *
      have hDl : (M.filter (oldB key)).length ≤ M.length := List.length_filter_le _ _
      refine c_exit ?_
      refine x_then_exit ?_
      refine x_then_exit ?_
      refine x_block_hit ?_
      refine x_then ?_
      refine c_seq ?_
      refine c_region ?_
      refine o_yield rfl rfl rfl (y_val tok rfl) ?_
      refine o_yield rfl rfl rfl (y_val tok rfl) ?_
      refine o_callV (fun v V' => TbIs V' v T) rfl rfl fnok48 rfl rfl (fun hg E w1 hm => by exact hbc _ hm.leV) ?_
      rintro v3 W3 hle3 hv3
      have hT3 := hv3 rfl
      obtain ⟨x1, y1, z1, x2, y2, z2, x3, y3, z3, rfl, _⟩ := id hT3
      refine o_new tok rfl rfl rfl rfl ?_
      refine o_store tok rfl rfl rfl (by first | exact ⟨trivial, trivial⟩ | (repeat' first | exact trivial | exact rfl | apply And.intro); done | simp [onesP, oneP, lk, Value.oneCell']) ?_
      refine o_end [2, 8] rfl ?_
      refine x_then ?_
      refine c_seq ?_
      refine c_heldR mixed rfl (by repeat (first | exact SubO.nil | refine SubO.cons rfl ?_)) (by first | rfl | simp [okCels, allOk_plain]) ?_
      refine t_take 0 rfl (by kernel_rfl) rfl rfl rfl (y_val tok rfl) rfl ?_
      refine t_take 2 rfl (by kernel_rfl) rfl rfl rfl (y_val tok rfl) rfl ?_
      refine t_take 3 rfl (by kernel_rfl) rfl rfl rfl (y_val tok rfl) rfl ?_
      refine t_go ?_
      refine h_one 1 (by kernel_rfl) ?_
      refine h_callV 1 (fun v V' => SlOf V' encI64 1 v M) rfl rfl rfl fnok49 rfl rfl (fun hg E w1 hm => by exact (hMc W3 _ hT3 _ hm.leV).mono fun e w' h => IRow.out h hm.leV) ?_
      rintro v4 W4 hle4 hv4
      have hM4 := hv4 rfl
      refine h_one 4 (by kernel_rfl) ?_
      refine h_callV 4 (fun v V' => SlOf V' encI64 1 v (M.filter (oldB key))) rfl rfl rfl fnok50 rfl rfl (fun hg E w1 hm => by exact (hDc W4 _ (hT3.mono hle4) _ hm.leV).mono fun e w' h => IRow.out h hm.leV) ?_
      rintro v5 W5 hle5 hv5
      have hD5 := hv5 rfl
      have hM5 := hM4.mono hle5
      have hle35 := hle3.trans (hle4.trans hle5)
      obtain ⟨D, hD⟩ : ∃ D, D = M.filter (oldB key) := ⟨_, rfl⟩
      rw [← hD] at hD5 hDl
      obtain ⟨u1, q1, r1, rfl⟩ := sl_shape hM5.sl
      obtain ⟨u2, q2, r2, rfl⟩ := sl_shape hD5.sl
      refine h_one 5 (by kernel_rfl) ?_
      refine h_yield 5 rfl rfl rfl rfl (y_val tok rfl) ?_
      refine h_one 6 (by kernel_rfl) ?_
      refine h_yield 6 rfl rfl rfl rfl (y_val tok rfl) ?_
      refine h_done [2, 9, 10] (by kernel_rfl) rfl ?_
      refine x_then ?_
      refine c_seq ?_
      refine c_seq ?_
      refine c_region ?_
      refine o_yield rfl rfl rfl (y_val tok rfl) ?_
      refine o_end [2, 9, 10, 11] rfl ?_
      refine x_then ?_
      refine c_block ?_
      refine c_loopK [2, 9, 10] [] rfl rfl (σ := Nat) (fun i => [(11, .a (.v (I i)))]) (fun i => []) (fun i => i ≤ M.length) (fun i => M.length - i) (0) (by omega) (by repeat (first | exact SubF.nil | refine SubF.cons rfl ?_)) (by repeat (first | exact SubO.nil | refine SubO.cons rfl ?_)) rfl ?_
      rintro i hi
      refine c_seq ?_
      refine c_seq ?_
      refine c_region ?_
      refine o_yield rfl rfl rfl (y_val tok rfl) ?_
      refine o_yield rfl rfl rfl (y_val tok rfl) ?_
      refine o_yield rfl rfl rfl (y_len tok rfl (fun hg => hM5.sl)) ?_
      refine o_yield rfl rfl rfl (y_val tok rfl) ?_
      refine o_end [2, 9, 10, 11, 44] rfl ?_
      refine x_then ?_
      refine c_cond rfl (fun h => ?_) (fun h => ?_)
      ·
        simp only [Bool.and_eq_true, Bool.or_eq_true, Bool.not_eq_true', Bool.or_eq_false_iff, Bool.and_eq_false_iff, decide_eq_true_eq, decide_eq_false_iff_not, beq_iff_eq, bne_iff_ne, Bool.not_eq_false', beq_eq_false_iff_ne, bne_eq_false_iff_eq, ne_eq, Decidable.not_not, Int.not_lt, Int.not_le] at h
        have hiM : i < M.length := by omega
        refine c_skip ?_
        refine x_then ?_
        refine c_seq ?_
        refine c_block ?_
        refine c_seq ?_
        refine c_region ?_
        refine o_yield rfl rfl rfl (y_val tok rfl) ?_
        refine o_end [2, 9, 10, 11, 12] rfl ?_
        refine x_then ?_
        refine c_block ?_
        refine c_loopK [2, 9, 10, 11] [] rfl rfl (σ := Nat) (fun k => [(12, .a (.v (I k)))]) (fun k => []) (fun k => k ≤ i) (fun k => i - k) (0) (by omega) (by repeat (first | exact SubF.nil | refine SubF.cons rfl ?_)) (by repeat (first | exact SubO.nil | refine SubO.cons rfl ?_)) rfl ?_
        rintro k hk
        refine c_seq ?_
        refine c_seq ?_
        refine c_region ?_
        refine o_yield rfl rfl rfl (y_val tok rfl) ?_
        refine o_yield rfl rfl rfl (y_val tok rfl) ?_
        refine o_yield rfl rfl rfl (y_val tok rfl) ?_
        refine o_end [2, 9, 10, 11, 12, 49] rfl ?_
        refine x_then ?_
        refine c_cond rfl (fun h => ?_) (fun h => ?_)
        ·
          simp only [Bool.and_eq_true, Bool.or_eq_true, Bool.not_eq_true', Bool.or_eq_false_iff, Bool.and_eq_false_iff, decide_eq_true_eq, decide_eq_false_iff_not, beq_iff_eq, bne_iff_ne, Bool.not_eq_false', beq_eq_false_iff_ne, bne_eq_false_iff_eq, ne_eq, Decidable.not_not, Int.not_lt, Int.not_le] at h
          have hki : k < i := by simp at h; omega
          clear h
          obtain ⟨x, hx⟩ : ∃ x, M[i]? = some x := ⟨_, List.getElem?_eq_getElem hiM⟩
          obtain ⟨y, hy⟩ : ∃ y, M[k]? = some y := ⟨_, List.getElem?_eq_getElem (by omega)⟩
          refine c_skip ?_
          refine x_then ?_
          refine c_seq ?_
          refine c_block ?_
          refine c_seq ?_
          refine c_draw mixed (by kernel_rfl) ?_
          refine d_yield rfl rfl rfl (y_val tok rfl) rfl ?_
          refine d_yield rfl rfl rfl (y_val tok rfl) rfl ?_
          have hlt_x := lt_of_at hx
          refine d_yield rfl rfl rfl (y_idx tok rfl (fun hg => hM5.sl) (fun hg => ⟨by omega, by omega⟩)) rfl ?_
          refine d_yield rfl rfl rfl (y_lel tok (i) 0 (x) rfl (fun hg => hM5) (fun hg => hx) rfl rfl) rfl ?_
          refine d_yield rfl rfl rfl (y_val tok rfl) rfl ?_
          refine d_yield rfl rfl rfl (y_val tok rfl) rfl ?_
          have hlt_y := lt_of_at hy
          refine d_yield rfl rfl rfl (y_idx tok rfl (fun hg => hM5.sl) (fun hg => ⟨by omega, by omega⟩)) rfl ?_
          refine d_yield rfl rfl rfl (y_lel tok (k) 0 (y) rfl (fun hg => hM5) (fun hg => hy) rfl rfl) rfl ?_
          refine d_yield rfl rfl rfl (y_val tok rfl) rfl ?_
          refine d_end [2, 9, 10, 11, 12, 60] rfl ?_
          refine x_then ?_
          refine c_cond rfl (fun h => ?_) (fun h => ?_)
          ·
            refine c_seq ?_
            refine c_region ?_
            refine o_yield rfl rfl rfl (y_val tok rfl) ?_
            refine o_end [6] rfl ?_
            refine x_then ?_
            refine c_ret ?_
            refine x_block_ret ?_
            refine x_then_ret ?_
            refine x_then_ret ?_
            refine x_block_ret ?_
            refine x_block_ret ?_
            refine x_then_ret ?_
            refine x_then_ret ?_
            refine x_block_ret ?_
            refine x_then_ret ?_
            refine b_ret tok rfl ?_
            exfalso
            have hxy : x = y := by simpa using h
            obtain ⟨l1, e1⟩ := List.getElem?_eq_some_iff.1 hx
            obtain ⟨l2, e2⟩ := List.getElem?_eq_some_iff.1 hy
            exact List.pairwise_iff_getElem.1 hnd k i l2 l1 hki (by rw [e1, e2, hxy])
          ·
            refine c_skip ?_
            refine x_block ?_
            refine x_then ?_
            refine c_region ?_
            refine o_yield rfl rfl rfl (y_val tok rfl) ?_
            refine o_yield rfl rfl rfl (y_val tok rfl) ?_
            refine o_yield rfl rfl rfl (y_val tok rfl) ?_
            refine o_end [2, 9, 10, 11, 12] rfl ?_
            refine x_then ?_
            rw [wrapI (by omega) (by omega)]
            refine x_round (k + 1) (by omega) (by first | omega | (dsimp only; omega)) (by repeat (first | exact SubF.nil | refine SubF.cons rfl ?_)) (by repeat (first | exact SubO.nil | refine SubO.cons rfl ?_)) rfl (Vw.le.refl _)
        ·
          simp only [Bool.and_eq_true, Bool.or_eq_true, Bool.not_eq_true', Bool.or_eq_false_iff, Bool.and_eq_false_iff, decide_eq_true_eq, decide_eq_false_iff_not, beq_iff_eq, bne_iff_ne, Bool.not_eq_false', beq_eq_false_iff_ne, bne_eq_false_iff_eq, ne_eq, Decidable.not_not, Int.not_lt, Int.not_le] at h
          refine c_exit ?_
          refine x_then_exit ?_
          refine x_then_exit ?_
          refine x_block_hit ?_
          refine x_block ?_
          refine x_then ?_
          refine c_region ?_
          refine o_yield rfl rfl rfl (y_val tok rfl) ?_
          refine o_yield rfl rfl rfl (y_val tok rfl) ?_
          refine o_yield rfl rfl rfl (y_val tok rfl) ?_
          refine o_end [2, 9, 10, 11] rfl ?_
          refine x_then ?_
          rw [wrapI (by omega) (by omega)]
          refine x_round (i + 1) (by omega) (by first | omega | (dsimp only; omega)) (by repeat (first | exact SubF.nil | refine SubF.cons rfl ?_)) (by repeat (first | exact SubO.nil | refine SubO.cons rfl ?_)) rfl (Vw.le.refl _)
      ·
        simp only [Bool.and_eq_true, Bool.or_eq_true, Bool.not_eq_true', Bool.or_eq_false_iff, Bool.and_eq_false_iff, decide_eq_true_eq, decide_eq_false_iff_not, beq_iff_eq, bne_iff_ne, Bool.not_eq_false', beq_eq_false_iff_ne, bne_eq_false_iff_eq, ne_eq, Decidable.not_not, Int.not_lt, Int.not_le] at h
        refine c_exit ?_
        refine x_then_exit ?_
        refine x_then_exit ?_
        refine x_block_hit ?_
        refine x_then ?_
        refine c_seq ?_
        refine c_region ?_
        refine o_yield rfl rfl rfl (y_val tok rfl) ?_
        refine o_end [2, 9, 10, 13] rfl ?_
        refine x_then ?_
        refine c_seq ?_
        refine c_seq ?_
        refine c_region ?_
        refine o_yield rfl rfl rfl (y_val tok rfl) ?_
        refine o_end [2, 9, 10, 13, 14] rfl ?_
        refine x_then ?_
        refine c_block ?_
        refine c_loopK [2, 9, 10] [] rfl rfl (σ := Nat) (fun i => [(13, .a (.v (I ((M.take i).filter (cqB key)).length))), (14, .a (.v (I i)))]) (fun i => []) (fun i => i ≤ M.length) (fun i => M.length - i) (0) (by omega) (by repeat (first | exact SubF.nil | refine SubF.cons rfl ?_)) (by repeat (first | exact SubO.nil | refine SubO.cons rfl ?_)) rfl ?_
        rintro i hi
        refine c_seq ?_
        refine c_seq ?_
        refine c_region ?_
        refine o_yield rfl rfl rfl (y_val tok rfl) ?_
        refine o_yield rfl rfl rfl (y_val tok rfl) ?_
        refine o_yield rfl rfl rfl (y_len tok rfl (fun hg => hM5.sl)) ?_
        refine o_yield rfl rfl rfl (y_val tok rfl) ?_
        refine o_end [2, 9, 10, 13, 14, 64] rfl ?_
        refine x_then ?_
        refine c_cond rfl (fun h => ?_) (fun h => ?_)
        ·
          simp only [Bool.and_eq_true, Bool.or_eq_true, Bool.not_eq_true', Bool.or_eq_false_iff, Bool.and_eq_false_iff, decide_eq_true_eq, decide_eq_false_iff_not, beq_iff_eq, bne_iff_ne, Bool.not_eq_false', beq_eq_false_iff_ne, bne_eq_false_iff_eq, ne_eq, Decidable.not_not, Int.not_lt, Int.not_le] at h
          obtain ⟨m, h_m⟩ : ∃ m, M[i]? = some m := ⟨_, List.getElem?_eq_getElem (by omega)⟩
          have hwi : IntKind.i64.wrap ((i : Int) + 1) = ((i + 1 : Nat) : Int) := wrapI (by omega) (by omega)
          have hfl := ifilt_len M i (cqB key)
          have hft := ifilt_step (cqB key) h_m
          refine c_skip ?_
          refine x_then ?_
          refine c_seq ?_
          refine c_block ?_
          refine c_seq ?_
          refine c_region ?_
          refine o_yield rfl rfl rfl (y_val tok rfl) ?_
          refine o_yield rfl rfl rfl (y_val tok rfl) ?_
          have hlt_m := lt_of_at h_m
          refine o_yield rfl rfl rfl (y_idx tok rfl (fun hg => hM5.sl) (fun hg => ⟨by omega, by omega⟩)) ?_
          refine o_yield rfl rfl rfl (y_lel tok (i) 0 (m) rfl (fun hg => hM5) (fun hg => h_m) rfl rfl) ?_
          refine o_yield rfl rfl rfl (y_val tok rfl) ?_
          refine o_yield rfl rfl rfl (y_val tok rfl) ?_
          refine o_yield rfl rfl rfl (y_val tok rfl) ?_
          refine o_yield rfl rfl rfl (y_val tok rfl) ?_
          refine o_yield rfl rfl rfl (y_val tok rfl) ?_
          have hlt_m := lt_of_at h_m
          refine o_yield rfl rfl rfl (y_idx tok rfl (fun hg => hM5.sl) (fun hg => ⟨by omega, by omega⟩)) ?_
          refine o_yield rfl rfl rfl (y_lel tok (i) 0 (m) rfl (fun hg => hM5) (fun hg => h_m) rfl rfl) ?_
          refine o_yield rfl rfl rfl (y_rem rfl (fun hg => by decide)) ?_
          refine o_yield rfl rfl rfl (y_val tok rfl) ?_
          refine o_yield rfl rfl rfl (y_rem rfl (fun hg => by decide)) ?_
          refine o_yield rfl rfl rfl (y_val tok rfl) ?_
          refine o_yield rfl rfl rfl (y_val tok rfl) ?_
          refine o_end [2, 9, 10, 13, 14, 82] rfl ?_
          refine x_then ?_
          refine c_cond rfl (fun h => ?_) (fun h => ?_)
          ·
            refine c_region ?_
            refine o_yield rfl rfl rfl (y_val tok rfl) ?_
            refine o_yield rfl rfl rfl (y_val tok rfl) ?_
            refine o_yield rfl rfl rfl (y_val tok rfl) ?_
            refine o_end [2, 9, 10, 13, 14] rfl ?_
            refine x_block ?_
            refine x_then ?_
            refine c_region ?_
            refine o_yield rfl rfl rfl (y_val tok rfl) ?_
            refine o_yield rfl rfl rfl (y_val tok rfl) ?_
            refine o_yield rfl rfl rfl (y_val tok rfl) ?_
            refine o_end [2, 9, 10, 13, 14] rfl ?_
            refine x_then ?_
            rw [if_pos (by exact h)] at hft
            have hwc : IntKind.i64.wrap ((((M.take i).filter (cqB key)).length : Int) + 1) = (((M.take (i + 1)).filter (cqB key)).length : Int) := by rw [hft, wrapI (by omega) (by omega), List.length_append]; rfl
            rw [hwc, hwi]
            refine x_round (i + 1) (by omega) (by first | omega | (dsimp only; omega)) (by repeat (first | exact SubF.nil | refine SubF.cons rfl ?_)) (by repeat (first | exact SubO.nil | refine SubO.cons rfl ?_)) rfl (Vw.le.refl _)
          ·
            refine c_skip ?_
            refine x_block ?_
            refine x_then ?_
            refine c_region ?_
            refine o_yield rfl rfl rfl (y_val tok rfl) ?_
            refine o_yield rfl rfl rfl (y_val tok rfl) ?_
            refine o_yield rfl rfl rfl (y_val tok rfl) ?_
            refine o_end [2, 9, 10, 13, 14] rfl ?_
            refine x_then ?_
            rw [if_neg (by intro h2; rw [show cqB key m = _ from h] at h2; cases h2), List.append_nil] at hft
            rw [← hft, hwi]
            refine x_round (i + 1) (by omega) (by first | omega | (dsimp only; omega)) (by repeat (first | exact SubF.nil | refine SubF.cons rfl ?_)) (by repeat (first | exact SubO.nil | refine SubO.cons rfl ?_)) rfl (Vw.le.refl _)
        ·
          simp only [Bool.and_eq_true, Bool.or_eq_true, Bool.not_eq_true', Bool.or_eq_false_iff, Bool.and_eq_false_iff, decide_eq_true_eq, decide_eq_false_iff_not, beq_iff_eq, bne_iff_ne, Bool.not_eq_false', beq_eq_false_iff_ne, bne_eq_false_iff_eq, ne_eq, Decidable.not_not, Int.not_lt, Int.not_le] at h
          have hiM : i = M.length := by omega
          subst hiM
          rw [List.take_length]
          clear h
          refine c_exit ?_
          refine x_then_exit ?_
          refine x_then_exit ?_
          refine x_block_hit ?_
          refine x_then ?_
          refine c_seq ?_
          refine c_seq ?_
          refine c_region ?_
          refine o_yield rfl rfl rfl (y_val tok rfl) ?_
          refine o_end [2, 9, 10, 13, 15] rfl ?_
          refine x_then ?_
          refine c_block ?_
          refine c_loopK [2, 9, 10, 13] [] rfl rfl (σ := Nat) (fun i => [(15, .a (.v (I i)))]) (fun i => []) (fun i => i ≤ D.length) (fun i => D.length - i) (0) (by omega) (by repeat (first | exact SubF.nil | refine SubF.cons rfl ?_)) (by repeat (first | exact SubO.nil | refine SubO.cons rfl ?_)) rfl ?_
          rintro j hj
          refine c_seq ?_
          refine c_seq ?_
          refine c_region ?_
          refine o_yield rfl rfl rfl (y_val tok rfl) ?_
          refine o_yield rfl rfl rfl (y_val tok rfl) ?_
          refine o_yield rfl rfl rfl (y_len tok rfl (fun hg => hD5.sl)) ?_
          refine o_yield rfl rfl rfl (y_val tok rfl) ?_
          refine o_end [2, 9, 10, 13, 15, 88] rfl ?_
          refine x_then ?_
          refine c_cond rfl (fun h => ?_) (fun h => ?_)
          ·
            simp only [Bool.and_eq_true, Bool.or_eq_true, Bool.not_eq_true', Bool.or_eq_false_iff, Bool.and_eq_false_iff, decide_eq_true_eq, decide_eq_false_iff_not, beq_iff_eq, bne_iff_ne, Bool.not_eq_false', beq_eq_false_iff_ne, bne_eq_false_iff_eq, ne_eq, Decidable.not_not, Int.not_lt, Int.not_le] at h
            obtain ⟨d, h_d⟩ : ∃ d, D[j]? = some d := ⟨_, List.getElem?_eq_getElem (by omega)⟩
            have hwj : IntKind.i64.wrap ((j : Int) + 1) = ((j + 1 : Nat) : Int) := wrapI (by omega) (by omega)
            have hdm := List.mem_filter.1 (show d ∈ M.filter (oldB key) by rw [← hD]; exact List.mem_of_getElem? h_d)
            obtain ⟨k1, k2⟩ := old_key hdm.2 (hMk d hdm.1)
            have ham := amongL hnd hdm.1
            have hjD : j < D.length := lt_of_at h_d
            have hone : (D.drop j).take (j + 1 - j) = [d] := by rw [List.drop_eq_getElem_cons hjD, (List.getElem?_eq_some_iff.1 h_d).2, Nat.add_sub_cancel_left]; rfl
            refine c_skip ?_
            refine x_then ?_
            refine c_seq ?_
            refine c_block ?_
            refine c_seq ?_
            refine c_heldR mixed rfl (by repeat (first | exact SubO.nil | refine SubO.cons rfl ?_)) (by first | rfl | simp [okCels, allOk_plain]) ?_
            refine t_take 0 rfl (by kernel_rfl) rfl rfl rfl (y_val tok rfl) rfl ?_
            refine t_take 1 rfl (by kernel_rfl) rfl rfl rfl (y_val tok rfl) rfl ?_
            have hlt_d := lt_of_at h_d
            refine t_take 2 rfl (by kernel_rfl) rfl rfl rfl (y_idx tok rfl (fun hg => hD5.sl) (fun hg => ⟨by omega, by omega⟩)) rfl ?_
            refine t_take 3 rfl (by kernel_rfl) rfl rfl rfl (y_lel tok (j) 0 (d) rfl (fun hg => hD5) (fun hg => h_d) rfl rfl) rfl ?_
            refine t_take 4 rfl (by kernel_rfl) rfl rfl rfl (y_val tok rfl) rfl ?_
            refine t_take 5 rfl (by kernel_rfl) rfl rfl rfl (y_val tok rfl) rfl ?_
            refine t_take 6 rfl (by kernel_rfl) rfl rfl rfl (y_val tok rfl) rfl ?_
            refine t_take 7 rfl (by kernel_rfl) rfl rfl rfl (y_val tok rfl) rfl ?_
            refine t_take 8 rfl (by kernel_rfl) rfl rfl rfl (y_val tok rfl) rfl ?_
            have hlt_d := lt_of_at h_d
            refine t_take 9 rfl (by kernel_rfl) rfl rfl rfl (y_idx tok rfl (fun hg => hD5.sl) (fun hg => ⟨by omega, by omega⟩)) rfl ?_
            refine t_take 10 rfl (by kernel_rfl) rfl rfl rfl (y_lel tok (j) 0 (d) rfl (fun hg => hD5) (fun hg => h_d) rfl rfl) rfl ?_
            refine t_take 11 rfl (by kernel_rfl) rfl rfl rfl (y_rem rfl (fun hg => by decide)) rfl ?_
            refine t_take 12 rfl (by kernel_rfl) rfl rfl rfl (y_val tok rfl) rfl ?_
            refine t_take 13 rfl (by kernel_rfl) rfl rfl rfl (y_rem rfl (fun hg => by decide)) rfl ?_
            refine t_take 14 rfl (by kernel_rfl) rfl rfl rfl (y_val tok rfl) rfl ?_
            refine t_take 15 rfl (by kernel_rfl) rfl rfl rfl (y_val tok rfl) rfl ?_
            refine t_take 16 rfl (by kernel_rfl) rfl rfl rfl (y_val tok rfl) rfl ?_
            refine t_take 17 rfl (by kernel_rfl) rfl rfl rfl (y_val tok rfl) rfl ?_
            refine t_take 18 rfl (by kernel_rfl) rfl rfl rfl (y_val tok rfl) rfl ?_
            refine t_take 19 rfl (by kernel_rfl) rfl rfl rfl (y_val tok rfl) rfl ?_
            have hlt_d := lt_of_at h_d
            refine t_take 20 rfl (by kernel_rfl) rfl rfl rfl (y_idx tok rfl (fun hg => hD5.sl) (fun hg => ⟨by omega, by omega⟩)) rfl ?_
            refine t_take 21 rfl (by kernel_rfl) rfl rfl rfl (y_lel tok (j) 0 (d) rfl (fun hg => hD5) (fun hg => h_d) rfl rfl) rfl ?_
            refine t_take 23 rfl (by kernel_rfl) rfl rfl rfl (y_val tok rfl) rfl ?_
            refine t_take 24 rfl (by kernel_rfl) rfl rfl rfl (y_val tok rfl) rfl ?_
            refine t_take 25 rfl (by kernel_rfl) rfl rfl rfl (y_val tok rfl) rfl ?_
            refine t_take 26 rfl (by kernel_rfl) rfl rfl rfl (y_val tok rfl) rfl ?_
            refine t_take 27 rfl (by kernel_rfl) rfl rfl rfl (y_sl tok rfl (fun hg => hD5.sl) (fun hg => ⟨by dsimp only [Option.getD]; omega, by dsimp only [Option.getD]; omega, by dsimp only [Option.getD]; omega⟩)) rfl ?_
            refine t_go ?_
            refine h_one 22 (by kernel_rfl) ?_
            refine h_callV 22 (fun v V' => SlOf V' encI64 1 v [d]) rfl rfl rfl fnok52 rfl rfl (fun hg E w1 hm => by exact (among_c W5 _ M d _ hm.leV hM5 (by omega)).mono fun e w' h => IRow.out (l := [d]) (by rw [ham] at h; exact h) hm.leV) ?_
            rintro v6 W6 hle6 hv6
            rw [hwj]
            have hcut := hD5.cut (lo := j) (hi := j + 1) (by omega) (by omega)
            rw [hone] at hcut
            refine h_one 28 (by kernel_rfl) ?_
            refine h_call 28 (.a (.v _)) rfl rfl rfl fnok51 rfl rfl rfl (fun hg E w1 hm => by exact ints_eq W6 _ _ [d] _ hm.leV (hv6 hg) (hcut.mono hle6) (by simp)) ?_
            refine h_one 29 (by kernel_rfl) ?_
            refine h_yield 29 rfl rfl rfl rfl (y_val tok rfl) ?_
            refine h_one 30 (by kernel_rfl) ?_
            refine h_yield 30 rfl rfl rfl rfl (y_val tok rfl) ?_
            refine h_done [2, 9, 10, 13, 15, 121] (by kernel_rfl) rfl ?_
            refine x_then ?_
            refine c_cond rfl (fun h => ?_) (fun h => ?_)
            ·
              refine c_seq ?_
              refine c_region ?_
              refine o_yield rfl rfl rfl (y_val tok rfl) ?_
              refine o_end [6] rfl ?_
              refine x_then ?_
              refine c_ret ?_
              refine x_block_ret ?_
              refine x_then_ret ?_
              refine x_then_ret ?_
              refine x_block_ret ?_
              refine x_then_ret ?_
              refine b_ret tok rfl ?_
              exfalso
              simp only [Bool.or_eq_true, decide_eq_true_eq, bne_iff_ne, ne_eq, Bool.not_true, Bool.false_eq_true, or_false] at h
              rcases h with h | h
              · omega
              · exact h k2
            ·
              refine c_skip ?_
              refine x_block ?_
              refine x_then ?_
              refine c_region ?_
              refine o_yield rfl rfl rfl (y_val tok rfl) ?_
              refine o_yield rfl rfl rfl (y_val tok rfl) ?_
              refine o_yield rfl rfl rfl (y_val tok rfl) ?_
              refine o_end [2, 9, 10, 13, 15] rfl ?_
              refine x_then ?_
              rw [hwj]
              refine x_round (j + 1) (by omega) (by first | omega | (dsimp only; omega)) (by repeat (first | exact SubF.nil | refine SubF.cons rfl ?_)) (by repeat (first | exact SubO.nil | refine SubO.cons rfl ?_)) rfl (hle6)
          ·
            simp only [Bool.and_eq_true, Bool.or_eq_true, Bool.not_eq_true', Bool.or_eq_false_iff, Bool.and_eq_false_iff, decide_eq_true_eq, decide_eq_false_iff_not, beq_iff_eq, bne_iff_ne, Bool.not_eq_false', beq_eq_false_iff_ne, bne_eq_false_iff_eq, ne_eq, Decidable.not_not, Int.not_lt, Int.not_le] at h
            clear h
            have hfin : ((((D.length : Int) == ((M.filter (cqB key)).length : Int)) || decide (key < 16)) || decide (1099511627776 < key)) = true := by
              by_cases hk : keyB key = true
              · have : D = M.filter (cqB key) := by
                  rw [hD]
                  exact List.filter_congr fun m hm => old_same hk (hMk m hm)
                rw [this]; simp
              · simp only [keyB, Bool.and_eq_true, decide_eq_true_eq] at hk
                simp only [Bool.or_eq_true, decide_eq_true_eq]
                omega
            refine c_exit ?_
            refine x_then_exit ?_
            refine x_then_exit ?_
            refine x_block_hit ?_
            refine x_then ?_
            refine c_seq ?_
            refine c_region ?_
            refine o_yield rfl rfl rfl (y_val tok rfl) ?_
            refine o_yield rfl rfl rfl (y_len tok rfl (fun hg => hD5.sl)) ?_
            refine o_yield rfl rfl rfl (y_val tok rfl) ?_
            refine o_yield rfl rfl rfl (y_val tok rfl) ?_
            refine o_yield rfl rfl rfl (y_val tok rfl) ?_
            refine o_yield rfl rfl rfl (y_val tok rfl) ?_
            refine o_yield rfl rfl rfl (y_val tok rfl) ?_
            refine o_yield rfl rfl rfl (y_val tok rfl) ?_
            refine o_yield rfl rfl rfl (y_val tok rfl) ?_
            refine o_yield rfl rfl rfl (y_val tok rfl) ?_
            refine o_yield rfl rfl rfl (y_val tok rfl) ?_
            refine o_yield rfl rfl rfl (y_val tok rfl) ?_
            refine o_yield rfl rfl rfl (y_val tok rfl) ?_
            refine o_call (.a (.v _)) rfl rfl fnok47 rfl rfl rfl (fun hg E w1 hm => by exact wakes14_c _) ?_
            refine o_yield rfl rfl rfl (y_val tok rfl) ?_
            refine o_yield rfl rfl rfl (y_val tok rfl) ?_
            refine o_end [6] rfl ?_
            refine x_then ?_
            refine c_ret ?_
            refine b_ret tok rfl ?_
            intro E w' hm _
            refine ⟨?_, hm.below (hle35)⟩
            show Ending.returned (.bool (((((D.length : Int) == ((M.filter (cqB key)).length : Int)) || decide (key < 16)) || decide (1099511627776 < key)) && true)) = _
            rw [hfin]; rfl
end Go.Proofs.Ytiapfhcimekdkaa
