import Derived.Test.YtiapfhcimekdkaaMCmd3
import Derived.Test.YtiapfhcimekdkaaEng38
/- Locks: what is chosen, what is among some. -/
set_option linter.unusedVariables false
set_option linter.unusedSimpArgs false
set_option maxRecDepth 100000
namespace Go.Proofs.Ytiapfhcimekdkaa
open Go Go.Eng Go.RowKit

/-- A function value that tells pr, whatever it has already. -/
def TellsB (V : Vw) (fv : Value) (pr : Hold → Bool) : Prop :=
  ∀ (x : Hold) w', V.le (vw w') → CallsB Try.prog fv [x.val] w' fun e w'' => e = .returned (.bool (pr x)) ∧ Below w'.heap.size w' w''

theorem filt_step {l : List Hold} {k : Nat} {x : Hold} (pr : Hold → Bool) (h : l[k]? = some x) : (l.take (k + 1)).filter pr = (l.take k).filter pr ++ (if pr x = true then [x] else []) := by
  rw [take_succ_at' h, List.filter_append]
  cases hq : pr x <;> simp [hq]

theorem filt_len (l : List Hold) (k : Nat) (pr : Hold → Bool) : ((l.take k).filter pr).length ≤ k := Nat.le_trans (List.length_filter_le _ _) (by rw [List.length_take]; omega)

theorem choose_c (V : Vw) (fv sv : Value) (pr : Hold → Bool) (l : List Hold) (w : World) (hV : V.le (vw w)) (hs0 : SlOf V Hold.cells 4 sv l) (hn : l.length ≤ 1000000) (hf : TellsB V fv pr) :
    Calls Try.prog 72 #[sv, fv] w (HRow (l.filter pr) w) := by
  have hs := hs0.mono hV
  refine enter (E := E0) (O := []) (nl := 0) (V := vw w) [.a (.v sv), .a (.v fv)] Try.func72 rfl rfl (mem0 E0 0 w) rfl rfl ?_
  refine c_seq ?_
  refine c_region ?_
  refine o_yield rfl rfl rfl (y_val tok rfl) ?_
  refine o_end [0, 1, 4] rfl ?_
  refine x_then ?_
  refine c_seq ?_
  refine c_seq ?_
  refine c_region ?_
  refine o_yield rfl rfl rfl (y_val tok rfl) ?_
  refine o_yield rfl rfl rfl (y_len tok rfl (fun hg => hs.sl)) ?_
  refine o_yield rfl rfl rfl (y_val tok rfl) ?_
  refine o_end [1, 4, 7, 8, 9] rfl ?_
  refine x_then ?_
  refine c_block ?_
  refine k_nil 4 43 4 rfl rfl ?_
  refine c_loopK [1, 7, 8] [0] rfl rfl (σ := Nat) (fun k => [(4, .a (.row 0)), (9, .a (.v (I k)))]) (fun k => [(0, .row 43 4 ((l.take k).filter pr).length (((l.take k).filter pr).flatMap Hold.cells))]) (fun k => k ≤ l.length) (fun k => l.length - k) (0) (by omega) (by repeat (first | exact SubF.nil | refine SubF.cons rfl ?_)) (by repeat (first | exact SubO.nil | refine SubO.cons rfl ?_)) rfl ?_
  rintro k hk
  refine c_seq ?_
  refine c_region ?_
  refine o_yield rfl rfl rfl (y_val tok rfl) ?_
  refine o_end [1, 4, 7, 8, 9, 10] rfl ?_
  refine x_then ?_
  refine c_seq ?_
  refine c_cond rfl (fun h => ?_) (fun h => ?_)
  ·
    simp only [Bool.and_eq_true, Bool.or_eq_true, Bool.not_eq_true', Bool.or_eq_false_iff, Bool.and_eq_false_iff, decide_eq_true_eq, decide_eq_false_iff_not, beq_iff_eq, bne_iff_ne, Bool.not_eq_false', beq_eq_false_iff_ne, bne_eq_false_iff_eq, ne_eq, Decidable.not_not, Int.not_lt, Int.not_le] at h
    refine c_skip ?_
    refine x_then ?_
    refine c_seq ?_
    refine c_block ?_
    refine c_seq ?_
    refine c_region ?_
    have hfl := filt_len l k pr
    have hwk : IntKind.i64.wrap ((k : Int) + 1) = ((k + 1 : Nat) : Int) := wrapI (by omega) (by omega)
    obtain ⟨x, h_x⟩ := hs.at (k := k) (by omega)
    have hlt_x := lt_of_at h_x
    refine o_yield rfl rfl rfl (y_idx tok rfl (fun hg => hs.sl) (fun hg => ⟨by omega, by omega⟩)) ?_
    refine o_yield rfl rfl rfl (y_lel tok (k) 0 (x) rfl (fun hg => hs) (fun hg => h_x) rfl rfl) ?_
    refine o_new tok rfl rfl rfl rfl ?_
    refine o_store tok rfl rfl rfl (by first | exact ⟨trivial, trivial⟩ | (repeat' first | exact trivial | exact rfl | apply And.intro); done | simp [onesP, oneP, lk, Value.oneCell']) ?_
    refine o_end [1, 4, 6, 7, 8, 9] rfl ?_
    refine x_then ?_
    refine c_seq ?_
    refine c_region ?_
    refine o_yield rfl rfl rfl (y_val tok rfl) ?_
    refine o_yield rfl rfl rfl (y_val tok rfl) ?_
    have hft := filt_step pr h_x
    refine o_callB (.a (.v (.bool (pr x)))) rfl rfl rfl rfl rfl (fun hg E w1 hm => hf x w1 (hV.trans hm.leV)) ?_
    refine o_end [1, 4, 6, 7, 8, 9, 15] rfl ?_
    refine x_then ?_
    refine c_cond rfl (fun h => ?_) (fun h => ?_)
    ·
      refine c_region ?_
      refine o_yield rfl rfl rfl (y_val tok rfl) ?_
      refine o_yield rfl rfl rfl (y_val tok rfl) ?_
      rw [if_pos h] at hft
      refine o_step rfl rfl rfl rfl rfl (s_bs tok 4 rfl rfl rfl) (fun _ _ => ?_)
      refine o_step rfl rfl rfl rfl rfl (s_app tok x.cells rfl (fun E w hm => ownsRow_src (hm.row _ _ _ _ _ rfl)) (fun _ _ _ => by simpa using hold_ones [x]) (by dsimp only; omega)) (fun _ _ => ?_)
      refine o_yield rfl rfl rfl (y_val tok rfl) ?_
      refine o_end [1, 4, 7, 8, 9] rfl ?_
      refine x_block ?_
      refine x_then ?_
      refine c_region ?_
      refine o_yield rfl rfl rfl (y_val tok rfl) ?_
      refine o_yield rfl rfl rfl (y_val tok rfl) ?_
      refine o_end [1, 4, 7, 8, 9] rfl ?_
      refine x_then ?_
      rw [(hold_snoc _ x).1, (hold_snoc _ x).2, ← hft, hwk]
      refine k_swap 0 3 rfl ?_
      refine x_round (k + 1) (by omega) (by first | omega | (dsimp only; omega)) (by repeat (first | exact SubF.nil | refine SubF.cons rfl ?_)) (by repeat (first | exact SubO.nil | refine SubO.cons rfl ?_)) rfl (Vw.le.refl _)
    ·
      refine c_skip ?_
      refine x_block ?_
      refine x_then ?_
      refine c_region ?_
      refine o_yield rfl rfl rfl (y_val tok rfl) ?_
      refine o_yield rfl rfl rfl (y_val tok rfl) ?_
      refine o_end [1, 4, 7, 8, 9] rfl ?_
      refine x_then ?_
      rw [if_neg (by rw [h]; simp), List.append_nil] at hft
      rw [← hft, hwk]
      refine x_round (k + 1) (by omega) (by first | omega | (dsimp only; omega)) (by repeat (first | exact SubF.nil | refine SubF.cons rfl ?_)) (by repeat (first | exact SubO.nil | refine SubO.cons rfl ?_)) rfl (Vw.le.refl _)
  ·
    simp only [Bool.and_eq_true, Bool.or_eq_true, Bool.not_eq_true', Bool.or_eq_false_iff, Bool.and_eq_false_iff, decide_eq_true_eq, decide_eq_false_iff_not, beq_iff_eq, bne_iff_ne, Bool.not_eq_false', beq_eq_false_iff_ne, bne_eq_false_iff_eq, ne_eq, Decidable.not_not, Int.not_lt, Int.not_le] at h
    have hkl : k = l.length := by omega
    subst hkl
    rw [List.take_length]
    clear h
    refine c_exit ?_
    refine x_then_exit ?_
    refine x_then_exit ?_
    refine x_block_hit ?_
    refine x_then ?_
    refine c_seq ?_
    refine c_region ?_
    refine o_yield rfl rfl rfl (y_val tok rfl) ?_
    refine o_yield rfl rfl rfl (y_val tok rfl) ?_
    refine o_end [4] rfl ?_
    refine x_then ?_
    refine c_ret ?_
    refine b_ret tok rfl ?_
    intro E' w' hm _
    exact ⟨_, rfl, hm.rowFresh (Vw.le.refl _) (l := 0) rfl, hm.below (Vw.le.refl _)⟩

theorem ohas_c (key serial : Int) (h : Hold) (w : World) : Calls Try.prog 74 #[.agg #[I key, I serial], h.val] w fun e w' => e = .returned (.bool (h.key == key)) ∧ Below w.heap.size w w' := by
  refine enter (E := E0) (O := []) (nl := 0) (V := vw w) [.a (.v (.agg #[I key, I serial])), .a (.v h.val)] Try.func74 rfl rfl (mem0 E0 0 w) rfl rfl ?_
  refine c_seq ?_
  refine c_region ?_
  refine o_new tok rfl rfl rfl rfl ?_
  refine o_new tok rfl rfl rfl rfl ?_
  refine o_yield rfl rfl rfl (y_val tok rfl) ?_
  refine o_end [2, 3] rfl ?_
  refine x_then ?_
  refine c_seq ?_
  refine c_region ?_
  refine o_yield rfl rfl rfl (y_val tok rfl) ?_
  refine o_yield rfl rfl rfl (y_val tok rfl) ?_
  refine o_yield rfl rfl rfl (y_val tok rfl) ?_
  refine o_yield rfl rfl rfl (y_val tok rfl) ?_
  refine o_yield rfl rfl rfl (y_val tok rfl) ?_
  refine o_yield rfl rfl rfl (y_val tok rfl) ?_
  refine o_end [4] rfl ?_
  refine x_then ?_
  refine c_ret ?_
  refine b_ret tok rfl ?_
  intro E w' hm _
  refine ⟨?_, hm.below (Vw.le.refl _)⟩
  rfl

def spIn (gs : List Span) (lo hi : Int) : Bool := gs.any fun s => lo == s.lo && hi == s.hi

theorem idxSp_c (V : Vw) (sv : Value) (gs : List Span) (lo hi : Int) (w : World) (hV : V.le (vw w)) (hs0 : SlOf V Span.cells 2 sv gs) (hn : gs.length ≤ lim) :
    Calls Try.prog 117 #[sv, .agg #[I lo, I hi]] w fun e w' => e = .returned (I (idxOf (fun s : Span => lo == s.lo && hi == s.hi) gs)) ∧ Below w.heap.size w w' := by
  unfold lim at hn
  have hs := hs0.mono hV
  refine enter (E := E0) (O := []) (nl := 0) (V := vw w) [.a (.v sv), .a (.v (.agg #[I lo, I hi]))] Try.func117 rfl rfl (mem0 E0 0 w) rfl rfl ?_
  refine c_seq ?_
  refine c_region ?_
  refine o_new tok rfl rfl rfl rfl ?_
  refine o_yield rfl rfl rfl (y_val tok rfl) ?_
  refine o_end [0, 3] rfl ?_
  refine x_then ?_
  refine c_seq ?_
  refine c_seq ?_
  refine c_region ?_
  refine o_yield rfl rfl rfl (y_val tok rfl) ?_
  refine o_yield rfl rfl rfl (y_len tok rfl (fun hg => hs.sl)) ?_
  refine o_yield rfl rfl rfl (y_val tok rfl) ?_
  refine o_end [0, 3, 7, 8] rfl ?_
  refine x_then ?_
  refine c_block ?_
  refine c_loopK [0, 3, 7] [] rfl rfl (σ := Nat) (fun k => [(8, .a (.v (I k)))]) (fun k => []) (fun k => k ≤ gs.length ∧ ∀ (j : Nat) (x : Span), j < k → gs[j]? = some x → (lo == x.lo && hi == x.hi) = false) (fun k => gs.length - k) (0) (⟨by omega, by simp⟩) (by repeat (first | exact SubF.nil | refine SubF.cons rfl ?_)) (by repeat (first | exact SubO.nil | refine SubO.cons rfl ?_)) rfl ?_
  rintro k ⟨hk, hall⟩
  refine c_seq ?_
  refine c_region ?_
  refine o_yield rfl rfl rfl (y_val tok rfl) ?_
  refine o_end [0, 3, 7, 8, 9] rfl ?_
  refine x_then ?_
  refine c_seq ?_
  refine c_cond rfl (fun h => ?_) (fun h => ?_)
  ·
    simp only [Bool.and_eq_true, Bool.or_eq_true, Bool.not_eq_true', Bool.or_eq_false_iff, Bool.and_eq_false_iff, decide_eq_true_eq, decide_eq_false_iff_not, beq_iff_eq, bne_iff_ne, Bool.not_eq_false', beq_eq_false_iff_ne, bne_eq_false_iff_eq, ne_eq, Decidable.not_not, Int.not_lt, Int.not_le] at h
    refine c_skip ?_
    refine x_then ?_
    refine c_seq ?_
    refine c_block ?_
    refine c_seq ?_
    refine c_region ?_
    refine o_yield rfl rfl rfl (y_val tok rfl) ?_
    refine o_yield rfl rfl rfl (y_val tok rfl) ?_
    refine o_end [0, 3, 5, 7, 8] rfl ?_
    refine x_then ?_
    refine c_seq ?_
    refine c_draw mixed (by kernel_rfl) ?_
    refine d_yield rfl rfl rfl (y_val tok rfl) rfl ?_
    refine d_yield rfl rfl rfl (y_val tok rfl) rfl ?_
    refine d_yield rfl rfl rfl (y_val tok rfl) rfl ?_
    obtain ⟨x, h_x⟩ := hs.at (k := k) (by omega)
    have hlt_x := lt_of_at h_x
    refine d_yield rfl rfl rfl (y_idx tok rfl (fun hg => hs.sl) (fun hg => ⟨by omega, by omega⟩)) rfl ?_
    refine d_yield rfl rfl rfl (y_lel tok (k) 0 (x) rfl (fun hg => hs) (fun hg => h_x) rfl rfl) rfl ?_
    refine d_yield rfl rfl rfl (y_seq (.bool (lo == x.lo && hi == x.hi)) rfl (fun E w => spanEq lo hi x.lo x.hi w (.inl rfl))) rfl ?_
    refine d_end [0, 3, 5, 7, 8, 16] rfl ?_
    refine x_then ?_
    refine c_cond rfl (fun h => ?_) (fun h => ?_)
    ·
      refine c_seq ?_
      refine c_region ?_
      refine o_yield rfl rfl rfl (y_val tok rfl) ?_
      refine o_yield rfl rfl rfl (y_val tok rfl) ?_
      refine o_end [4] rfl ?_
      refine x_then ?_
      refine c_ret ?_
      refine x_block_ret ?_
      refine x_then_ret ?_
      refine x_then_ret ?_
      refine x_block_ret ?_
      refine x_then_ret ?_
      refine b_ret tok rfl ?_
      intro E w' hm _
      refine ⟨?_, hm.below (Vw.le.refl _)⟩
      rw [idxOf, findIdx?_at h_x h hall]; rfl
    ·
      refine c_skip ?_
      refine x_block ?_
      refine x_then ?_
      refine c_region ?_
      refine o_yield rfl rfl rfl (y_val tok rfl) ?_
      refine o_yield rfl rfl rfl (y_val tok rfl) ?_
      refine o_end [0, 3, 7, 8] rfl ?_
      refine x_then ?_
      rw [wrapI (n := (k : Int) + 1) (by omega) (by omega)]
      refine x_round (k + 1) (⟨by omega, ahead_succ h_x hall h⟩) (by first | omega | (dsimp only; omega)) (by repeat (first | exact SubF.nil | refine SubF.cons rfl ?_)) (by repeat (first | exact SubO.nil | refine SubO.cons rfl ?_)) rfl (Vw.le.refl _)
  ·
    simp only [Bool.and_eq_true, Bool.or_eq_true, Bool.not_eq_true', Bool.or_eq_false_iff, Bool.and_eq_false_iff, decide_eq_true_eq, decide_eq_false_iff_not, beq_iff_eq, bne_iff_ne, Bool.not_eq_false', beq_eq_false_iff_ne, bne_eq_false_iff_eq, ne_eq, Decidable.not_not, Int.not_lt, Int.not_le] at h
    refine c_exit ?_
    refine x_then_exit ?_
    refine x_then_exit ?_
    refine x_block_hit ?_
    refine x_then ?_
    refine c_seq ?_
    refine c_region ?_
    refine o_yield rfl rfl rfl (y_val tok rfl) ?_
    refine o_end [4] rfl ?_
    refine x_then ?_
    refine c_ret ?_
    refine b_ret tok rfl ?_
    have hge : k = gs.length := by omega
    intro E w' hm _
    refine ⟨?_, hm.below (Vw.le.refl _)⟩
    rw [idxOf, findIdx?_no (hge ▸ hall)]; rfl

theorem idx_any {α : Type} (pr : α → Bool) (l : List α) : decide (0 ≤ idxOf pr l) = l.any pr := by
  rw [← any_findIdx, idxOf]
  cases l.findIdx? pr <;> simp

theorem conSp_c (V : Vw) (sv : Value) (gs : List Span) (lo hi : Int) (w : World) (hV : V.le (vw w)) (hs0 : SlOf V Span.cells 2 sv gs) (hn : gs.length ≤ lim) :
    Calls Try.prog 75 #[sv, .agg #[I lo, I hi]] w fun e w' => e = .returned (.bool (spIn gs lo hi)) ∧ Below w.heap.size w w' := by
  refine enter (E := E0) (O := []) (nl := 0) (V := vw w) [.a (.v sv), .a (.v (.agg #[I lo, I hi]))] Try.func75 rfl rfl (mem0 E0 0 w) rfl rfl ?_
  refine c_seq ?_
  refine c_region ?_
  refine o_new tok rfl rfl rfl rfl ?_
  refine o_yield rfl rfl rfl (y_val tok rfl) ?_
  refine o_end [0, 3] rfl ?_
  refine x_then ?_
  refine c_seq ?_
  refine c_region ?_
  refine o_yield rfl rfl rfl (y_val tok rfl) ?_
  refine o_yield rfl rfl rfl (y_val tok rfl) ?_
  refine o_call (.a (.v _)) rfl rfl fnok117 rfl rfl rfl (fun hg E w1 hm => by exact idxSp_c V sv gs lo hi _ (hV.trans hm.leV) hs0 hn) ?_
  refine o_yield rfl rfl rfl (y_val tok rfl) ?_
  refine o_yield rfl rfl rfl (y_val tok rfl) ?_
  refine o_end [4] rfl ?_
  refine x_then ?_
  refine c_ret ?_
  refine b_ret tok rfl ?_
  intro E w' hm _
  refine ⟨?_, hm.below (Vw.le.refl _)⟩
  rw [spIn, ← idx_any]; rfl

def Hold.eqB (a b : Hold) : Bool := a.key == b.key && ((a.lo == b.lo && a.hi == b.hi) && a.mode == b.mode)

def inH (h : Hold) (l : List Hold) : Bool := l.any fun x => h.eqB x

end Go.Proofs.Ytiapfhcimekdkaa

/- Locks: what a key has, waits for, is told. -/
set_option linter.unusedVariables false
set_option linter.unusedSimpArgs false
set_option maxRecDepth 100000
namespace Go.Proofs.Ytiapfhcimekdkaa
open Go Go.Eng Go.RowKit

theorem see_c (v1 v2 v3 : Value) (a n c a2 n2 c2 a3 n3 c3) (h1 : v1 = .slice a n c) (h2 : v2 = .slice a2 n2 c2) (h3 : v3 = .slice a3 n3 c3) (key serial : Int) (w : World) :
    Calls Try.prog 71 #[.agg #[v1, v2, v3], I key, I serial] w fun e w' => e = .returned (.agg #[I key, I serial, v1, v2, v3]) ∧ Below w.heap.size w w' := by
  subst h1 h2 h3
  refine enter (E := E0) (O := []) (nl := 0) (V := vw w) [.a (.v (.agg #[.slice a n c, .slice a2 n2 c2, .slice a3 n3 c3])), .a (.v (I key)), .a (.v (I serial))] Try.func71 rfl rfl (mem0 E0 0 w) rfl rfl ?_
  refine c_seq ?_
  refine c_region ?_
  refine o_new tok rfl rfl rfl rfl ?_
  refine o_new tok rfl rfl rfl rfl ?_
  refine o_end [1, 2, 3, 6] rfl ?_
  refine x_then ?_
  refine c_seq ?_
  refine c_region ?_
  refine o_yield rfl rfl rfl (y_val tok rfl) ?_
  refine o_yield rfl rfl rfl (y_val tok rfl) ?_
  refine o_yield rfl rfl rfl (y_val tok rfl) ?_
  refine o_yield rfl rfl rfl (y_val tok rfl) ?_
  refine o_yield rfl rfl rfl (y_val tok rfl) ?_
  refine o_store tok rfl rfl rfl (by first | exact ⟨trivial, trivial⟩ | (repeat' first | exact trivial | exact rfl | apply And.intro); done | simp [onesP, oneP, lk, Value.oneCell']) ?_
  refine o_end [6] rfl ?_
  refine x_then ?_
  refine c_ret ?_
  refine b_ret tok rfl ?_
  intro E w' hm _
  refine ⟨?_, hm.below (Vw.le.refl _)⟩
  rfl

def hasF (key : Int) (all : Bool) (gs : List Span) (h : Hold) : Bool := ((h.key == key) && !all) && !spIn gs h.lo h.hi

theorem hasFn_c (x : Hold) (key : Int) (all : Bool) (gv v1 v2 v3 : Value) (gs : List Span) (b1 b2 b3 : Nat) (V : Vw) (h1 : V.get b1 = some (.cells [I key, I 0, v1, v2, v3].toArray 102 (0, 0))) (h2 : V.get b2 = some (.cells [.bool all].toArray 4 (0, 0)))
    (h3 : V.get b3 = some (.cells [gv].toArray 50 (0, 0))) (hs : SlOf V Span.cells 2 gv gs) (hn : gs.length ≤ lim) (w : World) (hV : V.le (vw w)) :
    Calls Try.prog 73 #[x.val, .pointer (some ⟨b1, 0, none⟩), .pointer (some ⟨b2, 0, none⟩), .pointer (some ⟨b3, 0, none⟩)] w fun e w' => e = .returned (.bool (hasF key all gs x)) ∧ Below w.heap.size w w' := by
  obtain ⟨a, n, c, rfl⟩ := sl_shape hs.sl
  refine enter (E := E0) (O := []) (nl := 0) (V := vw w) [.a (.v x.val), .a (.v (.pointer (some ⟨b1, 0, none⟩))), .a (.v (.pointer (some ⟨b2, 0, none⟩))), .a (.v (.pointer (some ⟨b3, 0, none⟩)))] Try.func73 rfl rfl (mem0 E0 0 w) rfl rfl ?_
  refine c_seq ?_
  refine c_region ?_
  refine o_new tok rfl rfl rfl rfl ?_
  refine o_yield rfl rfl rfl (y_val tok rfl) ?_
  refine o_end [1, 2, 3, 4] rfl ?_
  refine x_then ?_
  refine c_seq ?_
  refine c_region ?_
  refine o_yield rfl rfl rfl (y_val tok rfl) ?_
  refine o_yield rfl rfl rfl (y_ldp (cs := [I key, I 0, v1, v2, v3]) tok rfl (fun hg => hV.get _ _ h1) rfl) ?_
  refine o_yield rfl rfl rfl (y_val tok rfl) ?_
  refine o_call (.a (.v _)) rfl rfl fnok74 rfl rfl rfl (fun hg E w1 hm => by exact ohas_c key 0 x _) ?_
  refine o_yield rfl rfl rfl (y_val tok rfl) ?_
  refine o_yield rfl rfl rfl (y_ldp (cs := [.bool all]) tok rfl (fun hg => hV.get _ _ h2) rfl) ?_
  refine o_yield rfl rfl rfl (y_val tok rfl) ?_
  refine o_yield rfl rfl rfl (y_val tok rfl) ?_
  refine o_yield rfl rfl rfl (y_val tok rfl) ?_
  refine o_yield rfl rfl rfl (y_ldp (cs := [.slice a n c]) tok rfl (fun hg => hV.get _ _ h3) rfl) ?_
  refine o_yield rfl rfl rfl (y_val tok rfl) ?_
  refine o_yield rfl rfl rfl (y_val tok rfl) ?_
  refine o_call (.a (.v _)) rfl rfl fnok75 rfl rfl rfl (fun hg E w1 hm => by exact conSp_c V _ gs x.lo x.hi _ (hV.trans hm.leV) hs hn) ?_
  refine o_yield rfl rfl rfl (y_val tok rfl) ?_
  refine o_yield rfl rfl rfl (y_val tok rfl) ?_
  refine o_yield rfl rfl rfl (y_val tok rfl) ?_
  refine o_end [5] rfl ?_
  refine x_then ?_
  refine c_ret ?_
  refine b_ret tok rfl ?_
  intro E w' hm _
  refine ⟨?_, hm.below (Vw.le.refl _)⟩
  rfl

def hasL (key : Int) (all : Bool) (gs : List Span) (H : List Hold) : List Hold := H.filter (hasF key all gs)

theorem lkHas_c (V : Vw) (tv gv : Value) (t : Tb) (key : Int) (all : Bool) (gs : List Span) (w : World) (ht : t.Fit) (hV : V.le (vw w)) (h : TbIs V tv t) (hg : SlOf V Span.cells 2 gv gs) (hn : gs.length ≤ lim) :
    Calls Try.prog 25 #[tv, I key, .bool all, gv] w (HRow (hasL key all gs t.H) w) := by
  obtain ⟨a, n, c, a2, n2, c2, a3, n3, c3, rfl, h1, h2, h3⟩ := h
  obtain ⟨a4, n4, c4, rfl⟩ := sl_shape hg.sl
  have hh := ht.h
  refine enter (E := E0) (O := []) (nl := 0) (V := vw w) [.a (.v (.agg #[.slice a n c, .slice a2 n2 c2, .slice a3 n3 c3])), .a (.v (I key)), .a (.v (.bool all)), .a (.v (.slice a4 n4 c4))] Try.func25 rfl rfl (mem0 E0 0 w) rfl rfl ?_
  refine c_seq ?_
  refine c_region ?_
  refine o_new tok rfl rfl rfl rfl ?_
  refine o_new tok rfl rfl rfl rfl ?_
  refine o_new tok rfl rfl rfl rfl ?_
  refine o_yield rfl rfl rfl (y_val tok rfl) ?_
  refine o_end [1, 4, 6, 7] rfl ?_
  refine x_then ?_
  refine c_seq ?_
  refine c_region ?_
  refine o_yield rfl rfl rfl (y_val tok rfl) ?_
  refine o_yield rfl rfl rfl (y_val tok rfl) ?_
  refine o_call (.agg [.v (I key), .v (I 0), .v (.slice a n c), .v (.slice a2 n2 c2), .v (.slice a3 n3 c3)]) rfl rfl fnok71 rfl rfl rfl (fun hg E w1 hm => by exact see_c _ _ _ _ _ _ _ _ _ _ _ _ rfl rfl rfl key 0 _) ?_
  refine o_new tok rfl rfl rfl rfl ?_
  refine o_store tok rfl rfl rfl (by first | exact ⟨trivial, trivial⟩ | (repeat' first | exact trivial | exact rfl | apply And.intro); done | simp [onesP, oneP, lk, Value.oneCell']) ?_
  refine o_end [4, 6, 7, 9] rfl ?_
  refine x_then ?_
  refine c_seq ?_
  refine c_region ?_
  refine o_yield rfl rfl rfl (y_val tok rfl) ?_
  refine o_yield rfl rfl rfl (y_val tok rfl) ?_
  refine o_yield rfl rfl rfl (y_val tok rfl) ?_
  refine o_step rfl rfl rfl rfl rfl (s_callRow 43 4 (hasL key all gs t.H).length ((hasL key all gs t.H).flatMap Hold.cells) rfl fnok72 (fun E w1 hm => choose_c (vw w1) _ _ (hasF key all gs) t.H w1 (Vw.le.refl _) (h2.mono (hV.trans hm.leV)) (by omega) (fun x w' hle => CallsFn.b ⟨73, _, rfl, fnok73, hasFn_c x key all _ _ _ _ gs _ _ _ (vw w1) (hm.lit 3 _ _ rfl) (hm.lit 1 _ _ rfl) (hm.lit 2 _ _ rfl) (hg.mono (hV.trans hm.leV)) hn w' hle⟩))) (fun _ _ => ?_)
  refine o_yield rfl rfl rfl (y_val tok rfl) ?_
  refine o_end [8] rfl ?_
  refine x_then ?_
  refine c_ret ?_
  refine b_ret tok rfl ?_
  intro E' w' hm _
  exact ⟨_, rfl, hm.rowFresh (Vw.le.refl _) (l := 4) rfl, hm.below (Vw.le.refl _)⟩

def waitsL (key : Int) (Q : List Hold) : List Hold := Q.filter fun h => h.key == key

theorem lkWaits_c (V : Vw) (tv : Value) (t : Tb) (key : Int) (w : World) (ht : t.Fit) (hV : V.le (vw w)) (h : TbIs V tv t) :
    Calls Try.prog 27 #[tv, I key] w (HRow (waitsL key t.Q) w) := by
  obtain ⟨a, n, c, a2, n2, c2, a3, n3, c3, rfl, h1, h2, h3⟩ := h
  have hq := ht.q
  refine enter (E := E0) (O := []) (nl := 0) (V := vw w) [.a (.v (.agg #[.slice a n c, .slice a2 n2 c2, .slice a3 n3 c3])), .a (.v (I key))] Try.func27 rfl rfl (mem0 E0 0 w) rfl rfl ?_
  refine c_seq ?_
  refine c_region ?_
  refine o_new tok rfl rfl rfl rfl ?_
  refine o_yield rfl rfl rfl (y_val tok rfl) ?_
  refine o_end [1, 2] rfl ?_
  refine x_then ?_
  refine c_seq ?_
  refine c_heldR mixed rfl (by repeat (first | exact SubO.nil | refine SubO.cons rfl ?_)) (by first | rfl | simp [okCels, allOk_plain]) ?_
  refine t_take 0 rfl (by kernel_rfl) rfl rfl rfl (y_val tok rfl) rfl ?_
  refine t_take 1 rfl (by kernel_rfl) rfl rfl rfl (y_val tok rfl) rfl ?_
  refine t_take 2 rfl (by kernel_rfl) rfl rfl rfl (y_val tok rfl) rfl ?_
  refine t_take 3 rfl (by kernel_rfl) rfl rfl rfl (y_val tok rfl) rfl ?_
  refine t_go ?_
  refine h_one 4 (by kernel_rfl) ?_
  refine h_call 4 (.agg [.v (I key), .v (I 0), .v (.slice a n c), .v (.slice a2 n2 c2), .v (.slice a3 n3 c3)]) rfl rfl rfl fnok71 rfl rfl rfl (fun hg E w1 hm => by exact see_c _ _ _ _ _ _ _ _ _ _ _ _ rfl rfl rfl key 0 _) ?_
  refine h_one 5 (by kernel_rfl) ?_
  refine h_yield 5 rfl rfl rfl rfl (y_val tok rfl) ?_
  refine h_one 6 (by kernel_rfl) ?_
  refine h_yield 6 rfl rfl rfl rfl (y_mkb rfl) ?_
  refine h_one 7 (by kernel_rfl) ?_
  refine h_to 7 rfl rfl rfl rfl rfl rfl (s_callRow 43 4 (waitsL key t.Q).length ((waitsL key t.Q).flatMap Hold.cells) rfl fnok72 (fun E w1 hm => choose_c V _ _ (fun h => h.key == key) t.Q w1 (hV.trans hm.leV) h3 (by omega) (fun x w' hle => ⟨74, #[.agg #[I key, I 0]], #[], rfl, fnok74, ohas_c key 0 x w'⟩))) (.inr fun _ _ => ⟨(by repeat (first | exact SubO.nil | refine SubO.cons rfl ?_)), rfl, (by first | exact Vw.le.refl _ | assumption)⟩) (fun _ _ => ?_)
  refine h_one 8 (by kernel_rfl) ?_
  refine h_yield 8 rfl rfl rfl rfl (y_val tok rfl) ?_
  refine h_done [4] (by kernel_rfl) rfl ?_
  refine x_then ?_
  refine c_ret ?_
  refine b_ret tok rfl ?_
  intro E' w' hm _
  exact ⟨_, rfl, hm.rowFresh (Vw.le.refl _) (l := 1) rfl, hm.below (Vw.le.refl _)⟩

end Go.Proofs.Ytiapfhcimekdkaa

/- Locks: who waits for what a key has, what is wanted of it. -/
set_option linter.unusedVariables false
set_option linter.unusedSimpArgs false
set_option maxRecDepth 100000
namespace Go.Proofs.Ytiapfhcimekdkaa
open Go Go.Eng Go.RowKit

/-- The queue parted by a condition that looks at the book itself. -/
theorem removeQ2_c (g : Geo) (t : Tb) (ht : t.Fit) (pr : Hold → Bool) (sv : Value) (f : Nat) (caps : Array Value) (E : Env) (V : Vw) (w : World) (hm0 : Mem E (tbO g t) 4 V w) (hs : SlOf V encF 1 sv [.func (.func f) #[] caps])
    (hf : ∀ (W : Vw) s1 s2 s3, V.le W → W.get (E.ρ 0) = some (.cells (bkC s1 s2 s3 g).toArray 91 (0, 0)) → SlOf W Hold.cells 4 s2 t.H → Tells W (.func (.func f) #[] caps) pr) :
    Calls Try.prog 118 #[.pointer (some ⟨E.ρ 0, 0, none⟩), .pointer (some ⟨E.ρ 0, 2, none⟩), sv] w (TbLeft E g ⟨t.S, t.H, t.Q.filter fun h => !pr h⟩ V w) := by
  obtain ⟨sa, sn, sc, rfl⟩ := sl_shape hs.sl
  have hl := ht.q
  have hm1 := bookPin hm0
  refine enter [.a (.ptr 0 0), .a (.ptr 0 2), .a (.v (.slice sa sn sc))] Try.func118 rfl rfl (hm1) rfl rfl ?_
  refine c_seq ?_
  refine c_region ?_
  refine o_new tok rfl rfl rfl rfl ?_
  refine o_yield rfl rfl rfl (y_val tok rfl) ?_
  refine o_end [1, 5] rfl ?_
  refine x_then ?_
  refine c_seq ?_
  refine c_region ?_
  refine o_yield rfl rfl rfl (y_val tok rfl) ?_
  refine o_yield rfl rfl rfl (y_val tok rfl) ?_
  refine o_yield rfl rfl rfl (y_val tok rfl) ?_
  refine o_yield rfl rfl rfl (y_own (s := .a (.v (I t.Q.length))) 3 rfl rfl (fun v V' hv => y_len tok rfl (fun hg => hv))) ?_
  refine o_yield rfl rfl rfl (y_val tok rfl) ?_
  refine o_end [1, 5, 7] rfl ?_
  refine x_then ?_
  refine c_seq ?_
  refine c_region ?_
  refine o_yield rfl rfl rfl (y_val tok rfl) ?_
  refine o_yield rfl rfl rfl (y_val tok rfl) ?_
  refine o_yield rfl rfl rfl (y_val tok rfl) ?_
  refine o_yield rfl rfl rfl (y_val tok rfl) ?_
  refine o_yield rfl rfl rfl (y_val tok rfl) ?_
  refine o_step rfl rfl rfl rfl rfl (s_rowFn 43 4 (t.Q.filter fun h => !pr h).length ((t.Q.filter fun h => !pr h).flatMap Hold.cells) rfl fnok141 rfl (fun E1 w1 hm => delFunc_c _ _ pr t.Q w1 (hm.row 3 _ _ _ _ rfl) (by omega) (fun x w2 hle => ⟨142, _, rfl, fnok142, condAll_c _ x _ f caps pr _ (hm.litRow rfl (q := 6) rfl) (hs.mono (hm.leRow (l := 3) rfl)) (hf _ (E1.κ 1) (E1.κ 2) (E1.κ 3) (hm.leRow (l := 3) rfl) (by rw [← (hm.pin 4 0 _ rfl).1]; exact hm.litRow (l := 3) rfl (q := 0) rfl) (hm.rowSeen (l := 3) rfl (q := 2) rfl (by decide) (fun _ => rfl))) w2 hle⟩))) (fun _ _ => ?_)
  refine o_yield rfl rfl rfl (y_val tok rfl) ?_
  refine o_store tok rfl rfl rfl (by first | exact ⟨trivial, trivial⟩ | (repeat' first | exact trivial | exact rfl | apply And.intro); done | simp [onesP, oneP, lk, Value.oneCell']) ?_
  refine o_end [1, 7] rfl ?_
  refine x_then ?_
  refine c_seq ?_
  refine c_region ?_
  refine o_yield rfl rfl rfl (y_val tok rfl) ?_
  refine o_yield rfl rfl rfl (y_val tok rfl) ?_
  refine o_yield rfl rfl rfl (y_val tok rfl) ?_
  refine o_yield rfl rfl rfl (y_val tok rfl) ?_
  refine o_yield rfl rfl rfl (y_own (s := .a (.v (I (t.Q.filter fun h => !pr h).length))) 7 rfl rfl (fun v V' hv => y_len tok rfl (fun hg => hv))) ?_
  refine o_yield rfl rfl rfl (y_val tok rfl) ?_
  refine o_yield rfl rfl rfl (y_val tok rfl) ?_
  refine o_end [6] rfl ?_
  refine x_then ?_
  refine c_ret ?_
  refine b_ret tok rfl ?_
  intro E' w' hm _
  exact ⟨_, rfl, trivial, bookEnd hm (Vw.le.refl _) (a := 1) (b := 2) (c := 7) rfl rfl rfl rfl ⟨⟨by decide, by decide⟩, by decide⟩ rfl rfl⟩

theorem demFn1_c (x : Hold) (key : Int) (b : Nat) (V : Vw) (hb : V.get b = some (.cells [I key].toArray 3 (0, 0))) (w : World) (hV : V.le (vw w)) :
    Calls Try.prog 119 #[x.val, .pointer (some ⟨b, 0, none⟩)] w fun e w' => e = .returned (.bool (x.key != key)) ∧ Below w.heap.size w w' := by
  refine enter (E := E0) (O := []) (nl := 0) (V := vw w) [.a (.v x.val), .a (.v (.pointer (some ⟨b, 0, none⟩)))] Try.func119 rfl rfl (mem0 E0 0 w) rfl rfl ?_
  refine c_seq ?_
  refine c_region ?_
  refine o_new tok rfl rfl rfl rfl ?_
  refine o_yield rfl rfl rfl (y_val tok rfl) ?_
  refine o_end [1, 2] rfl ?_
  refine x_then ?_
  refine c_seq ?_
  refine c_region ?_
  refine o_yield rfl rfl rfl (y_val tok rfl) ?_
  refine o_yield rfl rfl rfl (y_val tok rfl) ?_
  refine o_yield rfl rfl rfl (y_ldp (cs := [I key]) tok rfl (fun hg => hV.get _ _ hb) rfl) ?_
  refine o_yield rfl rfl rfl (y_val tok rfl) ?_
  refine o_yield rfl rfl rfl (y_val tok rfl) ?_
  refine o_end [3] rfl ?_
  refine x_then ?_
  refine c_ret ?_
  refine b_ret tok rfl ?_
  intro E w' hm _
  refine ⟨?_, hm.below (Vw.le.refl _)⟩
  rfl

theorem demFn2_c (x : Hold) (g : Geo) (H : List Hold) (b5 b : Nat) (s1 s2 s3 : Value) (V : Vw) (h5 : V.get b5 = some (.cells [.pointer (some ⟨b, 0, none⟩)].toArray 88 (0, 0))) (hb : V.get b = some (.cells (bkC s1 s2 s3 g).toArray 91 (0, 0))) (hs : SlOf V Hold.cells 4 s2 H) (hn : H.length ≤ lim) (w : World) (hV : V.le (vw w)) :
    Calls Try.prog 120 #[x.val, .pointer (some ⟨b5, 0, none⟩)] w fun e w' => e = .returned (.bool (fits x H)) ∧ Below w.heap.size w w' := by
  obtain ⟨a, n, c, rfl⟩ := sl_shape hs.sl
  refine enter (E := E0) (O := []) (nl := 0) (V := vw w) [.a (.v x.val), .a (.v (.pointer (some ⟨b5, 0, none⟩)))] Try.func120 rfl rfl (mem0 E0 0 w) rfl rfl ?_
  refine c_seq ?_
  refine c_region ?_
  refine o_new tok rfl rfl rfl rfl ?_
  refine o_yield rfl rfl rfl (y_val tok rfl) ?_
  refine o_end [1, 2] rfl ?_
  refine x_then ?_
  refine c_seq ?_
  refine c_draw mixed (by kernel_rfl) ?_
  refine d_yield rfl rfl rfl (y_val tok rfl) rfl ?_
  refine d_yield rfl rfl rfl (y_ldp (cs := [.pointer (some ⟨b, 0, none⟩)]) tok rfl (fun hg => hV.get _ _ h5) rfl) rfl ?_
  refine d_yield rfl rfl rfl (y_val tok rfl) rfl ?_
  refine d_yield rfl rfl rfl (y_val tok rfl) rfl ?_
  refine d_yield rfl rfl rfl (y_val tok rfl) rfl ?_
  refine d_yield rfl rfl rfl (y_ldp (cs := bkC s1 (.slice a n c) s3 g) tok rfl (fun hg => hV.get _ _ hb) rfl) rfl ?_
  refine d_call (.a (.v _)) rfl rfl fnok77 rfl rfl rfl (fun hg E w1 hm => by exact spFits_c V x _ H _ (hV.trans hm.leV) hs hn) ?_
  refine d_yield rfl rfl rfl (y_val tok rfl) rfl ?_
  refine d_end [3] rfl ?_
  refine x_then ?_
  refine c_ret ?_
  refine b_ret tok rfl ?_
  intro E w' hm _
  refine ⟨?_, hm.below (Vw.le.refl _)⟩
  rfl

/-- Who waits for what a key has. -/
def demL (key : Int) (t : Tb) : List Hold := t.Q.filter fun h => !fits h (t.H.filter fun h => h.key == key)

theorem neneq (a b : Int) : (!(a != b)) = (a == b) := by simp [bne]

theorem tDemands_c (V : Vw) (tv : Value) (t : Tb) (key : Int) (w : World) (ht : t.Fit) (hV : V.le (vw w)) (h : TbIs V tv t) :
    Calls Try.prog 76 #[tv, I key] w (HRow (demL key t) w) := by
  obtain ⟨a, n, c, a2, n2, c2, a3, n3, c3, rfl, h1, h2, h3⟩ := id h
  have hh := ht.h
  have hlim : lim = 4398046511104 := rfl
  refine enter (E := E0) (O := []) (nl := 0) (V := vw w) [.a (.v (.agg #[.slice a n c, .slice a2 n2 c2, .slice a3 n3 c3])), .a (.v (I key))] Try.func76 rfl rfl (mem0 E0 0 w) rfl rfl ?_
  refine c_seq ?_
  refine c_region ?_
  refine o_new tok rfl rfl rfl rfl ?_
  refine o_new tok rfl rfl rfl rfl ?_
  refine o_yield rfl rfl rfl (y_val tok rfl) ?_
  refine o_end [2, 3] rfl ?_
  refine x_then ?_
  refine c_seq ?_
  refine c_region ?_
  refine o_yield rfl rfl rfl (y_val tok rfl) ?_
  refine o_yield rfl rfl rfl (y_val tok rfl) ?_
  refine o_step rfl rfl rfl rfl rfl (s_bookNew (e0 := 91) (gs := (⟨0, 0, 0, 0, 0, 0, 0, 0⟩ : Geo).cells) (R1 := slR t.S) (R2 := hoR t.H) (R3 := hoR t.Q) rfl fnok56 (fun E w1 hm => topen_c V ⟨0, 0, 0, 0, 0, 0, 0, 0⟩ _ t ht w1 (hV.trans hm.leV) h)) (fun _ _ => ?_)
  refine o_new tok rfl rfl rfl rfl ?_
  refine o_store tok rfl rfl rfl (by first | exact ⟨trivial, trivial⟩ | (repeat' first | exact trivial | exact rfl | apply And.intro); done | simp [onesP, oneP, lk, Value.oneCell']) ?_
  refine o_end [3, 5] rfl ?_
  refine x_then ?_
  refine c_seq ?_
  refine c_heldS [7] mixed rfl (by repeat (first | exact SubO.nil | refine SubO.cons rfl ?_)) (by first | rfl | simp [okCels, allOk_plain]) ?_
  refine t_takeD 0 rfl (by kernel_rfl) rfl rfl rfl (y_val tok rfl) rfl ?_
  refine t_takeD 1 rfl (by kernel_rfl) rfl rfl rfl (y_val tok rfl) rfl ?_
  refine t_takeD 2 rfl (by kernel_rfl) rfl rfl rfl (y_val tok rfl) rfl ?_
  refine t_takeD 3 rfl (by kernel_rfl) rfl rfl rfl (y_val tok rfl) rfl ?_
  refine t_takeD 4 rfl (by kernel_rfl) rfl rfl rfl (y_val tok rfl) rfl ?_
  refine t_takeD 5 rfl (by kernel_rfl) rfl rfl rfl (y_val tok rfl) rfl ?_
  refine t_go ?_
  refine h_one 6 (by kernel_rfl) ?_
  refine h_to 6 rfl rfl rfl rfl rfl rfl (s_bsA tok rfl) (.inr fun x hx => ⟨(by repeat (first | exact SubO.nil | refine SubO.cons rfl ?_)), rfl, (by first | exact Vw.le.refl _ | exact hx.1)⟩) (fun xa hxa => ?_)
  refine h_one 7 (by kernel_rfl) ?_
  refine h_to 7 rfl rfl rfl rfl rfl rfl (s_bookW (lo := 2) (a := 3) (b := 4) (c := 5) (fun _ => True) (slR t.S) (hoR (t.H.filter fun h => !(h.key != key))) (hoR t.Q) rfl fnok118 rfl rfl rfl rfl ⟨⟨by decide, by decide⟩, by decide⟩ (fun E w hm hin hle => removeH_c ⟨0, 0, 0, 0, 0, 0, 0, 0⟩ t ht (fun h => h.key != key) _ 119 #[.pointer (some ⟨E.ρ 1, 0, none⟩)] (bkE E 2 3 4 5) _ w hin (SlOf.ofBlock (enc := encF) (l := [.func (.func 119) #[] #[.pointer (some ⟨E.ρ 1, 0, none⟩)]]) (by rw [← (hm.pin 8 7 xa rfl).1]; exact hm.bkLit (a := 3) (b := 4) (c := 5) rfl rfl rfl rfl (q := 7) rfl ⟨⟨⟨by decide, by decide⟩, by decide⟩, by decide⟩) rfl (fun _ => rfl) (Nat.le_refl _)) (fun x w' hle => ⟨119, _, rfl, fnok119, demFn1_c x key _ _ (hm.bkLit (a := 3) (b := 4) (c := 5) rfl rfl rfl rfl (q := 1) rfl ⟨⟨⟨by decide, by decide⟩, by decide⟩, by decide⟩) w' hle⟩))) (.inl rfl) (fun _ _ => ?_)
  refine h_done [5] (by kernel_rfl) rfl ?_
  refine x_then ?_
  refine c_seq ?_
  refine c_heldS [7] mixed rfl (by repeat (first | exact SubO.nil | refine SubO.cons rfl ?_)) (by first | rfl | simp [okCels, allOk_plain]) ?_
  refine t_takeD 0 rfl (by kernel_rfl) rfl rfl rfl (y_val tok rfl) rfl ?_
  refine t_takeD 1 rfl (by kernel_rfl) rfl rfl rfl (y_val tok rfl) rfl ?_
  refine t_takeD 2 rfl (by kernel_rfl) rfl rfl rfl (y_val tok rfl) rfl ?_
  refine t_takeD 3 rfl (by kernel_rfl) rfl rfl rfl (y_val tok rfl) rfl ?_
  refine t_takeD 4 rfl (by kernel_rfl) rfl rfl rfl (y_val tok rfl) rfl ?_
  refine t_takeD 5 rfl (by kernel_rfl) rfl rfl rfl (y_val tok rfl) rfl ?_
  refine t_go ?_
  refine h_one 6 (by kernel_rfl) ?_
  simp only [neneq]
  have hd : demL key t = t.Q.filter fun h => !fits h (t.H.filter fun h => h.key == key) := rfl
  obtain ⟨H1, hH1⟩ : ∃ H1, H1 = t.H.filter fun h => h.key == key := ⟨_, rfl⟩
  have hH1l : H1.length ≤ t.H.length := by rw [hH1]; exact List.length_filter_le _ _
  rw [← hH1] at hd ⊢
  refine h_to 6 rfl rfl rfl rfl rfl rfl (s_bsA tok rfl) (.inr fun x hx => ⟨(by repeat (first | exact SubO.nil | refine SubO.cons rfl ?_)), rfl, (by first | exact Vw.le.refl _ | exact hx.1)⟩) (fun xb hxb => ?_)
  refine h_one 7 (by kernel_rfl) ?_
  refine h_to 7 rfl rfl rfl rfl rfl rfl (s_bookW (lo := 2) (a := 9) (b := 10) (c := 11) (fun _ => True) (slR t.S) (hoR H1) (hoR (t.Q.filter fun h => !fits h H1)) rfl fnok118 rfl rfl rfl rfl ⟨⟨by decide, by decide⟩, by decide⟩ (fun E w hm hin hle => removeQ2_c ⟨0, 0, 0, 0, 0, 0, 0, 0⟩ ⟨t.S, H1, t.Q⟩ ⟨ht.s, Nat.le_trans hH1l ht.h, ht.q⟩ (fun h => fits h H1) _ 120 #[.pointer (some ⟨E.ρ 6, 0, none⟩)] (bkE E 2 9 10 11) _ w hin (SlOf.ofBlock (enc := encF) (l := [.func (.func 120) #[] #[.pointer (some ⟨E.ρ 6, 0, none⟩)]]) (by rw [← (hm.pin 13 12 xb rfl).1]; exact hm.bkLit (a := 9) (b := 10) (c := 11) rfl rfl rfl rfl (q := 12) rfl ⟨⟨⟨by decide, by decide⟩, by decide⟩, by decide⟩) rfl (fun _ => rfl) (Nat.le_refl _)) (fun W s1 s2 s3 hW hg hsl x w' hle2 => ⟨120, _, rfl, fnok120, demFn2_c x ⟨0, 0, 0, 0, 0, 0, 0, 0⟩ H1 _ _ s1 s2 s3 W (hW.get _ _ (hm.bkLit (a := 9) (b := 10) (c := 11) rfl rfl rfl rfl (q := 6) rfl ⟨⟨⟨by decide, by decide⟩, by decide⟩, by decide⟩)) hg hsl (by omega) w' hle2⟩))) (.inl rfl) (fun _ _ => ?_)
  refine h_done [5] (by kernel_rfl) rfl ?_
  refine x_then ?_
  refine c_seq ?_
  refine c_region ?_
  refine o_yield rfl rfl rfl (y_val tok rfl) ?_
  refine o_yield rfl rfl rfl (y_val tok rfl) ?_
  refine o_yield rfl rfl rfl (y_val tok rfl) ?_
  refine o_yield rfl rfl rfl (y_val tok rfl) ?_
  refine o_yield rfl rfl rfl (y_val tok rfl) ?_
  refine o_yield rfl rfl rfl (y_val tok rfl) ?_
  refine o_end [4] rfl ?_
  refine x_then ?_
  refine c_ret ?_
  refine b_ret tok rfl ?_
  intro E' w' hm _
  rw [hd]
  exact ⟨_, rfl, hm.rowFresh (Vw.le.refl _) (l := 16) rfl, hm.below (Vw.le.refl _)⟩
end Go.Proofs.Ytiapfhcimekdkaa

/- Locks: what is wanted; the document's. -/
set_option linter.unusedVariables false
set_option linter.unusedSimpArgs false
set_option maxRecDepth 100000
namespace Go.Proofs.Ytiapfhcimekdkaa
open Go Go.Eng Go.RowKit

/-- What answers a row of spans of one's own. -/
def SRow (l : List Span) (w : World) (e : Ending) (w' : World) : Prop := ∃ v', e = .returned v' ∧ w'.ownsRow w.heap.size 34 2 v' l.length (l.flatMap Span.cells) ∧ Below w.heap.size w w'

def SOut (V : Vw) (l : List Span) (w : World) (e : Ending) (w' : World) : Prop := ∃ v V', e = .returned v ∧ Below w.heap.size w w' ∧ Vext w.heap.size V V' w' ∧ SlOf V' Span.cells 2 v l

theorem SRow.out {V : Vw} {l : List Span} {w : World} {e : Ending} {w' : World} (h : SRow l w e w') (hV : V.le (vw w)) : SOut V l w e w' := by
  obtain ⟨v, rfl, h1, h2⟩ := h
  exact ⟨v, _, rfl, h2, Vext.grown hV h2, SlOf.grown (enc := Span.cells) V h1 (fun _ => rfl)⟩

abbrev spOf (h : Hold) : Span := ⟨h.lo, h.hi⟩

theorem span_ones (l : List Span) : ∀ u ∈ l.flatMap Span.cells, u.oneCell' = true := by
  intro u hu
  obtain ⟨x, _, hx⟩ := List.mem_flatMap.1 hu
  simp only [Span.cells, List.mem_cons, List.not_mem_nil, or_false] at hx
  rcases hx with rfl | rfl <;> rfl

theorem span_snoc (L : List Span) (x : Span) : L.length + 1 = (L ++ [x]).length ∧ L.flatMap Span.cells ++ x.cells = (L ++ [x]).flatMap Span.cells := by simp

theorem smap_step {l : List Hold} {k : Nat} {x : Hold} (pr : Hold → Bool) (h : l[k]? = some x) : ((l.take (k + 1)).filter pr).map spOf = ((l.take k).filter pr).map spOf ++ (if pr x = true then [spOf x] else []) := by
  rw [filt_step pr h, List.map_append]
  cases hq : pr x <;> simp [hq]

theorem smap_len (l : List Hold) (k : Nat) (pr : Hold → Bool) : (((l.take k).filter pr).map spOf).length ≤ k := by rw [List.length_map]; exact filt_len l k pr

/-- What is wanted of a key. -/
def wantL (key : Int) (t : Tb) : List Span := ((hasL key false [] t.H).filter fun h => !fits h (demL key t)).map spOf

theorem lkWanted_c (V : Vw) (tv : Value) (t : Tb) (key : Int) (w : World) (ht : t.Fit) (hV : V.le (vw w)) (h : TbIs V tv t) :
    Calls Try.prog 30 #[tv, I key] w (SRow (wantL key t) w) := by
  obtain ⟨a, n, c, a2, n2, c2, a3, n3, c3, rfl, h1, h2, h3⟩ := id h
  have hh := ht.h
  have hq := ht.q
  have hlim : lim = 4398046511104 := rfl
  have hdl : (demL key t).length ≤ t.Q.length := List.length_filter_le _ _
  have hhl : (hasL key false [] t.H).length ≤ t.H.length := List.length_filter_le _ _
  have hwl : wantL key t = ((hasL key false [] t.H).filter fun h => !fits h (demL key t)).map spOf := rfl
  have hdem := fun w1 hw1 => tDemands_c V _ t key w1 ht hw1 h
  have hhas := fun w1 hw1 => lkHas_c V _ (.slice none 0 0) t key false [] w1 ht hw1 h (slNil V Span.cells 2 0 (fun _ => rfl)) (by simp)
  generalize demL key t = D at *
  generalize hasL key false [] t.H = L at *
  rw [hwl]
  refine enter (E := E0) (O := []) (nl := 0) (V := vw w) [.a (.v (.agg #[.slice a n c, .slice a2 n2 c2, .slice a3 n3 c3])), .a (.v (I key))] Try.func30 rfl rfl (mem0 E0 0 w) rfl rfl ?_
  refine c_seq ?_
  refine c_region ?_
  refine o_new tok rfl rfl rfl rfl ?_
  refine o_yield rfl rfl rfl (y_val tok rfl) ?_
  refine o_end [1, 2, 4] rfl ?_
  refine x_then ?_
  refine c_seq ?_
  refine c_region ?_
  refine o_yield rfl rfl rfl (y_val tok rfl) ?_
  refine o_yield rfl rfl rfl (y_val tok rfl) ?_
  refine o_step rfl rfl rfl rfl rfl (s_callRow 43 4 D.length (D.flatMap Hold.cells) rfl fnok76 (fun E w1 hm => hdem w1 (hV.trans hm.leV))) (fun _ _ => ?_)
  refine o_yield rfl rfl rfl (y_val tok rfl) ?_
  refine o_end [1, 2, 4, 5] rfl ?_
  refine x_then ?_
  refine c_seq ?_
  refine c_seq ?_
  refine c_region ?_
  refine o_yield rfl rfl rfl (y_val tok rfl) ?_
  refine o_yield rfl rfl rfl (y_val tok rfl) ?_
  refine o_step rfl rfl rfl rfl rfl (s_callRow 43 4 L.length (L.flatMap Hold.cells) rfl fnok25 (fun E w1 hm => hhas w1 (hV.trans hm.leV))) (fun _ _ => ?_)
  refine o_yield rfl rfl rfl (y_own (s := .a (.v (I L.length))) 2 rfl rfl (fun v V' hv => y_len tok rfl (fun hg => hv))) ?_
  refine o_yield rfl rfl rfl (y_val tok rfl) ?_
  refine o_end [4, 5, 13, 14, 15] rfl ?_
  refine x_then ?_
  refine c_block ?_
  refine k_nil 4 34 2 rfl rfl ?_
  refine c_loopK [5, 13, 14] [3] rfl rfl (σ := Nat) (fun k => [(4, .a (.row 3)), (15, .a (.v (I k)))]) (fun k => [(3, .row 34 2 (((L.take k).filter fun h => !fits h D).map spOf).length ((((L.take k).filter fun h => !fits h D).map spOf).flatMap Span.cells))]) (fun k => k ≤ L.length) (fun k => L.length - k) (0) (by omega) (by repeat (first | exact SubF.nil | refine SubF.cons rfl ?_)) (by repeat (first | exact SubO.nil | refine SubO.cons rfl ?_)) rfl ?_
  rintro k hk
  refine c_seq ?_
  refine c_region ?_
  refine o_yield rfl rfl rfl (y_val tok rfl) ?_
  refine o_end [4, 5, 13, 14, 15, 16] rfl ?_
  refine x_then ?_
  refine c_seq ?_
  refine c_cond rfl (fun h => ?_) (fun h => ?_)
  ·
    simp only [Bool.and_eq_true, Bool.or_eq_true, Bool.not_eq_true', Bool.or_eq_false_iff, Bool.and_eq_false_iff, decide_eq_true_eq, decide_eq_false_iff_not, beq_iff_eq, bne_iff_ne, Bool.not_eq_false', beq_eq_false_iff_ne, bne_eq_false_iff_eq, ne_eq, Decidable.not_not, Int.not_lt, Int.not_le] at h
    refine c_skip ?_
    refine x_then ?_
    refine c_seq ?_
    refine c_block ?_
    refine c_seq ?_
    refine c_region ?_
    obtain ⟨x, hx⟩ : ∃ x, L[k]? = some x := ⟨_, List.getElem?_eq_getElem (by omega)⟩
    have hwk : IntKind.i64.wrap ((k : Int) + 1) = ((k + 1 : Nat) : Int) := wrapI (by omega) (by omega)
    have hsl := smap_len L k (fun h => !fits h D)
    have hst := smap_step (fun h => !fits h D) hx
    refine o_yield rfl rfl rfl (y_own (s := .a (.rel 2 (k * 4))) 2 rfl rfl (fun v V' hv => y_idxK tok (k * 4) rfl (by simp) (fun hg => hv) (fun hg => by omega))) ?_
    refine o_yield rfl rfl rfl (y_own (s := .agg (x.cells.map .v)) 2 rfl rfl (fun v V' hv => y_lel (enc := Hold.cells) (l := L) tok k 0 x rfl (fun hg => ⟨hv, fun _ => rfl⟩) (fun hg => hx) rfl rfl)) ?_
    refine o_new tok rfl rfl rfl rfl ?_
    refine o_store tok rfl rfl rfl (by first | exact ⟨trivial, trivial⟩ | (repeat' first | exact trivial | exact rfl | apply And.intro); done | simp [onesP, oneP, lk, Value.oneCell']) ?_
    refine o_end [4, 5, 7, 13, 14, 15] rfl ?_
    refine x_then ?_
    refine c_seq ?_
    refine c_region ?_
    refine o_yield rfl rfl rfl (y_val tok rfl) ?_
    refine o_yield rfl rfl rfl (y_val tok rfl) ?_
    refine o_call (.a (.v _)) rfl rfl fnok77 rfl rfl rfl (fun hg E w1 hm => by exact spFits_c (vw w1) x (E.κ 1) D _ (Vw.le.refl _) (hm.rowOf 1 rfl (fun _ => rfl)) (by omega)) ?_
    refine o_yield rfl rfl rfl (y_val tok rfl) ?_
    refine o_end [4, 5, 7, 13, 14, 15, 22] rfl ?_
    refine x_then ?_
    refine c_cond rfl (fun h => ?_) (fun h => ?_)
    ·
      refine c_region ?_
      refine o_yield rfl rfl rfl (y_val tok rfl) ?_
      refine o_yield rfl rfl rfl (y_val tok rfl) ?_
      refine o_yield rfl rfl rfl (y_val tok rfl) ?_
      rw [if_pos h] at hst
      refine o_step rfl rfl rfl rfl rfl (s_bs tok 2 rfl rfl rfl) (fun _ _ => ?_)
      refine o_step rfl rfl rfl rfl rfl (s_app tok (spOf x).cells rfl (fun E w hm => ownsRow_src (hm.row _ _ _ _ _ rfl)) (fun _ _ _ => by simpa using span_ones [spOf x]) (by dsimp only; omega)) (fun _ _ => ?_)
      refine o_yield rfl rfl rfl (y_val tok rfl) ?_
      refine o_end [4, 5, 13, 14, 15] rfl ?_
      refine x_block ?_
      refine x_then ?_
      refine c_region ?_
      refine o_yield rfl rfl rfl (y_val tok rfl) ?_
      refine o_yield rfl rfl rfl (y_val tok rfl) ?_
      refine o_end [4, 5, 13, 14, 15] rfl ?_
      refine x_then ?_
      rw [(span_snoc _ (spOf x)).1, (span_snoc _ (spOf x)).2, ← hst, hwk]
      refine k_swap 3 6 rfl ?_
      refine x_round (k + 1) (by omega) (by first | omega | (dsimp only; omega)) (by repeat (first | exact SubF.nil | refine SubF.cons rfl ?_)) (by repeat (first | exact SubO.nil | refine SubO.cons rfl ?_)) rfl (Vw.le.refl _)
    ·
      refine c_skip ?_
      refine x_block ?_
      refine x_then ?_
      refine c_region ?_
      refine o_yield rfl rfl rfl (y_val tok rfl) ?_
      refine o_yield rfl rfl rfl (y_val tok rfl) ?_
      refine o_end [4, 5, 13, 14, 15] rfl ?_
      refine x_then ?_
      rw [if_neg (by rw [h]; simp), List.append_nil] at hst
      rw [← hst, hwk]
      refine x_round (k + 1) (by omega) (by first | omega | (dsimp only; omega)) (by repeat (first | exact SubF.nil | refine SubF.cons rfl ?_)) (by repeat (first | exact SubO.nil | refine SubO.cons rfl ?_)) rfl (Vw.le.refl _)
  ·
    simp only [Bool.and_eq_true, Bool.or_eq_true, Bool.not_eq_true', Bool.or_eq_false_iff, Bool.and_eq_false_iff, decide_eq_true_eq, decide_eq_false_iff_not, beq_iff_eq, bne_iff_ne, Bool.not_eq_false', beq_eq_false_iff_ne, bne_eq_false_iff_eq, ne_eq, Decidable.not_not, Int.not_lt, Int.not_le] at h
    have hkl : k = L.length := by omega
    subst hkl
    rw [List.take_length]
    clear h
    refine c_exit ?_
    refine x_then_exit ?_
    refine x_then_exit ?_
    refine x_block_hit ?_
    refine x_then ?_
    refine c_seq ?_
    refine c_region ?_
    refine o_yield rfl rfl rfl (y_val tok rfl) ?_
    refine o_yield rfl rfl rfl (y_val tok rfl) ?_
    refine o_end [4] rfl ?_
    refine x_then ?_
    refine c_ret ?_
    refine b_ret tok rfl ?_
    intro E' w' hm _
    exact ⟨_, rfl, hm.rowFresh (Vw.le.refl _) (l := 3) rfl, hm.below (Vw.le.refl _)⟩
end Go.Proofs.Ytiapfhcimekdkaa

/- Locks: the document's. -/
set_option linter.unusedVariables false
set_option linter.unusedSimpArgs false
set_option maxRecDepth 100000
namespace Go.Proofs.Ytiapfhcimekdkaa
open Go Go.Eng Go.RowKit

theorem hasF_all (key : Int) (gs : List Span) (l : List Hold) : l.filter (hasF key true gs) = [] := by
  rw [List.filter_eq_nil_iff]
  intro x _
  simp [hasF]

theorem rDemands_c (V : Vw) (tv : Value) (t : Tb) (key : Int) (w : World) (ht : t.Fit) (hV : V.le (vw w)) (h : TbIs V tv t) :
    Calls Try.prog 41 #[tv, I key] w (HRow (demL key t) w) := by
  obtain ⟨a, n, c, a2, n2, c2, a3, n3, c3, rfl, h1, h2, h3⟩ := h
  have hh := ht.h
  have hq := ht.q
  have hlim : lim = 4398046511104 := rfl
  have hH := h2.mono hV
  have hQ := h3.mono hV
  have hd : demL key t = t.Q.filter fun h => !fits h (t.H.filter fun h => h.key == key) := rfl
  refine enter (E := E0) (O := []) (nl := 0) (V := vw w) [.a (.v (.agg #[.slice a n c, .slice a2 n2 c2, .slice a3 n3 c3])), .a (.v (I key))] Try.func41 rfl rfl (mem0 E0 0 w) rfl rfl ?_
  refine c_seq ?_
  refine c_region ?_
  refine o_new tok rfl rfl rfl rfl ?_
  refine o_yield rfl rfl rfl (y_val tok rfl) ?_
  refine o_end [1, 2] rfl ?_
  refine x_then ?_
  refine c_seq ?_
  refine c_region ?_
  refine o_yield rfl rfl rfl (y_val tok rfl) ?_
  refine o_end [1, 2, 5] rfl ?_
  refine x_then ?_
  refine c_seq ?_
  refine c_seq ?_
  refine c_region ?_
  refine o_yield rfl rfl rfl (y_val tok rfl) ?_
  refine o_end [1, 2, 5, 6] rfl ?_
  refine x_then ?_
  refine c_block ?_
  refine k_nil 5 43 4 rfl rfl ?_
  refine c_loopK [1, 2] [1] rfl rfl (σ := Nat) (fun i => [(5, .a (.row 1)), (6, .a (.v (I i)))]) (fun i => [(1, .row 43 4 ((t.H.take i).filter fun h => h.key == key).length (((t.H.take i).filter fun h => h.key == key).flatMap Hold.cells))]) (fun i => i ≤ t.H.length) (fun i => t.H.length - i) (0) (by omega) (by repeat (first | exact SubF.nil | refine SubF.cons rfl ?_)) (by repeat (first | exact SubO.nil | refine SubO.cons rfl ?_)) rfl ?_
  rintro i hi
  refine c_seq ?_
  refine c_seq ?_
  refine c_region ?_
  refine o_yield rfl rfl rfl (y_val tok rfl) ?_
  refine o_yield rfl rfl rfl (y_val tok rfl) ?_
  refine o_yield rfl rfl rfl (y_val tok rfl) ?_
  refine o_yield rfl rfl rfl (y_len tok rfl (fun hg => hH.sl)) ?_
  refine o_yield rfl rfl rfl (y_val tok rfl) ?_
  refine o_end [1, 2, 5, 6, 13] rfl ?_
  refine x_then ?_
  refine c_cond rfl (fun h => ?_) (fun h => ?_)
  ·
    simp only [Bool.and_eq_true, Bool.or_eq_true, Bool.not_eq_true', Bool.or_eq_false_iff, Bool.and_eq_false_iff, decide_eq_true_eq, decide_eq_false_iff_not, beq_iff_eq, bne_iff_ne, Bool.not_eq_false', beq_eq_false_iff_ne, bne_eq_false_iff_eq, ne_eq, Decidable.not_not, Int.not_lt, Int.not_le] at h
    refine c_skip ?_
    refine x_then ?_
    refine c_seq ?_
    refine c_block ?_
    refine c_seq ?_
    refine c_region ?_
    refine o_yield rfl rfl rfl (y_val tok rfl) ?_
    refine o_yield rfl rfl rfl (y_val tok rfl) ?_
    refine o_yield rfl rfl rfl (y_val tok rfl) ?_
    have hwi : IntKind.i64.wrap ((i : Int) + 1) = ((i + 1 : Nat) : Int) := wrapI (by omega) (by omega)
    have hfl := filt_len t.H i (fun h => h.key == key)
    obtain ⟨x, h_x⟩ := hH.at (k := i) (by omega)
    have hlt_x := lt_of_at h_x
    refine o_yield rfl rfl rfl (y_idx tok rfl (fun hg => hH.sl) (fun hg => ⟨by omega, by omega⟩)) ?_
    refine o_yield rfl rfl rfl (y_fel tok rfl (fun hg => hH.sl) (fun hg => by omega)) ?_
    refine o_yield rfl rfl rfl (y_lel tok (i) 0 (x) rfl (fun hg => hH) (fun hg => h_x) rfl rfl) ?_
    refine o_yield rfl rfl rfl (y_val tok rfl) ?_
    refine o_yield rfl rfl rfl (y_val tok rfl) ?_
    refine o_end [1, 2, 5, 6, 23] rfl ?_
    refine x_then ?_
    refine c_cond rfl (fun h => ?_) (fun h => ?_)
    ·
      refine c_region ?_
      refine o_yield rfl rfl rfl (y_val tok rfl) ?_
      refine o_yield rfl rfl rfl (y_val tok rfl) ?_
      refine o_yield rfl rfl rfl (y_val tok rfl) ?_
      refine o_yield rfl rfl rfl (y_val tok rfl) ?_
      have hft := filt_step (fun h => h.key == key) h_x
      rw [if_pos h] at hft
      have hlt_x := lt_of_at h_x
      refine o_yield rfl rfl rfl (y_idx tok rfl (fun hg => hH.sl) (fun hg => ⟨by omega, by omega⟩)) ?_
      refine o_yield rfl rfl rfl (y_lel tok (i) 0 (x) rfl (fun hg => hH) (fun hg => h_x) rfl rfl) ?_
      refine o_step rfl rfl rfl rfl rfl (s_bs tok 4 rfl rfl rfl) (fun _ _ => ?_)
      refine o_step rfl rfl rfl rfl rfl (s_app tok x.cells rfl (fun E w hm => ownsRow_src (hm.row _ _ _ _ _ rfl)) (fun _ _ _ => by simpa using hold_ones [x]) (by dsimp only; omega)) (fun _ _ => ?_)
      refine o_yield rfl rfl rfl (y_val tok rfl) ?_
      refine o_end [1, 2, 5, 6] rfl ?_
      refine x_block ?_
      refine x_then ?_
      refine c_region ?_
      refine o_yield rfl rfl rfl (y_val tok rfl) ?_
      refine o_yield rfl rfl rfl (y_val tok rfl) ?_
      refine o_yield rfl rfl rfl (y_val tok rfl) ?_
      refine o_end [1, 2, 5, 6] rfl ?_
      refine x_then ?_
      rw [(hold_snoc _ x).1, (hold_snoc _ x).2, ← hft, hwi]
      refine k_swap 1 3 rfl ?_
      refine x_round (i + 1) (by omega) (by first | omega | (dsimp only; omega)) (by repeat (first | exact SubF.nil | refine SubF.cons rfl ?_)) (by repeat (first | exact SubO.nil | refine SubO.cons rfl ?_)) rfl (Vw.le.refl _)
    ·
      refine c_skip ?_
      refine x_block ?_
      refine x_then ?_
      refine c_region ?_
      refine o_yield rfl rfl rfl (y_val tok rfl) ?_
      refine o_yield rfl rfl rfl (y_val tok rfl) ?_
      refine o_yield rfl rfl rfl (y_val tok rfl) ?_
      refine o_end [1, 2, 5, 6] rfl ?_
      refine x_then ?_
      have hft := filt_step (fun h => h.key == key) h_x
      rw [if_neg (by rw [h]; simp), List.append_nil] at hft
      rw [← hft, hwi]
      refine x_round (i + 1) (by omega) (by first | omega | (dsimp only; omega)) (by repeat (first | exact SubF.nil | refine SubF.cons rfl ?_)) (by repeat (first | exact SubO.nil | refine SubO.cons rfl ?_)) rfl (Vw.le.refl _)
  ·
    simp only [Bool.and_eq_true, Bool.or_eq_true, Bool.not_eq_true', Bool.or_eq_false_iff, Bool.and_eq_false_iff, decide_eq_true_eq, decide_eq_false_iff_not, beq_iff_eq, bne_iff_ne, Bool.not_eq_false', beq_eq_false_iff_ne, bne_eq_false_iff_eq, ne_eq, Decidable.not_not, Int.not_lt, Int.not_le] at h
    have hil : i = t.H.length := by omega
    subst hil
    rw [List.take_length]
    obtain ⟨M, hM⟩ : ∃ M, M = t.H.filter fun h => h.key == key := ⟨_, rfl⟩
    have hMl : M.length ≤ t.H.length := by rw [hM]; exact List.length_filter_le _ _
    rw [← hM] at hd ⊢
    clear h
    refine c_exit ?_
    refine x_then_exit ?_
    refine x_then_exit ?_
    refine x_block_hit ?_
    refine x_then ?_
    refine c_seq ?_
    refine c_region ?_
    refine o_yield rfl rfl rfl (y_val tok rfl) ?_
    refine o_end [2, 5, 7] rfl ?_
    refine x_then ?_
    refine c_seq ?_
    refine c_seq ?_
    refine c_region ?_
    refine o_yield rfl rfl rfl (y_val tok rfl) ?_
    refine o_end [2, 5, 7, 8] rfl ?_
    refine x_then ?_
    refine c_block ?_
    refine k_nil 7 43 4 rfl rfl ?_
    refine c_loopK [2, 5] [2] rfl rfl (σ := Nat) (fun i => [(7, .a (.row 2)), (8, .a (.v (I i)))]) (fun i => [(2, .row 43 4 ((t.Q.take i).filter fun h => !fits h M).length (((t.Q.take i).filter fun h => !fits h M).flatMap Hold.cells))]) (fun i => i ≤ t.Q.length) (fun i => t.Q.length - i) (0) (by omega) (by repeat (first | exact SubF.nil | refine SubF.cons rfl ?_)) (by repeat (first | exact SubO.nil | refine SubO.cons rfl ?_)) rfl ?_
    rintro i hi
    refine c_seq ?_
    refine c_seq ?_
    refine c_region ?_
    refine o_yield rfl rfl rfl (y_val tok rfl) ?_
    refine o_yield rfl rfl rfl (y_val tok rfl) ?_
    refine o_yield rfl rfl rfl (y_val tok rfl) ?_
    refine o_yield rfl rfl rfl (y_len tok rfl (fun hg => hQ.sl)) ?_
    refine o_yield rfl rfl rfl (y_val tok rfl) ?_
    refine o_end [2, 5, 7, 8, 36] rfl ?_
    refine x_then ?_
    refine c_cond rfl (fun h => ?_) (fun h => ?_)
    ·
      simp only [Bool.and_eq_true, Bool.or_eq_true, Bool.not_eq_true', Bool.or_eq_false_iff, Bool.and_eq_false_iff, decide_eq_true_eq, decide_eq_false_iff_not, beq_iff_eq, bne_iff_ne, Bool.not_eq_false', beq_eq_false_iff_ne, bne_eq_false_iff_eq, ne_eq, Decidable.not_not, Int.not_lt, Int.not_le] at h
      refine c_skip ?_
      refine x_then ?_
      refine c_seq ?_
      refine c_block ?_
      refine c_seq ?_
      refine c_region ?_
      refine o_yield rfl rfl rfl (y_val tok rfl) ?_
      refine o_yield rfl rfl rfl (y_val tok rfl) ?_
      refine o_yield rfl rfl rfl (y_val tok rfl) ?_
      have hwi : IntKind.i64.wrap ((i : Int) + 1) = ((i + 1 : Nat) : Int) := wrapI (by omega) (by omega)
      have hfl := filt_len t.Q i (fun h => !fits h M)
      obtain ⟨x, h_x⟩ := hQ.at (k := i) (by omega)
      have hlt_x := lt_of_at h_x
      refine o_yield rfl rfl rfl (y_idx tok rfl (fun hg => hQ.sl) (fun hg => ⟨by omega, by omega⟩)) ?_
      refine o_yield rfl rfl rfl (y_lel tok (i) 0 (x) rfl (fun hg => hQ) (fun hg => h_x) rfl rfl) ?_
      refine o_yield rfl rfl rfl (y_val tok rfl) ?_
      refine o_call (.a (.v _)) rfl rfl fnok78 rfl rfl rfl (fun hg E w1 hm => by exact spRfits_c (vw w1) x (E.κ 1) M _ (Vw.le.refl _) (hm.rowOf 1 rfl (fun _ => rfl)) (by omega)) ?_
      refine o_yield rfl rfl rfl (y_val tok rfl) ?_
      refine o_end [2, 5, 7, 8, 46] rfl ?_
      refine x_then ?_
      refine c_cond rfl (fun h => ?_) (fun h => ?_)
      ·
        refine c_region ?_
        refine o_yield rfl rfl rfl (y_val tok rfl) ?_
        refine o_yield rfl rfl rfl (y_val tok rfl) ?_
        refine o_yield rfl rfl rfl (y_val tok rfl) ?_
        refine o_yield rfl rfl rfl (y_val tok rfl) ?_
        have hft := filt_step (fun h => !fits h M) h_x
        rw [if_pos h] at hft
        have hlt_x := lt_of_at h_x
        refine o_yield rfl rfl rfl (y_idx tok rfl (fun hg => hQ.sl) (fun hg => ⟨by omega, by omega⟩)) ?_
        refine o_yield rfl rfl rfl (y_lel tok (i) 0 (x) rfl (fun hg => hQ) (fun hg => h_x) rfl rfl) ?_
        refine o_step rfl rfl rfl rfl rfl (s_bs tok 4 rfl rfl rfl) (fun _ _ => ?_)
        refine o_step rfl rfl rfl rfl rfl (s_app tok x.cells rfl (fun E w hm => ownsRow_src (hm.row _ _ _ _ _ rfl)) (fun _ _ _ => by simpa using hold_ones [x]) (by dsimp only; omega)) (fun _ _ => ?_)
        refine o_yield rfl rfl rfl (y_val tok rfl) ?_
        refine o_end [2, 5, 7, 8] rfl ?_
        refine x_block ?_
        refine x_then ?_
        refine c_region ?_
        refine o_yield rfl rfl rfl (y_val tok rfl) ?_
        refine o_yield rfl rfl rfl (y_val tok rfl) ?_
        refine o_yield rfl rfl rfl (y_val tok rfl) ?_
        refine o_end [2, 5, 7, 8] rfl ?_
        refine x_then ?_
        rw [(hold_snoc _ x).1, (hold_snoc _ x).2, ← hft, hwi]
        refine k_swap 2 4 rfl ?_
        refine x_round (i + 1) (by omega) (by first | omega | (dsimp only; omega)) (by repeat (first | exact SubF.nil | refine SubF.cons rfl ?_)) (by repeat (first | exact SubO.nil | refine SubO.cons rfl ?_)) rfl (Vw.le.refl _)
      ·
        refine c_skip ?_
        refine x_block ?_
        refine x_then ?_
        refine c_region ?_
        refine o_yield rfl rfl rfl (y_val tok rfl) ?_
        refine o_yield rfl rfl rfl (y_val tok rfl) ?_
        refine o_yield rfl rfl rfl (y_val tok rfl) ?_
        refine o_end [2, 5, 7, 8] rfl ?_
        refine x_then ?_
        have hft := filt_step (fun h => !fits h M) h_x
        rw [if_neg (by rw [h]; simp), List.append_nil] at hft
        rw [← hft, hwi]
        refine x_round (i + 1) (by omega) (by first | omega | (dsimp only; omega)) (by repeat (first | exact SubF.nil | refine SubF.cons rfl ?_)) (by repeat (first | exact SubO.nil | refine SubO.cons rfl ?_)) rfl (Vw.le.refl _)
    ·
      simp only [Bool.and_eq_true, Bool.or_eq_true, Bool.not_eq_true', Bool.or_eq_false_iff, Bool.and_eq_false_iff, decide_eq_true_eq, decide_eq_false_iff_not, beq_iff_eq, bne_iff_ne, Bool.not_eq_false', beq_eq_false_iff_ne, bne_eq_false_iff_eq, ne_eq, Decidable.not_not, Int.not_lt, Int.not_le] at h
      refine c_exit ?_
      refine x_then_exit ?_
      refine x_then_exit ?_
      refine x_block_hit ?_
      refine x_then ?_
      refine c_seq ?_
      refine c_region ?_
      refine o_yield rfl rfl rfl (y_val tok rfl) ?_
      refine o_yield rfl rfl rfl (y_val tok rfl) ?_
      refine o_end [4] rfl ?_
      refine x_then ?_
      refine c_ret ?_
      refine b_ret tok rfl ?_
      have hil : i = t.Q.length := by omega
      subst hil
      rw [List.take_length, hd]
      intro E' w' hm _
      exact ⟨_, rfl, hm.rowFresh (Vw.le.refl _) (l := 2) rfl, hm.below (Vw.le.refl _)⟩

theorem wantL_eq (key : Int) (t : Tb) : wantL key t = (t.H.filter fun h => (h.key == key) && !fits h (demL key t)).map spOf := by
  rw [wantL, hasL, List.filter_filter]
  congr 2
  funext h
  simp [hasF, spIn, Bool.and_comm]

end Go.Proofs.Ytiapfhcimekdkaa

/- Locks: commands, or why there is none. -/
set_option linter.unusedVariables false
set_option linter.unusedSimpArgs false
set_option maxRecDepth 100000
namespace Go.Proofs.Ytiapfhcimekdkaa
open Go Go.Eng Go.RowKit

/-- A command with its owner. -/
abbrev ownC (key serial : Int) (c : Cmd) : Cmd := ⟨c.kind, key, serial, c.dead, c.was, c.lo, c.hi, c.mode⟩

def saysV (key serial : Int) (t : Tb) (c : Cmd) : ByteArray × Int :=
  if (decide (0 ≤ slotI t.S key) && (cbE (ownC key serial c) == 0)) = true then (cbV (ownC key serial c), 0) else (ByteArray.empty, 2)

theorem says_c (V : Vw) (tv : Value) (t : Tb) (key serial : Int) (c : Cmd) (w : World) (ht : t.Fit) (hV : V.le (vw w)) (h : TbIs V tv t) :
    Calls Try.prog 80 #[.agg #[I key, I serial], tv, c.val] w fun e w' => e = .returned (.tuple #[S (saysV key serial t c).1, I (saysV key serial t c).2]) ∧ Below w.heap.size w w' := by
  obtain ⟨a, n, c0, a2, n2, c2, a3, n3, c3, rfl, h1, h2, h3⟩ := id h
  have hs := ht.s
  have hlim : lim = 4398046511104 := rfl
  refine enter (E := E0) (O := []) (nl := 0) (V := vw w) [.a (.v (.agg #[I key, I serial])), .a (.v (.agg #[.slice a n c0, .slice a2 n2 c2, .slice a3 n3 c3])), .a (.v c.val)] Try.func80 rfl rfl (mem0 E0 0 w) rfl rfl ?_
  refine c_seq ?_
  refine c_region ?_
  refine o_new tok rfl rfl rfl rfl ?_
  refine o_new tok rfl rfl rfl rfl ?_
  refine o_new tok rfl rfl rfl rfl ?_
  refine o_yield rfl rfl rfl (y_val tok rfl) ?_
  refine o_yield rfl rfl rfl (y_val tok rfl) ?_
  refine o_end [3, 4, 5] rfl ?_
  refine x_then ?_
  refine c_seq ?_
  refine c_held [] ([(0, .lit [.v (I key), .v (I serial)] 100)]) mixed (by repeat (first | exact SubO.nil | refine SubO.cons rfl ?_)) (by first | rfl | simp [okCels, allOk_plain]) ?_
  refine t_take 0 rfl (by kernel_rfl) rfl rfl rfl (y_val tok rfl) rfl ?_
  refine t_take 1 rfl (by kernel_rfl) rfl rfl rfl (y_val tok rfl) rfl ?_
  refine t_take 2 rfl (by kernel_rfl) rfl rfl rfl (y_val tok rfl) rfl ?_
  refine t_take 3 rfl (by kernel_rfl) rfl rfl rfl (y_val tok rfl) rfl ?_
  refine t_take 4 rfl (by kernel_rfl) rfl rfl rfl (y_val tok rfl) rfl ?_
  refine t_go ?_
  refine h_one 5 (by kernel_rfl) ?_
  refine h_store 5 tok rfl rfl rfl rfl (by first | exact ⟨trivial, trivial⟩ | (repeat' first | exact trivial | exact rfl | apply And.intro); done | simp [onesP, oneP, lk, Value.oneCell']) (.inr ⟨(by repeat (first | exact SubO.nil | refine SubO.cons rfl ?_)), rfl, (by first | exact Vw.le.refl _ | assumption)⟩) ?_
  refine h_one 6 (by kernel_rfl) ?_
  refine h_yield 6 rfl rfl rfl rfl (y_val tok rfl) ?_
  refine h_one 7 (by kernel_rfl) ?_
  refine h_store 7 tok rfl rfl rfl rfl (by first | exact ⟨trivial, trivial⟩ | (repeat' first | exact trivial | exact rfl | apply And.intro); done | simp [onesP, oneP, lk, Value.oneCell']) (.inr ⟨(by repeat (first | exact SubO.nil | refine SubO.cons rfl ?_)), rfl, (by first | exact Vw.le.refl _ | assumption)⟩) ?_
  refine h_done [3, 4, 5] (by kernel_rfl) rfl ?_
  refine x_then ?_
  refine c_seq ?_
  refine c_region ?_
  refine o_yield rfl rfl rfl (y_val tok rfl) ?_
  refine o_yield rfl rfl rfl (y_val tok rfl) ?_
  refine o_yield rfl rfl rfl (y_val tok rfl) ?_
  refine o_call (.a (.v _)) rfl rfl fnok112 rfl rfl rfl (fun hg E w1 hm => by exact tSlot_c V a n c0 _ _ t.S key _ (hV.trans hm.leV) h1 (by omega)) ?_
  refine o_yield rfl rfl rfl (y_val tok rfl) ?_
  refine o_yield rfl rfl rfl (y_val tok rfl) ?_
  refine o_yield rfl rfl rfl (y_val tok rfl) ?_
  refine o_yield rfl rfl rfl (y_val tok rfl) ?_
  refine o_yield rfl rfl rfl (y_val tok rfl) ?_
  refine o_end [5, 9] rfl ?_
  refine x_then ?_
  refine c_seq ?_
  refine c_seq ?_
  refine c_region ?_
  refine o_yield rfl rfl rfl (y_val tok rfl) ?_
  refine o_call (.a (.v _)) rfl rfl fnok123 rfl rfl rfl (fun hg E w1 hm => by exact cmdBytes_c (ownC key serial c) _) ?_
  refine o_yield rfl rfl rfl (y_val tok rfl) ?_
  refine o_yield rfl rfl rfl (y_val tok rfl) ?_
  refine o_yield rfl rfl rfl (y_val tok rfl) ?_
  refine o_yield rfl rfl rfl (y_val tok rfl) ?_
  refine o_yield rfl rfl rfl (y_val tok rfl) ?_
  refine o_end [9, 10, 11] rfl ?_
  refine x_then ?_
  refine c_seq ?_
  refine c_region ?_
  refine o_yield rfl rfl rfl (y_val tok rfl) ?_
  refine o_yield rfl rfl rfl (y_val tok rfl) ?_
  refine o_yield rfl rfl rfl (y_val tok rfl) ?_
  refine o_yield rfl rfl rfl (y_val tok rfl) ?_
  refine o_yield rfl rfl rfl (y_val tok rfl) ?_
  refine o_end [10, 34] rfl ?_
  refine x_then ?_
  refine c_cond rfl (fun h => ?_) (fun h => ?_)
  ·
    refine c_seq ?_
    refine c_region ?_
    refine o_yield rfl rfl rfl (y_val tok rfl) ?_
    refine o_yield rfl rfl rfl (y_val tok rfl) ?_
    refine o_yield rfl rfl rfl (y_val tok rfl) ?_
    refine o_end [6, 7] rfl ?_
    refine x_then ?_
    refine c_ret ?_
    refine x_then_ret ?_
    refine b_ret tok rfl ?_
    intro E w' hm _
    refine ⟨?_, hm.below (Vw.le.refl _)⟩
    rw [saysV, if_pos h]; rfl
  ·
    refine c_skip ?_
    refine x_then ?_
    refine c_seq ?_
    refine c_region ?_
    refine o_yield rfl rfl rfl (y_val tok rfl) ?_
    refine o_yield rfl rfl rfl (y_val tok rfl) ?_
    refine o_end [6, 7] rfl ?_
    refine x_then ?_
    refine c_ret ?_
    refine b_ret tok rfl ?_
    intro E w' hm _
    refine ⟨?_, hm.below (Vw.le.refl _)⟩
    rw [saysV, if_neg (by rw [h]; simp)]; rfl

/-- What a key has and waits for. -/
def allL (key : Int) (t : Tb) : List Hold := (t.H ++ t.Q).filter fun h => h.key == key

theorem viewAll_c (V : Vw) (v1 v2 v3 : Value) (t : Tb) (key serial : Int) (w : World) (ht : t.Fit) (hV : V.le (vw w)) (h : TbIs V (.agg #[v1, v2, v3]) t) :
    Calls Try.prog 81 #[.agg #[I key, I serial, v1, v2, v3]] w (HRow (allL key t) w) := by
  obtain ⟨a, n, c, a2, n2, c2, a3, n3, c3, hv, h1, h2, h3⟩ := h
  simp only [Value.agg.injEq, Array.mk.injEq, List.cons.injEq, and_true] at hv
  obtain ⟨rfl, rfl, rfl⟩ := hv
  have hh := ht.h
  have hq := ht.q
  have hal : allL key t = (t.H ++ t.Q).filter fun h => h.key == key := rfl
  have hLl : (t.H ++ t.Q).length ≤ 200000 := by rw [List.length_append]; omega
  refine enter (E := E0) (O := []) (nl := 0) (V := vw w) [.a (.v (.agg #[I key, I serial, .slice a n c, .slice a2 n2 c2, .slice a3 n3 c3]))] Try.func81 rfl rfl (mem0 E0 0 w) rfl rfl ?_
  refine c_seq ?_
  refine c_region ?_
  refine o_new tok rfl rfl rfl rfl ?_
  refine o_yield rfl rfl rfl (y_val tok rfl) ?_
  refine o_end [1] rfl ?_
  refine x_then ?_
  refine c_seq ?_
  refine c_heldR mixed rfl (by repeat (first | exact SubO.nil | refine SubO.cons rfl ?_)) (by first | rfl | simp [okCels, allOk_plain]) ?_
  refine t_take 0 rfl (by kernel_rfl) rfl rfl rfl (y_val tok rfl) rfl ?_
  refine t_take 1 rfl (by kernel_rfl) rfl rfl rfl (y_val tok rfl) rfl ?_
  refine t_take 2 rfl (by kernel_rfl) rfl rfl rfl (y_val tok rfl) rfl ?_
  refine t_take 3 rfl (by kernel_rfl) rfl rfl rfl (y_val tok rfl) rfl ?_
  refine t_take 4 rfl (by kernel_rfl) rfl rfl rfl (y_val tok rfl) rfl ?_
  refine t_take 5 rfl (by kernel_rfl) rfl rfl rfl (y_val tok rfl) rfl ?_
  refine t_take 8 rfl (by kernel_rfl) rfl rfl rfl (y_val tok rfl) rfl ?_
  refine t_take 9 rfl (by kernel_rfl) rfl rfl rfl (y_val tok rfl) rfl ?_
  refine t_take 10 rfl (by kernel_rfl) rfl rfl rfl (y_mkb rfl) rfl ?_
  refine t_go ?_
  refine h_one 6 (by kernel_rfl) ?_
  refine h_to 6 rfl rfl rfl rfl rfl rfl (s_bs tok 1 rfl rfl rfl) (.inr fun _ _ => ⟨(by repeat (first | exact SubO.nil | refine SubO.cons rfl ?_)), rfl, (by first | exact Vw.le.refl _ | assumption)⟩) (fun _ _ => ?_)
  refine h_one 7 (by kernel_rfl) ?_
  refine h_to 7 rfl rfl rfl rfl rfl rfl (s_callRow 43 4 (t.H ++ t.Q).length ((t.H ++ t.Q).flatMap Hold.cells) rfl fnok62 (fun E w1 hm => by have h := concat_c (vw w1) (E.κ 1) [⟨.slice a2 n2 c2, t.H⟩, ⟨.slice a3 n3 c3, t.Q⟩] w1 (Vw.le.refl _) (hm.rowOf (enc := Sl.enc) 1 rfl (fun _ => rfl)) (by intro s hs; simp only [List.mem_cons, List.not_mem_nil, or_false] at hs; rcases hs with rfl | rfl <;> first | exact h2.mono (hV.trans hm.leV) | exact h3.mono (hV.trans hm.leV)) (by simp) (by rw [catL_two]; dsimp only; omega); rw [catL_two] at h; exact h)) (.inr fun _ _ => ⟨(by repeat (first | exact SubO.nil | refine SubO.cons rfl ?_)), rfl, (by first | exact Vw.le.refl _ | assumption)⟩) (fun _ _ => ?_)
  refine h_one 11 (by kernel_rfl) ?_
  obtain ⟨L, hL⟩ : ∃ L, L = t.H ++ t.Q := ⟨_, rfl⟩
  rw [← hL] at hLl hal ⊢
  refine h_to 11 rfl rfl rfl rfl rfl rfl (s_callRow 43 4 (allL key t).length ((allL key t).flatMap Hold.cells) rfl fnok72 (fun E w1 hm => by rw [hal]; exact choose_c (vw w1) _ _ (fun h => h.key == key) L w1 (Vw.le.refl _) (hm.rowOf 2 rfl (fun _ => rfl)) (by omega) (fun x w' hle => ⟨74, #[.agg #[I key, I serial]], #[], rfl, fnok74, ohas_c key serial x w'⟩))) (.inr fun _ _ => ⟨(by repeat (first | exact SubO.nil | refine SubO.cons rfl ?_)), rfl, (by first | exact Vw.le.refl _ | assumption)⟩) (fun _ _ => ?_)
  refine h_one 12 (by kernel_rfl) ?_
  refine h_yield 12 rfl rfl rfl rfl (y_val tok rfl) ?_
  refine h_done [2] (by kernel_rfl) rfl ?_
  refine x_then ?_
  refine c_ret ?_
  refine b_ret tok rfl ?_
  intro E' w' hm _
  exact ⟨_, rfl, hm.rowFresh (Vw.le.refl _) (l := 3) rfl, hm.below (Vw.le.refl _)⟩

theorem allL_len (key : Int) (t : Tb) : (allL key t).length ≤ t.H.length + t.Q.length := by
  rw [← List.length_append]; exact List.length_filter_le _ _

def askV (g : Geo) (t : Tb) (key serial lo hi mode : Int) : ByteArray × Int :=
  if (saysV key serial t ⟨2, 0, 0, 0, 0, lo, hi, mode⟩).2 ≠ 0 ∨ holdB g.blocks ⟨key, lo, hi, mode⟩ = false then (ByteArray.empty, 2)
  else if touches (allL key t) key lo hi = true then (ByteArray.empty, 251) else if 64 ≤ (allL key t).length then (ByteArray.empty, 252) else ((saysV key serial t ⟨2, 0, 0, 0, 0, lo, hi, mode⟩).1, 0)

theorem lkAsk_c (V : Vw) (g : Geo) (tv : Value) (t : Tb) (key serial lo hi mode : Int) (w : World) (ht : t.Fit) (hV : V.le (vw w)) (h : TbIs V tv t) :
    Calls Try.prog 33 #[g.val, tv, I key, I serial, .agg #[I lo, I hi], I8 mode] w fun e w' => e = .returned (.tuple #[S (askV g t key serial lo hi mode).1, I (askV g t key serial lo hi mode).2]) ∧ Below w.heap.size w w' := by
  obtain ⟨a, n, c0, a2, n2, c2, a3, n3, c3, rfl, h1, h2, h3⟩ := id h
  have hh := ht.h
  have hq := ht.q
  have hlim : lim = 4398046511104 := rfl
  have hall := allL_len key t
  have hA : askV g t key serial lo hi mode = if (saysV key serial t ⟨2, 0, 0, 0, 0, lo, hi, mode⟩).2 ≠ 0 ∨ holdB g.blocks ⟨key, lo, hi, mode⟩ = false then (ByteArray.empty, 2)
    else if touches (allL key t) key lo hi = true then (ByteArray.empty, 251) else if 64 ≤ (allL key t).length then (ByteArray.empty, 252) else ((saysV key serial t ⟨2, 0, 0, 0, 0, lo, hi, mode⟩).1, 0) := rfl
  have hsay := fun w1 hw1 => says_c V _ t key serial ⟨2, 0, 0, 0, 0, lo, hi, mode⟩ w1 ht hw1 h
  have hvw := fun w1 hw1 => viewAll_c V _ _ _ t key serial w1 ht hw1 h
  generalize saysV key serial t ⟨2, 0, 0, 0, 0, lo, hi, mode⟩ = sv at hA hsay
  generalize allL key t = L at hA hvw hall
  rw [hA]
  refine enter (E := E0) (O := []) (nl := 0) (V := vw w) [.a (.v g.val), .a (.v (.agg #[.slice a n c0, .slice a2 n2 c2, .slice a3 n3 c3])), .a (.v (I key)), .a (.v (I serial)), .a (.v (.agg #[I lo, I hi])), .a (.v (I8 mode))] Try.func33 rfl rfl (mem0 E0 0 w) rfl rfl ?_
  refine c_seq ?_
  refine c_region ?_
  refine o_new tok rfl rfl rfl rfl ?_
  refine o_new tok rfl rfl rfl rfl ?_
  refine o_new tok rfl rfl rfl rfl ?_
  refine o_yield rfl rfl rfl (y_val tok rfl) ?_
  refine o_yield rfl rfl rfl (y_val tok rfl) ?_
  refine o_end [2, 3, 5, 6, 7, 10] rfl ?_
  refine x_then ?_
  refine c_seq ?_
  refine c_region ?_
  refine o_yield rfl rfl rfl (y_val tok rfl) ?_
  refine o_yield rfl rfl rfl (y_val tok rfl) ?_
  refine o_yield rfl rfl rfl (y_val tok rfl) ?_
  refine o_call (.agg [.v (I key), .v (I serial), .v (.slice a n c0), .v (.slice a2 n2 c2), .v (.slice a3 n3 c3)]) rfl rfl fnok71 rfl rfl rfl (fun hg E w1 hm => by exact see_c _ _ _ _ _ _ _ _ _ _ _ _ rfl rfl rfl key serial _) ?_
  refine o_new tok rfl rfl rfl rfl ?_
  refine o_store tok rfl rfl rfl (by first | exact ⟨trivial, trivial⟩ | (repeat' first | exact trivial | exact rfl | apply And.intro); done | simp [onesP, oneP, lk, Value.oneCell']) ?_
  refine o_end [2, 5, 6, 7, 10, 14] rfl ?_
  refine x_then ?_
  refine c_seq ?_
  refine c_region ?_
  refine o_yield rfl rfl rfl (y_val tok rfl) ?_
  refine o_yield rfl rfl rfl (y_val tok rfl) ?_
  refine o_yield rfl rfl rfl (y_val tok rfl) ?_
  refine o_yield rfl rfl rfl (y_val tok rfl) ?_
  refine o_yield rfl rfl rfl (y_val tok rfl) ?_
  refine o_yield rfl rfl rfl (y_val tok rfl) ?_
  refine o_call (.tup [.v (S sv.1), .v (I sv.2)]) rfl rfl fnok80 rfl rfl rfl (fun hg E w1 hm => by exact hsay _ (hV.trans hm.leV)) ?_
  refine o_yield rfl rfl rfl (y_val tok rfl) ?_
  refine o_yield rfl rfl rfl (y_val tok rfl) ?_
  refine o_yield rfl rfl rfl (y_val tok rfl) ?_
  refine o_yield rfl rfl rfl (y_val tok rfl) ?_
  refine o_yield rfl rfl rfl (y_val tok rfl) ?_
  refine o_end [2, 5, 6, 10, 14, 15, 16] rfl ?_
  refine x_then ?_
  refine c_seq ?_
  refine c_region ?_
  refine o_yield rfl rfl rfl (y_val tok rfl) ?_
  refine o_step rfl rfl rfl rfl rfl (s_callRow 43 4 L.length (L.flatMap Hold.cells) rfl fnok81 (fun E w1 hm => hvw w1 (hV.trans hm.leV))) (fun _ _ => ?_)
  refine o_yield rfl rfl rfl (y_val tok rfl) ?_
  refine o_end [2, 5, 6, 10, 15, 16, 17] rfl ?_
  refine x_then ?_
  refine c_seq ?_
  refine c_block ?_
  refine c_seq ?_
  refine c_region ?_
  refine o_yield rfl rfl rfl (y_val tok rfl) ?_
  refine o_yield rfl rfl rfl (y_val tok rfl) ?_
  refine o_yield rfl rfl rfl (y_val tok rfl) ?_
  refine o_yield rfl rfl rfl (y_val tok rfl) ?_
  refine o_yield rfl rfl rfl (y_val tok rfl) ?_
  refine o_yield rfl rfl rfl (y_val tok rfl) ?_
  refine o_yield rfl rfl rfl (y_val tok rfl) ?_
  refine o_yield rfl rfl rfl (y_val tok rfl) ?_
  refine o_call (.a (.v _)) rfl rfl fnok64 rfl rfl rfl (fun hg E w1 hm => by exact spHold_c g ⟨key, lo, hi, mode⟩ _) ?_
  refine o_yield rfl rfl rfl (y_val tok rfl) ?_
  refine o_yield rfl rfl rfl (y_val tok rfl) ?_
  refine o_yield rfl rfl rfl (y_val tok rfl) ?_
  refine o_end [2, 10, 15, 17, 34] rfl ?_
  refine x_then ?_
  refine c_cond rfl (fun h => ?_) (fun h => ?_)
  ·
    refine c_seq ?_
    refine c_region ?_
    refine o_yield rfl rfl rfl (y_val tok rfl) ?_
    refine o_yield rfl rfl rfl (y_val tok rfl) ?_
    refine o_end [12, 13] rfl ?_
    refine x_then ?_
    refine c_ret ?_
    refine x_block_ret ?_
    refine x_then_ret ?_
    refine b_ret tok rfl ?_
    have hc : sv.2 ≠ 0 ∨ holdB g.blocks ⟨key, lo, hi, mode⟩ = false := by simpa using h
    intro E w' hm _
    refine ⟨?_, hm.below (Vw.le.refl _)⟩
    rw [if_pos hc]; rfl
  ·
    have hc : ¬ (sv.2 ≠ 0 ∨ holdB g.blocks ⟨key, lo, hi, mode⟩ = false) := by
      intro hc
      rcases hc with hc | hc <;> simp [hc] at h
    rw [if_neg hc]
    clear h
    refine c_seq ?_
    refine c_region ?_
    refine o_yield rfl rfl rfl (y_val tok rfl) ?_
    refine o_yield rfl rfl rfl (y_val tok rfl) ?_
    refine o_yield rfl rfl rfl (y_val tok rfl) ?_
    refine o_call (.a (.v _)) rfl rfl fnok65 rfl rfl rfl (fun hg E w1 hm => by exact spTouches_c (vw w1) (E.κ 4) L key lo hi _ (Vw.le.refl _) (hm.rowOf 4 rfl (fun _ => rfl)) (by omega)) ?_
    refine o_yield rfl rfl rfl (y_val tok rfl) ?_
    refine o_end [15, 17, 46] rfl ?_
    refine x_then ?_
    refine c_cond rfl (fun h => ?_) (fun h => ?_)
    ·
      refine c_seq ?_
      refine c_region ?_
      refine o_yield rfl rfl rfl (y_val tok rfl) ?_
      refine o_yield rfl rfl rfl (y_val tok rfl) ?_
      refine o_end [12, 13] rfl ?_
      refine x_then ?_
      refine c_ret ?_
      refine x_block_ret ?_
      refine x_then_ret ?_
      refine b_ret tok rfl ?_
      intro E w' hm _
      refine ⟨?_, hm.below (Vw.le.refl _)⟩
      rw [if_pos h]; rfl
    ·
      rw [if_neg (by rw [h]; simp)]
      clear h
      refine c_seq ?_
      refine c_region ?_
      refine o_yield rfl rfl rfl (y_val tok rfl) ?_
      refine o_yield rfl rfl rfl (y_own (s := .a (.v (I L.length))) 4 rfl rfl (fun v V' hv => y_len tok rfl (fun hg => hv))) ?_
      refine o_yield rfl rfl rfl (y_val tok rfl) ?_
      refine o_yield rfl rfl rfl (y_val tok rfl) ?_
      refine o_end [15, 51] rfl ?_
      refine x_then ?_
      refine c_cond rfl (fun h => ?_) (fun h => ?_)
      ·
        refine c_seq ?_
        refine c_region ?_
        refine o_yield rfl rfl rfl (y_val tok rfl) ?_
        refine o_yield rfl rfl rfl (y_val tok rfl) ?_
        refine o_end [12, 13] rfl ?_
        refine x_then ?_
        refine c_ret ?_
        refine x_block_ret ?_
        refine x_then_ret ?_
        refine b_ret tok rfl ?_
        have hc : 64 ≤ L.length := by simp at h; omega
        intro E w' hm _
        refine ⟨?_, hm.below (Vw.le.refl _)⟩
        rw [if_pos hc]; rfl
      ·
        refine c_skip ?_
        refine x_block ?_
        refine x_then ?_
        refine c_seq ?_
        refine c_region ?_
        refine o_yield rfl rfl rfl (y_val tok rfl) ?_
        refine o_yield rfl rfl rfl (y_val tok rfl) ?_
        refine o_yield rfl rfl rfl (y_val tok rfl) ?_
        refine o_end [12, 13] rfl ?_
        refine x_then ?_
        refine c_ret ?_
        refine b_ret tok rfl ?_
        have hc : ¬ 64 ≤ L.length := by simp at h; omega
        intro E w' hm _
        refine ⟨?_, hm.below (Vw.le.refl _)⟩
        rw [if_neg hc]; rfl

def spanF (lo hi : Int) (h : Hold) : Bool := h.lo == lo && h.hi == hi

def freeV (g : Geo) (t : Tb) (key serial lo hi : Int) : ByteArray × Int :=
  if (saysV key serial t ⟨3, 0, 0, 0, 0, lo, hi, 0⟩).2 ≠ 0 ∨ may g.blocks lo hi = false then (ByteArray.empty, 2)
  else if (allL key t).any (spanF lo hi) = false then (ByteArray.empty, 250) else ((saysV key serial t ⟨3, 0, 0, 0, 0, lo, hi, 0⟩).1, 0)

theorem lkFreeFn_c (x : Hold) (lo hi : Int) (b : Nat) (V : Vw) (hb : V.get b = some (.cells [I lo, I hi].toArray 34 (0, 0))) (w : World) (hV : V.le (vw w)) :
    Calls Try.prog 91 #[x.val, .pointer (some ⟨b, 0, none⟩)] w fun e w' => e = .returned (.bool (spanF lo hi x)) ∧ Below w.heap.size w w' := by
  refine enter (E := E0) (O := []) (nl := 0) (V := vw w) [.a (.v x.val), .a (.v (.pointer (some ⟨b, 0, none⟩)))] Try.func91 rfl rfl (mem0 E0 0 w) rfl rfl ?_
  refine c_seq ?_
  refine c_region ?_
  refine o_new tok rfl rfl rfl rfl ?_
  refine o_yield rfl rfl rfl (y_val tok rfl) ?_
  refine o_end [1, 2] rfl ?_
  refine x_then ?_
  refine c_seq ?_
  refine c_region ?_
  refine o_yield rfl rfl rfl (y_val tok rfl) ?_
  refine o_yield rfl rfl rfl (y_val tok rfl) ?_
  refine o_yield rfl rfl rfl (y_ldp (cs := [I lo, I hi]) tok rfl (fun hg => hV.get _ _ hb) rfl) ?_
  refine o_yield rfl rfl rfl (y_seq (.bool (x.lo == lo && x.hi == hi)) rfl (fun E w => spanEq x.lo x.hi lo hi w (.inl rfl))) ?_
  refine o_yield rfl rfl rfl (y_val tok rfl) ?_
  refine o_end [3] rfl ?_
  refine x_then ?_
  refine c_ret ?_
  refine b_ret tok rfl ?_
  intro E w' hm _
  refine ⟨?_, hm.below (Vw.le.refl _)⟩
  rfl

theorem lkFree_c (V : Vw) (g : Geo) (tv : Value) (t : Tb) (key serial lo hi : Int) (w : World) (ht : t.Fit) (hV : V.le (vw w)) (h : TbIs V tv t) :
    Calls Try.prog 37 #[g.val, tv, I key, I serial, .agg #[I lo, I hi]] w fun e w' => e = .returned (.tuple #[S (freeV g t key serial lo hi).1, I (freeV g t key serial lo hi).2]) ∧ Below w.heap.size w w' := by
  obtain ⟨a, n, c0, a2, n2, c2, a3, n3, c3, rfl, h1, h2, h3⟩ := id h
  have hh := ht.h
  have hq := ht.q
  have hlim : lim = 4398046511104 := rfl
  have hall := allL_len key t
  have hA : freeV g t key serial lo hi = if (saysV key serial t ⟨3, 0, 0, 0, 0, lo, hi, 0⟩).2 ≠ 0 ∨ may g.blocks lo hi = false then (ByteArray.empty, 2)
    else if (allL key t).any (spanF lo hi) = false then (ByteArray.empty, 250) else ((saysV key serial t ⟨3, 0, 0, 0, 0, lo, hi, 0⟩).1, 0) := rfl
  have hsay := fun w1 hw1 => says_c V _ t key serial ⟨3, 0, 0, 0, 0, lo, hi, 0⟩ w1 ht hw1 h
  have hvw := fun w1 hw1 => viewAll_c V _ _ _ t key serial w1 ht hw1 h
  generalize saysV key serial t ⟨3, 0, 0, 0, 0, lo, hi, 0⟩ = sv at hA hsay
  generalize allL key t = L at hA hvw hall
  rw [hA]
  refine enter (E := E0) (O := []) (nl := 0) (V := vw w) [.a (.v g.val), .a (.v (.agg #[.slice a n c0, .slice a2 n2 c2, .slice a3 n3 c3])), .a (.v (I key)), .a (.v (I serial)), .a (.v (.agg #[I lo, I hi]))] Try.func37 rfl rfl (mem0 E0 0 w) rfl rfl ?_
  refine c_seq ?_
  refine c_region ?_
  refine o_new tok rfl rfl rfl rfl ?_
  refine o_new tok rfl rfl rfl rfl ?_
  refine o_new tok rfl rfl rfl rfl ?_
  refine o_yield rfl rfl rfl (y_val tok rfl) ?_
  refine o_yield rfl rfl rfl (y_val tok rfl) ?_
  refine o_end [2, 3, 5, 6, 9] rfl ?_
  refine x_then ?_
  refine c_seq ?_
  refine c_region ?_
  refine o_yield rfl rfl rfl (y_val tok rfl) ?_
  refine o_yield rfl rfl rfl (y_val tok rfl) ?_
  refine o_yield rfl rfl rfl (y_val tok rfl) ?_
  refine o_call (.agg [.v (I key), .v (I serial), .v (.slice a n c0), .v (.slice a2 n2 c2), .v (.slice a3 n3 c3)]) rfl rfl fnok71 rfl rfl rfl (fun hg E w1 hm => by exact see_c _ _ _ _ _ _ _ _ _ _ _ _ rfl rfl rfl key serial _) ?_
  refine o_new tok rfl rfl rfl rfl ?_
  refine o_store tok rfl rfl rfl (by first | exact ⟨trivial, trivial⟩ | (repeat' first | exact trivial | exact rfl | apply And.intro); done | simp [onesP, oneP, lk, Value.oneCell']) ?_
  refine o_end [5, 6, 9, 12] rfl ?_
  refine x_then ?_
  refine c_seq ?_
  refine c_region ?_
  refine o_yield rfl rfl rfl (y_val tok rfl) ?_
  refine o_yield rfl rfl rfl (y_val tok rfl) ?_
  refine o_yield rfl rfl rfl (y_val tok rfl) ?_
  refine o_yield rfl rfl rfl (y_val tok rfl) ?_
  refine o_yield rfl rfl rfl (y_val tok rfl) ?_
  refine o_call (.tup [.v (S sv.1), .v (I sv.2)]) rfl rfl fnok80 rfl rfl rfl (fun hg E w1 hm => by exact hsay _ (hV.trans hm.leV)) ?_
  refine o_yield rfl rfl rfl (y_val tok rfl) ?_
  refine o_yield rfl rfl rfl (y_val tok rfl) ?_
  refine o_yield rfl rfl rfl (y_val tok rfl) ?_
  refine o_yield rfl rfl rfl (y_val tok rfl) ?_
  refine o_yield rfl rfl rfl (y_val tok rfl) ?_
  refine o_end [5, 9, 12, 13, 14] rfl ?_
  refine x_then ?_
  refine c_seq ?_
  refine c_block ?_
  refine c_seq ?_
  refine c_region ?_
  refine o_yield rfl rfl rfl (y_val tok rfl) ?_
  refine o_yield rfl rfl rfl (y_val tok rfl) ?_
  refine o_yield rfl rfl rfl (y_val tok rfl) ?_
  refine o_yield rfl rfl rfl (y_val tok rfl) ?_
  refine o_yield rfl rfl rfl (y_val tok rfl) ?_
  refine o_call (.a (.v _)) rfl rfl fnok89 rfl rfl rfl (fun hg E w1 hm => by exact spMay_c g lo hi _) ?_
  refine o_yield rfl rfl rfl (y_val tok rfl) ?_
  refine o_yield rfl rfl rfl (y_val tok rfl) ?_
  refine o_yield rfl rfl rfl (y_val tok rfl) ?_
  refine o_end [9, 12, 13, 28] rfl ?_
  refine x_then ?_
  refine c_cond rfl (fun h => ?_) (fun h => ?_)
  ·
    refine c_seq ?_
    refine c_region ?_
    refine o_yield rfl rfl rfl (y_val tok rfl) ?_
    refine o_yield rfl rfl rfl (y_val tok rfl) ?_
    refine o_end [10, 11] rfl ?_
    refine x_then ?_
    refine c_ret ?_
    refine x_block_ret ?_
    refine x_then_ret ?_
    refine b_ret tok rfl ?_
    have hc : sv.2 ≠ 0 ∨ may g.blocks lo hi = false := by simpa using h
    intro E w' hm _
    refine ⟨?_, hm.below (Vw.le.refl _)⟩
    rw [if_pos hc]; rfl
  ·
    have hc : ¬ (sv.2 ≠ 0 ∨ may g.blocks lo hi = false) := by
      intro hc
      rcases hc with hc | hc <;> simp [hc] at h
    rw [if_neg hc]
    clear h
    refine c_seq ?_
    refine c_region ?_
    refine o_yield rfl rfl rfl (y_val tok rfl) ?_
    refine o_step rfl rfl rfl rfl rfl (s_callRow 43 4 L.length (L.flatMap Hold.cells) rfl fnok81 (fun E w1 hm => hvw w1 (hV.trans hm.leV))) (fun _ _ => ?_)
    refine o_yield rfl rfl rfl (y_val tok rfl) ?_
    refine o_call (.a (.v _)) rfl rfl fnok90 rfl rfl rfl (fun hg E w1 hm => by exact spContainsFunc_c (vw w1) _ (E.κ 4) (spanF lo hi) L _ (Vw.le.refl _) (hm.rowOf 4 rfl (fun _ => rfl)) (by omega) (fun x w' hle => ⟨91, _, rfl, fnok91, lkFreeFn_c x lo hi _ (vw w1) (hm.lit 2 _ _ rfl) w' hle⟩)) ?_
    refine o_yield rfl rfl rfl (y_val tok rfl) ?_
    refine o_yield rfl rfl rfl (y_val tok rfl) ?_
    refine o_end [13, 37] rfl ?_
    refine x_then ?_
    refine c_cond rfl (fun h => ?_) (fun h => ?_)
    ·
      refine c_seq ?_
      refine c_region ?_
      refine o_yield rfl rfl rfl (y_val tok rfl) ?_
      refine o_yield rfl rfl rfl (y_val tok rfl) ?_
      refine o_end [10, 11] rfl ?_
      refine x_then ?_
      refine c_ret ?_
      refine x_block_ret ?_
      refine x_then_ret ?_
      refine b_ret tok rfl ?_
      intro E w' hm _
      refine ⟨?_, hm.below (Vw.le.refl _)⟩
      rw [if_pos (by simpa using h)]; rfl
    ·
      refine c_skip ?_
      refine x_block ?_
      refine x_then ?_
      refine c_seq ?_
      refine c_region ?_
      refine o_yield rfl rfl rfl (y_val tok rfl) ?_
      refine o_yield rfl rfl rfl (y_val tok rfl) ?_
      refine o_yield rfl rfl rfl (y_val tok rfl) ?_
      refine o_end [10, 11] rfl ?_
      refine x_then ?_
      refine c_ret ?_
      refine b_ret tok rfl ?_
      intro E w' hm _
      refine ⟨?_, hm.below (Vw.le.refl _)⟩
      rw [if_neg (by simpa using h)]; rfl

end Go.Proofs.Ytiapfhcimekdkaa

/- THE LAW LockTells: what a key has, waits for, what is wanted of it, what was told it. -/
set_option linter.unusedVariables false
set_option linter.unusedSimpArgs false
set_option maxRecDepth 100000
namespace Go.Proofs.Ytiapfhcimekdkaa
open Go Go.Eng Go.RowKit

def greatT (t : Tb) : Bool := (decide (40 < (t.S.length : Int)) || decide (100 < (t.H.length : Int))) || decide (100 < (t.Q.length : Int))

/-- A table that came in. -/
def Table.tb (a : Table) : Tb := ⟨a.slots.l, a.holds.l, a.queue.l⟩

theorem Table.Ok.is {V : Vw} {a : Table} (h : Table.Ok V a) : TbIs V a.val a.tb := by
  obtain ⟨x1, x2, x3, e1⟩ := sl_shape h.slots.sl.sl
  obtain ⟨y1, y2, y3, e2⟩ := sl_shape h.holds.sl.sl
  obtain ⟨z1, z2, z3, e3⟩ := sl_shape h.queue.sl.sl
  refine ⟨x1, x2, x3, y1, y2, y3, z1, z2, z3, ?_, ?_, ?_, ?_⟩
  · rw [Table.val, e1, e2, e3]
  · rw [← e1]; exact h.slots.sl
  · rw [← e2]; exact h.holds.sl
  · rw [← e3]; exact h.queue.sl

abbrev gW5 : Geo := ⟨0, 2, 4, 0, 0, 0, 0, 0⟩
abbrev tW5 : Tb := ⟨[⟨17, 0⟩, ⟨18, 0⟩], [⟨17, 0, 3, 2⟩], [⟨18, 2, 2, 1⟩]⟩
abbrev sp03 : Span := ⟨0, 3⟩
theorem wantW5 : wantL 17 tW5 = [⟨0, 3⟩] := rfl
theorem askW5 : askV gW5 tW5 17 1 3 3 2 = (ByteArray.empty, 251) := by
  unfold askV
  rw [if_neg, if_pos]
  · decide
  · have h1 : (saysV 17 1 tW5 ⟨2, 0, 0, 0, 0, 3, 3, 2⟩).2 = 0 := by
      rw [saysV, if_pos (by decide)]
    rw [h1]; decide
theorem freeW5 : freeV gW5 tW5 17 1 0 2 = (ByteArray.empty, 250) := by
  unfold freeV
  rw [if_neg, if_pos]
  · decide
  · have h1 : (saysV 17 1 tW5 ⟨3, 0, 0, 0, 0, 0, 2, 0⟩).2 = 0 := by
      rw [saysV, if_pos (by decide)]
    rw [h1]; decide

theorem wakes25_c (w : World) : Calls Try.prog 21 #[] w fun e w' => e = .returned (.bool true) ∧ Below w.heap.size w w' := by
  refine enter (E := E0) (O := []) (nl := 0) (V := vw w) [] Try.func21 rfl rfl (mem0 E0 0 w) rfl rfl ?_
  refine c_seq ?_
  refine c_region ?_
  refine o_yield rfl rfl rfl (y_val tok rfl) ?_
  refine o_end [] rfl ?_
  refine x_then ?_
  refine c_seq ?_
  refine c_region ?_
  refine o_yield rfl rfl rfl (y_val tok rfl) ?_
  refine o_new tok rfl rfl rfl rfl ?_
  refine o_store tok rfl rfl rfl (by first | exact ⟨trivial, trivial⟩ | (repeat' first | exact trivial | exact rfl | apply And.intro); done | simp [onesP, oneP, lk, Value.oneCell']) ?_
  refine o_end [1] rfl ?_
  refine x_then ?_
  refine c_seq ?_
  refine c_region ?_
  refine o_yield rfl rfl rfl (y_val tok rfl) ?_
  refine o_yield rfl rfl rfl (y_val tok rfl) ?_
  refine o_bs tok rfl rfl rfl rfl (fun b1 W1 hlw1 hb1 => ?_)
  refine o_yield rfl rfl rfl (y_val tok rfl) ?_
  refine o_yield rfl rfl rfl (y_val tok rfl) ?_
  refine o_bs tok rfl rfl rfl rfl (fun b2 W2 hlw2 hb2 => ?_)
  refine o_yield rfl rfl rfl (y_val tok rfl) ?_
  refine o_yield rfl rfl rfl (y_val tok rfl) ?_
  refine o_bs tok rfl rfl rfl rfl (fun b3 W3 hlw3 hb3 => ?_)
  refine o_yield rfl rfl rfl (y_val tok rfl) ?_
  refine o_new tok rfl rfl rfl rfl ?_
  refine o_store tok rfl rfl rfl (by first | exact ⟨trivial, trivial⟩ | (repeat' first | exact trivial | exact rfl | apply And.intro); done | simp [onesP, oneP, lk, Value.oneCell']) ?_
  refine o_end [1, 2] rfl ?_
  refine x_then ?_
  refine c_seq ?_
  refine c_region ?_
  refine o_yield rfl rfl rfl (y_val tok rfl) ?_
  have hS : SlOf W1 Slot.cells 2 (.slice (some ⟨b1, 0, none⟩) 2 2) tW5.S := SlOf.ofBlock (enc := Slot.cells) (sz := 2) (l := tW5.S) (hb1 rfl) rfl (fun _ => rfl) (Nat.le_refl _)
  have hH : SlOf W2 Hold.cells 4 (.slice (some ⟨b2, 0, none⟩) 1 1) tW5.H := SlOf.ofBlock (enc := Hold.cells) (sz := 4) (l := tW5.H) (hb2 rfl) rfl (fun _ => rfl) (Nat.le_refl _)
  have hQ : SlOf W3 Hold.cells 4 (.slice (some ⟨b3, 0, none⟩) 1 1) tW5.Q := SlOf.ofBlock (enc := Hold.cells) (sz := 4) (l := tW5.Q) (hb3 rfl) rfl (fun _ => rfl) (Nat.le_refl _)
  have hT : TbIs W3 (.agg #[.slice (some ⟨b1, 0, none⟩) 2 2, .slice (some ⟨b2, 0, none⟩) 1 1, .slice (some ⟨b3, 0, none⟩) 1 1]) tW5 := ⟨_, _, _, _, _, _, _, _, _, rfl, hS.mono (hlw2.trans hlw3), hH.mono hlw3, hQ⟩
  have hF : tW5.Fit := ⟨by decide, by decide, by decide⟩
  clear hS hH hQ hb1 hb2 hb3
  refine o_callV (fun v V' => SlOf V' Span.cells 2 v (wantL 17 tW5)) rfl rfl fnok30 rfl rfl (fun hg E w1 hm => by exact (lkWanted_c W3 _ tW5 17 _ hF hm.leV hT).mono fun e w' h => h.out hm.leV) ?_
  rintro v4 W4 hlw4 hv4
  have hw4 := hv4 rfl
  rw [wantW5] at hw4
  obtain ⟨a4, n4, c4, rfl⟩ := sl_shape hw4.sl
  clear hv4
  have hT4 := hT.mono hlw4
  refine o_yield rfl rfl rfl (y_val tok rfl) ?_
  refine o_end [1, 2, 3] rfl ?_
  refine x_then ?_
  refine c_seq ?_
  refine c_region ?_
  refine o_yield rfl rfl rfl (y_val tok rfl) ?_
  refine o_yield rfl rfl rfl (y_val tok rfl) ?_
  refine o_yield rfl rfl rfl (y_val tok rfl) ?_
  refine o_call (.tup [.v (S ByteArray.empty), .v (I 251)]) rfl rfl fnok33 rfl rfl rfl (fun hg E w1 hm => by exact (by have h := lkAsk_c W4 gW5 _ tW5 17 1 3 3 2 w1 hF hm.leV hT4; rw [askW5] at h; exact h)) ?_
  refine o_yield rfl rfl rfl (y_val tok rfl) ?_
  refine o_yield rfl rfl rfl (y_val tok rfl) ?_
  refine o_yield rfl rfl rfl (y_val tok rfl) ?_
  refine o_yield rfl rfl rfl (y_val tok rfl) ?_
  refine o_yield rfl rfl rfl (y_val tok rfl) ?_
  refine o_end [1, 2, 3, 5] rfl ?_
  refine x_then ?_
  refine c_seq ?_
  refine c_region ?_
  refine o_yield rfl rfl rfl (y_val tok rfl) ?_
  refine o_yield rfl rfl rfl (y_val tok rfl) ?_
  refine o_yield rfl rfl rfl (y_val tok rfl) ?_
  refine o_call (.tup [.v (S ByteArray.empty), .v (I 250)]) rfl rfl fnok37 rfl rfl rfl (fun hg E w1 hm => by exact (by have h := lkFree_c W4 gW5 _ tW5 17 1 0 2 w1 hF hm.leV hT4; rw [freeW5] at h; exact h)) ?_
  refine o_yield rfl rfl rfl (y_val tok rfl) ?_
  refine o_yield rfl rfl rfl (y_val tok rfl) ?_
  refine o_yield rfl rfl rfl (y_val tok rfl) ?_
  refine o_yield rfl rfl rfl (y_val tok rfl) ?_
  refine o_yield rfl rfl rfl (y_val tok rfl) ?_
  refine o_end [2, 3, 5, 7] rfl ?_
  refine x_then ?_
  refine c_seq ?_
  refine c_region ?_
  refine o_yield rfl rfl rfl (y_val tok rfl) ?_
  have hx03 : ([sp03] : List Span)[0]? = some sp03 := rfl
  refine o_yield rfl rfl rfl (y_len tok rfl (fun hg => hw4.sl)) ?_
  refine o_yield rfl rfl rfl (y_val tok rfl) ?_
  refine o_yield rfl rfl rfl (y_val tok rfl) ?_
  refine o_yield rfl rfl rfl (y_val tok rfl) ?_
  have hlt_sp03 := lt_of_at hx03
  refine o_yield rfl rfl rfl (y_idx tok rfl (fun hg => hw4.sl) (fun hg => ⟨by decide, by decide⟩)) ?_
  refine o_yield rfl rfl rfl (y_fel tok rfl (fun hg => hw4.sl) (fun hg => by omega)) ?_
  refine o_yield rfl rfl rfl (y_lel tok (0) 1 (sp03) rfl (fun hg => hw4) (fun hg => hx03) rfl rfl) ?_
  refine o_yield rfl rfl rfl (y_val tok rfl) ?_
  refine o_yield rfl rfl rfl (y_val tok rfl) ?_
  refine o_yield rfl rfl rfl (y_val tok rfl) ?_
  refine o_yield rfl rfl rfl (y_val tok rfl) ?_
  refine o_callV (fun v V' => SlOf V' Hold.cells 4 v [⟨17, 0, 3, 2⟩]) rfl rfl fnok25 rfl rfl (fun hg E w1 hm => by exact (lkHas_c W4 _ (.slice none 0 0) tW5 17 false [] _ hF hm.leV hT4 (slNil _ _ _ _ (fun _ => rfl)) (by simp)).mono fun e w' h => HRow.out (l := [⟨17, 0, 3, 2⟩]) h hm.leV) ?_
  rintro v5 W5 hlw5 hv5
  refine o_yield rfl rfl rfl (y_len tok rfl (fun hg => (hv5 rfl).sl)) ?_
  refine o_yield rfl rfl rfl (y_val tok rfl) ?_
  refine o_yield rfl rfl rfl (y_val tok rfl) ?_
  refine o_yield rfl rfl rfl (y_val tok rfl) ?_
  refine o_yield rfl rfl rfl (y_val tok rfl) ?_
  refine o_yield rfl rfl rfl (y_val tok rfl) ?_
  refine o_callV (fun v V' => SlOf V' Hold.cells 4 v []) rfl rfl fnok25 rfl rfl (fun hg E w1 hm => by exact (lkHas_c W5 _ _ tW5 17 false [sp03] _ hF hm.leV (hT4.mono hlw5) (hw4.mono hlw5) (by decide)).mono fun e w' h => HRow.out (l := []) h hm.leV) ?_
  rintro v6 W6 hlw6 hv6
  refine o_yield rfl rfl rfl (y_len tok rfl (fun hg => (hv6 rfl).sl)) ?_
  refine o_yield rfl rfl rfl (y_val tok rfl) ?_
  refine o_yield rfl rfl rfl (y_val tok rfl) ?_
  refine o_yield rfl rfl rfl (y_val tok rfl) ?_
  refine o_yield rfl rfl rfl (y_val tok rfl) ?_
  refine o_callV (fun v V' => SlOf V' Hold.cells 4 v [⟨18, 2, 2, 1⟩]) rfl rfl fnok27 rfl rfl (fun hg E w1 hm => by exact (lkWaits_c W6 _ tW5 18 _ hF hm.leV (hT4.mono (hlw5.trans hlw6))).mono fun e w' h => HRow.out (l := [⟨18, 2, 2, 1⟩]) h hm.leV) ?_
  rintro v7 W7 hlw7 hv7
  refine o_yield rfl rfl rfl (y_len tok rfl (fun hg => (hv7 rfl).sl)) ?_
  refine o_yield rfl rfl rfl (y_val tok rfl) ?_
  refine o_yield rfl rfl rfl (y_val tok rfl) ?_
  refine o_yield rfl rfl rfl (y_val tok rfl) ?_
  refine o_yield rfl rfl rfl (y_val tok rfl) ?_
  refine o_yield rfl rfl rfl (y_val tok rfl) ?_
  refine o_yield rfl rfl rfl (y_val tok rfl) ?_
  refine o_yield rfl rfl rfl (y_val tok rfl) ?_
  refine o_yield rfl rfl rfl (y_val tok rfl) ?_
  refine o_yield rfl rfl rfl (y_val tok rfl) ?_
  refine o_yield rfl rfl rfl (y_val tok rfl) ?_
  refine o_yield rfl rfl rfl (y_val tok rfl) ?_
  refine o_end [0] rfl ?_
  refine x_then ?_
  refine c_ret ?_
  refine b_ret tok rfl ?_
  intro E w' hm _
  refine ⟨?_, hm.below (by repeat (first | exact Vw.le.refl _ | assumption | (refine Vw.le.trans ?_ (by assumption))))⟩
  rfl

end Go.Proofs.Ytiapfhcimekdkaa

/- What commands say and what comes of them: plain. -/
set_option linter.unusedVariables false
set_option linter.unusedSimpArgs false
set_option maxRecDepth 100000
namespace Go.Proofs.Ytiapfhcimekdkaa
open Go Go.Eng Go.RowKit

theorem grant_sum (t : Tb) : t.grant.H.length + t.grant.Q.length = t.H.length + t.Q.length := by
  have := grant_len' t.Q t.H []
  simp only [List.length_nil, Nat.add_zero] at this
  exact this

theorem clear_sum (t : Tb) (k : Nat) : (t.clear k).H.length + (t.clear k).Q.length ≤ t.H.length + t.Q.length := by
  rw [Tb.clear, grant_sum]
  have h1 := List.length_filter_le (fun h : Hold => !(h.key == slotKey t.S k)) t.H
  have h2 := List.length_filter_le (fun h : Hold => !(h.key == slotKey t.S k)) t.Q
  dsimp only
  omega

/-- A command brings one hold at most. -/
theorem apply_sum (blocks : Int) (t : Tb) (c : Cmd) : (t.apply blocks c).H.length + (t.apply blocks c).Q.length ≤ t.H.length + t.Q.length + 1 := by
  unfold Tb.apply
  split
  · unfold Tb.mount
    split
    · omega
    · split <;> first | omega | (dsimp only; omega)
  · split
    · unfold Tb.leave
      split
      · have := clear_sum t (by assumption); omega
      · omega
    · split
      · unfold Tb.ask
        split
        · rw [grant_sum]; dsimp only; rw [List.length_append]; dsimp only [List.length]; omega
        · omega
      · split
        · unfold Tb.free
          split
          · rw [grant_sum]; dsimp only; have := (erase_sub t.H (by assumption)).length_le; omega
          · split
            · rw [grant_sum]; dsimp only; have := (erase_sub t.Q (by assumption)).length_le; omega
            · omega
        · split
          · unfold Tb.claim
            split
            · split <;> first | omega | (dsimp only; omega)
            · omega
          · split
            · unfold Tb.purge
              split
              · split
                · have := clear_sum t (by assumption); omega
                · omega
              · omega
            · omega

theorem TbOk.fitS {n blocks : Int} {t : Tb} (h : TbOk n blocks t) (hn : n ≤ 16) (hs : t.H.length + t.Q.length ≤ 1000) : t.Fit ∧ t.Q.length + 1 ≤ 100000 := by
  have := h.n
  exact ⟨⟨by omega, by omega, by omega⟩, by omega⟩

theorem cmdB_key {c : Cmd} (h : cmdB c = true) : 16 ≤ c.by_ := by
  simp only [cmdB, Bool.and_eq_true] at h
  have := h.1.1.1
  simp only [keyB, Bool.and_eq_true, decide_eq_true_eq] at this
  exact this.1

theorem new_ok {g : Geo} (h1 : 1 ≤ g.slots) (h2 : g.slots ≤ 16) : TbOk g.slots g.blocks (newT g.slots) := by
  have := TbOk.new (newN g.slots) g.blocks
  rwa [show ((newN g.slots : Nat) : Int) = g.slots by rw [newN]; omega] at this

def askC (key serial lo hi mode : Int) : Cmd := ⟨2, key, serial, 0, 0, lo, hi, mode⟩
def freeC (key serial lo hi : Int) : Cmd := ⟨3, key, serial, 0, 0, lo, hi, 0⟩
def leaveC (key serial : Int) : Cmd := ⟨1, key, serial, 0, 0, 0, 0, 0⟩

end Go.Proofs.Ytiapfhcimekdkaa

/- law25.table: the table that a log makes. -/
set_option linter.unusedVariables false
set_option linter.unusedSimpArgs false
set_option maxRecDepth 100000
namespace Go.Proofs.Ytiapfhcimekdkaa
open Go Go.Eng Go.RowKit

/-- A callee's answer, told over a smaller view. -/
theorem small_view {V V0 : Vw} {Φ : Value → Vw → Prop} {n : Nat} {w1 w' : World} {e : Ending} (hn : n ≤ w1.heap.size) (hV : V.le V0) (h0 : V0.le (vw w1))
    (h : ∃ v V2, e = .returned v ∧ Below w1.heap.size w1 w' ∧ Vext w1.heap.size V V2 w' ∧ Φ v V2) :
    ∃ v V', e = .returned v ∧ Below w1.heap.size w1 w' ∧ Vext w1.heap.size V0 V' w' ∧ ∃ V2 : Vw, V2.le V' ∧ V.le V2 ∧ (∀ k o, V2.get k = some o → V.get k = some o ∨ n ≤ k) ∧ Φ v V2 := by
  obtain ⟨v, V2, e1, hb, hx, hp⟩ := h
  refine ⟨v, V0.grown w1 w', e1, hb, Vext.grown h0 hb, V2, ⟨?_, ?_, ?_, ?_⟩, hx.le, fun k o hk => (hx.get k o hk).2.imp id (Nat.le_trans hn), hp⟩
  · intro k o hk
    obtain ⟨h1, h2⟩ := hx.get k o hk
    simp only [Vw.grown]
    rcases h2 with h2 | h2
    · rw [if_pos (h0.lt (hV.get _ _ h2))]
      exact hV.get _ _ h2
    · rw [if_neg (by omega)]
      exact h1
  · exact hV.os.trans hx.le.os.symm
  · exact hV.tape.trans hx.le.tape.symm
  · exact hV.output.trans hx.le.output.symm

abbrev TabP (g : Geo) (V' : Vw) (v : Value) : Prop := v = .tuple #[.agg #[.slice none 0 0, .slice none 0 0, .slice none 0 0], .bool false] ∨
  ∃ tv t, v = .tuple #[tv, .bool true] ∧ TbIs V' tv t ∧ TbOk g.slots g.blocks t ∧ g.slots ≤ 16 ∧ t.H.length + t.Q.length ≤ 60

theorem table25_c (V : Vw) (g : Geo) (lv : Value) (l : List Cmd) (w : World) (hV : V.le (vw w)) (hs0 : SlOf V Cmd.cells 8 lv l) :
    Calls Try.prog 32 #[g.val, lv] w fun e w' => ∃ v V', e = .returned v ∧ Below w.heap.size w w' ∧ Vext w.heap.size V V' w' ∧ TabP g V' v := by
  obtain ⟨a0, n0, c0, rfl⟩ := sl_shape hs0.sl
  have hs := hs0.mono hV
  refine enter (E := E0) (O := []) (nl := 0) (V := vw w) [.a (.v g.val), .a (.v (.slice a0 n0 c0))] Try.func32 rfl rfl (mem0 E0 0 w) rfl rfl ?_
  refine c_seq ?_
  refine c_region ?_
  refine o_new tok rfl rfl rfl rfl ?_
  refine o_new tok rfl rfl rfl rfl ?_
  refine o_yield rfl rfl rfl (y_val tok rfl) ?_
  refine o_end [1, 2, 4] rfl ?_
  refine x_then ?_
  refine c_seq ?_
  refine c_seq ?_
  refine c_region ?_
  refine o_yield rfl rfl rfl (y_val tok rfl) ?_
  refine o_yield rfl rfl rfl (y_len tok rfl (fun hg => hs.sl)) ?_
  refine o_yield rfl rfl rfl (y_val tok rfl) ?_
  refine o_yield rfl rfl rfl (y_val tok rfl) ?_
  refine o_yield rfl rfl rfl (y_val tok rfl) ?_
  refine o_yield rfl rfl rfl (y_val tok rfl) ?_
  refine o_yield rfl rfl rfl (y_val tok rfl) ?_
  refine o_yield rfl rfl rfl (y_val tok rfl) ?_
  refine o_yield rfl rfl rfl (y_val tok rfl) ?_
  refine o_yield rfl rfl rfl (y_val tok rfl) ?_
  refine o_yield rfl rfl rfl (y_val tok rfl) ?_
  refine o_yield rfl rfl rfl (y_val tok rfl) ?_
  refine o_yield rfl rfl rfl (y_val tok rfl) ?_
  refine o_yield rfl rfl rfl (y_val tok rfl) ?_
  refine o_yield rfl rfl rfl (y_val tok rfl) ?_
  refine o_yield rfl rfl rfl (y_val tok rfl) ?_
  refine o_yield rfl rfl rfl (y_val tok rfl) ?_
  refine o_yield rfl rfl rfl (y_val tok rfl) ?_
  refine o_yield rfl rfl rfl (y_val tok rfl) ?_
  refine o_yield rfl rfl rfl (y_val tok rfl) ?_
  refine o_yield rfl rfl rfl (y_val tok rfl) ?_
  refine o_yield rfl rfl rfl (y_val tok rfl) ?_
  refine o_yield rfl rfl rfl (y_val tok rfl) ?_
  refine o_end [1, 2, 4, 30] rfl ?_
  refine x_then ?_
  refine c_cond rfl (fun h => ?_) (fun h => ?_)
  ·
    simp only [Bool.and_eq_true, Bool.or_eq_true, Bool.not_eq_true', Bool.or_eq_false_iff, Bool.and_eq_false_iff, decide_eq_true_eq, decide_eq_false_iff_not, beq_iff_eq, bne_iff_ne, Bool.not_eq_false', beq_eq_false_iff_ne, bne_eq_false_iff_eq, ne_eq, Decidable.not_not, Int.not_lt, Int.not_le] at h
    refine c_seq ?_
    refine c_region ?_
    refine o_yield rfl rfl rfl (y_val tok rfl) ?_
    refine o_store tok rfl rfl rfl (by first | exact ⟨trivial, trivial⟩ | (repeat' first | exact trivial | exact rfl | apply And.intro); done | simp [onesP, oneP, lk, Value.oneCell']) ?_
    refine o_yield rfl rfl rfl (y_val tok rfl) ?_
    refine o_end [4, 5] rfl ?_
    refine x_then ?_
    refine c_ret ?_
    refine x_then_ret ?_
    refine b_ret tok rfl ?_
    intro E' w' hm _
    exact ⟨_, _, rfl, hm.below (Vw.le.refl _), Vext.grown hV (hm.below (Vw.le.refl _)), Or.inl rfl⟩
  ·
    simp only [Bool.and_eq_true, Bool.or_eq_true, Bool.not_eq_true', Bool.or_eq_false_iff, Bool.and_eq_false_iff, decide_eq_true_eq, decide_eq_false_iff_not, beq_iff_eq, bne_iff_ne, Bool.not_eq_false', beq_eq_false_iff_ne, bne_eq_false_iff_eq, ne_eq, Decidable.not_not, Int.not_lt, Int.not_le] at h
    obtain ⟨⟨⟨⟨h1, h2⟩, h3⟩, h4⟩, h5⟩ := h
    refine c_skip ?_
    refine x_then ?_
    refine c_seq ?_
    refine c_region ?_
    refine o_yield rfl rfl rfl (y_val tok rfl) ?_
    refine o_callV (fun v V' => ∃ V2 : Vw, V2.le V' ∧ V.le V2 ∧ (∀ k o, V2.get k = some o → V.get k = some o ∨ w.heap.size ≤ k) ∧ TbIs V2 v (newT g.slots)) rfl rfl fnok79 rfl rfl (fun hg E w1 hm => by exact (rnew_c V g _ (hV.trans hm.leV)).mono fun e w' h => small_view (hm.below (Vw.le.refl _)).size hV hm.leV h) ?_
    rintro v1 W0 hle0 hv0
    obtain ⟨W1, hW10, hle1, hget1, hT1⟩ := hv0 rfl
    obtain ⟨d1, m1, e1, d2, m2, e2, d3, m3, e3, rfl, _⟩ := id hT1
    refine o_new tok rfl rfl rfl rfl ?_
    refine o_store tok rfl rfl rfl (by first | exact ⟨trivial, trivial⟩ | (repeat' first | exact trivial | exact rfl | apply And.intro); done | simp [onesP, oneP, lk, Value.oneCell']) ?_
    refine o_end [1, 2, 4, 6] rfl ?_
    refine x_then ?_
    refine c_seq ?_
    refine c_seq ?_
    refine c_region ?_
    refine o_yield rfl rfl rfl (y_val tok rfl) ?_
    refine o_end [1, 2, 4, 6, 7] rfl ?_
    refine x_then ?_
    refine c_block ?_
    refine c_loopV [1, 2, 4, 6] [2] rfl rfl (σ := Nat × Value × Value × Value × Tb × Vw × Vw) (fun (i, s, u, q, t, W, Z) => [(7, .a (.v (I i)))]) (fun (i, s, u, q, t, W, Z) => [(2, .lit [.v s, .v u, .v q] 29)]) (fun (i, s, u, q, t, W, Z) => W) (fun (i, s, u, q, t, W, Z) => (i ≤ l.length ∧ t.H.length + t.Q.length ≤ i) ∧ ((vw w).le W ∧ Z.le W) ∧ V.le Z ∧ TbIs Z (.agg #[s, u, q]) t ∧ TbOk g.slots g.blocks t ∧ ∀ k o, Z.get k = some o → V.get k = some o ∨ w.heap.size ≤ k) (fun (i, s, u, q, t, W, Z) => l.length - i) ((0, _, _, _, newT g.slots, W0, W1)) (⟨⟨by omega, Nat.le_refl _⟩, ⟨hle0, hW10⟩, hle1, hT1, new_ok (by omega) (by omega), hget1⟩) (by repeat (first | exact SubF.nil | refine SubF.cons rfl ?_)) (by repeat (first | exact SubO.nil | refine SubO.cons rfl ?_)) rfl (Vw.le.refl _) ?_
    rintro ⟨i, s, u, q, t, W, Z⟩ ⟨⟨hi, hsum⟩, ⟨hwW, hZW⟩, hle, hT, hok, hgt⟩
    dsimp only at hi hsum hwW hZW hle hT hok hgt ⊢
    have hs' := (hs0.mono hle).mono hZW
    have hfit := hok.fitS (by omega) (by omega)
    refine c_seq ?_
    refine c_seq ?_
    refine c_region ?_
    refine o_yield rfl rfl rfl (y_val tok rfl) ?_
    refine o_yield rfl rfl rfl (y_val tok rfl) ?_
    refine o_yield rfl rfl rfl (y_len tok rfl (fun hg => hs'.sl)) ?_
    refine o_yield rfl rfl rfl (y_val tok rfl) ?_
    refine o_end [1, 2, 4, 6, 7, 37] rfl ?_
    refine x_then ?_
    refine c_cond rfl (fun h => ?_) (fun h => ?_)
    ·
      simp only [Bool.and_eq_true, Bool.or_eq_true, Bool.not_eq_true', Bool.or_eq_false_iff, Bool.and_eq_false_iff, decide_eq_true_eq, decide_eq_false_iff_not, beq_iff_eq, bne_iff_ne, Bool.not_eq_false', beq_eq_false_iff_ne, bne_eq_false_iff_eq, ne_eq, Decidable.not_not, Int.not_lt, Int.not_le] at h
      refine c_skip ?_
      refine x_then ?_
      refine c_seq ?_
      refine c_block ?_
      refine c_seq ?_
      refine c_region ?_
      refine o_yield rfl rfl rfl (y_val tok rfl) ?_
      refine o_yield rfl rfl rfl (y_val tok rfl) ?_
      obtain ⟨c, h_c⟩ := hs'.at (k := i) (by omega)
      have hlt_c := lt_of_at h_c
      refine o_yield rfl rfl rfl (y_idx tok rfl (fun hg => hs'.sl) (fun hg => ⟨by omega, by omega⟩)) ?_
      refine o_yield rfl rfl rfl (y_lel tok (i) 0 (c) rfl (fun hg => hs') (fun hg => h_c) rfl rfl) ?_
      have hwi : IntKind.i64.wrap ((i : Int) + 1) = ((i + 1 : Nat) : Int) := wrapI (by omega) (by omega)
      refine o_call (.a (.v _)) rfl rfl fnok13 rfl rfl rfl (fun hg E w1 hm => by exact refCmdMay_c c _) ?_
      refine o_end [1, 2, 4, 6, 7, 44] rfl ?_
      refine x_then ?_
      refine c_cond rfl (fun h => ?_) (fun h => ?_)
      ·
        have hcm : cmdB c = true := by simpa using h
        clear h
        have hok2 := hok.apply (c := c) (cmdB_key hcm)
        have hsum2 := apply_sum g.blocks t c
        refine c_heldS [7] mixed rfl (by repeat (first | exact SubO.nil | refine SubO.cons rfl ?_)) (by first | rfl | simp [okCels, allOk_plain]) ?_
        refine t_takeD 0 rfl (by kernel_rfl) rfl rfl rfl (y_val tok rfl) rfl ?_
        refine t_takeD 1 rfl (by kernel_rfl) rfl rfl rfl (y_val tok rfl) rfl ?_
        refine t_takeD 2 rfl (by kernel_rfl) rfl rfl rfl (y_val tok rfl) rfl ?_
        refine t_takeD 3 rfl (by kernel_rfl) rfl rfl rfl (y_val tok rfl) rfl ?_
        have hlt_c := lt_of_at h_c
        refine t_takeD 4 rfl (by kernel_rfl) rfl rfl rfl (y_idx tok rfl (fun hg => hs'.sl) (fun hg => ⟨by omega, by omega⟩)) rfl ?_
        refine t_takeD 5 rfl (by kernel_rfl) rfl rfl rfl (y_lel tok (i) 0 (c) rfl (fun hg => hs') (fun hg => h_c) rfl rfl) rfl ?_
        refine t_go ?_
        refine h_one 6 (by kernel_rfl) ?_
        refine h_callV 6 (fun v V' => ∃ V2 : Vw, V2.le V' ∧ Z.le V2 ∧ (∀ k o, V2.get k = some o → Z.get k = some o ∨ w.heap.size ≤ k) ∧ TbIs V2 v (t.apply g.blocks c)) rfl rfl rfl fnok35 rfl rfl (fun hg E w1 hm => by exact (rapply_c Z g _ t c _ hfit.1 hfit.2 (hZW.trans hm.leV) hT).mono fun e w' h => small_view (hm.below hwW).size hZW hm.leV h) ?_
        rintro v2 W2 hle2 hv2
        obtain ⟨Z2, hZ2, hZZ, hgt2, hT2⟩ := hv2 rfl
        obtain ⟨x1, y1, z1, x2, y2, z2, x3, y3, z3, rfl, _⟩ := id hT2
        refine h_one 7 (by kernel_rfl) ?_
        refine h_store 7 tok rfl rfl rfl rfl (by first | exact ⟨trivial, trivial⟩ | (repeat' first | exact trivial | exact rfl | apply And.intro); done | simp [onesP, oneP, lk, Value.oneCell']) (.inl rfl) ?_
        refine h_done [1, 2, 4, 6, 7] (by kernel_rfl) rfl ?_
        refine x_block ?_
        refine x_then ?_
        refine c_region ?_
        refine o_yield rfl rfl rfl (y_val tok rfl) ?_
        refine o_yield rfl rfl rfl (y_val tok rfl) ?_
        refine o_yield rfl rfl rfl (y_val tok rfl) ?_
        refine o_end [1, 2, 4, 6, 7] rfl ?_
        refine x_then ?_
        rw [hwi]
        refine x_round ((i + 1, _, _, _, t.apply g.blocks c, W2, Z2)) (⟨⟨by dsimp only; omega, by dsimp only; omega⟩, ⟨hwW.trans hle2, hZ2⟩, hle.trans hZZ, hT2, hok2, fun k o hk => (hgt2 k o hk).elim (hgt k o) .inr⟩) (by first | omega | (dsimp only; omega)) (by repeat (first | exact SubF.nil | refine SubF.cons rfl ?_)) (by repeat (first | exact SubO.nil | refine SubO.cons rfl ?_)) rfl (Vw.le.refl _)
      ·
        refine c_skip ?_
        refine x_block ?_
        refine x_then ?_
        refine c_region ?_
        refine o_yield rfl rfl rfl (y_val tok rfl) ?_
        refine o_yield rfl rfl rfl (y_val tok rfl) ?_
        refine o_yield rfl rfl rfl (y_val tok rfl) ?_
        refine o_end [1, 2, 4, 6, 7] rfl ?_
        refine x_then ?_
        rw [hwi]
        refine x_round ((i + 1, s, u, q, t, W, Z)) (⟨⟨by dsimp only; omega, by dsimp only; omega⟩, ⟨hwW, hZW⟩, hle, hT, hok, hgt⟩) (by first | omega | (dsimp only; omega)) (by repeat (first | exact SubF.nil | refine SubF.cons rfl ?_)) (by repeat (first | exact SubO.nil | refine SubO.cons rfl ?_)) rfl (Vw.le.refl _)
    ·
      simp only [Bool.and_eq_true, Bool.or_eq_true, Bool.not_eq_true', Bool.or_eq_false_iff, Bool.and_eq_false_iff, decide_eq_true_eq, decide_eq_false_iff_not, beq_iff_eq, bne_iff_ne, Bool.not_eq_false', beq_eq_false_iff_ne, bne_eq_false_iff_eq, ne_eq, Decidable.not_not, Int.not_lt, Int.not_le] at h
      clear h
      obtain ⟨x1, y1, z1, x2, y2, z2, x3, y3, z3, hv, _⟩ := id hT
      simp only [Value.agg.injEq, Array.mk.injEq, List.cons.injEq, and_true] at hv
      obtain ⟨rfl, rfl, rfl⟩ := hv
      refine c_exit ?_
      refine x_then_exit ?_
      refine x_then_exit ?_
      refine x_block_hit ?_
      refine x_then ?_
      refine c_seq ?_
      refine c_region ?_
      refine o_yield rfl rfl rfl (y_val tok rfl) ?_
      refine o_store tok rfl rfl rfl (by first | exact ⟨trivial, trivial⟩ | (repeat' first | exact trivial | exact rfl | apply And.intro); done | simp [onesP, oneP, lk, Value.oneCell']) ?_
      refine o_yield rfl rfl rfl (y_val tok rfl) ?_
      refine o_end [4, 5] rfl ?_
      refine x_then ?_
      refine c_ret ?_
      refine b_ret tok rfl ?_
      intro E' w' hm _
      exact ⟨_, Z, rfl, hm.below hwW, ⟨hle, fun k o hk => ⟨(hZW.trans hm.leV).get k o hk, hgt k o hk⟩⟩, Or.inr ⟨_, t, rfl, hT, hok, by omega, by omega⟩⟩
end Go.Proofs.Ytiapfhcimekdkaa

/- Locks: rows of holds that are exclusive; the document's commands. -/
set_option linter.unusedVariables false
set_option linter.unusedSimpArgs false
set_option maxRecDepth 100000
namespace Go.Proofs.Ytiapfhcimekdkaa
open Go Go.Eng Go.RowKit

def exP (L : List (Sl Hold)) : Prop := ∀ (i : Nat) (s : Sl Hold), L[i]? = some s → ∀ h ∈ s.l, fits h (catL (L.take i)) = true

theorem exFn_c (x : Hold) (ov : Value) (H : List Hold) (b : Nat) (V : Vw) (hb : V.get b = some (.cells [ov].toArray 27 (0, 0))) (hs : SlOf V Hold.cells 4 ov H) (hn : H.length ≤ lim) (w : World) (hV : V.le (vw w)) :
    Calls Try.prog 92 #[x.val, .pointer (some ⟨b, 0, none⟩)] w fun e w' => e = .returned (.bool (!fits x H)) ∧ Below w.heap.size w w' := by
  obtain ⟨a, n, c, rfl⟩ := sl_shape hs.sl
  refine enter (E := E0) (O := []) (nl := 0) (V := vw w) [.a (.v x.val), .a (.v (.pointer (some ⟨b, 0, none⟩)))] Try.func92 rfl rfl (mem0 E0 0 w) rfl rfl ?_
  refine c_seq ?_
  refine c_region ?_
  refine o_new tok rfl rfl rfl rfl ?_
  refine o_yield rfl rfl rfl (y_val tok rfl) ?_
  refine o_end [1, 2] rfl ?_
  refine x_then ?_
  refine c_seq ?_
  refine c_region ?_
  refine o_yield rfl rfl rfl (y_val tok rfl) ?_
  refine o_yield rfl rfl rfl (y_ldp (cs := [.slice a n c]) tok rfl (fun hg => hV.get _ _ hb) rfl) ?_
  refine o_call (.a (.v _)) rfl rfl fnok77 rfl rfl rfl (fun hg E w1 hm => by exact spFits_c V x _ H _ (hV.trans hm.leV) hs hn) ?_
  refine o_yield rfl rfl rfl (y_val tok rfl) ?_
  refine o_yield rfl rfl rfl (y_val tok rfl) ?_
  refine o_end [3] rfl ?_
  refine x_then ?_
  refine c_ret ?_
  refine b_ret tok rfl ?_
  intro E w' hm _
  refine ⟨?_, hm.below (Vw.le.refl _)⟩
  rfl

theorem lkEx_c (V : Vw) (sv : Value) (L : List (Sl Hold)) (w : World) (hV : V.le (vw w)) (hs0 : SlOf V Sl.enc 1 sv L) (hL : ∀ s ∈ L, SlOf V Hold.cells 4 s.v s.l) (hn : L.length ≤ 1000) (hc : (catL L).length ≤ 1048576) :
    Calls Try.prog 42 #[sv] w fun e w' => e = .returned (.bool (cdec (exP L))) ∧ Below w.heap.size w w' := by
  have hs := hs0.mono hV
  have hle := catL_le L
  have hlim : lim = 4398046511104 := rfl
  refine enter (E := E0) (O := []) (nl := 0) (V := vw w) [.a (.v sv)] Try.func42 rfl rfl (mem0 E0 0 w) rfl rfl ?_
  refine c_seq ?_
  refine c_region ?_
  refine o_yield rfl rfl rfl (y_val tok rfl) ?_
  refine o_end [0] rfl ?_
  refine x_then ?_
  refine c_seq ?_
  refine c_seq ?_
  refine c_region ?_
  refine o_yield rfl rfl rfl (y_val tok rfl) ?_
  refine o_yield rfl rfl rfl (y_len tok rfl (fun hg => hs.sl)) ?_
  refine o_yield rfl rfl rfl (y_val tok rfl) ?_
  refine o_end [0, 6, 7, 8] rfl ?_
  refine x_then ?_
  refine c_block ?_
  refine c_loopK [0, 6, 7] [] rfl rfl (σ := Nat) (fun k => [(8, .a (.v (I k)))]) (fun k => []) (fun k => k ≤ L.length ∧ ∀ (j : Nat) (s : Sl Hold), j < k → L[j]? = some s → ∀ h ∈ s.l, fits h (catL (L.take j)) = true) (fun k => L.length - k) (0) (⟨by omega, fun j s hj => by omega⟩) (by repeat (first | exact SubF.nil | refine SubF.cons rfl ?_)) (by repeat (first | exact SubO.nil | refine SubO.cons rfl ?_)) rfl ?_
  rintro k ⟨hk, hall⟩
  refine c_seq ?_
  refine c_region ?_
  refine o_yield rfl rfl rfl (y_val tok rfl) ?_
  refine o_end [0, 6, 7, 8, 9] rfl ?_
  refine x_then ?_
  refine c_seq ?_
  refine c_cond rfl (fun h => ?_) (fun h => ?_)
  ·
    simp only [Bool.and_eq_true, Bool.or_eq_true, Bool.not_eq_true', Bool.or_eq_false_iff, Bool.and_eq_false_iff, decide_eq_true_eq, decide_eq_false_iff_not, beq_iff_eq, bne_iff_ne, Bool.not_eq_false', beq_eq_false_iff_ne, bne_eq_false_iff_eq, ne_eq, Decidable.not_not, Int.not_lt, Int.not_le] at h
    refine c_skip ?_
    refine x_then ?_
    refine c_seq ?_
    refine c_block ?_
    refine c_seq ?_
    refine c_region ?_
    refine o_yield rfl rfl rfl (y_val tok rfl) ?_
    have hlk := hle k
    have hwk : IntKind.i64.wrap ((k : Int) + 1) = ((k + 1 : Nat) : Int) := wrapI (by omega) (by omega)
    obtain ⟨s, h_s⟩ := hs.at (k := k) (by omega)
    have hlt_s := lt_of_at h_s
    refine o_yield rfl rfl rfl (y_idx tok rfl (fun hg => hs.sl) (fun hg => ⟨by omega, by omega⟩)) ?_
    refine o_yield rfl rfl rfl (y_lel tok (k) 0 (s) rfl (fun hg => hs) (fun hg => h_s) rfl rfl) ?_
    refine o_yield rfl rfl rfl (y_val tok rfl) ?_
    refine o_yield rfl rfl rfl (y_val tok rfl) ?_
    refine o_end [0, 3, 4, 6, 7, 8] rfl ?_
    refine x_then ?_
    refine c_seq ?_
    refine c_region ?_
    refine o_yield rfl rfl rfl (y_val tok rfl) ?_
    refine o_yield rfl rfl rfl (y_val tok rfl) ?_
    have hsl := hL s (List.mem_of_getElem? h_s)
    have hel : s.l.length ≤ (catL L).length := by
      have h1 := hle (k + 1)
      have h2 := congrArg List.length (catL_take h_s)
      rw [List.length_append] at h2
      omega
    have hcut := hs.cut (lo := 0) (hi := k) (by omega) hk
    simp only [List.drop_zero, Nat.sub_zero] at hcut
    refine o_yield rfl rfl rfl (y_sl tok rfl (fun hg => hs.sl) (fun hg => ⟨by dsimp only [Option.getD]; omega, by dsimp only [Option.getD]; omega, by dsimp only [Option.getD]; omega⟩)) ?_
    refine o_step rfl rfl rfl rfl rfl (s_callRow 43 4 (catL (L.take k)).length ((catL (L.take k)).flatMap Hold.cells) rfl fnok62 (fun E w1 hm => concat_c (vw w) _ (L.take k) w1 hm.leV hcut (fun s hs => (hL s ((List.take_sublist _ _).subset hs)).mono hV) (by rw [List.length_take]; omega) (by omega))) (fun _ _ => ?_)
    refine o_new tok rfl rfl rfl rfl ?_
    refine o_store tok rfl rfl rfl (by first | exact ⟨trivial, trivial⟩ | (repeat' first | exact trivial | exact rfl | apply And.intro); done | simp [onesP, oneP, lk, Value.oneCell']) ?_
    refine o_end [0, 4, 5, 6, 7, 8] rfl ?_
    refine x_then ?_
    refine c_seq ?_
    refine c_region ?_
    refine o_yield rfl rfl rfl (y_val tok rfl) ?_
    refine o_yield rfl rfl rfl (y_val tok rfl) ?_
    refine o_call (.a (.v _)) rfl rfl fnok90 rfl rfl rfl (fun hg E w1 hm => by exact spContainsFunc_c (vw w1) _ s.v (fun h => !fits h (catL (L.take k))) s.l _ (Vw.le.refl _) (hsl.mono (hV.trans hm.leV)) (by omega) (fun x w' hle => ⟨92, _, rfl, fnok92, exFn_c x _ (catL (L.take k)) _ (vw w1) (hm.lit 1 _ _ rfl) (hm.rowOf 0 rfl (fun _ => rfl)) (by omega) w' hle⟩)) ?_
    refine o_end [0, 6, 7, 8, 19] rfl ?_
    refine x_then ?_
    refine c_cond rfl (fun h => ?_) (fun h => ?_)
    ·
      refine c_seq ?_
      refine c_region ?_
      refine o_yield rfl rfl rfl (y_val tok rfl) ?_
      refine o_end [2] rfl ?_
      refine x_then ?_
      refine c_ret ?_
      refine x_block_ret ?_
      refine x_then_ret ?_
      refine x_then_ret ?_
      refine x_block_ret ?_
      refine x_then_ret ?_
      refine b_ret tok rfl ?_
      have hno : ¬ exP L := by
        intro hx
        rw [List.any_eq_true] at h
        obtain ⟨y, hy, hf⟩ := h
        rw [hx k s h_s y hy] at hf
        simp at hf
      intro E w' hm _
      refine ⟨?_, hm.below (Vw.le.refl _)⟩
      rw [cdec_false hno]; rfl
    ·
      refine c_skip ?_
      refine x_block ?_
      refine x_then ?_
      refine c_region ?_
      refine o_yield rfl rfl rfl (y_val tok rfl) ?_
      refine o_yield rfl rfl rfl (y_val tok rfl) ?_
      refine o_end [0, 6, 7, 8] rfl ?_
      refine x_then ?_
      have hg : ∀ h ∈ s.l, fits h (catL (L.take k)) = true := by
        rw [List.any_eq_false] at h
        intro y hy
        simpa using h y hy
      have hall2 : ∀ (j : Nat) (s : Sl Hold), j < k + 1 → L[j]? = some s → ∀ h ∈ s.l, fits h (catL (L.take j)) = true := by
        intro j u hj hu
        rcases Nat.lt_or_ge j k with hlt | hge
        · exact hall j u hlt hu
        · have e : j = k := by omega
          subst e
          rw [h_s] at hu
          cases hu
          exact hg
      rw [hwk]
      refine x_round (k + 1) (⟨by omega, hall2⟩) (by first | omega | (dsimp only; omega)) (by repeat (first | exact SubF.nil | refine SubF.cons rfl ?_)) (by repeat (first | exact SubO.nil | refine SubO.cons rfl ?_)) rfl (Vw.le.refl _)
  ·
    simp only [Bool.and_eq_true, Bool.or_eq_true, Bool.not_eq_true', Bool.or_eq_false_iff, Bool.and_eq_false_iff, decide_eq_true_eq, decide_eq_false_iff_not, beq_iff_eq, bne_iff_ne, Bool.not_eq_false', beq_eq_false_iff_ne, bne_eq_false_iff_eq, ne_eq, Decidable.not_not, Int.not_lt, Int.not_le] at h
    refine c_exit ?_
    refine x_then_exit ?_
    refine x_then_exit ?_
    refine x_block_hit ?_
    refine x_then ?_
    refine c_seq ?_
    refine c_region ?_
    refine o_yield rfl rfl rfl (y_val tok rfl) ?_
    refine o_end [2] rfl ?_
    refine x_then ?_
    refine c_ret ?_
    refine b_ret tok rfl ?_
    have hx : exP L := fun j s hj => hall j s (by have := lt_of_at hj; omega) hj
    intro E w' hm _
    refine ⟨?_, hm.below (Vw.le.refl _)⟩
    rw [cdec_true hx]; rfl

end Go.Proofs.Ytiapfhcimekdkaa

/- LockApart: members, and plain facts. -/
set_option linter.unusedVariables false
set_option linter.unusedSimpArgs false
set_option maxRecDepth 100000
namespace Go.Proofs.Ytiapfhcimekdkaa
open Go Go.Eng Go.RowKit

/-- Who is a member. -/
def memL (S : List Slot) : List Int := (S.filter fun x => !(x.key == 0)).map (·.key)

theorem memL_step {S : List Slot} {k : Nat} {x : Slot} (h : S[k]? = some x) : memL (S.take (k + 1)) = memL (S.take k) ++ (if (!(x.key == 0)) = true then [x.key] else []) := by
  rw [memL, take_succ_at' h, List.filter_append, List.map_append, memL]
  cases hq : !(x.key == 0) <;> simp [hq]

theorem memL_len (S : List Slot) (k : Nat) : (memL (S.take k)).length ≤ k := by
  rw [memL, List.length_map]
  exact Nat.le_trans (List.length_filter_le _ _) (by rw [List.length_take]; omega)

theorem mint_snoc (L : List Int) (x : Int) : L.length + 1 = (L ++ [x]).length ∧ L.flatMap encI64 ++ [I x] = (L ++ [x]).flatMap encI64 := by simp [encI64]

def IRow (l : List Int) (w : World) (e : Ending) (w' : World) : Prop := ∃ v', e = .returned v' ∧ w'.ownsRow w.heap.size 3 1 v' l.length (l.flatMap encI64) ∧ Below w.heap.size w w'

def IOut (V : Vw) (l : List Int) (w : World) (e : Ending) (w' : World) : Prop := ∃ v V', e = .returned v ∧ Below w.heap.size w w' ∧ Vext w.heap.size V V' w' ∧ SlOf V' encI64 1 v l

theorem IRow.out {V : Vw} {l : List Int} {w : World} {e : Ending} {w' : World} (h : IRow l w e w') (hV : V.le (vw w)) : IOut V l w e w' := by
  obtain ⟨v, rfl, h1, h2⟩ := h
  exact ⟨v, _, rfl, h2, Vext.grown hV h2, SlOf.grown (enc := encI64) V h1 (fun _ => rfl)⟩

theorem rMembers_c (V : Vw) (tv : Value) (t : Tb) (w : World) (ht : t.Fit) (hV : V.le (vw w)) (h : TbIs V tv t) :
    Calls Try.prog 40 #[tv] w (IRow (memL t.S) w) := by
  obtain ⟨a, n, c, a2, n2, c2, a3, n3, c3, rfl, h1, h2, h3⟩ := h
  have hss := ht.s
  have hs := h1.mono hV
  generalize t.S = S at *
  refine enter (E := E0) (O := []) (nl := 0) (V := vw w) [.a (.v (.agg #[.slice a n c, .slice a2 n2 c2, .slice a3 n3 c3]))] Try.func40 rfl rfl (mem0 E0 0 w) rfl rfl ?_
  refine c_seq ?_
  refine c_region ?_
  refine o_new tok rfl rfl rfl rfl ?_
  refine o_yield rfl rfl rfl (y_val tok rfl) ?_
  refine o_end [1] rfl ?_
  refine x_then ?_
  refine c_seq ?_
  refine c_region ?_
  refine o_yield rfl rfl rfl (y_val tok rfl) ?_
  refine o_end [1, 3] rfl ?_
  refine x_then ?_
  refine c_seq ?_
  refine c_seq ?_
  refine c_region ?_
  refine o_yield rfl rfl rfl (y_val tok rfl) ?_
  refine o_end [1, 3, 4] rfl ?_
  refine x_then ?_
  refine c_block ?_
  refine k_nil 3 3 1 rfl rfl ?_
  refine c_loopK [1] [1] rfl rfl (σ := Nat) (fun i => [(3, .a (.row 1)), (4, .a (.v (I i)))]) (fun i => [(1, .row 3 1 (memL (S.take i)).length ((memL (S.take i)).flatMap encI64))]) (fun i => i ≤ S.length) (fun i => S.length - i) (0) (by omega) (by repeat (first | exact SubF.nil | refine SubF.cons rfl ?_)) (by repeat (first | exact SubO.nil | refine SubO.cons rfl ?_)) rfl ?_
  rintro i hi
  refine c_seq ?_
  refine c_seq ?_
  refine c_region ?_
  refine o_yield rfl rfl rfl (y_val tok rfl) ?_
  refine o_yield rfl rfl rfl (y_val tok rfl) ?_
  refine o_yield rfl rfl rfl (y_val tok rfl) ?_
  refine o_yield rfl rfl rfl (y_len tok rfl (fun hg => hs.sl)) ?_
  refine o_yield rfl rfl rfl (y_val tok rfl) ?_
  refine o_end [1, 3, 4, 9] rfl ?_
  refine x_then ?_
  refine c_cond rfl (fun h => ?_) (fun h => ?_)
  ·
    simp only [Bool.and_eq_true, Bool.or_eq_true, Bool.not_eq_true', Bool.or_eq_false_iff, Bool.and_eq_false_iff, decide_eq_true_eq, decide_eq_false_iff_not, beq_iff_eq, bne_iff_ne, Bool.not_eq_false', beq_eq_false_iff_ne, bne_eq_false_iff_eq, ne_eq, Decidable.not_not, Int.not_lt, Int.not_le] at h
    obtain ⟨x, h_x⟩ : ∃ x, S[i]? = some x := ⟨_, List.getElem?_eq_getElem (by omega)⟩
    have hwi : IntKind.i64.wrap ((i : Int) + 1) = ((i + 1 : Nat) : Int) := wrapI (by omega) (by omega)
    have hfl := memL_len S i
    have hft := memL_step h_x
    refine c_skip ?_
    refine x_then ?_
    refine c_seq ?_
    refine c_block ?_
    refine c_seq ?_
    refine c_region ?_
    refine o_yield rfl rfl rfl (y_val tok rfl) ?_
    refine o_yield rfl rfl rfl (y_val tok rfl) ?_
    refine o_yield rfl rfl rfl (y_val tok rfl) ?_
    have hlt_x := lt_of_at h_x
    refine o_yield rfl rfl rfl (y_idx tok rfl (fun hg => hs.sl) (fun hg => ⟨by omega, by omega⟩)) ?_
    refine o_yield rfl rfl rfl (y_fel tok rfl (fun hg => hs.sl) (fun hg => by omega)) ?_
    refine o_yield rfl rfl rfl (y_lel tok (i) 0 (x) rfl (fun hg => hs) (fun hg => h_x) rfl rfl) ?_
    refine o_yield rfl rfl rfl (y_val tok rfl) ?_
    refine o_end [1, 3, 4, 18] rfl ?_
    refine x_then ?_
    refine c_cond rfl (fun h => ?_) (fun h => ?_)
    ·
      refine c_region ?_
      refine o_yield rfl rfl rfl (y_val tok rfl) ?_
      refine o_yield rfl rfl rfl (y_val tok rfl) ?_
      refine o_yield rfl rfl rfl (y_val tok rfl) ?_
      refine o_yield rfl rfl rfl (y_val tok rfl) ?_
      have h' : (!(x.key == 0)) = true := by simpa [bne] using h
      rw [if_pos h'] at hft
      have hlt_x := lt_of_at h_x
      refine o_yield rfl rfl rfl (y_idx tok rfl (fun hg => hs.sl) (fun hg => ⟨by omega, by omega⟩)) ?_
      refine o_yield rfl rfl rfl (y_fel tok rfl (fun hg => hs.sl) (fun hg => by omega)) ?_
      refine o_yield rfl rfl rfl (y_lel tok (i) 0 (x) rfl (fun hg => hs) (fun hg => h_x) rfl rfl) ?_
      refine o_step rfl rfl rfl rfl rfl (s_bs tok 1 rfl rfl rfl) (fun _ _ => ?_)
      refine o_step rfl rfl rfl rfl rfl (s_app tok [I x.key] rfl (fun E w hm => ownsRow_src (hm.row _ _ _ _ _ rfl)) (fun _ _ _ => by intro u hu; simp only [List.mem_singleton] at hu; subst hu; rfl) (by dsimp only; omega)) (fun _ _ => ?_)
      refine o_yield rfl rfl rfl (y_val tok rfl) ?_
      refine o_end [1, 3, 4] rfl ?_
      refine x_block ?_
      refine x_then ?_
      refine c_region ?_
      refine o_yield rfl rfl rfl (y_val tok rfl) ?_
      refine o_yield rfl rfl rfl (y_val tok rfl) ?_
      refine o_yield rfl rfl rfl (y_val tok rfl) ?_
      refine o_end [1, 3, 4] rfl ?_
      refine x_then ?_
      rw [(mint_snoc _ x.key).1, (mint_snoc _ x.key).2, ← hft, hwi]
      refine k_swap 1 3 rfl ?_
      refine x_round (i + 1) (by omega) (by first | omega | (dsimp only; omega)) (by repeat (first | exact SubF.nil | refine SubF.cons rfl ?_)) (by repeat (first | exact SubO.nil | refine SubO.cons rfl ?_)) rfl (Vw.le.refl _)
    ·
      refine c_skip ?_
      refine x_block ?_
      refine x_then ?_
      refine c_region ?_
      refine o_yield rfl rfl rfl (y_val tok rfl) ?_
      refine o_yield rfl rfl rfl (y_val tok rfl) ?_
      refine o_yield rfl rfl rfl (y_val tok rfl) ?_
      refine o_end [1, 3, 4] rfl ?_
      refine x_then ?_
      have h' : ¬ (!(x.key == 0)) = true := by simpa [bne] using h
      rw [if_neg h', List.append_nil] at hft
      rw [← hft, hwi]
      refine x_round (i + 1) (by omega) (by first | omega | (dsimp only; omega)) (by repeat (first | exact SubF.nil | refine SubF.cons rfl ?_)) (by repeat (first | exact SubO.nil | refine SubO.cons rfl ?_)) rfl (Vw.le.refl _)
  ·
    simp only [Bool.and_eq_true, Bool.or_eq_true, Bool.not_eq_true', Bool.or_eq_false_iff, Bool.and_eq_false_iff, decide_eq_true_eq, decide_eq_false_iff_not, beq_iff_eq, bne_iff_ne, Bool.not_eq_false', beq_eq_false_iff_ne, bne_eq_false_iff_eq, ne_eq, Decidable.not_not, Int.not_lt, Int.not_le] at h
    refine c_exit ?_
    refine x_then_exit ?_
    refine x_then_exit ?_
    refine x_block_hit ?_
    refine x_then ?_
    refine c_seq ?_
    refine c_region ?_
    refine o_yield rfl rfl rfl (y_val tok rfl) ?_
    refine o_yield rfl rfl rfl (y_val tok rfl) ?_
    refine o_end [2] rfl ?_
    refine x_then ?_
    refine c_ret ?_
    refine b_ret tok rfl ?_
    have hil : i = S.length := by omega
    subst hil
    rw [List.take_length]
    intro E' w' hm _
    exact ⟨_, rfl, hm.rowFresh (Vw.le.refl _) (l := 1) rfl, hm.below (Vw.le.refl _)⟩

theorem allB_both {H : List Hold} (hH : allB H = true) {x y : Hold} (hx : x ∈ H) (hy : y ∈ H) : together x y = true := by
  obtain ⟨i, hi⟩ := List.mem_iff_getElem?.1 hx
  obtain ⟨j, hj⟩ := List.mem_iff_getElem?.1 hy
  have hp := List.pairwise_iff_getElem.1 ((allB_pair H).1 hH)
  obtain ⟨li, ei⟩ := List.getElem?_eq_some_iff.1 hi
  obtain ⟨lj, ej⟩ := List.getElem?_eq_some_iff.1 hj
  rcases Nat.lt_trichotomy i j with h | h | h
  · have := hp i j li lj h
    rwa [ei, ej] at this
  · subst h
    rw [← ei, ej, together, beq_self_eq_true]; rfl
  · have := hp j i lj li h
    rw [ei, ej] at this
    rwa [together_comm]

theorem exP_of {L : List (Sl Hold)} {H : List Hold} (hH : allB H = true) (hs : ∀ s ∈ L, ∀ h ∈ s.l, h ∈ H) : exP L := by
  intro i s hi h hh
  rw [fits, List.all_eq_true]
  intro x hx
  rw [catL, List.mem_flatMap] at hx
  obtain ⟨u, hu, hxu⟩ := hx
  exact allB_both hH (hs s (List.mem_of_getElem? hi) h hh) (hs u (List.mem_of_mem_take hu) x hxu)

theorem want_dem (key : Int) (t : Tb) : decide (0 < (wantL key t).length) = decide (0 < (demL key t).length) := by
  rw [decide_eq_decide, wantL_eq, List.length_map, List.length_pos_iff_exists_mem, List.length_pos_iff_exists_mem]
  constructor
  · rintro ⟨h, hh⟩
    rw [List.mem_filter, Bool.and_eq_true] at hh
    have h3 : fits h (demL key t) = false := by simpa using hh.2.2
    rw [fits, List.all_eq_false] at h3
    obtain ⟨q, hq, _⟩ := h3
    exact ⟨q, hq⟩
  · rintro ⟨q, hq⟩
    have hq' := hq
    rw [demL, List.mem_filter] at hq'
    have h3 : fits q (t.H.filter fun h => h.key == key) = false := by simpa using hq'.2
    rw [fits, List.all_eq_false] at h3
    obtain ⟨h, hh, hn⟩ := h3
    rw [List.mem_filter] at hh
    refine ⟨h, List.mem_filter.2 ⟨hh.1, ?_⟩⟩
    rw [hh.2, Bool.true_and]
    have : fits h (demL key t) = false := by
      rw [fits, List.all_eq_false]
      exact ⟨q, hq, by rw [together_comm]; exact hn⟩
    rw [this]; rfl

theorem has_left (key : Int) (gs : List Span) (H : List Hold) : (hasL key false gs H).length ≤ (hasL key false [] H).length := by
  rw [hasL, hasL, ← List.countP_eq_length_filter, ← List.countP_eq_length_filter]
  refine List.countP_mono_left fun h _ hh => ?_
  simp only [hasF, Bool.and_eq_true] at hh ⊢
  exact ⟨⟨hh.1.1, rfl⟩, by simp [spIn]⟩

theorem catL_bound60 : ∀ (L : List (Sl Hold)), (∀ s ∈ L, s.l.length ≤ 60) → (catL L).length ≤ L.length * 60
  | [], _ => by simp [catL]
  | s :: L, h => by
    have ih := catL_bound60 L fun u hu => h u (List.mem_cons_of_mem _ hu)
    have := h s List.mem_cons_self
    simp only [catL, List.flatMap_cons, List.length_append, List.length_cons] at ih ⊢
    omega
end Go.Proofs.Ytiapfhcimekdkaa

/- THE LAW LockApart. -/
set_option linter.unusedVariables false
set_option linter.unusedSimpArgs false
set_option maxRecDepth 100000
namespace Go.Proofs.Ytiapfhcimekdkaa
open Go Go.Eng Go.RowKit

theorem sl_snoc (A : List (Sl Hold)) (s : Sl Hold) : A.length + 1 = (A ++ [s]).length ∧ A.flatMap Sl.enc ++ [s.v] = (A ++ [s]).flatMap Sl.enc := by simp [Sl.enc]

theorem sl_num {V : Vw} {v : Value} {sz m : Nat} {xs : List Value} (h : IsSl V v sz m xs) : ∃ a c, v = .slice a m c := by
  rcases h.2 with ⟨a, c, h, e⟩ | ⟨b, off, cap, _, _, _, h, _⟩
  · exact ⟨a, c, by rw [e]; exact h⟩
  · exact ⟨_, cap, h⟩

/-- Rows told, each of what a table holds. -/
structure RowsOf (V : Vw) (H : List Hold) (A : List (Sl Hold)) : Prop where
  sl : ∀ s ∈ A, SlOf V Hold.cells 4 s.v s.l
  mem : ∀ s ∈ A, ∀ h ∈ s.l, h ∈ H
  few : ∀ s ∈ A, s.l.length ≤ 60

theorem RowsOf.nil (V : Vw) (H : List Hold) : RowsOf V H [] := ⟨fun s h => by simp at h, fun s h => by simp at h, fun s h => by simp at h⟩
theorem RowsOf.mono {V V' : Vw} {H : List Hold} {A : List (Sl Hold)} (h : RowsOf V H A) (hle : V.le V') : RowsOf V' H A := ⟨fun s hs => (h.sl s hs).mono hle, h.mem, h.few⟩
theorem RowsOf.snoc {V : Vw} {H : List Hold} {A : List (Sl Hold)} (h : RowsOf V H A) {v : Value} {l : List Hold} (h1 : SlOf V Hold.cells 4 v l) (h2 : ∀ x ∈ l, x ∈ H) (h3 : l.length ≤ 60) : RowsOf V H (A ++ [⟨v, l⟩]) := by
  refine ⟨fun s hs => ?_, fun s hs => ?_, fun s hs => ?_⟩ <;> rcases List.mem_append.1 hs with hs | hs
  · exact h.sl s hs
  · simp only [List.mem_singleton] at hs; subst hs; exact h1
  · exact h.mem s hs
  · simp only [List.mem_singleton] at hs; subst hs; exact h2
  · exact h.few s hs
  · simp only [List.mem_singleton] at hs; subst hs; exact h3

theorem lockApart_law (w : World) {v0 v1 v2 : Value} (R0 : ∃ g : Geo, v0 = g.val ∧ g.Ok) (R1 : ∃ l : List Cmd, SlOf (vw w) Cmd.cells 8 v1 l ∧ l.length ≤ maxLen ∧ ∀ a ∈ l, Cmd.Ok a) (R2 : ∃ l : List Span, SlOf (vw w) Span.cells 2 v2 l ∧ l.length ≤ maxLen ∧ ∀ a ∈ l, Span.Ok a) :
    Calls Try.prog 8 #[v0, v1, v2] w fun e w' => e = .returned (.bool true) ∧ Below w.heap.size w w' := by
  obtain ⟨g, rfl, _⟩ := R0
  obtain ⟨l, hs0, _, _⟩ := R1
  obtain ⟨gs, hgs, hgm, _⟩ := R2
  obtain ⟨ga, gn, gc, rfl⟩ := sl_shape hgs.sl
  have hlim : lim = 4398046511104 := rfl
  refine enter (E := E0) (O := []) (nl := 0) (V := vw w) [.a (.v g.val), .a (.v v1), .a (.v (.slice ga gn gc))] Try.func8 rfl rfl (mem0 E0 0 w) rfl rfl ?_
  refine c_seq ?_
  refine c_region ?_
  refine o_new tok rfl rfl rfl rfl ?_
  refine o_yield rfl rfl rfl (y_val tok rfl) ?_
  refine o_end [1, 2, 3] rfl ?_
  refine x_then ?_
  refine c_seq ?_
  refine c_region ?_
  refine o_yield rfl rfl rfl (y_val tok rfl) ?_
  refine o_yield rfl rfl rfl (y_val tok rfl) ?_
  refine o_callV (fun v V' => TabP g V' v) rfl rfl fnok32 rfl rfl (fun hg E w1 hm => by exact table25_c (vw w) g _ l _ hm.leV hs0) ?_
  rintro v6 W6 hle6 hv6
  have hg6 := hgs.mono hle6
  rcases hv6 rfl with rfl | ⟨tv, t, rfl, hT, hok, hsl, hsum⟩
  ·
    refine o_yield rfl rfl rfl (y_val tok rfl) ?_
    refine o_yield rfl rfl rfl (y_val tok rfl) ?_
    refine o_yield rfl rfl rfl (y_val tok rfl) ?_
    refine o_new tok rfl rfl rfl rfl ?_
    refine o_store tok rfl rfl rfl (by first | exact ⟨trivial, trivial⟩ | (repeat' first | exact trivial | exact rfl | apply And.intro); done | simp [onesP, oneP, lk, Value.oneCell']) ?_
    refine o_yield rfl rfl rfl (y_val tok rfl) ?_
    refine o_end [2, 7, 8] rfl ?_
    refine x_then ?_
    refine c_seq ?_
    refine c_seq ?_
    refine c_region ?_
    refine o_yield rfl rfl rfl (y_val tok rfl) ?_
    refine o_yield rfl rfl rfl (y_val tok rfl) ?_
    refine o_yield rfl rfl rfl (y_val tok rfl) ?_
    refine o_yield rfl rfl rfl (y_val tok rfl) ?_
    refine o_yield rfl rfl rfl (y_len tok rfl (fun hg => hg6.sl)) ?_
    refine o_yield rfl rfl rfl (y_val tok rfl) ?_
    refine o_yield rfl rfl rfl (y_val tok rfl) ?_
    refine o_end [2, 7, 26] rfl ?_
    refine x_then ?_
    refine c_cond rfl (fun h => ?_) (fun h => ?_)
    ·
      refine c_seq ?_
      refine c_region ?_
      refine o_call (.a (.v _)) rfl rfl fnok21 rfl rfl rfl (fun hg E w1 hm => by exact wakes25_c _) ?_
      refine o_yield rfl rfl rfl (y_val tok rfl) ?_
      refine o_end [6] rfl ?_
      refine x_then ?_
      refine c_ret ?_
      refine x_then_ret ?_
      refine b_ret tok rfl ?_
      intro E w' hm _
      refine ⟨?_, hm.below (by repeat (first | exact Vw.le.refl _ | assumption | (refine Vw.le.trans ?_ (by assumption))))⟩
      rfl
    ·
      simp at h
  · obtain ⟨a, n, c0, a2, n2, c2, a3, n3, c3, rfl, tS, tH, tQ⟩ := id hT
    have hfit := hok.fitS hsl (by omega)
    have hAll := hok.all
    have hmem := fun w1 hw1 => rMembers_c W6 _ t w1 hfit.1 hw1 hT
    have hML : (memL t.S).length ≤ t.S.length := by have := memL_len t.S t.S.length; rwa [List.take_length] at this
    have hnn := hok.n
    obtain ⟨M, hM⟩ : ∃ M, M = memL t.S := ⟨_, rfl⟩
    rw [← hM] at hmem hML
    refine o_yield rfl rfl rfl (y_val tok rfl) ?_
    refine o_yield rfl rfl rfl (y_val tok rfl) ?_
    refine o_yield rfl rfl rfl (y_val tok rfl) ?_
    refine o_new tok rfl rfl rfl rfl ?_
    refine o_store tok rfl rfl rfl (by first | exact ⟨trivial, trivial⟩ | (repeat' first | exact trivial | exact rfl | apply And.intro); done | simp [onesP, oneP, lk, Value.oneCell']) ?_
    refine o_yield rfl rfl rfl (y_val tok rfl) ?_
    refine o_end [2, 7, 8] rfl ?_
    refine x_then ?_
    refine c_seq ?_
    refine c_seq ?_
    refine c_region ?_
    refine o_yield rfl rfl rfl (y_val tok rfl) ?_
    refine o_yield rfl rfl rfl (y_val tok rfl) ?_
    refine o_yield rfl rfl rfl (y_val tok rfl) ?_
    refine o_yield rfl rfl rfl (y_val tok rfl) ?_
    refine o_yield rfl rfl rfl (y_len tok rfl (fun hg => hg6.sl)) ?_
    refine o_yield rfl rfl rfl (y_val tok rfl) ?_
    refine o_yield rfl rfl rfl (y_val tok rfl) ?_
    refine o_end [2, 7, 26] rfl ?_
    refine x_then ?_
    refine c_cond rfl (fun h => ?_) (fun h => ?_)
    ·
      refine c_seq ?_
      refine c_region ?_
      refine o_call (.a (.v _)) rfl rfl fnok21 rfl rfl rfl (fun hg E w1 hm => by exact wakes25_c _) ?_
      refine o_yield rfl rfl rfl (y_val tok rfl) ?_
      refine o_end [6] rfl ?_
      refine x_then ?_
      refine c_ret ?_
      refine x_then_ret ?_
      refine b_ret tok rfl ?_
      intro E w' hm _
      refine ⟨?_, hm.below (by repeat (first | exact Vw.le.refl _ | assumption | (refine Vw.le.trans ?_ (by assumption))))⟩
      rfl
    ·
      have hg40 : gs.length ≤ 40 := by simp at h; omega
      clear h
      refine c_skip ?_
      refine x_then ?_
      refine c_seq ?_
      refine c_region ?_
      refine o_yield rfl rfl rfl (y_val tok rfl) ?_
      refine o_yield rfl rfl rfl (y_val tok rfl) ?_
      refine o_end [2, 7, 9, 10] rfl ?_
      refine x_then ?_
      refine c_seq ?_
      refine c_region ?_
      refine o_yield rfl rfl rfl (y_val tok rfl) ?_
      refine o_callV (fun v V' => SlOf V' encI64 1 v M) rfl rfl fnok40 rfl rfl (fun hg E w1 hm => by exact (hmem _ hm.leV).mono fun e w' h => h.out hm.leV) ?_
      rintro v7 W7 hle7 hv7
      have hW7 := hv7 rfl
      refine o_yield rfl rfl rfl (y_val tok rfl) ?_
      refine o_end [2, 7, 9, 10, 11] rfl ?_
      refine x_then ?_
      refine c_seq ?_
      refine c_seq ?_
      refine c_region ?_
      refine o_yield rfl rfl rfl (y_val tok rfl) ?_
      refine o_end [2, 7, 9, 10, 11, 12] rfl ?_
      refine x_then ?_
      refine c_block ?_
      refine k_nil 9 27 1 rfl rfl ?_
      refine k_nil 10 27 1 rfl rfl ?_
      refine c_loopV [2, 7, 11] [2, 3] rfl rfl (σ := Nat × List (Sl Hold) × List (Sl Hold) × Vw) (fun (i, A, B, W) => [(9, .a (.row 2)), (10, .a (.row 3)), (12, .a (.v (I i)))]) (fun (i, A, B, W) => [(2, .row 27 1 A.length (A.flatMap Sl.enc)), (3, .row 27 1 B.length (B.flatMap Sl.enc))]) (fun (i, A, B, W) => W) (fun (i, A, B, W) => (i ≤ M.length ∧ A.length = i ∧ B.length = i) ∧ W7.le W ∧ RowsOf W t.H A ∧ RowsOf W t.H B) (fun (i, A, B, W) => M.length - i) ((0, [], [], W7)) (⟨⟨by omega, rfl, rfl⟩, Vw.le.refl _, RowsOf.nil _ _, RowsOf.nil _ _⟩) (by repeat (first | exact SubF.nil | refine SubF.cons rfl ?_)) (by repeat (first | exact SubO.nil | refine SubO.cons rfl ?_)) rfl (Vw.le.refl _) ?_
      rintro ⟨i, A, B, W⟩ ⟨⟨hi, hAl, hBl⟩, hle, hRA, hRB⟩
      dsimp only at hi hAl hBl hle hRA hRB ⊢
      have hMs := hW7.mono hle
      have hTW := hT.mono (hle7.trans hle)
      have hgW := hg6.mono (hle7.trans hle)
      refine c_seq ?_
      refine c_seq ?_
      refine c_region ?_
      refine o_yield rfl rfl rfl (y_val tok rfl) ?_
      refine o_yield rfl rfl rfl (y_val tok rfl) ?_
      refine o_yield rfl rfl rfl (y_len tok rfl (fun hg => hMs.sl)) ?_
      refine o_yield rfl rfl rfl (y_val tok rfl) ?_
      refine o_end [2, 7, 9, 10, 11, 12, 33] rfl ?_
      refine x_then ?_
      refine c_cond rfl (fun h => ?_) (fun h => ?_)
      ·
        simp only [Bool.and_eq_true, Bool.or_eq_true, Bool.not_eq_true', Bool.or_eq_false_iff, Bool.and_eq_false_iff, decide_eq_true_eq, decide_eq_false_iff_not, beq_iff_eq, bne_iff_ne, Bool.not_eq_false', beq_eq_false_iff_ne, bne_eq_false_iff_eq, ne_eq, Decidable.not_not, Int.not_lt, Int.not_le] at h
        obtain ⟨m, h_m⟩ : ∃ m, M[i]? = some m := ⟨_, List.getElem?_eq_getElem (by omega)⟩
        have hwi : IntKind.i64.wrap ((i : Int) + 1) = ((i + 1 : Nat) : Int) := wrapI (by omega) (by omega)
        have k1 : (hasL m false [] t.H).length ≤ t.H.length := List.length_filter_le _ _
        have k2 := has_left m gs t.H
        have k3 : ∀ x ∈ hasL m false [] t.H, x ∈ t.H := fun x hx => (List.mem_filter.1 hx).1
        have k4 : ∀ x ∈ hasL m false gs t.H, x ∈ t.H := fun x hx => (List.mem_filter.1 hx).1
        have k5 : allB (hasL m false [] t.H) = true := allB_sub List.filter_sublist hAll
        have k6 := want_dem m t
        have k7 : hasL m true [] t.H = [] := hasF_all m [] t.H
        refine c_skip ?_
        refine x_then ?_
        refine c_seq ?_
        refine c_block ?_
        refine c_seq ?_
        refine c_heldR mixed rfl (by repeat (first | exact SubO.nil | refine SubO.cons rfl ?_)) (by first | rfl | simp [okCels, allOk_plain]) ?_
        refine t_take 0 rfl (by kernel_rfl) rfl rfl rfl (y_val tok rfl) rfl ?_
        refine t_take 1 rfl (by kernel_rfl) rfl rfl rfl (y_val tok rfl) rfl ?_
        refine t_take 2 rfl (by kernel_rfl) rfl rfl rfl (y_val tok rfl) rfl ?_
        have hlt_m := lt_of_at h_m
        refine t_take 3 rfl (by kernel_rfl) rfl rfl rfl (y_idx tok rfl (fun hg => hMs.sl) (fun hg => ⟨by omega, by omega⟩)) rfl ?_
        refine t_take 4 rfl (by kernel_rfl) rfl rfl rfl (y_lel tok (i) 0 (m) rfl (fun hg => hMs) (fun hg => h_m) rfl rfl) rfl ?_
        refine t_go ?_
        refine h_one 5 (by kernel_rfl) ?_
        refine h_callV 5 (fun v V' => SlOf V' Hold.cells 4 v (hasL m false [] t.H)) rfl rfl rfl fnok25 rfl rfl (fun hg E w1 hm => by exact (lkHas_c W _ (.slice none 0 0) t m false [] _ hfit.1 hm.leV hTW (slNil _ _ _ _ (fun _ => rfl)) (by simp)).mono fun e w' h => HRow.out (l := hasL m false [] t.H) h hm.leV) ?_
        rintro v8 W8 hle8 hv8
        have hs8 := hv8 rfl
        obtain ⟨a8, n8, c8, rfl⟩ := sl_shape hs8.sl
        refine h_one 6 (by kernel_rfl) ?_
        refine h_yield 6 rfl rfl rfl rfl (y_val tok rfl) ?_
        refine h_done [2, 7, 9, 10, 11, 12, 13] (by kernel_rfl) rfl ?_
        refine x_then ?_
        refine c_seq ?_
        refine c_region ?_
        refine o_yield rfl rfl rfl (y_val tok rfl) ?_
        refine o_yield rfl rfl rfl (y_val tok rfl) ?_
        refine o_step rfl rfl rfl rfl rfl (s_bs tok 1 rfl rfl rfl) (fun _ _ => ?_)
        refine o_step rfl rfl rfl rfl rfl (s_app tok [.slice a8 n8 c8] rfl (fun E w hm => ownsRow_src (hm.row _ _ _ _ _ rfl)) (fun _ _ _ => by intro u hu; simp only [List.mem_singleton] at hu; subst hu; rfl) (by dsimp only; omega)) (fun _ _ => ?_)
        refine o_yield rfl rfl rfl (y_val tok rfl) ?_
        refine o_end [2, 7, 9, 10, 11, 12, 13] rfl ?_
        refine x_then ?_
        refine c_seq ?_
        rw [(sl_snoc A ⟨.slice a8 n8 c8, hasL m false [] t.H⟩).1, (sl_snoc A ⟨.slice a8 n8 c8, hasL m false [] t.H⟩).2]
        refine k_swap 2 5 rfl ?_
        refine k_trim [2, 7, 9, 10, 11, 12, 13] [4, 5] 4 rfl rfl (by repeat (first | exact SubF.nil | refine SubF.cons rfl ?_)) (by repeat (first | exact SubO.nil | refine SubO.cons rfl ?_)) rfl ?_
        have hMs8 := hMs.mono hle8
        refine c_held [] ([(1, .lit [.v (.slice a n c0), .v (.slice a2 n2 c2), .v (.slice a3 n3 c3)] 29)]) mixed (by repeat (first | exact SubO.nil | refine SubO.cons rfl ?_)) (by first | rfl | simp [okCels, allOk_plain]) ?_
        refine t_take 0 rfl (by kernel_rfl) rfl rfl rfl (y_val tok rfl) rfl ?_
        refine t_take 1 rfl (by kernel_rfl) rfl rfl rfl (y_val tok rfl) rfl ?_
        refine t_take 2 rfl (by kernel_rfl) rfl rfl rfl (y_val tok rfl) rfl ?_
        refine t_take 3 rfl (by kernel_rfl) rfl rfl rfl (y_val tok rfl) rfl ?_
        have hlt_m := lt_of_at h_m
        refine t_take 4 rfl (by kernel_rfl) rfl rfl rfl (y_idx tok rfl (fun hg => hMs8.sl) (fun hg => ⟨by omega, by omega⟩)) rfl ?_
        refine t_take 5 rfl (by kernel_rfl) rfl rfl rfl (y_lel tok (i) 0 (m) rfl (fun hg => hMs8) (fun hg => h_m) rfl rfl) rfl ?_
        refine t_take 6 rfl (by kernel_rfl) rfl rfl rfl (y_val tok rfl) rfl ?_
        refine t_go ?_
        refine h_one 7 (by kernel_rfl) ?_
        refine h_callV 7 (fun v V' => SlOf V' Hold.cells 4 v (hasL m false gs t.H)) rfl rfl rfl fnok25 rfl rfl (fun hg E w1 hm => by exact (lkHas_c W8 _ (.slice ga gn gc) t m false gs _ hfit.1 hm.leV (hTW.mono hle8) (hgW.mono hle8) (by omega)).mono fun e w' h => HRow.out (l := hasL m false gs t.H) h hm.leV) ?_
        rintro v9 W9 hle9 hv9
        have hs9 := hv9 rfl
        obtain ⟨a9, n9, c9, rfl⟩ := sl_shape hs9.sl
        have hle89 := hle8.trans hle9
        refine h_one 8 (by kernel_rfl) ?_
        refine h_to 8 rfl rfl rfl rfl rfl rfl (s_bs tok 1 rfl rfl rfl) (.inr fun _ _ => ⟨(by repeat (first | exact SubO.nil | refine SubO.cons rfl ?_)), rfl, (by first | exact Vw.le.refl _ | assumption)⟩) (fun _ _ => ?_)
        refine h_one 9 (by kernel_rfl) ?_
        refine h_to 9 rfl rfl rfl rfl rfl rfl (s_app tok [.slice a9 n9 c9] rfl (fun E w hm => ownsRow_src (hm.row _ _ _ _ _ rfl)) (fun _ _ _ => by intro u hu; simp only [List.mem_singleton] at hu; subst hu; rfl) (by dsimp only; omega)) (.inr fun _ _ => ⟨(by repeat (first | exact SubO.nil | refine SubO.cons rfl ?_)), rfl, (by first | exact Vw.le.refl _ | assumption)⟩) (fun _ _ => ?_)
        refine h_one 10 (by kernel_rfl) ?_
        refine h_yield 10 rfl rfl rfl rfl (y_val tok rfl) ?_
        refine h_done [2, 7, 9, 10, 11, 12, 13] (by kernel_rfl) rfl ?_
        refine x_then ?_
        refine c_seq ?_
        refine c_seq ?_
        rw [(sl_snoc B ⟨.slice a9 n9 c9, hasL m false gs t.H⟩).1, (sl_snoc B ⟨.slice a9 n9 c9, hasL m false gs t.H⟩).2]
        refine k_swap 3 5 rfl ?_
        refine k_trim [2, 7, 9, 10, 11, 12, 13] [4, 5] 4 rfl rfl (by repeat (first | exact SubF.nil | refine SubF.cons rfl ?_)) (by repeat (first | exact SubO.nil | refine SubO.cons rfl ?_)) rfl ?_
        have hMs9 := hMs.mono hle89
        have hTW9 := hTW.mono hle89
        have hs89 := hs8.mono hle9
        have hlast : (B ++ [⟨.slice a9 n9 c9, hasL m false gs t.H⟩])[i]? = some (⟨.slice a9 n9 c9, hasL m false gs t.H⟩ : Sl Hold) := by rw [← hBl, List.getElem?_append_right (Nat.le_refl _), Nat.sub_self]; rfl
        have hB1 : (B ++ [(⟨.slice a9 n9 c9, hasL m false gs t.H⟩ : Sl Hold)]).length = i + 1 := by rw [List.length_append, hBl]; rfl
        have hA1 : (A ++ [(⟨.slice a8 n8 c8, hasL m false [] t.H⟩ : Sl Hold)]).length = i + 1 := by rw [List.length_append, hAl]; rfl
        have hRA9 := ((hRA.mono hle8).snoc hs8 k3 (by omega)).mono hle9
        have hRB9 := (hRB.mono hle89).snoc hs9 k4 (by omega)
        generalize A ++ [(⟨.slice a8 n8 c8, hasL m false [] t.H⟩ : Sl Hold)] = A2 at *
        generalize B ++ [(⟨.slice a9 n9 c9, hasL m false gs t.H⟩ : Sl Hold)] = B2 at *
        refine c_heldR mixed rfl (by repeat (first | exact SubO.nil | refine SubO.cons rfl ?_)) (by first | rfl | simp [okCels, allOk_plain]) ?_
        refine t_take 0 rfl (by kernel_rfl) rfl rfl rfl (y_val tok rfl) rfl ?_
        refine t_take 1 rfl (by kernel_rfl) rfl rfl rfl (y_val tok rfl) rfl ?_
        refine t_take 2 rfl (by kernel_rfl) rfl rfl rfl (y_val tok rfl) rfl ?_
        have hlt_m := lt_of_at h_m
        refine t_take 3 rfl (by kernel_rfl) rfl rfl rfl (y_idx tok rfl (fun hg => hMs9.sl) (fun hg => ⟨by omega, by omega⟩)) rfl ?_
        refine t_take 4 rfl (by kernel_rfl) rfl rfl rfl (y_lel tok (i) 0 (m) rfl (fun hg => hMs9) (fun hg => h_m) rfl rfl) rfl ?_
        refine t_go ?_
        refine h_one 5 (by kernel_rfl) ?_
        refine h_callV 5 (fun v V' => SlOf V' Hold.cells 4 v []) rfl rfl rfl fnok25 rfl rfl (fun hg E w1 hm => by exact (lkHas_c W9 _ (.slice none 0 0) t m true [] _ hfit.1 hm.leV hTW9 (slNil _ _ _ _ (fun _ => rfl)) (by simp)).mono fun e w' h => HRow.out (l := []) (by rw [k7] at h; exact h) hm.leV) ?_
        rintro v10 W10 hle10 hv10
        obtain ⟨a10, c10, rfl⟩ := sl_num (hv10 rfl).sl
        have hs910 := hs9.mono hle10
        have hs8A := hs89.mono hle10
        refine h_one 6 (by kernel_rfl) ?_
        refine h_yield 6 rfl rfl rfl rfl (y_lenP tok rfl) ?_
        refine h_one 7 (by kernel_rfl) ?_
        refine h_yield 7 rfl rfl rfl rfl (y_val tok rfl) ?_
        refine h_one 8 (by kernel_rfl) ?_
        refine h_yield 8 rfl rfl rfl rfl (y_val tok rfl) ?_
        refine h_take 9 rfl (by kernel_rfl) rfl rfl rfl rfl (y_val tok rfl) rfl ?_
        refine h_take 10 rfl (by kernel_rfl) rfl rfl rfl rfl (y_val tok rfl) rfl ?_
        refine h_take 11 rfl (by kernel_rfl) rfl rfl rfl rfl (y_own (s := .a (.rel 3 i)) 3 rfl rfl (fun v V' hv => y_idxK tok i rfl (by simp) (fun hg => hv) (fun hg => by omega))) rfl ?_
        refine h_take 12 rfl (by kernel_rfl) rfl rfl rfl rfl (y_own (s := .a (.v (.slice a9 n9 c9))) 3 rfl rfl (fun v V' hv => y_lel (enc := Sl.enc) (l := B2) tok i 0 ⟨.slice a9 n9 c9, hasL m false gs t.H⟩ rfl (fun hg => ⟨hv, fun _ => rfl⟩) (fun hg => hlast) (by simp) rfl)) rfl ?_
        refine h_take 13 rfl (by kernel_rfl) rfl rfl rfl rfl (y_len tok rfl (fun hg => hs9.sl)) rfl ?_
        refine h_one 14 (by kernel_rfl) ?_
        refine h_yield 14 rfl rfl rfl rfl (y_val tok rfl) ?_
        refine h_one 15 (by kernel_rfl) ?_
        refine h_yield 15 rfl rfl rfl rfl (y_len tok rfl (fun hg => hs8A.sl)) ?_
        refine h_one 16 (by kernel_rfl) ?_
        refine h_yield 16 rfl rfl rfl rfl (y_val tok rfl) ?_
        refine h_one 17 (by kernel_rfl) ?_
        refine h_yield 17 rfl rfl rfl rfl (y_val tok rfl) ?_
        refine h_one 18 (by kernel_rfl) ?_
        refine h_yield 18 rfl rfl rfl rfl (y_val tok rfl) ?_
        refine h_one 19 (by kernel_rfl) ?_
        refine h_yield 19 rfl rfl rfl rfl (y_val tok rfl) ?_
        refine h_one 20 (by kernel_rfl) ?_
        refine h_call 20 (.a (.v _)) rfl rfl rfl fnok16 rfl rfl rfl (fun hg E w1 hm => by exact spRall_c W10 _ (hasL m false [] t.H) _ hm.leV hs8A (by omega)) ?_
        refine h_one 21 (by kernel_rfl) ?_
        refine h_yield 21 rfl rfl rfl rfl (y_val tok rfl) ?_
        refine h_one 22 (by kernel_rfl) ?_
        refine h_yield 22 rfl rfl rfl rfl (y_val tok rfl) ?_
        refine h_done [2, 7, 9, 10, 11, 12, 78] (by kernel_rfl) rfl ?_
        refine x_then ?_
        refine c_cond rfl (fun h => ?_) (fun h => ?_)
        ·
          refine c_seq ?_
          refine c_region ?_
          refine o_yield rfl rfl rfl (y_val tok rfl) ?_
          refine o_end [6] rfl ?_
          refine x_then ?_
          refine c_ret ?_
          refine x_then_ret ?_
          refine x_block_ret ?_
          refine x_then_ret ?_
          refine x_then_ret ?_
          refine x_block_ret ?_
          refine x_then_ret ?_
          refine b_ret tok rfl ?_
          exfalso
          rw [k5] at h
          simp at h
          omega
        ·
          clear h
          have hTWA := hTW9.mono hle10
          have hMsA := hMs9.mono hle10
          refine c_skip ?_
          refine x_then ?_
          refine c_seq ?_
          refine c_heldR mixed rfl (by repeat (first | exact SubO.nil | refine SubO.cons rfl ?_)) (by first | rfl | simp [okCels, allOk_plain]) ?_
          refine t_take 0 rfl (by kernel_rfl) rfl rfl rfl (y_val tok rfl) rfl ?_
          refine t_take 1 rfl (by kernel_rfl) rfl rfl rfl (y_val tok rfl) rfl ?_
          refine t_take 2 rfl (by kernel_rfl) rfl rfl rfl (y_val tok rfl) rfl ?_
          have hlt_m := lt_of_at h_m
          refine t_take 3 rfl (by kernel_rfl) rfl rfl rfl (y_idx tok rfl (fun hg => hMsA.sl) (fun hg => ⟨by omega, by omega⟩)) rfl ?_
          refine t_take 4 rfl (by kernel_rfl) rfl rfl rfl (y_lel tok (i) 0 (m) rfl (fun hg => hMsA) (fun hg => h_m) rfl rfl) rfl ?_
          refine t_take 8 rfl (by kernel_rfl) rfl rfl rfl (y_val tok rfl) rfl ?_
          refine t_take 9 rfl (by kernel_rfl) rfl rfl rfl (y_val tok rfl) rfl ?_
          refine t_take 10 rfl (by kernel_rfl) rfl rfl rfl (y_val tok rfl) rfl ?_
          have hlt_m := lt_of_at h_m
          refine t_take 11 rfl (by kernel_rfl) rfl rfl rfl (y_idx tok rfl (fun hg => hMsA.sl) (fun hg => ⟨by omega, by omega⟩)) rfl ?_
          refine t_take 12 rfl (by kernel_rfl) rfl rfl rfl (y_lel tok (i) 0 (m) rfl (fun hg => hMsA) (fun hg => h_m) rfl rfl) rfl ?_
          refine t_go ?_
          refine h_one 5 (by kernel_rfl) ?_
          refine h_callV 5 (fun v V' => SlOf V' Span.cells 2 v (wantL m t)) rfl rfl rfl fnok30 rfl rfl (fun hg E w1 hm => by exact (lkWanted_c W10 _ t m _ hfit.1 hm.leV hTWA).mono fun e w' h => h.out hm.leV) ?_
          rintro v11 W11 hle11 hv11
          obtain ⟨a11, c11, rfl⟩ := sl_num (hv11 rfl).sl
          have hTWB := hTWA.mono hle11
          refine h_take 6 rfl (by kernel_rfl) rfl rfl rfl rfl (y_lenP tok rfl) rfl ?_
          refine h_take 7 rfl (by kernel_rfl) rfl rfl rfl rfl (y_val tok rfl) rfl ?_
          refine h_one 13 (by kernel_rfl) ?_
          refine h_callV 13 (fun v V' => SlOf V' Hold.cells 4 v (demL m t)) rfl rfl rfl fnok41 rfl rfl (fun hg E w1 hm => by exact (rDemands_c W11 _ t m _ hfit.1 hm.leV hTWB).mono fun e w' h => HRow.out (l := demL m t) h hm.leV) ?_
          rintro v12 W12 hle12 hv12
          obtain ⟨a12, c12, rfl⟩ := sl_num (hv12 rfl).sl
          refine h_one 14 (by kernel_rfl) ?_
          refine h_yield 14 rfl rfl rfl rfl (y_lenP tok rfl) ?_
          refine h_one 15 (by kernel_rfl) ?_
          refine h_yield 15 rfl rfl rfl rfl (y_val tok rfl) ?_
          refine h_one 16 (by kernel_rfl) ?_
          refine h_yield 16 rfl rfl rfl rfl (y_val tok rfl) ?_
          refine h_done [2, 7, 9, 10, 11, 12, 95] (by kernel_rfl) rfl ?_
          refine x_then ?_
          refine c_cond rfl (fun h => ?_) (fun h => ?_)
          ·
            refine c_seq ?_
            refine c_region ?_
            refine o_yield rfl rfl rfl (y_val tok rfl) ?_
            refine o_end [6] rfl ?_
            refine x_then ?_
            refine c_ret ?_
            refine x_block_ret ?_
            refine x_then_ret ?_
            refine x_then_ret ?_
            refine x_block_ret ?_
            refine x_then_ret ?_
            refine b_ret tok rfl ?_
            exfalso
            have k6' := decide_eq_decide.1 k6
            simp at h
            omega
          ·
            refine c_skip ?_
            refine x_block ?_
            refine x_then ?_
            refine c_region ?_
            refine o_yield rfl rfl rfl (y_val tok rfl) ?_
            refine o_yield rfl rfl rfl (y_val tok rfl) ?_
            refine o_yield rfl rfl rfl (y_val tok rfl) ?_
            refine o_end [2, 7, 9, 10, 11, 12] rfl ?_
            refine x_then ?_
            rw [hwi]
            refine x_round ((i + 1, A2, B2, W12)) (⟨⟨by dsimp only; omega, hA1, hB1⟩, hle.trans (hle89.trans (hle10.trans (hle11.trans hle12))), hRA9.mono (hle10.trans (hle11.trans hle12)), hRB9.mono (hle10.trans (hle11.trans hle12))⟩) (by first | omega | (dsimp only; omega)) (by repeat (first | exact SubF.nil | refine SubF.cons rfl ?_)) (by repeat (first | exact SubO.nil | refine SubO.cons rfl ?_)) rfl (Vw.le.refl _)
      ·
        simp only [Bool.and_eq_true, Bool.or_eq_true, Bool.not_eq_true', Bool.or_eq_false_iff, Bool.and_eq_false_iff, decide_eq_true_eq, decide_eq_false_iff_not, beq_iff_eq, bne_iff_ne, Bool.not_eq_false', beq_eq_false_iff_ne, bne_eq_false_iff_eq, ne_eq, Decidable.not_not, Int.not_lt, Int.not_le] at h
        clear h
        have hcA := catL_bound60 A hRA.few
        have hcB := catL_bound60 B hRB.few
        have xA := exP_of hAll hRA.mem
        have xB := exP_of hAll hRB.mem
        refine c_exit ?_
        refine x_then_exit ?_
        refine x_then_exit ?_
        refine x_block_hit ?_
        refine x_then ?_
        refine c_seq ?_
        refine c_region ?_
        refine o_yield rfl rfl rfl (y_val tok rfl) ?_
        refine o_call (.a (.v _)) rfl rfl fnok42 rfl rfl rfl (fun hg E w1 hm => by exact (by have h := lkEx_c (vw w1) (E.κ 2) A w1 (Vw.le.refl _) (hm.rowOf 2 rfl (fun _ => rfl)) (fun s hs => (hRA.sl s hs).mono hm.leV) (by omega) (by omega); rw [cdec_true xA] at h; exact h)) ?_
        refine o_yield rfl rfl rfl (y_val tok rfl) ?_
        refine o_yield rfl rfl rfl (y_val tok rfl) ?_
        refine o_call (.a (.v _)) rfl rfl fnok42 rfl rfl rfl (fun hg E w1 hm => by exact (by have h := lkEx_c (vw w1) (E.κ 3) B w1 (Vw.le.refl _) (hm.rowOf 3 rfl (fun _ => rfl)) (fun s hs => (hRB.sl s hs).mono hm.leV) (by omega) (by omega); rw [cdec_true xB] at h; exact h)) ?_
        refine o_yield rfl rfl rfl (y_val tok rfl) ?_
        refine o_yield rfl rfl rfl (y_val tok rfl) ?_
        refine o_call (.a (.v _)) rfl rfl fnok21 rfl rfl rfl (fun hg E w1 hm => by exact wakes25_c _) ?_
        refine o_yield rfl rfl rfl (y_val tok rfl) ?_
        refine o_yield rfl rfl rfl (y_val tok rfl) ?_
        refine o_end [6] rfl ?_
        refine x_then ?_
        refine c_ret ?_
        refine b_ret tok rfl ?_
        intro E w' hm _
        refine ⟨?_, hm.below ((hle6.trans (hle7.trans hle)))⟩
        rfl
end Go.Proofs.Ytiapfhcimekdkaa
