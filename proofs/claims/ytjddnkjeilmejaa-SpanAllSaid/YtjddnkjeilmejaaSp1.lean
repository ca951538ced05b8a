/- Spans: what the functions of package span compute. -/
import Derived.Test.YtjddnkjeilmejaaSpTab
set_option linter.unusedVariables false
set_option linter.unusedSimpArgs false
set_option maxRecDepth 100000
namespace Go.Proofs.Ytjddnkjeilmejaa
open Go Go.Eng Go.RowKit

structure Hold where
  key : Int
  lo : Int
  hi : Int
  mode : Int

abbrev Hold.cells (h : Hold) : List Value := [I h.key, I h.lo, I h.hi, I8 h.mode]
abbrev Hold.val (h : Hold) : Value := .agg #[I h.key, I h.lo, I h.hi, I8 h.mode]

theorem none_c (lo hi : Int) (w : World) : Calls Try.prog 33 #[.agg #[I lo, I hi]] w fun e w' => e = .returned (.bool (decide (hi < lo))) ∧ Below w.heap.size w w' := by
  refine enter (E := E0) (O := []) (nl := 0) (V := vw w) [.a (.v (.agg #[I lo, I hi]))] Try.func33 rfl rfl (mem0 E0 0 w) rfl rfl ?_
  refine c_seq ?_
  refine c_region ?_
  refine o_new tok rfl rfl rfl rfl ?_
  refine o_yield rfl rfl rfl (y_val tok rfl) ?_
  refine o_end [1] rfl ?_
  refine x_then ?_
  refine c_seq ?_
  refine c_region ?_
  refine o_yield rfl rfl rfl (y_val tok rfl) ?_
  refine o_yield rfl rfl rfl (y_val tok rfl) ?_
  refine o_yield rfl rfl rfl (y_val tok rfl) ?_
  refine o_yield rfl rfl rfl (y_val tok rfl) ?_
  refine o_yield rfl rfl rfl (y_val tok rfl) ?_
  refine o_yield rfl rfl rfl (y_val tok rfl) ?_
  refine o_yield rfl rfl rfl (y_val tok rfl) ?_
  refine o_yield rfl rfl rfl (y_val tok rfl) ?_
  refine o_end [2] rfl ?_
  refine x_then ?_
  refine c_ret ?_
  refine b_ret tok rfl ?_
  intro E w' hm _
  exact ⟨rfl, hm.below (Vw.le.refl _)⟩

def hasB (lo hi n : Int) : Bool := decide (lo ≤ n) && decide (n ≤ hi)

theorem has_c (lo hi n : Int) (w : World) : Calls Try.prog 30 #[.agg #[I lo, I hi], I n] w fun e w' => e = .returned (.bool (hasB lo hi n)) ∧ Below w.heap.size w w' := by
  refine enter (E := E0) (O := []) (nl := 0) (V := vw w) [.a (.v (.agg #[I lo, I hi])), .a (.v (I n))] Try.func30 rfl rfl (mem0 E0 0 w) rfl rfl ?_
  refine c_seq ?_
  refine c_region ?_
  refine o_new tok rfl rfl rfl rfl ?_
  refine o_yield rfl rfl rfl (y_val tok rfl) ?_
  refine o_end [1, 2] rfl ?_
  refine x_then ?_
  refine c_seq ?_
  refine c_region ?_
  refine o_yield rfl rfl rfl (y_val tok rfl) ?_
  refine o_yield rfl rfl rfl (y_val tok rfl) ?_
  refine o_yield rfl rfl rfl (y_val tok rfl) ?_
  refine o_yield rfl rfl rfl (y_val tok rfl) ?_
  refine o_yield rfl rfl rfl (y_val tok rfl) ?_
  refine o_yield rfl rfl rfl (y_val tok rfl) ?_
  refine o_yield rfl rfl rfl (y_val tok rfl) ?_
  refine o_yield rfl rfl rfl (y_val tok rfl) ?_
  refine o_yield rfl rfl rfl (y_val tok rfl) ?_
  refine o_yield rfl rfl rfl (y_val tok rfl) ?_
  refine o_yield rfl rfl rfl (y_val tok rfl) ?_
  refine o_yield rfl rfl rfl (y_val tok rfl) ?_
  refine o_yield rfl rfl rfl (y_val tok rfl) ?_
  refine o_end [4] rfl ?_
  refine x_then ?_
  refine c_ret ?_
  refine b_ret tok rfl ?_
  intro E w' hm _
  exact ⟨rfl, hm.below (Vw.le.refl _)⟩

def meets (lo hi lo' hi' : Int) : Bool := (!decide (hi < lo) && !decide (hi' < lo')) && (hasB lo hi lo' || hasB lo' hi' lo)

theorem meets_c (lo hi lo' hi' : Int) (w : World) : Calls Try.prog 25 #[.agg #[I lo, I hi], .agg #[I lo', I hi']] w fun e w' => e = .returned (.bool (meets lo hi lo' hi')) ∧ Below w.heap.size w w' := by
  refine enter (E := E0) (O := []) (nl := 0) (V := vw w) [.a (.v (.agg #[I lo, I hi])), .a (.v (.agg #[I lo', I hi']))] Try.func25 rfl rfl (mem0 E0 0 w) rfl rfl ?_
  refine c_seq ?_
  refine c_region ?_
  refine o_new tok rfl rfl rfl rfl ?_
  refine o_new tok rfl rfl rfl rfl ?_
  refine o_yield rfl rfl rfl (y_val tok rfl) ?_
  refine o_end [2, 3] rfl ?_
  refine x_then ?_
  refine c_seq ?_
  refine c_region ?_
  refine o_yield rfl rfl rfl (y_val tok rfl) ?_
  refine o_call (.a (.v _)) rfl rfl fnok33 rfl rfl rfl (fun hg E w1 hm => by exact none_c _ _ _) ?_
  refine o_yield rfl rfl rfl (y_val tok rfl) ?_
  refine o_yield rfl rfl rfl (y_val tok rfl) ?_
  refine o_yield rfl rfl rfl (y_val tok rfl) ?_
  refine o_call (.a (.v _)) rfl rfl fnok33 rfl rfl rfl (fun hg E w1 hm => by exact none_c _ _ _) ?_
  refine o_yield rfl rfl rfl (y_val tok rfl) ?_
  refine o_yield rfl rfl rfl (y_val tok rfl) ?_
  refine o_yield rfl rfl rfl (y_val tok rfl) ?_
  refine o_yield rfl rfl rfl (y_val tok rfl) ?_
  refine o_yield rfl rfl rfl (y_val tok rfl) ?_
  refine o_yield rfl rfl rfl (y_val tok rfl) ?_
  refine o_yield rfl rfl rfl (y_val tok rfl) ?_
  refine o_call (.a (.v _)) rfl rfl fnok30 rfl rfl rfl (fun hg E w1 hm => by exact has_c _ _ _ _) ?_
  refine o_yield rfl rfl rfl (y_val tok rfl) ?_
  refine o_yield rfl rfl rfl (y_val tok rfl) ?_
  refine o_yield rfl rfl rfl (y_val tok rfl) ?_
  refine o_yield rfl rfl rfl (y_val tok rfl) ?_
  refine o_yield rfl rfl rfl (y_val tok rfl) ?_
  refine o_call (.a (.v _)) rfl rfl fnok30 rfl rfl rfl (fun hg E w1 hm => by exact has_c _ _ _ _) ?_
  refine o_yield rfl rfl rfl (y_val tok rfl) ?_
  refine o_yield rfl rfl rfl (y_val tok rfl) ?_
  refine o_yield rfl rfl rfl (y_val tok rfl) ?_
  refine o_end [4] rfl ?_
  refine x_then ?_
  refine c_ret ?_
  refine b_ret tok rfl ?_
  intro E w' hm _
  exact ⟨rfl, hm.below (Vw.le.refl _)⟩

theorem overlap_c (lo hi lo' hi' : Int) (w : World) : Calls Try.prog 9 #[.agg #[I lo, I hi], .agg #[I lo', I hi']] w fun e w' => e = .returned (.bool (meets lo hi lo' hi')) ∧ Below w.heap.size w w' := by
  refine enter (E := E0) (O := []) (nl := 0) (V := vw w) [.a (.v (.agg #[I lo, I hi])), .a (.v (.agg #[I lo', I hi']))] Try.func9 rfl rfl (mem0 E0 0 w) rfl rfl ?_
  refine c_seq ?_
  refine c_region ?_
  refine o_new tok rfl rfl rfl rfl ?_
  refine o_new tok rfl rfl rfl rfl ?_
  refine o_yield rfl rfl rfl (y_val tok rfl) ?_
  refine o_end [2, 3] rfl ?_
  refine x_then ?_
  refine c_seq ?_
  refine c_region ?_
  refine o_yield rfl rfl rfl (y_val tok rfl) ?_
  refine o_yield rfl rfl rfl (y_val tok rfl) ?_
  refine o_yield rfl rfl rfl (y_val tok rfl) ?_
  refine o_yield rfl rfl rfl (y_val tok rfl) ?_
  refine o_call (.a (.v _)) rfl rfl fnok25 rfl rfl rfl (fun hg E w1 hm => by exact meets_c _ _ _ _ _) ?_
  refine o_yield rfl rfl rfl (y_val tok rfl) ?_
  refine o_end [4] rfl ?_
  refine x_then ?_
  refine c_ret ?_
  refine b_ret tok rfl ?_
  intro E w' hm _
  exact ⟨rfl, hm.below (Vw.le.refl _)⟩

theorem of_c (h : Hold) (w : World) : Calls Try.prog 26 #[h.val] w fun e w' => e = .returned (.agg #[I h.lo, I h.hi, I h.key, I8 h.mode]) ∧ Below w.heap.size w w' := by
  refine enter (E := E0) (O := []) (nl := 0) (V := vw w) [.a (.v h.val)] Try.func26 rfl rfl (mem0 E0 0 w) rfl rfl ?_
  refine c_seq ?_
  refine c_region ?_
  refine o_new tok rfl rfl rfl rfl ?_
  refine o_new tok rfl rfl rfl rfl ?_
  refine o_end [1, 2] rfl ?_
  refine x_then ?_
  refine c_seq ?_
  refine c_region ?_
  refine o_yield rfl rfl rfl (y_val tok rfl) ?_
  refine o_yield rfl rfl rfl (y_val tok rfl) ?_
  refine o_yield rfl rfl rfl (y_val tok rfl) ?_
  refine o_yield rfl rfl rfl (y_val tok rfl) ?_
  refine o_yield rfl rfl rfl (y_val tok rfl) ?_
  refine o_yield rfl rfl rfl (y_val tok rfl) ?_
  refine o_yield rfl rfl rfl (y_val tok rfl) ?_
  refine o_yield rfl rfl rfl (y_val tok rfl) ?_
  refine o_store tok rfl rfl rfl (by simp [onesP, oneP, lk, Value.oneCell']) ?_
  refine o_end [2] rfl ?_
  refine x_then ?_
  refine c_ret ?_
  refine b_ret tok rfl ?_
  intro E w' hm _
  exact ⟨rfl, hm.below (Vw.le.refl _)⟩

def together (a b : Hold) : Bool := ((a.key == b.key) || !meets a.lo a.hi b.lo b.hi) || ((a.mode == 1) && (b.mode == 1))

theorem lets_c (a b : Hold) (w : World) : Calls Try.prog 27 #[.agg #[I a.lo, I a.hi, I a.key, I8 a.mode], .agg #[I b.lo, I b.hi, I b.key, I8 b.mode]] w fun e w' => e = .returned (.bool (together a b)) ∧ Below w.heap.size w w' := by
  refine enter (E := E0) (O := []) (nl := 0) (V := vw w) [.a (.v (.agg #[I a.lo, I a.hi, I a.key, I8 a.mode])), .a (.v (.agg #[I b.lo, I b.hi, I b.key, I8 b.mode]))] Try.func27 rfl rfl (mem0 E0 0 w) rfl rfl ?_
  refine c_seq ?_
  refine c_region ?_
  refine o_new tok rfl rfl rfl rfl ?_
  refine o_new tok rfl rfl rfl rfl ?_
  refine o_yield rfl rfl rfl (y_val tok rfl) ?_
  refine o_end [2, 3] rfl ?_
  refine x_then ?_
  refine c_seq ?_
  refine c_region ?_
  refine o_yield rfl rfl rfl (y_val tok rfl) ?_
  refine o_yield rfl rfl rfl (y_val tok rfl) ?_
  refine o_yield rfl rfl rfl (y_val tok rfl) ?_
  refine o_yield rfl rfl rfl (y_val tok rfl) ?_
  refine o_yield rfl rfl rfl (y_val tok rfl) ?_
  refine o_yield rfl rfl rfl (y_val tok rfl) ?_
  refine o_yield rfl rfl rfl (y_val tok rfl) ?_
  refine o_yield rfl rfl rfl (y_val tok rfl) ?_
  refine o_yield rfl rfl rfl (y_val tok rfl) ?_
  refine o_yield rfl rfl rfl (y_val tok rfl) ?_
  refine o_call (.a (.v _)) rfl rfl fnok25 rfl rfl rfl (fun hg E w1 hm => by exact meets_c _ _ _ _ _) ?_
  refine o_yield rfl rfl rfl (y_val tok rfl) ?_
  refine o_yield rfl rfl rfl (y_val tok rfl) ?_
  refine o_yield rfl rfl rfl (y_val tok rfl) ?_
  refine o_yield rfl rfl rfl (y_val tok rfl) ?_
  refine o_yield rfl rfl rfl (y_val tok rfl) ?_
  refine o_yield rfl rfl rfl (y_val tok rfl) ?_
  refine o_yield rfl rfl rfl (y_val tok rfl) ?_
  refine o_yield rfl rfl rfl (y_val tok rfl) ?_
  refine o_yield rfl rfl rfl (y_val tok rfl) ?_
  refine o_yield rfl rfl rfl (y_val tok rfl) ?_
  refine o_yield rfl rfl rfl (y_val tok rfl) ?_
  refine o_yield rfl rfl rfl (y_val tok rfl) ?_
  refine o_yield rfl rfl rfl (y_val tok rfl) ?_
  refine o_end [4] rfl ?_
  refine x_then ?_
  refine c_ret ?_
  refine b_ret tok rfl ?_
  intro E w' hm _
  exact ⟨rfl, hm.below (Vw.le.refl _)⟩

theorem together_c (a b : Hold) (w : World) : Calls Try.prog 10 #[a.val, b.val] w fun e w' => e = .returned (.bool (together a b)) ∧ Below w.heap.size w w' := by
  refine enter (E := E0) (O := []) (nl := 0) (V := vw w) [.a (.v a.val), .a (.v b.val)] Try.func10 rfl rfl (mem0 E0 0 w) rfl rfl ?_
  refine c_seq ?_
  refine c_region ?_
  refine o_new tok rfl rfl rfl rfl ?_
  refine o_new tok rfl rfl rfl rfl ?_
  refine o_yield rfl rfl rfl (y_val tok rfl) ?_
  refine o_end [2, 3] rfl ?_
  refine x_then ?_
  refine c_seq ?_
  refine c_draw mixed (by kernel_rfl) ?_
  refine d_yield rfl rfl rfl (y_val tok rfl) rfl ?_
  refine d_call (.a (.v _)) rfl rfl fnok26 rfl rfl rfl (fun hg E w1 hm => by exact of_c a _) ?_
  refine d_yield rfl rfl rfl (y_val tok rfl) rfl ?_
  refine d_call (.a (.v _)) rfl rfl fnok26 rfl rfl rfl (fun hg E w1 hm => by exact of_c b _) ?_
  refine d_call (.a (.v _)) rfl rfl fnok27 rfl rfl rfl (fun hg E w1 hm => by exact lets_c a b _) ?_
  refine d_yield rfl rfl rfl (y_val tok rfl) rfl ?_
  refine d_end [4] rfl ?_
  refine x_then ?_
  refine c_ret ?_
  refine b_ret tok rfl ?_
  intro E w' hm _
  exact ⟨rfl, hm.below (Vw.le.refl _)⟩

def may (blocks lo hi : Int) : Bool := (!decide (hi < lo) && decide (0 ≤ lo)) && decide (hi < blocks)

structure Geo where
  nodes : Int
  slots : Int
  blocks : Int
  per : Int
  journal : Int
  log : Int
  lease : Int
  wait : Int

abbrev Geo.val (g : Geo) : Value := .agg #[I g.nodes, I g.slots, I g.blocks, I g.per, I g.journal, I g.log, I g.lease, I g.wait]

theorem may_c (g : Geo) (lo hi : Int) (w : World) : Calls Try.prog 16 #[g.val, .agg #[I lo, I hi]] w fun e w' => e = .returned (.bool (may g.blocks lo hi)) ∧ Below w.heap.size w w' := by
  refine enter (E := E0) (O := []) (nl := 0) (V := vw w) [.a (.v g.val), .a (.v (.agg #[I lo, I hi]))] Try.func16 rfl rfl (mem0 E0 0 w) rfl rfl ?_
  refine c_seq ?_
  refine c_region ?_
  refine o_new tok rfl rfl rfl rfl ?_
  refine o_new tok rfl rfl rfl rfl ?_
  refine o_yield rfl rfl rfl (y_val tok rfl) ?_
  refine o_end [2, 3] rfl ?_
  refine x_then ?_
  refine c_seq ?_
  refine c_region ?_
  refine o_yield rfl rfl rfl (y_val tok rfl) ?_
  refine o_yield rfl rfl rfl (y_val tok rfl) ?_
  refine o_call (.a (.v _)) rfl rfl fnok33 rfl rfl rfl (fun hg E w1 hm => by exact none_c _ _ _) ?_
  refine o_yield rfl rfl rfl (y_val tok rfl) ?_
  refine o_yield rfl rfl rfl (y_val tok rfl) ?_
  refine o_yield rfl rfl rfl (y_val tok rfl) ?_
  refine o_yield rfl rfl rfl (y_val tok rfl) ?_
  refine o_yield rfl rfl rfl (y_val tok rfl) ?_
  refine o_yield rfl rfl rfl (y_val tok rfl) ?_
  refine o_yield rfl rfl rfl (y_val tok rfl) ?_
  refine o_yield rfl rfl rfl (y_val tok rfl) ?_
  refine o_yield rfl rfl rfl (y_val tok rfl) ?_
  refine o_yield rfl rfl rfl (y_val tok rfl) ?_
  refine o_yield rfl rfl rfl (y_val tok rfl) ?_
  refine o_yield rfl rfl rfl (y_val tok rfl) ?_
  refine o_yield rfl rfl rfl (y_val tok rfl) ?_
  refine o_yield rfl rfl rfl (y_val tok rfl) ?_
  refine o_end [4] rfl ?_
  refine x_then ?_
  refine c_ret ?_
  refine b_ret tok rfl ?_
  intro E w' hm _
  exact ⟨rfl, hm.below (Vw.le.refl _)⟩

def holdB (blocks : Int) (h : Hold) : Bool := (decide (0 < h.key) && may blocks h.lo h.hi) && ((h.mode == 1) || (h.mode == 2))

theorem hold_c (g : Geo) (h : Hold) (w : World) : Calls Try.prog 18 #[g.val, h.val] w fun e w' => e = .returned (.bool (holdB g.blocks h)) ∧ Below w.heap.size w w' := by
  refine enter (E := E0) (O := []) (nl := 0) (V := vw w) [.a (.v g.val), .a (.v h.val)] Try.func18 rfl rfl (mem0 E0 0 w) rfl rfl ?_
  refine c_seq ?_
  refine c_region ?_
  refine o_new tok rfl rfl rfl rfl ?_
  refine o_new tok rfl rfl rfl rfl ?_
  refine o_yield rfl rfl rfl (y_val tok rfl) ?_
  refine o_end [2, 3] rfl ?_
  refine x_then ?_
  refine c_seq ?_
  refine c_region ?_
  refine o_yield rfl rfl rfl (y_val tok rfl) ?_
  refine o_yield rfl rfl rfl (y_val tok rfl) ?_
  refine o_yield rfl rfl rfl (y_val tok rfl) ?_
  refine o_yield rfl rfl rfl (y_val tok rfl) ?_
  refine o_yield rfl rfl rfl (y_val tok rfl) ?_
  refine o_yield rfl rfl rfl (y_val tok rfl) ?_
  refine o_yield rfl rfl rfl (y_val tok rfl) ?_
  refine o_call (.a (.v _)) rfl rfl fnok16 rfl rfl rfl (fun hg E w1 hm => by exact may_c g _ _ _) ?_
  refine o_yield rfl rfl rfl (y_val tok rfl) ?_
  refine o_yield rfl rfl rfl (y_val tok rfl) ?_
  refine o_yield rfl rfl rfl (y_val tok rfl) ?_
  refine o_yield rfl rfl rfl (y_val tok rfl) ?_
  refine o_yield rfl rfl rfl (y_val tok rfl) ?_
  refine o_yield rfl rfl rfl (y_val tok rfl) ?_
  refine o_yield rfl rfl rfl (y_val tok rfl) ?_
  refine o_yield rfl rfl rfl (y_val tok rfl) ?_
  refine o_yield rfl rfl rfl (y_val tok rfl) ?_
  refine o_yield rfl rfl rfl (y_val tok rfl) ?_
  refine o_yield rfl rfl rfl (y_val tok rfl) ?_
  refine o_yield rfl rfl rfl (y_val tok rfl) ?_
  refine o_end [4] rfl ?_
  refine x_then ?_
  refine c_ret ?_
  refine b_ret tok rfl ?_
  intro E w' hm _
  exact ⟨rfl, hm.below (Vw.le.refl _)⟩

/-! slices.IndexFunc, ContainsFunc -/

def idxOf {α : Type} (pr : α → Bool) (l : List α) : Int := match l.findIdx? pr with
  | some k => k
  | none => -1

def lim : Nat := 4398046511104

/-- A function value that tells pr, wherever V is read. -/
def Tells (V : Vw) (fv : Value) (pr : Hold → Bool) : Prop :=
  ∀ x w', V.le (vw w') → CallsFn Try.prog fv [x.val] w' fun e w'' => e = .returned (.bool (pr x)) ∧ Below w'.heap.size w' w''

theorem indexFunc_c (V : Vw) (fv sv : Value) (pr : Hold → Bool) (l : List Hold) (w : World) (hV : V.le (vw w)) (hs : SlOf V Hold.cells 4 sv l) (hn : l.length ≤ lim) (hf : Tells V fv pr) :
    Calls Try.prog 36 #[sv, fv] w fun e w' => e = .returned (I (idxOf pr l)) ∧ Below w.heap.size w w' := by
  unfold lim at hn
  have hs' := hs.mono hV
  refine enter (E := E0) (O := []) (nl := 0) (V := vw w) [.a (.v sv), .a (.v fv)] Try.func36 rfl rfl (mem0 E0 0 w) rfl rfl ?_
  refine c_seq ?_
  refine c_region ?_
  refine o_yield rfl rfl rfl (y_val tok rfl) ?_
  refine o_end [0, 1] rfl ?_
  refine x_then ?_
  refine c_seq ?_
  refine c_seq ?_
  refine c_region ?_
  refine o_yield rfl rfl rfl (y_val tok rfl) ?_
  refine o_yield rfl rfl rfl (y_len tok rfl (fun hg => hs'.sl)) ?_
  refine o_yield rfl rfl rfl (y_val tok rfl) ?_
  refine o_end [0, 1, 7, 8] rfl ?_
  refine x_then ?_
  refine c_block ?_
  refine c_loop (σ := Nat) (fun k => [(0, .a (.v sv)), (1, .a (.v fv)), (7, .a (.v (I l.length))), (8, .a (.v (I k)))]) (fun _ => []) 0 (fun _ => vw w)
    (fun k => k ≤ l.length ∧ ∀ j x, j < k → l[j]? = some x → pr x = false) (fun k => l.length - k) 0 ⟨by omega, by simp⟩ ⟨rfl, rfl, rfl, rfl, trivial⟩ trivial rfl (Vw.le.refl _) ?_
  rintro k ⟨hk, hall⟩
  refine c_seq ?_
  refine c_region ?_
  refine o_yield rfl rfl rfl (y_val tok rfl) ?_
  refine o_end [0, 1, 7, 8, 9] rfl ?_
  refine x_then ?_
  refine c_seq ?_
  refine c_cond rfl (fun h => ?_) (fun h => ?_)
  ·
    refine c_skip ?_
    refine x_then ?_
    refine c_seq ?_
    refine c_block ?_
    refine c_seq ?_
    refine c_region ?_
    refine o_yield rfl rfl rfl (y_val tok rfl) ?_
    refine o_yield rfl rfl rfl (y_val tok rfl) ?_
    refine o_end [0, 1, 5, 7, 8] rfl ?_
    refine x_then ?_
    refine c_seq ?_
    refine c_region ?_
    refine o_yield rfl rfl rfl (y_val tok rfl) ?_
    refine o_yield rfl rfl rfl (y_val tok rfl) ?_
    refine o_yield rfl rfl rfl (y_val tok rfl) ?_
    have hlt : k < l.length := by simp at h; exact h
    have hx : l[k]? = some l[k] := by simp [hlt]
    refine o_yield rfl rfl rfl (y_idx tok rfl (fun hg => hs'.sl) (fun hg => ⟨by omega, by omega⟩)) ?_
    refine o_yield rfl rfl rfl (y_lel tok (k) 0 (l[k]) rfl (fun hg => hs') (fun hg => hx) rfl rfl) ?_
    refine o_callF (.a (.v _)) rfl rfl rfl rfl rfl (fun hg E w1 hm => by exact hf l[k] w1 (hV.trans hm.leV)) ?_
    refine o_end [0, 1, 5, 7, 8, 16] rfl ?_
    refine x_then ?_
    refine c_cond rfl (fun h => ?_) (fun h => ?_)
    ·
      refine c_seq ?_
      refine c_region ?_
      refine o_yield rfl rfl rfl (y_val tok rfl) ?_
      refine o_yield rfl rfl rfl (y_val tok rfl) ?_
      refine o_end [4] rfl ?_
      refine x_then ?_
      refine c_ret ?_
      refine x_block_ret ?_
      refine x_then_ret ?_
      refine x_then_ret ?_
      refine x_block_ret ?_
      refine x_then_ret ?_
      refine b_ret tok rfl ?_
      intro E w' hm _
      refine ⟨?_, hm.below (Vw.le.refl _)⟩
      rw [idxOf, findIdx?_at hx h hall]; rfl
    ·
      refine c_skip ?_
      refine x_block ?_
      refine x_then ?_
      refine c_region ?_
      refine o_yield rfl rfl rfl (y_val tok rfl) ?_
      refine o_yield rfl rfl rfl (y_val tok rfl) ?_
      refine o_end [0, 1, 7, 8] rfl ?_
      refine x_then ?_
      rw [wrapI (by omega) (by omega)]
      exact x_round (k + 1) ⟨by omega, ahead_succ hx hall h⟩ (by omega) ⟨rfl, rfl, rfl, rfl, trivial⟩ trivial rfl (Vw.le.refl _)
  ·
    refine c_exit ?_
    refine x_then_exit ?_
    refine x_then_exit ?_
    refine x_block_hit ?_
    refine x_then ?_
    refine c_seq ?_
    refine c_region ?_
    refine o_yield rfl rfl rfl (y_val tok rfl) ?_
    refine o_end [4] rfl ?_
    refine x_then ?_
    refine c_ret ?_
    refine b_ret tok rfl ?_
    have hge : k = l.length := by simp at h; omega
    intro E w' hm _
    refine ⟨?_, hm.below (Vw.le.refl _)⟩
    rw [idxOf, findIdx?_no (hge ▸ hall)]; rfl

theorem containsFunc_c (V : Vw) (fv sv : Value) (pr : Hold → Bool) (l : List Hold) (w : World) (hV : V.le (vw w)) (hs : SlOf V Hold.cells 4 sv l) (hn : l.length ≤ lim) (hf : Tells V fv pr) :
    Calls Try.prog 34 #[sv, fv] w fun e w' => e = .returned (.bool (l.any pr)) ∧ Below w.heap.size w w' := by
  refine enter (E := E0) (O := []) (nl := 0) (V := vw w) [.a (.v sv), .a (.v fv)] Try.func34 rfl rfl (mem0 E0 0 w) rfl rfl ?_
  refine c_seq ?_
  refine c_region ?_
  refine o_yield rfl rfl rfl (y_val tok rfl) ?_
  refine o_end [0, 1] rfl ?_
  refine x_then ?_
  refine c_seq ?_
  refine c_region ?_
  refine o_yield rfl rfl rfl (y_val tok rfl) ?_
  refine o_yield rfl rfl rfl (y_val tok rfl) ?_
  refine o_call (.a (.v _)) rfl rfl fnok36 rfl rfl rfl (fun hg E w1 hm => by exact indexFunc_c V fv sv pr l _ (hV.trans hm.leV) hs hn hf) ?_
  refine o_yield rfl rfl rfl (y_val tok rfl) ?_
  refine o_yield rfl rfl rfl (y_val tok rfl) ?_
  refine o_end [4] rfl ?_
  refine x_then ?_
  refine c_ret ?_
  refine b_ret tok rfl ?_
  intro E w' hm _
  refine ⟨?_, hm.below (Vw.le.refl _)⟩
  have : decide (0 ≤ idxOf pr l) = l.any pr := by
    rw [← any_findIdx, idxOf]
    cases l.findIdx? pr <;> simp
  rw [← this]; rfl

/-- The function that 'every' hands on. -/
theorem everyFn_c (V : Vw) (fv : Value) (pr : Hold → Bool) (b : Nat) (hb : V.get b = some (.cells #[fv] 53 (0, 0))) (hf : Tells V fv pr) (x : Hold) (w : World) (hV : V.le (vw w)) :
    Calls Try.prog 35 #[x.val, .pointer (some ⟨b, 0, none⟩)] w fun e w' => e = .returned (.bool (!pr x)) ∧ Below w.heap.size w w' := by
  refine enter (E := E0) (O := []) (nl := 0) (V := vw w) [.a (.v x.val), .a (.v (.pointer (some ⟨b, 0, none⟩)))] Try.func35 rfl rfl (mem0 E0 0 w) rfl rfl ?_
  refine c_seq ?_
  refine c_region ?_
  refine o_new tok rfl rfl rfl rfl ?_
  refine o_yield rfl rfl rfl (y_val tok rfl) ?_
  refine o_end [1, 2] rfl ?_
  refine x_then ?_
  refine c_seq ?_
  refine c_region ?_
  refine o_yield rfl rfl rfl (y_ldp (cs := [fv]) tok rfl (fun hg => hV.get _ _ hb) rfl) ?_
  refine o_yield rfl rfl rfl (y_val tok rfl) ?_
  refine o_callF (.a (.v _)) rfl rfl rfl rfl rfl (fun hg E w1 hm => by exact hf x w1 (hV.trans hm.leV)) ?_
  refine o_yield rfl rfl rfl (y_val tok rfl) ?_
  refine o_yield rfl rfl rfl (y_val tok rfl) ?_
  refine o_end [3] rfl ?_
  refine x_then ?_
  refine c_ret ?_
  refine b_ret tok rfl ?_
  intro E w' hm _
  exact ⟨rfl, hm.below (Vw.le.refl _)⟩

theorem every_c (V : Vw) (k : Nat) (caps : Array Value) (sv : Value) (pr : Hold → Bool) (l : List Hold) (w : World) (hV : V.le (vw w)) (hs : SlOf V Hold.cells 4 sv l) (hn : l.length ≤ lim)
    (hf : Tells V (.func (.func k) #[] caps) pr) :
    Calls Try.prog 28 #[.func (.func k) #[] caps, sv] w fun e w' => e = .returned (.bool (l.all pr)) ∧ Below w.heap.size w w' := by
  refine enter (E := E0) (O := []) (nl := 0) (V := vw w) [.a (.v (.func (.func k) #[] caps)), .a (.v sv)] Try.func28 rfl rfl (mem0 E0 0 w) rfl rfl ?_
  refine c_seq ?_
  refine c_region ?_
  refine o_new tok rfl rfl rfl rfl ?_
  refine o_yield rfl rfl rfl (y_val tok rfl) ?_
  refine o_end [1, 2] rfl ?_
  refine x_then ?_
  refine c_seq ?_
  refine c_region ?_
  refine o_yield rfl rfl rfl (y_val tok rfl) ?_
  refine o_yield rfl rfl rfl (y_val tok rfl) ?_
  refine o_call (.a (.v (.bool (l.any fun x => !pr x)))) rfl rfl fnok34 rfl rfl rfl (fun hg E w1 hm => ?_) ?_
  · have hle := hm.leV
    have hb := hm.lit 0 _ _ rfl
    refine containsFunc_c (vw w1) _ sv (fun x => !pr x) l w1 (Vw.le.refl _) (hs.mono (hV.trans hle)) hn ?_
    intro x w' hle'
    exact ⟨35, _, rfl, fnok35, everyFn_c (vw w1) _ pr (E.ρ 0) hb (fun x w' h => hf x w' ((hV.trans hle).trans h)) x w' hle'⟩
  refine o_yield rfl rfl rfl (y_val tok rfl) ?_
  refine o_yield rfl rfl rfl (y_val tok rfl) ?_
  refine o_end [4] rfl ?_
  refine x_then ?_
  refine c_ret ?_
  refine b_ret tok rfl ?_
  intro E w' hm _
  refine ⟨?_, hm.below (Vw.le.refl _)⟩
  show Ending.returned (.bool (!(l.any fun x => !pr x))) = _
  rw [List.all_eq_not_any_not]

/-! Fits -/

theorem fitsFn_c (V : Vw) (h : Hold) (b : Nat) (hb : V.get b = some (.cells h.cells.toArray 26 (0, 0))) (x : Hold) (w : World) (hV : V.le (vw w)) :
    Calls Try.prog 32 #[x.val, .pointer (some ⟨b, 0, none⟩)] w fun e w' => e = .returned (.bool (together h x)) ∧ Below w.heap.size w w' := by
  refine enter (E := E0) (O := []) (nl := 0) (V := vw w) [.a (.v x.val), .a (.v (.pointer (some ⟨b, 0, none⟩)))] Try.func32 rfl rfl (mem0 E0 0 w) rfl rfl ?_
  refine c_seq ?_
  refine c_region ?_
  refine o_new tok rfl rfl rfl rfl ?_
  refine o_yield rfl rfl rfl (y_val tok rfl) ?_
  refine o_end [1, 2] rfl ?_
  refine x_then ?_
  refine c_seq ?_
  refine c_region ?_
  refine o_yield rfl rfl rfl (y_ldp (cs := h.cells) tok rfl (fun hg => hV.get _ _ hb) rfl) ?_
  refine o_yield rfl rfl rfl (y_val tok rfl) ?_
  refine o_call (.a (.v _)) rfl rfl fnok10 rfl rfl rfl (fun hg E w1 hm => by exact together_c h x _) ?_
  refine o_yield rfl rfl rfl (y_val tok rfl) ?_
  refine o_end [3] rfl ?_
  refine x_then ?_
  refine c_ret ?_
  refine b_ret tok rfl ?_
  intro E w' hm _
  exact ⟨rfl, hm.below (Vw.le.refl _)⟩

def fits (h : Hold) (l : List Hold) : Bool := l.all (together h)

theorem fits_c (V : Vw) (h : Hold) (sv : Value) (l : List Hold) (w : World) (hV : V.le (vw w)) (hs : SlOf V Hold.cells 4 sv l) (hn : l.length ≤ lim) :
    Calls Try.prog 13 #[h.val, sv] w fun e w' => e = .returned (.bool (fits h l)) ∧ Below w.heap.size w w' := by
  refine enter (E := E0) (O := []) (nl := 0) (V := vw w) [.a (.v h.val), .a (.v sv)] Try.func13 rfl rfl (mem0 E0 0 w) rfl rfl ?_
  refine c_seq ?_
  refine c_region ?_
  refine o_new tok rfl rfl rfl rfl ?_
  refine o_yield rfl rfl rfl (y_val tok rfl) ?_
  refine o_end [1, 2] rfl ?_
  refine x_then ?_
  refine c_seq ?_
  refine c_region ?_
  refine o_yield rfl rfl rfl (y_val tok rfl) ?_
  refine o_yield rfl rfl rfl (y_val tok rfl) ?_
  refine o_call (.a (.v (.bool (fits h l)))) rfl rfl fnok28 rfl rfl rfl (fun hg E w1 hm => ?_) ?_
  · refine every_c (vw w1) 32 _ sv (together h) l w1 (Vw.le.refl _) (hs.mono (hV.trans hm.leV)) hn ?_
    intro x w' hle'
    exact ⟨32, _, rfl, fnok32, fitsFn_c (vw w1) h (E.ρ 0) (hm.lit 0 _ _ rfl) x w' hle'⟩
  refine o_yield rfl rfl rfl (y_val tok rfl) ?_
  refine o_end [4] rfl ?_
  refine x_then ?_
  refine c_ret ?_
  refine b_ret tok rfl ?_
  intro E w' hm _
  exact ⟨rfl, hm.below (Vw.le.refl _)⟩

/-! Covers -/

def coversAt (key block mode : Int) (o : Hold) : Bool := ((o.key == key) && hasB o.lo o.hi block) && ((o.mode == mode) || (o.mode == 2))

theorem coversFn_c (V : Vw) (key block mode : Int) (b1 b2 b3 : Nat) (h1 : V.get b1 = some (.cells #[I key] 3 (0, 0))) (h2 : V.get b2 = some (.cells #[I block] 3 (0, 0))) (h3 : V.get b3 = some (.cells #[I8 mode] 24 (0, 0)))
    (o : Hold) (w : World) (hV : V.le (vw w)) :
    Calls Try.prog 29 #[o.val, .pointer (some ⟨b1, 0, none⟩), .pointer (some ⟨b2, 0, none⟩), .pointer (some ⟨b3, 0, none⟩)] w fun e w' => e = .returned (.bool (!coversAt key block mode o)) ∧ Below w.heap.size w w' := by
  refine enter (E := E0) (O := []) (nl := 0) (V := vw w) [.a (.v o.val), .a (.v (.pointer (some ⟨b1, 0, none⟩))), .a (.v (.pointer (some ⟨b2, 0, none⟩))), .a (.v (.pointer (some ⟨b3, 0, none⟩)))] Try.func29 rfl rfl (mem0 E0 0 w) rfl rfl ?_
  refine c_seq ?_
  refine c_region ?_
  refine o_new tok rfl rfl rfl rfl ?_
  refine o_yield rfl rfl rfl (y_val tok rfl) ?_
  refine o_end [1, 2, 3, 4] rfl ?_
  refine x_then ?_
  refine c_seq ?_
  refine c_draw mixed (by kernel_rfl) ?_
  refine d_yield rfl rfl rfl (y_val tok rfl) rfl ?_
  refine d_yield rfl rfl rfl (y_val tok rfl) rfl ?_
  refine d_yield rfl rfl rfl (y_ldp (cs := [I key]) tok rfl (fun hg => hV.get _ _ h1) rfl) rfl ?_
  refine d_yield rfl rfl rfl (y_val tok rfl) rfl ?_
  refine d_yield rfl rfl rfl (y_val tok rfl) rfl ?_
  refine d_yield rfl rfl rfl (y_val tok rfl) rfl ?_
  refine d_call (.a (.v _)) rfl rfl fnok26 rfl rfl rfl (fun hg E w1 hm => by exact of_c o _) ?_
  refine d_yield rfl rfl rfl (y_val tok rfl) rfl ?_
  refine d_yield rfl rfl rfl (y_ldp (cs := [I block]) tok rfl (fun hg => hV.get _ _ h2) rfl) rfl ?_
  refine d_call (.a (.v _)) rfl rfl fnok30 rfl rfl rfl (fun hg E w1 hm => by exact has_c _ _ _ _) ?_
  refine d_yield rfl rfl rfl (y_val tok rfl) rfl ?_
  refine d_yield rfl rfl rfl (y_val tok rfl) rfl ?_
  refine d_yield rfl rfl rfl (y_val tok rfl) rfl ?_
  refine d_yield rfl rfl rfl (y_val tok rfl) rfl ?_
  refine d_yield rfl rfl rfl (y_val tok rfl) rfl ?_
  refine d_yield rfl rfl rfl (y_ldp (cs := [I8 mode]) tok rfl (fun hg => hV.get _ _ h3) rfl) rfl ?_
  refine d_yield rfl rfl rfl (y_val tok rfl) rfl ?_
  refine d_yield rfl rfl rfl (y_val tok rfl) rfl ?_
  refine d_yield rfl rfl rfl (y_val tok rfl) rfl ?_
  refine d_yield rfl rfl rfl (y_val tok rfl) rfl ?_
  refine d_yield rfl rfl rfl (y_val tok rfl) rfl ?_
  refine d_yield rfl rfl rfl (y_val tok rfl) rfl ?_
  refine d_yield rfl rfl rfl (y_val tok rfl) rfl ?_
  refine d_yield rfl rfl rfl (y_val tok rfl) rfl ?_
  refine d_end [5] rfl ?_
  refine x_then ?_
  refine c_ret ?_
  refine b_ret tok rfl ?_
  intro E w' hm _
  refine ⟨?_, hm.below (Vw.le.refl _)⟩
  show Ending.returned (.bool (((o.key != key) || !hasB o.lo o.hi block) || ((o.mode != mode) && (o.mode != 2)))) = _
  congr 2
  unfold coversAt bne
  cases (o.key == key) <;> cases hasB o.lo o.hi block <;> cases (o.mode == mode) <;> cases (o.mode == 2) <;> rfl

def covers (l : List Hold) (key block mode : Int) : Bool := l.any (coversAt key block mode)

theorem covers_c (V : Vw) (sv : Value) (l : List Hold) (key block mode : Int) (w : World) (hV : V.le (vw w)) (hs : SlOf V Hold.cells 4 sv l) (hn : l.length ≤ lim) :
    Calls Try.prog 11 #[sv, I key, I block, I8 mode] w fun e w' => e = .returned (.bool (covers l key block mode)) ∧ Below w.heap.size w w' := by
  refine enter (E := E0) (O := []) (nl := 0) (V := vw w) [.a (.v sv), .a (.v (I key)), .a (.v (I block)), .a (.v (I8 mode))] Try.func11 rfl rfl (mem0 E0 0 w) rfl rfl ?_
  refine c_seq ?_
  refine c_region ?_
  refine o_new tok rfl rfl rfl rfl ?_
  refine o_new tok rfl rfl rfl rfl ?_
  refine o_new tok rfl rfl rfl rfl ?_
  refine o_yield rfl rfl rfl (y_val tok rfl) ?_
  refine o_end [0, 5, 6, 7] rfl ?_
  refine x_then ?_
  refine c_seq ?_
  refine c_region ?_
  refine o_yield rfl rfl rfl (y_val tok rfl) ?_
  refine o_yield rfl rfl rfl (y_val tok rfl) ?_
  refine o_call (.a (.v (.bool (l.all fun o => !coversAt key block mode o)))) rfl rfl fnok28 rfl rfl rfl (fun hg E w1 hm => ?_) ?_
  · refine every_c (vw w1) 29 _ sv (fun o => !coversAt key block mode o) l w1 (Vw.le.refl _) (hs.mono (hV.trans hm.leV)) hn ?_
    intro x w' hle'
    exact ⟨29, _, rfl, fnok29, coversFn_c (vw w1) key block mode (E.ρ 0) (E.ρ 1) (E.ρ 2) (hm.lit 0 _ _ rfl) (hm.lit 1 _ _ rfl) (hm.lit 2 _ _ rfl) x w' hle'⟩
  refine o_yield rfl rfl rfl (y_val tok rfl) ?_
  refine o_yield rfl rfl rfl (y_val tok rfl) ?_
  refine o_end [8] rfl ?_
  refine x_then ?_
  refine c_ret ?_
  refine b_ret tok rfl ?_
  intro E w' hm _
  refine ⟨?_, hm.below (Vw.le.refl _)⟩
  show Ending.returned (.bool (!(l.all fun o => !coversAt key block mode o))) = _
  rw [covers, List.any_eq_not_all_not]

/-! Touches -/

def touchesAt (key lo hi : Int) (o : Hold) : Bool := (o.key == key) && meets o.lo o.hi lo hi

theorem touchesFn_c (V : Vw) (key lo hi : Int) (b1 b2 : Nat) (h1 : V.get b1 = some (.cells #[I key] 3 (0, 0))) (h2 : V.get b2 = some (.cells #[I lo, I hi] 23 (0, 0)))
    (o : Hold) (w : World) (hV : V.le (vw w)) :
    Calls Try.prog 31 #[o.val, .pointer (some ⟨b1, 0, none⟩), .pointer (some ⟨b2, 0, none⟩)] w fun e w' => e = .returned (.bool (!touchesAt key lo hi o)) ∧ Below w.heap.size w w' := by
  refine enter (E := E0) (O := []) (nl := 0) (V := vw w) [.a (.v o.val), .a (.v (.pointer (some ⟨b1, 0, none⟩))), .a (.v (.pointer (some ⟨b2, 0, none⟩)))] Try.func31 rfl rfl (mem0 E0 0 w) rfl rfl ?_
  refine c_seq ?_
  refine c_region ?_
  refine o_new tok rfl rfl rfl rfl ?_
  refine o_yield rfl rfl rfl (y_val tok rfl) ?_
  refine o_end [1, 2, 3] rfl ?_
  refine x_then ?_
  refine c_seq ?_
  refine c_region ?_
  refine o_yield rfl rfl rfl (y_val tok rfl) ?_
  refine o_yield rfl rfl rfl (y_val tok rfl) ?_
  refine o_yield rfl rfl rfl (y_ldp (cs := [I key]) tok rfl (fun hg => hV.get _ _ h1) rfl) ?_
  refine o_yield rfl rfl rfl (y_val tok rfl) ?_
  refine o_yield rfl rfl rfl (y_val tok rfl) ?_
  refine o_yield rfl rfl rfl (y_val tok rfl) ?_
  refine o_yield rfl rfl rfl (y_val tok rfl) ?_
  refine o_yield rfl rfl rfl (y_ldp (cs := [I lo, I hi]) tok rfl (fun hg => hV.get _ _ h2) rfl) ?_
  refine o_call (.a (.v _)) rfl rfl fnok9 rfl rfl rfl (fun hg E w1 hm => by exact overlap_c _ _ _ _ _) ?_
  refine o_yield rfl rfl rfl (y_val tok rfl) ?_
  refine o_yield rfl rfl rfl (y_val tok rfl) ?_
  refine o_yield rfl rfl rfl (y_val tok rfl) ?_
  refine o_end [4] rfl ?_
  refine x_then ?_
  refine c_ret ?_
  refine b_ret tok rfl ?_
  intro E w' hm _
  refine ⟨?_, hm.below (Vw.le.refl _)⟩
  show Ending.returned (.bool ((o.key != key) || !meets o.lo o.hi lo hi)) = _
  congr 2
  unfold touchesAt bne
  cases (o.key == key) <;> cases meets o.lo o.hi lo hi <;> rfl

def touches (l : List Hold) (key lo hi : Int) : Bool := l.any (touchesAt key lo hi)

theorem touches_c (V : Vw) (sv : Value) (l : List Hold) (key lo hi : Int) (w : World) (hV : V.le (vw w)) (hs : SlOf V Hold.cells 4 sv l) (hn : l.length ≤ lim) :
    Calls Try.prog 12 #[sv, I key, .agg #[I lo, I hi]] w fun e w' => e = .returned (.bool (touches l key lo hi)) ∧ Below w.heap.size w w' := by
  refine enter (E := E0) (O := []) (nl := 0) (V := vw w) [.a (.v sv), .a (.v (I key)), .a (.v (.agg #[I lo, I hi]))] Try.func12 rfl rfl (mem0 E0 0 w) rfl rfl ?_
  refine c_seq ?_
  refine c_region ?_
  refine o_new tok rfl rfl rfl rfl ?_
  refine o_new tok rfl rfl rfl rfl ?_
  refine o_yield rfl rfl rfl (y_val tok rfl) ?_
  refine o_end [0, 4, 5] rfl ?_
  refine x_then ?_
  refine c_seq ?_
  refine c_region ?_
  refine o_yield rfl rfl rfl (y_val tok rfl) ?_
  refine o_yield rfl rfl rfl (y_val tok rfl) ?_
  refine o_call (.a (.v (.bool (l.all fun o => !touchesAt key lo hi o)))) rfl rfl fnok28 rfl rfl rfl (fun hg E w1 hm => ?_) ?_
  · refine every_c (vw w1) 31 _ sv (fun o => !touchesAt key lo hi o) l w1 (Vw.le.refl _) (hs.mono (hV.trans hm.leV)) hn ?_
    intro x w' hle'
    exact ⟨31, _, rfl, fnok31, touchesFn_c (vw w1) key lo hi (E.ρ 0) (E.ρ 1) (hm.lit 0 _ _ rfl) (hm.lit 1 _ _ rfl) x w' hle'⟩
  refine o_yield rfl rfl rfl (y_val tok rfl) ?_
  refine o_yield rfl rfl rfl (y_val tok rfl) ?_
  refine o_end [6] rfl ?_
  refine x_then ?_
  refine c_ret ?_
  refine b_ret tok rfl ?_
  intro E w' hm _
  refine ⟨?_, hm.below (Vw.le.refl _)⟩
  show Ending.returned (.bool (!(l.all fun o => !touchesAt key lo hi o))) = _
  rw [touches, List.any_eq_not_all_not]

/-! All -/

def allFrom : List Hold → Nat → List Hold → Bool
  | _, _, [] => true
  | l, i, h :: r => fits h (l.take i) && allFrom l (i + 1) r

def allB (l : List Hold) : Bool := allFrom l 0 l

theorem allFrom_at (l : List Hold) (k : Nat) (hk : k < l.length) : allFrom l k (l.drop k) = (fits l[k] (l.take k) && allFrom l (k + 1) (l.drop (k + 1))) := by
  rw [List.drop_eq_getElem_cons hk]; rfl

theorem all_c (V : Vw) (sv : Value) (l : List Hold) (w : World) (hV : V.le (vw w)) (hs : SlOf V Hold.cells 4 sv l) (hn : l.length ≤ lim) :
    Calls Try.prog 15 #[sv] w fun e w' => e = .returned (.bool (allB l)) ∧ Below w.heap.size w w' := by
  have hlim : lim = 4398046511104 := rfl
  have hn' : l.length ≤ 4398046511104 := by rw [← hlim]; exact hn
  have hs' := hs.mono hV
  refine enter (E := E0) (O := []) (nl := 0) (V := vw w) [.a (.v sv)] Try.func15 rfl rfl (mem0 E0 0 w) rfl rfl ?_
  refine c_seq ?_
  refine c_region ?_
  refine o_yield rfl rfl rfl (y_val tok rfl) ?_
  refine o_end [0] rfl ?_
  refine x_then ?_
  refine c_seq ?_
  refine c_seq ?_
  refine c_region ?_
  refine o_yield rfl rfl rfl (y_val tok rfl) ?_
  refine o_yield rfl rfl rfl (y_len tok rfl (fun hg => hs'.sl)) ?_
  refine o_yield rfl rfl rfl (y_val tok rfl) ?_
  refine o_end [0, 5, 6, 7] rfl ?_
  refine x_then ?_
  refine c_block ?_
  refine c_loop (σ := Nat) (fun k => [(0, .a (.v sv)), (5, .a (.v sv)), (6, .a (.v (I l.length))), (7, .a (.v (I k)))]) (fun _ => []) 0 (fun _ => vw w)
    (fun k => k ≤ l.length ∧ allB l = allFrom l k (l.drop k)) (fun k => l.length - k) 0 ⟨by omega, rfl⟩ ⟨rfl, rfl, rfl, rfl, trivial⟩ trivial rfl (Vw.le.refl _) ?_
  rintro k ⟨hk, hall⟩
  refine c_seq ?_
  refine c_region ?_
  refine o_yield rfl rfl rfl (y_val tok rfl) ?_
  refine o_end [0, 5, 6, 7, 8] rfl ?_
  refine x_then ?_
  refine c_seq ?_
  refine c_cond rfl (fun h => ?_) (fun h => ?_)
  ·
    refine c_skip ?_
    refine x_then ?_
    refine c_seq ?_
    refine c_block ?_
    refine c_seq ?_
    refine c_region ?_
    refine o_yield rfl rfl rfl (y_val tok rfl) ?_
    have hlt : k < l.length := by simp at h; exact h
    have hx : l[k]? = some l[k] := by simp [hlt]
    rw [allFrom_at l k hlt] at hall
    refine o_yield rfl rfl rfl (y_idx tok rfl (fun hg => hs'.sl) (fun hg => ⟨by omega, by omega⟩)) ?_
    refine o_yield rfl rfl rfl (y_lel tok (k) 0 (l[k]) rfl (fun hg => hs') (fun hg => hx) rfl rfl) ?_
    refine o_new tok rfl rfl rfl rfl ?_
    refine o_yield rfl rfl rfl (y_val tok rfl) ?_
    refine o_store tok rfl rfl rfl (by simp [onesP, oneP, lk, Value.oneCell']) ?_
    refine o_end [0, 3, 4, 5, 6, 7] rfl ?_
    refine x_then ?_
    refine c_seq ?_
    refine c_draw mixed (by kernel_rfl) ?_
    refine d_yield rfl rfl rfl (y_val tok rfl) rfl ?_
    refine d_yield rfl rfl rfl (y_val tok rfl) rfl ?_
    refine d_yield rfl rfl rfl (y_val tok rfl) rfl ?_
    refine d_yield rfl rfl rfl (y_sl tok rfl (fun hg => hs'.sl) (fun hg => ⟨by simp, by simp, by simp; omega⟩)) rfl ?_
    have hcut := hs'.cut (lo := 0) (hi := k) (by omega) hk
    simp only [List.drop_zero, Nat.sub_zero] at hcut
    refine d_call (.a (.v _)) rfl rfl fnok13 rfl rfl rfl (fun hg E w1 hm => by exact fits_c (vw w) l[k] _ _ _ hm.leV hcut (by simp; omega)) ?_
    refine d_yield rfl rfl rfl (y_val tok rfl) rfl ?_
    refine d_end [0, 5, 6, 7, 17] rfl ?_
    refine x_then ?_
    refine c_cond rfl (fun h => ?_) (fun h => ?_)
    ·
      refine c_seq ?_
      refine c_region ?_
      refine o_yield rfl rfl rfl (y_val tok rfl) ?_
      refine o_end [2] rfl ?_
      refine x_then ?_
      refine c_ret ?_
      refine x_block_ret ?_
      refine x_then_ret ?_
      refine x_then_ret ?_
      refine x_block_ret ?_
      refine x_then_ret ?_
      refine b_ret tok rfl ?_
      intro E w' hm _
      refine ⟨?_, hm.below (Vw.le.refl _)⟩
      rw [hall]
      simp only [Bool.not_eq_true'] at h
      rw [h]; rfl
    ·
      refine c_skip ?_
      refine x_block ?_
      refine x_then ?_
      refine c_region ?_
      refine o_yield rfl rfl rfl (y_val tok rfl) ?_
      refine o_yield rfl rfl rfl (y_val tok rfl) ?_
      refine o_end [0, 5, 6, 7] rfl ?_
      refine x_then ?_
      rw [wrapI (by omega) (by omega)]
      refine x_round (k + 1) ⟨by omega, ?_⟩ (by omega) ⟨rfl, rfl, rfl, rfl, trivial⟩ trivial rfl (Vw.le.refl _)
      rw [hall]
      simp only [Bool.not_eq_false'] at h
      rw [h]; rfl
  ·
    refine c_exit ?_
    refine x_then_exit ?_
    refine x_then_exit ?_
    refine x_block_hit ?_
    refine x_then ?_
    refine c_seq ?_
    refine c_region ?_
    refine o_yield rfl rfl rfl (y_val tok rfl) ?_
    refine o_end [2] rfl ?_
    refine x_then ?_
    refine c_ret ?_
    refine b_ret tok rfl ?_
    have hge : k = l.length := by simp at h; omega
    intro E w' hm _
    refine ⟨?_, hm.below (Vw.le.refl _)⟩
    rw [hall, hge, List.drop_length]; rfl
end Go.Proofs.Ytjddnkjeilmejaa
