import Derived.Test.YtiapfhcimekdkaaMGeo
/- Spans: the functions of package span. -/
set_option linter.unusedVariables false
set_option linter.unusedSimpArgs false
set_option maxRecDepth 100000
namespace Go.Proofs.Ytiapfhcimekdkaa
open Go Go.Eng Go.RowKit

theorem spNone_c (lo hi : Int) (w : World) : Calls Try.prog 127 #[.agg #[I lo, I hi]] w fun e w' => e = .returned (.bool (decide (hi < lo))) ∧ Below w.heap.size w w' := by
  refine enter (E := E0) (O := []) (nl := 0) (V := vw w) [.a (.v (.agg #[I lo, I hi]))] Try.func127 rfl rfl (mem0 E0 0 w) rfl rfl ?_
  refine c_seq ?_
  refine c_region ?_
  refine o_new tok rfl rfl rfl rfl ?_
  refine o_yield rfl rfl rfl (y_val tok rfl) ?_
  refine o_end [1] rfl ?_
  refine x_then ?_
  refine c_seq ?_
  refine c_region ?_
  refine o_yield rfl rfl rfl (y_val tok rfl) ?_
  refine o_yield rfl rfl rfl (y_val tok rfl) ?_
  refine o_yield rfl rfl rfl (y_val tok rfl) ?_
  refine o_yield rfl rfl rfl (y_val tok rfl) ?_
  refine o_yield rfl rfl rfl (y_val tok rfl) ?_
  refine o_yield rfl rfl rfl (y_val tok rfl) ?_
  refine o_yield rfl rfl rfl (y_val tok rfl) ?_
  refine o_yield rfl rfl rfl (y_val tok rfl) ?_
  refine o_end [2] rfl ?_
  refine x_then ?_
  refine c_ret ?_
  refine b_ret tok rfl ?_
  intro E w' hm _
  exact ⟨rfl, hm.below (Vw.le.refl _)⟩

def hasB (lo hi n : Int) : Bool := decide (lo ≤ n) && decide (n ≤ hi)

theorem spHas_c (lo hi n : Int) (w : World) : Calls Try.prog 153 #[.agg #[I lo, I hi], I n] w fun e w' => e = .returned (.bool (hasB lo hi n)) ∧ Below w.heap.size w w' := by
  refine enter (E := E0) (O := []) (nl := 0) (V := vw w) [.a (.v (.agg #[I lo, I hi])), .a (.v (I n))] Try.func153 rfl rfl (mem0 E0 0 w) rfl rfl ?_
  refine c_seq ?_
  refine c_region ?_
  refine o_new tok rfl rfl rfl rfl ?_
  refine o_yield rfl rfl rfl (y_val tok rfl) ?_
  refine o_end [1, 2] rfl ?_
  refine x_then ?_
  refine c_seq ?_
  refine c_region ?_
  refine o_yield rfl rfl rfl (y_val tok rfl) ?_
  refine o_yield rfl rfl rfl (y_val tok rfl) ?_
  refine o_yield rfl rfl rfl (y_val tok rfl) ?_
  refine o_yield rfl rfl rfl (y_val tok rfl) ?_
  refine o_yield rfl rfl rfl (y_val tok rfl) ?_
  refine o_yield rfl rfl rfl (y_val tok rfl) ?_
  refine o_yield rfl rfl rfl (y_val tok rfl) ?_
  refine o_yield rfl rfl rfl (y_val tok rfl) ?_
  refine o_yield rfl rfl rfl (y_val tok rfl) ?_
  refine o_yield rfl rfl rfl (y_val tok rfl) ?_
  refine o_yield rfl rfl rfl (y_val tok rfl) ?_
  refine o_yield rfl rfl rfl (y_val tok rfl) ?_
  refine o_yield rfl rfl rfl (y_val tok rfl) ?_
  refine o_end [4] rfl ?_
  refine x_then ?_
  refine c_ret ?_
  refine b_ret tok rfl ?_
  intro E w' hm _
  exact ⟨rfl, hm.below (Vw.le.refl _)⟩

def meets (lo hi lo' hi' : Int) : Bool := (!decide (hi < lo) && !decide (hi' < lo')) && (hasB lo hi lo' || hasB lo' hi' lo)

theorem spMeets_c (lo hi lo' hi' : Int) (w : World) : Calls Try.prog 140 #[.agg #[I lo, I hi], .agg #[I lo', I hi']] w fun e w' => e = .returned (.bool (meets lo hi lo' hi')) ∧ Below w.heap.size w w' := by
  refine enter (E := E0) (O := []) (nl := 0) (V := vw w) [.a (.v (.agg #[I lo, I hi])), .a (.v (.agg #[I lo', I hi']))] Try.func140 rfl rfl (mem0 E0 0 w) rfl rfl ?_
  refine c_seq ?_
  refine c_region ?_
  refine o_new tok rfl rfl rfl rfl ?_
  refine o_new tok rfl rfl rfl rfl ?_
  refine o_yield rfl rfl rfl (y_val tok rfl) ?_
  refine o_end [2, 3] rfl ?_
  refine x_then ?_
  refine c_seq ?_
  refine c_region ?_
  refine o_yield rfl rfl rfl (y_val tok rfl) ?_
  refine o_call (.a (.v _)) rfl rfl fnok127 rfl rfl rfl (fun hg E w1 hm => by exact spNone_c _ _ _) ?_
  refine o_yield rfl rfl rfl (y_val tok rfl) ?_
  refine o_yield rfl rfl rfl (y_val tok rfl) ?_
  refine o_yield rfl rfl rfl (y_val tok rfl) ?_
  refine o_call (.a (.v _)) rfl rfl fnok127 rfl rfl rfl (fun hg E w1 hm => by exact spNone_c _ _ _) ?_
  refine o_yield rfl rfl rfl (y_val tok rfl) ?_
  refine o_yield rfl rfl rfl (y_val tok rfl) ?_
  refine o_yield rfl rfl rfl (y_val tok rfl) ?_
  refine o_yield rfl rfl rfl (y_val tok rfl) ?_
  refine o_yield rfl rfl rfl (y_val tok rfl) ?_
  refine o_yield rfl rfl rfl (y_val tok rfl) ?_
  refine o_yield rfl rfl rfl (y_val tok rfl) ?_
  refine o_call (.a (.v _)) rfl rfl fnok153 rfl rfl rfl (fun hg E w1 hm => by exact spHas_c _ _ _ _) ?_
  refine o_yield rfl rfl rfl (y_val tok rfl) ?_
  refine o_yield rfl rfl rfl (y_val tok rfl) ?_
  refine o_yield rfl rfl rfl (y_val tok rfl) ?_
  refine o_yield rfl rfl rfl (y_val tok rfl) ?_
  refine o_yield rfl rfl rfl (y_val tok rfl) ?_
  refine o_call (.a (.v _)) rfl rfl fnok153 rfl rfl rfl (fun hg E w1 hm => by exact spHas_c _ _ _ _) ?_
  refine o_yield rfl rfl rfl (y_val tok rfl) ?_
  refine o_yield rfl rfl rfl (y_val tok rfl) ?_
  refine o_yield rfl rfl rfl (y_val tok rfl) ?_
  refine o_end [4] rfl ?_
  refine x_then ?_
  refine c_ret ?_
  refine b_ret tok rfl ?_
  intro E w' hm _
  exact ⟨rfl, hm.below (Vw.le.refl _)⟩

theorem spOverlap_c (lo hi lo' hi' : Int) (w : World) : Calls Try.prog 115 #[.agg #[I lo, I hi], .agg #[I lo', I hi']] w fun e w' => e = .returned (.bool (meets lo hi lo' hi')) ∧ Below w.heap.size w w' := by
  refine enter (E := E0) (O := []) (nl := 0) (V := vw w) [.a (.v (.agg #[I lo, I hi])), .a (.v (.agg #[I lo', I hi']))] Try.func115 rfl rfl (mem0 E0 0 w) rfl rfl ?_
  refine c_seq ?_
  refine c_region ?_
  refine o_new tok rfl rfl rfl rfl ?_
  refine o_new tok rfl rfl rfl rfl ?_
  refine o_yield rfl rfl rfl (y_val tok rfl) ?_
  refine o_end [2, 3] rfl ?_
  refine x_then ?_
  refine c_seq ?_
  refine c_region ?_
  refine o_yield rfl rfl rfl (y_val tok rfl) ?_
  refine o_yield rfl rfl rfl (y_val tok rfl) ?_
  refine o_yield rfl rfl rfl (y_val tok rfl) ?_
  refine o_yield rfl rfl rfl (y_val tok rfl) ?_
  refine o_call (.a (.v _)) rfl rfl fnok140 rfl rfl rfl (fun hg E w1 hm => by exact spMeets_c _ _ _ _ _) ?_
  refine o_yield rfl rfl rfl (y_val tok rfl) ?_
  refine o_end [4] rfl ?_
  refine x_then ?_
  refine c_ret ?_
  refine b_ret tok rfl ?_
  intro E w' hm _
  exact ⟨rfl, hm.below (Vw.le.refl _)⟩

theorem spOf_c (h : Hold) (w : World) : Calls Try.prog 145 #[h.val] w fun e w' => e = .returned (.agg #[I h.lo, I h.hi, I h.key, I8 h.mode]) ∧ Below w.heap.size w w' := by
  refine enter (E := E0) (O := []) (nl := 0) (V := vw w) [.a (.v h.val)] Try.func145 rfl rfl (mem0 E0 0 w) rfl rfl ?_
  refine c_seq ?_
  refine c_region ?_
  refine o_new tok rfl rfl rfl rfl ?_
  refine o_new tok rfl rfl rfl rfl ?_
  refine o_end [1, 2] rfl ?_
  refine x_then ?_
  refine c_seq ?_
  refine c_region ?_
  refine o_yield rfl rfl rfl (y_val tok rfl) ?_
  refine o_yield rfl rfl rfl (y_val tok rfl) ?_
  refine o_yield rfl rfl rfl (y_val tok rfl) ?_
  refine o_yield rfl rfl rfl (y_val tok rfl) ?_
  refine o_yield rfl rfl rfl (y_val tok rfl) ?_
  refine o_yield rfl rfl rfl (y_val tok rfl) ?_
  refine o_yield rfl rfl rfl (y_val tok rfl) ?_
  refine o_yield rfl rfl rfl (y_val tok rfl) ?_
  refine o_store tok rfl rfl rfl (by first | exact ⟨trivial, trivial⟩ | (repeat' first | exact trivial | exact rfl | apply And.intro); done | simp [onesP, oneP, lk, Value.oneCell']) ?_
  refine o_end [2] rfl ?_
  refine x_then ?_
  refine c_ret ?_
  refine b_ret tok rfl ?_
  intro E w' hm _
  exact ⟨rfl, hm.below (Vw.le.refl _)⟩

def together (a b : Hold) : Bool := ((a.key == b.key) || !meets a.lo a.hi b.lo b.hi) || ((a.mode == 1) && (b.mode == 1))

theorem spLets_c (a b : Hold) (w : World) : Calls Try.prog 146 #[.agg #[I a.lo, I a.hi, I a.key, I8 a.mode], .agg #[I b.lo, I b.hi, I b.key, I8 b.mode]] w fun e w' => e = .returned (.bool (together a b)) ∧ Below w.heap.size w w' := by
  refine enter (E := E0) (O := []) (nl := 0) (V := vw w) [.a (.v (.agg #[I a.lo, I a.hi, I a.key, I8 a.mode])), .a (.v (.agg #[I b.lo, I b.hi, I b.key, I8 b.mode]))] Try.func146 rfl rfl (mem0 E0 0 w) rfl rfl ?_
  refine c_seq ?_
  refine c_region ?_
  refine o_new tok rfl rfl rfl rfl ?_
  refine o_new tok rfl rfl rfl rfl ?_
  refine o_yield rfl rfl rfl (y_val tok rfl) ?_
  refine o_end [2, 3] rfl ?_
  refine x_then ?_
  refine c_seq ?_
  refine c_region ?_
  refine o_yield rfl rfl rfl (y_val tok rfl) ?_
  refine o_yield rfl rfl rfl (y_val tok rfl) ?_
  refine o_yield rfl rfl rfl (y_val tok rfl) ?_
  refine o_yield rfl rfl rfl (y_val tok rfl) ?_
  refine o_yield rfl rfl rfl (y_val tok rfl) ?_
  refine o_yield rfl rfl rfl (y_val tok rfl) ?_
  refine o_yield rfl rfl rfl (y_val tok rfl) ?_
  refine o_yield rfl rfl rfl (y_val tok rfl) ?_
  refine o_yield rfl rfl rfl (y_val tok rfl) ?_
  refine o_yield rfl rfl rfl (y_val tok rfl) ?_
  refine o_call (.a (.v _)) rfl rfl fnok140 rfl rfl rfl (fun hg E w1 hm => by exact spMeets_c _ _ _ _ _) ?_
  refine o_yield rfl rfl rfl (y_val tok rfl) ?_
  refine o_yield rfl rfl rfl (y_val tok rfl) ?_
  refine o_yield rfl rfl rfl (y_val tok rfl) ?_
  refine o_yield rfl rfl rfl (y_val tok rfl) ?_
  refine o_yield rfl rfl rfl (y_val tok rfl) ?_
  refine o_yield rfl rfl rfl (y_val tok rfl) ?_
  refine o_yield rfl rfl rfl (y_val tok rfl) ?_
  refine o_yield rfl rfl rfl (y_val tok rfl) ?_
  refine o_yield rfl rfl rfl (y_val tok rfl) ?_
  refine o_yield rfl rfl rfl (y_val tok rfl) ?_
  refine o_yield rfl rfl rfl (y_val tok rfl) ?_
  refine o_yield rfl rfl rfl (y_val tok rfl) ?_
  refine o_yield rfl rfl rfl (y_val tok rfl) ?_
  refine o_end [4] rfl ?_
  refine x_then ?_
  refine c_ret ?_
  refine b_ret tok rfl ?_
  intro E w' hm _
  exact ⟨rfl, hm.below (Vw.le.refl _)⟩

theorem spTogether_c (a b : Hold) (w : World) : Calls Try.prog 122 #[a.val, b.val] w fun e w' => e = .returned (.bool (together a b)) ∧ Below w.heap.size w w' := by
  refine enter (E := E0) (O := []) (nl := 0) (V := vw w) [.a (.v a.val), .a (.v b.val)] Try.func122 rfl rfl (mem0 E0 0 w) rfl rfl ?_
  refine c_seq ?_
  refine c_region ?_
  refine o_new tok rfl rfl rfl rfl ?_
  refine o_new tok rfl rfl rfl rfl ?_
  refine o_yield rfl rfl rfl (y_val tok rfl) ?_
  refine o_end [2, 3] rfl ?_
  refine x_then ?_
  refine c_seq ?_
  refine c_draw mixed (by kernel_rfl) ?_
  refine d_yield rfl rfl rfl (y_val tok rfl) rfl ?_
  refine d_call (.a (.v _)) rfl rfl fnok145 rfl rfl rfl (fun hg E w1 hm => by exact spOf_c a _) ?_
  refine d_yield rfl rfl rfl (y_val tok rfl) rfl ?_
  refine d_call (.a (.v _)) rfl rfl fnok145 rfl rfl rfl (fun hg E w1 hm => by exact spOf_c b _) ?_
  refine d_call (.a (.v _)) rfl rfl fnok146 rfl rfl rfl (fun hg E w1 hm => by exact spLets_c a b _) ?_
  refine d_yield rfl rfl rfl (y_val tok rfl) rfl ?_
  refine d_end [4] rfl ?_
  refine x_then ?_
  refine c_ret ?_
  refine b_ret tok rfl ?_
  intro E w' hm _
  exact ⟨rfl, hm.below (Vw.le.refl _)⟩

def may (blocks lo hi : Int) : Bool := (!decide (hi < lo) && decide (0 ≤ lo)) && decide (hi < blocks)



theorem spMay_c (g : Geo) (lo hi : Int) (w : World) : Calls Try.prog 89 #[g.val, .agg #[I lo, I hi]] w fun e w' => e = .returned (.bool (may g.blocks lo hi)) ∧ Below w.heap.size w w' := by
  refine enter (E := E0) (O := []) (nl := 0) (V := vw w) [.a (.v g.val), .a (.v (.agg #[I lo, I hi]))] Try.func89 rfl rfl (mem0 E0 0 w) rfl rfl ?_
  refine c_seq ?_
  refine c_region ?_
  refine o_new tok rfl rfl rfl rfl ?_
  refine o_new tok rfl rfl rfl rfl ?_
  refine o_yield rfl rfl rfl (y_val tok rfl) ?_
  refine o_end [2, 3] rfl ?_
  refine x_then ?_
  refine c_seq ?_
  refine c_region ?_
  refine o_yield rfl rfl rfl (y_val tok rfl) ?_
  refine o_yield rfl rfl rfl (y_val tok rfl) ?_
  refine o_call (.a (.v _)) rfl rfl fnok127 rfl rfl rfl (fun hg E w1 hm => by exact spNone_c _ _ _) ?_
  refine o_yield rfl rfl rfl (y_val tok rfl) ?_
  refine o_yield rfl rfl rfl (y_val tok rfl) ?_
  refine o_yield rfl rfl rfl (y_val tok rfl) ?_
  refine o_yield rfl rfl rfl (y_val tok rfl) ?_
  refine o_yield rfl rfl rfl (y_val tok rfl) ?_
  refine o_yield rfl rfl rfl (y_val tok rfl) ?_
  refine o_yield rfl rfl rfl (y_val tok rfl) ?_
  refine o_yield rfl rfl rfl (y_val tok rfl) ?_
  refine o_yield rfl rfl rfl (y_val tok rfl) ?_
  refine o_yield rfl rfl rfl (y_val tok rfl) ?_
  refine o_yield rfl rfl rfl (y_val tok rfl) ?_
  refine o_yield rfl rfl rfl (y_val tok rfl) ?_
  refine o_yield rfl rfl rfl (y_val tok rfl) ?_
  refine o_yield rfl rfl rfl (y_val tok rfl) ?_
  refine o_end [4] rfl ?_
  refine x_then ?_
  refine c_ret ?_
  refine b_ret tok rfl ?_
  intro E w' hm _
  exact ⟨rfl, hm.below (Vw.le.refl _)⟩

def holdB (blocks : Int) (h : Hold) : Bool := (decide (0 < h.key) && may blocks h.lo h.hi) && ((h.mode == 1) || (h.mode == 2))

theorem spHold_c (g : Geo) (h : Hold) (w : World) : Calls Try.prog 64 #[g.val, h.val] w fun e w' => e = .returned (.bool (holdB g.blocks h)) ∧ Below w.heap.size w w' := by
  refine enter (E := E0) (O := []) (nl := 0) (V := vw w) [.a (.v g.val), .a (.v h.val)] Try.func64 rfl rfl (mem0 E0 0 w) rfl rfl ?_
  refine c_seq ?_
  refine c_region ?_
  refine o_new tok rfl rfl rfl rfl ?_
  refine o_new tok rfl rfl rfl rfl ?_
  refine o_yield rfl rfl rfl (y_val tok rfl) ?_
  refine o_end [2, 3] rfl ?_
  refine x_then ?_
  refine c_seq ?_
  refine c_region ?_
  refine o_yield rfl rfl rfl (y_val tok rfl) ?_
  refine o_yield rfl rfl rfl (y_val tok rfl) ?_
  refine o_yield rfl rfl rfl (y_val tok rfl) ?_
  refine o_yield rfl rfl rfl (y_val tok rfl) ?_
  refine o_yield rfl rfl rfl (y_val tok rfl) ?_
  refine o_yield rfl rfl rfl (y_val tok rfl) ?_
  refine o_yield rfl rfl rfl (y_val tok rfl) ?_
  refine o_call (.a (.v _)) rfl rfl fnok89 rfl rfl rfl (fun hg E w1 hm => by exact spMay_c g _ _ _) ?_
  refine o_yield rfl rfl rfl (y_val tok rfl) ?_
  refine o_yield rfl rfl rfl (y_val tok rfl) ?_
  refine o_yield rfl rfl rfl (y_val tok rfl) ?_
  refine o_yield rfl rfl rfl (y_val tok rfl) ?_
  refine o_yield rfl rfl rfl (y_val tok rfl) ?_
  refine o_yield rfl rfl rfl (y_val tok rfl) ?_
  refine o_yield rfl rfl rfl (y_val tok rfl) ?_
  refine o_yield rfl rfl rfl (y_val tok rfl) ?_
  refine o_yield rfl rfl rfl (y_val tok rfl) ?_
  refine o_yield rfl rfl rfl (y_val tok rfl) ?_
  refine o_yield rfl rfl rfl (y_val tok rfl) ?_
  refine o_yield rfl rfl rfl (y_val tok rfl) ?_
  refine o_end [4] rfl ?_
  refine x_then ?_
  refine c_ret ?_
  refine b_ret tok rfl ?_
  intro E w' hm _
  exact ⟨rfl, hm.below (Vw.le.refl _)⟩

/-! slices.IndexFunc, ContainsFunc -/

def idxOf {α : Type} (pr : α → Bool) (l : List α) : Int := match l.findIdx? pr with
  | some k => k
  | none => -1

/-- A function value that tells pr, wherever V is read. -/
def Tells (V : Vw) (fv : Value) (pr : Hold → Bool) : Prop :=
  ∀ x w', V.le (vw w') → CallsFn Try.prog fv [x.val] w' fun e w'' => e = .returned (.bool (pr x)) ∧ Below w'.heap.size w' w''

theorem spIndexFunc_c (V : Vw) (fv sv : Value) (pr : Hold → Bool) (l : List Hold) (w : World) (hV : V.le (vw w)) (hs : SlOf V Hold.cells 4 sv l) (hn : l.length ≤ lim) (hf : Tells V fv pr) :
    Calls Try.prog 128 #[sv, fv] w fun e w' => e = .returned (I (idxOf pr l)) ∧ Below w.heap.size w w' := by
  unfold lim at hn
  have hs' := hs.mono hV
  refine enter (E := E0) (O := []) (nl := 0) (V := vw w) [.a (.v sv), .a (.v fv)] Try.func128 rfl rfl (mem0 E0 0 w) rfl rfl ?_
  refine c_seq ?_
  refine c_region ?_
  refine o_yield rfl rfl rfl (y_val tok rfl) ?_
  refine o_end [0, 1] rfl ?_
  refine x_then ?_
  refine c_seq ?_
  refine c_seq ?_
  refine c_region ?_
  refine o_yield rfl rfl rfl (y_val tok rfl) ?_
  refine o_yield rfl rfl rfl (y_len tok rfl (fun hg => hs'.sl)) ?_
  refine o_yield rfl rfl rfl (y_val tok rfl) ?_
  refine o_end [0, 1, 7, 8] rfl ?_
  refine x_then ?_
  refine c_block ?_
  refine c_loop (σ := Nat) (fun k => [(0, .a (.v sv)), (1, .a (.v fv)), (7, .a (.v (I l.length))), (8, .a (.v (I k)))]) (fun _ => []) 0 (fun _ => vw w)
    (fun k => k ≤ l.length ∧ ∀ j x, j < k → l[j]? = some x → pr x = false) (fun k => l.length - k) 0 ⟨by omega, by simp⟩ ⟨rfl, rfl, rfl, rfl, trivial⟩ trivial rfl (Vw.le.refl _) ?_
  rintro k ⟨hk, hall⟩
  refine c_seq ?_
  refine c_region ?_
  refine o_yield rfl rfl rfl (y_val tok rfl) ?_
  refine o_end [0, 1, 7, 8, 9] rfl ?_
  refine x_then ?_
  refine c_seq ?_
  refine c_cond rfl (fun h => ?_) (fun h => ?_)
  ·
    refine c_skip ?_
    refine x_then ?_
    refine c_seq ?_
    refine c_block ?_
    refine c_seq ?_
    refine c_region ?_
    refine o_yield rfl rfl rfl (y_val tok rfl) ?_
    refine o_yield rfl rfl rfl (y_val tok rfl) ?_
    refine o_end [0, 1, 5, 7, 8] rfl ?_
    refine x_then ?_
    refine c_seq ?_
    refine c_region ?_
    refine o_yield rfl rfl rfl (y_val tok rfl) ?_
    refine o_yield rfl rfl rfl (y_val tok rfl) ?_
    refine o_yield rfl rfl rfl (y_val tok rfl) ?_
    have hlt : k < l.length := by simp at h; exact h
    have hx : l[k]? = some l[k] := by simp [hlt]
    refine o_yield rfl rfl rfl (y_idx tok rfl (fun hg => hs'.sl) (fun hg => ⟨by omega, by omega⟩)) ?_
    refine o_yield rfl rfl rfl (y_lel tok (k) 0 (l[k]) rfl (fun hg => hs') (fun hg => hx) rfl rfl) ?_
    refine o_callF (.a (.v _)) rfl rfl rfl rfl rfl (fun hg E w1 hm => by exact hf l[k] w1 (hV.trans hm.leV)) ?_
    refine o_end [0, 1, 5, 7, 8, 16] rfl ?_
    refine x_then ?_
    refine c_cond rfl (fun h => ?_) (fun h => ?_)
    ·
      refine c_seq ?_
      refine c_region ?_
      refine o_yield rfl rfl rfl (y_val tok rfl) ?_
      refine o_yield rfl rfl rfl (y_val tok rfl) ?_
      refine o_end [4] rfl ?_
      refine x_then ?_
      refine c_ret ?_
      refine x_block_ret ?_
      refine x_then_ret ?_
      refine x_then_ret ?_
      refine x_block_ret ?_
      refine x_then_ret ?_
      refine b_ret tok rfl ?_
      intro E w' hm _
      refine ⟨?_, hm.below (Vw.le.refl _)⟩
      rw [idxOf, findIdx?_at hx h hall]; rfl
    ·
      refine c_skip ?_
      refine x_block ?_
      refine x_then ?_
      refine c_region ?_
      refine o_yield rfl rfl rfl (y_val tok rfl) ?_
      refine o_yield rfl rfl rfl (y_val tok rfl) ?_
      refine o_end [0, 1, 7, 8] rfl ?_
      refine x_then ?_
      rw [wrapI (by omega) (by omega)]
      exact x_round (k + 1) ⟨by omega, ahead_succ hx hall h⟩ (by omega) ⟨rfl, rfl, rfl, rfl, trivial⟩ trivial rfl (Vw.le.refl _)
  ·
    refine c_exit ?_
    refine x_then_exit ?_
    refine x_then_exit ?_
    refine x_block_hit ?_
    refine x_then ?_
    refine c_seq ?_
    refine c_region ?_
    refine o_yield rfl rfl rfl (y_val tok rfl) ?_
    refine o_end [4] rfl ?_
    refine x_then ?_
    refine c_ret ?_
    refine b_ret tok rfl ?_
    have hge : k = l.length := by simp at h; omega
    intro E w' hm _
    refine ⟨?_, hm.below (Vw.le.refl _)⟩
    rw [idxOf, findIdx?_no (hge ▸ hall)]; rfl

theorem spContainsFunc_c (V : Vw) (fv sv : Value) (pr : Hold → Bool) (l : List Hold) (w : World) (hV : V.le (vw w)) (hs : SlOf V Hold.cells 4 sv l) (hn : l.length ≤ lim) (hf : Tells V fv pr) :
    Calls Try.prog 90 #[sv, fv] w fun e w' => e = .returned (.bool (l.any pr)) ∧ Below w.heap.size w w' := by
  refine enter (E := E0) (O := []) (nl := 0) (V := vw w) [.a (.v sv), .a (.v fv)] Try.func90 rfl rfl (mem0 E0 0 w) rfl rfl ?_
  refine c_seq ?_
  refine c_region ?_
  refine o_yield rfl rfl rfl (y_val tok rfl) ?_
  refine o_end [0, 1] rfl ?_
  refine x_then ?_
  refine c_seq ?_
  refine c_region ?_
  refine o_yield rfl rfl rfl (y_val tok rfl) ?_
  refine o_yield rfl rfl rfl (y_val tok rfl) ?_
  refine o_call (.a (.v _)) rfl rfl fnok128 rfl rfl rfl (fun hg E w1 hm => by exact spIndexFunc_c V fv sv pr l _ (hV.trans hm.leV) hs hn hf) ?_
  refine o_yield rfl rfl rfl (y_val tok rfl) ?_
  refine o_yield rfl rfl rfl (y_val tok rfl) ?_
  refine o_end [4] rfl ?_
  refine x_then ?_
  refine c_ret ?_
  refine b_ret tok rfl ?_
  intro E w' hm _
  refine ⟨?_, hm.below (Vw.le.refl _)⟩
  have : decide (0 ≤ idxOf pr l) = l.any pr := by
    rw [← any_findIdx, idxOf]
    cases l.findIdx? pr <;> simp
  rw [← this]; rfl

/-- The function that 'every' hands on. -/
theorem spEveryFn_c (V : Vw) (fv : Value) (pr : Hold → Bool) (b : Nat) (hb : V.get b = some (.cells #[fv] 105 (0, 0))) (hf : Tells V fv pr) (x : Hold) (w : World) (hV : V.le (vw w)) :
    Calls Try.prog 139 #[x.val, .pointer (some ⟨b, 0, none⟩)] w fun e w' => e = .returned (.bool (!pr x)) ∧ Below w.heap.size w w' := by
  refine enter (E := E0) (O := []) (nl := 0) (V := vw w) [.a (.v x.val), .a (.v (.pointer (some ⟨b, 0, none⟩)))] Try.func139 rfl rfl (mem0 E0 0 w) rfl rfl ?_
  refine c_seq ?_
  refine c_region ?_
  refine o_new tok rfl rfl rfl rfl ?_
  refine o_yield rfl rfl rfl (y_val tok rfl) ?_
  refine o_end [1, 2] rfl ?_
  refine x_then ?_
  refine c_seq ?_
  refine c_region ?_
  refine o_yield rfl rfl rfl (y_ldp (cs := [fv]) tok rfl (fun hg => hV.get _ _ hb) rfl) ?_
  refine o_yield rfl rfl rfl (y_val tok rfl) ?_
  refine o_callF (.a (.v _)) rfl rfl rfl rfl rfl (fun hg E w1 hm => by exact hf x w1 (hV.trans hm.leV)) ?_
  refine o_yield rfl rfl rfl (y_val tok rfl) ?_
  refine o_yield rfl rfl rfl (y_val tok rfl) ?_
  refine o_end [3] rfl ?_
  refine x_then ?_
  refine c_ret ?_
  refine b_ret tok rfl ?_
  intro E w' hm _
  exact ⟨rfl, hm.below (Vw.le.refl _)⟩

theorem spEvery_c (V : Vw) (k : Nat) (caps : Array Value) (sv : Value) (pr : Hold → Bool) (l : List Hold) (w : World) (hV : V.le (vw w)) (hs : SlOf V Hold.cells 4 sv l) (hn : l.length ≤ lim)
    (hf : Tells V (.func (.func k) #[] caps) pr) :
    Calls Try.prog 113 #[.func (.func k) #[] caps, sv] w fun e w' => e = .returned (.bool (l.all pr)) ∧ Below w.heap.size w w' := by
  refine enter (E := E0) (O := []) (nl := 0) (V := vw w) [.a (.v (.func (.func k) #[] caps)), .a (.v sv)] Try.func113 rfl rfl (mem0 E0 0 w) rfl rfl ?_
  refine c_seq ?_
  refine c_region ?_
  refine o_new tok rfl rfl rfl rfl ?_
  refine o_yield rfl rfl rfl (y_val tok rfl) ?_
  refine o_end [1, 2] rfl ?_
  refine x_then ?_
  refine c_seq ?_
  refine c_region ?_
  refine o_yield rfl rfl rfl (y_val tok rfl) ?_
  refine o_yield rfl rfl rfl (y_val tok rfl) ?_
  refine o_call (.a (.v (.bool (l.any fun x => !pr x)))) rfl rfl fnok90 rfl rfl rfl (fun hg E w1 hm => ?_) ?_
  · have hle := hm.leV
    have hb := hm.lit 0 _ _ rfl
    refine spContainsFunc_c (vw w1) _ sv (fun x => !pr x) l w1 (Vw.le.refl _) (hs.mono (hV.trans hle)) hn ?_
    intro x w' hle'
    exact ⟨139, _, rfl, fnok139, spEveryFn_c (vw w1) _ pr (E.ρ 0) hb (fun x w' h => hf x w' ((hV.trans hle).trans h)) x w' hle'⟩
  refine o_yield rfl rfl rfl (y_val tok rfl) ?_
  refine o_yield rfl rfl rfl (y_val tok rfl) ?_
  refine o_end [4] rfl ?_
  refine x_then ?_
  refine c_ret ?_
  refine b_ret tok rfl ?_
  intro E w' hm _
  refine ⟨?_, hm.below (Vw.le.refl _)⟩
  show Ending.returned (.bool (!(l.any fun x => !pr x))) = _
  rw [List.all_eq_not_any_not]

/-! Fits -/

theorem spFitsFn_c (V : Vw) (h : Hold) (b : Nat) (hb : V.get b = some (.cells h.cells.toArray 43 (0, 0))) (x : Hold) (w : World) (hV : V.le (vw w)) :
    Calls Try.prog 121 #[x.val, .pointer (some ⟨b, 0, none⟩)] w fun e w' => e = .returned (.bool (together h x)) ∧ Below w.heap.size w w' := by
  refine enter (E := E0) (O := []) (nl := 0) (V := vw w) [.a (.v x.val), .a (.v (.pointer (some ⟨b, 0, none⟩)))] Try.func121 rfl rfl (mem0 E0 0 w) rfl rfl ?_
  refine c_seq ?_
  refine c_region ?_
  refine o_new tok rfl rfl rfl rfl ?_
  refine o_yield rfl rfl rfl (y_val tok rfl) ?_
  refine o_end [1, 2] rfl ?_
  refine x_then ?_
  refine c_seq ?_
  refine c_region ?_
  refine o_yield rfl rfl rfl (y_ldp (cs := h.cells) tok rfl (fun hg => hV.get _ _ hb) rfl) ?_
  refine o_yield rfl rfl rfl (y_val tok rfl) ?_
  refine o_call (.a (.v _)) rfl rfl fnok122 rfl rfl rfl (fun hg E w1 hm => by exact spTogether_c h x _) ?_
  refine o_yield rfl rfl rfl (y_val tok rfl) ?_
  refine o_end [3] rfl ?_
  refine x_then ?_
  refine c_ret ?_
  refine b_ret tok rfl ?_
  intro E w' hm _
  exact ⟨rfl, hm.below (Vw.le.refl _)⟩

def fits (h : Hold) (l : List Hold) : Bool := l.all (together h)

theorem spFits_c (V : Vw) (h : Hold) (sv : Value) (l : List Hold) (w : World) (hV : V.le (vw w)) (hs : SlOf V Hold.cells 4 sv l) (hn : l.length ≤ lim) :
    Calls Try.prog 77 #[h.val, sv] w fun e w' => e = .returned (.bool (fits h l)) ∧ Below w.heap.size w w' := by
  refine enter (E := E0) (O := []) (nl := 0) (V := vw w) [.a (.v h.val), .a (.v sv)] Try.func77 rfl rfl (mem0 E0 0 w) rfl rfl ?_
  refine c_seq ?_
  refine c_region ?_
  refine o_new tok rfl rfl rfl rfl ?_
  refine o_yield rfl rfl rfl (y_val tok rfl) ?_
  refine o_end [1, 2] rfl ?_
  refine x_then ?_
  refine c_seq ?_
  refine c_region ?_
  refine o_yield rfl rfl rfl (y_val tok rfl) ?_
  refine o_yield rfl rfl rfl (y_val tok rfl) ?_
  refine o_call (.a (.v (.bool (fits h l)))) rfl rfl fnok113 rfl rfl rfl (fun hg E w1 hm => ?_) ?_
  · refine spEvery_c (vw w1) 121 _ sv (together h) l w1 (Vw.le.refl _) (hs.mono (hV.trans hm.leV)) hn ?_
    intro x w' hle'
    exact ⟨121, _, rfl, fnok121, spFitsFn_c (vw w1) h (E.ρ 0) (hm.lit 0 _ _ rfl) x w' hle'⟩
  refine o_yield rfl rfl rfl (y_val tok rfl) ?_
  refine o_end [4] rfl ?_
  refine x_then ?_
  refine c_ret ?_
  refine b_ret tok rfl ?_
  intro E w' hm _
  exact ⟨rfl, hm.below (Vw.le.refl _)⟩

/-! Covers -/

def coversAt (key block mode : Int) (o : Hold) : Bool := ((o.key == key) && hasB o.lo o.hi block) && ((o.mode == mode) || (o.mode == 2))

def covers (l : List Hold) (key block mode : Int) : Bool := l.any (coversAt key block mode)

/-! Touches -/

def touchesAt (key lo hi : Int) (o : Hold) : Bool := (o.key == key) && meets o.lo o.hi lo hi

theorem spTouchesFn_c (V : Vw) (key lo hi : Int) (b1 b2 : Nat) (h1 : V.get b1 = some (.cells #[I key] 3 (0, 0))) (h2 : V.get b2 = some (.cells #[I lo, I hi] 34 (0, 0)))
    (o : Hold) (w : World) (hV : V.le (vw w)) :
    Calls Try.prog 114 #[o.val, .pointer (some ⟨b1, 0, none⟩), .pointer (some ⟨b2, 0, none⟩)] w fun e w' => e = .returned (.bool (!touchesAt key lo hi o)) ∧ Below w.heap.size w w' := by
  refine enter (E := E0) (O := []) (nl := 0) (V := vw w) [.a (.v o.val), .a (.v (.pointer (some ⟨b1, 0, none⟩))), .a (.v (.pointer (some ⟨b2, 0, none⟩)))] Try.func114 rfl rfl (mem0 E0 0 w) rfl rfl ?_
  refine c_seq ?_
  refine c_region ?_
  refine o_new tok rfl rfl rfl rfl ?_
  refine o_yield rfl rfl rfl (y_val tok rfl) ?_
  refine o_end [1, 2, 3] rfl ?_
  refine x_then ?_
  refine c_seq ?_
  refine c_region ?_
  refine o_yield rfl rfl rfl (y_val tok rfl) ?_
  refine o_yield rfl rfl rfl (y_val tok rfl) ?_
  refine o_yield rfl rfl rfl (y_ldp (cs := [I key]) tok rfl (fun hg => hV.get _ _ h1) rfl) ?_
  refine o_yield rfl rfl rfl (y_val tok rfl) ?_
  refine o_yield rfl rfl rfl (y_val tok rfl) ?_
  refine o_yield rfl rfl rfl (y_val tok rfl) ?_
  refine o_yield rfl rfl rfl (y_val tok rfl) ?_
  refine o_yield rfl rfl rfl (y_ldp (cs := [I lo, I hi]) tok rfl (fun hg => hV.get _ _ h2) rfl) ?_
  refine o_call (.a (.v _)) rfl rfl fnok115 rfl rfl rfl (fun hg E w1 hm => by exact spOverlap_c _ _ _ _ _) ?_
  refine o_yield rfl rfl rfl (y_val tok rfl) ?_
  refine o_yield rfl rfl rfl (y_val tok rfl) ?_
  refine o_yield rfl rfl rfl (y_val tok rfl) ?_
  refine o_end [4] rfl ?_
  refine x_then ?_
  refine c_ret ?_
  refine b_ret tok rfl ?_
  intro E w' hm _
  refine ⟨?_, hm.below (Vw.le.refl _)⟩
  show Ending.returned (.bool ((o.key != key) || !meets o.lo o.hi lo hi)) = _
  congr 2
  unfold touchesAt bne
  cases (o.key == key) <;> cases meets o.lo o.hi lo hi <;> rfl

def touches (l : List Hold) (key lo hi : Int) : Bool := l.any (touchesAt key lo hi)

theorem spTouches_c (V : Vw) (sv : Value) (l : List Hold) (key lo hi : Int) (w : World) (hV : V.le (vw w)) (hs : SlOf V Hold.cells 4 sv l) (hn : l.length ≤ lim) :
    Calls Try.prog 65 #[sv, I key, .agg #[I lo, I hi]] w fun e w' => e = .returned (.bool (touches l key lo hi)) ∧ Below w.heap.size w w' := by
  refine enter (E := E0) (O := []) (nl := 0) (V := vw w) [.a (.v sv), .a (.v (I key)), .a (.v (.agg #[I lo, I hi]))] Try.func65 rfl rfl (mem0 E0 0 w) rfl rfl ?_
  refine c_seq ?_
  refine c_region ?_
  refine o_new tok rfl rfl rfl rfl ?_
  refine o_new tok rfl rfl rfl rfl ?_
  refine o_yield rfl rfl rfl (y_val tok rfl) ?_
  refine o_end [0, 4, 5] rfl ?_
  refine x_then ?_
  refine c_seq ?_
  refine c_region ?_
  refine o_yield rfl rfl rfl (y_val tok rfl) ?_
  refine o_yield rfl rfl rfl (y_val tok rfl) ?_
  refine o_call (.a (.v (.bool (l.all fun o => !touchesAt key lo hi o)))) rfl rfl fnok113 rfl rfl rfl (fun hg E w1 hm => ?_) ?_
  · refine spEvery_c (vw w1) 114 _ sv (fun o => !touchesAt key lo hi o) l w1 (Vw.le.refl _) (hs.mono (hV.trans hm.leV)) hn ?_
    intro x w' hle'
    exact ⟨114, _, rfl, fnok114, spTouchesFn_c (vw w1) key lo hi (E.ρ 0) (E.ρ 1) (hm.lit 0 _ _ rfl) (hm.lit 1 _ _ rfl) x w' hle'⟩
  refine o_yield rfl rfl rfl (y_val tok rfl) ?_
  refine o_yield rfl rfl rfl (y_val tok rfl) ?_
  refine o_end [6] rfl ?_
  refine x_then ?_
  refine c_ret ?_
  refine b_ret tok rfl ?_
  intro E w' hm _
  refine ⟨?_, hm.below (Vw.le.refl _)⟩
  show Ending.returned (.bool (!(l.all fun o => !touchesAt key lo hi o))) = _
  rw [touches, List.any_eq_not_all_not]

/-! All -/

def allFrom : List Hold → Nat → List Hold → Bool
  | _, _, [] => true
  | l, i, h :: r => fits h (l.take i) && allFrom l (i + 1) r

def allB (l : List Hold) : Bool := allFrom l 0 l

end Go.Proofs.Ytiapfhcimekdkaa

/- Spans: the document's. -/
set_option linter.unusedVariables false
set_option linter.unusedSimpArgs false
set_option maxRecDepth 100000
namespace Go.Proofs.Ytiapfhcimekdkaa
open Go Go.Eng Go.RowKit


theorem spRmay_eq (b lo hi : Int) : ((decide (0 ≤ lo) && decide (lo ≤ hi)) && decide (hi < b)) = may b lo hi := by
  unfold may
  rw [Bool.eq_iff_iff]
  simp
  omega

theorem spRmay_c (g : Geo) (lo hi : Int) (w : World) : Calls Try.prog 94 #[g.val, .agg #[I lo, I hi]] w fun e w' => e = .returned (.bool (may g.blocks lo hi)) ∧ Below w.heap.size w w' := by
  refine enter (E := E0) (O := []) (nl := 0) (V := vw w) [.a (.v g.val), .a (.v (.agg #[I lo, I hi]))] Try.func94 rfl rfl (mem0 E0 0 w) rfl rfl ?_
  refine c_seq ?_
  refine c_region ?_
  refine o_new tok rfl rfl rfl rfl ?_
  refine o_new tok rfl rfl rfl rfl ?_
  refine o_yield rfl rfl rfl (y_val tok rfl) ?_
  refine o_end [2, 3] rfl ?_
  refine x_then ?_
  refine c_seq ?_
  refine c_region ?_
  refine o_yield rfl rfl rfl (y_val tok rfl) ?_
  refine o_yield rfl rfl rfl (y_val tok rfl) ?_
  refine o_yield rfl rfl rfl (y_val tok rfl) ?_
  refine o_yield rfl rfl rfl (y_val tok rfl) ?_
  refine o_yield rfl rfl rfl (y_val tok rfl) ?_
  refine o_yield rfl rfl rfl (y_val tok rfl) ?_
  refine o_yield rfl rfl rfl (y_val tok rfl) ?_
  refine o_yield rfl rfl rfl (y_val tok rfl) ?_
  refine o_yield rfl rfl rfl (y_val tok rfl) ?_
  refine o_yield rfl rfl rfl (y_val tok rfl) ?_
  refine o_yield rfl rfl rfl (y_val tok rfl) ?_
  refine o_yield rfl rfl rfl (y_val tok rfl) ?_
  refine o_yield rfl rfl rfl (y_val tok rfl) ?_
  refine o_yield rfl rfl rfl (y_val tok rfl) ?_
  refine o_yield rfl rfl rfl (y_val tok rfl) ?_
  refine o_yield rfl rfl rfl (y_val tok rfl) ?_
  refine o_yield rfl rfl rfl (y_val tok rfl) ?_
  refine o_yield rfl rfl rfl (y_val tok rfl) ?_
  refine o_end [4] rfl ?_
  refine x_then ?_
  refine c_ret ?_
  refine b_ret tok rfl ?_
  intro E w' hm _
  exact ⟨by rw [← spRmay_eq]; rfl, hm.below (Vw.le.refl _)⟩

theorem spRhold_c (g : Geo) (h : Hold) (w : World) : Calls Try.prog 58 #[g.val, h.val] w fun e w' => e = .returned (.bool (holdB g.blocks h)) ∧ Below w.heap.size w w' := by
  refine enter (E := E0) (O := []) (nl := 0) (V := vw w) [.a (.v g.val), .a (.v h.val)] Try.func58 rfl rfl (mem0 E0 0 w) rfl rfl ?_
  refine c_seq ?_
  refine c_region ?_
  refine o_new tok rfl rfl rfl rfl ?_
  refine o_new tok rfl rfl rfl rfl ?_
  refine o_yield rfl rfl rfl (y_val tok rfl) ?_
  refine o_end [2, 3] rfl ?_
  refine x_then ?_
  refine c_seq ?_
  refine c_region ?_
  refine o_yield rfl rfl rfl (y_val tok rfl) ?_
  refine o_yield rfl rfl rfl (y_val tok rfl) ?_
  refine o_yield rfl rfl rfl (y_val tok rfl) ?_
  refine o_yield rfl rfl rfl (y_val tok rfl) ?_
  refine o_yield rfl rfl rfl (y_val tok rfl) ?_
  refine o_yield rfl rfl rfl (y_val tok rfl) ?_
  refine o_yield rfl rfl rfl (y_val tok rfl) ?_
  refine o_call (.a (.v _)) rfl rfl fnok94 rfl rfl rfl (fun hg E w1 hm => by exact spRmay_c g _ _ _) ?_
  refine o_yield rfl rfl rfl (y_val tok rfl) ?_
  refine o_yield rfl rfl rfl (y_val tok rfl) ?_
  refine o_yield rfl rfl rfl (y_val tok rfl) ?_
  refine o_yield rfl rfl rfl (y_val tok rfl) ?_
  refine o_yield rfl rfl rfl (y_val tok rfl) ?_
  refine o_yield rfl rfl rfl (y_val tok rfl) ?_
  refine o_yield rfl rfl rfl (y_val tok rfl) ?_
  refine o_yield rfl rfl rfl (y_val tok rfl) ?_
  refine o_yield rfl rfl rfl (y_val tok rfl) ?_
  refine o_yield rfl rfl rfl (y_val tok rfl) ?_
  refine o_yield rfl rfl rfl (y_val tok rfl) ?_
  refine o_yield rfl rfl rfl (y_val tok rfl) ?_
  refine o_end [4] rfl ?_
  refine x_then ?_
  refine c_ret ?_
  refine b_ret tok rfl ?_
  intro E w' hm _
  refine ⟨?_, hm.below (Vw.le.refl _)⟩
  show Ending.returned (.bool ((decide (1 ≤ h.key) && may g.blocks h.lo h.hi) && ((h.mode == 1) || (h.mode == 2)))) = _
  rw [show decide (1 ≤ h.key) = decide (0 < h.key) by rw [Bool.eq_iff_iff]; simp; omega]
  rfl

theorem spRoverlap_eq (lo hi lo' hi' : Int) : (((decide (lo ≤ hi) && decide (lo' ≤ hi')) && decide (lo ≤ hi')) && decide (lo' ≤ hi)) = meets lo hi lo' hi' := by
  unfold meets hasB
  rw [Bool.eq_iff_iff]
  simp
  omega

theorem spRoverlap_c (lo hi lo' hi' : Int) (w : World) : Calls Try.prog 69 #[.agg #[I lo, I hi], .agg #[I lo', I hi']] w fun e w' => e = .returned (.bool (meets lo hi lo' hi')) ∧ Below w.heap.size w w' := by
  refine enter (E := E0) (O := []) (nl := 0) (V := vw w) [.a (.v (.agg #[I lo, I hi])), .a (.v (.agg #[I lo', I hi']))] Try.func69 rfl rfl (mem0 E0 0 w) rfl rfl ?_
  refine c_seq ?_
  refine c_region ?_
  refine o_new tok rfl rfl rfl rfl ?_
  refine o_new tok rfl rfl rfl rfl ?_
  refine o_yield rfl rfl rfl (y_val tok rfl) ?_
  refine o_end [2, 3] rfl ?_
  refine x_then ?_
  refine c_seq ?_
  refine c_region ?_
  refine o_yield rfl rfl rfl (y_val tok rfl) ?_
  refine o_yield rfl rfl rfl (y_val tok rfl) ?_
  refine o_yield rfl rfl rfl (y_val tok rfl) ?_
  refine o_yield rfl rfl rfl (y_val tok rfl) ?_
  refine o_yield rfl rfl rfl (y_val tok rfl) ?_
  refine o_yield rfl rfl rfl (y_val tok rfl) ?_
  refine o_yield rfl rfl rfl (y_val tok rfl) ?_
  refine o_yield rfl rfl rfl (y_val tok rfl) ?_
  refine o_yield rfl rfl rfl (y_val tok rfl) ?_
  refine o_yield rfl rfl rfl (y_val tok rfl) ?_
  refine o_yield rfl rfl rfl (y_val tok rfl) ?_
  refine o_yield rfl rfl rfl (y_val tok rfl) ?_
  refine o_yield rfl rfl rfl (y_val tok rfl) ?_
  refine o_yield rfl rfl rfl (y_val tok rfl) ?_
  refine o_yield rfl rfl rfl (y_val tok rfl) ?_
  refine o_yield rfl rfl rfl (y_val tok rfl) ?_
  refine o_yield rfl rfl rfl (y_val tok rfl) ?_
  refine o_yield rfl rfl rfl (y_val tok rfl) ?_
  refine o_yield rfl rfl rfl (y_val tok rfl) ?_
  refine o_yield rfl rfl rfl (y_val tok rfl) ?_
  refine o_yield rfl rfl rfl (y_val tok rfl) ?_
  refine o_yield rfl rfl rfl (y_val tok rfl) ?_
  refine o_yield rfl rfl rfl (y_val tok rfl) ?_
  refine o_yield rfl rfl rfl (y_val tok rfl) ?_
  refine o_yield rfl rfl rfl (y_val tok rfl) ?_
  refine o_yield rfl rfl rfl (y_val tok rfl) ?_
  refine o_yield rfl rfl rfl (y_val tok rfl) ?_
  refine o_end [4] rfl ?_
  refine x_then ?_
  refine c_ret ?_
  refine b_ret tok rfl ?_
  intro E w' hm _
  exact ⟨by rw [← spRoverlap_eq]; rfl, hm.below (Vw.le.refl _)⟩

theorem spRtogether_c (a b : Hold) (w : World) : Calls Try.prog 19 #[a.val, b.val] w fun e w' => e = .returned (.bool (together a b)) ∧ Below w.heap.size w w' := by
  refine enter (E := E0) (O := []) (nl := 0) (V := vw w) [.a (.v a.val), .a (.v b.val)] Try.func19 rfl rfl (mem0 E0 0 w) rfl rfl ?_
  refine c_seq ?_
  refine c_region ?_
  refine o_new tok rfl rfl rfl rfl ?_
  refine o_new tok rfl rfl rfl rfl ?_
  refine o_yield rfl rfl rfl (y_val tok rfl) ?_
  refine o_end [2, 3] rfl ?_
  refine x_then ?_
  refine c_seq ?_
  refine c_region ?_
  refine o_yield rfl rfl rfl (y_val tok rfl) ?_
  refine o_yield rfl rfl rfl (y_val tok rfl) ?_
  refine o_yield rfl rfl rfl (y_val tok rfl) ?_
  refine o_yield rfl rfl rfl (y_val tok rfl) ?_
  refine o_yield rfl rfl rfl (y_val tok rfl) ?_
  refine o_yield rfl rfl rfl (y_val tok rfl) ?_
  refine o_yield rfl rfl rfl (y_val tok rfl) ?_
  refine o_yield rfl rfl rfl (y_val tok rfl) ?_
  refine o_yield rfl rfl rfl (y_val tok rfl) ?_
  refine o_yield rfl rfl rfl (y_val tok rfl) ?_
  refine o_call (.a (.v _)) rfl rfl fnok69 rfl rfl rfl (fun hg E w1 hm => by exact spRoverlap_c _ _ _ _ _) ?_
  refine o_yield rfl rfl rfl (y_val tok rfl) ?_
  refine o_yield rfl rfl rfl (y_val tok rfl) ?_
  refine o_yield rfl rfl rfl (y_val tok rfl) ?_
  refine o_yield rfl rfl rfl (y_val tok rfl) ?_
  refine o_yield rfl rfl rfl (y_val tok rfl) ?_
  refine o_yield rfl rfl rfl (y_val tok rfl) ?_
  refine o_yield rfl rfl rfl (y_val tok rfl) ?_
  refine o_yield rfl rfl rfl (y_val tok rfl) ?_
  refine o_yield rfl rfl rfl (y_val tok rfl) ?_
  refine o_yield rfl rfl rfl (y_val tok rfl) ?_
  refine o_yield rfl rfl rfl (y_val tok rfl) ?_
  refine o_yield rfl rfl rfl (y_val tok rfl) ?_
  refine o_yield rfl rfl rfl (y_val tok rfl) ?_
  refine o_end [4] rfl ?_
  refine x_then ?_
  refine c_ret ?_
  refine b_ret tok rfl ?_
  intro E w' hm _
  exact ⟨rfl, hm.below (Vw.le.refl _)⟩

theorem spRfits_c (V : Vw) (a : Hold) (sv : Value) (l : List Hold) (w : World) (hV : V.le (vw w)) (hs : SlOf V Hold.cells 4 sv l) (hn : l.length ≤ lim) :
    Calls Try.prog 78 #[a.val, sv] w fun e w' => e = .returned (.bool (fits a l)) ∧ Below w.heap.size w w' := by
  unfold lim at hn
  have hs' := hs.mono hV
  refine enter (E := E0) (O := []) (nl := 0) (V := vw w) [.a (.v a.val), .a (.v sv)] Try.func78 rfl rfl (mem0 E0 0 w) rfl rfl ?_
  refine c_seq ?_
  refine c_region ?_
  refine o_new tok rfl rfl rfl rfl ?_
  refine o_yield rfl rfl rfl (y_val tok rfl) ?_
  refine o_end [1, 2] rfl ?_
  refine x_then ?_
  refine c_seq ?_
  refine c_seq ?_
  refine c_region ?_
  refine o_yield rfl rfl rfl (y_val tok rfl) ?_
  refine o_end [1, 2, 5] rfl ?_
  refine x_then ?_
  refine c_block ?_
  refine c_loop (σ := Nat) (fun k => [(1, .a (.v sv)), (2, .a (.ptr 0 0)), (5, .a (.v (I k)))]) (fun _ => [(0, .lit [.v (I a.key), .v (I a.lo), .v (I a.hi), .v (I8 a.mode)] 43)]) 1 (fun _ => vw w)
    (fun k => k ≤ l.length ∧ ∀ j y, j < k → l[j]? = some y → together a y = true) (fun k => l.length - k) 0 ⟨by omega, by simp⟩ ⟨rfl, rfl, rfl, trivial⟩ ⟨rfl, trivial⟩ rfl (Vw.le.refl _) ?_
  rintro k ⟨hk, hall⟩
  refine c_seq ?_
  refine c_seq ?_
  refine c_region ?_
  refine o_yield rfl rfl rfl (y_val tok rfl) ?_
  refine o_yield rfl rfl rfl (y_val tok rfl) ?_
  refine o_yield rfl rfl rfl (y_len tok rfl (fun hg => hs'.sl)) ?_
  refine o_yield rfl rfl rfl (y_val tok rfl) ?_
  refine o_end [1, 2, 5, 9] rfl ?_
  refine x_then ?_
  refine c_cond rfl (fun h => ?_) (fun h => ?_)
  ·
    refine c_skip ?_
    refine x_then ?_
    refine c_seq ?_
    refine c_block ?_
    refine c_seq ?_
    refine c_draw mixed (by kernel_rfl) ?_
    refine d_yield rfl rfl rfl (y_val tok rfl) rfl ?_
    refine d_yield rfl rfl rfl (y_val tok rfl) rfl ?_
    refine d_yield rfl rfl rfl (y_val tok rfl) rfl ?_
    have hlt : k < l.length := by simp at h; exact h
    have hx : l[k]? = some l[k] := by simp [hlt]
    refine d_yield rfl rfl rfl (y_idx tok rfl (fun hg => hs'.sl) (fun hg => ⟨by omega, by omega⟩)) rfl ?_
    refine d_yield rfl rfl rfl (y_lel tok (k) 0 (l[k]) rfl (fun hg => hs') (fun hg => hx) rfl rfl) rfl ?_
    refine d_call (.a (.v _)) rfl rfl fnok19 rfl rfl rfl (fun hg E w1 hm => by exact spRtogether_c a l[k] _) ?_
    refine d_yield rfl rfl rfl (y_val tok rfl) rfl ?_
    refine d_end [1, 2, 5, 18] rfl ?_
    refine x_then ?_
    refine c_cond rfl (fun h => ?_) (fun h => ?_)
    ·
      refine c_seq ?_
      refine c_region ?_
      refine o_yield rfl rfl rfl (y_val tok rfl) ?_
      refine o_end [4] rfl ?_
      refine x_then ?_
      refine c_ret ?_
      refine x_block_ret ?_
      refine x_then_ret ?_
      refine x_then_ret ?_
      refine x_block_ret ?_
      refine x_then_ret ?_
      refine b_ret tok rfl ?_
      simp only [Bool.not_eq_true'] at h
      intro E w' hm _
      refine ⟨?_, hm.below (Vw.le.refl _)⟩
      rw [fits, all_no hx h]; rfl
    ·
      refine c_skip ?_
      refine x_block ?_
      refine x_then ?_
      refine c_region ?_
      refine o_yield rfl rfl rfl (y_val tok rfl) ?_
      refine o_yield rfl rfl rfl (y_val tok rfl) ?_
      refine o_yield rfl rfl rfl (y_val tok rfl) ?_
      refine o_end [1, 2, 5] rfl ?_
      refine x_then ?_
      simp only [Bool.not_eq_false'] at h
      rw [wrapI (by omega) (by omega)]
      exact x_round (k + 1) ⟨by omega, ahead_succ hx hall h⟩ (by omega) ⟨rfl, rfl, rfl, trivial⟩ ⟨rfl, trivial⟩ rfl (Vw.le.refl _)
  ·
    refine c_exit ?_
    refine x_then_exit ?_
    refine x_then_exit ?_
    refine x_block_hit ?_
    refine x_then ?_
    refine c_seq ?_
    refine c_region ?_
    refine o_yield rfl rfl rfl (y_val tok rfl) ?_
    refine o_end [4] rfl ?_
    refine x_then ?_
    refine c_ret ?_
    refine b_ret tok rfl ?_
    have hge : k = l.length := by simp at h; omega
    intro E w' hm _
    refine ⟨?_, hm.below (Vw.le.refl _)⟩
    rw [fits, all_of_ahead (hge ▸ hall)]; rfl

theorem spRtouches_c (V : Vw) (sv : Value) (l : List Hold) (key lo hi : Int) (w : World) (hV : V.le (vw w)) (hs : SlOf V Hold.cells 4 sv l) (hn : l.length ≤ lim) :
    Calls Try.prog 59 #[sv, I key, .agg #[I lo, I hi]] w fun e w' => e = .returned (.bool (touches l key lo hi)) ∧ Below w.heap.size w w' := by
  unfold lim at hn
  have hs' := hs.mono hV
  refine enter (E := E0) (O := []) (nl := 0) (V := vw w) [.a (.v sv), .a (.v (I key)), .a (.v (.agg #[I lo, I hi]))] Try.func59 rfl rfl (mem0 E0 0 w) rfl rfl ?_
  refine c_seq ?_
  refine c_region ?_
  refine o_new tok rfl rfl rfl rfl ?_
  refine o_yield rfl rfl rfl (y_val tok rfl) ?_
  refine o_end [0, 1, 5] rfl ?_
  refine x_then ?_
  refine c_seq ?_
  refine c_seq ?_
  refine c_region ?_
  refine o_yield rfl rfl rfl (y_val tok rfl) ?_
  refine o_end [0, 1, 5, 7] rfl ?_
  refine x_then ?_
  refine c_block ?_
  refine c_loop (σ := Nat) (fun k => [(0, .a (.v sv)), (1, .a (.v (I key))), (5, .a (.ptr 0 0)), (7, .a (.v (I k)))]) (fun _ => [(0, .lit [.v (I lo), .v (I hi)] 34)]) 1 (fun _ => vw w)
    (fun k => k ≤ l.length ∧ ∀ j y, j < k → l[j]? = some y → touchesAt key lo hi y = false) (fun k => l.length - k) 0 ⟨by omega, by simp⟩ ⟨rfl, rfl, rfl, rfl, trivial⟩ ⟨rfl, trivial⟩ rfl (Vw.le.refl _) ?_
  rintro k ⟨hk, hall⟩
  refine c_seq ?_
  refine c_seq ?_
  refine c_region ?_
  refine o_yield rfl rfl rfl (y_val tok rfl) ?_
  refine o_yield rfl rfl rfl (y_val tok rfl) ?_
  refine o_yield rfl rfl rfl (y_len tok rfl (fun hg => hs'.sl)) ?_
  refine o_yield rfl rfl rfl (y_val tok rfl) ?_
  refine o_end [0, 1, 5, 7, 11] rfl ?_
  refine x_then ?_
  refine c_cond rfl (fun h => ?_) (fun h => ?_)
  ·
    refine c_skip ?_
    refine x_then ?_
    refine c_seq ?_
    refine c_block ?_
    refine c_seq ?_
    refine c_draw mixed (by kernel_rfl) ?_
    refine d_yield rfl rfl rfl (y_val tok rfl) rfl ?_
    refine d_yield rfl rfl rfl (y_val tok rfl) rfl ?_
    have hlt : k < l.length := by simp at h; exact h
    have hx : l[k]? = some l[k] := by simp [hlt]
    refine d_yield rfl rfl rfl (y_idx tok rfl (fun hg => hs'.sl) (fun hg => ⟨by omega, by omega⟩)) rfl ?_
    refine d_yield rfl rfl rfl (y_fel tok rfl (fun hg => hs'.sl) (fun hg => by omega)) rfl ?_
    refine d_yield rfl rfl rfl (y_lel tok (k) 0 (l[k]) rfl (fun hg => hs') (fun hg => hx) rfl rfl) rfl ?_
    refine d_yield rfl rfl rfl (y_val tok rfl) rfl ?_
    refine d_yield rfl rfl rfl (y_val tok rfl) rfl ?_
    refine d_yield rfl rfl rfl (y_val tok rfl) rfl ?_
    refine d_yield rfl rfl rfl (y_val tok rfl) rfl ?_
    refine d_yield rfl rfl rfl (y_val tok rfl) rfl ?_
    refine d_yield rfl rfl rfl (y_idx tok rfl (fun hg => hs'.sl) (fun hg => ⟨by omega, by omega⟩)) rfl ?_
    refine d_yield rfl rfl rfl (y_fel tok rfl (fun hg => hs'.sl) (fun hg => by omega)) rfl ?_
    refine d_yield rfl rfl rfl (y_lel tok (k) 1 (l[k]) rfl (fun hg => hs') (fun hg => hx) rfl rfl) rfl ?_
    refine d_yield rfl rfl rfl (y_val tok rfl) rfl ?_
    refine d_call (.a (.v _)) rfl rfl fnok69 rfl rfl rfl (fun hg E w1 hm => by exact spRoverlap_c _ _ _ _ _) ?_
    refine d_yield rfl rfl rfl (y_val tok rfl) rfl ?_
    refine d_end [0, 1, 5, 7, 29] rfl ?_
    refine x_then ?_
    refine c_cond rfl (fun h => ?_) (fun h => ?_)
    ·
      refine c_seq ?_
      refine c_region ?_
      refine o_yield rfl rfl rfl (y_val tok rfl) ?_
      refine o_end [6] rfl ?_
      refine x_then ?_
      refine c_ret ?_
      refine x_block_ret ?_
      refine x_then_ret ?_
      refine x_then_ret ?_
      refine x_block_ret ?_
      refine x_then_ret ?_
      refine b_ret tok rfl ?_
      intro E w' hm _
      refine ⟨?_, hm.below (Vw.le.refl _)⟩
      have h' : touchesAt key lo hi l[k] = true := h
      rw [touches, any_of_at hx h']; rfl
    ·
      refine c_skip ?_
      refine x_block ?_
      refine x_then ?_
      refine c_region ?_
      refine o_yield rfl rfl rfl (y_val tok rfl) ?_
      refine o_yield rfl rfl rfl (y_val tok rfl) ?_
      refine o_yield rfl rfl rfl (y_val tok rfl) ?_
      refine o_end [0, 1, 5, 7] rfl ?_
      refine x_then ?_
      have h' : touchesAt key lo hi l[k] = false := h
      rw [wrapI (by omega) (by omega)]
      exact x_round (k + 1) ⟨by omega, ahead_succ hx hall h'⟩ (by omega) ⟨rfl, rfl, rfl, rfl, trivial⟩ ⟨rfl, trivial⟩ rfl (Vw.le.refl _)
  ·
    refine c_exit ?_
    refine x_then_exit ?_
    refine x_then_exit ?_
    refine x_block_hit ?_
    refine x_then ?_
    refine c_seq ?_
    refine c_region ?_
    refine o_yield rfl rfl rfl (y_val tok rfl) ?_
    refine o_end [6] rfl ?_
    refine x_then ?_
    refine c_ret ?_
    refine b_ret tok rfl ?_
    have hge : k = l.length := by simp at h; omega
    intro E w' hm _
    refine ⟨?_, hm.below (Vw.le.refl _)⟩
    rw [touches, any_no (hge ▸ hall)]; rfl

/-! What the document says of two holds -/

end Go.Proofs.Ytiapfhcimekdkaa

/- Spans: plain laws. -/
set_option linter.unusedVariables false
set_option linter.unusedSimpArgs false
set_option maxRecDepth 100000
namespace Go.Proofs.Ytiapfhcimekdkaa
open Go Go.Eng Go.RowKit

theorem meets_comm (lo hi lo' hi' : Int) : meets lo hi lo' hi' = meets lo' hi' lo hi := by
  simp only [meets]
  rw [Bool.and_comm (!decide (hi < lo)), Bool.or_comm]

theorem together_comm (a b : Hold) : together a b = together b a := by
  simp only [together]
  rw [meets_comm, show (a.key == b.key) = (b.key == a.key) by rw [Bool.eq_iff_iff]; simp; exact eq_comm, Bool.and_comm (a.mode == 1)]

theorem allFrom_iff (l : List Hold) : ∀ (r : List Hold) (i : Nat), l.drop i = r → (allFrom l i r = true ↔ ∀ j x, i ≤ j → l[j]? = some x → fits x (l.take j) = true)
  | [], i, hd => by
    have : l.length ≤ i := by simpa using hd
    simp only [allFrom, true_iff]
    intro j x hj hx
    have := (List.getElem?_eq_some_iff.1 hx).1
    omega
  | y :: r, i, hd => by
    have hlt : i < l.length := by
      rcases Nat.lt_or_ge i l.length with h | h
      · exact h
      · rw [List.drop_eq_nil_of_le h] at hd; cases hd
    have hy : l[i]? = some y := by
      have := congrArg (fun q : List Hold => q[0]?) hd
      simpa using this
    have hr : l.drop (i + 1) = r := by
      have := congrArg List.tail hd
      simpa using this
    have ih := allFrom_iff l r (i + 1) hr
    simp only [allFrom, Bool.and_eq_true, ih]
    constructor
    · rintro ⟨h1, h2⟩ j x hj hx
      by_cases e : j = i
      · subst e; rw [hy] at hx; cases hx; exact h1
      · exact h2 j x (by omega) hx
    · intro h
      exact ⟨h i y (Nat.le_refl _) hy, fun j x hj hx => h j x (by omega) hx⟩

theorem allB_iff (l : List Hold) : allB l = true ↔ ∀ j x, l[j]? = some x → fits x (l.take j) = true := by
  rw [allB, allFrom_iff l l 0 rfl]
  exact ⟨fun h j x hx => h j x (Nat.zero_le _) hx, fun h j x _ hx => h j x hx⟩

theorem allB_two {l : List Hold} (h : allB l = true) {i j : Nat} {x y : Hold} (hx : l[i]? = some x) (hy : l[j]? = some y) : together x y = true := by
  rw [allB_iff] at h
  have key : ∀ {i j : Nat} {x y : Hold}, i < j → l[i]? = some x → l[j]? = some y → together y x = true := by
    intro i j x y hij hx hy
    have := h j y hy
    rw [fits, List.all_eq_true] at this
    exact this x (List.mem_of_getElem? (by rw [List.getElem?_take_of_lt hij]; exact hx))
  rcases Nat.lt_trichotomy i j with hij | hij | hij
  · rw [together_comm]; exact key hij hx hy
  · subst hij
    rw [hx] at hy
    cases hy
    simp [together]
  · exact key hij hy hx

theorem allB_more (l : List Hold) (x : Hold) (h : allB l = true) : allB (l ++ [x]) = fits x l := by
  rw [Bool.eq_iff_iff, allB_iff]
  rw [allB_iff] at h
  constructor
  · intro h1
    have := h1 l.length x (by simp)
    simpa using this
  · intro h1 j y hy
    rcases Nat.lt_or_ge j l.length with hj | hj
    · rw [List.getElem?_append_left hj] at hy
      rw [List.take_append_of_le_length (by omega)]
      exact h j y hy
    · rw [List.getElem?_append_right hj] at hy
      have : j = l.length := by
        have := (List.getElem?_eq_some_iff.1 hy).1
        simp at this; omega
      subst this
      simp at hy
      subst hy
      simpa using h1

theorem hold_ones (l : List Hold) : ∀ u ∈ l.flatMap Hold.cells, u.oneCell' = true := by
  intro u hu
  obtain ⟨x, _, hx⟩ := List.mem_flatMap.1 hu
  simp only [Hold.cells, List.mem_cons, List.not_mem_nil, or_false] at hx
  rcases hx with rfl | rfl | rfl | rfl <;> rfl

end Go.Proofs.Ytiapfhcimekdkaa
