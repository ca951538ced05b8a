import Derived.Test.YtikdaehmaaogdaaMFlds
import Derived.Test.YtikdaehmaaogdaaEng38
import Derived.Test.YtikdaehmaaogdaaEng28
/- Learning: members and old keys. -/
set_option linter.unusedVariables false
set_option linter.unusedSimpArgs false
set_option maxRecDepth 100000
namespace Go.Proofs.Ytikdaehmaaogdaa
open Go Go.Eng Go.RowKit

def seatOf (n : Int) : Int := if keyB n = true then n.tmod 16 else -1

/-- A function value that tells pr of numbers. -/
def TellsN (V : Vw) (fv : Value) (pr : Int → Bool) : Prop :=
  ∀ (x : Int) w', V.le (vw w') → CallsB Try.prog fv [I x] w' fun e w'' => e = .returned (.bool (pr x)) ∧ Below w'.heap.size w' w''

def oldB (key m : Int) : Bool := (keyB key && decide (m < key)) && (seatOf m == seatOf key)

end Go.Proofs.Ytikdaehmaaogdaa

/- Rows of blocks: the program's, and the document's. -/
set_option linter.unusedVariables false
set_option linter.unusedSimpArgs false
set_option maxRecDepth 100000
namespace Go.Proofs.Ytikdaehmaaogdaa
open Go Go.Eng Go.RowKit

/-- A function value that tells pr, wherever V is read. -/
def TellsB (V : Vw) (fv : Value) (pr : Block → Bool) : Prop :=
  ∀ (x : Block) w', V.le (vw w') → CallsFn Try.prog fv [x.val] w' fun e w'' => e = .returned (.bool (pr x)) ∧ Below w'.heap.size w' w''

/-- The first block of which pr is told. -/
def idxB (pr : Block → Bool) : List Block → Nat → Int
  | [], _ => -1
  | b :: r, i => if pr b = true then i else idxB pr r (i + 1)

/-- What a row tells of a place. -/
def getB : List Block → Int → ByteArray × Bool
  | [], _ => (ByteArray.empty, false)
  | b :: r, k => if b.n = k then (b.text, true) else getB r k

theorem sl_shape {V : Vw} {v : Value} {sz m : Nat} {xs : List Value} (h : IsSl V v sz m xs) : ∃ a n c, v = .slice a n c := by
  rcases h.2 with ⟨a, c, rfl, _⟩ | ⟨g, o, cap, cur, e, f, rfl, _⟩
  · exact ⟨_, _, _, rfl⟩
  · exact ⟨_, _, _, rfl⟩

end Go.Proofs.Ytikdaehmaaogdaa

/- Where everything stands: the program's regions. -/
set_option linter.unusedVariables false
set_option linter.unusedSimpArgs false
set_option maxRecDepth 100000
namespace Go.Proofs.Ytikdaehmaaogdaa
open Go Go.Eng Go.RowKit

/-- A stretch of things of a kind. -/
structure Reg where
  first : Int
  many : Int
  kind : Int
  per : Int
abbrev Reg.cells (r : Reg) : List Value := [I r.first, I r.many, I8 r.kind, I r.per]
abbrev Reg.val (r : Reg) : Value := .agg #[I r.first, I r.many, I8 r.kind, I r.per]

/-- The first sector of data. -/
def dataAt (g : Geo) : Int := 1 + 2 * g.nodes + g.log + g.slots * (1 + g.journal)

def regs (g : Geo) : List Reg :=
  [⟨0, 1, 1, 1⟩, ⟨1, g.nodes, 2, 1⟩, ⟨1 + g.nodes, g.nodes, 3, 1⟩, ⟨1 + 2 * g.nodes, g.log, 4, 1⟩, ⟨1 + 2 * g.nodes + g.log, g.slots * (1 + g.journal), 6, 1 + g.journal⟩, ⟨dataAt g, g.blocks * g.per, 7, g.per⟩]

theorem stretchEnd_c (a b : Int) (w : World) : Calls Try.prog 108 #[.agg #[I a, I b]] w fun e w' => e = .returned (I (IntKind.i64.wrap (a + b))) ∧ Below w.heap.size w w' := by
  refine enter (E := E0) (O := []) (nl := 0) (V := vw w) [.a (.v (.agg #[I a, I b]))] Try.func108 rfl rfl (mem0 E0 0 w) rfl rfl ?_
  refine c_seq ?_
  refine c_region ?_
  refine o_new tok rfl rfl rfl rfl ?_
  refine o_yield rfl rfl rfl (y_val tok rfl) ?_
  refine o_end [1] rfl ?_
  refine x_then ?_
  refine c_seq ?_
  refine c_region ?_
  refine o_yield rfl rfl rfl (y_val tok rfl) ?_
  refine o_yield rfl rfl rfl (y_val tok rfl) ?_
  refine o_yield rfl rfl rfl (y_val tok rfl) ?_
  refine o_yield rfl rfl rfl (y_val tok rfl) ?_
  refine o_yield rfl rfl rfl (y_val tok rfl) ?_
  refine o_yield rfl rfl rfl (y_val tok rfl) ?_
  refine o_end [2] rfl ?_
  refine x_then ?_
  refine c_ret ?_
  refine b_ret tok rfl ?_
  intro E w' hm _
  refine ⟨?_, hm.below (Vw.le.refl _)⟩
  rfl

theorem stretchAt_c (a b k : Int) (w : World) : Calls Try.prog 112 #[.agg #[I a, I b], I k] w fun e w' => e = .returned (I (if k < 0 ∨ b ≤ k then -1 else IntKind.i64.wrap (a + k))) ∧ Below w.heap.size w w' := by
  refine enter (E := E0) (O := []) (nl := 0) (V := vw w) [.a (.v (.agg #[I a, I b])), .a (.v (I k))] Try.func112 rfl rfl (mem0 E0 0 w) rfl rfl ?_
  refine c_seq ?_
  refine c_region ?_
  refine o_new tok rfl rfl rfl rfl ?_
  refine o_yield rfl rfl rfl (y_val tok rfl) ?_
  refine o_end [1, 2] rfl ?_
  refine x_then ?_
  refine c_seq ?_
  refine c_seq ?_
  refine c_region ?_
  refine o_yield rfl rfl rfl (y_val tok rfl) ?_
  refine o_yield rfl rfl rfl (y_val tok rfl) ?_
  refine o_yield rfl rfl rfl (y_val tok rfl) ?_
  refine o_yield rfl rfl rfl (y_val tok rfl) ?_
  refine o_yield rfl rfl rfl (y_val tok rfl) ?_
  refine o_yield rfl rfl rfl (y_val tok rfl) ?_
  refine o_yield rfl rfl rfl (y_val tok rfl) ?_
  refine o_yield rfl rfl rfl (y_val tok rfl) ?_
  refine o_end [1, 2, 12] rfl ?_
  refine x_then ?_
  refine c_cond rfl (fun h => ?_) (fun h => ?_)
  ·
    simp only [Bool.and_eq_true, Bool.or_eq_true, Bool.not_eq_true', Bool.or_eq_false_iff, Bool.and_eq_false_iff, decide_eq_true_eq, decide_eq_false_iff_not, beq_iff_eq, bne_iff_ne, Bool.not_eq_false', beq_eq_false_iff_ne, bne_eq_false_iff_eq, ne_eq, Decidable.not_not, Int.not_lt, Int.not_le] at h
    refine c_seq ?_
    refine c_region ?_
    refine o_yield rfl rfl rfl (y_val tok rfl) ?_
    refine o_end [4] rfl ?_
    refine x_then ?_
    refine c_ret ?_
    refine x_then_ret ?_
    refine b_ret tok rfl ?_
    intro E w' hm _
    refine ⟨?_, hm.below (Vw.le.refl _)⟩
    rw [if_pos (by omega)]; rfl
  ·
    simp only [Bool.and_eq_true, Bool.or_eq_true, Bool.not_eq_true', Bool.or_eq_false_iff, Bool.and_eq_false_iff, decide_eq_true_eq, decide_eq_false_iff_not, beq_iff_eq, bne_iff_ne, Bool.not_eq_false', beq_eq_false_iff_ne, bne_eq_false_iff_eq, ne_eq, Decidable.not_not, Int.not_lt, Int.not_le] at h
    refine c_skip ?_
    refine x_then ?_
    refine c_seq ?_
    refine c_region ?_
    refine o_yield rfl rfl rfl (y_val tok rfl) ?_
    refine o_yield rfl rfl rfl (y_val tok rfl) ?_
    refine o_yield rfl rfl rfl (y_val tok rfl) ?_
    refine o_yield rfl rfl rfl (y_val tok rfl) ?_
    refine o_yield rfl rfl rfl (y_val tok rfl) ?_
    refine o_end [4] rfl ?_
    refine x_then ?_
    refine c_ret ?_
    refine b_ret tok rfl ?_
    intro E w' hm _
    refine ⟨?_, hm.below (Vw.le.refl _)⟩
    rw [if_neg (by omega)]; rfl

theorem geo_facts {g : Geo} (h : geoB g = true) : (1 ≤ g.nodes ∧ g.nodes ≤ 16) ∧ (1 ≤ g.slots ∧ g.slots ≤ g.nodes) ∧ (1 ≤ g.blocks ∧ g.blocks ≤ 64) ∧ (1 ≤ g.per ∧ g.per ≤ 8) ∧ (g.per + 2 ≤ g.journal ∧ g.journal ≤ 64) ∧
  (8 * g.slots ≤ g.log ∧ g.log ≤ 512) ∧ (1 ≤ g.lease ∧ g.lease < g.wait ∧ g.wait ≤ 1048576) := by simpa [geoB] using h

theorem prod_bound {a b A B : Int} (ha : 0 ≤ a) (hb : 0 ≤ b) (h1 : a ≤ A) (h2 : b ≤ B) : 0 ≤ a * b ∧ a * b ≤ A * B :=
  ⟨Int.mul_nonneg ha hb, Int.le_trans (Int.mul_le_mul_of_nonneg_right h1 hb) (Int.mul_le_mul_of_nonneg_left h2 (by omega))⟩

theorem reg_ones (l : List Reg) : ∀ u ∈ l.flatMap Reg.cells, u.oneCell' = true := by
  intro u hu
  obtain ⟨x, _, hx⟩ := List.mem_flatMap.1 hu
  simp only [Reg.cells, List.mem_cons, List.not_mem_nil, or_false] at hx
  rcases hx with rfl | rfl | rfl | rfl <;> rfl

theorem regions_c (g : Geo) (ok : g.Ok) (w : World) :
    Calls Try.prog 130 #[g.val] w fun e w' => ((geoB g = true ∧ ∃ v, e = .returned v ∧ w'.ownsRow w.heap.size 178 4 v 6 ((regs g).flatMap Reg.cells)) ∨ (geoB g = false ∧ e = .returned (.slice none 0 0))) ∧ Below w.heap.size w w' := by
  refine enter (E := E0) (O := []) (nl := 0) (V := vw w) [.a (.v g.val)] Try.func130 rfl rfl (mem0 E0 0 w) rfl rfl ?_
  refine c_seq ?_
  refine c_region ?_
  refine o_new tok rfl rfl rfl rfl ?_
  refine o_new tok rfl rfl rfl rfl ?_
  refine o_end [1, 2] rfl ?_
  refine x_then ?_
  refine c_seq ?_
  refine c_seq ?_
  refine c_region ?_
  refine o_yield rfl rfl rfl (y_val tok rfl) ?_
  refine o_call (.a (.v _)) rfl rfl fnok86 rfl rfl rfl (fun hg E w1 hm => by exact geoMay_c g ok _) ?_
  refine o_yield rfl rfl rfl (y_val tok rfl) ?_
  refine o_end [1, 2, 7] rfl ?_
  refine x_then ?_
  refine c_cond rfl (fun h => ?_) (fun h => ?_)
  ·
    simp only [Bool.and_eq_true, Bool.or_eq_true, Bool.not_eq_true', Bool.or_eq_false_iff, Bool.and_eq_false_iff, decide_eq_true_eq, decide_eq_false_iff_not, beq_iff_eq, bne_iff_ne, Bool.not_eq_false', beq_eq_false_iff_ne, bne_eq_false_iff_eq, ne_eq, Decidable.not_not, Int.not_lt, Int.not_le] at h
    refine c_seq ?_
    refine c_region ?_
    refine o_store tok rfl rfl rfl (by first | exact ⟨trivial, trivial⟩ | (repeat' first | exact trivial | exact rfl | apply And.intro); done | simp [onesP, oneP, lk, Value.oneCell']) ?_
    refine o_end [2] rfl ?_
    refine x_then ?_
    refine c_ret ?_
    refine x_then_ret ?_
    refine b_ret tok rfl ?_
    intro E w' hm _
    exact ⟨.inr ⟨by simpa using h, rfl⟩, hm.below (Vw.le.refl _)⟩
  ·
    simp only [Bool.and_eq_true, Bool.or_eq_true, Bool.not_eq_true', Bool.or_eq_false_iff, Bool.and_eq_false_iff, decide_eq_true_eq, decide_eq_false_iff_not, beq_iff_eq, bne_iff_ne, Bool.not_eq_false', beq_eq_false_iff_ne, bne_eq_false_iff_eq, ne_eq, Decidable.not_not, Int.not_lt, Int.not_le] at h
    refine c_skip ?_
    refine x_then ?_
    refine c_seq ?_
    refine c_region ?_
    refine o_new tok rfl rfl rfl rfl ?_
    refine o_store tok rfl rfl rfl (by first | exact ⟨trivial, trivial⟩ | (repeat' first | exact trivial | exact rfl | apply And.intro); done | simp [onesP, oneP, lk, Value.oneCell']) ?_
    refine o_end [1, 2, 3] rfl ?_
    refine x_then ?_
    refine c_seq ?_
    refine c_region ?_
    refine o_yield rfl rfl rfl (y_val tok rfl) ?_
    refine o_yield rfl rfl rfl (y_val tok rfl) ?_
    refine o_end [1, 2, 4] rfl ?_
    refine x_then ?_
    refine c_seq ?_
    refine c_region ?_
    refine o_yield rfl rfl rfl (y_val tok rfl) ?_
    have hgeo : geoB g = true := by simpa using h
    clear h
    have hf := geo_facts hgeo
    have hs := prod_bound (a := g.slots) (b := 1 + g.journal) (A := 16) (B := 65) (by omega) (by omega) (by omega) (by omega)
    have hb := prod_bound (a := g.blocks) (b := g.per) (A := 64) (B := 8) (by omega) (by omega) (by omega) (by omega)
    have hda : dataAt g = 1 + 2 * g.nodes + g.log + g.slots * (1 + g.journal) := rfl
    refine k_nilO 1 0 178 4 rfl rfl ?_
    refine o_inl rfl rfl rfl rfl rfl fnok146 Try.func146 rfl rfl rfl (fun E => ?_)
    refine c_seq ?_
    refine c_region ?_
    refine o_yield rfl rfl rfl (y_val tok rfl) ?_
    refine o_yield rfl rfl rfl (y_val tok rfl) ?_
    refine o_yield rfl rfl rfl (y_val tok rfl) ?_
    refine o_yield rfl rfl rfl (y_val tok rfl) ?_
    refine o_yield rfl rfl rfl (y_val tok rfl) ?_
    refine o_yield rfl rfl rfl (y_val tok rfl) ?_
    refine o_yield rfl rfl rfl (y_val tok rfl) ?_
    refine o_yield rfl rfl rfl (y_val tok rfl) ?_
    refine o_new tok rfl rfl rfl rfl ?_
    refine o_store tok rfl rfl rfl (by first | exact ⟨trivial, trivial⟩ | (repeat' first | exact trivial | exact rfl | apply And.intro); done | simp [onesP, oneP, lk, Value.oneCell']) ?_
    refine o_end [3, 4, 8] rfl ?_
    refine x_then ?_
    refine c_seq ?_
    refine c_region ?_
    refine o_yield rfl rfl rfl (y_val tok rfl) ?_
    refine o_yield rfl rfl rfl (y_val tok rfl) ?_
    rw [show IntKind.i64.wrap (1 * 1) = 1 by rw [wrapI (by omega) (by omega)]; try omega]
    refine o_step rfl rfl rfl rfl rfl (s_bs tok 4 rfl rfl rfl) (fun _ _ => ?_)
    refine o_step rfl rfl rfl rfl rfl (s_app tok (⟨0, 1, 1, 1⟩ : Reg).cells rfl (fun E w hm => ownsRow_src (hm.row _ _ _ _ _ rfl)) (fun _ _ _ => by simpa using reg_ones [(⟨0, 1, 1, 1⟩ : Reg)]) (by dsimp only; omega)) (fun _ _ => ?_)
    refine o_store tok rfl rfl rfl (by first | exact ⟨trivial, trivial⟩ | (repeat' first | exact trivial | exact rfl | apply And.intro); done | simp [onesP, oneP, lk, Value.oneCell']) ?_
    refine o_end [3, 8] rfl ?_
    refine x_then ?_
    refine c_region ?_
    refine o_yield rfl rfl rfl (y_val tok rfl) ?_
    refine o_yield rfl rfl rfl (y_val tok rfl) ?_
    refine o_call (.a (.v _)) rfl rfl fnok108 rfl rfl rfl (fun hg E w1 hm => by exact stretchEnd_c _ _ _) ?_
    refine o_store tok rfl rfl rfl (by first | exact ⟨trivial, trivial⟩ | (repeat' first | exact trivial | exact rfl | apply And.intro); done | simp [onesP, oneP, lk, Value.oneCell']) ?_
    refine o_end [] rfl ?_
    refine b_end tok rfl ?_
    rw [show IntKind.i64.wrap (0 + 1) = 1 by rw [wrapI (by omega) (by omega)]; try omega]
    intro E1 w1 hm1 hok1
    refine inl_end (E := E) hm1 hok1 rfl rfl (by repeat (first | exact KeepsIn.zero | refine KeepsIn.succ rfl ?_)) rfl (by repeat (first | exact SubO.nil | refine SubO.cons rfl ?_)) rfl ?_
    clear hm1 hok1 w1 E1 E
    refine k_swap 3 10 rfl ?_
    refine weaken (l := [(1, .a (.ptr 0 0)), (2, .a (.ptr 1 0)), (4, .a (.fn 146 [(2, 0), (1, 0)]))]) (O' := [(0, .lit (g.cells.map .v) 23), (1, .lit [.row 3] 202), (2, .lit [.v (I (1))] 3), (3, .row 178 4 1 (((regs g).take 1).flatMap Reg.cells))]) (nl' := 4) ?_ (by repeat (first | exact SubF.nil | refine SubF.cons rfl ?_)) (by repeat (first | exact SubO.nil | refine SubO.cons rfl ?_)) rfl (Vw.le.refl _)
    refine o_end [1, 2, 4] rfl ?_
    refine x_then ?_
    refine c_seq ?_
    refine c_region ?_
    refine o_yield rfl rfl rfl (y_val tok rfl) ?_
    refine o_yield rfl rfl rfl (y_val tok rfl) ?_
    refine o_yield rfl rfl rfl (y_val tok rfl) ?_
    refine o_inl rfl rfl rfl rfl rfl fnok146 Try.func146 rfl rfl rfl (fun E => ?_)
    refine c_seq ?_
    refine c_region ?_
    refine o_yield rfl rfl rfl (y_val tok rfl) ?_
    refine o_yield rfl rfl rfl (y_val tok rfl) ?_
    refine o_yield rfl rfl rfl (y_val tok rfl) ?_
    refine o_yield rfl rfl rfl (y_val tok rfl) ?_
    refine o_yield rfl rfl rfl (y_val tok rfl) ?_
    refine o_yield rfl rfl rfl (y_val tok rfl) ?_
    refine o_yield rfl rfl rfl (y_val tok rfl) ?_
    refine o_yield rfl rfl rfl (y_val tok rfl) ?_
    refine o_new tok rfl rfl rfl rfl ?_
    refine o_store tok rfl rfl rfl (by first | exact ⟨trivial, trivial⟩ | (repeat' first | exact trivial | exact rfl | apply And.intro); done | simp [onesP, oneP, lk, Value.oneCell']) ?_
    refine o_end [3, 4, 8] rfl ?_
    refine x_then ?_
    refine c_seq ?_
    refine c_region ?_
    refine o_yield rfl rfl rfl (y_val tok rfl) ?_
    refine o_yield rfl rfl rfl (y_val tok rfl) ?_
    rw [show IntKind.i64.wrap (g.nodes * 1) = g.nodes by rw [wrapI (by omega) (by omega)]; try omega]
    refine o_step rfl rfl rfl rfl rfl (s_bs tok 4 rfl rfl rfl) (fun _ _ => ?_)
    refine o_step rfl rfl rfl rfl rfl (s_app tok (⟨1, g.nodes, 2, 1⟩ : Reg).cells rfl (fun E w hm => ownsRow_src (hm.row _ _ _ _ _ rfl)) (fun _ _ _ => by simpa using reg_ones [(⟨1, g.nodes, 2, 1⟩ : Reg)]) (by dsimp only; omega)) (fun _ _ => ?_)
    refine o_store tok rfl rfl rfl (by first | exact ⟨trivial, trivial⟩ | (repeat' first | exact trivial | exact rfl | apply And.intro); done | simp [onesP, oneP, lk, Value.oneCell']) ?_
    refine o_end [3, 8] rfl ?_
    refine x_then ?_
    refine c_region ?_
    refine o_yield rfl rfl rfl (y_val tok rfl) ?_
    refine o_yield rfl rfl rfl (y_val tok rfl) ?_
    refine o_call (.a (.v _)) rfl rfl fnok108 rfl rfl rfl (fun hg E w1 hm => by exact stretchEnd_c _ _ _) ?_
    refine o_store tok rfl rfl rfl (by first | exact ⟨trivial, trivial⟩ | (repeat' first | exact trivial | exact rfl | apply And.intro); done | simp [onesP, oneP, lk, Value.oneCell']) ?_
    refine o_end [] rfl ?_
    refine b_end tok rfl ?_
    rw [show IntKind.i64.wrap (1 + g.nodes) = 1 + g.nodes by rw [wrapI (by omega) (by omega)]; try omega]
    intro E1 w1 hm1 hok1
    refine inl_end (E := E) hm1 hok1 rfl rfl (by repeat (first | exact KeepsIn.zero | refine KeepsIn.succ rfl ?_)) rfl (by repeat (first | exact SubO.nil | refine SubO.cons rfl ?_)) rfl ?_
    clear hm1 hok1 w1 E1 E
    refine k_swap 3 10 rfl ?_
    refine weaken (l := [(1, .a (.ptr 0 0)), (2, .a (.ptr 1 0)), (4, .a (.fn 146 [(2, 0), (1, 0)]))]) (O' := [(0, .lit (g.cells.map .v) 23), (1, .lit [.row 3] 202), (2, .lit [.v (I (1 + g.nodes))] 3), (3, .row 178 4 2 (((regs g).take 2).flatMap Reg.cells))]) (nl' := 4) ?_ (by repeat (first | exact SubF.nil | refine SubF.cons rfl ?_)) (by repeat (first | exact SubO.nil | refine SubO.cons rfl ?_)) rfl (Vw.le.refl _)
    refine o_end [1, 2, 4] rfl ?_
    refine x_then ?_
    refine c_seq ?_
    refine c_region ?_
    refine o_yield rfl rfl rfl (y_val tok rfl) ?_
    refine o_yield rfl rfl rfl (y_val tok rfl) ?_
    refine o_yield rfl rfl rfl (y_val tok rfl) ?_
    refine o_inl rfl rfl rfl rfl rfl fnok146 Try.func146 rfl rfl rfl (fun E => ?_)
    refine c_seq ?_
    refine c_region ?_
    refine o_yield rfl rfl rfl (y_val tok rfl) ?_
    refine o_yield rfl rfl rfl (y_val tok rfl) ?_
    refine o_yield rfl rfl rfl (y_val tok rfl) ?_
    refine o_yield rfl rfl rfl (y_val tok rfl) ?_
    refine o_yield rfl rfl rfl (y_val tok rfl) ?_
    refine o_yield rfl rfl rfl (y_val tok rfl) ?_
    refine o_yield rfl rfl rfl (y_val tok rfl) ?_
    refine o_yield rfl rfl rfl (y_val tok rfl) ?_
    refine o_new tok rfl rfl rfl rfl ?_
    refine o_store tok rfl rfl rfl (by first | exact ⟨trivial, trivial⟩ | (repeat' first | exact trivial | exact rfl | apply And.intro); done | simp [onesP, oneP, lk, Value.oneCell']) ?_
    refine o_end [3, 4, 8] rfl ?_
    refine x_then ?_
    refine c_seq ?_
    refine c_region ?_
    refine o_yield rfl rfl rfl (y_val tok rfl) ?_
    refine o_yield rfl rfl rfl (y_val tok rfl) ?_
    rw [show IntKind.i64.wrap (g.nodes * 1) = g.nodes by rw [wrapI (by omega) (by omega)]; try omega]
    refine o_step rfl rfl rfl rfl rfl (s_bs tok 4 rfl rfl rfl) (fun _ _ => ?_)
    refine o_step rfl rfl rfl rfl rfl (s_app tok (⟨1 + g.nodes, g.nodes, 3, 1⟩ : Reg).cells rfl (fun E w hm => ownsRow_src (hm.row _ _ _ _ _ rfl)) (fun _ _ _ => by simpa using reg_ones [(⟨1 + g.nodes, g.nodes, 3, 1⟩ : Reg)]) (by dsimp only; omega)) (fun _ _ => ?_)
    refine o_store tok rfl rfl rfl (by first | exact ⟨trivial, trivial⟩ | (repeat' first | exact trivial | exact rfl | apply And.intro); done | simp [onesP, oneP, lk, Value.oneCell']) ?_
    refine o_end [3, 8] rfl ?_
    refine x_then ?_
    refine c_region ?_
    refine o_yield rfl rfl rfl (y_val tok rfl) ?_
    refine o_yield rfl rfl rfl (y_val tok rfl) ?_
    refine o_call (.a (.v _)) rfl rfl fnok108 rfl rfl rfl (fun hg E w1 hm => by exact stretchEnd_c _ _ _) ?_
    refine o_store tok rfl rfl rfl (by first | exact ⟨trivial, trivial⟩ | (repeat' first | exact trivial | exact rfl | apply And.intro); done | simp [onesP, oneP, lk, Value.oneCell']) ?_
    refine o_end [] rfl ?_
    refine b_end tok rfl ?_
    rw [show IntKind.i64.wrap ((1 + g.nodes) + g.nodes) = 1 + 2 * g.nodes by rw [wrapI (by omega) (by omega)]; try omega]
    intro E1 w1 hm1 hok1
    refine inl_end (E := E) hm1 hok1 rfl rfl (by repeat (first | exact KeepsIn.zero | refine KeepsIn.succ rfl ?_)) rfl (by repeat (first | exact SubO.nil | refine SubO.cons rfl ?_)) rfl ?_
    clear hm1 hok1 w1 E1 E
    refine k_swap 3 10 rfl ?_
    refine weaken (l := [(1, .a (.ptr 0 0)), (2, .a (.ptr 1 0)), (4, .a (.fn 146 [(2, 0), (1, 0)]))]) (O' := [(0, .lit (g.cells.map .v) 23), (1, .lit [.row 3] 202), (2, .lit [.v (I (1 + 2 * g.nodes))] 3), (3, .row 178 4 3 (((regs g).take 3).flatMap Reg.cells))]) (nl' := 4) ?_ (by repeat (first | exact SubF.nil | refine SubF.cons rfl ?_)) (by repeat (first | exact SubO.nil | refine SubO.cons rfl ?_)) rfl (Vw.le.refl _)
    refine o_end [1, 2, 4] rfl ?_
    refine x_then ?_
    refine c_seq ?_
    refine c_region ?_
    refine o_yield rfl rfl rfl (y_val tok rfl) ?_
    refine o_yield rfl rfl rfl (y_val tok rfl) ?_
    refine o_yield rfl rfl rfl (y_val tok rfl) ?_
    refine o_inl rfl rfl rfl rfl rfl fnok146 Try.func146 rfl rfl rfl (fun E => ?_)
    refine c_seq ?_
    refine c_region ?_
    refine o_yield rfl rfl rfl (y_val tok rfl) ?_
    refine o_yield rfl rfl rfl (y_val tok rfl) ?_
    refine o_yield rfl rfl rfl (y_val tok rfl) ?_
    refine o_yield rfl rfl rfl (y_val tok rfl) ?_
    refine o_yield rfl rfl rfl (y_val tok rfl) ?_
    refine o_yield rfl rfl rfl (y_val tok rfl) ?_
    refine o_yield rfl rfl rfl (y_val tok rfl) ?_
    refine o_yield rfl rfl rfl (y_val tok rfl) ?_
    refine o_new tok rfl rfl rfl rfl ?_
    refine o_store tok rfl rfl rfl (by first | exact ⟨trivial, trivial⟩ | (repeat' first | exact trivial | exact rfl | apply And.intro); done | simp [onesP, oneP, lk, Value.oneCell']) ?_
    refine o_end [3, 4, 8] rfl ?_
    refine x_then ?_
    refine c_seq ?_
    refine c_region ?_
    refine o_yield rfl rfl rfl (y_val tok rfl) ?_
    refine o_yield rfl rfl rfl (y_val tok rfl) ?_
    rw [show IntKind.i64.wrap (g.log * 1) = g.log by rw [wrapI (by omega) (by omega)]; try omega]
    refine o_step rfl rfl rfl rfl rfl (s_bs tok 4 rfl rfl rfl) (fun _ _ => ?_)
    refine o_step rfl rfl rfl rfl rfl (s_app tok (⟨1 + 2 * g.nodes, g.log, 4, 1⟩ : Reg).cells rfl (fun E w hm => ownsRow_src (hm.row _ _ _ _ _ rfl)) (fun _ _ _ => by simpa using reg_ones [(⟨1 + 2 * g.nodes, g.log, 4, 1⟩ : Reg)]) (by dsimp only; omega)) (fun _ _ => ?_)
    refine o_store tok rfl rfl rfl (by first | exact ⟨trivial, trivial⟩ | (repeat' first | exact trivial | exact rfl | apply And.intro); done | simp [onesP, oneP, lk, Value.oneCell']) ?_
    refine o_end [3, 8] rfl ?_
    refine x_then ?_
    refine c_region ?_
    refine o_yield rfl rfl rfl (y_val tok rfl) ?_
    refine o_yield rfl rfl rfl (y_val tok rfl) ?_
    refine o_call (.a (.v _)) rfl rfl fnok108 rfl rfl rfl (fun hg E w1 hm => by exact stretchEnd_c _ _ _) ?_
    refine o_store tok rfl rfl rfl (by first | exact ⟨trivial, trivial⟩ | (repeat' first | exact trivial | exact rfl | apply And.intro); done | simp [onesP, oneP, lk, Value.oneCell']) ?_
    refine o_end [] rfl ?_
    refine b_end tok rfl ?_
    rw [show IntKind.i64.wrap ((1 + 2 * g.nodes) + g.log) = 1 + 2 * g.nodes + g.log by rw [wrapI (by omega) (by omega)]; try omega]
    intro E1 w1 hm1 hok1
    refine inl_end (E := E) hm1 hok1 rfl rfl (by repeat (first | exact KeepsIn.zero | refine KeepsIn.succ rfl ?_)) rfl (by repeat (first | exact SubO.nil | refine SubO.cons rfl ?_)) rfl ?_
    clear hm1 hok1 w1 E1 E
    refine k_swap 3 10 rfl ?_
    refine weaken (l := [(1, .a (.ptr 0 0)), (2, .a (.ptr 1 0)), (4, .a (.fn 146 [(2, 0), (1, 0)]))]) (O' := [(0, .lit (g.cells.map .v) 23), (1, .lit [.row 3] 202), (2, .lit [.v (I (1 + 2 * g.nodes + g.log))] 3), (3, .row 178 4 4 (((regs g).take 4).flatMap Reg.cells))]) (nl' := 4) ?_ (by repeat (first | exact SubF.nil | refine SubF.cons rfl ?_)) (by repeat (first | exact SubO.nil | refine SubO.cons rfl ?_)) rfl (Vw.le.refl _)
    refine o_end [1, 2, 4] rfl ?_
    refine x_then ?_
    refine c_seq ?_
    refine c_region ?_
    refine o_yield rfl rfl rfl (y_val tok rfl) ?_
    refine o_yield rfl rfl rfl (y_val tok rfl) ?_
    refine o_yield rfl rfl rfl (y_val tok rfl) ?_
    refine o_yield rfl rfl rfl (y_val tok rfl) ?_
    refine o_yield rfl rfl rfl (y_val tok rfl) ?_
    refine o_yield rfl rfl rfl (y_val tok rfl) ?_
    refine o_inl rfl rfl rfl rfl rfl fnok146 Try.func146 rfl rfl rfl (fun E => ?_)
    refine c_seq ?_
    refine c_region ?_
    refine o_yield rfl rfl rfl (y_val tok rfl) ?_
    refine o_yield rfl rfl rfl (y_val tok rfl) ?_
    refine o_yield rfl rfl rfl (y_val tok rfl) ?_
    refine o_yield rfl rfl rfl (y_val tok rfl) ?_
    refine o_yield rfl rfl rfl (y_val tok rfl) ?_
    refine o_yield rfl rfl rfl (y_val tok rfl) ?_
    refine o_yield rfl rfl rfl (y_val tok rfl) ?_
    refine o_yield rfl rfl rfl (y_val tok rfl) ?_
    refine o_new tok rfl rfl rfl rfl ?_
    refine o_store tok rfl rfl rfl (by first | exact ⟨trivial, trivial⟩ | (repeat' first | exact trivial | exact rfl | apply And.intro); done | simp [onesP, oneP, lk, Value.oneCell']) ?_
    refine o_end [3, 4, 8] rfl ?_
    refine x_then ?_
    refine c_seq ?_
    refine c_region ?_
    refine o_yield rfl rfl rfl (y_val tok rfl) ?_
    refine o_yield rfl rfl rfl (y_val tok rfl) ?_
    rw [wrapI (n := 1 + g.journal) (by omega) (by omega)]
    rw [show IntKind.i64.wrap (g.slots * (1 + g.journal)) = g.slots * (1 + g.journal) by rw [wrapI (by omega) (by omega)]; try omega]
    refine o_step rfl rfl rfl rfl rfl (s_bs tok 4 rfl rfl rfl) (fun _ _ => ?_)
    refine o_step rfl rfl rfl rfl rfl (s_app tok (⟨1 + 2 * g.nodes + g.log, g.slots * (1 + g.journal), 6, 1 + g.journal⟩ : Reg).cells rfl (fun E w hm => ownsRow_src (hm.row _ _ _ _ _ rfl)) (fun _ _ _ => by simpa using reg_ones [(⟨1 + 2 * g.nodes + g.log, g.slots * (1 + g.journal), 6, 1 + g.journal⟩ : Reg)]) (by dsimp only; omega)) (fun _ _ => ?_)
    refine o_store tok rfl rfl rfl (by first | exact ⟨trivial, trivial⟩ | (repeat' first | exact trivial | exact rfl | apply And.intro); done | simp [onesP, oneP, lk, Value.oneCell']) ?_
    refine o_end [3, 8] rfl ?_
    refine x_then ?_
    refine c_region ?_
    refine o_yield rfl rfl rfl (y_val tok rfl) ?_
    refine o_yield rfl rfl rfl (y_val tok rfl) ?_
    refine o_call (.a (.v _)) rfl rfl fnok108 rfl rfl rfl (fun hg E w1 hm => by exact stretchEnd_c _ _ _) ?_
    refine o_store tok rfl rfl rfl (by first | exact ⟨trivial, trivial⟩ | (repeat' first | exact trivial | exact rfl | apply And.intro); done | simp [onesP, oneP, lk, Value.oneCell']) ?_
    refine o_end [] rfl ?_
    refine b_end tok rfl ?_
    rw [show IntKind.i64.wrap ((1 + 2 * g.nodes + g.log) + g.slots * (1 + g.journal)) = dataAt g by rw [wrapI (by omega) (by omega)]; try omega]
    intro E1 w1 hm1 hok1
    refine inl_end (E := E) hm1 hok1 rfl rfl (by repeat (first | exact KeepsIn.zero | refine KeepsIn.succ rfl ?_)) rfl (by repeat (first | exact SubO.nil | refine SubO.cons rfl ?_)) rfl ?_
    clear hm1 hok1 w1 E1 E
    refine k_swap 3 10 rfl ?_
    refine weaken (l := [(1, .a (.ptr 0 0)), (2, .a (.ptr 1 0)), (4, .a (.fn 146 [(2, 0), (1, 0)]))]) (O' := [(0, .lit (g.cells.map .v) 23), (1, .lit [.row 3] 202), (2, .lit [.v (I (dataAt g))] 3), (3, .row 178 4 5 (((regs g).take 5).flatMap Reg.cells))]) (nl' := 4) ?_ (by repeat (first | exact SubF.nil | refine SubF.cons rfl ?_)) (by repeat (first | exact SubO.nil | refine SubO.cons rfl ?_)) rfl (Vw.le.refl _)
    refine o_end [1, 2, 4] rfl ?_
    refine x_then ?_
    refine c_seq ?_
    refine c_region ?_
    refine o_yield rfl rfl rfl (y_val tok rfl) ?_
    refine o_yield rfl rfl rfl (y_val tok rfl) ?_
    refine o_yield rfl rfl rfl (y_val tok rfl) ?_
    refine o_yield rfl rfl rfl (y_val tok rfl) ?_
    refine o_yield rfl rfl rfl (y_val tok rfl) ?_
    refine o_inl rfl rfl rfl rfl rfl fnok146 Try.func146 rfl rfl rfl (fun E => ?_)
    refine c_seq ?_
    refine c_region ?_
    refine o_yield rfl rfl rfl (y_val tok rfl) ?_
    refine o_yield rfl rfl rfl (y_val tok rfl) ?_
    refine o_yield rfl rfl rfl (y_val tok rfl) ?_
    refine o_yield rfl rfl rfl (y_val tok rfl) ?_
    refine o_yield rfl rfl rfl (y_val tok rfl) ?_
    refine o_yield rfl rfl rfl (y_val tok rfl) ?_
    refine o_yield rfl rfl rfl (y_val tok rfl) ?_
    refine o_yield rfl rfl rfl (y_val tok rfl) ?_
    refine o_new tok rfl rfl rfl rfl ?_
    refine o_store tok rfl rfl rfl (by first | exact ⟨trivial, trivial⟩ | (repeat' first | exact trivial | exact rfl | apply And.intro); done | simp [onesP, oneP, lk, Value.oneCell']) ?_
    refine o_end [3, 4, 8] rfl ?_
    refine x_then ?_
    refine c_seq ?_
    refine c_region ?_
    refine o_yield rfl rfl rfl (y_val tok rfl) ?_
    refine o_yield rfl rfl rfl (y_val tok rfl) ?_
    rw [show IntKind.i64.wrap (g.blocks * g.per) = g.blocks * g.per by rw [wrapI (by omega) (by omega)]; try omega]
    refine o_step rfl rfl rfl rfl rfl (s_bs tok 4 rfl rfl rfl) (fun _ _ => ?_)
    refine o_step rfl rfl rfl rfl rfl (s_app tok (⟨dataAt g, g.blocks * g.per, 7, g.per⟩ : Reg).cells rfl (fun E w hm => ownsRow_src (hm.row _ _ _ _ _ rfl)) (fun _ _ _ => by simpa using reg_ones [(⟨dataAt g, g.blocks * g.per, 7, g.per⟩ : Reg)]) (by dsimp only; omega)) (fun _ _ => ?_)
    refine o_store tok rfl rfl rfl (by first | exact ⟨trivial, trivial⟩ | (repeat' first | exact trivial | exact rfl | apply And.intro); done | simp [onesP, oneP, lk, Value.oneCell']) ?_
    refine o_end [3, 8] rfl ?_
    refine x_then ?_
    refine c_region ?_
    refine o_yield rfl rfl rfl (y_val tok rfl) ?_
    refine o_yield rfl rfl rfl (y_val tok rfl) ?_
    refine o_call (.a (.v _)) rfl rfl fnok108 rfl rfl rfl (fun hg E w1 hm => by exact stretchEnd_c _ _ _) ?_
    refine o_store tok rfl rfl rfl (by first | exact ⟨trivial, trivial⟩ | (repeat' first | exact trivial | exact rfl | apply And.intro); done | simp [onesP, oneP, lk, Value.oneCell']) ?_
    refine o_end [] rfl ?_
    refine b_end tok rfl ?_
    rw [show IntKind.i64.wrap (dataAt g + g.blocks * g.per) = dataAt g + g.blocks * g.per by rw [wrapI (by omega) (by omega)]; try omega]
    intro E1 w1 hm1 hok1
    refine inl_end (E := E) hm1 hok1 rfl rfl (by repeat (first | exact KeepsIn.zero | refine KeepsIn.succ rfl ?_)) rfl (by repeat (first | exact SubO.nil | refine SubO.cons rfl ?_)) rfl ?_
    clear hm1 hok1 w1 E1 E
    refine o_end [2] rfl ?_
    refine x_then ?_
    refine c_seq ?_
    refine c_region ?_
    refine o_yield rfl rfl rfl (y_val tok rfl) ?_
    refine o_store tok rfl rfl rfl (by first | exact ⟨trivial, trivial⟩ | (repeat' first | exact trivial | exact rfl | apply And.intro); done | simp [onesP, oneP, lk, Value.oneCell']) ?_
    refine o_end [2] rfl ?_
    refine x_then ?_
    refine c_ret ?_
    refine b_ret tok rfl ?_
    intro E w' hm _
    refine ⟨.inl ⟨hgeo, E.κ 10, rfl, ?_⟩, hm.below (Vw.le.refl _)⟩
    have hrow := hm.rowFresh (Vw.le.refl _) (l := 10) rfl
    simpa [regs] using hrow

def regL (g : Geo) : List Reg := if geoB g = true then regs g else []

/-- The regions as ones that nobody writes. -/
theorem regions_cV (V : Vw) (g : Geo) (ok : g.Ok) (w : World) (hV : V.le (vw w)) :
    Calls Try.prog 130 #[g.val] w fun e w' => ∃ x V', e = .returned x ∧ Below w.heap.size w w' ∧ Vext w.heap.size V V' w' ∧ SlOf V' Reg.cells 4 x (regL g) := by
  refine (regions_c g ok w).mono ?_
  rintro e w' ⟨⟨h, v, rfl, hown⟩ | ⟨h, rfl⟩, hb⟩
  · obtain ⟨V', hx, hsl⟩ := ownsRow_vext hV hb hown
    exact ⟨_, V', rfl, hb, hx, by rw [regL, if_pos h]; exact ⟨hsl, fun _ => rfl⟩⟩
  · exact ⟨_, V, rfl, hb, Vext.same hV hb, by rw [regL, if_neg (by simp [h])]; exact slNil V Reg.cells 4 0 (fun _ => rfl)⟩

def findR (k : Int) : List Reg → Reg
  | [] => ⟨0, 0, 0, 1⟩
  | r :: t => if r.kind = k then r else findR k t

theorem find_c (g : Geo) (ok : g.Ok) (k : Int) (w : World) : Calls Try.prog 107 #[g.val, I8 k] w fun e w' => e = .returned (findR k (regL g)).val ∧ Below w.heap.size w w' := by
  refine enter (E := E0) (O := []) (nl := 0) (V := vw w) [.a (.v g.val), .a (.v (I8 k))] Try.func107 rfl rfl (mem0 E0 0 w) rfl rfl ?_
  refine c_seq ?_
  refine c_region ?_
  refine o_new tok rfl rfl rfl rfl ?_
  refine o_new tok rfl rfl rfl rfl ?_
  refine o_end [1, 2, 4] rfl ?_
  refine x_then ?_
  refine c_seq ?_
  refine c_seq ?_
  refine c_region ?_
  refine o_yield rfl rfl rfl (y_val tok rfl) ?_
  refine o_callV (fun x V' => SlOf V' Reg.cells 4 x (regL g)) rfl rfl fnok130 rfl rfl (fun hg E w1 hm => by exact regions_cV (vw w) g ok _ hm.leV) ?_
  rintro x V1 hle1 hx
  have hs := hx rfl
  clear hx
  refine o_yield rfl rfl rfl (y_len tok rfl (fun hg => hs.sl)) ?_
  refine o_yield rfl rfl rfl (y_val tok rfl) ?_
  refine o_end [1, 4, 8, 9, 10] rfl ?_
  refine x_then ?_
  refine c_block ?_
  have hl6 : (regL g).length ≤ 6 := by unfold regL; split <;> simp [regs]
  refine c_loopV [1, 4, 8, 9] [] rfl rfl (σ := Nat) (fun i => [(10, .a (.v (I i)))]) (fun i => []) (fun i => V1) (fun i => i ≤ (regL g).length ∧ findR k (regL g) = findR k ((regL g).drop i)) (fun i => (regL g).length - i) (0) (⟨by omega, rfl⟩) (by repeat (first | exact SubF.nil | refine SubF.cons rfl ?_)) (by repeat (first | exact SubO.nil | refine SubO.cons rfl ?_)) rfl (Vw.le.refl _) ?_
  rintro i ⟨hi, heq⟩
  refine c_seq ?_
  refine c_region ?_
  refine o_yield rfl rfl rfl (y_val tok rfl) ?_
  refine o_end [1, 4, 8, 9, 10, 11] rfl ?_
  refine x_then ?_
  refine c_seq ?_
  refine c_cond rfl (fun h => ?_) (fun h => ?_)
  ·
    simp only [Bool.and_eq_true, Bool.or_eq_true, Bool.not_eq_true', Bool.or_eq_false_iff, Bool.and_eq_false_iff, decide_eq_true_eq, decide_eq_false_iff_not, beq_iff_eq, bne_iff_ne, Bool.not_eq_false', beq_eq_false_iff_ne, bne_eq_false_iff_eq, ne_eq, Decidable.not_not, Int.not_lt, Int.not_le] at h
    refine c_skip ?_
    refine x_then ?_
    refine c_seq ?_
    refine c_block ?_
    refine c_seq ?_
    refine c_region ?_
    obtain ⟨r, h_r⟩ := hs.at (k := i) (by omega)
    rw [drop_at h_r, findR] at heq
    have hlt_r := lt_of_at h_r
    refine o_yield rfl rfl rfl (y_idx tok rfl (fun hg => hs.sl) (fun hg => ⟨by omega, by omega⟩)) ?_
    refine o_yield rfl rfl rfl (y_lel tok (i) 0 (r) rfl (fun hg => hs) (fun hg => h_r) rfl rfl) ?_
    refine o_new tok rfl rfl rfl rfl ?_
    refine o_store tok rfl rfl rfl (by first | exact ⟨trivial, trivial⟩ | (repeat' first | exact trivial | exact rfl | apply And.intro); done | simp [onesP, oneP, lk, Value.oneCell']) ?_
    refine o_end [1, 4, 6, 8, 9, 10] rfl ?_
    refine x_then ?_
    refine c_seq ?_
    refine c_region ?_
    refine o_yield rfl rfl rfl (y_val tok rfl) ?_
    refine o_yield rfl rfl rfl (y_val tok rfl) ?_
    refine o_yield rfl rfl rfl (y_val tok rfl) ?_
    refine o_yield rfl rfl rfl (y_val tok rfl) ?_
    refine o_end [1, 4, 6, 8, 9, 10, 17] rfl ?_
    refine x_then ?_
    refine c_cond rfl (fun h => ?_) (fun h => ?_)
    ·
      simp only [Bool.and_eq_true, Bool.or_eq_true, Bool.not_eq_true', Bool.or_eq_false_iff, Bool.and_eq_false_iff, decide_eq_true_eq, decide_eq_false_iff_not, beq_iff_eq, bne_iff_ne, Bool.not_eq_false', beq_eq_false_iff_ne, bne_eq_false_iff_eq, ne_eq, Decidable.not_not, Int.not_lt, Int.not_le] at h
      refine c_seq ?_
      refine c_region ?_
      refine o_yield rfl rfl rfl (y_val tok rfl) ?_
      refine o_store tok rfl rfl rfl (by first | exact ⟨trivial, trivial⟩ | (repeat' first | exact trivial | exact rfl | apply And.intro); done | simp [onesP, oneP, lk, Value.oneCell']) ?_
      refine o_end [4] rfl ?_
      refine x_then ?_
      refine c_ret ?_
      refine x_block_ret ?_
      refine x_then_ret ?_
      refine x_then_ret ?_
      refine x_block_ret ?_
      refine x_then_ret ?_
      refine b_ret tok rfl ?_
      rw [if_pos h] at heq
      intro E w' hm _
      refine ⟨?_, hm.below (hle1)⟩
      rw [heq]; rfl
    ·
      simp only [Bool.and_eq_true, Bool.or_eq_true, Bool.not_eq_true', Bool.or_eq_false_iff, Bool.and_eq_false_iff, decide_eq_true_eq, decide_eq_false_iff_not, beq_iff_eq, bne_iff_ne, Bool.not_eq_false', beq_eq_false_iff_ne, bne_eq_false_iff_eq, ne_eq, Decidable.not_not, Int.not_lt, Int.not_le] at h
      refine c_skip ?_
      refine x_block ?_
      refine x_then ?_
      refine c_region ?_
      refine o_yield rfl rfl rfl (y_val tok rfl) ?_
      refine o_yield rfl rfl rfl (y_val tok rfl) ?_
      refine o_end [1, 4, 8, 9, 10] rfl ?_
      refine x_then ?_
      rw [if_neg h] at heq
      rw [wrapI (n := (i : Int) + 1) (by omega) (by omega)]
      refine x_round (i + 1) (⟨by omega, heq⟩) (by first | omega | (dsimp only; omega)) (by repeat (first | exact SubF.nil | refine SubF.cons rfl ?_)) (by repeat (first | exact SubO.nil | refine SubO.cons rfl ?_)) rfl (Vw.le.refl _)
  ·
    simp only [Bool.and_eq_true, Bool.or_eq_true, Bool.not_eq_true', Bool.or_eq_false_iff, Bool.and_eq_false_iff, decide_eq_true_eq, decide_eq_false_iff_not, beq_iff_eq, bne_iff_ne, Bool.not_eq_false', beq_eq_false_iff_ne, bne_eq_false_iff_eq, ne_eq, Decidable.not_not, Int.not_lt, Int.not_le] at h
    refine c_exit ?_
    refine x_then_exit ?_
    refine x_then_exit ?_
    refine x_block_hit ?_
    refine x_then ?_
    refine c_seq ?_
    refine c_region ?_
    refine o_yield rfl rfl rfl (y_val tok rfl) ?_
    refine o_store tok rfl rfl rfl (by first | exact ⟨trivial, trivial⟩ | (repeat' first | exact trivial | exact rfl | apply And.intro); done | simp [onesP, oneP, lk, Value.oneCell']) ?_
    refine o_end [4] rfl ?_
    refine x_then ?_
    refine c_ret ?_
    refine b_ret tok rfl ?_
    have hkL : i = (regL g).length := by omega
    subst hkL
    rw [List.drop_length, findR] at heq
    intro E w' hm _
    refine ⟨?_, hm.below (hle1)⟩
    rw [heq]; rfl

theorem of_c' (g : Geo) (ok : g.Ok) (kd i k : Int) (r : Reg) (hr : findR kd (regL g) = r) (m : Int) (hm0 : 0 ≤ m) (hm : r.many = m * r.per) (hp : 1 ≤ r.per) (hb : m * r.per ≤ 4096) (hf : 0 ≤ r.first) (hf2 : r.first ≤ 4096) (v : Int) (hv : v = if i < 0 ∨ m ≤ i ∨ k < 0 ∨ r.per ≤ k then -1 else r.first + i * r.per + k) (w : World) :
    Calls Try.prog 89 #[g.val, I8 kd, I i, I k] w fun e w' => e = .returned (I v) ∧ Below w.heap.size w w' := by
  have hq : r.many.tdiv r.per = m := by rw [hm]; exact Int.mul_tdiv_cancel m (by omega)
  have hpb : r.per ≤ m * r.per ∨ m = 0 := by
    by_cases h : m = 0
    · exact .inr h
    · left
      have := Int.mul_le_mul_of_nonneg_right (show 1 ≤ m by omega) (show 0 ≤ r.per by omega)
      omega
  have hmb : m ≤ m * r.per := by
    have := Int.mul_le_mul_of_nonneg_left hp hm0
    omega
  refine enter (E := E0) (O := []) (nl := 0) (V := vw w) [.a (.v g.val), .a (.v (I8 kd)), .a (.v (I i)), .a (.v (I k))] Try.func89 rfl rfl (mem0 E0 0 w) rfl rfl ?_
  refine c_seq ?_
  refine c_region ?_
  refine o_new tok rfl rfl rfl rfl ?_
  refine o_yield rfl rfl rfl (y_val tok rfl) ?_
  refine o_end [1, 2, 3, 4] rfl ?_
  refine x_then ?_
  refine c_seq ?_
  refine c_region ?_
  refine o_yield rfl rfl rfl (y_val tok rfl) ?_
  refine o_yield rfl rfl rfl (y_val tok rfl) ?_
  refine o_call (.a (.v _)) rfl rfl fnok107 rfl rfl rfl (fun hg E w1 hm => by exact find_c g ok kd _) ?_
  refine o_new tok rfl rfl rfl rfl ?_
  refine o_store tok rfl rfl rfl (by first | exact ⟨trivial, trivial⟩ | (repeat' first | exact trivial | exact rfl | apply And.intro); done | simp [onesP, oneP, lk, Value.oneCell']) ?_
  refine o_end [2, 3, 9] rfl ?_
  refine x_then ?_
  refine c_seq ?_
  refine c_seq ?_
  refine c_region ?_
  refine o_yield rfl rfl rfl (y_val tok rfl) ?_
  refine o_yield rfl rfl rfl (y_val tok rfl) ?_
  refine o_yield rfl rfl rfl (y_val tok rfl) ?_
  refine o_yield rfl rfl rfl (y_val tok rfl) ?_
  refine o_yield rfl rfl rfl (y_val tok rfl) ?_
  refine o_yield rfl rfl rfl (y_val tok rfl) ?_
  refine o_yield rfl rfl rfl (y_val tok rfl) ?_
  refine o_yield rfl rfl rfl (y_val tok rfl) ?_
  refine o_yield rfl rfl rfl (y_val tok rfl) ?_
  rw [hr]
  have hqw : IntKind.i64.wrap (r.many.tdiv r.per) = m := by rw [hq, wrapI (by omega) (by omega)]
  refine o_yield rfl rfl rfl (y_quo rfl (fun hg => by omega)) ?_
  refine o_yield rfl rfl rfl (y_val tok rfl) ?_
  refine o_yield rfl rfl rfl (y_val tok rfl) ?_
  refine o_yield rfl rfl rfl (y_val tok rfl) ?_
  refine o_yield rfl rfl rfl (y_val tok rfl) ?_
  refine o_yield rfl rfl rfl (y_val tok rfl) ?_
  refine o_yield rfl rfl rfl (y_val tok rfl) ?_
  refine o_yield rfl rfl rfl (y_val tok rfl) ?_
  refine o_yield rfl rfl rfl (y_val tok rfl) ?_
  refine o_yield rfl rfl rfl (y_val tok rfl) ?_
  refine o_yield rfl rfl rfl (y_val tok rfl) ?_
  refine o_yield rfl rfl rfl (y_val tok rfl) ?_
  refine o_yield rfl rfl rfl (y_val tok rfl) ?_
  refine o_end [2, 3, 9, 34] rfl ?_
  refine x_then ?_
  refine c_cond rfl (fun h => ?_) (fun h => ?_)
  ·
    simp only [Bool.and_eq_true, Bool.or_eq_true, Bool.not_eq_true', Bool.or_eq_false_iff, Bool.and_eq_false_iff, decide_eq_true_eq, decide_eq_false_iff_not, beq_iff_eq, bne_iff_ne, Bool.not_eq_false', beq_eq_false_iff_ne, bne_eq_false_iff_eq, ne_eq, Decidable.not_not, Int.not_lt, Int.not_le] at h
    refine c_seq ?_
    refine c_region ?_
    refine o_yield rfl rfl rfl (y_val tok rfl) ?_
    refine o_end [8] rfl ?_
    refine x_then ?_
    refine c_ret ?_
    refine x_then_ret ?_
    refine b_ret tok rfl ?_
    intro E w' hm _
    refine ⟨?_, hm.below (Vw.le.refl _)⟩
    rw [hv, if_pos (by omega)]; rfl
  ·
    simp only [Bool.and_eq_true, Bool.or_eq_true, Bool.not_eq_true', Bool.or_eq_false_iff, Bool.and_eq_false_iff, decide_eq_true_eq, decide_eq_false_iff_not, beq_iff_eq, bne_iff_ne, Bool.not_eq_false', beq_eq_false_iff_ne, bne_eq_false_iff_eq, ne_eq, Decidable.not_not, Int.not_lt, Int.not_le] at h
    refine c_skip ?_
    refine x_then ?_
    refine c_seq ?_
    refine c_region ?_
    refine o_yield rfl rfl rfl (y_val tok rfl) ?_
    refine o_yield rfl rfl rfl (y_val tok rfl) ?_
    refine o_yield rfl rfl rfl (y_val tok rfl) ?_
    refine o_yield rfl rfl rfl (y_val tok rfl) ?_
    refine o_yield rfl rfl rfl (y_val tok rfl) ?_
    refine o_yield rfl rfl rfl (y_val tok rfl) ?_
    refine o_yield rfl rfl rfl (y_val tok rfl) ?_
    refine o_yield rfl rfl rfl (y_val tok rfl) ?_
    have hik := prod_bound (a := i) (b := r.per) (A := m) (B := r.per) (by omega) (by omega) (by omega) (by omega)
    have h2 : i * r.per + r.per ≤ m * r.per := by
      have := Int.mul_le_mul_of_nonneg_right (show i + 1 ≤ m by omega) (show 0 ≤ r.per by omega)
      rw [Int.add_mul, Int.one_mul] at this
      exact this
    rw [wrapI (n := i * r.per) (by omega) (by omega), wrapI (n := i * r.per + k) (by omega) (by omega)]
    refine o_call (.a (.v _)) rfl rfl fnok112 rfl rfl rfl (fun hg E w1 hm => by exact stretchAt_c r.first r.many _ _) ?_
    refine o_yield rfl rfl rfl (y_val tok rfl) ?_
    refine o_end [8] rfl ?_
    refine x_then ?_
    refine c_ret ?_
    refine b_ret tok rfl ?_
    intro E w' hm _
    refine ⟨?_, hm.below (Vw.le.refl _)⟩
    rw [hv, if_neg (by omega), if_neg (by omega), wrapI (by omega) (by omega), Int.add_assoc]; rfl
end Go.Proofs.Ytikdaehmaaogdaa

/- Where everything stands: the program's answer and the document's. -/
set_option linter.unusedVariables false
set_option linter.unusedSimpArgs false
set_option maxRecDepth 100000
namespace Go.Proofs.Ytikdaehmaaogdaa
open Go Go.Eng Go.RowKit

def dataV (g : Geo) (b k : Int) : Int := if geoB g = true ∧ 0 ≤ b ∧ b < g.blocks ∧ 0 ≤ k ∧ k < g.per then dataAt g + b * g.per + k else -1
def headV (g : Geo) (s : Int) : Int := if geoB g = true ∧ 0 ≤ s ∧ s < g.slots then 1 + 2 * g.nodes + g.log + s * (1 + g.journal) else -1
def jourV (g : Geo) (s lsn : Int) : Int := if headV g s < 0 ∨ lsn < 0 then -1 else headV g s + 1 + lsn % g.journal
def totV (g : Geo) : Int := if geoB g = true then dataAt g + g.blocks * g.per else 0

theorem find_data (g : Geo) : findR 7 (regL g) = if geoB g = true then ⟨dataAt g, g.blocks * g.per, 7, g.per⟩ else ⟨0, 0, 0, 1⟩ := by
  unfold regL
  split <;> simp [regs, findR]
theorem find_jour (g : Geo) : findR 6 (regL g) = if geoB g = true then ⟨1 + 2 * g.nodes + g.log, g.slots * (1 + g.journal), 6, 1 + g.journal⟩ else ⟨0, 0, 0, 1⟩ := by
  unfold regL
  split <;> simp [regs, findR]

theorem geo_sizes {g : Geo} (h : geoB g = true) : 0 ≤ g.slots * (1 + g.journal) ∧ g.slots * (1 + g.journal) ≤ 1040 ∧ 0 ≤ g.blocks * g.per ∧ g.blocks * g.per ≤ 512 ∧ 1 ≤ dataAt g ∧ dataAt g ≤ 1585 := by
  have hf := geo_facts h
  have hs := prod_bound (a := g.slots) (b := 1 + g.journal) (A := 16) (B := 65) (by omega) (by omega) (by omega) (by omega)
  have hb := prod_bound (a := g.blocks) (b := g.per) (A := 64) (B := 8) (by omega) (by omega) (by omega) (by omega)
  unfold dataAt
  omega

theorem head_c (g : Geo) (ok : g.Ok) (s : Int) (w : World) : Calls Try.prog 43 #[g.val, I s] w fun e w' => e = .returned (I (headV g s)) ∧ Below w.heap.size w w' := by
  refine enter (E := E0) (O := []) (nl := 0) (V := vw w) [.a (.v g.val), .a (.v (I s))] Try.func43 rfl rfl (mem0 E0 0 w) rfl rfl ?_
  refine c_seq ?_
  refine c_region ?_
  refine o_new tok rfl rfl rfl rfl ?_
  refine o_yield rfl rfl rfl (y_val tok rfl) ?_
  refine o_end [1, 2] rfl ?_
  refine x_then ?_
  refine c_seq ?_
  refine c_region ?_
  refine o_yield rfl rfl rfl (y_val tok rfl) ?_
  refine o_yield rfl rfl rfl (y_val tok rfl) ?_
  cases hgg : geoB g with
  | false =>
    have hr := find_jour g
    rw [if_neg (by simp [hgg])] at hr
    refine o_call (.a (.v _)) rfl rfl fnok89 rfl rfl rfl (fun hg E w1 hm => by exact of_c' g ok 6 s 0 _ hr 0 (by omega) (by simp) (by simp) (by simp) (by simp) (by simp) (headV g s) (by rw [headV, if_neg (by simp [hgg]), if_pos (by dsimp only; omega)]) _) ?_
    refine o_yield rfl rfl rfl (y_val tok rfl) ?_
    refine o_end [4] rfl ?_
    refine x_then ?_
    refine c_ret ?_
    refine b_ret tok rfl ?_
    intro E w' hm _
    refine ⟨?_, hm.below (Vw.le.refl _)⟩
    rfl
  | true =>
    have hr := find_jour g
    rw [if_pos hgg] at hr
    have hf := geo_facts hgg
    have hz := geo_sizes hgg
    have hv : headV g s = if s < 0 ∨ g.slots ≤ s ∨ (0 : Int) < 0 ∨ 1 + g.journal ≤ 0 then -1 else 1 + 2 * g.nodes + g.log + s * (1 + g.journal) + 0 := by
      unfold headV
      by_cases h : 0 ≤ s ∧ s < g.slots
      · rw [if_pos ⟨hgg, h⟩, if_neg (by omega), Int.add_zero]
      · rw [if_neg (by rintro ⟨_, hc⟩; exact h hc), if_pos (by omega)]
    refine o_call (.a (.v _)) rfl rfl fnok89 rfl rfl rfl (fun hg E w1 hm => by exact of_c' g ok 6 s 0 _ hr g.slots (by omega) rfl (by dsimp only; omega) (by dsimp only; omega) (by dsimp only; omega) (by dsimp only; omega) _ hv _) ?_
    refine o_yield rfl rfl rfl (y_val tok rfl) ?_
    refine o_end [4] rfl ?_
    refine x_then ?_
    refine c_ret ?_
    refine b_ret tok rfl ?_
    intro E w' hm _
    refine ⟨?_, hm.below (Vw.le.refl _)⟩
    rfl

theorem head_geo {g : Geo} {s : Int} (h : 0 ≤ headV g s) : geoB g = true ∧ 0 ≤ s ∧ s < g.slots := by
  unfold headV at h
  split at h
  · assumption
  · omega

theorem tmod_bounds {a b : Int} (ha : 0 ≤ a) (hb : 0 < b) : a.tmod b = a % b ∧ 0 ≤ a % b ∧ a % b < b :=
  ⟨Int.tmod_eq_emod_of_nonneg ha, Int.emod_nonneg _ (by omega), Int.emod_lt_of_pos _ hb⟩

theorem jour_c (g : Geo) (ok : g.Ok) (s lsn : Int) (w : World) : Calls Try.prog 97 #[g.val, I s, I lsn] w fun e w' => e = .returned (I (jourV g s lsn)) ∧ Below w.heap.size w w' := by
  refine enter (E := E0) (O := []) (nl := 0) (V := vw w) [.a (.v g.val), .a (.v (I s)), .a (.v (I lsn))] Try.func97 rfl rfl (mem0 E0 0 w) rfl rfl ?_
  refine c_seq ?_
  refine c_region ?_
  refine o_new tok rfl rfl rfl rfl ?_
  refine o_yield rfl rfl rfl (y_val tok rfl) ?_
  refine o_end [1, 2, 3] rfl ?_
  refine x_then ?_
  refine c_seq ?_
  refine c_seq ?_
  refine c_region ?_
  refine o_yield rfl rfl rfl (y_val tok rfl) ?_
  refine o_yield rfl rfl rfl (y_val tok rfl) ?_
  refine o_yield rfl rfl rfl (y_val tok rfl) ?_
  refine o_yield rfl rfl rfl (y_val tok rfl) ?_
  refine o_yield rfl rfl rfl (y_val tok rfl) ?_
  refine o_call (.a (.v _)) rfl rfl fnok43 rfl rfl rfl (fun hg E w1 hm => by exact head_c g ok s _) ?_
  refine o_yield rfl rfl rfl (y_val tok rfl) ?_
  refine o_yield rfl rfl rfl (y_val tok rfl) ?_
  refine o_end [1, 2, 3, 14] rfl ?_
  refine x_then ?_
  refine c_cond rfl (fun h => ?_) (fun h => ?_)
  ·
    simp only [Bool.and_eq_true, Bool.or_eq_true, Bool.not_eq_true', Bool.or_eq_false_iff, Bool.and_eq_false_iff, decide_eq_true_eq, decide_eq_false_iff_not, beq_iff_eq, bne_iff_ne, Bool.not_eq_false', beq_eq_false_iff_ne, bne_eq_false_iff_eq, ne_eq, Decidable.not_not, Int.not_lt, Int.not_le] at h
    refine c_seq ?_
    refine c_region ?_
    refine o_yield rfl rfl rfl (y_val tok rfl) ?_
    refine o_end [6] rfl ?_
    refine x_then ?_
    refine c_ret ?_
    refine x_then_ret ?_
    refine b_ret tok rfl ?_
    intro E w' hm _
    refine ⟨?_, hm.below (Vw.le.refl _)⟩
    rw [jourV, if_pos (by omega)]; rfl
  ·
    simp only [Bool.and_eq_true, Bool.or_eq_true, Bool.not_eq_true', Bool.or_eq_false_iff, Bool.and_eq_false_iff, decide_eq_true_eq, decide_eq_false_iff_not, beq_iff_eq, bne_iff_ne, Bool.not_eq_false', beq_eq_false_iff_ne, bne_eq_false_iff_eq, ne_eq, Decidable.not_not, Int.not_lt, Int.not_le] at h
    obtain ⟨hgg, h1, h2⟩ := head_geo (g := g) (s := s) (by omega)
    have hf := geo_facts hgg
    have hz := geo_sizes hgg
    obtain ⟨e1, e2, e3⟩ := tmod_bounds (a := lsn) (b := g.journal) (by omega) (by omega)
    have hh : headV g s = 1 + 2 * g.nodes + g.log + s * (1 + g.journal) := by rw [headV, if_pos ⟨hgg, h1, h2⟩]
    have hr := find_jour g
    rw [if_pos hgg] at hr
    refine c_skip ?_
    refine x_then ?_
    refine c_seq ?_
    refine c_draw mixed (by kernel_rfl) ?_
    refine d_yield rfl rfl rfl (y_val tok rfl) rfl ?_
    refine d_yield rfl rfl rfl (y_val tok rfl) rfl ?_
    refine d_yield rfl rfl rfl (y_val tok rfl) rfl ?_
    refine d_yield rfl rfl rfl (y_val tok rfl) rfl ?_
    refine d_yield rfl rfl rfl (y_val tok rfl) rfl ?_
    refine d_yield rfl rfl rfl (y_rem rfl (fun hg => by omega)) rfl ?_
    refine d_yield rfl rfl rfl (y_val tok rfl) rfl ?_
    rw [e1, wrapI (n := 1 + lsn % g.journal) (by omega) (by omega)]
    have hv : jourV g s lsn = if s < 0 ∨ g.slots ≤ s ∨ 1 + lsn % g.journal < 0 ∨ 1 + g.journal ≤ 1 + lsn % g.journal then -1 else 1 + 2 * g.nodes + g.log + s * (1 + g.journal) + (1 + lsn % g.journal) := by
      rw [jourV, if_neg (by omega), hh, if_neg (by omega), ← Int.add_assoc]
    refine d_call (.a (.v _)) rfl rfl fnok89 rfl rfl rfl (fun hg E w1 hm => by exact of_c' g ok 6 s (1 + lsn % g.journal) _ hr g.slots (by omega) rfl (by dsimp only; omega) (by dsimp only; omega) (by dsimp only; omega) (by dsimp only; omega) _ hv _) ?_
    refine d_yield rfl rfl rfl (y_val tok rfl) rfl ?_
    refine d_end [6] rfl ?_
    refine x_then ?_
    refine c_ret ?_
    refine b_ret tok rfl ?_
    intro E w' hm _
    refine ⟨?_, hm.below (Vw.le.refl _)⟩
    rfl

theorem total_c (g : Geo) (ok : g.Ok) (w : World) : Calls Try.prog 87 #[g.val] w fun e w' => e = .returned (I (totV g)) ∧ Below w.heap.size w w' := by
  refine enter (E := E0) (O := []) (nl := 0) (V := vw w) [.a (.v g.val)] Try.func87 rfl rfl (mem0 E0 0 w) rfl rfl ?_
  refine c_seq ?_
  refine c_region ?_
  refine o_new tok rfl rfl rfl rfl ?_
  refine o_yield rfl rfl rfl (y_val tok rfl) ?_
  refine o_end [1] rfl ?_
  refine x_then ?_
  refine c_seq ?_
  refine c_region ?_
  refine o_yield rfl rfl rfl (y_val tok rfl) ?_
  refine o_call (.a (.v _)) rfl rfl fnok107 rfl rfl rfl (fun hg E w1 hm => by exact find_c g ok 7 _) ?_
  refine o_yield rfl rfl rfl (y_val tok rfl) ?_
  refine o_call (.a (.v _)) rfl rfl fnok108 rfl rfl rfl (fun hg E w1 hm => by exact stretchEnd_c _ _ _) ?_
  refine o_yield rfl rfl rfl (y_val tok rfl) ?_
  refine o_end [2] rfl ?_
  refine x_then ?_
  refine c_ret ?_
  refine b_ret tok rfl ?_
  intro E w' hm _
  refine ⟨?_, hm.below (Vw.le.refl _)⟩
  rw [find_data, totV]
  cases hg : geoB g with
  | false => rfl
  | true =>
    have hz := geo_sizes hg
    show Ending.returned (I (IntKind.i64.wrap (dataAt g + g.blocks * g.per))) = _
    rw [wrapI (by omega) (by omega)]; rfl

/-! The document's. -/

theorem inB_iff (n a b : Int) : inB n a b = decide (a ≤ n ∧ n ≤ b) := by
  unfold inB; rw [Bool.eq_iff_iff]; simp

theorem refHead_c (g : Geo) (ok : g.Ok) (s : Int) (w : World) : Calls Try.prog 18 #[g.val, I s] w fun e w' => e = .returned (I (headV g s)) ∧ Below w.heap.size w w' := by
  refine enter (E := E0) (O := []) (nl := 0) (V := vw w) [.a (.v g.val), .a (.v (I s))] Try.func18 rfl rfl (mem0 E0 0 w) rfl rfl ?_
  refine c_seq ?_
  refine c_region ?_
  refine o_new tok rfl rfl rfl rfl ?_
  refine o_yield rfl rfl rfl (y_val tok rfl) ?_
  refine o_end [1, 2] rfl ?_
  refine x_then ?_
  refine c_seq ?_
  refine c_seq ?_
  refine c_region ?_
  refine o_yield rfl rfl rfl (y_val tok rfl) ?_
  refine o_call (.a (.v _)) rfl rfl fnok17 rfl rfl rfl (fun hg E w1 hm => by exact refMay_c g ok _) ?_
  refine o_yield rfl rfl rfl (y_val tok rfl) ?_
  refine o_yield rfl rfl rfl (y_val tok rfl) ?_
  refine o_yield rfl rfl rfl (y_val tok rfl) ?_
  refine o_yield rfl rfl rfl (y_val tok rfl) ?_
  refine o_yield rfl rfl rfl (y_val tok rfl) ?_
  refine o_yield rfl rfl rfl (y_val tok rfl) ?_
  refine o_call (.a (.v _)) rfl rfl fnok59 rfl rfl rfl (fun hg E w1 hm => by exact in_c _ _ _ _) ?_
  refine o_yield rfl rfl rfl (y_val tok rfl) ?_
  refine o_yield rfl rfl rfl (y_val tok rfl) ?_
  refine o_end [1, 2, 15] rfl ?_
  refine x_then ?_
  refine c_cond rfl (fun h => ?_) (fun h => ?_)
  ·
    refine c_seq ?_
    refine c_region ?_
    refine o_yield rfl rfl rfl (y_val tok rfl) ?_
    refine o_end [4] rfl ?_
    refine x_then ?_
    refine c_ret ?_
    refine x_then_ret ?_
    refine b_ret tok rfl ?_
    rw [inB_iff] at h
    simp only [Bool.or_eq_true, Bool.not_eq_true', decide_eq_false_iff_not] at h
    intro E w' hm _
    refine ⟨?_, hm.below (Vw.le.refl _)⟩
    rw [headV, if_neg]
    · rfl
    · rintro ⟨h1, h2, h3⟩
      have hf := geo_facts h1
      rw [wrapI (by omega) (by omega)] at h
      rcases h with h | h
      · rw [h1] at h; cases h
      · omega
  ·
    rw [inB_iff] at h
    simp only [Bool.or_eq_false_iff, Bool.not_eq_false', decide_eq_true_eq] at h
    obtain ⟨hg, h1⟩ := h
    have hf := geo_facts hg
    have hz := geo_sizes hg
    rw [wrapI (by omega) (by omega)] at h1
    have hp := prod_bound (a := s) (b := 1 + g.journal) (A := 16) (B := 65) (by omega) (by omega) (by omega) (by omega)
    refine c_skip ?_
    refine x_then ?_
    refine c_seq ?_
    refine c_region ?_
    refine o_yield rfl rfl rfl (y_val tok rfl) ?_
    refine o_yield rfl rfl rfl (y_val tok rfl) ?_
    refine o_yield rfl rfl rfl (y_val tok rfl) ?_
    refine o_yield rfl rfl rfl (y_val tok rfl) ?_
    refine o_yield rfl rfl rfl (y_val tok rfl) ?_
    refine o_yield rfl rfl rfl (y_val tok rfl) ?_
    refine o_yield rfl rfl rfl (y_val tok rfl) ?_
    refine o_yield rfl rfl rfl (y_val tok rfl) ?_
    refine o_yield rfl rfl rfl (y_val tok rfl) ?_
    refine o_yield rfl rfl rfl (y_val tok rfl) ?_
    refine o_yield rfl rfl rfl (y_val tok rfl) ?_
    refine o_yield rfl rfl rfl (y_val tok rfl) ?_
    refine o_yield rfl rfl rfl (y_val tok rfl) ?_
    refine o_yield rfl rfl rfl (y_val tok rfl) ?_
    refine o_end [4] rfl ?_
    refine x_then ?_
    refine c_ret ?_
    refine b_ret tok rfl ?_
    intro E w' hm _
    refine ⟨?_, hm.below (Vw.le.refl _)⟩
    rw [headV, if_pos ⟨hg, by omega, by omega⟩, wrapI (n := 2 * g.nodes) (by omega) (by omega), wrapI (n := 1 + 2 * g.nodes) (by omega) (by omega), wrapI (n := 1 + 2 * g.nodes + g.log) (by omega) (by omega), wrapI (n := 1 + g.journal) (by omega) (by omega),
      wrapI (n := s * (1 + g.journal)) (by omega) (by omega), wrapI (by omega) (by omega)]
    rfl

theorem jour_le {g : Geo} {s : Int} (hh : 0 ≤ headV g s) : headV g s ≤ 1585 := by
  obtain ⟨hgg, h1, h2⟩ := head_geo hh
  have hf := geo_facts hgg
  have hz := geo_sizes hgg
  have hp := prod_bound (a := s) (b := 1 + g.journal) (A := 16) (B := 65) (by omega) (by omega) (by omega) (by omega)
  rw [headV, if_pos ⟨hgg, h1, h2⟩]
  omega

theorem refJour_c (g : Geo) (ok : g.Ok) (s lsn : Int) (w : World) : Calls Try.prog 29 #[g.val, I s, I lsn] w fun e w' => e = .returned (I (jourV g s lsn)) ∧ Below w.heap.size w w' := by
  refine enter (E := E0) (O := []) (nl := 0) (V := vw w) [.a (.v g.val), .a (.v (I s)), .a (.v (I lsn))] Try.func29 rfl rfl (mem0 E0 0 w) rfl rfl ?_
  refine c_seq ?_
  refine c_region ?_
  refine o_new tok rfl rfl rfl rfl ?_
  refine o_yield rfl rfl rfl (y_val tok rfl) ?_
  refine o_end [1, 2, 3] rfl ?_
  refine x_then ?_
  refine c_seq ?_
  refine c_seq ?_
  refine c_region ?_
  refine o_yield rfl rfl rfl (y_val tok rfl) ?_
  refine o_yield rfl rfl rfl (y_val tok rfl) ?_
  refine o_call (.a (.v _)) rfl rfl fnok18 rfl rfl rfl (fun hg E w1 hm => by exact refHead_c g ok s _) ?_
  refine o_yield rfl rfl rfl (y_val tok rfl) ?_
  refine o_yield rfl rfl rfl (y_val tok rfl) ?_
  refine o_yield rfl rfl rfl (y_val tok rfl) ?_
  refine o_yield rfl rfl rfl (y_val tok rfl) ?_
  refine o_yield rfl rfl rfl (y_val tok rfl) ?_
  refine o_end [1, 2, 3, 14] rfl ?_
  refine x_then ?_
  refine c_cond rfl (fun h => ?_) (fun h => ?_)
  ·
    simp only [Bool.and_eq_true, Bool.or_eq_true, Bool.not_eq_true', Bool.or_eq_false_iff, Bool.and_eq_false_iff, decide_eq_true_eq, decide_eq_false_iff_not, beq_iff_eq, bne_iff_ne, Bool.not_eq_false', beq_eq_false_iff_ne, bne_eq_false_iff_eq, ne_eq, Decidable.not_not, Int.not_lt, Int.not_le] at h
    refine c_seq ?_
    refine c_region ?_
    refine o_yield rfl rfl rfl (y_val tok rfl) ?_
    refine o_end [6] rfl ?_
    refine x_then ?_
    refine c_ret ?_
    refine x_then_ret ?_
    refine b_ret tok rfl ?_
    intro E w' hm _
    refine ⟨?_, hm.below (Vw.le.refl _)⟩
    rw [jourV, if_pos (by omega)]; rfl
  ·
    simp only [Bool.and_eq_true, Bool.or_eq_true, Bool.not_eq_true', Bool.or_eq_false_iff, Bool.and_eq_false_iff, decide_eq_true_eq, decide_eq_false_iff_not, beq_iff_eq, bne_iff_ne, Bool.not_eq_false', beq_eq_false_iff_ne, bne_eq_false_iff_eq, ne_eq, Decidable.not_not, Int.not_lt, Int.not_le] at h
    obtain ⟨hgg, h1, h2⟩ := head_geo (g := g) (s := s) (by omega)
    have hf := geo_facts hgg
    have hj := jour_le (g := g) (s := s) (by omega)
    obtain ⟨e1, e2, e3⟩ := tmod_bounds (a := lsn) (b := g.journal) (by omega) (by omega)
    refine c_skip ?_
    refine x_then ?_
    refine c_seq ?_
    refine c_draw mixed (by kernel_rfl) ?_
    refine d_yield rfl rfl rfl (y_val tok rfl) rfl ?_
    refine d_yield rfl rfl rfl (y_val tok rfl) rfl ?_
    refine d_call (.a (.v _)) rfl rfl fnok18 rfl rfl rfl (fun hg E w1 hm => by exact refHead_c g ok s _) ?_
    refine d_yield rfl rfl rfl (y_val tok rfl) rfl ?_
    refine d_yield rfl rfl rfl (y_val tok rfl) rfl ?_
    refine d_yield rfl rfl rfl (y_val tok rfl) rfl ?_
    refine d_yield rfl rfl rfl (y_val tok rfl) rfl ?_
    refine d_yield rfl rfl rfl (y_rem rfl (fun hg => by omega)) rfl ?_
    refine d_yield rfl rfl rfl (y_val tok rfl) rfl ?_
    refine d_yield rfl rfl rfl (y_val tok rfl) rfl ?_
    refine d_end [6] rfl ?_
    refine x_then ?_
    refine c_ret ?_
    refine b_ret tok rfl ?_
    rw [e1, wrapI (n := headV g s + 1) (by omega) (by omega)]
    intro E w' hm _
    refine ⟨?_, hm.below (Vw.le.refl _)⟩
    rw [jourV, if_neg (by omega), wrapI (by omega) (by omega)]; rfl

theorem refData_c (g : Geo) (ok : g.Ok) (b k : Int) (w : World) : Calls Try.prog 60 #[g.val, I b, I k] w fun e w' => e = .returned (I (dataV g b k)) ∧ Below w.heap.size w w' := by
  refine enter (E := E0) (O := []) (nl := 0) (V := vw w) [.a (.v g.val), .a (.v (I b)), .a (.v (I k))] Try.func60 rfl rfl (mem0 E0 0 w) rfl rfl ?_
  refine c_seq ?_
  refine c_region ?_
  refine o_new tok rfl rfl rfl rfl ?_
  refine o_yield rfl rfl rfl (y_val tok rfl) ?_
  refine o_end [1, 2, 3] rfl ?_
  refine x_then ?_
  refine c_seq ?_
  refine c_seq ?_
  refine c_region ?_
  refine o_yield rfl rfl rfl (y_val tok rfl) ?_
  refine o_call (.a (.v _)) rfl rfl fnok17 rfl rfl rfl (fun hg E w1 hm => by exact refMay_c g ok _) ?_
  refine o_yield rfl rfl rfl (y_val tok rfl) ?_
  refine o_yield rfl rfl rfl (y_val tok rfl) ?_
  refine o_yield rfl rfl rfl (y_val tok rfl) ?_
  refine o_yield rfl rfl rfl (y_val tok rfl) ?_
  refine o_yield rfl rfl rfl (y_val tok rfl) ?_
  refine o_yield rfl rfl rfl (y_val tok rfl) ?_
  refine o_call (.a (.v _)) rfl rfl fnok59 rfl rfl rfl (fun hg E w1 hm => by exact in_c _ _ _ _) ?_
  refine o_yield rfl rfl rfl (y_val tok rfl) ?_
  refine o_yield rfl rfl rfl (y_val tok rfl) ?_
  refine o_yield rfl rfl rfl (y_val tok rfl) ?_
  refine o_yield rfl rfl rfl (y_val tok rfl) ?_
  refine o_yield rfl rfl rfl (y_val tok rfl) ?_
  refine o_yield rfl rfl rfl (y_val tok rfl) ?_
  refine o_yield rfl rfl rfl (y_val tok rfl) ?_
  refine o_call (.a (.v _)) rfl rfl fnok59 rfl rfl rfl (fun hg E w1 hm => by exact in_c _ _ _ _) ?_
  refine o_yield rfl rfl rfl (y_val tok rfl) ?_
  refine o_yield rfl rfl rfl (y_val tok rfl) ?_
  refine o_end [1, 2, 3, 25] rfl ?_
  refine x_then ?_
  refine c_cond rfl (fun h => ?_) (fun h => ?_)
  ·
    refine c_seq ?_
    refine c_region ?_
    refine o_yield rfl rfl rfl (y_val tok rfl) ?_
    refine o_end [6] rfl ?_
    refine x_then ?_
    refine c_ret ?_
    refine x_then_ret ?_
    refine b_ret tok rfl ?_
    rw [inB_iff, inB_iff] at h
    simp only [Bool.or_eq_true, Bool.not_eq_true', decide_eq_false_iff_not] at h
    intro E w' hm _
    refine ⟨?_, hm.below (Vw.le.refl _)⟩
    rw [dataV, if_neg]
    · rfl
    · rintro ⟨h1, h2⟩
      have hf := geo_facts h1
      rw [wrapI (by omega) (by omega), wrapI (by omega) (by omega), h1] at h
      simp only [Bool.true_eq_false, false_or] at h
      omega
  ·
    rw [inB_iff, inB_iff] at h
    simp only [Bool.or_eq_false_iff, Bool.not_eq_false', decide_eq_true_eq] at h
    obtain ⟨⟨hgg, h1⟩, h2⟩ := h
    have hf := geo_facts hgg
    have hz := geo_sizes hgg
    rw [wrapI (by omega) (by omega)] at h1 h2
    have hp := prod_bound (a := b) (b := g.per) (A := 64) (B := 8) (by omega) (by omega) (by omega) (by omega)
    have hda : dataAt g = 1 + 2 * g.nodes + g.log + g.slots * (1 + g.journal) := rfl
    refine c_skip ?_
    refine x_then ?_
    refine c_seq ?_
    refine c_region ?_
    refine o_yield rfl rfl rfl (y_val tok rfl) ?_
    refine o_yield rfl rfl rfl (y_val tok rfl) ?_
    refine o_yield rfl rfl rfl (y_val tok rfl) ?_
    refine o_yield rfl rfl rfl (y_val tok rfl) ?_
    refine o_yield rfl rfl rfl (y_val tok rfl) ?_
    refine o_yield rfl rfl rfl (y_val tok rfl) ?_
    refine o_yield rfl rfl rfl (y_val tok rfl) ?_
    refine o_yield rfl rfl rfl (y_val tok rfl) ?_
    refine o_yield rfl rfl rfl (y_val tok rfl) ?_
    refine o_yield rfl rfl rfl (y_val tok rfl) ?_
    refine o_yield rfl rfl rfl (y_val tok rfl) ?_
    refine o_yield rfl rfl rfl (y_val tok rfl) ?_
    refine o_yield rfl rfl rfl (y_val tok rfl) ?_
    refine o_yield rfl rfl rfl (y_val tok rfl) ?_
    refine o_yield rfl rfl rfl (y_val tok rfl) ?_
    refine o_yield rfl rfl rfl (y_val tok rfl) ?_
    refine o_yield rfl rfl rfl (y_val tok rfl) ?_
    refine o_yield rfl rfl rfl (y_val tok rfl) ?_
    refine o_yield rfl rfl rfl (y_val tok rfl) ?_
    refine o_yield rfl rfl rfl (y_val tok rfl) ?_
    refine o_yield rfl rfl rfl (y_val tok rfl) ?_
    refine o_yield rfl rfl rfl (y_val tok rfl) ?_
    refine o_end [6] rfl ?_
    refine x_then ?_
    refine c_ret ?_
    refine b_ret tok rfl ?_
    intro E w' hm _
    refine ⟨?_, hm.below (Vw.le.refl _)⟩
    rw [dataV, if_pos ⟨hgg, by omega, by omega, by omega, by omega⟩, wrapI (n := 2 * g.nodes) (by omega) (by omega), wrapI (n := 1 + 2 * g.nodes) (by omega) (by omega), wrapI (n := 1 + 2 * g.nodes + g.log) (by omega) (by omega), wrapI (n := 1 + g.journal) (by omega) (by omega),
      wrapI (n := g.slots * (1 + g.journal)) (by omega) (by omega), wrapI (n := 1 + 2 * g.nodes + g.log + g.slots * (1 + g.journal)) (by omega) (by omega), ← hda, wrapI (n := b * g.per) (by omega) (by omega), wrapI (n := dataAt g + b * g.per) (by omega) (by omega), wrapI (by omega) (by omega)]
    rfl

theorem refTotal_c (g : Geo) (ok : g.Ok) (w : World) : Calls Try.prog 19 #[g.val] w fun e w' => e = .returned (I (totV g)) ∧ Below w.heap.size w w' := by
  refine enter (E := E0) (O := []) (nl := 0) (V := vw w) [.a (.v g.val)] Try.func19 rfl rfl (mem0 E0 0 w) rfl rfl ?_
  refine c_seq ?_
  refine c_region ?_
  refine o_new tok rfl rfl rfl rfl ?_
  refine o_yield rfl rfl rfl (y_val tok rfl) ?_
  refine o_end [1] rfl ?_
  refine x_then ?_
  refine c_seq ?_
  refine c_seq ?_
  refine c_region ?_
  refine o_yield rfl rfl rfl (y_val tok rfl) ?_
  refine o_call (.a (.v _)) rfl rfl fnok17 rfl rfl rfl (fun hg E w1 hm => by exact refMay_c g ok _) ?_
  refine o_yield rfl rfl rfl (y_val tok rfl) ?_
  refine o_end [1, 5] rfl ?_
  refine x_then ?_
  refine c_cond rfl (fun h => ?_) (fun h => ?_)
  ·
    simp only [Bool.and_eq_true, Bool.or_eq_true, Bool.not_eq_true', Bool.or_eq_false_iff, Bool.and_eq_false_iff, decide_eq_true_eq, decide_eq_false_iff_not, beq_iff_eq, bne_iff_ne, Bool.not_eq_false', beq_eq_false_iff_ne, bne_eq_false_iff_eq, ne_eq, Decidable.not_not, Int.not_lt, Int.not_le] at h
    refine c_seq ?_
    refine c_region ?_
    refine o_yield rfl rfl rfl (y_val tok rfl) ?_
    refine o_end [2] rfl ?_
    refine x_then ?_
    refine c_ret ?_
    refine x_then_ret ?_
    refine b_ret tok rfl ?_
    intro E w' hm _
    refine ⟨?_, hm.below (Vw.le.refl _)⟩
    rw [totV, if_neg (by simp [h])]; rfl
  ·
    simp only [Bool.and_eq_true, Bool.or_eq_true, Bool.not_eq_true', Bool.or_eq_false_iff, Bool.and_eq_false_iff, decide_eq_true_eq, decide_eq_false_iff_not, beq_iff_eq, bne_iff_ne, Bool.not_eq_false', beq_eq_false_iff_ne, bne_eq_false_iff_eq, ne_eq, Decidable.not_not, Int.not_lt, Int.not_le] at h
    have hf := geo_facts h
    have hz := geo_sizes h
    refine c_skip ?_
    refine x_then ?_
    refine c_seq ?_
    refine c_region ?_
    refine o_yield rfl rfl rfl (y_val tok rfl) ?_
    refine o_yield rfl rfl rfl (y_val tok rfl) ?_
    refine o_yield rfl rfl rfl (y_val tok rfl) ?_
    refine o_yield rfl rfl rfl (y_val tok rfl) ?_
    refine o_yield rfl rfl rfl (y_val tok rfl) ?_
    refine o_yield rfl rfl rfl (y_val tok rfl) ?_
    refine o_yield rfl rfl rfl (y_val tok rfl) ?_
    rw [wrapI (n := g.blocks - 1) (by omega) (by omega), wrapI (n := g.per - 1) (by omega) (by omega)]
    refine o_call (.a (.v _)) rfl rfl fnok60 rfl rfl rfl (fun hg E w1 hm => by exact refData_c g ok _ _ _) ?_
    refine o_yield rfl rfl rfl (y_val tok rfl) ?_
    refine o_yield rfl rfl rfl (y_val tok rfl) ?_
    refine o_end [2] rfl ?_
    refine x_then ?_
    refine c_ret ?_
    refine b_ret tok rfl ?_
    have hb := prod_bound (a := g.blocks) (b := g.per) (A := 64) (B := 8) (by omega) (by omega) (by omega) (by omega)
    have e : dataV g (g.blocks - 1) (g.per - 1) + 1 = totV g := by
      rw [dataV, if_pos ⟨h, by omega, by omega, by omega, by omega⟩, totV, if_pos h, Int.sub_mul, Int.one_mul]
      omega
    have ht : totV g ≤ 2097 ∧ 0 ≤ totV g := by rw [totV, if_pos h]; omega
    intro E w' hm _
    refine ⟨?_, hm.below (Vw.le.refl _)⟩
    rw [← e, wrapI (by omega) (by omega)]; rfl
end Go.Proofs.Ytikdaehmaaogdaa

/- A text's pieces: the program's. -/
set_option linter.unusedVariables false
set_option linter.unusedSimpArgs false
set_option maxRecDepth 100000
namespace Go.Proofs.Ytikdaehmaaogdaa
open Go Go.Eng Go.RowKit

def pieceAt (text : ByteArray) (k : Nat) : ByteArray := headOf (restAt text k)
def pieceL (per : Nat) (text : ByteArray) : List ByteArray := (List.range per).map (pieceAt text)

theorem str_ones (l : List ByteArray) : ∀ u ∈ l.flatMap encS, u.oneCell' = true := by
  intro u hu
  obtain ⟨x, _, hx⟩ := List.mem_flatMap.1 hu
  simp only [encS, List.mem_singleton] at hx
  subst hx
  rfl

def PcPost (g : Geo) (text : ByteArray) (w : World) (e : Ending) (w' : World) : Prop :=
  ((geoB g = true ∧ (text.size : Int) ≤ g.per * 256 ∧ ∃ v, e = .returned (.tuple #[v, I 0]) ∧ w'.ownsRow w.heap.size 9 1 v (pieceL g.per.toNat text).length ((pieceL g.per.toNat text).flatMap encS)) ∨
    (geoB g = false ∧ e = .returned (.tuple #[.slice none 0 0, I 2])) ∨ (geoB g = true ∧ g.per * 256 < (text.size : Int) ∧ e = .returned (.tuple #[.slice none 0 0, I 60]))) ∧ Below w.heap.size w w'

end Go.Proofs.Ytikdaehmaaogdaa

/- Whether a transaction fits, which blocks may be. -/
set_option linter.unusedVariables false
set_option linter.unusedSimpArgs false
set_option maxRecDepth 100000
namespace Go.Proofs.Ytikdaehmaaogdaa
open Go Go.Eng Go.RowKit

def fitsV (g : Geo) (used n : Int) : Int :=
  if geoB g = false ∨ used < 0 ∨ g.journal < used ∨ n < 0 then 2 else if g.journal < manyOf g n then 180 else if g.journal < manyOf g n + used then 190 else 0

/-- Blocks behind a number. -/
def mayF (g : Geo) : Int → List Block → Bool
  | _, [] => true
  | last, x :: r => decide (last < x.n ∧ x.n < g.blocks ∧ (x.text.size : Int) ≤ g.per * 256) && mayF g x.n r

def mayL (g : Geo) (l : List Block) : Bool := geoB g && mayF g (-1) l

theorem lastN_succ {l : List Block} {i : Nat} {x : Block} (h : l[i]? = some x) : lastN l (i + 1) = x.n := by rw [lastN, blkAt_eq h]

end Go.Proofs.Ytikdaehmaaogdaa

/- A transaction that is committed: the program's. -/
set_option linter.unusedVariables false
set_option linter.unusedSimpArgs false
set_option maxRecDepth 100000
namespace Go.Proofs.Ytikdaehmaaogdaa
open Go Go.Eng Go.RowKit

/-- What the device is asked. -/
structure ActV where
  kind : Int
  sector : Int
  b : ByteArray
  key : Int
abbrev ActV.val (a : ActV) : Value := .agg #[I8 a.kind, I a.sector, S a.b, I a.key]
abbrev act0 : ActV := ⟨0, 0, ByteArray.empty, 0⟩

abbrev putV (v : Value) (i : Int) : Value := .agg #[v, I i]

/-- record.Of: its rows, or none. -/
def OfRes (g : Geo) (key lsn : Int) (l : List Block) (x : List Record × Int) : Prop := (OfOk g key lsn l ∧ x.1 = allRecs g key lsn l ∧ x.2 = 0) ∨ (¬ OfOk g key lsn l ∧ x.1 = [] ∧ x.2 = 2)

section
variable {o : Oper} {n : Nat} {F : Frame0} {C : List Nat} {O : Go.Eng.Own} {nl : Nat} {V : Vw}
end

/-- What beginning to commit comes to. -/
def BegRes (g : Geo) (key head tail : Int) (l : List Block) (L : List Record) (e : Int) : Prop :=
  (fitsV g (IntKind.i64.wrap (head - tail)) l.length ≠ 0 ∧ L = [] ∧ e = fitsV g (IntKind.i64.wrap (head - tail)) l.length) ∨
  (fitsV g (IntKind.i64.wrap (head - tail)) l.length = 0 ∧ OfRes g key head l (L, e))

def leftV (n i : Int) : Int := max 0 (n - max i 0)

def takeI (n i : Int) : Int := if n ≤ i then i else IntKind.i64.wrap (i + 1)

def rec0' : Record := ⟨0, 0, 0, 0, ByteArray.empty, 0⟩
def nextR (L : List Record) (i : Int) : Record := if i < 0 then rec0' else (L[i.toNat]?).getD rec0'

end Go.Proofs.Ytikdaehmaaogdaa

/- Sectors that are made of numbers: the document's. -/
set_option linter.unusedVariables false
set_option linter.unusedSimpArgs false
set_option maxRecDepth 100000
namespace Go.Proofs.Ytikdaehmaaogdaa
open Go Go.Eng Go.RowKit

theorem refMake_c (kind : Int) (hk : R8 kind) (t : ByteArray) (V : Vw) (kv nv : Value) (ks ns : List Int) (w : World) (ht : t.size ≤ 1099511627776) (hV : V.le (vw w)) (hks : SlOf V encI64 1 kv ks) (hns : SlOf V encI64 1 nv ns)
    (hlen : ks.length = ns.length) (hn : ns.length ≤ 1000) (hfit : ∀ (i : Nat) (k n : Int), ks[i]? = some k → ns[i]? = some n → putOk k [n] = true) (hsz : ∀ i : Nat, (packL (ks.take i) (ns.take i)).length ≤ 505) :
    Calls Try.prog 54 #[I8 kind, S t, kv, nv] w fun e w' => e = .returned (.tuple #[S (sealS kind (strOf (packL ks ns) ++ t)).1, I (sealS kind (strOf (packL ks ns) ++ t)).2]) ∧ Below w.heap.size w w' := by
  have hks' := hks.mono hV
  have hns' := hns.mono hV
  refine enter (E := E0) (O := []) (nl := 0) (V := vw w) [.a (.v (I8 kind)), .a (.v (S t)), .a (.v kv), .a (.v nv)] Try.func54 rfl rfl (mem0 E0 0 w) rfl rfl ?_
  refine c_seq ?_
  refine c_region ?_
  refine o_yield rfl rfl rfl (y_val tok rfl) ?_
  refine o_yield rfl rfl rfl (y_val tok rfl) ?_
  refine o_end [0, 1, 2, 3] rfl ?_
  refine x_then ?_
  refine c_seq ?_
  refine c_seq ?_
  refine c_region ?_
  refine o_yield rfl rfl rfl (y_val tok rfl) ?_
  refine o_yield rfl rfl rfl (y_len tok rfl (fun hg => hks'.sl)) ?_
  refine o_yield rfl rfl rfl (y_val tok rfl) ?_
  refine o_yield rfl rfl rfl (y_len tok rfl (fun hg => hns'.sl)) ?_
  refine o_yield rfl rfl rfl (y_val tok rfl) ?_
  refine o_end [0, 1, 2, 3, 18] rfl ?_
  refine x_then ?_
  refine c_cond rfl (fun h => ?_) (fun h => ?_)
  ·
    simp only [Bool.and_eq_true, Bool.or_eq_true, Bool.not_eq_true', Bool.or_eq_false_iff, Bool.and_eq_false_iff, decide_eq_true_eq, decide_eq_false_iff_not, beq_iff_eq, bne_iff_ne, Bool.not_eq_false', beq_eq_false_iff_ne, bne_eq_false_iff_eq, ne_eq, Decidable.not_not, Int.not_lt, Int.not_le] at h
    refine c_seq ?_
    refine c_region ?_
    refine o_yield rfl rfl rfl (y_val tok rfl) ?_
    refine o_yield rfl rfl rfl (y_val tok rfl) ?_
    refine o_end [8, 9] rfl ?_
    refine x_then ?_
    refine c_ret ?_
    refine x_then_ret ?_
    refine b_ret tok rfl ?_
    omega
  ·
    simp only [Bool.and_eq_true, Bool.or_eq_true, Bool.not_eq_true', Bool.or_eq_false_iff, Bool.and_eq_false_iff, decide_eq_true_eq, decide_eq_false_iff_not, beq_iff_eq, bne_iff_ne, Bool.not_eq_false', beq_eq_false_iff_ne, bne_eq_false_iff_eq, ne_eq, Decidable.not_not, Int.not_lt, Int.not_le] at h
    clear h
    refine c_skip ?_
    refine x_then ?_
    refine c_seq ?_
    refine c_region ?_
    refine o_yield rfl rfl rfl (y_val tok rfl) ?_
    refine o_end [0, 1, 2, 3, 10] rfl ?_
    refine x_then ?_
    refine c_seq ?_
    refine c_seq ?_
    refine c_region ?_
    refine o_yield rfl rfl rfl (y_val tok rfl) ?_
    refine o_end [0, 1, 2, 3, 10, 11] rfl ?_
    refine x_then ?_
    refine c_block ?_
    refine k_nil 10 5 1 rfl rfl ?_
    refine c_loopK [0, 1, 2, 3] [0] rfl rfl (σ := Nat) (fun i => [(10, .a (.row 0)), (11, .a (.v (I i)))]) (fun i => [(0, .row 5 1 (packL (ks.take i) (ns.take i)).length ((packL (ks.take i) (ns.take i)).flatMap encByte))]) (fun i => i ≤ ns.length) (fun i => ns.length - i) (0) (by omega) (by repeat (first | exact SubF.nil | refine SubF.cons rfl ?_)) (by repeat (first | exact SubO.nil | refine SubO.cons rfl ?_)) rfl ?_
    rintro i hi
    refine c_seq ?_
    refine c_seq ?_
    refine c_region ?_
    refine o_yield rfl rfl rfl (y_val tok rfl) ?_
    refine o_yield rfl rfl rfl (y_val tok rfl) ?_
    refine o_yield rfl rfl rfl (y_len tok rfl (fun hg => hns'.sl)) ?_
    refine o_yield rfl rfl rfl (y_val tok rfl) ?_
    refine o_end [0, 1, 2, 3, 10, 11, 22] rfl ?_
    refine x_then ?_
    refine c_cond rfl (fun h => ?_) (fun h => ?_)
    ·
      simp only [Bool.and_eq_true, Bool.or_eq_true, Bool.not_eq_true', Bool.or_eq_false_iff, Bool.and_eq_false_iff, decide_eq_true_eq, decide_eq_false_iff_not, beq_iff_eq, bne_iff_ne, Bool.not_eq_false', beq_eq_false_iff_ne, bne_eq_false_iff_eq, ne_eq, Decidable.not_not, Int.not_lt, Int.not_le] at h
      refine c_skip ?_
      refine x_then ?_
      refine c_seq ?_
      refine c_block ?_
      refine c_seq ?_
      refine c_heldR mixed rfl (by repeat (first | exact SubO.nil | refine SubO.cons rfl ?_)) (by first | rfl | simp [okCels, allOk_plain]) ?_
      refine t_take 0 rfl (by kernel_rfl) rfl rfl rfl (y_val tok rfl) rfl ?_
      refine t_take 1 rfl (by kernel_rfl) rfl rfl rfl (y_val tok rfl) rfl ?_
      refine t_take 2 rfl (by kernel_rfl) rfl rfl rfl (y_val tok rfl) rfl ?_
      obtain ⟨n, h_n⟩ := hns'.at (k := i) (by omega)
      obtain ⟨k, h_k⟩ := hks'.at (k := i) (by omega)
      have hpi := hsz i
      have hps := hsz (i + 1)
      have hlt_k := lt_of_at h_k
      refine t_take 3 rfl (by kernel_rfl) rfl rfl rfl (y_idx tok rfl (fun hg => hks'.sl) (fun hg => ⟨by omega, by omega⟩)) rfl ?_
      refine t_take 4 rfl (by kernel_rfl) rfl rfl rfl (y_lel tok (i) 0 (k) rfl (fun hg => hks') (fun hg => h_k) rfl rfl) rfl ?_
      refine t_take 5 rfl (by kernel_rfl) rfl rfl rfl (y_val tok rfl) rfl ?_
      refine t_take 6 rfl (by kernel_rfl) rfl rfl rfl (y_val tok rfl) rfl ?_
      have hlt_n := lt_of_at h_n
      refine t_take 7 rfl (by kernel_rfl) rfl rfl rfl (y_idx tok rfl (fun hg => hns'.sl) (fun hg => ⟨by omega, by omega⟩)) rfl ?_
      refine t_take 8 rfl (by kernel_rfl) rfl rfl rfl (y_lel tok (i) 0 (n) rfl (fun hg => hns') (fun hg => h_n) rfl rfl) rfl ?_
      refine t_go ?_
      refine h_one 9 (by kernel_rfl) ?_
      refine h_to 9 rfl rfl rfl rfl rfl rfl (s_bs tok 1 rfl rfl rfl) (.inr fun _ _ => ⟨(by repeat (first | exact SubO.nil | refine SubO.cons rfl ?_)), rfl, (by first | exact Vw.le.refl _ | assumption)⟩) (fun _ _ => ?_)
      refine h_one 10 (by kernel_rfl) ?_
      have hpp : putL (packL (ks.take i) (ns.take i)) k [n] = packL (ks.take (i + 1)) (ns.take (i + 1)) := by rw [putL_one, ← packL_succ h_k h_n]
      refine h_to 10 rfl rfl rfl rfl rfl rfl (s_refPut (packL (ks.take i) (ns.take i)) k [n] rfl (hfit i k n h_k h_n) (by omega) (by simp) (fun E w hm => ⟨_, _, rfl, hm.rowOf (enc := encByte) 0 rfl (fun _ => rfl), hm.rowOf (enc := encI64) (L := [n]) 1 rfl (fun _ => rfl)⟩)) (.inr fun _ _ => ⟨(by repeat (first | exact SubO.nil | refine SubO.cons rfl ?_)), rfl, (by first | exact Vw.le.refl _ | assumption)⟩) (fun _ _ => ?_)
      refine h_one 11 (by kernel_rfl) ?_
      refine h_yield 11 rfl rfl rfl rfl (y_val tok rfl) ?_
      refine h_take 12 rfl (by kernel_rfl) rfl rfl rfl rfl (y_val tok rfl) rfl ?_
      refine h_take 13 rfl (by kernel_rfl) rfl rfl rfl rfl (y_val tok rfl) rfl ?_
      refine h_one 14 (by kernel_rfl) ?_
      refine h_yield 14 rfl rfl rfl rfl (y_val tok rfl) ?_
      refine h_one 15 (by kernel_rfl) ?_
      refine h_yield 15 rfl rfl rfl rfl (y_val tok rfl) ?_
      refine h_done [0, 1, 2, 3, 11, 12, 13] (by kernel_rfl) rfl ?_
      refine x_then ?_
      refine c_seq ?_
      refine c_seq ?_
      refine c_region ?_
      refine o_yield rfl rfl rfl (y_val tok rfl) ?_
      refine o_yield rfl rfl rfl (y_val tok rfl) ?_
      refine o_end [0, 1, 2, 3, 11, 12, 40] rfl ?_
      refine x_then ?_
      refine c_cond rfl (fun h => ?_) (fun h => ?_)
      ·
        simp only [Bool.and_eq_true, Bool.or_eq_true, Bool.not_eq_true', Bool.or_eq_false_iff, Bool.and_eq_false_iff, decide_eq_true_eq, decide_eq_false_iff_not, beq_iff_eq, bne_iff_ne, Bool.not_eq_false', beq_eq_false_iff_ne, bne_eq_false_iff_eq, ne_eq, Decidable.not_not, Int.not_lt, Int.not_le] at h
        refine c_seq ?_
        refine c_region ?_
        refine o_yield rfl rfl rfl (y_val tok rfl) ?_
        refine o_yield rfl rfl rfl (y_val tok rfl) ?_
        refine o_end [8, 9] rfl ?_
        refine x_then ?_
        refine c_ret ?_
        refine x_then_ret ?_
        refine x_block_ret ?_
        refine x_then_ret ?_
        refine x_then_ret ?_
        refine x_block_ret ?_
        refine x_then_ret ?_
        refine b_ret tok rfl ?_
        contradiction
      ·
        simp only [Bool.and_eq_true, Bool.or_eq_true, Bool.not_eq_true', Bool.or_eq_false_iff, Bool.and_eq_false_iff, decide_eq_true_eq, decide_eq_false_iff_not, beq_iff_eq, bne_iff_ne, Bool.not_eq_false', beq_eq_false_iff_ne, bne_eq_false_iff_eq, ne_eq, Decidable.not_not, Int.not_lt, Int.not_le] at h
        clear h
        rw [hpp]
        refine c_skip ?_
        refine x_then ?_
        refine c_seq ?_
        refine c_region ?_
        refine o_yield rfl rfl rfl (y_val tok rfl) ?_
        refine o_yield rfl rfl rfl (y_val tok rfl) ?_
        refine o_end [0, 1, 2, 3, 10, 11] rfl ?_
        refine x_then ?_
        refine c_seq ?_
        refine c_region ?_
        refine o_yield rfl rfl rfl (y_val tok rfl) ?_
        refine o_yield rfl rfl rfl (y_val tok rfl) ?_
        refine o_yield rfl rfl rfl (y_val tok rfl) ?_
        refine o_end [0, 1, 2, 3, 10, 11, 44] rfl ?_
        refine x_then ?_
        refine c_cond rfl (fun h => ?_) (fun h => ?_)
        ·
          simp only [Bool.and_eq_true, Bool.or_eq_true, Bool.not_eq_true', Bool.or_eq_false_iff, Bool.and_eq_false_iff, decide_eq_true_eq, decide_eq_false_iff_not, beq_iff_eq, bne_iff_ne, Bool.not_eq_false', beq_eq_false_iff_ne, bne_eq_false_iff_eq, ne_eq, Decidable.not_not, Int.not_lt, Int.not_le] at h
          refine c_seq ?_
          refine c_region ?_
          refine o_yield rfl rfl rfl (y_val tok rfl) ?_
          refine o_yield rfl rfl rfl (y_val tok rfl) ?_
          refine o_end [8, 9] rfl ?_
          refine x_then ?_
          refine c_ret ?_
          refine x_block_ret ?_
          refine x_then_ret ?_
          refine x_then_ret ?_
          refine x_block_ret ?_
          refine x_then_ret ?_
          refine b_ret tok rfl ?_
          omega
        ·
          simp only [Bool.and_eq_true, Bool.or_eq_true, Bool.not_eq_true', Bool.or_eq_false_iff, Bool.and_eq_false_iff, decide_eq_true_eq, decide_eq_false_iff_not, beq_iff_eq, bne_iff_ne, Bool.not_eq_false', beq_eq_false_iff_ne, bne_eq_false_iff_eq, ne_eq, Decidable.not_not, Int.not_lt, Int.not_le] at h
          refine c_skip ?_
          refine x_block ?_
          refine x_then ?_
          refine c_region ?_
          refine o_yield rfl rfl rfl (y_val tok rfl) ?_
          refine o_yield rfl rfl rfl (y_val tok rfl) ?_
          refine o_yield rfl rfl rfl (y_val tok rfl) ?_
          refine o_end [0, 1, 2, 3, 10, 11] rfl ?_
          refine x_then ?_
          rw [wrapI (n := (i : Int) + 1) (by omega) (by omega)]
          refine k_swap 0 2 rfl ?_
          refine x_round (i + 1) (by omega) (by first | omega | (dsimp only; omega)) (by repeat (first | exact SubF.nil | refine SubF.cons rfl ?_)) (by repeat (first | exact SubO.nil | refine SubO.cons rfl ?_)) rfl (Vw.le.refl _)
    ·
      simp only [Bool.and_eq_true, Bool.or_eq_true, Bool.not_eq_true', Bool.or_eq_false_iff, Bool.and_eq_false_iff, decide_eq_true_eq, decide_eq_false_iff_not, beq_iff_eq, bne_iff_ne, Bool.not_eq_false', beq_eq_false_iff_ne, bne_eq_false_iff_eq, ne_eq, Decidable.not_not, Int.not_lt, Int.not_le] at h
      have hil : i = ns.length := by omega
      subst hil
      have hpi := hsz ns.length
      rw [List.take_length, show ks.take ns.length = ks by rw [← hlen, List.take_length]] at hpi ⊢
      refine c_exit ?_
      refine x_then_exit ?_
      refine x_then_exit ?_
      refine x_block_hit ?_
      refine x_then ?_
      refine c_seq ?_
      refine c_region ?_
      refine o_yield rfl rfl rfl (y_val tok rfl) ?_
      refine o_yield rfl rfl rfl (y_val tok rfl) ?_
      refine o_yield rfl rfl rfl (y_own (s := .a (.v (.string (strOf (packL ks ns))))) 0 rfl rfl (fun v V' hs => y_b2s tok _ rfl (fun hg => hs))) ?_
      refine o_yield rfl rfl rfl (y_val tok rfl) ?_
      have hst := strOf_size (packL ks ns)
      have hcs : (strOf (packL ks ns) ++ t).size = (packL ks ns).length + t.size := by rw [ByteArray.size_append, hst]
      refine o_yield rfl rfl rfl (y_cat rfl (fun hg => by omega)) ?_
      refine o_call (.a (.v _)) rfl rfl fnok93 rfl rfl rfl (fun hg E w1 hm => by exact refSeal_c kind hk (strOf (packL ks ns) ++ t) (by simp only [maxLen]; omega) _) ?_
      refine o_yield rfl rfl rfl (y_val tok rfl) ?_
      refine o_yield rfl rfl rfl (y_val tok rfl) ?_
      refine o_yield rfl rfl rfl (y_val tok rfl) ?_
      refine o_yield rfl rfl rfl (y_val tok rfl) ?_
      refine o_end [8, 9] rfl ?_
      refine x_then ?_
      refine c_ret ?_
      refine b_ret tok rfl ?_
      intro E w' hm _
      refine ⟨?_, hm.below (Vw.le.refl _)⟩
      rfl

theorem rec_pack_take (r : Record) (i : Nat) : (packL (rWidths.take i) ((rNums r).take i)).length ≤ 505 := by
  have h1 := pack_len (rWidths.take i) ((rNums r).take i)
  have h2 : ((rWidths.take i).map Int.toNat).sum ≤ 17 := by
    match i with
    | 0 => decide
    | 1 => decide
    | 2 => decide
    | 3 => decide
    | 4 => decide
    | i + 5 => rw [List.take_of_length_le (by simp [rWidths])]; decide
  omega

theorem refBytes_c (r : Record) (w : World) : Calls Try.prog 13 #[r.val] w fun e w' => e = .returned (.tuple #[S (bytesV r), I (bytesE r)]) ∧ Below w.heap.size w w' := by
  refine enter (E := E0) (O := []) (nl := 0) (V := vw w) [.a (.v r.val)] Try.func13 rfl rfl (mem0 E0 0 w) rfl rfl ?_
  refine c_seq ?_
  refine c_region ?_
  refine o_new tok rfl rfl rfl rfl ?_
  refine o_yield rfl rfl rfl (y_val tok rfl) ?_
  refine o_yield rfl rfl rfl (y_val tok rfl) ?_
  refine o_end [1] rfl ?_
  refine x_then ?_
  refine c_seq ?_
  refine c_seq ?_
  refine c_region ?_
  refine o_yield rfl rfl rfl (y_val tok rfl) ?_
  refine o_call (.a (.v _)) rfl rfl fnok55 rfl rfl rfl (fun hg E w1 hm => by exact refRecMay_c r _) ?_
  refine o_yield rfl rfl rfl (y_val tok rfl) ?_
  refine o_end [1, 6] rfl ?_
  refine x_then ?_
  refine c_cond rfl (fun h => ?_) (fun h => ?_)
  ·
    simp only [Bool.and_eq_true, Bool.or_eq_true, Bool.not_eq_true', Bool.or_eq_false_iff, Bool.and_eq_false_iff, decide_eq_true_eq, decide_eq_false_iff_not, beq_iff_eq, bne_iff_ne, Bool.not_eq_false', beq_eq_false_iff_ne, bne_eq_false_iff_eq, ne_eq, Decidable.not_not, Int.not_lt, Int.not_le] at h
    refine c_seq ?_
    refine c_region ?_
    refine o_yield rfl rfl rfl (y_val tok rfl) ?_
    refine o_yield rfl rfl rfl (y_val tok rfl) ?_
    refine o_end [2, 3] rfl ?_
    refine x_then ?_
    refine c_ret ?_
    refine x_then_ret ?_
    refine b_ret tok rfl ?_
    intro E w' hm _
    refine ⟨?_, hm.below (Vw.le.refl _)⟩
    rw [bytesV, bytesE, if_neg (by simp [h]), if_neg (by simp [h])]
    rfl
  ·
    simp only [Bool.and_eq_true, Bool.or_eq_true, Bool.not_eq_true', Bool.or_eq_false_iff, Bool.and_eq_false_iff, decide_eq_true_eq, decide_eq_false_iff_not, beq_iff_eq, bne_iff_ne, Bool.not_eq_false', beq_eq_false_iff_ne, bne_eq_false_iff_eq, ne_eq, Decidable.not_not, Int.not_lt, Int.not_le] at h
    have hr := h
    have ok := recOk hr
    have hrt := ok.text
    clear h
    refine c_skip ?_
    refine x_then ?_
    refine c_seq ?_
    refine c_region ?_
    refine o_yield rfl rfl rfl (y_val tok rfl) ?_
    refine o_yield rfl rfl rfl (y_val tok rfl) ?_
    refine o_bs tok rfl rfl rfl rfl (fun b1 V1 hle1 hb1 => ?_)
    refine o_yield rfl rfl rfl (y_val tok rfl) ?_
    refine o_yield rfl rfl rfl (y_val tok rfl) ?_
    refine o_yield rfl rfl rfl (y_val tok rfl) ?_
    refine o_yield rfl rfl rfl (y_val tok rfl) ?_
    refine o_yield rfl rfl rfl (y_val tok rfl) ?_
    refine o_yield rfl rfl rfl (y_val tok rfl) ?_
    refine o_yield rfl rfl rfl (y_val tok rfl) ?_
    refine o_yield rfl rfl rfl (y_val tok rfl) ?_
    refine o_yield rfl rfl rfl (y_val tok rfl) ?_
    refine o_yield rfl rfl rfl (y_val tok rfl) ?_
    refine o_bs tok rfl rfl rfl rfl (fun b2 V2 hle2 hb2 => ?_)
    have h1 := SlOf.ofBlock (enc := encI64) (sz := 1) (l := rWidths) (hle2.get _ _ (hb1 rfl)) rfl (fun _ => rfl) (Nat.le_refl _)
    have h2 := SlOf.ofBlock (enc := encI64) (sz := 1) (l := rNums r) (hb2 rfl) rfl (fun _ => rfl) (Nat.le_refl _)
    have hpk : ∀ i : Nat, (packL (rWidths.take i) ((rNums r).take i)).length ≤ 505 := rec_pack_take r
    refine o_call (.a (.v _)) rfl rfl fnok54 rfl rfl rfl (fun hg E w1 hm => by exact refMake_c 6 (by unfold R8; omega) r.text V2 _ _ rWidths (rNums r) _ (by omega) hm.leV h1 h2 rfl (by simp [rNums]) (fun i k n hk hn => putOk_of (rec_fits ok i k n hk hn)) hpk) ?_
    refine o_yield rfl rfl rfl (y_val tok rfl) ?_
    refine o_yield rfl rfl rfl (y_val tok rfl) ?_
    refine o_yield rfl rfl rfl (y_val tok rfl) ?_
    refine o_yield rfl rfl rfl (y_val tok rfl) ?_
    refine o_end [2, 3] rfl ?_
    refine x_then ?_
    refine c_ret ?_
    refine b_ret tok rfl ?_
    rw [seal_rec ok]
    intro E w' hm _
    refine ⟨?_, hm.below ((hle1.trans hle2))⟩
    rw [bytesV, bytesE, if_pos hr, if_pos hr]
    rfl
end Go.Proofs.Ytikdaehmaaogdaa

/- Superblocks and headers: the program's. -/
set_option linter.unusedVariables false
set_option linter.unusedSimpArgs false
set_option maxRecDepth 100000
namespace Go.Proofs.Ytikdaehmaaogdaa
open Go Go.Eng Go.RowKit

abbrev gW : List Int := [2, 2, 2, 2, 2, 2, 4, 4]
abbrev gNums (g : Geo) : List Int := [g.nodes, g.slots, g.blocks, g.per, g.journal, g.log, g.lease, g.wait]

abbrev encP (b : Nat) (k : Nat) : List Value := [.pointer (some ⟨b, k, none⟩)]

def gbV (g : Geo) : ByteArray := if geoB g = true then strOf (sealL 1 (packL gW (gNums g))) else ByteArray.empty
def gbE (g : Geo) : Int := if geoB g = true then 0 else 40

theorem gnums_fit {g : Geo} (h : geoB g = true) : ∀ (i : Nat) (k n : Int), gW[i]? = some k → (gNums g)[i]? = some n → fitsB n k = true := by
  have m2 : mostN (2 : Int).toNat = 65535 := by decide
  have m4 : mostN (4 : Int).toNat = 4294967295 := by decide
  have hf := geo_facts h
  intro i k n hk hn
  match i with
  | 0 => cases hk; cases hn; rw [fitsB, m2]; simp [widthB]; omega
  | 1 => cases hk; cases hn; rw [fitsB, m2]; simp [widthB]; omega
  | 2 => cases hk; cases hn; rw [fitsB, m2]; simp [widthB]; omega
  | 3 => cases hk; cases hn; rw [fitsB, m2]; simp [widthB]; omega
  | 4 => cases hk; cases hn; rw [fitsB, m2]; simp [widthB]; omega
  | 5 => cases hk; cases hn; rw [fitsB, m2]; simp [widthB]; omega
  | 6 => cases hk; cases hn; rw [fitsB, m4]; simp [widthB]; omega
  | 7 => cases hk; cases hn; rw [fitsB, m4]; simp [widthB]; omega
  | i + 8 => simp [gW] at hk

theorem gpack_take (g : Geo) (i : Nat) : (packL (gW.take i) ((gNums g).take i)).length ≤ 505 := by
  have h1 := pack_len (gW.take i) ((gNums g).take i)
  have h2 : ((gW.take i).map Int.toNat).sum ≤ 20 := by
    match i with
    | 0 => decide
    | 1 => decide
    | 2 => decide
    | 3 => decide
    | 4 => decide
    | 5 => decide
    | 6 => decide
    | 7 => decide
    | i + 8 => rw [List.take_of_length_le (by simp [gW])]; decide
  omega

theorem gseal (g : Geo) : sealS 1 (strOf (packL gW (gNums g)) ++ ByteArray.empty) = (strOf (sealL 1 (packL gW (gNums g))), 0) := by
  have h20 : (packL gW (gNums g)).length = 20 := by simp [packL, gW, gNums, leB, leTake_len]
  rw [sealS, if_neg (by rw [ByteArray.size_append, strOf_size]; simp; omega)]
  congr 2

/-- What a superblock's numbers say. -/
def geoOf : List Int → Geo
  | [a, b, c, d, e, f, g, h] => ⟨a, b, c, d, e, f, g, h⟩
  | _ => ⟨0, 0, 0, 0, 0, 0, 0, 0⟩
abbrev geo0 : Geo := ⟨0, 0, 0, 0, 0, 0, 0, 0⟩

/-- What a superblock is read as. -/
def srOk (s : ByteArray) : Option Geo := match fieldsR 1 s gW with
  | some (l, r) => if r.size = 0 ∧ geoB (geoOf l) = true then some (geoOf l) else none
  | none => none
def srV (s : ByteArray) : Geo := (srOk s).getD geo0
def srE (s : ByteArray) : Int := if (srOk s).isSome then 0 else 50

theorem eight {l : List Int} (h : l.length = 8) : ∃ a b c d e f g i, l = [a, b, c, d, e, f, g, i] := by
  match l, h with
  | [a, b, c, d, e, f, g, i], _ => exact ⟨a, b, c, d, e, f, g, i, rfl⟩

theorem size_empty' (r : ByteArray) : (r.toList == (⟨#[]⟩ : ByteArray).toList) = decide (r.size = 0) := empty_beq r

/-- The cells of a geometry of which the first numbers are known. -/
def geoC' (l : List Int) (i j : Nat) : A := .v (I (if j < i then l.getD j 0 else 0))
def geoTo (l : List Int) (i : Nat) : List A := [geoC' l i 0, geoC' l i 1, geoC' l i 2, geoC' l i 3, geoC' l i 4, geoC' l i 5, geoC' l i 6, geoC' l i 7]

end Go.Proofs.Ytikdaehmaaogdaa

/- Headers: the program's; superblocks and headers: the document's. -/
set_option linter.unusedVariables false
set_option linter.unusedSimpArgs false
set_option maxRecDepth 100000
namespace Go.Proofs.Ytikdaehmaaogdaa
open Go Go.Eng Go.RowKit

theorem refPut_no {bv lv : Value} {w : World} (bl : List UInt8) (k : Int) (ls : List Int) (hok : putOk k ls = false) (hbn : bl.length ≤ 1099511627776) (hln : ls.length ≤ 1099511627776) (hb : SlOf (vw w) encByte 1 bv bl) (hl : SlOf (vw w) encI64 1 lv ls) :
    Calls Try.prog 80 #[bv, I k, lv] w fun e w' => e = .returned (.tuple #[.slice none 0 0, I 2]) ∧ Below w.heap.size w w' := by
  refine (refPut_c (vw w) bv bl k lv ls w (Vw.le.refl _) hb hl hbn hln).mono ?_
  rintro e w' ⟨⟨h, _⟩ | ⟨_, he⟩, hbl⟩
  · rw [hok] at h; cases h
  · exact ⟨he, hbl⟩

def headS (n : Int) : ByteArray × Int := if fitsB n 6 = true then (strOf (sealL 2 (leB 6 n)), 0) else (ByteArray.empty, 2)

theorem putOk_one {n : Int} : putOk 6 [n] = fitsB n 6 := by simp [putOk, widthB]

theorem hseal {n : Int} (h : fitsB n 6 = true) : sealS 2 (strOf (packL [6] [n]) ++ ByteArray.empty) = headS n := by
  have h6 : (packL [6] [n]) = leB 6 n := by simp [packL]
  have hl : (leB 6 n).length = 6 := by simp [leB, leTake_len]
  rw [sealS, if_neg (by rw [ByteArray.size_append, strOf_size, h6]; simp; omega), headS, if_pos h, h6]
  congr 2

theorem refMake1No_c (kind : Int) (t : ByteArray) (V : Vw) (kv nv : Value) (n : Int) (w : World) (hV : V.le (vw w)) (hks : SlOf V encI64 1 kv [6]) (hns : SlOf V encI64 1 nv [n]) (hfit : fitsB n 6 = false) :
    Calls Try.prog 54 #[I8 kind, S t, kv, nv] w fun e w' => e = .returned (.tuple #[S ByteArray.empty, I 2]) ∧ Below w.heap.size w w' := by
  have hks' := hks.mono hV
  have hns' := hns.mono hV
  refine enter (E := E0) (O := []) (nl := 0) (V := vw w) [.a (.v (I8 kind)), .a (.v (S t)), .a (.v kv), .a (.v nv)] Try.func54 rfl rfl (mem0 E0 0 w) rfl rfl ?_
  refine c_seq ?_
  refine c_region ?_
  refine o_yield rfl rfl rfl (y_val tok rfl) ?_
  refine o_yield rfl rfl rfl (y_val tok rfl) ?_
  refine o_end [0, 1, 2, 3] rfl ?_
  refine x_then ?_
  refine c_seq ?_
  refine c_seq ?_
  refine c_region ?_
  refine o_yield rfl rfl rfl (y_val tok rfl) ?_
  refine o_yield rfl rfl rfl (y_len tok rfl (fun hg => hks'.sl)) ?_
  refine o_yield rfl rfl rfl (y_val tok rfl) ?_
  refine o_yield rfl rfl rfl (y_len tok rfl (fun hg => hns'.sl)) ?_
  refine o_yield rfl rfl rfl (y_val tok rfl) ?_
  refine o_end [0, 1, 2, 3, 18] rfl ?_
  refine x_then ?_
  refine c_cond rfl (fun h => ?_) (fun h => ?_)
  ·
    simp only [Bool.and_eq_true, Bool.or_eq_true, Bool.not_eq_true', Bool.or_eq_false_iff, Bool.and_eq_false_iff, decide_eq_true_eq, decide_eq_false_iff_not, beq_iff_eq, bne_iff_ne, Bool.not_eq_false', beq_eq_false_iff_ne, bne_eq_false_iff_eq, ne_eq, Decidable.not_not, Int.not_lt, Int.not_le] at h
    refine c_seq ?_
    refine c_region ?_
    refine o_yield rfl rfl rfl (y_val tok rfl) ?_
    refine o_yield rfl rfl rfl (y_val tok rfl) ?_
    refine o_end [8, 9] rfl ?_
    refine x_then ?_
    refine c_ret ?_
    refine x_then_ret ?_
    refine b_ret tok rfl ?_
    contradiction
  ·
    simp only [Bool.and_eq_true, Bool.or_eq_true, Bool.not_eq_true', Bool.or_eq_false_iff, Bool.and_eq_false_iff, decide_eq_true_eq, decide_eq_false_iff_not, beq_iff_eq, bne_iff_ne, Bool.not_eq_false', beq_eq_false_iff_ne, bne_eq_false_iff_eq, ne_eq, Decidable.not_not, Int.not_lt, Int.not_le] at h
    clear h
    refine c_skip ?_
    refine x_then ?_
    refine c_seq ?_
    refine c_region ?_
    refine o_yield rfl rfl rfl (y_val tok rfl) ?_
    refine o_end [0, 1, 2, 3, 10] rfl ?_
    refine x_then ?_
    refine c_seq ?_
    refine c_seq ?_
    refine c_region ?_
    refine o_yield rfl rfl rfl (y_val tok rfl) ?_
    refine o_end [0, 1, 2, 3, 10, 11] rfl ?_
    refine x_then ?_
    refine c_block ?_
    refine k_nil 10 5 1 rfl rfl ?_
    refine c_loopK [0, 1, 2, 3] [0] rfl rfl (σ := Nat) (fun i => [(10, .a (.row 0)), (11, .a (.v (I i)))]) (fun i => [(0, .row 5 1 0 [])]) (fun i => i = 0) (fun i => 1 - i) (0) (rfl) (by repeat (first | exact SubF.nil | refine SubF.cons rfl ?_)) (by repeat (first | exact SubO.nil | refine SubO.cons rfl ?_)) rfl ?_
    rintro i rfl
    refine c_seq ?_
    refine c_seq ?_
    refine c_region ?_
    refine o_yield rfl rfl rfl (y_val tok rfl) ?_
    refine o_yield rfl rfl rfl (y_val tok rfl) ?_
    refine o_yield rfl rfl rfl (y_len tok rfl (fun hg => hns'.sl)) ?_
    refine o_yield rfl rfl rfl (y_val tok rfl) ?_
    refine o_end [0, 1, 2, 3, 10, 11, 22] rfl ?_
    refine x_then ?_
    refine c_cond rfl (fun h => ?_) (fun h => ?_)
    ·
      simp only [Bool.and_eq_true, Bool.or_eq_true, Bool.not_eq_true', Bool.or_eq_false_iff, Bool.and_eq_false_iff, decide_eq_true_eq, decide_eq_false_iff_not, beq_iff_eq, bne_iff_ne, Bool.not_eq_false', beq_eq_false_iff_ne, bne_eq_false_iff_eq, ne_eq, Decidable.not_not, Int.not_lt, Int.not_le] at h
      refine c_skip ?_
      refine x_then ?_
      refine c_seq ?_
      refine c_block ?_
      refine c_seq ?_
      refine c_heldR mixed rfl (by repeat (first | exact SubO.nil | refine SubO.cons rfl ?_)) (by first | rfl | simp [okCels, allOk_plain]) ?_
      refine t_take 0 rfl (by kernel_rfl) rfl rfl rfl (y_val tok rfl) rfl ?_
      refine t_take 1 rfl (by kernel_rfl) rfl rfl rfl (y_val tok rfl) rfl ?_
      refine t_take 2 rfl (by kernel_rfl) rfl rfl rfl (y_val tok rfl) rfl ?_
      have e1 : ([n] : List Int)[0]? = some n := rfl
      have e2 : ([6] : List Int)[0]? = some 6 := rfl
      have hlt__6___Int_ := lt_of_at e2
      refine t_take 3 rfl (by kernel_rfl) rfl rfl rfl (y_idx tok rfl (fun hg => hks'.sl) (fun hg => ⟨by omega, by omega⟩)) rfl ?_
      refine t_take 4 rfl (by kernel_rfl) rfl rfl rfl (y_lel tok (0) 0 ((6 : Int)) rfl (fun hg => hks') (fun hg => e2) rfl rfl) rfl ?_
      refine t_take 5 rfl (by kernel_rfl) rfl rfl rfl (y_val tok rfl) rfl ?_
      refine t_take 6 rfl (by kernel_rfl) rfl rfl rfl (y_val tok rfl) rfl ?_
      have hlt_n := lt_of_at e1
      refine t_take 7 rfl (by kernel_rfl) rfl rfl rfl (y_idx tok rfl (fun hg => hns'.sl) (fun hg => ⟨by omega, by omega⟩)) rfl ?_
      refine t_take 8 rfl (by kernel_rfl) rfl rfl rfl (y_lel tok (0) 0 (n) rfl (fun hg => hns') (fun hg => e1) rfl rfl) rfl ?_
      refine t_go ?_
      refine h_one 9 (by kernel_rfl) ?_
      refine h_to 9 rfl rfl rfl rfl rfl rfl (s_bs tok 1 rfl rfl rfl) (.inr fun _ _ => ⟨(by repeat (first | exact SubO.nil | refine SubO.cons rfl ?_)), rfl, (by first | exact Vw.le.refl _ | assumption)⟩) (fun _ _ => ?_)
      refine h_one 10 (by kernel_rfl) ?_
      refine h_call 10 (.a (.v _)) rfl rfl rfl fnok80 rfl rfl rfl (fun hg E w1 hm => by exact refPut_no [] 6 [n] (by rw [putOk_one, hfit]) (by simp) (by simp) (hm.rowOf (enc := encByte) (L := []) 0 rfl (fun _ => rfl)) (hm.rowOf (enc := encI64) (L := [n]) 1 rfl (fun _ => rfl))) ?_
      refine h_one 11 (by kernel_rfl) ?_
      refine h_yield 11 rfl rfl rfl rfl (y_val tok rfl) ?_
      refine h_take 12 rfl (by kernel_rfl) rfl rfl rfl rfl (y_val tok rfl) rfl ?_
      refine h_take 13 rfl (by kernel_rfl) rfl rfl rfl rfl (y_val tok rfl) rfl ?_
      refine h_one 14 (by kernel_rfl) ?_
      refine h_yield 14 rfl rfl rfl rfl (y_val tok rfl) ?_
      refine h_one 15 (by kernel_rfl) ?_
      refine h_yield 15 rfl rfl rfl rfl (y_val tok rfl) ?_
      refine h_done [0, 1, 2, 3, 11, 12, 13] (by kernel_rfl) rfl ?_
      refine x_then ?_
      refine c_seq ?_
      refine c_seq ?_
      refine c_region ?_
      refine o_yield rfl rfl rfl (y_val tok rfl) ?_
      refine o_yield rfl rfl rfl (y_val tok rfl) ?_
      refine o_end [0, 1, 2, 3, 11, 12, 40] rfl ?_
      refine x_then ?_
      refine c_cond rfl (fun h => ?_) (fun h => ?_)
      ·
        refine c_seq ?_
        refine c_region ?_
        refine o_yield rfl rfl rfl (y_val tok rfl) ?_
        refine o_yield rfl rfl rfl (y_val tok rfl) ?_
        refine o_end [8, 9] rfl ?_
        refine x_then ?_
        refine c_ret ?_
        refine x_then_ret ?_
        refine x_block_ret ?_
        refine x_then_ret ?_
        refine x_then_ret ?_
        refine x_block_ret ?_
        refine x_then_ret ?_
        refine b_ret tok rfl ?_
        intro E w' hm _
        refine ⟨?_, hm.below (Vw.le.refl _)⟩
        rfl
      ·
        exact absurd h (by decide)
    ·
      simp only [Bool.and_eq_true, Bool.or_eq_true, Bool.not_eq_true', Bool.or_eq_false_iff, Bool.and_eq_false_iff, decide_eq_true_eq, decide_eq_false_iff_not, beq_iff_eq, bne_iff_ne, Bool.not_eq_false', beq_eq_false_iff_ne, bne_eq_false_iff_eq, ne_eq, Decidable.not_not, Int.not_lt, Int.not_le] at h
      exact absurd h (by simp)

theorem refHeadS_c (n : Int) (w : World) : Calls Try.prog 12 #[I n] w fun e w' => e = .returned (.tuple #[S (headS n).1, I (headS n).2]) ∧ Below w.heap.size w w' := by
  refine enter (E := E0) (O := []) (nl := 0) (V := vw w) [.a (.v (I n))] Try.func12 rfl rfl (mem0 E0 0 w) rfl rfl ?_
  refine c_seq ?_
  refine c_region ?_
  refine o_yield rfl rfl rfl (y_val tok rfl) ?_
  refine o_yield rfl rfl rfl (y_val tok rfl) ?_
  refine o_end [0] rfl ?_
  refine x_then ?_
  refine c_seq ?_
  refine c_region ?_
  refine o_bs tok rfl rfl rfl rfl (fun b1 V1 hle1 hb1 => ?_)
  refine o_yield rfl rfl rfl (y_val tok rfl) ?_
  refine o_bs tok rfl rfl rfl rfl (fun b2 V2 hle2 hb2 => ?_)
  have h1 := SlOf.ofBlock (enc := encI64) (sz := 1) (l := [6]) (hle2.get _ _ (hb1 rfl)) rfl (fun _ => rfl) (Nat.le_refl _)
  have h2 := SlOf.ofBlock (enc := encI64) (sz := 1) (l := [n]) (hb2 rfl) rfl (fun _ => rfl) (Nat.le_refl _)
  have key : ∀ w1, V2.le (vw w1) → Calls Try.prog 54 #[I8 2, S ByteArray.empty, .slice (some ⟨b1, 0, none⟩) 1 1, .slice (some ⟨b2, 0, none⟩) 1 1] w1 fun e w' => e = .returned (.tuple #[S (headS n).1, I (headS n).2]) ∧ Below w1.heap.size w1 w' := fun w1 hV => by
    cases hf : fitsB n 6 with
    | true =>
      have := refMake_c 2 (by unfold R8; omega) ByteArray.empty V2 _ _ [6] [n] w1 (by simp) hV h1 h2 rfl (by simp) (fun i k m hk hn => by
        cases i with
        | zero => cases hk; cases hn; rw [putOk_one, hf]
        | succ i => simp at hk) (fun i => by
        have h := pack_len ([6].take i) ([n].take i)
        have : (([6].take i).map Int.toNat).sum ≤ 6 := by
          match i with
          | 0 => decide
          | i + 1 => rw [List.take_of_length_le (by simp)]; decide
        omega)
      rw [hseal hf] at this
      exact this
    | false =>
      have := refMake1No_c 2 ByteArray.empty V2 _ _ n w1 hV h1 h2 hf
      rw [headS, if_neg (by simp [hf])]
      exact this
  refine o_call (.a (.v _)) rfl rfl fnok54 rfl rfl rfl (fun hg E w1 hm => by exact key _ hm.leV) ?_
  refine o_yield rfl rfl rfl (y_val tok rfl) ?_
  refine o_yield rfl rfl rfl (y_val tok rfl) ?_
  refine o_yield rfl rfl rfl (y_val tok rfl) ?_
  refine o_yield rfl rfl rfl (y_val tok rfl) ?_
  refine o_end [2, 3] rfl ?_
  refine x_then ?_
  refine c_ret ?_
  refine b_ret tok rfl ?_
  intro E w' hm _
  refine ⟨?_, hm.below ((hle1.trans hle2))⟩
  rfl

/-- A header's tail. -/
def tailOk (s : ByteArray) : Option Int := match fieldsR 2 s [6] with
  | some (l, r) => if r.size = 0 then l[0]? else none
  | none => none
def tailV (s : ByteArray) : Int := (tailOk s).getD 0
def tailE (s : ByteArray) : Int := if (tailOk s).isSome then 0 else 50

theorem one_list {l : List Int} (h : l.length = 1) : ∃ a, l = [a] := by
  match l, h with
  | [a], _ => exact ⟨a, rfl⟩

theorem stail_c (s : ByteArray) (hs : s.size ≤ maxLen) (w : World) : Calls Try.prog 99 #[S s] w fun e w' => e = .returned (.tuple #[I (tailV s), I (tailE s)]) ∧ Below w.heap.size w w' := by
  refine enter (E := E0) (O := []) (nl := 0) (V := vw w) [.a (.v (S s))] Try.func99 rfl rfl (mem0 E0 0 w) rfl rfl ?_
  refine c_seq ?_
  refine c_region ?_
  refine o_yield rfl rfl rfl (y_val tok rfl) ?_
  refine o_yield rfl rfl rfl (y_val tok rfl) ?_
  refine o_end [0] rfl ?_
  refine x_then ?_
  refine c_seq ?_
  refine c_seq ?_
  refine c_region ?_
  refine o_yield rfl rfl rfl (y_val tok rfl) ?_
  refine o_bs tok rfl rfl rfl rfl (fun b1 V1 hle1 hb1 => ?_)
  refine o_callV (FVal 2 s [6]) rfl rfl fnok124 rfl rfl (fun hg E w1 hm => by exact fval_of hm.leV (fields_c 2 s V1 _ [6] w1 hs hm.leV (SlOf.ofBlock (enc := encI64) (sz := 1) (l := [6]) (hb1 rfl) rfl (fun _ => rfl) (Nat.le_refl _)) (by simp))) ?_
  rintro x V2 hle2 hx
  have hx' := hx rfl
  clear hx
  rcases hx' with ⟨l, r, v, hfr, rfl, hsl⟩ | ⟨hfr, rfl⟩
  ·
    obtain ⟨a, rfl⟩ := one_list (by rw [fields_len hfr]; rfl)
    have e1 : ([a] : List Int)[0]? = some a := rfl
    refine o_yield rfl rfl rfl (y_val tok rfl) ?_
    refine o_yield rfl rfl rfl (y_val tok rfl) ?_
    refine o_yield rfl rfl rfl (y_val tok rfl) ?_
    refine o_yield rfl rfl rfl (y_val tok rfl) ?_
    refine o_yield rfl rfl rfl (y_val tok rfl) ?_
    refine o_yield rfl rfl rfl (y_val tok rfl) ?_
    refine o_yield rfl rfl rfl (y_val tok rfl) ?_
    refine o_end [4, 5, 6] rfl ?_
    refine x_then ?_
    refine c_seq ?_
    refine c_region ?_
    refine o_yield rfl rfl rfl (y_val tok rfl) ?_
    refine o_yield rfl rfl rfl (y_val tok rfl) ?_
    refine o_yield rfl rfl rfl (y_val tok rfl) ?_
    refine o_yield rfl rfl rfl (y_val tok rfl) ?_
    refine o_yield rfl rfl rfl (y_val tok rfl) ?_
    refine o_yield rfl rfl rfl (y_val tok rfl) ?_
    refine o_end [4, 19] rfl ?_
    refine x_then ?_
    refine c_cond rfl (fun h => ?_) (fun h => ?_)
    ·
      refine c_seq ?_
      refine c_region ?_
      refine o_yield rfl rfl rfl (y_val tok rfl) ?_
      have hlt_a := lt_of_at e1
      refine o_yield rfl rfl rfl (y_idx tok rfl (fun hg => hsl.sl) (fun hg => ⟨by omega, by omega⟩)) ?_
      refine o_yield rfl rfl rfl (y_lel tok (0) 0 (a) rfl (fun hg => hsl) (fun hg => e1) rfl rfl) ?_
      refine o_yield rfl rfl rfl (y_val tok rfl) ?_
      refine o_yield rfl rfl rfl (y_val tok rfl) ?_
      refine o_end [2, 3] rfl ?_
      refine x_then ?_
      refine c_ret ?_
      refine x_then_ret ?_
      refine b_ret tok rfl ?_
      intro E w' hm _
      refine ⟨?_, hm.below ((hle1.trans hle2))⟩
      have : tailOk s = some a := by
        rw [tailOk, hfr]
        simp only
        rw [size_empty'] at h
        rw [if_pos (by simpa using h)]; rfl
      rw [tailV, tailE, this]; rfl
    ·
      refine c_skip ?_
      refine x_then ?_
      refine c_seq ?_
      refine c_region ?_
      refine o_yield rfl rfl rfl (y_val tok rfl) ?_
      refine o_yield rfl rfl rfl (y_val tok rfl) ?_
      refine o_end [2, 3] rfl ?_
      refine x_then ?_
      refine c_ret ?_
      refine b_ret tok rfl ?_
      intro E w' hm _
      refine ⟨?_, hm.below ((hle1.trans hle2))⟩
      have : tailOk s = none := by
        rw [tailOk, hfr]
        simp only
        rw [size_empty'] at h
        rw [if_neg (by simpa using h)]
      rw [tailV, tailE, this]; rfl
  ·
    refine o_yield rfl rfl rfl (y_val tok rfl) ?_
    refine o_yield rfl rfl rfl (y_val tok rfl) ?_
    refine o_yield rfl rfl rfl (y_val tok rfl) ?_
    refine o_yield rfl rfl rfl (y_val tok rfl) ?_
    refine o_yield rfl rfl rfl (y_val tok rfl) ?_
    refine o_yield rfl rfl rfl (y_val tok rfl) ?_
    refine o_yield rfl rfl rfl (y_val tok rfl) ?_
    refine o_end [4, 5, 6] rfl ?_
    refine x_then ?_
    refine c_seq ?_
    refine c_region ?_
    refine o_yield rfl rfl rfl (y_val tok rfl) ?_
    refine o_yield rfl rfl rfl (y_val tok rfl) ?_
    refine o_yield rfl rfl rfl (y_val tok rfl) ?_
    refine o_yield rfl rfl rfl (y_val tok rfl) ?_
    refine o_yield rfl rfl rfl (y_val tok rfl) ?_
    refine o_yield rfl rfl rfl (y_val tok rfl) ?_
    refine o_end [4, 19] rfl ?_
    refine x_then ?_
    refine c_cond rfl (fun h => ?_) (fun h => ?_)
    · exact absurd h (by decide)
    ·
      refine c_skip ?_
      refine x_then ?_
      refine c_seq ?_
      refine c_region ?_
      refine o_yield rfl rfl rfl (y_val tok rfl) ?_
      refine o_yield rfl rfl rfl (y_val tok rfl) ?_
      refine o_end [2, 3] rfl ?_
      refine x_then ?_
      refine c_ret ?_
      refine b_ret tok rfl ?_
      intro E w' hm _
      refine ⟨?_, hm.below ((hle1.trans hle2))⟩
      have : tailOk s = none := by rw [tailOk, hfr]
      rw [tailV, tailE, this]; rfl
end Go.Proofs.Ytikdaehmaaogdaa

/- The law SuperTells from what comes in. -/
set_option linter.unusedVariables false
set_option linter.unusedSimpArgs false
set_option maxRecDepth 100000
namespace Go.Proofs.Ytikdaehmaaogdaa
open Go Go.Eng Go.RowKit

theorem rwidths_c (w : World) : Calls Try.prog 98 #[] w fun e w' => ∃ v, e = .returned v ∧ w'.ownsRow w.heap.size 3 1 v gW.length (gW.flatMap encI64) ∧ Below w.heap.size w w' := by
  refine enter (E := E0) (O := []) (nl := 0) (V := vw w) [] Try.func98 rfl rfl (mem0 E0 0 w) rfl rfl ?_
  refine c_seq ?_
  refine c_region ?_
  refine o_yield rfl rfl rfl (y_val tok rfl) ?_
  refine o_end [] rfl ?_
  refine x_then ?_
  refine c_seq ?_
  refine c_region ?_
  refine o_step rfl rfl rfl rfl rfl (s_bs tok 1 rfl rfl rfl) (fun _ _ => ?_)
  refine o_yield rfl rfl rfl (y_val tok rfl) ?_
  refine o_end [0] rfl ?_
  refine x_then ?_
  refine c_ret ?_
  refine b_ret tok rfl ?_
  intro E w' hm _
  exact ⟨E.κ 0, rfl, hm.rowFresh (Vw.le.refl _) (l := 0) rfl, hm.below (Vw.le.refl _)⟩

def gMk (g : Geo) : ByteArray × Int := sealS 1 (strOf (packL gW (gNums g)) ++ ByteArray.empty)

theorem rsbytes_c (g : Geo) (ok : g.Ok) (w : World) : Calls Try.prog 61 #[g.val] w fun e w' => e = .returned (.tuple #[S (gbV g), I (gbE g)]) ∧ Below w.heap.size w w' := by
  refine enter (E := E0) (O := []) (nl := 0) (V := vw w) [.a (.v g.val)] Try.func61 rfl rfl (mem0 E0 0 w) rfl rfl ?_
  refine c_seq ?_
  refine c_region ?_
  refine o_new tok rfl rfl rfl rfl ?_
  refine o_yield rfl rfl rfl (y_val tok rfl) ?_
  refine o_yield rfl rfl rfl (y_val tok rfl) ?_
  refine o_end [1] rfl ?_
  refine x_then ?_
  refine c_seq ?_
  refine c_seq ?_
  refine c_region ?_
  refine o_yield rfl rfl rfl (y_val tok rfl) ?_
  refine o_call (.a (.v _)) rfl rfl fnok17 rfl rfl rfl (fun hg E w1 hm => by exact refMay_c g ok _) ?_
  refine o_yield rfl rfl rfl (y_val tok rfl) ?_
  refine o_end [1, 6] rfl ?_
  refine x_then ?_
  refine c_cond rfl (fun h => ?_) (fun h => ?_)
  ·
    simp only [Bool.and_eq_true, Bool.or_eq_true, Bool.not_eq_true', Bool.or_eq_false_iff, Bool.and_eq_false_iff, decide_eq_true_eq, decide_eq_false_iff_not, beq_iff_eq, bne_iff_ne, Bool.not_eq_false', beq_eq_false_iff_ne, bne_eq_false_iff_eq, ne_eq, Decidable.not_not, Int.not_lt, Int.not_le] at h
    refine c_seq ?_
    refine c_region ?_
    refine o_yield rfl rfl rfl (y_val tok rfl) ?_
    refine o_yield rfl rfl rfl (y_val tok rfl) ?_
    refine o_end [2, 3] rfl ?_
    refine x_then ?_
    refine c_ret ?_
    refine x_then_ret ?_
    refine b_ret tok rfl ?_
    intro E w' hm _
    refine ⟨?_, hm.below (Vw.le.refl _)⟩
    rw [gbV, gbE, if_neg (by simp [h]), if_neg (by simp [h])]; rfl
  ·
    simp only [Bool.and_eq_true, Bool.or_eq_true, Bool.not_eq_true', Bool.or_eq_false_iff, Bool.and_eq_false_iff, decide_eq_true_eq, decide_eq_false_iff_not, beq_iff_eq, bne_iff_ne, Bool.not_eq_false', beq_eq_false_iff_ne, bne_eq_false_iff_eq, ne_eq, Decidable.not_not, Int.not_lt, Int.not_le] at h
    refine c_skip ?_
    refine x_then ?_
    refine c_seq ?_
    have hgg := h
    clear h
    refine c_heldM (σ := Unit) (fun _ => [(2, .a (.v (S (gMk g).1))), (3, .a (.v (I (gMk g).2)))]) (fun _ => []) (1) (fun _ => vw w) (fun _ => True) mixed ?_ ?_
    ·
      refine t_take 1 rfl (by kernel_rfl) rfl rfl rfl (y_val tok rfl) rfl ?_
      refine t_take 2 rfl (by kernel_rfl) rfl rfl rfl (y_val tok rfl) rfl ?_
      refine t_take 3 rfl (by kernel_rfl) rfl rfl rfl (y_val tok rfl) rfl ?_
      refine t_take 4 rfl (by kernel_rfl) rfl rfl rfl (y_val tok rfl) rfl ?_
      refine t_take 5 rfl (by kernel_rfl) rfl rfl rfl (y_val tok rfl) rfl ?_
      refine t_take 6 rfl (by kernel_rfl) rfl rfl rfl (y_val tok rfl) rfl ?_
      refine t_take 7 rfl (by kernel_rfl) rfl rfl rfl (y_val tok rfl) rfl ?_
      refine t_take 8 rfl (by kernel_rfl) rfl rfl rfl (y_val tok rfl) rfl ?_
      refine t_take 9 rfl (by kernel_rfl) rfl rfl rfl (y_val tok rfl) rfl ?_
      refine t_take 10 rfl (by kernel_rfl) rfl rfl rfl (y_val tok rfl) rfl ?_
      refine t_take 11 rfl (by kernel_rfl) rfl rfl rfl (y_val tok rfl) rfl ?_
      refine t_take 12 rfl (by kernel_rfl) rfl rfl rfl (y_val tok rfl) rfl ?_
      refine t_take 13 rfl (by kernel_rfl) rfl rfl rfl (y_val tok rfl) rfl ?_
      refine t_take 14 rfl (by kernel_rfl) rfl rfl rfl (y_val tok rfl) rfl ?_
      refine t_take 15 rfl (by kernel_rfl) rfl rfl rfl (y_val tok rfl) rfl ?_
      refine t_take 16 rfl (by kernel_rfl) rfl rfl rfl (y_val tok rfl) rfl ?_
      refine t_go ?_
      refine h_two 0 17 (by kernel_rfl) ?_ ?_
      ·
        refine h_to 0 rfl rfl rfl rfl rfl rfl (s_callRow 3 1 gW.length (gW.flatMap encI64) rfl fnok98 (fun E w1 hm => rwidths_c w1)) (.inr fun _ _ => ⟨(by repeat (first | exact SubO.nil | refine SubO.cons rfl ?_)), rfl, (by first | exact Vw.le.refl _ | assumption)⟩) (fun _ _ => ?_)
        refine h_one 17 (by kernel_rfl) ?_
        refine h_to 17 rfl rfl rfl rfl rfl rfl (s_bs tok 1 rfl rfl rfl) (.inr fun _ _ => ⟨(by repeat (first | exact SubO.nil | refine SubO.cons rfl ?_)), rfl, (by first | exact Vw.le.refl _ | assumption)⟩) (fun _ _ => ?_)
        refine h_one 18 (by kernel_rfl) ?_
        refine h_call 18 (.tup [.v (S (gMk g).1), .v (I (gMk g).2)]) rfl rfl rfl fnok54 rfl rfl rfl (fun hg E w1 hm => by first|exact refMake_c 1 (by unfold R8; omega) ByteArray.empty (vw w1) _ _ gW (gNums g) w1 (by simp) (Vw.le.refl _) (hm.rowOf 1 rfl (fun _ => rfl)) (hm.rowOf (enc := encI64) (L := gNums g) 2 rfl (fun _ => rfl)) rfl (by simp) (fun i k n hk hn => putOk_of (gnums_fit hgg i k n hk hn)) (gpack_take g)|exact refMake_c 1 (by unfold R8; omega) ByteArray.empty (vw w1) _ _ gW (gNums g) w1 (by simp) (Vw.le.refl _) (hm.rowOf 2 rfl (fun _ => rfl)) (hm.rowOf (enc := encI64) (L := gNums g) 1 rfl (fun _ => rfl)) rfl (by simp) (fun i k n hk hn => putOk_of (gnums_fit hgg i k n hk hn)) (gpack_take g)) ?_
        refine h_two 19 20 (by kernel_rfl) ?_ ?_
        ·
          refine h_yield 19 rfl rfl rfl rfl (y_val tok rfl) ?_
          refine h_one 20 (by kernel_rfl) ?_
          refine h_yield 20 rfl rfl rfl rfl (y_val tok rfl) ?_
          refine h_one 21 (by kernel_rfl) ?_
          refine h_yield 21 rfl rfl rfl rfl (y_val tok rfl) ?_
          refine h_one 22 (by kernel_rfl) ?_
          refine h_yield 22 rfl rfl rfl rfl (y_val tok rfl) ?_
          refine h_done [2, 3] (by kernel_rfl) rfl ?_
          exact x_meet () trivial (by repeat (first | exact SubF.nil | refine SubF.cons rfl ?_)) (by repeat (first | exact SubO.nil | refine SubO.cons rfl ?_)) rfl (Vw.le.refl _)
        ·
          refine h_yield 20 rfl rfl rfl rfl (y_val tok rfl) ?_
          refine h_one 19 (by kernel_rfl) ?_
          refine h_yield 19 rfl rfl rfl rfl (y_val tok rfl) ?_
          refine h_one 21 (by kernel_rfl) ?_
          refine h_yield 21 rfl rfl rfl rfl (y_val tok rfl) ?_
          refine h_one 22 (by kernel_rfl) ?_
          refine h_yield 22 rfl rfl rfl rfl (y_val tok rfl) ?_
          refine h_done [2, 3] (by kernel_rfl) rfl ?_
          exact x_meet () trivial (by repeat (first | exact SubF.nil | refine SubF.cons rfl ?_)) (by repeat (first | exact SubO.nil | refine SubO.cons rfl ?_)) rfl (Vw.le.refl _)
      ·
        refine h_to 17 rfl rfl rfl rfl rfl rfl (s_bs tok 1 rfl rfl rfl) (.inr fun _ _ => ⟨(by repeat (first | exact SubO.nil | refine SubO.cons rfl ?_)), rfl, (by first | exact Vw.le.refl _ | assumption)⟩) (fun _ _ => ?_)
        refine h_one 0 (by kernel_rfl) ?_
        refine h_to 0 rfl rfl rfl rfl rfl rfl (s_callRow 3 1 gW.length (gW.flatMap encI64) rfl fnok98 (fun E w1 hm => rwidths_c w1)) (.inr fun _ _ => ⟨(by repeat (first | exact SubO.nil | refine SubO.cons rfl ?_)), rfl, (by first | exact Vw.le.refl _ | assumption)⟩) (fun _ _ => ?_)
        refine h_one 18 (by kernel_rfl) ?_
        refine h_call 18 (.tup [.v (S (gMk g).1), .v (I (gMk g).2)]) rfl rfl rfl fnok54 rfl rfl rfl (fun hg E w1 hm => by first|exact refMake_c 1 (by unfold R8; omega) ByteArray.empty (vw w1) _ _ gW (gNums g) w1 (by simp) (Vw.le.refl _) (hm.rowOf 1 rfl (fun _ => rfl)) (hm.rowOf (enc := encI64) (L := gNums g) 2 rfl (fun _ => rfl)) rfl (by simp) (fun i k n hk hn => putOk_of (gnums_fit hgg i k n hk hn)) (gpack_take g)|exact refMake_c 1 (by unfold R8; omega) ByteArray.empty (vw w1) _ _ gW (gNums g) w1 (by simp) (Vw.le.refl _) (hm.rowOf 2 rfl (fun _ => rfl)) (hm.rowOf (enc := encI64) (L := gNums g) 1 rfl (fun _ => rfl)) rfl (by simp) (fun i k n hk hn => putOk_of (gnums_fit hgg i k n hk hn)) (gpack_take g)) ?_
        refine h_two 19 20 (by kernel_rfl) ?_ ?_
        ·
          refine h_yield 19 rfl rfl rfl rfl (y_val tok rfl) ?_
          refine h_one 20 (by kernel_rfl) ?_
          refine h_yield 20 rfl rfl rfl rfl (y_val tok rfl) ?_
          refine h_one 21 (by kernel_rfl) ?_
          refine h_yield 21 rfl rfl rfl rfl (y_val tok rfl) ?_
          refine h_one 22 (by kernel_rfl) ?_
          refine h_yield 22 rfl rfl rfl rfl (y_val tok rfl) ?_
          refine h_done [2, 3] (by kernel_rfl) rfl ?_
          exact x_meet () trivial (by repeat (first | exact SubF.nil | refine SubF.cons rfl ?_)) (by repeat (first | exact SubO.nil | refine SubO.cons rfl ?_)) rfl (Vw.le.refl _)
        ·
          refine h_yield 20 rfl rfl rfl rfl (y_val tok rfl) ?_
          refine h_one 19 (by kernel_rfl) ?_
          refine h_yield 19 rfl rfl rfl rfl (y_val tok rfl) ?_
          refine h_one 21 (by kernel_rfl) ?_
          refine h_yield 21 rfl rfl rfl rfl (y_val tok rfl) ?_
          refine h_one 22 (by kernel_rfl) ?_
          refine h_yield 22 rfl rfl rfl rfl (y_val tok rfl) ?_
          refine h_done [2, 3] (by kernel_rfl) rfl ?_
          exact x_meet () trivial (by repeat (first | exact SubF.nil | refine SubF.cons rfl ?_)) (by repeat (first | exact SubO.nil | refine SubO.cons rfl ?_)) rfl (Vw.le.refl _)
    rintro ⟨⟩ -
    refine x_then ?_
    refine c_ret ?_
    refine b_ret tok rfl ?_
    intro E w' hm _
    refine ⟨?_, hm.below (Vw.le.refl _)⟩
    rw [gbV, gbE, if_pos hgg, if_pos hgg, gMk, gseal]; rfl

/-- A header's sector is read as its tail. -/
theorem tail_seal {n : Int} (h : fitsB n 6 = true) : tailOk (strOf (sealL 2 (leB 6 n))) = some n := by
  have h6 : (packL [6] [n]) = leB 6 n := by simp [packL]
  have hl : (leB 6 n).length = 6 := by simp [leB, leTake_len]
  have hp := fldA_pack [6] [n] [] [] rfl (fun i k m hk hn => by
    cases i with
    | zero => cases hk; cases hn; exact h
    | succ i => simp at hk)
  rw [List.append_nil, h6] at hp
  have ho : openB (strOf (sealL 2 (leB 6 n))) = true := openB_seal (by decide) (by decide) (by omega)
  have hof : ofB 2 (strOf (sealL 2 (leB 6 n))) = true := by
    rw [ofB, ho, byteAt_seal, Bool.true_and]; decide
  have hfr : fieldsR 2 (strOf (sealL 2 (leB 6 n))) [6] = some ([] ++ [n], strOf []) := by
    rw [fieldsR, if_pos hof, loadOf_seal, hp]
  rw [tailOk, hfr]
  simp only
  rw [if_pos (by rw [strOf_size]; rfl)]
  rfl

theorem headS_eq {n : Int} (h : fitsB n 6 = true) : headS n = (strOf (sealL 2 (leB 6 n)), 0) := by rw [headS, if_pos h]

theorem tail_head {n : Int} (h : fitsB n 6 = true) : tailOk (headS n).1 = some n := by
  rw [headS_eq h]
  exact tail_seal h

def Geo.eqB (a b : Geo) : Bool := a.nodes == b.nodes && (a.slots == b.slots && (a.blocks == b.blocks && (a.per == b.per && (a.journal == b.journal && (a.log == b.log && (a.lease == b.lease && a.wait == b.wait))))))

end Go.Proofs.Ytikdaehmaaogdaa

/- A device's first sectors: the document's. -/
set_option linter.unusedVariables false
set_option linter.unusedSimpArgs false
set_option maxRecDepth 100000
namespace Go.Proofs.Ytikdaehmaaogdaa
open Go Go.Eng Go.RowKit

def fmtTo (g : Geo) (top hd : ByteArray) : Nat → List ByteArray
  | 0 => (List.replicate (totV g).toNat ByteArray.empty).set 0 top
  | i + 1 => (fmtTo g top hd i).set (headV g (i : Int)).toNat hd

theorem fmtTo_len (g : Geo) (top hd : ByteArray) : ∀ i, (fmtTo g top hd i).length = (totV g).toNat
  | 0 => by simp [fmtTo]
  | i + 1 => by rw [fmtTo, List.length_set, fmtTo_len g top hd i]

theorem head_in {g : Geo} (hg : geoB g = true) {i : Nat} (hi : (i : Int) < g.slots) : ∃ q : Nat, headV g (i : Int) = (q : Int) ∧ (q : Int) < totV g := by
  have hf := geo_facts hg
  have hh : headV g (i : Int) = 1 + 2 * g.nodes + g.log + (i : Int) * (1 + g.journal) := by rw [headV, if_pos ⟨hg, by omega, hi⟩]
  have ht : totV g = dataAt g + g.blocks * g.per := by rw [totV, if_pos hg]
  have hd : dataAt g = 1 + 2 * g.nodes + g.log + g.slots * (1 + g.journal) := rfl
  have h1 : 0 ≤ (i : Int) * (1 + g.journal) := Int.mul_nonneg (by omega) (by omega)
  have h2 : ((i : Int) + 1) * (1 + g.journal) ≤ g.slots * (1 + g.journal) := Int.mul_le_mul_of_nonneg_right (by omega) (by omega)
  have h3 : 0 ≤ g.blocks * g.per := Int.mul_nonneg (by omega) (by omega)
  rw [Int.add_mul] at h2
  exact ⟨(headV g (i : Int)).toNat, by omega, by omega⟩

theorem rformat_c (g : Geo) (ok : g.Ok) (hd : ByteArray) (hh : ∀ w : World, Calls Try.prog 12 #[I 0] w fun e w' => e = .returned (.tuple #[S hd, I 0]) ∧ Below w.heap.size w w') (w : World) :
    Calls Try.prog 20 #[g.val] w fun e w' => ((geoB g = true ∧ ∃ v, e = .returned (.tuple #[v, I 0]) ∧ w'.ownsRow w.heap.size 9 1 v (totV g).toNat ((fmtTo g (gbV g) hd g.slots.toNat).flatMap encS)) ∨
      (geoB g = false ∧ e = .returned (.tuple #[.slice none 0 0, I 40]))) ∧ Below w.heap.size w w' := by
  refine enter (E := E0) (O := []) (nl := 0) (V := vw w) [.a (.v g.val)] Try.func20 rfl rfl (mem0 E0 0 w) rfl rfl ?_
  refine c_seq ?_
  refine c_region ?_
  refine o_new tok rfl rfl rfl rfl ?_
  refine o_yield rfl rfl rfl (y_val tok rfl) ?_
  refine o_yield rfl rfl rfl (y_val tok rfl) ?_
  refine o_end [1] rfl ?_
  refine x_then ?_
  refine c_seq ?_
  refine c_region ?_
  refine o_yield rfl rfl rfl (y_val tok rfl) ?_
  refine o_call (.a (.v _)) rfl rfl fnok61 rfl rfl rfl (fun hg E w1 hm => by exact rsbytes_c g ok _) ?_
  refine o_yield rfl rfl rfl (y_val tok rfl) ?_
  refine o_yield rfl rfl rfl (y_val tok rfl) ?_
  refine o_yield rfl rfl rfl (y_val tok rfl) ?_
  refine o_yield rfl rfl rfl (y_val tok rfl) ?_
  refine o_yield rfl rfl rfl (y_val tok rfl) ?_
  refine o_end [1, 4, 5] rfl ?_
  refine x_then ?_
  refine c_seq ?_
  refine c_seq ?_
  refine c_region ?_
  refine o_yield rfl rfl rfl (y_val tok rfl) ?_
  refine o_yield rfl rfl rfl (y_val tok rfl) ?_
  refine o_end [1, 4, 5, 16] rfl ?_
  refine x_then ?_
  refine c_cond rfl (fun h => ?_) (fun h => ?_)
  ·
    simp only [Bool.and_eq_true, Bool.or_eq_true, Bool.not_eq_true', Bool.or_eq_false_iff, Bool.and_eq_false_iff, decide_eq_true_eq, decide_eq_false_iff_not, beq_iff_eq, bne_iff_ne, Bool.not_eq_false', beq_eq_false_iff_ne, bne_eq_false_iff_eq, ne_eq, Decidable.not_not, Int.not_lt, Int.not_le] at h
    refine c_seq ?_
    refine c_region ?_
    refine o_yield rfl rfl rfl (y_val tok rfl) ?_
    refine o_yield rfl rfl rfl (y_val tok rfl) ?_
    refine o_yield rfl rfl rfl (y_val tok rfl) ?_
    refine o_end [2, 3] rfl ?_
    refine x_then ?_
    refine c_ret ?_
    refine x_then_ret ?_
    refine b_ret tok rfl ?_
    intro E w' hm _
    have hg : geoB g = false := by
      cases hq : geoB g with
      | false => rfl
      | true => rw [gbE, if_pos hq] at h; exact absurd rfl h
    refine ⟨.inr ⟨hg, ?_⟩, hm.below (Vw.le.refl _)⟩
    rw [gbE, hg]
    rfl
  ·
    simp only [Bool.and_eq_true, Bool.or_eq_true, Bool.not_eq_true', Bool.or_eq_false_iff, Bool.and_eq_false_iff, decide_eq_true_eq, decide_eq_false_iff_not, beq_iff_eq, bne_iff_ne, Bool.not_eq_false', beq_eq_false_iff_ne, bne_eq_false_iff_eq, ne_eq, Decidable.not_not, Int.not_lt, Int.not_le] at h
    have hg : geoB g = true := by
      cases hq : geoB g with
      | true => rfl
      | false => rw [gbE, hq] at h; simp at h
    clear h
    have hf := geo_facts hg
    have hs := geo_sizes hg
    have htt : totV g = dataAt g + g.blocks * g.per := by rw [totV, if_pos hg]
    obtain ⟨tot, htot⟩ : ∃ t : Nat, totV g = (t : Int) := ⟨(totV g).toNat, by omega⟩
    have htn : (totV g).toNat = tot := by omega
    refine c_skip ?_
    refine x_then ?_
    refine c_seq ?_
    refine c_region ?_
    refine o_call (.a (.v _)) rfl rfl fnok12 rfl rfl rfl (fun hg E w1 hm => by exact hh _) ?_
    refine o_yield rfl rfl rfl (y_val tok rfl) ?_
    refine o_yield rfl rfl rfl (y_val tok rfl) ?_
    refine o_yield rfl rfl rfl (y_val tok rfl) ?_
    refine o_yield rfl rfl rfl (y_val tok rfl) ?_
    refine o_yield rfl rfl rfl (y_val tok rfl) ?_
    refine o_end [1, 4, 6] rfl ?_
    refine x_then ?_
    refine c_seq ?_
    refine c_region ?_
    refine o_yield rfl rfl rfl (y_val tok rfl) ?_
    refine o_call (.a (.v _)) rfl rfl fnok19 rfl rfl rfl (fun hg E w1 hm => by exact refTotal_c g ok _) ?_
    rw [htot]
    have hpos : 0 < tot := by omega
    have htb : tot ≤ 4000 := by omega
    obtain ⟨sl, hsl⟩ : ∃ sl : Nat, g.slots = sl := ⟨g.slots.toNat, by omega⟩
    have hsn : g.slots.toNat = sl := by omega
    refine o_step rfl rfl rfl rfl rfl (s_mk tok tot tot rfl rfl rfl (Nat.le_refl _) (by dsimp only; omega) (by simp only [maxLen]; omega)) (fun _ _ => ?_)
    refine o_yield rfl rfl rfl (y_val tok rfl) ?_
    refine o_end [1, 4, 6, 8] rfl ?_
    refine x_then ?_
    refine c_seq ?_
    refine c_region ?_
    refine o_yield rfl rfl rfl (y_val tok rfl) ?_
    refine o_yield rfl rfl rfl (y_val tok rfl) ?_
    rw [show (repZ tot _ : List Value) = _ from repZ_flat (enc := encS) ByteArray.empty tot]
    refine o_yield rfl rfl rfl (y_own (s := .a (.rel 1 0)) 1 rfl rfl (fun v V' hv => y_idxK tok 0 rfl (by simp) (fun hg => hv) (fun hg => by omega))) ?_
    refine o_stepN rfl rfl rfl rfl (s_rst tok rfl rfl (by intro u hu; simp only [List.mem_singleton] at hu; subst hu; rfl) (by simp only [List.length_singleton]; omega) (by omega)) (fun _ _ => ?_)
    refine o_end [1, 6, 8] rfl ?_
    refine x_then ?_
    refine c_seq ?_
    refine c_seq ?_
    refine c_region ?_
    refine o_yield rfl rfl rfl (y_val tok rfl) ?_
    refine o_end [1, 6, 8, 9] rfl ?_
    refine x_then ?_
    refine c_block ?_
    have hset := overL_set (enc := encS) (sz := 1) (fun _ => rfl) (List.replicate tot ByteArray.empty) 0 (gbV g) (by simpa using hpos)
    have hf0 : (List.replicate tot ByteArray.empty).set 0 (gbV g) = fmtTo g (gbV g) hd 0 := by rw [fmtTo, htn]
    rw [Nat.zero_mul] at hset
    rw [show overL 0 [Value.string _] _ = _ from hset, hf0]
    refine c_loopK [1, 6, 8] [1, 0] rfl rfl (σ := Nat) (fun i => [(9, .a (.v (I i)))]) (fun i => [(1, .row 9 1 tot ((fmtTo g (gbV g) hd i).flatMap encS)), (0, .lit (g.cells.map .v) 23)]) (fun i => i ≤ sl) (fun i => sl - i) (0) (by omega) (by repeat (first | exact SubF.nil | refine SubF.cons rfl ?_)) (by repeat (first | exact SubO.nil | refine SubO.cons rfl ?_)) rfl ?_
    rintro i hi
    refine c_seq ?_
    refine c_seq ?_
    refine c_region ?_
    refine o_yield rfl rfl rfl (y_val tok rfl) ?_
    refine o_yield rfl rfl rfl (y_val tok rfl) ?_
    refine o_yield rfl rfl rfl (y_val tok rfl) ?_
    refine o_yield rfl rfl rfl (y_val tok rfl) ?_
    refine o_end [1, 6, 8, 9, 31] rfl ?_
    refine x_then ?_
    refine c_cond rfl (fun h => ?_) (fun h => ?_)
    ·
      simp only [Bool.and_eq_true, Bool.or_eq_true, Bool.not_eq_true', Bool.or_eq_false_iff, Bool.and_eq_false_iff, decide_eq_true_eq, decide_eq_false_iff_not, beq_iff_eq, bne_iff_ne, Bool.not_eq_false', beq_eq_false_iff_ne, bne_eq_false_iff_eq, ne_eq, Decidable.not_not, Int.not_lt, Int.not_le] at h
      refine c_skip ?_
      refine x_then ?_
      refine c_seq ?_
      refine c_block ?_
      refine c_region ?_
      refine o_yield rfl rfl rfl (y_val tok rfl) ?_
      refine o_yield rfl rfl rfl (y_val tok rfl) ?_
      refine o_yield rfl rfl rfl (y_val tok rfl) ?_
      obtain ⟨q, hq, hqt⟩ := head_in hg (i := i) (by omega)
      have hfl := fmtTo_len g (gbV g) hd i
      refine o_call (.a (.v _)) rfl rfl fnok18 rfl rfl rfl (fun hg E w1 hm => by exact refHead_c g ok i _) ?_
      refine o_yield rfl rfl rfl (y_val tok rfl) ?_
      rw [hq]
      refine o_yield rfl rfl rfl (y_own (s := .a (.rel 1 q)) 1 rfl rfl (fun v V' hv => y_idxK tok q rfl (by simp) (fun hg => hv) (fun hg => by omega))) ?_
      refine o_stepN rfl rfl rfl rfl (s_rst tok rfl rfl (by intro u hu; simp only [List.mem_singleton] at hu; subst hu; rfl) (by simp only [List.length_singleton]; omega) (by omega)) (fun _ _ => ?_)
      refine o_end [1, 6, 8, 9] rfl ?_
      refine x_block ?_
      refine x_then ?_
      refine c_region ?_
      refine o_yield rfl rfl rfl (y_val tok rfl) ?_
      refine o_yield rfl rfl rfl (y_val tok rfl) ?_
      refine o_yield rfl rfl rfl (y_val tok rfl) ?_
      refine o_end [1, 6, 8, 9] rfl ?_
      refine x_then ?_
      have hset := overL_set (enc := encS) (sz := 1) (fun _ => rfl) (fmtTo g (gbV g) hd i) q hd (by rw [hfl]; omega)
      have hfs : (fmtTo g (gbV g) hd i).set q hd = fmtTo g (gbV g) hd (i + 1) := by rw [fmtTo, hq]; simp
      rw [Nat.mul_one, hfs] at hset
      rw [show overL q [Value.string _] _ = _ from hset, wrapI (n := (i : Int) + 1) (by omega) (by omega)]
      refine x_round (i + 1) (by omega) (by first | omega | (dsimp only; omega)) (by repeat (first | exact SubF.nil | refine SubF.cons rfl ?_)) (by repeat (first | exact SubO.nil | refine SubO.cons rfl ?_)) rfl (Vw.le.refl _)
    ·
      simp only [Bool.and_eq_true, Bool.or_eq_true, Bool.not_eq_true', Bool.or_eq_false_iff, Bool.and_eq_false_iff, decide_eq_true_eq, decide_eq_false_iff_not, beq_iff_eq, bne_iff_ne, Bool.not_eq_false', beq_eq_false_iff_ne, bne_eq_false_iff_eq, ne_eq, Decidable.not_not, Int.not_lt, Int.not_le] at h
      refine c_exit ?_
      refine x_then_exit ?_
      refine x_then_exit ?_
      refine x_block_hit ?_
      refine x_then ?_
      refine c_seq ?_
      refine c_region ?_
      refine o_yield rfl rfl rfl (y_val tok rfl) ?_
      refine o_yield rfl rfl rfl (y_val tok rfl) ?_
      refine o_yield rfl rfl rfl (y_val tok rfl) ?_
      refine o_end [2, 3] rfl ?_
      refine x_then ?_
      refine c_ret ?_
      refine b_ret tok rfl ?_
      have his : i = sl := by omega
      subst his
      intro E w' hm _
      refine ⟨.inl ⟨hg, E.κ 1, rfl, ?_⟩, hm.below (Vw.le.refl _)⟩
      rw [Int.toNat_natCast, hsn]
      exact hm.rowFresh (Vw.le.refl _) (l := 1) rfl
end Go.Proofs.Ytikdaehmaaogdaa

/- Whether sectors are a device's: the program's. -/
set_option linter.unusedVariables false
set_option linter.unusedSimpArgs false
set_option maxRecDepth 100000
namespace Go.Proofs.Ytikdaehmaaogdaa
open Go Go.Eng Go.RowKit

def fitB (d : Nat) (l : List ByteArray) : Bool := !((l.take d).any fun x => decide ((512 : Int) < x.size)) && !((l.drop d).any fun x => decide ((256 : Int) < x.size))

end Go.Proofs.Ytikdaehmaaogdaa

/- Whether sectors are a device's: the program's, whole. -/
set_option linter.unusedVariables false
set_option linter.unusedSimpArgs false
set_option maxRecDepth 100000
namespace Go.Proofs.Ytikdaehmaaogdaa
open Go Go.Eng Go.RowKit

def headsOk (g : Geo) (l : List ByteArray) : Bool := (List.range g.slots.toNat).all fun i => decide (tailE (l.getD (headV g (i : Int)).toNat ByteArray.empty) = 0)

/-- What sectors are told to be. -/
def chkG (l : List ByteArray) : Option Geo := match l with
  | [] => none
  | s :: r => match srOk s with
    | none => none
    | some g => if (((s :: r).length : Int) = totV g ∧ fitB (dataV g 0 0).toNat (s :: r) = true) ∧ headsOk g (s :: r) = true then some g else none
def chkV (l : List ByteArray) : Geo := (chkG l).getD geo0
def chkE (l : List ByteArray) : Int := if (chkG l).isSome then 0 else 50

end Go.Proofs.Ytikdaehmaaogdaa

/- Whether sectors are a device's: the document's. -/
set_option linter.unusedVariables false
set_option linter.unusedSimpArgs false
set_option maxRecDepth 100000
namespace Go.Proofs.Ytikdaehmaaogdaa
open Go Go.Eng Go.RowKit

end Go.Proofs.Ytikdaehmaaogdaa

/- What is read of bytes was put there: the plain law. -/
set_option linter.unusedVariables false
set_option linter.unusedSimpArgs false
set_option maxRecDepth 100000
namespace Go.Proofs.Ytikdaehmaaogdaa
open Go Go.Eng Go.RowKit

end Go.Proofs.Ytikdaehmaaogdaa

/- Superblocks and headers read back, what is at first checked: plain laws. -/
set_option linter.unusedVariables false
set_option linter.unusedSimpArgs false
set_option maxRecDepth 100000
namespace Go.Proofs.Ytikdaehmaaogdaa
open Go Go.Eng Go.RowKit

theorem fits6 (n : Int) : fitsB n 6 = (decide (0 ≤ n) && decide (n ≤ 1099511627776)) := by
  have : mostN (6 : Int).toNat = 1099511627776 := by decide
  rw [fitsB, this]
  simp [widthB]

theorem headS_tail (n : Int) : ((headS n).2 = 0 ↔ 0 ≤ n ∧ n ≤ 1099511627776) ∧ ((headS n).2 = 0 → tailOk (headS n).1 = some n) := by
  by_cases h : fitsB n 6 = true
  · have h2 := h
    rw [fits6] at h2
    simp only [Bool.and_eq_true, decide_eq_true_eq] at h2
    exact ⟨⟨fun _ => h2, fun _ => by rw [headS_eq h]⟩, fun _ => tail_head h⟩
  · have h2 := h
    rw [fits6] at h2
    simp only [Bool.and_eq_true, decide_eq_true_eq] at h2
    have h3 : (headS n).2 = 2 := by rw [headS, if_neg h]
    exact ⟨⟨fun h4 => by omega, fun h4 => absurd h4 h2⟩, fun h4 => by omega⟩

theorem gbV_size (g : Geo) : (gbV g).size ≤ 256 := by
  unfold gbV
  split
  · have h20 : (packL gW (gNums g)).length = 20 := by simp [packL, gW, gNums, leB, leTake_len]
    rw [strOf_size, sealL_len, h20]; omega
  · simp

theorem head_pos {g : Geo} (hg : geoB g = true) {k : Nat} (hk : (k : Int) < g.slots) : 1 ≤ headV g (k : Int) ∧ headV g (k : Int) < dataAt g := by
  have hf := geo_facts hg
  have hh : headV g (k : Int) = 1 + 2 * g.nodes + g.log + (k : Int) * (1 + g.journal) := by rw [headV, if_pos ⟨hg, by omega, hk⟩]
  have hd : dataAt g = 1 + 2 * g.nodes + g.log + g.slots * (1 + g.journal) := rfl
  have h1 : 0 ≤ (k : Int) * (1 + g.journal) := Int.mul_nonneg (by omega) (by omega)
  have h2 : ((k : Int) + 1) * (1 + g.journal) ≤ g.slots * (1 + g.journal) := Int.mul_le_mul_of_nonneg_right (by omega) (by omega)
  rw [Int.add_mul] at h2
  omega

theorem head_inj {g : Geo} (hg : geoB g = true) {i k : Nat} (hi : (i : Int) < g.slots) (hk : (k : Int) < g.slots) (h : headV g (i : Int) = headV g (k : Int)) : i = k := by
  have hf := geo_facts hg
  rw [headV, if_pos ⟨hg, by omega, hi⟩, headV, if_pos ⟨hg, by omega, hk⟩] at h
  have h2 : (i : Int) * (1 + g.journal) = (k : Int) * (1 + g.journal) := by omega
  have := Int.eq_of_mul_eq_mul_right (by omega) h2
  omega

theorem fmt_head {g : Geo} (hg : geoB g = true) (top hd : ByteArray) : ∀ i : Nat, (i : Int) ≤ g.slots → ∀ k : Nat, k < i → (fmtTo g top hd i)[(headV g (k : Int)).toNat]? = some hd
  | 0, _, k, h => by omega
  | i + 1, h, k, hk => by
    have hlt := head_in hg (i := k) (by omega)
    obtain ⟨q, hq, hqt⟩ := hlt
    rw [fmtTo]
    by_cases hki : k = i
    · subst hki
      rw [List.getElem?_set_self (by rw [fmtTo_len]; omega)]
    · rw [List.getElem?_set_ne (fun e => hki (by
        have h1 := (head_pos hg (k := i) (by omega)).1
        have h2 := (head_pos hg (k := k) (by omega)).1
        exact (head_inj hg (i := i) (k := k) (by omega) (by omega) (by omega)).symm))]
      exact fmt_head hg top hd i (by omega) k (by omega)

theorem fmt_other {g : Geo} (hg : geoB g = true) (top hd : ByteArray) : ∀ i : Nat, (i : Int) ≤ g.slots → ∀ j : Nat, (j : Int) < totV g → j ≠ 0 → (∀ k : Nat, k < i → headV g (k : Int) ≠ j) → (fmtTo g top hd i)[j]? = some ByteArray.empty
  | 0, _, j, hj, h0, _ => by
    rw [fmtTo, List.getElem?_set_ne (by omega), List.getElem?_replicate, if_pos (by omega)]
  | i + 1, h, j, hj, h0, hk => by
    have hp := (head_pos hg (k := i) (by omega)).1
    have := hk i (by omega)
    rw [fmtTo, List.getElem?_set_ne (by omega)]
    exact fmt_other hg top hd i (by omega) j hj h0 (fun k hki => hk k (by omega))

theorem fmt_small {g : Geo} {top hd : ByteArray} (h1 : top.size ≤ 256) (h2 : hd.size ≤ 256) : ∀ i : Nat, ∀ x ∈ fmtTo g top hd i, x.size ≤ 256
  | 0, x, hx => by
    rw [fmtTo] at hx
    rcases List.mem_or_eq_of_mem_set hx with hx | rfl
    · rw [List.eq_of_mem_replicate hx]; simp
    · exact h1
  | i + 1, x, hx => by
    rw [fmtTo] at hx
    rcases List.mem_or_eq_of_mem_set hx with hx | rfl
    · exact fmt_small h1 h2 i x hx
    · exact h2

end Go.Proofs.Ytikdaehmaaogdaa

/- Whether blocks may be: the program's. -/
set_option linter.unusedVariables false
set_option linter.unusedSimpArgs false
set_option maxRecDepth 100000
namespace Go.Proofs.Ytikdaehmaaogdaa
open Go Go.Eng Go.RowKit

end Go.Proofs.Ytikdaehmaaogdaa

/- A block's pieces, in memory that nobody writes. -/
set_option linter.unusedVariables false
set_option linter.unusedSimpArgs false
set_option maxRecDepth 100000
namespace Go.Proofs.Ytikdaehmaaogdaa
open Go Go.Eng Go.RowKit

end Go.Proofs.Ytikdaehmaaogdaa

/- Where blocks stand: the program's. -/
set_option linter.unusedVariables false
set_option linter.unusedSimpArgs false
set_option maxRecDepth 100000
namespace Go.Proofs.Ytikdaehmaaogdaa
open Go Go.Eng Go.RowKit

def cellAt (g : Geo) (per : Nat) (l : List Block) (j : Nat) : Cell := ⟨dataV g (blkAt l (j / per)).n ((j % per : Nat) : Int), pieceAt (blkAt l (j / per)).text (j % per)⟩
def cellsN (g : Geo) (per : Nat) (l : List Block) (n : Nat) : List Cell := (List.range n).map (cellAt g per l)

def allCells (g : Geo) (l : List Block) : List Cell := cellsN g g.per.toNat l (l.length * g.per.toNat)

def CelPost (g : Geo) (l : List Block) (w : World) (e : Ending) (w' : World) : Prop :=
  ((mayL g l = true ∧ ∃ v, e = .returned (.tuple #[v, I 0]) ∧ w'.ownsRow w.heap.size 113 2 v (allCells g l).length ((allCells g l).flatMap Cell.cells)) ∨
    (mayL g l = false ∧ e = .returned (.tuple #[.slice none 0 0, I 2]))) ∧ Below w.heap.size w w'

end Go.Proofs.Ytikdaehmaaogdaa

/- No more records are whole than there are. -/
set_option linter.unusedVariables false
set_option linter.unusedSimpArgs false
set_option maxRecDepth 100000
namespace Go.Proofs.Ytikdaehmaaogdaa
open Go Go.Eng Go.RowKit

theorem wholeFrom_le : ∀ (l : List Record) (i n d : Nat), n ≤ i → wholeFrom l i n d ≤ i + l.length
  | [], i, n, d, h => by rw [wholeFrom]; exact Nat.le_trans h (Nat.le_add_right _ _)
  | r :: t, i, n, d, h => by
    rw [wholeFrom]
    have h1 := wholeFrom_le t (i + 1) n (d + 1) (by omega)
    have h2 := wholeFrom_le t (i + 1) (i + 1) 0 (by omega)
    simp only [List.length_cons]
    split
    · omega
    · split <;> omega

theorem whole_le (l : List Record) : whole l ≤ l.length := by
  have := wholeFrom_le l 0 0 0 (Nat.le_refl _)
  unfold whole; omega

end Go.Proofs.Ytikdaehmaaogdaa
