import Derived.Test.YtlafboeohojcbaaGreatMRReads
import Derived.Test.YtlafboeohojcbaaGreatEng38
import Derived.Test.YtlafboeohojcbaaGreatEng31
/- Learning: members and old keys. -/
set_option linter.unusedVariables false
set_option linter.unusedSimpArgs false
set_option maxRecDepth 100000
namespace Go.Proofs.YtlafboeohojcbaaGreat
open Go Go.Eng Go.RowKit
def seatOf (n : Int) : Int := if keyB n = true then n.tmod 16 else -1
theorem cof_c (n : Int) (w : World) : Calls Tryz.prog 40 #[I n] w fun e w' => e = .returned (I (seatOf n)) ∧ Below w.heap.size w w' := by
 refine enter (E := E0) (O := []) (nl := 0) (V := vw w) [.a (.v (I n))] Tryz.func40 rfl rfl (mem0 E0 0 w) rfl rfl ?_
 refine c_seq (c_region ?_)
 refine yO rfl rfl rfl rfl ?_
 refine o_end [0] rfl ?_
 refine x_then (c_seq (c_seq (c_region ?_)))
 refine yO rfl rfl rfl rfl ?_
 refine o_call (.a (.v _)) rfl rfl fnok39 rfl rfl rfl (fun hg E w1 hm => by exact key_c _ _) ?_
 refine o_end [0, 4] rfl ?_
 refine x_then ?_
 refine c_cond rfl (fun h => ?_) (fun h => ?_)
 ·
  refine c_seq (c_region ?_)
  refine yO rfl rfl rfl rfl ?_
  refine o_yield rfl rfl rfl (y_rem rfl (fun hg => by decide)) ?_
  refine yO rfl rfl rfl rfl ?_
  refine o_end [2] rfl ?_
  refine x_then (c_ret (x_then_ret ?_))
  refine b_ret tok rfl ?_
  intro E w' hm _
  refine ⟨?_, hm.below (Vw.le.refl _)⟩
  rw [seatOf, if_pos h]; rfl
 ·
  refine c_skip (x_then (c_seq (c_region ?_)))
  refine yO rfl rfl rfl rfl ?_
  refine o_end [2] rfl ?_
  refine x_then (c_ret ?_)
  refine b_ret tok rfl ?_
  intro E w' hm _
  refine ⟨?_, hm.below (Vw.le.refl _)⟩
  rw [seatOf, if_neg (by simp [h])]; rfl
def TellsN (V : Vw) (fv : Value) (pr : Int → Bool) : Prop :=
 ∀ (x : Int) w', V.le (vw w') → CallsB Tryz.prog fv [I x] w' fun e w'' => e = .returned (.bool (pr x)) ∧ Below w'.heap.size w' w''
def oldB (key m : Int) : Bool := (keyB key && decide (m < key)) && (seatOf m == seatOf key)
def TellsB (V : Vw) (fv : Value) (pr : Block → Bool) : Prop :=
 ∀ (x : Block) w', V.le (vw w') → CallsFn Tryz.prog fv [x.val] w' fun e w'' => e = .returned (.bool (pr x)) ∧ Below w'.heap.size w' w''
def idxB (pr : Block → Bool) : List Block → Nat → Int
 | [], _ => -1
 | b :: r, i => if pr b = true then i else idxB pr r (i + 1)
def getB : List Block → Int → ByteArray × Bool
 | [], _ => (ByteArray.empty, false)
 | b :: r, k => if b.n = k then (b.text, true) else getB r k
theorem sl_shape {V : Vw} {v : Value} {sz m : Nat} {xs : List Value} (h : IsSl V v sz m xs) : ∃ a n c, v = .slice a n c := by
 rcases h.2 with ⟨a, c, rfl, _⟩ | ⟨g, o, cap, cur, e, f, rfl, _⟩
 · exact ⟨_, _, _, rfl⟩
 · exact ⟨_, _, _, rfl⟩
theorem refGet18_c (V : Vw) (sv : Value) (l : List Block) (k : Int) (w : World) (hV : V.le (vw w)) (hs0 : SlOf V Block.cells 2 sv l) (hn : l.length ≤ 4398046511104) :
  Calls Tryz.prog 15 #[sv, I k] w fun e w' => e = .returned (.tuple #[S (getB l k).1, .bool (getB l k).2]) ∧ Below w.heap.size w w' := by
 have hs := hs0.mono hV
 refine enter (E := E0) (O := []) (nl := 0) (V := vw w) [.a (.v sv), .a (.v (I k))] Tryz.func15 rfl rfl (mem0 E0 0 w) rfl rfl ?_
 refine c_seq (c_region ?_)
 iterate 2 refine yO rfl rfl rfl rfl ?_
 refine o_end [0, 1] rfl ?_
 refine x_then (c_seq (c_seq (c_region ?_)))
 refine yO rfl rfl rfl rfl ?_
 refine o_end [0, 1, 6] rfl ?_
 refine x_then (c_block ?_)
 refine c_loopK [0, 1] [] rfl rfl (σ := Nat) (fun i => [(6, .a (.v (I i)))]) (fun i => []) (fun i => i ≤ l.length ∧ getB l k = getB (l.drop i) k) (fun i => l.length - i) (0) (⟨by omega, rfl⟩) (by repeat (first | exact fN | refine fC rfl ?_)) (by repeat (first | exact oN | refine oC rfl ?_)) rfl ?_
 rintro i ⟨hi, heq⟩
 iterate 2 refine c_seq ?_
 refine c_region ?_
 iterate 2 refine yO rfl rfl rfl rfl ?_
 refine o_yield rfl rfl rfl (y_len tok rfl (fun hg => hs.sl)) ?_
 refine yO rfl rfl rfl rfl ?_
 refine o_end [0, 1, 6, 10] rfl ?_
 refine x_then ?_
 refine c_cond rfl (fun h => ?_) (fun h => ?_)
 ·
  simp only [Xa, Xb, Xc, Xd, Xe, Xf, Xg, Xh, Xi, Xj, Xk, Xl, Xm, Xn, Xo, Xp] at h
  refine c_skip (x_then (c_seq (c_block (c_seq (c_region ?_)))))
  iterate 2 refine yO rfl rfl rfl rfl ?_
  obtain ⟨x, h_x⟩ := hs.at (k := i) (by omega)
  have hlt_x := lt_of_at h_x
  refine o_yield rfl rfl rfl (y_idx tok rfl (fun hg => hs.sl) (fun hg => ⟨by omega, by omega⟩)) ?_
  refine o_yield rfl rfl rfl (y_fel tok rfl (fun hg => hs.sl) (fun hg => by omega)) ?_
  refine o_yield rfl rfl rfl (y_lel tok (i) 0 (x) rfl (fun hg => hs) (fun hg => h_x) rfl rfl) ?_
  iterate 2 refine yO rfl rfl rfl rfl ?_
  refine o_end [0, 1, 6, 19] rfl ?_
  refine x_then ?_
  refine c_cond rfl (fun h => ?_) (fun h => ?_)
  ·
   simp only [Xa, Xb, Xc, Xd, Xe, Xf, Xg, Xh, Xi, Xj, Xk, Xl, Xm, Xn, Xo, Xp] at h
   refine c_seq (c_region ?_)
   iterate 2 refine yO rfl rfl rfl rfl ?_
   rw [drop_at h_x, getB, if_pos h] at heq
   have hlt_x := lt_of_at h_x
   refine o_yield rfl rfl rfl (y_idx tok rfl (fun hg => hs.sl) (fun hg => ⟨by omega, by omega⟩)) ?_
   refine o_yield rfl rfl rfl (y_fel tok rfl (fun hg => hs.sl) (fun hg => by omega)) ?_
   refine o_yield rfl rfl rfl (y_lel tok (i) 1 (x) rfl (fun hg => hs) (fun hg => h_x) rfl rfl) ?_
   iterate 2 refine yO rfl rfl rfl rfl ?_
   refine o_end [4, 5] rfl ?_
   refine x_then (c_ret (x_block_ret (x_then_ret (x_then_ret (x_block_ret ?_)))))
   refine x_then_ret ?_
   refine b_ret tok rfl ?_
   intro E w' hm _
   refine ⟨?_, hm.below (Vw.le.refl _)⟩
   rw [heq]; rfl
  ·
   simp only [Xa, Xb, Xc, Xd, Xe, Xf, Xg, Xh, Xi, Xj, Xk, Xl, Xm, Xn, Xo, Xp] at h
   refine c_skip (x_block (x_then (c_region ?_)))
   iterate 3 refine yO rfl rfl rfl rfl ?_
   refine o_end [0, 1, 6] rfl ?_
   refine x_then ?_
   rw [drop_at h_x, getB, if_neg h] at heq
   rw [wrapI (n := (i : Int) + 1) (by omega) (by omega)]
   refine x_round (i + 1) (⟨by omega, heq⟩) (by first | omega | (dsimp only; omega)) (by repeat (first | exact fN | refine fC rfl ?_)) (by repeat (first | exact oN | refine oC rfl ?_)) rfl (Vw.le.refl _)
 ·
  simp only [Xa, Xb, Xc, Xd, Xe, Xf, Xg, Xh, Xi, Xj, Xk, Xl, Xm, Xn, Xo, Xp] at h
  refine c_exit (x_then_exit (x_then_exit (x_block_hit (x_then (c_seq ?_)))))
  refine c_region ?_
  iterate 2 refine yO rfl rfl rfl rfl ?_
  refine o_end [4, 5] rfl ?_
  refine x_then (c_ret ?_)
  refine b_ret tok rfl ?_
  have hkL : i = l.length := by omega
  subst hkL
  rw [List.drop_length, getB] at heq
  intro E w' hm _
  refine ⟨?_, hm.below (Vw.le.refl _)⟩
  rw [heq]; rfl
structure Reg where
 first : Int
 many : Int
 kind : Int
 per : Int
abbrev Reg.cells (r : Reg) : List Value := [I r.first, I r.many, I8 r.kind, I r.per]
abbrev Reg.val (r : Reg) : Value := .agg #[I r.first, I r.many, I8 r.kind, I r.per]
def dataAt (g : Geo) : Int := 1 + 2 * g.nodes + g.log + g.slots * (1 + g.journal)
def regs (g : Geo) : List Reg :=
 [⟨0, 1, 1, 1⟩, ⟨1, g.nodes, 2, 1⟩, ⟨1 + g.nodes, g.nodes, 3, 1⟩, ⟨1 + 2 * g.nodes, g.log, 4, 1⟩, ⟨1 + 2 * g.nodes + g.log, g.slots * (1 + g.journal), 6, 1 + g.journal⟩, ⟨dataAt g, g.blocks * g.per, 7, g.per⟩]
theorem stretchEnd_c (a b : Int) (w : World) : Calls Tryz.prog 81 #[.agg #[I a, I b]] w fun e w' => e = .returned (I (IntKind.i64.wrap (a + b))) ∧ Below w.heap.size w w' := by
 refine enter (E := E0) (O := []) (nl := 0) (V := vw w) [.a (.v (.agg #[I a, I b]))] Tryz.func81 rfl rfl (mem0 E0 0 w) rfl rfl ?_
 refine c_seq (c_region ?_)
 refine o_new tok rfl rfl rfl rfl ?_
 refine yO rfl rfl rfl rfl ?_
 refine o_end [1] rfl ?_
 refine x_then (c_seq (c_region ?_))
 iterate 6 refine yO rfl rfl rfl rfl ?_
 refine o_end [2] rfl ?_
 refine x_then (c_ret ?_)
 refine b_ret tok rfl ?_
 intro E w' hm _
 refine ⟨?_, hm.below (Vw.le.refl _)⟩
 rfl
theorem stretchAt_c (a b k : Int) (w : World) : Calls Tryz.prog 56 #[.agg #[I a, I b], I k] w fun e w' => e = .returned (I (if k < 0 ∨ b ≤ k then -1 else IntKind.i64.wrap (a + k))) ∧ Below w.heap.size w w' := by
 refine enter (E := E0) (O := []) (nl := 0) (V := vw w) [.a (.v (.agg #[I a, I b])), .a (.v (I k))] Tryz.func56 rfl rfl (mem0 E0 0 w) rfl rfl ?_
 refine c_seq (c_region ?_)
 refine o_new tok rfl rfl rfl rfl ?_
 refine yO rfl rfl rfl rfl ?_
 refine o_end [1, 2] rfl ?_
 refine x_then (c_seq (c_seq (c_region ?_)))
 iterate 8 refine yO rfl rfl rfl rfl ?_
 refine o_end [1, 2, 12] rfl ?_
 refine x_then ?_
 refine c_cond rfl (fun h => ?_) (fun h => ?_)
 ·
  simp only [Xa, Xb, Xc, Xd, Xe, Xf, Xg, Xh, Xi, Xj, Xk, Xl, Xm, Xn, Xo, Xp] at h
  refine c_seq (c_region ?_)
  refine yO rfl rfl rfl rfl ?_
  refine o_end [4] rfl ?_
  refine x_then (c_ret (x_then_ret ?_))
  refine b_ret tok rfl ?_
  intro E w' hm _
  refine ⟨?_, hm.below (Vw.le.refl _)⟩
  rw [if_pos (by omega)]; rfl
 ·
  simp only [Xa, Xb, Xc, Xd, Xe, Xf, Xg, Xh, Xi, Xj, Xk, Xl, Xm, Xn, Xo, Xp] at h
  refine c_skip (x_then (c_seq (c_region ?_)))
  iterate 5 refine yO rfl rfl rfl rfl ?_
  refine o_end [4] rfl ?_
  refine x_then (c_ret ?_)
  refine b_ret tok rfl ?_
  intro E w' hm _
  refine ⟨?_, hm.below (Vw.le.refl _)⟩
  rw [if_neg (by omega)]; rfl
theorem geo_facts {g : Geo} (h : geoB g = true) : (1 ≤ g.nodes ∧ g.nodes ≤ 16) ∧ (1 ≤ g.slots ∧ g.slots ≤ g.nodes) ∧ (1 ≤ g.blocks ∧ g.blocks ≤ 64) ∧ (1 ≤ g.per ∧ g.per ≤ 8) ∧ (g.per + 2 ≤ g.journal ∧ g.journal ≤ 64) ∧
 (8 * g.slots ≤ g.log ∧ g.log ≤ 512) ∧ (1 ≤ g.lease ∧ g.lease < g.wait ∧ g.wait ≤ 1048576) := by simpa [geoB] using h
theorem prod_bound {a b A B : Int} (ha : 0 ≤ a) (hb : 0 ≤ b) (h1 : a ≤ A) (h2 : b ≤ B) : 0 ≤ a * b ∧ a * b ≤ A * B :=
 ⟨Int.mul_nonneg ha hb, Int.le_trans (Int.mul_le_mul_of_nonneg_right h1 hb) (Int.mul_le_mul_of_nonneg_left h2 (by omega))⟩
theorem reg_ones (l : List Reg) : ∀ u ∈ l.flatMap Reg.cells, u.oneCell' = true := by
 intro u hu
 obtain ⟨x, _, hx⟩ := List.mem_flatMap.1 hu
 simp only [Reg.cells, List.mem_cons, List.not_mem_nil, or_false] at hx
 rcases hx with rfl | rfl | rfl | rfl <;> rfl
theorem regions_c (g : Geo) (ok : g.Ok) (w : World) :
  Calls Tryz.prog 69 #[g.val] w fun e w' => ((geoB g = true ∧ ∃ v, e = .returned v ∧ w'.ownsRow w.heap.size 111 4 v 6 ((regs g).flatMap Reg.cells)) ∨ (geoB g = false ∧ e = .returned (.slice none 0 0))) ∧ Below w.heap.size w w' := by
 refine enter (E := E0) (O := []) (nl := 0) (V := vw w) [.a (.v g.val)] Tryz.func69 rfl rfl (mem0 E0 0 w) rfl rfl ?_
 refine c_seq (c_region ?_)
 iterate 2 refine o_new tok rfl rfl rfl rfl ?_
 refine o_end [1, 2] rfl ?_
 refine x_then (c_seq (c_seq (c_region ?_)))
 refine yO rfl rfl rfl rfl ?_
 refine o_call (.a (.v _)) rfl rfl fnok79 rfl rfl rfl (fun hg E w1 hm => by exact geoMay_c g ok _) ?_
 refine yO rfl rfl rfl rfl ?_
 refine o_end [1, 2, 7] rfl ?_
 refine x_then ?_
 refine c_cond rfl (fun h => ?_) (fun h => ?_)
 ·
  simp only [Xa, Xb, Xc, Xd, Xe, Xf, Xg, Xh, Xi, Xj, Xk, Xl, Xm, Xn, Xo, Xp] at h
  refine c_seq (c_region ?_)
  refine o_store tok rfl rfl rfl (by first | (repeat' first | exact trivial | exact rfl | apply And.intro); done | simp [onesP, oneP, lk, Value.oneCell']) ?_
  refine o_end [2] rfl ?_
  refine x_then (c_ret (x_then_ret ?_))
  refine b_ret tok rfl ?_
  intro E w' hm _
  exact ⟨.inr ⟨by simpa using h, rfl⟩, hm.below (Vw.le.refl _)⟩
 ·
  simp only [Xa, Xb, Xc, Xd, Xe, Xf, Xg, Xh, Xi, Xj, Xk, Xl, Xm, Xn, Xo, Xp] at h
  refine c_skip (x_then (c_seq (c_region ?_)))
  refine o_new tok rfl rfl rfl rfl ?_
  refine o_store tok rfl rfl rfl (by first | (repeat' first | exact trivial | exact rfl | apply And.intro); done | simp [onesP, oneP, lk, Value.oneCell']) ?_
  refine o_end [1, 2, 3] rfl ?_
  refine x_then (c_seq (c_region ?_))
  iterate 2 refine yO rfl rfl rfl rfl ?_
  refine o_end [1, 2, 4] rfl ?_
  refine x_then (c_seq (c_region ?_))
  refine yO rfl rfl rfl rfl ?_
  have hgeo : geoB g = true := by simpa using h
  clear h
  have hf := geo_facts hgeo
  have hs := prod_bound (a := g.slots) (b := 1 + g.journal) (A := 16) (B := 65) (by omega) (by omega) (by omega) (by omega)
  have hb := prod_bound (a := g.blocks) (b := g.per) (A := 64) (B := 8) (by omega) (by omega) (by omega) (by omega)
  have hda : dataAt g = 1 + 2 * g.nodes + g.log + g.slots * (1 + g.journal) := rfl
  refine k_nilO 1 0 111 4 rfl rfl ?_
  refine o_inl rfl rfl rfl rfl rfl fnok80 Tryz.func80 rfl rfl rfl (fun E => ?_)
  refine c_seq (c_region ?_)
  iterate 8 refine yO rfl rfl rfl rfl ?_
  refine o_new tok rfl rfl rfl rfl ?_
  refine o_store tok rfl rfl rfl (by first | (repeat' first | exact trivial | exact rfl | apply And.intro); done | simp [onesP, oneP, lk, Value.oneCell']) ?_
  refine o_end [3, 4, 8] rfl ?_
  refine x_then (c_seq (c_region ?_))
  iterate 2 refine yO rfl rfl rfl rfl ?_
  rw [show IntKind.i64.wrap (1 * 1) = 1 by rw [wrapI (by omega) (by omega)]; try omega]
  refine o_step rfl rfl rfl rfl rfl (s_bs tok 4 rfl rfl rfl) (fun _ _ => ?_)
  refine o_step rfl rfl rfl rfl rfl (s_app tok (⟨0, 1, 1, 1⟩ : Reg).cells rfl (fun E w hm => ownsRow_src (hm.row _ _ _ _ _ rfl)) (fun _ _ _ => by simpa using reg_ones [(⟨0, 1, 1, 1⟩ : Reg)]) (by dsimp only; omega)) (fun _ _ => ?_)
  refine o_store tok rfl rfl rfl (by first | (repeat' first | exact trivial | exact rfl | apply And.intro); done | simp [onesP, oneP, lk, Value.oneCell']) ?_
  refine o_end [3, 8] rfl ?_
  refine x_then (c_region ?_)
  iterate 2 refine yO rfl rfl rfl rfl ?_
  refine o_call (.a (.v _)) rfl rfl fnok81 rfl rfl rfl (fun hg E w1 hm => by exact stretchEnd_c _ _ _) ?_
  refine o_store tok rfl rfl rfl (by first | (repeat' first | exact trivial | exact rfl | apply And.intro); done | simp [onesP, oneP, lk, Value.oneCell']) ?_
  refine o_end [] rfl ?_
  refine b_end tok rfl ?_
  rw [show IntKind.i64.wrap (0 + 1) = 1 by rw [wrapI (by omega) (by omega)]; try omega]
  intro E1 w1 hm1 hok1
  refine inl_end (E := E) hm1 hok1 rfl rfl (by repeat (first | exact KeepsIn.zero | refine KeepsIn.succ rfl ?_)) rfl (by repeat (first | exact oN | refine oC rfl ?_)) rfl ?_
  clear hm1 hok1 w1 E1 E
  refine k_swap 3 10 rfl ?_
  refine weaken (l := [(1, .a (.ptr 0 0)), (2, .a (.ptr 1 0)), (4, .a (.fn 80 [(2, 0), (1, 0)]))]) (O' := [(0, .lit (g.cells.map .v) 23), (1, .lit [.row 3] 118), (2, .lit [.v (I (1))] 3), (3, .row 111 4 1 (((regs g).take 1).flatMap Reg.cells))]) (nl' := 4) ?_ (by repeat (first | exact fN | refine fC rfl ?_)) (by repeat (first | exact oN | refine oC rfl ?_)) rfl (Vw.le.refl _)
  refine o_end [1, 2, 4] rfl ?_
  refine x_then (c_seq (c_region ?_))
  iterate 3 refine yO rfl rfl rfl rfl ?_
  refine o_inl rfl rfl rfl rfl rfl fnok80 Tryz.func80 rfl rfl rfl (fun E => ?_)
  refine c_seq (c_region ?_)
  iterate 8 refine yO rfl rfl rfl rfl ?_
  refine o_new tok rfl rfl rfl rfl ?_
  refine o_store tok rfl rfl rfl (by first | (repeat' first | exact trivial | exact rfl | apply And.intro); done | simp [onesP, oneP, lk, Value.oneCell']) ?_
  refine o_end [3, 4, 8] rfl ?_
  refine x_then (c_seq (c_region ?_))
  iterate 2 refine yO rfl rfl rfl rfl ?_
  rw [show IntKind.i64.wrap (g.nodes * 1) = g.nodes by rw [wrapI (by omega) (by omega)]; try omega]
  refine o_step rfl rfl rfl rfl rfl (s_bs tok 4 rfl rfl rfl) (fun _ _ => ?_)
  refine o_step rfl rfl rfl rfl rfl (s_app tok (⟨1, g.nodes, 2, 1⟩ : Reg).cells rfl (fun E w hm => ownsRow_src (hm.row _ _ _ _ _ rfl)) (fun _ _ _ => by simpa using reg_ones [(⟨1, g.nodes, 2, 1⟩ : Reg)]) (by dsimp only; omega)) (fun _ _ => ?_)
  refine o_store tok rfl rfl rfl (by first | (repeat' first | exact trivial | exact rfl | apply And.intro); done | simp [onesP, oneP, lk, Value.oneCell']) ?_
  refine o_end [3, 8] rfl ?_
  refine x_then (c_region ?_)
  iterate 2 refine yO rfl rfl rfl rfl ?_
  refine o_call (.a (.v _)) rfl rfl fnok81 rfl rfl rfl (fun hg E w1 hm => by exact stretchEnd_c _ _ _) ?_
  refine o_store tok rfl rfl rfl (by first | (repeat' first | exact trivial | exact rfl | apply And.intro); done | simp [onesP, oneP, lk, Value.oneCell']) ?_
  refine o_end [] rfl ?_
  refine b_end tok rfl ?_
  rw [show IntKind.i64.wrap (1 + g.nodes) = 1 + g.nodes by rw [wrapI (by omega) (by omega)]; try omega]
  intro E1 w1 hm1 hok1
  refine inl_end (E := E) hm1 hok1 rfl rfl (by repeat (first | exact KeepsIn.zero | refine KeepsIn.succ rfl ?_)) rfl (by repeat (first | exact oN | refine oC rfl ?_)) rfl ?_
  clear hm1 hok1 w1 E1 E
  refine k_swap 3 10 rfl ?_
  refine weaken (l := [(1, .a (.ptr 0 0)), (2, .a (.ptr 1 0)), (4, .a (.fn 80 [(2, 0), (1, 0)]))]) (O' := [(0, .lit (g.cells.map .v) 23), (1, .lit [.row 3] 118), (2, .lit [.v (I (1 + g.nodes))] 3), (3, .row 111 4 2 (((regs g).take 2).flatMap Reg.cells))]) (nl' := 4) ?_ (by repeat (first | exact fN | refine fC rfl ?_)) (by repeat (first | exact oN | refine oC rfl ?_)) rfl (Vw.le.refl _)
  refine o_end [1, 2, 4] rfl ?_
  refine x_then (c_seq (c_region ?_))
  iterate 3 refine yO rfl rfl rfl rfl ?_
  refine o_inl rfl rfl rfl rfl rfl fnok80 Tryz.func80 rfl rfl rfl (fun E => ?_)
  refine c_seq (c_region ?_)
  iterate 8 refine yO rfl rfl rfl rfl ?_
  refine o_new tok rfl rfl rfl rfl ?_
  refine o_store tok rfl rfl rfl (by first | (repeat' first | exact trivial | exact rfl | apply And.intro); done | simp [onesP, oneP, lk, Value.oneCell']) ?_
  refine o_end [3, 4, 8] rfl ?_
  refine x_then (c_seq (c_region ?_))
  iterate 2 refine yO rfl rfl rfl rfl ?_
  rw [show IntKind.i64.wrap (g.nodes * 1) = g.nodes by rw [wrapI (by omega) (by omega)]; try omega]
  refine o_step rfl rfl rfl rfl rfl (s_bs tok 4 rfl rfl rfl) (fun _ _ => ?_)
  refine o_step rfl rfl rfl rfl rfl (s_app tok (⟨1 + g.nodes, g.nodes, 3, 1⟩ : Reg).cells rfl (fun E w hm => ownsRow_src (hm.row _ _ _ _ _ rfl)) (fun _ _ _ => by simpa using reg_ones [(⟨1 + g.nodes, g.nodes, 3, 1⟩ : Reg)]) (by dsimp only; omega)) (fun _ _ => ?_)
  refine o_store tok rfl rfl rfl (by first | (repeat' first | exact trivial | exact rfl | apply And.intro); done | simp [onesP, oneP, lk, Value.oneCell']) ?_
  refine o_end [3, 8] rfl ?_
  refine x_then (c_region ?_)
  iterate 2 refine yO rfl rfl rfl rfl ?_
  refine o_call (.a (.v _)) rfl rfl fnok81 rfl rfl rfl (fun hg E w1 hm => by exact stretchEnd_c _ _ _) ?_
  refine o_store tok rfl rfl rfl (by first | (repeat' first | exact trivial | exact rfl | apply And.intro); done | simp [onesP, oneP, lk, Value.oneCell']) ?_
  refine o_end [] rfl ?_
  refine b_end tok rfl ?_
  rw [show IntKind.i64.wrap ((1 + g.nodes) + g.nodes) = 1 + 2 * g.nodes by rw [wrapI (by omega) (by omega)]; try omega]
  intro E1 w1 hm1 hok1
  refine inl_end (E := E) hm1 hok1 rfl rfl (by repeat (first | exact KeepsIn.zero | refine KeepsIn.succ rfl ?_)) rfl (by repeat (first | exact oN | refine oC rfl ?_)) rfl ?_
  clear hm1 hok1 w1 E1 E
  refine k_swap 3 10 rfl ?_
  refine weaken (l := [(1, .a (.ptr 0 0)), (2, .a (.ptr 1 0)), (4, .a (.fn 80 [(2, 0), (1, 0)]))]) (O' := [(0, .lit (g.cells.map .v) 23), (1, .lit [.row 3] 118), (2, .lit [.v (I (1 + 2 * g.nodes))] 3), (3, .row 111 4 3 (((regs g).take 3).flatMap Reg.cells))]) (nl' := 4) ?_ (by repeat (first | exact fN | refine fC rfl ?_)) (by repeat (first | exact oN | refine oC rfl ?_)) rfl (Vw.le.refl _)
  refine o_end [1, 2, 4] rfl ?_
  refine x_then (c_seq (c_region ?_))
  iterate 3 refine yO rfl rfl rfl rfl ?_
  refine o_inl rfl rfl rfl rfl rfl fnok80 Tryz.func80 rfl rfl rfl (fun E => ?_)
  refine c_seq (c_region ?_)
  iterate 8 refine yO rfl rfl rfl rfl ?_
  refine o_new tok rfl rfl rfl rfl ?_
  refine o_store tok rfl rfl rfl (by first | (repeat' first | exact trivial | exact rfl | apply And.intro); done | simp [onesP, oneP, lk, Value.oneCell']) ?_
  refine o_end [3, 4, 8] rfl ?_
  refine x_then (c_seq (c_region ?_))
  iterate 2 refine yO rfl rfl rfl rfl ?_
  rw [show IntKind.i64.wrap (g.log * 1) = g.log by rw [wrapI (by omega) (by omega)]; try omega]
  refine o_step rfl rfl rfl rfl rfl (s_bs tok 4 rfl rfl rfl) (fun _ _ => ?_)
  refine o_step rfl rfl rfl rfl rfl (s_app tok (⟨1 + 2 * g.nodes, g.log, 4, 1⟩ : Reg).cells rfl (fun E w hm => ownsRow_src (hm.row _ _ _ _ _ rfl)) (fun _ _ _ => by simpa using reg_ones [(⟨1 + 2 * g.nodes, g.log, 4, 1⟩ : Reg)]) (by dsimp only; omega)) (fun _ _ => ?_)
  refine o_store tok rfl rfl rfl (by first | (repeat' first | exact trivial | exact rfl | apply And.intro); done | simp [onesP, oneP, lk, Value.oneCell']) ?_
  refine o_end [3, 8] rfl ?_
  refine x_then (c_region ?_)
  iterate 2 refine yO rfl rfl rfl rfl ?_
  refine o_call (.a (.v _)) rfl rfl fnok81 rfl rfl rfl (fun hg E w1 hm => by exact stretchEnd_c _ _ _) ?_
  refine o_store tok rfl rfl rfl (by first | (repeat' first | exact trivial | exact rfl | apply And.intro); done | simp [onesP, oneP, lk, Value.oneCell']) ?_
  refine o_end [] rfl ?_
  refine b_end tok rfl ?_
  rw [show IntKind.i64.wrap ((1 + 2 * g.nodes) + g.log) = 1 + 2 * g.nodes + g.log by rw [wrapI (by omega) (by omega)]; try omega]
  intro E1 w1 hm1 hok1
  refine inl_end (E := E) hm1 hok1 rfl rfl (by repeat (first | exact KeepsIn.zero | refine KeepsIn.succ rfl ?_)) rfl (by repeat (first | exact oN | refine oC rfl ?_)) rfl ?_
  clear hm1 hok1 w1 E1 E
  refine k_swap 3 10 rfl ?_
  refine weaken (l := [(1, .a (.ptr 0 0)), (2, .a (.ptr 1 0)), (4, .a (.fn 80 [(2, 0), (1, 0)]))]) (O' := [(0, .lit (g.cells.map .v) 23), (1, .lit [.row 3] 118), (2, .lit [.v (I (1 + 2 * g.nodes + g.log))] 3), (3, .row 111 4 4 (((regs g).take 4).flatMap Reg.cells))]) (nl' := 4) ?_ (by repeat (first | exact fN | refine fC rfl ?_)) (by repeat (first | exact oN | refine oC rfl ?_)) rfl (Vw.le.refl _)
  refine o_end [1, 2, 4] rfl ?_
  refine x_then (c_seq (c_region ?_))
  iterate 6 refine yO rfl rfl rfl rfl ?_
  refine o_inl rfl rfl rfl rfl rfl fnok80 Tryz.func80 rfl rfl rfl (fun E => ?_)
  refine c_seq (c_region ?_)
  iterate 8 refine yO rfl rfl rfl rfl ?_
  refine o_new tok rfl rfl rfl rfl ?_
  refine o_store tok rfl rfl rfl (by first | (repeat' first | exact trivial | exact rfl | apply And.intro); done | simp [onesP, oneP, lk, Value.oneCell']) ?_
  refine o_end [3, 4, 8] rfl ?_
  refine x_then (c_seq (c_region ?_))
  iterate 2 refine yO rfl rfl rfl rfl ?_
  rw [wrapI (n := 1 + g.journal) (by omega) (by omega)]
  rw [show IntKind.i64.wrap (g.slots * (1 + g.journal)) = g.slots * (1 + g.journal) by rw [wrapI (by omega) (by omega)]; try omega]
  refine o_step rfl rfl rfl rfl rfl (s_bs tok 4 rfl rfl rfl) (fun _ _ => ?_)
  refine o_step rfl rfl rfl rfl rfl (s_app tok (⟨1 + 2 * g.nodes + g.log, g.slots * (1 + g.journal), 6, 1 + g.journal⟩ : Reg).cells rfl (fun E w hm => ownsRow_src (hm.row _ _ _ _ _ rfl)) (fun _ _ _ => by simpa using reg_ones [(⟨1 + 2 * g.nodes + g.log, g.slots * (1 + g.journal), 6, 1 + g.journal⟩ : Reg)]) (by dsimp only; omega)) (fun _ _ => ?_)
  refine o_store tok rfl rfl rfl (by first | (repeat' first | exact trivial | exact rfl | apply And.intro); done | simp [onesP, oneP, lk, Value.oneCell']) ?_
  refine o_end [3, 8] rfl ?_
  refine x_then (c_region ?_)
  iterate 2 refine yO rfl rfl rfl rfl ?_
  refine o_call (.a (.v _)) rfl rfl fnok81 rfl rfl rfl (fun hg E w1 hm => by exact stretchEnd_c _ _ _) ?_
  refine o_store tok rfl rfl rfl (by first | (repeat' first | exact trivial | exact rfl | apply And.intro); done | simp [onesP, oneP, lk, Value.oneCell']) ?_
  refine o_end [] rfl ?_
  refine b_end tok rfl ?_
  rw [show IntKind.i64.wrap ((1 + 2 * g.nodes + g.log) + g.slots * (1 + g.journal)) = dataAt g by rw [wrapI (by omega) (by omega)]; try omega]
  intro E1 w1 hm1 hok1
  refine inl_end (E := E) hm1 hok1 rfl rfl (by repeat (first | exact KeepsIn.zero | refine KeepsIn.succ rfl ?_)) rfl (by repeat (first | exact oN | refine oC rfl ?_)) rfl ?_
  clear hm1 hok1 w1 E1 E
  refine k_swap 3 10 rfl ?_
  refine weaken (l := [(1, .a (.ptr 0 0)), (2, .a (.ptr 1 0)), (4, .a (.fn 80 [(2, 0), (1, 0)]))]) (O' := [(0, .lit (g.cells.map .v) 23), (1, .lit [.row 3] 118), (2, .lit [.v (I (dataAt g))] 3), (3, .row 111 4 5 (((regs g).take 5).flatMap Reg.cells))]) (nl' := 4) ?_ (by repeat (first | exact fN | refine fC rfl ?_)) (by repeat (first | exact oN | refine oC rfl ?_)) rfl (Vw.le.refl _)
  refine o_end [1, 2, 4] rfl ?_
  refine x_then (c_seq (c_region ?_))
  iterate 5 refine yO rfl rfl rfl rfl ?_
  refine o_inl rfl rfl rfl rfl rfl fnok80 Tryz.func80 rfl rfl rfl (fun E => ?_)
  refine c_seq (c_region ?_)
  iterate 8 refine yO rfl rfl rfl rfl ?_
  refine o_new tok rfl rfl rfl rfl ?_
  refine o_store tok rfl rfl rfl (by first | (repeat' first | exact trivial | exact rfl | apply And.intro); done | simp [onesP, oneP, lk, Value.oneCell']) ?_
  refine o_end [3, 4, 8] rfl ?_
  refine x_then (c_seq (c_region ?_))
  iterate 2 refine yO rfl rfl rfl rfl ?_
  rw [show IntKind.i64.wrap (g.blocks * g.per) = g.blocks * g.per by rw [wrapI (by omega) (by omega)]; try omega]
  refine o_step rfl rfl rfl rfl rfl (s_bs tok 4 rfl rfl rfl) (fun _ _ => ?_)
  refine o_step rfl rfl rfl rfl rfl (s_app tok (⟨dataAt g, g.blocks * g.per, 7, g.per⟩ : Reg).cells rfl (fun E w hm => ownsRow_src (hm.row _ _ _ _ _ rfl)) (fun _ _ _ => by simpa using reg_ones [(⟨dataAt g, g.blocks * g.per, 7, g.per⟩ : Reg)]) (by dsimp only; omega)) (fun _ _ => ?_)
  refine o_store tok rfl rfl rfl (by first | (repeat' first | exact trivial | exact rfl | apply And.intro); done | simp [onesP, oneP, lk, Value.oneCell']) ?_
  refine o_end [3, 8] rfl ?_
  refine x_then (c_region ?_)
  iterate 2 refine yO rfl rfl rfl rfl ?_
  refine o_call (.a (.v _)) rfl rfl fnok81 rfl rfl rfl (fun hg E w1 hm => by exact stretchEnd_c _ _ _) ?_
  refine o_store tok rfl rfl rfl (by first | (repeat' first | exact trivial | exact rfl | apply And.intro); done | simp [onesP, oneP, lk, Value.oneCell']) ?_
  refine o_end [] rfl ?_
  refine b_end tok rfl ?_
  rw [show IntKind.i64.wrap (dataAt g + g.blocks * g.per) = dataAt g + g.blocks * g.per by rw [wrapI (by omega) (by omega)]; try omega]
  intro E1 w1 hm1 hok1
  refine inl_end (E := E) hm1 hok1 rfl rfl (by repeat (first | exact KeepsIn.zero | refine KeepsIn.succ rfl ?_)) rfl (by repeat (first | exact oN | refine oC rfl ?_)) rfl ?_
  clear hm1 hok1 w1 E1 E
  refine o_end [2] rfl ?_
  refine x_then (c_seq (c_region ?_))
  refine yO rfl rfl rfl rfl ?_
  refine o_store tok rfl rfl rfl (by first | (repeat' first | exact trivial | exact rfl | apply And.intro); done | simp [onesP, oneP, lk, Value.oneCell']) ?_
  refine o_end [2] rfl ?_
  refine x_then (c_ret ?_)
  refine b_ret tok rfl ?_
  intro E w' hm _
  refine ⟨.inl ⟨hgeo, E.κ 10, rfl, ?_⟩, hm.below (Vw.le.refl _)⟩
  have hrow := hm.rowFresh (Vw.le.refl _) (l := 10) rfl
  simpa [regs] using hrow
def regL (g : Geo) : List Reg := if geoB g = true then regs g else []
theorem regions_cV (V : Vw) (g : Geo) (ok : g.Ok) (w : World) (hV : V.le (vw w)) :
  Calls Tryz.prog 69 #[g.val] w fun e w' => ∃ x V', e = .returned x ∧ Below w.heap.size w w' ∧ Vext w.heap.size V V' w' ∧ SlOf V' Reg.cells 4 x (regL g) := by
 refine (regions_c g ok w).mono ?_
 rintro e w' ⟨⟨h, v, rfl, hown⟩ | ⟨h, rfl⟩, hb⟩
 ·
  obtain ⟨V', hx, hsl⟩ := ownsRow_vext hV hb hown
  exact ⟨_, V', rfl, hb, hx, by rw [regL, if_pos h]; exact ⟨hsl, fun _ => rfl⟩⟩
 · exact ⟨_, V, rfl, hb, Vext.same hV hb, by rw [regL, if_neg (by simp [h])]; exact slNil V Reg.cells 4 0 (fun _ => rfl)⟩
def findR (k : Int) : List Reg → Reg
 | [] => ⟨0, 0, 0, 1⟩
 | r :: t => if r.kind = k then r else findR k t
theorem find_c (g : Geo) (ok : g.Ok) (k : Int) (w : World) : Calls Tryz.prog 55 #[g.val, I8 k] w fun e w' => e = .returned (findR k (regL g)).val ∧ Below w.heap.size w w' := by
 refine enter (E := E0) (O := []) (nl := 0) (V := vw w) [.a (.v g.val), .a (.v (I8 k))] Tryz.func55 rfl rfl (mem0 E0 0 w) rfl rfl ?_
 refine c_seq (c_region ?_)
 iterate 2 refine o_new tok rfl rfl rfl rfl ?_
 refine o_end [1, 2, 4] rfl ?_
 refine x_then (c_seq (c_seq (c_region ?_)))
 refine yO rfl rfl rfl rfl ?_
 refine o_callV (fun x V' => SlOf V' Reg.cells 4 x (regL g)) rfl rfl fnok69 rfl rfl (fun hg E w1 hm => by exact regions_cV (vw w) g ok _ hm.leV) ?_
 rintro x V1 hle1 hx
 have hs := hx rfl
 clear hx
 refine o_yield rfl rfl rfl (y_len tok rfl (fun hg => hs.sl)) ?_
 refine yO rfl rfl rfl rfl ?_
 refine o_end [1, 4, 8, 9, 10] rfl ?_
 refine x_then (c_block ?_)
 have hl6 : (regL g).length ≤ 6 := by unfold regL; split <;> simp [regs]
 refine c_loopV [1, 4, 8, 9] [] rfl rfl (σ := Nat) (fun i => [(10, .a (.v (I i)))]) (fun i => []) (fun i => V1) (fun i => i ≤ (regL g).length ∧ findR k (regL g) = findR k ((regL g).drop i)) (fun i => (regL g).length - i) (0) (⟨by omega, rfl⟩) (by repeat (first | exact fN | refine fC rfl ?_)) (by repeat (first | exact oN | refine oC rfl ?_)) rfl (Vw.le.refl _) ?_
 rintro i ⟨hi, heq⟩
 refine c_seq (c_region ?_)
 refine yO rfl rfl rfl rfl ?_
 refine o_end [1, 4, 8, 9, 10, 11] rfl ?_
 refine x_then (c_seq ?_)
 refine c_cond rfl (fun h => ?_) (fun h => ?_)
 ·
  simp only [Xa, Xb, Xc, Xd, Xe, Xf, Xg, Xh, Xi, Xj, Xk, Xl, Xm, Xn, Xo, Xp] at h
  refine c_skip (x_then (c_seq (c_block (c_seq (c_region ?_)))))
  obtain ⟨r, h_r⟩ := hs.at (k := i) (by omega)
  rw [drop_at h_r, findR] at heq
  have hlt_r := lt_of_at h_r
  refine o_yield rfl rfl rfl (y_idx tok rfl (fun hg => hs.sl) (fun hg => ⟨by omega, by omega⟩)) ?_
  refine o_yield rfl rfl rfl (y_lel tok (i) 0 (r) rfl (fun hg => hs) (fun hg => h_r) rfl rfl) ?_
  refine o_new tok rfl rfl rfl rfl ?_
  refine o_store tok rfl rfl rfl (by first | (repeat' first | exact trivial | exact rfl | apply And.intro); done | simp [onesP, oneP, lk, Value.oneCell']) ?_
  refine o_end [1, 4, 6, 8, 9, 10] rfl ?_
  refine x_then (c_seq (c_region ?_))
  iterate 4 refine yO rfl rfl rfl rfl ?_
  refine o_end [1, 4, 6, 8, 9, 10, 17] rfl ?_
  refine x_then ?_
  refine c_cond rfl (fun h => ?_) (fun h => ?_)
  ·
   simp only [Xa, Xb, Xc, Xd, Xe, Xf, Xg, Xh, Xi, Xj, Xk, Xl, Xm, Xn, Xo, Xp] at h
   refine c_seq (c_region ?_)
   refine yO rfl rfl rfl rfl ?_
   refine o_store tok rfl rfl rfl (by first | (repeat' first | exact trivial | exact rfl | apply And.intro); done | simp [onesP, oneP, lk, Value.oneCell']) ?_
   refine o_end [4] rfl ?_
   refine x_then (c_ret (x_block_ret (x_then_ret (x_then_ret (x_block_ret ?_)))))
   refine x_then_ret ?_
   refine b_ret tok rfl ?_
   rw [if_pos h] at heq
   intro E w' hm _
   refine ⟨?_, hm.below (hle1)⟩
   rw [heq]; rfl
  ·
   simp only [Xa, Xb, Xc, Xd, Xe, Xf, Xg, Xh, Xi, Xj, Xk, Xl, Xm, Xn, Xo, Xp] at h
   refine c_skip (x_block (x_then (c_region ?_)))
   iterate 2 refine yO rfl rfl rfl rfl ?_
   refine o_end [1, 4, 8, 9, 10] rfl ?_
   refine x_then ?_
   rw [if_neg h] at heq
   rw [wrapI (n := (i : Int) + 1) (by omega) (by omega)]
   refine x_round (i + 1) (⟨by omega, heq⟩) (by first | omega | (dsimp only; omega)) (by repeat (first | exact fN | refine fC rfl ?_)) (by repeat (first | exact oN | refine oC rfl ?_)) rfl (Vw.le.refl _)
 ·
  simp only [Xa, Xb, Xc, Xd, Xe, Xf, Xg, Xh, Xi, Xj, Xk, Xl, Xm, Xn, Xo, Xp] at h
  refine c_exit (x_then_exit (x_then_exit (x_block_hit (x_then (c_seq ?_)))))
  refine c_region ?_
  refine yO rfl rfl rfl rfl ?_
  refine o_store tok rfl rfl rfl (by first | (repeat' first | exact trivial | exact rfl | apply And.intro); done | simp [onesP, oneP, lk, Value.oneCell']) ?_
  refine o_end [4] rfl ?_
  refine x_then (c_ret ?_)
  refine b_ret tok rfl ?_
  have hkL : i = (regL g).length := by omega
  subst hkL
  rw [List.drop_length, findR] at heq
  intro E w' hm _
  refine ⟨?_, hm.below (hle1)⟩
  rw [heq]; rfl
theorem of_c' (g : Geo) (ok : g.Ok) (kd i k : Int) (r : Reg) (hr : findR kd (regL g) = r) (m : Int) (hm0 : 0 ≤ m) (hm : r.many = m * r.per) (hp : 1 ≤ r.per) (hb : m * r.per ≤ 4096) (hf : 0 ≤ r.first) (hf2 : r.first ≤ 4096) (v : Int) (hv : v = if i < 0 ∨ m ≤ i ∨ k < 0 ∨ r.per ≤ k then -1 else r.first + i * r.per + k) (w : World) :
  Calls Tryz.prog 48 #[g.val, I8 kd, I i, I k] w fun e w' => e = .returned (I v) ∧ Below w.heap.size w w' := by
 have hq : r.many.tdiv r.per = m := by rw [hm]; exact Int.mul_tdiv_cancel m (by omega)
 have hpb : r.per ≤ m * r.per ∨ m = 0 := by
  by_cases h : m = 0
  · exact .inr h
  ·
   left
   have := Int.mul_le_mul_of_nonneg_right (show 1 ≤ m by omega) (show 0 ≤ r.per by omega)
   omega
 have hmb : m ≤ m * r.per := by
  have := Int.mul_le_mul_of_nonneg_left hp hm0
  omega
 refine enter (E := E0) (O := []) (nl := 0) (V := vw w) [.a (.v g.val), .a (.v (I8 kd)), .a (.v (I i)), .a (.v (I k))] Tryz.func48 rfl rfl (mem0 E0 0 w) rfl rfl ?_
 refine c_seq (c_region ?_)
 refine o_new tok rfl rfl rfl rfl ?_
 refine yO rfl rfl rfl rfl ?_
 refine o_end [1, 2, 3, 4] rfl ?_
 refine x_then (c_seq (c_region ?_))
 iterate 2 refine yO rfl rfl rfl rfl ?_
 refine o_call (.a (.v _)) rfl rfl fnok55 rfl rfl rfl (fun hg E w1 hm => by exact find_c g ok kd _) ?_
 refine o_new tok rfl rfl rfl rfl ?_
 refine o_store tok rfl rfl rfl (by first | (repeat' first | exact trivial | exact rfl | apply And.intro); done | simp [onesP, oneP, lk, Value.oneCell']) ?_
 refine o_end [2, 3, 9] rfl ?_
 refine x_then (c_seq (c_seq (c_region ?_)))
 iterate 9 refine yO rfl rfl rfl rfl ?_
 rw [hr]
 have hqw : IntKind.i64.wrap (r.many.tdiv r.per) = m := by rw [hq, wrapI (by omega) (by omega)]
 refine o_yield rfl rfl rfl (y_quo rfl (fun hg => by omega)) ?_
 iterate 12 refine yO rfl rfl rfl rfl ?_
 refine o_end [2, 3, 9, 34] rfl ?_
 refine x_then ?_
 refine c_cond rfl (fun h => ?_) (fun h => ?_)
 ·
  simp only [Xa, Xb, Xc, Xd, Xe, Xf, Xg, Xh, Xi, Xj, Xk, Xl, Xm, Xn, Xo, Xp] at h
  refine c_seq (c_region ?_)
  refine yO rfl rfl rfl rfl ?_
  refine o_end [8] rfl ?_
  refine x_then (c_ret (x_then_ret ?_))
  refine b_ret tok rfl ?_
  intro E w' hm _
  refine ⟨?_, hm.below (Vw.le.refl _)⟩
  rw [hv, if_pos (by omega)]; rfl
 ·
  simp only [Xa, Xb, Xc, Xd, Xe, Xf, Xg, Xh, Xi, Xj, Xk, Xl, Xm, Xn, Xo, Xp] at h
  refine c_skip (x_then (c_seq (c_region ?_)))
  iterate 8 refine yO rfl rfl rfl rfl ?_
  have hik := prod_bound (a := i) (b := r.per) (A := m) (B := r.per) (by omega) (by omega) (by omega) (by omega)
  have h2 : i * r.per + r.per ≤ m * r.per := by
   have := Int.mul_le_mul_of_nonneg_right (show i + 1 ≤ m by omega) (show 0 ≤ r.per by omega)
   rw [Int.add_mul, Int.one_mul] at this
   exact this
  rw [wrapI (n := i * r.per) (by omega) (by omega), wrapI (n := i * r.per + k) (by omega) (by omega)]
  refine o_call (.a (.v _)) rfl rfl fnok56 rfl rfl rfl (fun hg E w1 hm => by exact stretchAt_c r.first r.many _ _) ?_
  refine yO rfl rfl rfl rfl ?_
  refine o_end [8] rfl ?_
  refine x_then (c_ret ?_)
  refine b_ret tok rfl ?_
  intro E w' hm _
  refine ⟨?_, hm.below (Vw.le.refl _)⟩
  rw [hv, if_neg (by omega), if_neg (by omega), wrapI (by omega) (by omega), Int.add_assoc]; rfl
def dataV (g : Geo) (b k : Int) : Int := if geoB g = true ∧ 0 ≤ b ∧ b < g.blocks ∧ 0 ≤ k ∧ k < g.per then dataAt g + b * g.per + k else -1
def headV (g : Geo) (s : Int) : Int := if geoB g = true ∧ 0 ≤ s ∧ s < g.slots then 1 + 2 * g.nodes + g.log + s * (1 + g.journal) else -1
def jourV (g : Geo) (s lsn : Int) : Int := if headV g s < 0 ∨ lsn < 0 then -1 else headV g s + 1 + lsn % g.journal
def totV (g : Geo) : Int := if geoB g = true then dataAt g + g.blocks * g.per else 0
theorem find_data (g : Geo) : findR 7 (regL g) = if geoB g = true then ⟨dataAt g, g.blocks * g.per, 7, g.per⟩ else ⟨0, 0, 0, 1⟩ := by
 unfold regL
 split <;> simp [regs, findR]
theorem find_jour (g : Geo) : findR 6 (regL g) = if geoB g = true then ⟨1 + 2 * g.nodes + g.log, g.slots * (1 + g.journal), 6, 1 + g.journal⟩ else ⟨0, 0, 0, 1⟩ := by
 unfold regL
 split <;> simp [regs, findR]
theorem geo_sizes {g : Geo} (h : geoB g = true) : 0 ≤ g.slots * (1 + g.journal) ∧ g.slots * (1 + g.journal) ≤ 1040 ∧ 0 ≤ g.blocks * g.per ∧ g.blocks * g.per ≤ 512 ∧ 1 ≤ dataAt g ∧ dataAt g ≤ 1585 := by
 have hf := geo_facts h
 have hs := prod_bound (a := g.slots) (b := 1 + g.journal) (A := 16) (B := 65) (by omega) (by omega) (by omega) (by omega)
 have hb := prod_bound (a := g.blocks) (b := g.per) (A := 64) (B := 8) (by omega) (by omega) (by omega) (by omega)
 unfold dataAt
 omega
theorem data_c (g : Geo) (ok : g.Ok) (b k : Int) (w : World) : Calls Tryz.prog 97 #[g.val, I b, I k] w fun e w' => e = .returned (I (dataV g b k)) ∧ Below w.heap.size w w' := by
 refine enter (E := E0) (O := []) (nl := 0) (V := vw w) [.a (.v g.val), .a (.v (I b)), .a (.v (I k))] Tryz.func97 rfl rfl (mem0 E0 0 w) rfl rfl ?_
 refine c_seq (c_region ?_)
 refine o_new tok rfl rfl rfl rfl ?_
 refine yO rfl rfl rfl rfl ?_
 refine o_end [1, 2, 3] rfl ?_
 refine x_then (c_seq (c_region ?_))
 iterate 3 refine yO rfl rfl rfl rfl ?_
 cases hgg : geoB g with
 | false =>
  have hr := find_data g
  rw [if_neg (by simp [hgg])] at hr
  refine o_call (.a (.v _)) rfl rfl fnok48 rfl rfl rfl (fun hg E w1 hm => by exact of_c' g ok 7 b k _ hr 0 (by omega) (by simp) (by simp) (by simp) (by simp) (by simp) (dataV g b k) (by rw [dataV, if_neg (by simp [hgg]), if_pos (by dsimp only; omega)]) _) ?_
  refine yO rfl rfl rfl rfl ?_
  refine o_end [6] rfl ?_
  refine x_then (c_ret ?_)
  refine b_ret tok rfl ?_
  intro E w' hm _
  refine ⟨?_, hm.below (Vw.le.refl _)⟩
  rfl
 | true =>
  have hr := find_data g
  rw [if_pos hgg] at hr
  have hf := geo_facts hgg
  have hz := geo_sizes hgg
  have hv : dataV g b k = if b < 0 ∨ g.blocks ≤ b ∨ k < 0 ∨ g.per ≤ k then -1 else dataAt g + b * g.per + k := by
   unfold dataV
   by_cases h : 0 ≤ b ∧ b < g.blocks ∧ 0 ≤ k ∧ k < g.per
   · rw [if_pos ⟨hgg, h⟩, if_neg (by omega)]
   · rw [if_neg (by rintro ⟨_, hc⟩; exact h hc), if_pos (by omega)]
  refine o_call (.a (.v _)) rfl rfl fnok48 rfl rfl rfl (fun hg E w1 hm => by exact of_c' g ok 7 b k _ hr g.blocks (by omega) rfl (by dsimp only; omega) (by dsimp only; omega) (by dsimp only; omega) (by dsimp only; omega) _ hv _) ?_
  refine yO rfl rfl rfl rfl ?_
  refine o_end [6] rfl ?_
  refine x_then (c_ret ?_)
  refine b_ret tok rfl ?_
  intro E w' hm _
  refine ⟨?_, hm.below (Vw.le.refl _)⟩
  rfl
theorem head_c (g : Geo) (ok : g.Ok) (s : Int) (w : World) : Calls Tryz.prog 38 #[g.val, I s] w fun e w' => e = .returned (I (headV g s)) ∧ Below w.heap.size w w' := by
 refine enter (E := E0) (O := []) (nl := 0) (V := vw w) [.a (.v g.val), .a (.v (I s))] Tryz.func38 rfl rfl (mem0 E0 0 w) rfl rfl ?_
 refine c_seq (c_region ?_)
 refine o_new tok rfl rfl rfl rfl ?_
 refine yO rfl rfl rfl rfl ?_
 refine o_end [1, 2] rfl ?_
 refine x_then (c_seq (c_region ?_))
 iterate 2 refine yO rfl rfl rfl rfl ?_
 cases hgg : geoB g with
 | false =>
  have hr := find_jour g
  rw [if_neg (by simp [hgg])] at hr
  refine o_call (.a (.v _)) rfl rfl fnok48 rfl rfl rfl (fun hg E w1 hm => by exact of_c' g ok 6 s 0 _ hr 0 (by omega) (by simp) (by simp) (by simp) (by simp) (by simp) (headV g s) (by rw [headV, if_neg (by simp [hgg]), if_pos (by dsimp only; omega)]) _) ?_
  refine yO rfl rfl rfl rfl ?_
  refine o_end [4] rfl ?_
  refine x_then (c_ret ?_)
  refine b_ret tok rfl ?_
  intro E w' hm _
  refine ⟨?_, hm.below (Vw.le.refl _)⟩
  rfl
 | true =>
  have hr := find_jour g
  rw [if_pos hgg] at hr
  have hf := geo_facts hgg
  have hz := geo_sizes hgg
  have hv : headV g s = if s < 0 ∨ g.slots ≤ s ∨ (0 : Int) < 0 ∨ 1 + g.journal ≤ 0 then -1 else 1 + 2 * g.nodes + g.log + s * (1 + g.journal) + 0 := by
   unfold headV
   by_cases h : 0 ≤ s ∧ s < g.slots
   · rw [if_pos ⟨hgg, h⟩, if_neg (by omega), Int.add_zero]
   · rw [if_neg (by rintro ⟨_, hc⟩; exact h hc), if_pos (by omega)]
  refine o_call (.a (.v _)) rfl rfl fnok48 rfl rfl rfl (fun hg E w1 hm => by exact of_c' g ok 6 s 0 _ hr g.slots (by omega) rfl (by dsimp only; omega) (by dsimp only; omega) (by dsimp only; omega) (by dsimp only; omega) _ hv _) ?_
  refine yO rfl rfl rfl rfl ?_
  refine o_end [4] rfl ?_
  refine x_then (c_ret ?_)
  refine b_ret tok rfl ?_
  intro E w' hm _
  refine ⟨?_, hm.below (Vw.le.refl _)⟩
  rfl
theorem head_geo {g : Geo} {s : Int} (h : 0 ≤ headV g s) : geoB g = true ∧ 0 ≤ s ∧ s < g.slots := by
 unfold headV at h
 split at h
 · assumption
 · omega
theorem tmod_bounds {a b : Int} (ha : 0 ≤ a) (hb : 0 < b) : a.tmod b = a % b ∧ 0 ≤ a % b ∧ a % b < b :=
 ⟨Int.tmod_eq_emod_of_nonneg ha, Int.emod_nonneg _ (by omega), Int.emod_lt_of_pos _ hb⟩
theorem jour_c (g : Geo) (ok : g.Ok) (s lsn : Int) (w : World) : Calls Tryz.prog 72 #[g.val, I s, I lsn] w fun e w' => e = .returned (I (jourV g s lsn)) ∧ Below w.heap.size w w' := by
 refine enter (E := E0) (O := []) (nl := 0) (V := vw w) [.a (.v g.val), .a (.v (I s)), .a (.v (I lsn))] Tryz.func72 rfl rfl (mem0 E0 0 w) rfl rfl ?_
 refine c_seq (c_region ?_)
 refine o_new tok rfl rfl rfl rfl ?_
 refine yO rfl rfl rfl rfl ?_
 refine o_end [1, 2, 3] rfl ?_
 refine x_then (c_seq (c_seq (c_region ?_)))
 iterate 5 refine yO rfl rfl rfl rfl ?_
 refine o_call (.a (.v _)) rfl rfl fnok38 rfl rfl rfl (fun hg E w1 hm => by exact head_c g ok s _) ?_
 iterate 2 refine yO rfl rfl rfl rfl ?_
 refine o_end [1, 2, 3, 14] rfl ?_
 refine x_then ?_
 refine c_cond rfl (fun h => ?_) (fun h => ?_)
 ·
  simp only [Xa, Xb, Xc, Xd, Xe, Xf, Xg, Xh, Xi, Xj, Xk, Xl, Xm, Xn, Xo, Xp] at h
  refine c_seq (c_region ?_)
  refine yO rfl rfl rfl rfl ?_
  refine o_end [6] rfl ?_
  refine x_then (c_ret (x_then_ret ?_))
  refine b_ret tok rfl ?_
  intro E w' hm _
  refine ⟨?_, hm.below (Vw.le.refl _)⟩
  rw [jourV, if_pos (by omega)]; rfl
 ·
  simp only [Xa, Xb, Xc, Xd, Xe, Xf, Xg, Xh, Xi, Xj, Xk, Xl, Xm, Xn, Xo, Xp] at h
  obtain ⟨hgg, h1, h2⟩ := head_geo (g := g) (s := s) (by omega)
  have hf := geo_facts hgg
  have hz := geo_sizes hgg
  obtain ⟨e1, e2, e3⟩ := tmod_bounds (a := lsn) (b := g.journal) (by omega) (by omega)
  have hh : headV g s = 1 + 2 * g.nodes + g.log + s * (1 + g.journal) := by rw [headV, if_pos ⟨hgg, h1, h2⟩]
  have hr := find_jour g
  rw [if_pos hgg] at hr
  refine c_skip (x_then (c_seq ?_))
  refine c_draw mixed (by kernel_rfl) ?_
  iterate 5 refine d_yield rfl rfl rfl (yV rfl) rfl ?_
  refine d_yield rfl rfl rfl (y_rem rfl (fun hg => by omega)) rfl ?_
  refine d_yield rfl rfl rfl (yV rfl) rfl ?_
  rw [e1, wrapI (n := 1 + lsn % g.journal) (by omega) (by omega)]
  have hv : jourV g s lsn = if s < 0 ∨ g.slots ≤ s ∨ 1 + lsn % g.journal < 0 ∨ 1 + g.journal ≤ 1 + lsn % g.journal then -1 else 1 + 2 * g.nodes + g.log + s * (1 + g.journal) + (1 + lsn % g.journal) := by
   rw [jourV, if_neg (by omega), hh, if_neg (by omega), ← Int.add_assoc]
  refine d_call (.a (.v _)) rfl rfl fnok48 rfl rfl rfl (fun hg E w1 hm => by exact of_c' g ok 6 s (1 + lsn % g.journal) _ hr g.slots (by omega) rfl (by dsimp only; omega) (by dsimp only; omega) (by dsimp only; omega) (by dsimp only; omega) _ hv _) ?_
  refine d_yield rfl rfl rfl (yV rfl) rfl ?_
  refine d_end [6] rfl ?_
  refine x_then (c_ret ?_)
  refine b_ret tok rfl ?_
  intro E w' hm _
  refine ⟨?_, hm.below (Vw.le.refl _)⟩
  rfl
/-! The document's. -/
theorem inB_iff (n a b : Int) : inB n a b = decide (a ≤ n ∧ n ≤ b) := by
 unfold inB; rw [Bool.eq_iff_iff]; simp
theorem refHead_c (g : Geo) (ok : g.Ok) (s : Int) (w : World) : Calls Tryz.prog 26 #[g.val, I s] w fun e w' => e = .returned (I (headV g s)) ∧ Below w.heap.size w w' := by
 refine enter (E := E0) (O := []) (nl := 0) (V := vw w) [.a (.v g.val), .a (.v (I s))] Tryz.func26 rfl rfl (mem0 E0 0 w) rfl rfl ?_
 refine c_seq (c_region ?_)
 refine o_new tok rfl rfl rfl rfl ?_
 refine yO rfl rfl rfl rfl ?_
 refine o_end [1, 2] rfl ?_
 refine x_then (c_seq (c_seq (c_region ?_)))
 refine yO rfl rfl rfl rfl ?_
 refine o_call (.a (.v _)) rfl rfl fnok4 rfl rfl rfl (fun hg E w1 hm => by exact refMay_c g ok _) ?_
 iterate 6 refine yO rfl rfl rfl rfl ?_
 refine o_call (.a (.v _)) rfl rfl fnok18 rfl rfl rfl (fun hg E w1 hm => by exact in_c _ _ _ _) ?_
 iterate 2 refine yO rfl rfl rfl rfl ?_
 refine o_end [1, 2, 15] rfl ?_
 refine x_then ?_
 refine c_cond rfl (fun h => ?_) (fun h => ?_)
 ·
  refine c_seq (c_region ?_)
  refine yO rfl rfl rfl rfl ?_
  refine o_end [4] rfl ?_
  refine x_then (c_ret (x_then_ret ?_))
  refine b_ret tok rfl ?_
  rw [inB_iff] at h
  simp only [Bool.or_eq_true, Bool.not_eq_true', decide_eq_false_iff_not] at h
  intro E w' hm _
  refine ⟨?_, hm.below (Vw.le.refl _)⟩
  rw [headV, if_neg]
  · rfl
  ·
   rintro ⟨h1, h2, h3⟩
   have hf := geo_facts h1
   rw [wrapI (by omega) (by omega)] at h
   rcases h with h | h
   · rw [h1] at h; cases h
   · omega
 ·
  rw [inB_iff] at h
  simp only [Bool.or_eq_false_iff, Bool.not_eq_false', decide_eq_true_eq] at h
  obtain ⟨hg, h1⟩ := h
  have hf := geo_facts hg
  have hz := geo_sizes hg
  rw [wrapI (by omega) (by omega)] at h1
  have hp := prod_bound (a := s) (b := 1 + g.journal) (A := 16) (B := 65) (by omega) (by omega) (by omega) (by omega)
  refine c_skip (x_then (c_seq (c_region ?_)))
  iterate 14 refine yO rfl rfl rfl rfl ?_
  refine o_end [4] rfl ?_
  refine x_then (c_ret ?_)
  refine b_ret tok rfl ?_
  intro E w' hm _
  refine ⟨?_, hm.below (Vw.le.refl _)⟩
  rw [headV, if_pos ⟨hg, by omega, by omega⟩, wrapI (n := 2 * g.nodes) (by omega) (by omega), wrapI (n := 1 + 2 * g.nodes) (by omega) (by omega), wrapI (n := 1 + 2 * g.nodes + g.log) (by omega) (by omega), wrapI (n := 1 + g.journal) (by omega) (by omega),
   wrapI (n := s * (1 + g.journal)) (by omega) (by omega), wrapI (by omega) (by omega)]
  rfl
theorem jour_le {g : Geo} {s : Int} (hh : 0 ≤ headV g s) : headV g s ≤ 1585 := by
 obtain ⟨hgg, h1, h2⟩ := head_geo hh
 have hf := geo_facts hgg
 have hz := geo_sizes hgg
 have hp := prod_bound (a := s) (b := 1 + g.journal) (A := 16) (B := 65) (by omega) (by omega) (by omega) (by omega)
 rw [headV, if_pos ⟨hgg, h1, h2⟩]
 omega
theorem refJour_c (g : Geo) (ok : g.Ok) (s lsn : Int) (w : World) : Calls Tryz.prog 27 #[g.val, I s, I lsn] w fun e w' => e = .returned (I (jourV g s lsn)) ∧ Below w.heap.size w w' := by
 refine enter (E := E0) (O := []) (nl := 0) (V := vw w) [.a (.v g.val), .a (.v (I s)), .a (.v (I lsn))] Tryz.func27 rfl rfl (mem0 E0 0 w) rfl rfl ?_
 refine c_seq (c_region ?_)
 refine o_new tok rfl rfl rfl rfl ?_
 refine yO rfl rfl rfl rfl ?_
 refine o_end [1, 2, 3] rfl ?_
 refine x_then (c_seq (c_seq (c_region ?_)))
 iterate 2 refine yO rfl rfl rfl rfl ?_
 refine o_call (.a (.v _)) rfl rfl fnok26 rfl rfl rfl (fun hg E w1 hm => by exact refHead_c g ok s _) ?_
 iterate 5 refine yO rfl rfl rfl rfl ?_
 refine o_end [1, 2, 3, 14] rfl ?_
 refine x_then ?_
 refine c_cond rfl (fun h => ?_) (fun h => ?_)
 ·
  simp only [Xa, Xb, Xc, Xd, Xe, Xf, Xg, Xh, Xi, Xj, Xk, Xl, Xm, Xn, Xo, Xp] at h
  refine c_seq (c_region ?_)
  refine yO rfl rfl rfl rfl ?_
  refine o_end [6] rfl ?_
  refine x_then (c_ret (x_then_ret ?_))
  refine b_ret tok rfl ?_
  intro E w' hm _
  refine ⟨?_, hm.below (Vw.le.refl _)⟩
  rw [jourV, if_pos (by omega)]; rfl
 ·
  simp only [Xa, Xb, Xc, Xd, Xe, Xf, Xg, Xh, Xi, Xj, Xk, Xl, Xm, Xn, Xo, Xp] at h
  obtain ⟨hgg, h1, h2⟩ := head_geo (g := g) (s := s) (by omega)
  have hf := geo_facts hgg
  have hj := jour_le (g := g) (s := s) (by omega)
  obtain ⟨e1, e2, e3⟩ := tmod_bounds (a := lsn) (b := g.journal) (by omega) (by omega)
  refine c_skip (x_then (c_seq ?_))
  refine c_draw mixed (by kernel_rfl) ?_
  iterate 2 refine d_yield rfl rfl rfl (yV rfl) rfl ?_
  refine d_call (.a (.v _)) rfl rfl fnok26 rfl rfl rfl (fun hg E w1 hm => by exact refHead_c g ok s _) ?_
  iterate 4 refine d_yield rfl rfl rfl (yV rfl) rfl ?_
  refine d_yield rfl rfl rfl (y_rem rfl (fun hg => by omega)) rfl ?_
  iterate 2 refine d_yield rfl rfl rfl (yV rfl) rfl ?_
  refine d_end [6] rfl ?_
  refine x_then (c_ret ?_)
  refine b_ret tok rfl ?_
  rw [e1, wrapI (n := headV g s + 1) (by omega) (by omega)]
  intro E w' hm _
  refine ⟨?_, hm.below (Vw.le.refl _)⟩
  rw [jourV, if_neg (by omega), wrapI (by omega) (by omega)]; rfl
theorem refData_c (g : Geo) (ok : g.Ok) (b k : Int) (w : World) : Calls Tryz.prog 19 #[g.val, I b, I k] w fun e w' => e = .returned (I (dataV g b k)) ∧ Below w.heap.size w w' := by
 refine enter (E := E0) (O := []) (nl := 0) (V := vw w) [.a (.v g.val), .a (.v (I b)), .a (.v (I k))] Tryz.func19 rfl rfl (mem0 E0 0 w) rfl rfl ?_
 refine c_seq (c_region ?_)
 refine o_new tok rfl rfl rfl rfl ?_
 refine yO rfl rfl rfl rfl ?_
 refine o_end [1, 2, 3] rfl ?_
 refine x_then (c_seq (c_seq (c_region ?_)))
 refine yO rfl rfl rfl rfl ?_
 refine o_call (.a (.v _)) rfl rfl fnok4 rfl rfl rfl (fun hg E w1 hm => by exact refMay_c g ok _) ?_
 iterate 6 refine yO rfl rfl rfl rfl ?_
 refine o_call (.a (.v _)) rfl rfl fnok18 rfl rfl rfl (fun hg E w1 hm => by exact in_c _ _ _ _) ?_
 iterate 7 refine yO rfl rfl rfl rfl ?_
 refine o_call (.a (.v _)) rfl rfl fnok18 rfl rfl rfl (fun hg E w1 hm => by exact in_c _ _ _ _) ?_
 iterate 2 refine yO rfl rfl rfl rfl ?_
 refine o_end [1, 2, 3, 25] rfl ?_
 refine x_then ?_
 refine c_cond rfl (fun h => ?_) (fun h => ?_)
 ·
  refine c_seq (c_region ?_)
  refine yO rfl rfl rfl rfl ?_
  refine o_end [6] rfl ?_
  refine x_then (c_ret (x_then_ret ?_))
  refine b_ret tok rfl ?_
  rw [inB_iff, inB_iff] at h
  simp only [Bool.or_eq_true, Bool.not_eq_true', decide_eq_false_iff_not] at h
  intro E w' hm _
  refine ⟨?_, hm.below (Vw.le.refl _)⟩
  rw [dataV, if_neg]
  · rfl
  ·
   rintro ⟨h1, h2⟩
   have hf := geo_facts h1
   rw [wrapI (by omega) (by omega), wrapI (by omega) (by omega), h1] at h
   simp only [Bool.true_eq_false, false_or] at h
   omega
 ·
  rw [inB_iff, inB_iff] at h
  simp only [Bool.or_eq_false_iff, Bool.not_eq_false', decide_eq_true_eq] at h
  obtain ⟨⟨hgg, h1⟩, h2⟩ := h
  have hf := geo_facts hgg
  have hz := geo_sizes hgg
  rw [wrapI (by omega) (by omega)] at h1 h2
  have hp := prod_bound (a := b) (b := g.per) (A := 64) (B := 8) (by omega) (by omega) (by omega) (by omega)
  have hda : dataAt g = 1 + 2 * g.nodes + g.log + g.slots * (1 + g.journal) := rfl
  refine c_skip (x_then (c_seq (c_region ?_)))
  iterate 22 refine yO rfl rfl rfl rfl ?_
  refine o_end [6] rfl ?_
  refine x_then (c_ret ?_)
  refine b_ret tok rfl ?_
  intro E w' hm _
  refine ⟨?_, hm.below (Vw.le.refl _)⟩
  rw [dataV, if_pos ⟨hgg, by omega, by omega, by omega, by omega⟩, wrapI (n := 2 * g.nodes) (by omega) (by omega), wrapI (n := 1 + 2 * g.nodes) (by omega) (by omega), wrapI (n := 1 + 2 * g.nodes + g.log) (by omega) (by omega), wrapI (n := 1 + g.journal) (by omega) (by omega),
   wrapI (n := g.slots * (1 + g.journal)) (by omega) (by omega), wrapI (n := 1 + 2 * g.nodes + g.log + g.slots * (1 + g.journal)) (by omega) (by omega), ← hda, wrapI (n := b * g.per) (by omega) (by omega), wrapI (n := dataAt g + b * g.per) (by omega) (by omega), wrapI (by omega) (by omega)]
  rfl
theorem refTotal_c (g : Geo) (ok : g.Ok) (w : World) : Calls Tryz.prog 5 #[g.val] w fun e w' => e = .returned (I (totV g)) ∧ Below w.heap.size w w' := by
 refine enter (E := E0) (O := []) (nl := 0) (V := vw w) [.a (.v g.val)] Tryz.func5 rfl rfl (mem0 E0 0 w) rfl rfl ?_
 refine c_seq (c_region ?_)
 refine o_new tok rfl rfl rfl rfl ?_
 refine yO rfl rfl rfl rfl ?_
 refine o_end [1] rfl ?_
 refine x_then (c_seq (c_seq (c_region ?_)))
 refine yO rfl rfl rfl rfl ?_
 refine o_call (.a (.v _)) rfl rfl fnok4 rfl rfl rfl (fun hg E w1 hm => by exact refMay_c g ok _) ?_
 refine yO rfl rfl rfl rfl ?_
 refine o_end [1, 5] rfl ?_
 refine x_then ?_
 refine c_cond rfl (fun h => ?_) (fun h => ?_)
 ·
  simp only [Xa, Xb, Xc, Xd, Xe, Xf, Xg, Xh, Xi, Xj, Xk, Xl, Xm, Xn, Xo, Xp] at h
  refine c_seq (c_region ?_)
  refine yO rfl rfl rfl rfl ?_
  refine o_end [2] rfl ?_
  refine x_then (c_ret (x_then_ret ?_))
  refine b_ret tok rfl ?_
  intro E w' hm _
  refine ⟨?_, hm.below (Vw.le.refl _)⟩
  rw [totV, if_neg (by simp [h])]; rfl
 ·
  simp only [Xa, Xb, Xc, Xd, Xe, Xf, Xg, Xh, Xi, Xj, Xk, Xl, Xm, Xn, Xo, Xp] at h
  have hf := geo_facts h
  have hz := geo_sizes h
  refine c_skip (x_then (c_seq (c_region ?_)))
  iterate 7 refine yO rfl rfl rfl rfl ?_
  rw [wrapI (n := g.blocks - 1) (by omega) (by omega), wrapI (n := g.per - 1) (by omega) (by omega)]
  refine o_call (.a (.v _)) rfl rfl fnok19 rfl rfl rfl (fun hg E w1 hm => by exact refData_c g ok _ _ _) ?_
  iterate 2 refine yO rfl rfl rfl rfl ?_
  refine o_end [2] rfl ?_
  refine x_then (c_ret ?_)
  refine b_ret tok rfl ?_
  have hb := prod_bound (a := g.blocks) (b := g.per) (A := 64) (B := 8) (by omega) (by omega) (by omega) (by omega)
  have e : dataV g (g.blocks - 1) (g.per - 1) + 1 = totV g := by
   rw [dataV, if_pos ⟨h, by omega, by omega, by omega, by omega⟩, totV, if_pos h, Int.sub_mul, Int.one_mul]
   omega
  have ht : totV g ≤ 2097 ∧ 0 ≤ totV g := by rw [totV, if_pos h]; omega
  intro E w' hm _
  refine ⟨?_, hm.below (Vw.le.refl _)⟩
  rw [← e, wrapI (by omega) (by omega)]; rfl
def pieceAt (text : ByteArray) (k : Nat) : ByteArray := headOf (restAt text k)
def pieceL (per : Nat) (text : ByteArray) : List ByteArray := (List.range per).map (pieceAt text)
theorem str_ones (l : List ByteArray) : ∀ u ∈ l.flatMap encS, u.oneCell' = true := by
 intro u hu
 obtain ⟨x, _, hx⟩ := List.mem_flatMap.1 hu
 simp only [encS, List.mem_singleton] at hx
 subst hx
 rfl
def PcPost (g : Geo) (text : ByteArray) (w : World) (e : Ending) (w' : World) : Prop :=
 ((geoB g = true ∧ (text.size : Int) ≤ g.per * 256 ∧ ∃ v, e = .returned (.tuple #[v, I 0]) ∧ w'.ownsRow w.heap.size 9 1 v (pieceL g.per.toNat text).length ((pieceL g.per.toNat text).flatMap encS)) ∨
  (geoB g = false ∧ e = .returned (.tuple #[.slice none 0 0, I 2])) ∨ (geoB g = true ∧ g.per * 256 < (text.size : Int) ∧ e = .returned (.tuple #[.slice none 0 0, I 60]))) ∧ Below w.heap.size w w'
theorem pieces_c (g : Geo) (ok : g.Ok) (text : ByteArray) (w : World) (ht : text.size ≤ maxLen) : Calls Tryz.prog 96 #[g.val, S text] w (PcPost g text w) := by
 simp only [maxLen] at ht
 refine enter (E := E0) (O := []) (nl := 0) (V := vw w) [.a (.v g.val), .a (.v (S text))] Tryz.func96 rfl rfl (mem0 E0 0 w) rfl rfl ?_
 refine c_seq (c_region ?_)
 refine o_new tok rfl rfl rfl rfl ?_
 iterate 2 refine yO rfl rfl rfl rfl ?_
 refine o_end [1, 2] rfl ?_
 refine x_then (c_seq (c_seq (c_region ?_)))
 refine yO rfl rfl rfl rfl ?_
 refine o_call (.a (.v _)) rfl rfl fnok79 rfl rfl rfl (fun hg E w1 hm => by exact geoMay_c g ok _) ?_
 refine yO rfl rfl rfl rfl ?_
 refine o_end [1, 2, 11] rfl ?_
 refine x_then ?_
 refine c_cond rfl (fun h => ?_) (fun h => ?_)
 ·
  simp only [Xa, Xb, Xc, Xd, Xe, Xf, Xg, Xh, Xi, Xj, Xk, Xl, Xm, Xn, Xo, Xp] at h
  refine c_seq (c_region ?_)
  iterate 2 refine yO rfl rfl rfl rfl ?_
  refine o_end [4, 5] rfl ?_
  refine x_then (c_ret (x_then_ret ?_))
  refine b_ret tok rfl ?_
  intro E w' hm _
  exact ⟨.inr (.inl ⟨h, rfl⟩), hm.below (Vw.le.refl _)⟩
 ·
  simp only [Xa, Xb, Xc, Xd, Xe, Xf, Xg, Xh, Xi, Xj, Xk, Xl, Xm, Xn, Xo, Xp] at h
  have hgg := h
  have hf := geo_facts hgg
  obtain ⟨per, hper⟩ : ∃ per : Nat, g.per = per := ⟨g.per.toNat, by omega⟩
  have hpn : g.per.toNat = per := by omega
  refine c_skip (x_then (c_seq (c_seq (c_region ?_))))
  iterate 6 refine yO rfl rfl rfl rfl ?_
  refine o_end [1, 2, 17] rfl ?_
  refine x_then ?_
  refine c_cond rfl (fun h => ?_) (fun h => ?_)
  ·
   simp only [Xa, Xb, Xc, Xd, Xe, Xf, Xg, Xh, Xi, Xj, Xk, Xl, Xm, Xn, Xo, Xp] at h
   refine c_seq (c_region ?_)
   iterate 2 refine yO rfl rfl rfl rfl ?_
   refine o_end [4, 5] rfl ?_
   refine x_then (c_ret (x_then_ret ?_))
   refine b_ret tok rfl ?_
   rw [wrapI (by omega) (by omega)] at h
   intro E w' hm _
   exact ⟨.inr (.inr ⟨hgg, h, rfl⟩), hm.below (Vw.le.refl _)⟩
  ·
   simp only [Xa, Xb, Xc, Xd, Xe, Xf, Xg, Xh, Xi, Xj, Xk, Xl, Xm, Xn, Xo, Xp] at h
   rw [wrapI (by omega) (by omega)] at h
   have hle := h
   refine c_skip (x_then (c_seq (c_region ?_)))
   iterate 2 refine yO rfl rfl rfl rfl ?_
   rw [hper]
   refine o_step rfl rfl rfl rfl rfl (s_mk tok per per rfl rfl rfl (Nat.le_refl _) (by dsimp only; omega) (by simp only [maxLen]; omega)) (fun _ _ => ?_)
   refine yO rfl rfl rfl rfl ?_
   refine o_end [1, 6] rfl ?_
   refine x_then (c_seq (c_seq (c_region ?_)))
   iterate 3 refine yO rfl rfl rfl rfl ?_
   refine o_end [1, 6, 22, 23] rfl ?_
   refine x_then (c_block ?_)
   have hz : repZ per [S ByteArray.empty] = (fillTo (pieceAt text) ByteArray.empty per 0).flatMap encS := by rw [fillTo_zero]; exact repZ_flat (enc := encS) ByteArray.empty per
   rw [show (repZ per _ : List Value) = _ from hz]
   refine c_loopK [6, 22] [1] rfl rfl (σ := Nat) (fun k => [(1, .a (.v (S (restAt text k)))), (23, .a (.v (I k)))]) (fun k => [(1, .row 9 1 per ((fillTo (pieceAt text) ByteArray.empty per k).flatMap encS))]) (fun k => k ≤ per) (fun k => per - k) (0) (by omega) (by repeat (first | exact fN | refine fC rfl ?_)) (by repeat (first | exact oN | refine oC rfl ?_)) rfl ?_
   rintro k hk
   refine c_seq (c_region ?_)
   refine yO rfl rfl rfl rfl ?_
   refine o_end [1, 6, 22, 23, 24] rfl ?_
   refine x_then (c_seq ?_)
   refine c_cond rfl (fun h => ?_) (fun h => ?_)
   ·
    simp only [Xa, Xb, Xc, Xd, Xe, Xf, Xg, Xh, Xi, Xj, Xk, Xl, Xm, Xn, Xo, Xp] at h
    refine c_skip (x_then (c_seq (c_block (c_seq (c_region ?_)))))
    iterate 2 refine yO rfl rfl rfl rfl ?_
    refine o_end [1, 6, 7, 22, 23] rfl ?_
    refine x_then (c_seq (c_region ?_))
    iterate 2 refine yO rfl rfl rfl rfl ?_
    have hrs := rest_size text k
    refine o_yield rfl rfl rfl (y_mm rfl) ?_
    refine yO rfl rfl rfl rfl ?_
    refine o_end [1, 6, 7, 8, 22, 23] rfl ?_
    refine x_then ?_
    refine c_held [] ([]) mixed (by repeat (first | exact oN | refine oC rfl ?_)) (by first | rfl | simp [okCels, allOk_plain]) ?_
    refine t_take 0 rfl (by kernel_rfl) rfl rfl rfl (yV rfl) rfl ?_
    refine t_take 1 rfl (by kernel_rfl) rfl rfl rfl (yV rfl) rfl ?_
    refine t_take 2 rfl (by kernel_rfl) rfl rfl rfl (yV rfl) rfl ?_
    refine t_take 3 rfl (by kernel_rfl) rfl rfl rfl (yV rfl) rfl ?_
    rw [minI]
    refine t_take 4 rfl (by kernel_rfl) rfl rfl rfl (y_ss tok rfl (fun hg => by simp only [Option.getD]; omega)) rfl ?_
    refine t_take 5 rfl (by kernel_rfl) rfl rfl rfl (yV rfl) rfl ?_
    refine t_take 6 rfl (by kernel_rfl) rfl rfl rfl (yV rfl) rfl ?_
    refine t_take 7 rfl (by kernel_rfl) rfl rfl rfl (y_ss tok rfl (fun hg => by simp only [Option.getD]; omega)) rfl ?_
    refine t_go ?_
    refine h_one 8 (by kernel_rfl) ?_
    rw [show (restAt text k).extract ((none : Option Int).getD 0).toNat ((some ((min (restAt text k).size 256 : Nat) : Int)).getD ((restAt text k).size : Int)).toNat = pieceAt text k from rfl,
     show (restAt text k).extract ((some ((min (restAt text k).size 256 : Nat) : Int)).getD 0).toNat ((none : Option Int).getD ((restAt text k).size : Int)).toNat = restAt text (k + 1) from rfl]
    refine h_yield 8 rfl rfl rfl rfl (y_own (s := .a (.rel 1 k)) 1 rfl rfl (fun v V' hv => y_idxK tok k rfl (by simp) (fun hg => hv) (fun hg => by omega))) ?_
    refine h_one 9 (by kernel_rfl) ?_
    refine h_toN 9 rfl rfl rfl rfl rfl (s_rst tok rfl rfl (by intro u hu; simp only [List.mem_singleton] at hu; subst hu; rfl) (by simp only [List.length_singleton]; omega) (by omega)) (.inr fun _ _ => ⟨(by repeat (first | exact oN | refine oC rfl ?_)), rfl, (by first | exact Vw.le.refl _ | assumption)⟩) (fun _ _ => ?_)
    refine h_one 10 (by kernel_rfl) ?_
    refine yH 10 rfl rfl rfl rfl rfl ?_
    refine h_done [1, 6, 22, 23] (by kernel_rfl) rfl ?_
    refine x_block (x_then (c_region ?_))
    iterate 2 refine yO rfl rfl rfl rfl ?_
    refine o_end [1, 6, 22, 23] rfl ?_
    refine x_then ?_
    have hset := overL_set (enc := encS) (sz := 1) (fun _ => rfl) (fillTo (pieceAt text) ByteArray.empty per k) k (pieceAt text k) (by rw [fillTo_length]; omega)
    rw [fillTo_set _ _ _ _ (by omega), Nat.mul_one] at hset
    rw [show overL k [Value.string _] _ = _ from hset, wrapI (n := (k : Int) + 1) (by omega) (by omega)]
    refine x_round (k + 1) (by omega) (by first | omega | (dsimp only; omega)) (by repeat (first | exact fN | refine fC rfl ?_)) (by repeat (first | exact oN | refine oC rfl ?_)) rfl (Vw.le.refl _)
   ·
    simp only [Xa, Xb, Xc, Xd, Xe, Xf, Xg, Xh, Xi, Xj, Xk, Xl, Xm, Xn, Xo, Xp] at h
    refine c_exit (x_then_exit (x_then_exit (x_block_hit (x_then (c_seq ?_)))))
    refine c_region ?_
    iterate 3 refine yO rfl rfl rfl rfl ?_
    refine o_end [4, 5] rfl ?_
    refine x_then (c_ret ?_)
    refine b_ret tok rfl ?_
    have hkp : k = per := by omega
    subst hkp
    intro E w' hm _
    refine ⟨.inl ⟨hgg, hle, E.κ 1, rfl, ?_⟩, hm.below (Vw.le.refl _)⟩
    have hrow := hm.rowFresh (Vw.le.refl _) (l := 1) rfl
    rw [fillTo_all] at hrow
    rw [hpn, show (pieceL k text).length = k by simp [pieceL]]
    exact hrow
def fitsV (g : Geo) (used n : Int) : Int :=
 if geoB g = false ∨ used < 0 ∨ g.journal < used ∨ n < 0 then 2 else if g.journal < manyOf g n then 180 else if g.journal < manyOf g n + used then 190 else 0
def mayF (g : Geo) : Int → List Block → Bool
 | _, [] => true
 | last, x :: r => decide (last < x.n ∧ x.n < g.blocks ∧ (x.text.size : Int) ≤ g.per * 256) && mayF g x.n r
def mayL (g : Geo) (l : List Block) : Bool := geoB g && mayF g (-1) l
theorem mayF_cons {g : Geo} {last : Int} {x : Block} {r : List Block} : mayF g last (x :: r) = true ↔ (last < x.n ∧ x.n < g.blocks ∧ (x.text.size : Int) ≤ g.per * 256) ∧ mayF g x.n r = true := by
 simp [mayF]
theorem lastN_succ {l : List Block} {i : Nat} {x : Block} (h : l[i]? = some x) : lastN l (i + 1) = x.n := by rw [lastN, blkAt_eq h]
theorem refBMay_c (V : Vw) (g : Geo) (ok : g.Ok) (sv : Value) (l : List Block) (w : World) (hV : V.le (vw w)) (hs0 : SlOf V Block.cells 2 sv l) (hn : l.length ≤ maxLen) :
  Calls Tryz.prog 12 #[g.val, sv] w fun e w' => e = .returned (.bool (mayL g l)) ∧ Below w.heap.size w w' := by
 have hs := hs0.mono hV
 simp only [maxLen] at hn
 refine enter (E := E0) (O := []) (nl := 0) (V := vw w) [.a (.v g.val), .a (.v sv)] Tryz.func12 rfl rfl (mem0 E0 0 w) rfl rfl ?_
 refine c_seq (c_region ?_)
 refine o_new tok rfl rfl rfl rfl ?_
 refine yO rfl rfl rfl rfl ?_
 refine o_end [1, 2] rfl ?_
 refine x_then (c_seq (c_seq (c_region ?_)))
 refine yO rfl rfl rfl rfl ?_
 refine o_call (.a (.v _)) rfl rfl fnok4 rfl rfl rfl (fun hg E w1 hm => by exact refMay_c g ok _) ?_
 refine yO rfl rfl rfl rfl ?_
 refine o_end [1, 2, 8] rfl ?_
 refine x_then ?_
 refine c_cond rfl (fun h => ?_) (fun h => ?_)
 ·
  simp only [Xa, Xb, Xc, Xd, Xe, Xf, Xg, Xh, Xi, Xj, Xk, Xl, Xm, Xn, Xo, Xp] at h
  refine c_seq (c_region ?_)
  refine yO rfl rfl rfl rfl ?_
  refine o_end [4] rfl ?_
  refine x_then (c_ret (x_then_ret ?_))
  refine b_ret tok rfl ?_
  intro E w' hm _
  refine ⟨?_, hm.below (Vw.le.refl _)⟩
  rw [mayL, h]; rfl
 ·
  simp only [Xa, Xb, Xc, Xd, Xe, Xf, Xg, Xh, Xi, Xj, Xk, Xl, Xm, Xn, Xo, Xp] at h
  have hgg := h
  have hf := geo_facts hgg
  clear h
  have hmL : mayL g l = mayF g (-1) l := by rw [mayL, hgg, Bool.true_and]
  refine c_skip (x_then (c_seq (c_seq (c_region ?_))))
  refine yO rfl rfl rfl rfl ?_
  refine o_end [1, 2, 5] rfl ?_
  refine x_then (c_block ?_)
  refine c_loopK [1, 2] [] rfl rfl (σ := Nat) (fun i => [(5, .a (.v (I i)))]) (fun i => []) (fun i => i ≤ l.length ∧ mayF g (-1) l = mayF g (lastN l i) (l.drop i) ∧ -1 ≤ lastN l i) (fun i => l.length - i) (0) (⟨by omega, rfl, by simp [lastN]⟩) (by repeat (first | exact fN | refine fC rfl ?_)) (by repeat (first | exact oN | refine oC rfl ?_)) rfl ?_
  rintro i ⟨hi, heq, hlast⟩
  have hlc : (i = 0 ∧ lastN l i = -1) ∨ (0 < i ∧ lastN l i = (blkAt l (i - 1)).n) := by
   cases i with
   | zero => exact .inl ⟨rfl, rfl⟩
   | succ j => exact .inr ⟨by omega, rfl⟩
  iterate 2 refine c_seq ?_
  refine c_region ?_
  iterate 2 refine yO rfl rfl rfl rfl ?_
  refine o_yield rfl rfl rfl (y_len tok rfl (fun hg => hs.sl)) ?_
  refine yO rfl rfl rfl rfl ?_
  refine o_end [1, 2, 5, 12] rfl ?_
  refine x_then ?_
  refine c_cond rfl (fun h => ?_) (fun h => ?_)
  ·
   simp only [Xa, Xb, Xc, Xd, Xe, Xf, Xg, Xh, Xi, Xj, Xk, Xl, Xm, Xn, Xo, Xp] at h
   refine c_skip (x_then (c_seq (c_block (c_seq ?_))))
   refine c_draw mixed (by kernel_rfl) ?_
   iterate 2 refine d_yield rfl rfl rfl (yV rfl) rfl ?_
   obtain ⟨x, h_x⟩ := hs.at (k := i) (by omega)
   rw [drop_at h_x] at heq
   have hlt_x := lt_of_at h_x
   refine d_yield rfl rfl rfl (y_idx tok rfl (fun hg => hs.sl) (fun hg => ⟨by omega, by omega⟩)) rfl ?_
   refine d_yield rfl rfl rfl (y_fel tok rfl (fun hg => hs.sl) (fun hg => by omega)) rfl ?_
   refine d_yield rfl rfl rfl (y_lel tok (i) 0 (x) rfl (fun hg => hs) (fun hg => h_x) rfl rfl) rfl ?_
   iterate 4 refine d_yield rfl rfl rfl (yV rfl) rfl ?_
   have hlt_x := lt_of_at h_x
   refine d_yield rfl rfl rfl (y_idx tok rfl (fun hg => hs.sl) (fun hg => ⟨by omega, by omega⟩)) rfl ?_
   refine d_yield rfl rfl rfl (y_fel tok rfl (fun hg => hs.sl) (fun hg => by omega)) rfl ?_
   refine d_yield rfl rfl rfl (y_lel tok (i) 0 (x) rfl (fun hg => hs) (fun hg => h_x) rfl rfl) rfl ?_
   iterate 10 refine d_yield rfl rfl rfl (yV rfl) rfl ?_
   have hlt_x := lt_of_at h_x
   refine d_yield rfl rfl rfl (y_idx tok rfl (fun hg => hs.sl) (fun hg => ⟨by omega, by omega⟩)) rfl ?_
   refine d_yield rfl rfl rfl (y_fel tok rfl (fun hg => hs.sl) (fun hg => by omega)) rfl ?_
   refine d_yield rfl rfl rfl (y_lel tok (i) 0 (x) rfl (fun hg => hs) (fun hg => h_x) rfl rfl) rfl ?_
   iterate 3 refine d_yield rfl rfl rfl (yV rfl) rfl ?_
   refine d_yield rfl rfl rfl (y_idxK tok ((i - 1) * 2) rfl (by rw [wrapI (by omega) (by omega)]; dsimp only; omega) (fun hg => hs.sl) (fun hg => by simp at hg; rw [wrapI (by omega) (by omega)]; omega)) rfl ?_
   refine d_yield rfl rfl rfl (y_fel tok rfl (fun hg => hs.sl) (fun hg => by omega)) rfl ?_
   refine d_yield rfl rfl rfl (y_lel tok (i - 1) 0 (blkAt l (i - 1)) rfl (fun hg => hs) (fun hg => by rw [blkAt, List.getD, List.getElem?_eq_getElem (by omega)]; rfl) rfl rfl) rfl ?_
   iterate 6 refine d_yield rfl rfl rfl (yV rfl) rfl ?_
   have hwp : IntKind.i64.wrap (g.per * 256) = g.per * 256 := wrapI (by omega) (by omega)
   have hlt_x := lt_of_at h_x
   refine d_yield rfl rfl rfl (y_idx tok rfl (fun hg => hs.sl) (fun hg => ⟨by omega, by omega⟩)) rfl ?_
   refine d_yield rfl rfl rfl (y_fel tok rfl (fun hg => hs.sl) (fun hg => by omega)) rfl ?_
   refine d_yield rfl rfl rfl (y_lel tok (i) 1 (x) rfl (fun hg => hs) (fun hg => h_x) rfl rfl) rfl ?_
   iterate 6 refine d_yield rfl rfl rfl (yV rfl) rfl ?_
   refine d_end [1, 2, 5, 60] rfl ?_
   refine x_then ?_
   refine c_cond rfl (fun h => ?_) (fun h => ?_)
   ·
    simp only [Xa, Xb, Xc, Xd, Xe, Xf, Xg, Xh, Xi, Xj, Xk, Xl, Xm, Xn, Xo, Xp] at h
    refine c_seq (c_region ?_)
    refine yO rfl rfl rfl rfl ?_
    refine o_end [4] rfl ?_
    refine x_then (c_ret (x_block_ret (x_then_ret (x_then_ret (x_block_ret ?_)))))
    refine x_then_ret ?_
    refine b_ret tok rfl ?_
    have hno : mayF g (lastN l i) (x :: l.drop (i + 1)) = false := by
     rw [Bool.eq_false_iff]
     intro hc
     obtain ⟨⟨h1, h2, h3⟩, _⟩ := mayF_cons.1 hc
     omega
    intro E w' hm _
    refine ⟨?_, hm.below (Vw.le.refl _)⟩
    rw [hmL, heq, hno]; rfl
   ·
    simp only [Xa, Xb, Xc, Xd, Xe, Xf, Xg, Xh, Xi, Xj, Xk, Xl, Xm, Xn, Xo, Xp] at h
    refine c_skip (x_block (x_then (c_region ?_)))
    iterate 3 refine yO rfl rfl rfl rfl ?_
    refine o_end [1, 2, 5] rfl ?_
    refine x_then ?_
    have hyes : mayF g (lastN l i) (x :: l.drop (i + 1)) = mayF g x.n (l.drop (i + 1)) := by
     rw [mayF, decide_eq_true (by omega), Bool.true_and]
    rw [wrapI (n := (i : Int) + 1) (by omega) (by omega)]
    refine x_round (i + 1) (⟨by omega, by rw [heq, hyes, lastN_succ h_x], by rw [lastN_succ h_x]; omega⟩) (by first | omega | (dsimp only; omega)) (by repeat (first | exact fN | refine fC rfl ?_)) (by repeat (first | exact oN | refine oC rfl ?_)) rfl (Vw.le.refl _)
  ·
   simp only [Xa, Xb, Xc, Xd, Xe, Xf, Xg, Xh, Xi, Xj, Xk, Xl, Xm, Xn, Xo, Xp] at h
   refine c_exit (x_then_exit (x_then_exit (x_block_hit (x_then (c_seq ?_)))))
   refine c_region ?_
   refine yO rfl rfl rfl rfl ?_
   refine o_end [4] rfl ?_
   refine x_then (c_ret ?_)
   refine b_ret tok rfl ?_
   have hkL : i = l.length := by omega
   subst hkL
   rw [List.drop_length, mayF] at heq
   intro E w' hm _
   refine ⟨?_, hm.below (Vw.le.refl _)⟩
   rw [hmL, heq]; rfl
theorem mayF_at {g : Geo} : ∀ {l : List Block} {last : Int}, mayF g last l = true → ∀ i b, l[i]? = some b → (if i = 0 then last else (blkAt l (i - 1)).n) < b.n ∧ b.n < g.blocks ∧ (b.text.size : Int) ≤ g.per * 256 ∧ last < b.n ∧ last + i < b.n
 | [], _, _, i, b, hb => by simp at hb
 | x :: r, last, h, 0, b, hb => by
  obtain ⟨⟨h1, h2, h3⟩, _⟩ := mayF_cons.1 h
  simp at hb
  subst hb
  exact ⟨by simpa using h1, h2, h3, h1, by omega⟩
 | x :: r, last, h, i + 1, b, hb => by
  obtain ⟨⟨h1, h2, h3⟩, h4⟩ := mayF_cons.1 h
  simp only [List.getElem?_cons_succ] at hb
  obtain ⟨k1, k2, k3, k4, k5⟩ := mayF_at h4 i b hb
  refine ⟨?_, k2, k3, by omega, by omega⟩
  rw [if_neg (by omega), show i + 1 - 1 = i by omega]
  cases i with
  | zero => simpa [blkAt] using k1
  | succ j =>
   rw [if_neg (by omega), show j + 1 - 1 = j by omega] at k1
   simpa [blkAt, List.getD] using k1
theorem mayL_len {g : Geo} {l : List Block} (h : mayL g l = true) : (l.length : Int) ≤ g.blocks := by
 rw [mayL, Bool.and_eq_true] at h
 have hf := geo_facts h.1
 cases hl : l.length with
 | zero => omega
 | succ k =>
  obtain ⟨b, hb⟩ : ∃ b, l[k]? = some b := ⟨l[k]'(by omega), by simp [hl]⟩
  obtain ⟨_, h2, _, _, h5⟩ := mayF_at h.2 k b hb
  omega
structure ActV where
 kind : Int
 sector : Int
 b : ByteArray
 key : Int
abbrev ActV.val (a : ActV) : Value := .agg #[I8 a.kind, I a.sector, S a.b, I a.key]
abbrev act0 : ActV := ⟨0, 0, ByteArray.empty, 0⟩
abbrev putV (v : Value) (i : Int) : Value := .agg #[v, I i]
def OfRes (g : Geo) (key lsn : Int) (l : List Block) (x : List Record × Int) : Prop := (OfOk g key lsn l ∧ x.1 = allRecs g key lsn l ∧ x.2 = 0) ∨ (¬ OfOk g key lsn l ∧ x.1 = [] ∧ x.2 = 2)
section
variable {o : Oper} {n : Nat} {F : Frame0} {C : List Nat} {O : Go.Eng.Own} {nl : Nat} {V : Vw}
end
def BegRes (g : Geo) (key head tail : Int) (l : List Block) (L : List Record) (e : Int) : Prop :=
 (fitsV g (IntKind.i64.wrap (head - tail)) l.length ≠ 0 ∧ L = [] ∧ e = fitsV g (IntKind.i64.wrap (head - tail)) l.length) ∨
 (fitsV g (IntKind.i64.wrap (head - tail)) l.length = 0 ∧ OfRes g key head l (L, e))
def leftV (n i : Int) : Int := max 0 (n - max i 0)
def takeI (n i : Int) : Int := if n ≤ i then i else IntKind.i64.wrap (i + 1)
def rec0' : Record := ⟨0, 0, 0, 0, ByteArray.empty, 0⟩
def nextR (L : List Record) (i : Int) : Record := if i < 0 then rec0' else (L[i.toNat]?).getD rec0'
theorem refMake_c (kind : Int) (hk : R8 kind) (t : ByteArray) (V : Vw) (kv nv : Value) (ks ns : List Int) (w : World) (ht : t.size ≤ 1099511627776) (hV : V.le (vw w)) (hks : SlOf V encI64 1 kv ks) (hns : SlOf V encI64 1 nv ns)
  (hlen : ks.length = ns.length) (hn : ns.length ≤ 1000) (hfit : ∀ (i : Nat) (k n : Int), ks[i]? = some k → ns[i]? = some n → putOk k [n] = true) (hsz : ∀ i : Nat, (packL (ks.take i) (ns.take i)).length ≤ 505) :
  Calls Tryz.prog 37 #[I8 kind, S t, kv, nv] w fun e w' => e = .returned (.tuple #[S (sealS kind (strOf (packL ks ns) ++ t)).1, I (sealS kind (strOf (packL ks ns) ++ t)).2]) ∧ Below w.heap.size w w' := by
 have hks' := hks.mono hV
 have hns' := hns.mono hV
 refine enter (E := E0) (O := []) (nl := 0) (V := vw w) [.a (.v (I8 kind)), .a (.v (S t)), .a (.v kv), .a (.v nv)] Tryz.func37 rfl rfl (mem0 E0 0 w) rfl rfl ?_
 refine c_seq (c_region ?_)
 iterate 2 refine yO rfl rfl rfl rfl ?_
 refine o_end [0, 1, 2, 3] rfl ?_
 refine x_then (c_seq (c_seq (c_region ?_)))
 refine yO rfl rfl rfl rfl ?_
 refine o_yield rfl rfl rfl (y_len tok rfl (fun hg => hks'.sl)) ?_
 refine yO rfl rfl rfl rfl ?_
 refine o_yield rfl rfl rfl (y_len tok rfl (fun hg => hns'.sl)) ?_
 refine yO rfl rfl rfl rfl ?_
 refine o_end [0, 1, 2, 3, 18] rfl ?_
 refine x_then ?_
 refine c_cond rfl (fun h => ?_) (fun h => ?_)
 ·
  simp only [Xa, Xb, Xc, Xd, Xe, Xf, Xg, Xh, Xi, Xj, Xk, Xl, Xm, Xn, Xo, Xp] at h
  refine c_seq (c_region ?_)
  iterate 2 refine yO rfl rfl rfl rfl ?_
  refine o_end [8, 9] rfl ?_
  refine x_then (c_ret (x_then_ret ?_))
  refine b_ret tok rfl ?_
  omega
 ·
  simp only [Xa, Xb, Xc, Xd, Xe, Xf, Xg, Xh, Xi, Xj, Xk, Xl, Xm, Xn, Xo, Xp] at h
  clear h
  refine c_skip (x_then (c_seq (c_region ?_)))
  refine yO rfl rfl rfl rfl ?_
  refine o_end [0, 1, 2, 3, 10] rfl ?_
  refine x_then (c_seq (c_seq (c_region ?_)))
  refine yO rfl rfl rfl rfl ?_
  refine o_end [0, 1, 2, 3, 10, 11] rfl ?_
  refine x_then (c_block ?_)
  refine k_nil 10 5 1 rfl rfl ?_
  refine c_loopK [0, 1, 2, 3] [0] rfl rfl (σ := Nat) (fun i => [(10, .a (.row 0)), (11, .a (.v (I i)))]) (fun i => [(0, .row 5 1 (packL (ks.take i) (ns.take i)).length ((packL (ks.take i) (ns.take i)).flatMap encByte))]) (fun i => i ≤ ns.length) (fun i => ns.length - i) (0) (by omega) (by repeat (first | exact fN | refine fC rfl ?_)) (by repeat (first | exact oN | refine oC rfl ?_)) rfl ?_
  rintro i hi
  iterate 2 refine c_seq ?_
  refine c_region ?_
  iterate 2 refine yO rfl rfl rfl rfl ?_
  refine o_yield rfl rfl rfl (y_len tok rfl (fun hg => hns'.sl)) ?_
  refine yO rfl rfl rfl rfl ?_
  refine o_end [0, 1, 2, 3, 10, 11, 22] rfl ?_
  refine x_then ?_
  refine c_cond rfl (fun h => ?_) (fun h => ?_)
  ·
   simp only [Xa, Xb, Xc, Xd, Xe, Xf, Xg, Xh, Xi, Xj, Xk, Xl, Xm, Xn, Xo, Xp] at h
   refine c_skip (x_then (c_seq (c_block (c_seq ?_))))
   refine c_heldR mixed rfl (by repeat (first | exact oN | refine oC rfl ?_)) (by first | rfl | simp [okCels, allOk_plain]) ?_
   refine t_take 0 rfl (by kernel_rfl) rfl rfl rfl (yV rfl) rfl ?_
   refine t_take 1 rfl (by kernel_rfl) rfl rfl rfl (yV rfl) rfl ?_
   refine t_take 2 rfl (by kernel_rfl) rfl rfl rfl (yV rfl) rfl ?_
   obtain ⟨n, h_n⟩ := hns'.at (k := i) (by omega)
   obtain ⟨k, h_k⟩ := hks'.at (k := i) (by omega)
   have hpi := hsz i
   have hps := hsz (i + 1)
   have hlt_k := lt_of_at h_k
   refine t_take 3 rfl (by kernel_rfl) rfl rfl rfl (y_idx tok rfl (fun hg => hks'.sl) (fun hg => ⟨by omega, by omega⟩)) rfl ?_
   refine t_take 4 rfl (by kernel_rfl) rfl rfl rfl (y_lel tok (i) 0 (k) rfl (fun hg => hks') (fun hg => h_k) rfl rfl) rfl ?_
   refine t_take 5 rfl (by kernel_rfl) rfl rfl rfl (yV rfl) rfl ?_
   refine t_take 6 rfl (by kernel_rfl) rfl rfl rfl (yV rfl) rfl ?_
   have hlt_n := lt_of_at h_n
   refine t_take 7 rfl (by kernel_rfl) rfl rfl rfl (y_idx tok rfl (fun hg => hns'.sl) (fun hg => ⟨by omega, by omega⟩)) rfl ?_
   refine t_take 8 rfl (by kernel_rfl) rfl rfl rfl (y_lel tok (i) 0 (n) rfl (fun hg => hns') (fun hg => h_n) rfl rfl) rfl ?_
   refine t_go ?_
   refine h_one 9 (by kernel_rfl) ?_
   refine h_to 9 rfl rfl rfl rfl rfl rfl (s_bs tok 1 rfl rfl rfl) (.inr fun _ _ => ⟨(by repeat (first | exact oN | refine oC rfl ?_)), rfl, (by first | exact Vw.le.refl _ | assumption)⟩) (fun _ _ => ?_)
   refine h_one 10 (by kernel_rfl) ?_
   have hpp : putL (packL (ks.take i) (ns.take i)) k [n] = packL (ks.take (i + 1)) (ns.take (i + 1)) := by rw [putL_one, ← packL_succ h_k h_n]
   refine h_to 10 rfl rfl rfl rfl rfl rfl (s_refPut (packL (ks.take i) (ns.take i)) k [n] rfl (hfit i k n h_k h_n) (by omega) (by simp) (fun E w hm => ⟨_, _, rfl, hm.rowOf (enc := encByte) 0 rfl (fun _ => rfl), hm.rowOf (enc := encI64) (L := [n]) 1 rfl (fun _ => rfl)⟩)) (.inr fun _ _ => ⟨(by repeat (first | exact oN | refine oC rfl ?_)), rfl, (by first | exact Vw.le.refl _ | assumption)⟩) (fun _ _ => ?_)
   refine h_one 11 (by kernel_rfl) ?_
   refine yH 11 rfl rfl rfl rfl rfl ?_
   refine h_take 12 rfl (by kernel_rfl) rfl rfl rfl rfl (yV rfl) rfl ?_
   refine h_take 13 rfl (by kernel_rfl) rfl rfl rfl rfl (yV rfl) rfl ?_
   refine h_one 14 (by kernel_rfl) ?_
   refine yH 14 rfl rfl rfl rfl rfl ?_
   refine h_one 15 (by kernel_rfl) ?_
   refine yH 15 rfl rfl rfl rfl rfl ?_
   refine h_done [0, 1, 2, 3, 11, 12, 13] (by kernel_rfl) rfl ?_
   refine x_then (c_seq (c_seq (c_region ?_)))
   iterate 2 refine yO rfl rfl rfl rfl ?_
   refine o_end [0, 1, 2, 3, 11, 12, 40] rfl ?_
   refine x_then ?_
   refine c_cond rfl (fun h => ?_) (fun h => ?_)
   ·
    simp only [Xa, Xb, Xc, Xd, Xe, Xf, Xg, Xh, Xi, Xj, Xk, Xl, Xm, Xn, Xo, Xp] at h
    refine c_seq (c_region ?_)
    iterate 2 refine yO rfl rfl rfl rfl ?_
    refine o_end [8, 9] rfl ?_
    refine x_then (c_ret (x_then_ret (x_block_ret (x_then_ret (x_then_ret ?_)))))
    refine x_block_ret (x_then_ret ?_)
    refine b_ret tok rfl ?_
    contradiction
   ·
    simp only [Xa, Xb, Xc, Xd, Xe, Xf, Xg, Xh, Xi, Xj, Xk, Xl, Xm, Xn, Xo, Xp] at h
    clear h
    rw [hpp]
    refine c_skip (x_then (c_seq (c_region ?_)))
    iterate 2 refine yO rfl rfl rfl rfl ?_
    refine o_end [0, 1, 2, 3, 10, 11] rfl ?_
    refine x_then (c_seq (c_region ?_))
    iterate 3 refine yO rfl rfl rfl rfl ?_
    refine o_end [0, 1, 2, 3, 10, 11, 44] rfl ?_
    refine x_then ?_
    refine c_cond rfl (fun h => ?_) (fun h => ?_)
    ·
     simp only [Xa, Xb, Xc, Xd, Xe, Xf, Xg, Xh, Xi, Xj, Xk, Xl, Xm, Xn, Xo, Xp] at h
     refine c_seq (c_region ?_)
     iterate 2 refine yO rfl rfl rfl rfl ?_
     refine o_end [8, 9] rfl ?_
     refine x_then (c_ret (x_block_ret (x_then_ret (x_then_ret (x_block_ret ?_)))))
     refine x_then_ret ?_
     refine b_ret tok rfl ?_
     omega
    ·
     simp only [Xa, Xb, Xc, Xd, Xe, Xf, Xg, Xh, Xi, Xj, Xk, Xl, Xm, Xn, Xo, Xp] at h
     refine c_skip (x_block (x_then (c_region ?_)))
     iterate 3 refine yO rfl rfl rfl rfl ?_
     refine o_end [0, 1, 2, 3, 10, 11] rfl ?_
     refine x_then ?_
     rw [wrapI (n := (i : Int) + 1) (by omega) (by omega)]
     refine k_swap 0 2 rfl ?_
     refine x_round (i + 1) (by omega) (by first | omega | (dsimp only; omega)) (by repeat (first | exact fN | refine fC rfl ?_)) (by repeat (first | exact oN | refine oC rfl ?_)) rfl (Vw.le.refl _)
  ·
   simp only [Xa, Xb, Xc, Xd, Xe, Xf, Xg, Xh, Xi, Xj, Xk, Xl, Xm, Xn, Xo, Xp] at h
   have hil : i = ns.length := by omega
   subst hil
   have hpi := hsz ns.length
   rw [List.take_length, show ks.take ns.length = ks by rw [← hlen, List.take_length]] at hpi ⊢
   refine c_exit (x_then_exit (x_then_exit (x_block_hit (x_then (c_seq ?_)))))
   refine c_region ?_
   iterate 2 refine yO rfl rfl rfl rfl ?_
   refine o_yield rfl rfl rfl (y_own (s := .a (.v (.string (strOf (packL ks ns))))) 0 rfl rfl (fun v V' hs => y_b2s tok _ rfl (fun hg => hs))) ?_
   refine yO rfl rfl rfl rfl ?_
   have hst := strOf_size (packL ks ns)
   have hcs : (strOf (packL ks ns) ++ t).size = (packL ks ns).length + t.size := by rw [ByteArray.size_append, hst]
   refine o_yield rfl rfl rfl (y_cat rfl (fun hg => by omega)) ?_
   refine o_call (.a (.v _)) rfl rfl fnok47 rfl rfl rfl (fun hg E w1 hm => by exact refSeal_c kind hk (strOf (packL ks ns) ++ t) (by simp only [maxLen]; omega) _) ?_
   iterate 4 refine yO rfl rfl rfl rfl ?_
   refine o_end [8, 9] rfl ?_
   refine x_then (c_ret ?_)
   refine b_ret tok rfl ?_
   intro E w' hm _
   refine ⟨?_, hm.below (Vw.le.refl _)⟩
   rfl
abbrev gW : List Int := [2, 2, 2, 2, 2, 2, 4, 4]
abbrev gNums (g : Geo) : List Int := [g.nodes, g.slots, g.blocks, g.per, g.journal, g.log, g.lease, g.wait]
abbrev encP (b : Nat) (k : Nat) : List Value := [.pointer (some ⟨b, k, none⟩)]
def gbV (g : Geo) : ByteArray := if geoB g = true then strOf (sealL 1 (packL gW (gNums g))) else ByteArray.empty
def gbE (g : Geo) : Int := if geoB g = true then 0 else 40
def geoOf : List Int → Geo
 | [a, b, c, d, e, f, g, h] => ⟨a, b, c, d, e, f, g, h⟩
 | _ => ⟨0, 0, 0, 0, 0, 0, 0, 0⟩
abbrev geo0 : Geo := ⟨0, 0, 0, 0, 0, 0, 0, 0⟩
def srOk (s : ByteArray) : Option Geo := match fieldsR 1 s gW with
 | some (l, r) => if r.size = 0 ∧ geoB (geoOf l) = true then some (geoOf l) else none
 | none => none
def srV (s : ByteArray) : Geo := (srOk s).getD geo0
def srE (s : ByteArray) : Int := if (srOk s).isSome then 0 else 50
theorem eight {l : List Int} (h : l.length = 8) : ∃ a b c d e f g i, l = [a, b, c, d, e, f, g, i] := by
 match l, h with
 | [a, b, c, d, e, f, g, i], _ => exact ⟨a, b, c, d, e, f, g, i, rfl⟩
theorem size_empty' (r : ByteArray) : (r.toList == (⟨#[]⟩ : ByteArray).toList) = decide (r.size = 0) := empty_beq r
def geoC' (l : List Int) (i j : Nat) : A := .v (I (if j < i then l.getD j 0 else 0))
def geoTo (l : List Int) (i : Nat) : List A := [geoC' l i 0, geoC' l i 1, geoC' l i 2, geoC' l i 3, geoC' l i 4, geoC' l i 5, geoC' l i 6, geoC' l i 7]
theorem numPut_no {bv lv : Value} {w : World} (bl : List UInt8) (k : Int) (ls : List Int) (hok : putOk k ls = false) (hbn : bl.length ≤ 1099511627776) (hln : ls.length ≤ 1099511627776) (hb : SlOf (vw w) encByte 1 bv bl) (hl : SlOf (vw w) encI64 1 lv ls) :
  Calls Tryz.prog 108 #[bv, I k, lv] w fun e w' => e = .returned (.tuple #[.slice none 0 0, I 2]) ∧ Below w.heap.size w w' := by
 refine (numPut_c (vw w) bv bl k lv ls w (Vw.le.refl _) hb hl hbn hln).mono ?_
 rintro e w' ⟨⟨h, _⟩ | ⟨_, he⟩, hbl⟩
 · rw [hok] at h; cases h
 · exact ⟨he, hbl⟩
theorem refPut_no {bv lv : Value} {w : World} (bl : List UInt8) (k : Int) (ls : List Int) (hok : putOk k ls = false) (hbn : bl.length ≤ 1099511627776) (hln : ls.length ≤ 1099511627776) (hb : SlOf (vw w) encByte 1 bv bl) (hl : SlOf (vw w) encI64 1 lv ls) :
  Calls Tryz.prog 46 #[bv, I k, lv] w fun e w' => e = .returned (.tuple #[.slice none 0 0, I 2]) ∧ Below w.heap.size w w' := by
 refine (refPut_c (vw w) bv bl k lv ls w (Vw.le.refl _) hb hl hbn hln).mono ?_
 rintro e w' ⟨⟨h, _⟩ | ⟨_, he⟩, hbl⟩
 · rw [hok] at h; cases h
 · exact ⟨he, hbl⟩
theorem bputNo_c (k : Int) (bl : List UInt8) (bv : Value) (ls : List Int) (lv : Value) (b e0 : Nat) (t1 : Value) (w : World) (hb : w.heap[b]? = some (.cells [bv, I 0, t1].toArray e0 (0, 0)))
  (hs : SlOf ((vw w).del b) encByte 1 bv bl) (hl : SlOf ((vw w).del b) encI64 1 lv ls) (hok : putOk k ls = false) (hbn : bl.length ≤ 1099511627776) (hln : ls.length ≤ 1099511627776) :
  Calls Tryz.prog 101 #[.pointer (some ⟨b, 0, none⟩), I k, lv] w fun e w' => e = .returned (.tuple #[]) ∧ Go.Eng.Touch (· = b) w w' ∧ w'.heap[b]? = some (.cells [bv, I 2, t1].toArray e0 (0, 0)) := by
 obtain ⟨a, n, c, rfl⟩ := sl_shape hs.sl
 refine enter1 [.a (.ptr 0 0), .a (.v (I k)), .a (.v lv)] hb Tryz.func101 rfl rfl rfl rfl ?_
 refine c_seq (c_region ?_)
 iterate 6 refine yO rfl rfl rfl rfl ?_
 refine o_call (.a (.v _)) rfl rfl fnok108 rfl rfl rfl (fun hg E w1 hm => by exact (numPut_no bl k ls hok hbn hln (hs.mono hm.leV) (hl.mono hm.leV))) ?_
 iterate 5 refine yO rfl rfl rfl rfl ?_
 refine o_end [0, 6, 7] rfl ?_
 refine x_then (c_seq (c_seq (c_region ?_)))
 iterate 2 refine yO rfl rfl rfl rfl ?_
 refine o_end [0, 6, 19] rfl ?_
 refine x_then ?_
 refine c_cond rfl (fun h => ?_) (fun h => ?_)
 ·
  refine c_seq (c_region ?_)
  iterate 3 refine yO rfl rfl rfl rfl ?_
  refine o_store tok rfl rfl rfl (by first | (repeat' first | exact trivial | exact rfl | apply And.intro); done | simp [onesP, oneP, lk, Value.oneCell']) ?_
  refine o_end [] rfl ?_
  refine x_then (c_ret (x_then_ret ?_))
  refine b_ret tok rfl ?_
  intro E w' hm _
  obtain ⟨h1, h2⟩ := back1 hm (Vw.le.refl _) rfl rfl rfl
  refine ⟨rfl, h1, ?_⟩
  rw [h2]
  rfl
 · exact absurd h (by decide)
def headS (n : Int) : ByteArray × Int := if fitsB n 6 = true then (strOf (sealL 2 (leB 6 n)), 0) else (ByteArray.empty, 2)
theorem putOk_one {n : Int} : putOk 6 [n] = fitsB n 6 := by simp [putOk, widthB]
theorem hseal {n : Int} (h : fitsB n 6 = true) : sealS 2 (strOf (packL [6] [n]) ++ ByteArray.empty) = headS n := by
 have h6 : (packL [6] [n]) = leB 6 n := by simp [packL]
 have hl : (leB 6 n).length = 6 := by simp [leB, leTake_len]
 rw [sealS, if_neg (by rw [ByteArray.size_append, strOf_size, h6]; simp; omega), headS, if_pos h, h6]
 congr 2
theorem make1No_c (kind : Int) (t : ByteArray) (V : Vw) (kv nv : Value) (n : Int) (w : World) (hV : V.le (vw w)) (hks : SlOf V encI64 1 kv [6]) (hns : SlOf V encI64 1 nv [n]) (hfit : fitsB n 6 = false) :
  Calls Tryz.prog 88 #[I8 kind, S t, kv, nv] w fun e w' => e = .returned (.tuple #[S ByteArray.empty, I 2]) ∧ Below w.heap.size w w' := by
 have hks' := hks.mono hV
 have hns' := hns.mono hV
 refine enter (E := E0) (O := []) (nl := 0) (V := vw w) [.a (.v (I8 kind)), .a (.v (S t)), .a (.v kv), .a (.v nv)] Tryz.func88 rfl rfl (mem0 E0 0 w) rfl rfl ?_
 refine c_seq (c_region ?_)
 iterate 2 refine yO rfl rfl rfl rfl ?_
 refine o_end [0, 1, 2, 3] rfl ?_
 refine x_then (c_seq (c_region ?_))
 iterate 2 refine yO rfl rfl rfl rfl ?_
 refine o_new tok rfl rfl rfl rfl ?_
 refine yO rfl rfl rfl rfl ?_
 refine o_end [1, 2, 3, 10] rfl ?_
 refine x_then (c_seq (c_seq (c_region ?_)))
 refine yO rfl rfl rfl rfl ?_
 refine o_yield rfl rfl rfl (y_len tok rfl (fun hg => hks'.sl)) ?_
 refine yO rfl rfl rfl rfl ?_
 refine o_yield rfl rfl rfl (y_len tok rfl (fun hg => hns'.sl)) ?_
 refine yO rfl rfl rfl rfl ?_
 refine o_end [1, 2, 3, 10, 20] rfl ?_
 refine x_then ?_
 refine c_cond rfl (fun h => ?_) (fun h => ?_)
 ·
  simp only [Xa, Xb, Xc, Xd, Xe, Xf, Xg, Xh, Xi, Xj, Xk, Xl, Xm, Xn, Xo, Xp] at h
  refine c_seq (c_region ?_)
  iterate 2 refine yO rfl rfl rfl rfl ?_
  refine o_end [8, 9] rfl ?_
  refine x_then (c_ret (x_then_ret ?_))
  refine b_ret tok rfl ?_
  contradiction
 ·
  simp only [Xa, Xb, Xc, Xd, Xe, Xf, Xg, Xh, Xi, Xj, Xk, Xl, Xm, Xn, Xo, Xp] at h
  refine c_skip (x_then (c_seq (c_seq (c_region ?_))))
  refine yO rfl rfl rfl rfl ?_
  refine o_yield rfl rfl rfl (y_len tok rfl (fun hg => hns'.sl)) ?_
  refine yO rfl rfl rfl rfl ?_
  refine o_end [1, 2, 10, 21, 22, 23] rfl ?_
  refine x_then (c_block ?_)
  refine k_nilO 0 0 5 1 rfl rfl ?_
  refine c_loopK [1, 2, 10, 21, 22] [0, 1] rfl rfl (σ := Nat) (fun i => [(23, .a (.v (I i)))]) (fun i => [(0, .lit (.row 1 :: .v (I 0) :: [I8 kind].map .v) 151), (1, .row 5 1 0 [])]) (fun i => i = 0) (fun i => 1 - i) (0) (rfl) (by repeat (first | exact fN | refine fC rfl ?_)) (by repeat (first | exact oN | refine oC rfl ?_)) rfl ?_
  rintro i rfl
  refine c_seq (c_region ?_)
  refine yO rfl rfl rfl rfl ?_
  refine o_end [1, 2, 10, 21, 22, 23, 24] rfl ?_
  refine x_then (c_seq ?_)
  refine c_cond rfl (fun h => ?_) (fun h => ?_)
  ·
   simp only [Xa, Xb, Xc, Xd, Xe, Xf, Xg, Xh, Xi, Xj, Xk, Xl, Xm, Xn, Xo, Xp] at h
   refine c_skip (x_then (c_seq (c_block (c_seq (c_region ?_)))))
   refine yO rfl rfl rfl rfl ?_
   have e1 : ([n] : List Int)[0]? = some n := rfl
   have e2 : ([6] : List Int)[0]? = some 6 := rfl
   have hlt_n := lt_of_at e1
   refine o_yield rfl rfl rfl (y_idx tok rfl (fun hg => hns'.sl) (fun hg => ⟨by omega, by omega⟩)) ?_
   refine o_yield rfl rfl rfl (y_lel tok (0) 0 (n) rfl (fun hg => hns') (fun hg => e1) rfl rfl) ?_
   iterate 2 refine yO rfl rfl rfl rfl ?_
   refine o_end [1, 2, 10, 11, 12, 21, 22, 23] rfl ?_
   refine x_then (c_seq ?_)
   refine c_held [] ([]) mixed (by repeat (first | exact oN | refine oC rfl ?_)) (by first | rfl | simp [okCels, allOk_plain]) ?_
   refine t_take 0 rfl (by kernel_rfl) rfl rfl rfl (yV rfl) rfl ?_
   refine t_take 1 rfl (by kernel_rfl) rfl rfl rfl (yV rfl) rfl ?_
   refine t_take 2 rfl (by kernel_rfl) rfl rfl rfl (yV rfl) rfl ?_
   refine t_take 3 rfl (by kernel_rfl) rfl rfl rfl (yV rfl) rfl ?_
   refine t_take 4 rfl (by kernel_rfl) rfl rfl rfl (yV rfl) rfl ?_
   have hlt__6___Int_ := lt_of_at e2
   refine t_take 5 rfl (by kernel_rfl) rfl rfl rfl (y_idx tok rfl (fun hg => hks'.sl) (fun hg => ⟨by omega, by omega⟩)) rfl ?_
   refine t_take 6 rfl (by kernel_rfl) rfl rfl rfl (y_lel tok (0) 0 ((6 : Int)) rfl (fun hg => hks') (fun hg => e2) rfl rfl) rfl ?_
   refine t_take 7 rfl (by kernel_rfl) rfl rfl rfl (yV rfl) rfl ?_
   refine t_go ?_
   refine h_one 8 (by kernel_rfl) ?_
   refine h_to 8 rfl rfl rfl rfl rfl rfl (s_bs tok 1 rfl rfl rfl) (.inr fun _ _ => ⟨(by repeat (first | exact oN | refine oC rfl ?_)), rfl, (by first | exact Vw.le.refl _ | assumption)⟩) (fun _ _ => ?_)
   refine h_one 9 (by kernel_rfl) ?_
   refine h_to 9 rfl rfl rfl rfl rfl rfl (s_callW (fun _ => True) (fun _ : Unit => .tup []) 0 151 (fun _ => [.row 1, .v (I 2), .v (I8 kind)]) rfl fnok101 rfl (fun _ => rfl) (fun _ => rfl) (fun E w1 hm hb => (bputNo_c 6 [] (E.κ 1) [n] (E.κ 2) (E.ρ 0) 151 (I8 kind) w1 hb (hm.rowOfDel (enc := encByte) (L := []) 1 rfl rfl (fun _ => rfl)) (hm.rowOfDel (enc := encI64) (L := [n]) 2 rfl rfl (fun _ => rfl)) (by rw [putOk_one, hfit]) (by simp) (by simp)).mono fun e w' h => ⟨(), h.1, h.2.1, h.2.2, trivial⟩)) (.inr fun _ _ => ⟨(by repeat (first | exact oN | refine oC rfl ?_)), rfl, (by first | exact Vw.le.refl _ | assumption)⟩) (fun _ _ => ?_)
   refine h_done [1, 2, 10, 21, 22, 23] (by kernel_rfl) rfl ?_
   refine x_then (c_seq (c_region ?_))
   iterate 15 refine yO rfl rfl rfl rfl ?_
   refine o_end [1, 2, 10, 21, 22, 23, 52] rfl ?_
   refine x_then ?_
   refine c_cond rfl (fun h => ?_) (fun h => ?_)
   ·
    refine c_seq (c_region ?_)
    iterate 2 refine yO rfl rfl rfl rfl ?_
    refine o_end [8, 9] rfl ?_
    refine x_then (c_ret (x_block_ret (x_then_ret (x_then_ret (x_block_ret ?_)))))
    refine x_then_ret ?_
    refine b_ret tok rfl ?_
    intro E w' hm _
    refine ⟨?_, hm.below (Vw.le.refl _)⟩
    rfl
   ·
    exact absurd h (by decide)
  ·
   simp only [Xa, Xb, Xc, Xd, Xe, Xf, Xg, Xh, Xi, Xj, Xk, Xl, Xm, Xn, Xo, Xp] at h
   exact absurd h (by simp)
theorem refMake1No_c (kind : Int) (t : ByteArray) (V : Vw) (kv nv : Value) (n : Int) (w : World) (hV : V.le (vw w)) (hks : SlOf V encI64 1 kv [6]) (hns : SlOf V encI64 1 nv [n]) (hfit : fitsB n 6 = false) :
  Calls Tryz.prog 37 #[I8 kind, S t, kv, nv] w fun e w' => e = .returned (.tuple #[S ByteArray.empty, I 2]) ∧ Below w.heap.size w w' := by
 have hks' := hks.mono hV
 have hns' := hns.mono hV
 refine enter (E := E0) (O := []) (nl := 0) (V := vw w) [.a (.v (I8 kind)), .a (.v (S t)), .a (.v kv), .a (.v nv)] Tryz.func37 rfl rfl (mem0 E0 0 w) rfl rfl ?_
 refine c_seq (c_region ?_)
 iterate 2 refine yO rfl rfl rfl rfl ?_
 refine o_end [0, 1, 2, 3] rfl ?_
 refine x_then (c_seq (c_seq (c_region ?_)))
 refine yO rfl rfl rfl rfl ?_
 refine o_yield rfl rfl rfl (y_len tok rfl (fun hg => hks'.sl)) ?_
 refine yO rfl rfl rfl rfl ?_
 refine o_yield rfl rfl rfl (y_len tok rfl (fun hg => hns'.sl)) ?_
 refine yO rfl rfl rfl rfl ?_
 refine o_end [0, 1, 2, 3, 18] rfl ?_
 refine x_then ?_
 refine c_cond rfl (fun h => ?_) (fun h => ?_)
 ·
  simp only [Xa, Xb, Xc, Xd, Xe, Xf, Xg, Xh, Xi, Xj, Xk, Xl, Xm, Xn, Xo, Xp] at h
  refine c_seq (c_region ?_)
  iterate 2 refine yO rfl rfl rfl rfl ?_
  refine o_end [8, 9] rfl ?_
  refine x_then (c_ret (x_then_ret ?_))
  refine b_ret tok rfl ?_
  contradiction
 ·
  simp only [Xa, Xb, Xc, Xd, Xe, Xf, Xg, Xh, Xi, Xj, Xk, Xl, Xm, Xn, Xo, Xp] at h
  clear h
  refine c_skip (x_then (c_seq (c_region ?_)))
  refine yO rfl rfl rfl rfl ?_
  refine o_end [0, 1, 2, 3, 10] rfl ?_
  refine x_then (c_seq (c_seq (c_region ?_)))
  refine yO rfl rfl rfl rfl ?_
  refine o_end [0, 1, 2, 3, 10, 11] rfl ?_
  refine x_then (c_block ?_)
  refine k_nil 10 5 1 rfl rfl ?_
  refine c_loopK [0, 1, 2, 3] [0] rfl rfl (σ := Nat) (fun i => [(10, .a (.row 0)), (11, .a (.v (I i)))]) (fun i => [(0, .row 5 1 0 [])]) (fun i => i = 0) (fun i => 1 - i) (0) (rfl) (by repeat (first | exact fN | refine fC rfl ?_)) (by repeat (first | exact oN | refine oC rfl ?_)) rfl ?_
  rintro i rfl
  iterate 2 refine c_seq ?_
  refine c_region ?_
  iterate 2 refine yO rfl rfl rfl rfl ?_
  refine o_yield rfl rfl rfl (y_len tok rfl (fun hg => hns'.sl)) ?_
  refine yO rfl rfl rfl rfl ?_
  refine o_end [0, 1, 2, 3, 10, 11, 22] rfl ?_
  refine x_then ?_
  refine c_cond rfl (fun h => ?_) (fun h => ?_)
  ·
   simp only [Xa, Xb, Xc, Xd, Xe, Xf, Xg, Xh, Xi, Xj, Xk, Xl, Xm, Xn, Xo, Xp] at h
   refine c_skip (x_then (c_seq (c_block (c_seq ?_))))
   refine c_heldR mixed rfl (by repeat (first | exact oN | refine oC rfl ?_)) (by first | rfl | simp [okCels, allOk_plain]) ?_
   refine t_take 0 rfl (by kernel_rfl) rfl rfl rfl (yV rfl) rfl ?_
   refine t_take 1 rfl (by kernel_rfl) rfl rfl rfl (yV rfl) rfl ?_
   refine t_take 2 rfl (by kernel_rfl) rfl rfl rfl (yV rfl) rfl ?_
   have e1 : ([n] : List Int)[0]? = some n := rfl
   have e2 : ([6] : List Int)[0]? = some 6 := rfl
   have hlt__6___Int_ := lt_of_at e2
   refine t_take 3 rfl (by kernel_rfl) rfl rfl rfl (y_idx tok rfl (fun hg => hks'.sl) (fun hg => ⟨by omega, by omega⟩)) rfl ?_
   refine t_take 4 rfl (by kernel_rfl) rfl rfl rfl (y_lel tok (0) 0 ((6 : Int)) rfl (fun hg => hks') (fun hg => e2) rfl rfl) rfl ?_
   refine t_take 5 rfl (by kernel_rfl) rfl rfl rfl (yV rfl) rfl ?_
   refine t_take 6 rfl (by kernel_rfl) rfl rfl rfl (yV rfl) rfl ?_
   have hlt_n := lt_of_at e1
   refine t_take 7 rfl (by kernel_rfl) rfl rfl rfl (y_idx tok rfl (fun hg => hns'.sl) (fun hg => ⟨by omega, by omega⟩)) rfl ?_
   refine t_take 8 rfl (by kernel_rfl) rfl rfl rfl (y_lel tok (0) 0 (n) rfl (fun hg => hns') (fun hg => e1) rfl rfl) rfl ?_
   refine t_go ?_
   refine h_one 9 (by kernel_rfl) ?_
   refine h_to 9 rfl rfl rfl rfl rfl rfl (s_bs tok 1 rfl rfl rfl) (.inr fun _ _ => ⟨(by repeat (first | exact oN | refine oC rfl ?_)), rfl, (by first | exact Vw.le.refl _ | assumption)⟩) (fun _ _ => ?_)
   refine h_one 10 (by kernel_rfl) ?_
   refine h_call 10 (.a (.v _)) rfl rfl rfl fnok46 rfl rfl rfl (fun hg E w1 hm => by exact refPut_no [] 6 [n] (by rw [putOk_one, hfit]) (by simp) (by simp) (hm.rowOf (enc := encByte) (L := []) 0 rfl (fun _ => rfl)) (hm.rowOf (enc := encI64) (L := [n]) 1 rfl (fun _ => rfl))) ?_
   refine h_one 11 (by kernel_rfl) ?_
   refine yH 11 rfl rfl rfl rfl rfl ?_
   refine h_take 12 rfl (by kernel_rfl) rfl rfl rfl rfl (yV rfl) rfl ?_
   refine h_take 13 rfl (by kernel_rfl) rfl rfl rfl rfl (yV rfl) rfl ?_
   refine h_one 14 (by kernel_rfl) ?_
   refine yH 14 rfl rfl rfl rfl rfl ?_
   refine h_one 15 (by kernel_rfl) ?_
   refine yH 15 rfl rfl rfl rfl rfl ?_
   refine h_done [0, 1, 2, 3, 11, 12, 13] (by kernel_rfl) rfl ?_
   refine x_then (c_seq (c_seq (c_region ?_)))
   iterate 2 refine yO rfl rfl rfl rfl ?_
   refine o_end [0, 1, 2, 3, 11, 12, 40] rfl ?_
   refine x_then ?_
   refine c_cond rfl (fun h => ?_) (fun h => ?_)
   ·
    refine c_seq (c_region ?_)
    iterate 2 refine yO rfl rfl rfl rfl ?_
    refine o_end [8, 9] rfl ?_
    refine x_then (c_ret (x_then_ret (x_block_ret (x_then_ret (x_then_ret ?_)))))
    refine x_block_ret (x_then_ret ?_)
    refine b_ret tok rfl ?_
    intro E w' hm _
    refine ⟨?_, hm.below (Vw.le.refl _)⟩
    rfl
   ·
    exact absurd h (by decide)
  ·
   simp only [Xa, Xb, Xc, Xd, Xe, Xf, Xg, Xh, Xi, Xj, Xk, Xl, Xm, Xn, Xo, Xp] at h
   exact absurd h (by simp)
theorem shead_c (n : Int) (w : World) : Calls Tryz.prog 76 #[I n] w fun e w' => e = .returned (.tuple #[S (headS n).1, I (headS n).2]) ∧ Below w.heap.size w w' := by
 refine enter (E := E0) (O := []) (nl := 0) (V := vw w) [.a (.v (I n))] Tryz.func76 rfl rfl (mem0 E0 0 w) rfl rfl ?_
 refine c_seq (c_region ?_)
 iterate 2 refine yO rfl rfl rfl rfl ?_
 refine o_end [0] rfl ?_
 refine x_then (c_seq (c_region ?_))
 refine o_bs tok rfl rfl rfl rfl (fun b1 V1 hle1 hb1 => ?_)
 refine yO rfl rfl rfl rfl ?_
 refine o_bs tok rfl rfl rfl rfl (fun b2 V2 hle2 hb2 => ?_)
 have h1 := SlOf.ofBlock (enc := encI64) (sz := 1) (l := [6]) (hle2.get _ _ (hb1 rfl)) rfl (fun _ => rfl) (Nat.le_refl _)
 have h2 := SlOf.ofBlock (enc := encI64) (sz := 1) (l := [n]) (hb2 rfl) rfl (fun _ => rfl) (Nat.le_refl _)
 have key : ∀ w1, V2.le (vw w1) → Calls Tryz.prog 88 #[I8 2, S ByteArray.empty, .slice (some ⟨b1, 0, none⟩) 1 1, .slice (some ⟨b2, 0, none⟩) 1 1] w1 fun e w' => e = .returned (.tuple #[S (headS n).1, I (headS n).2]) ∧ Below w1.heap.size w1 w' := fun w1 hV => by
  cases hf : fitsB n 6 with
  | true =>
   have := make_c 2 (by unfold R8; omega) ByteArray.empty V2 _ _ [6] [n] w1 (by simp) hV h1 h2 rfl (by simp) (fun i k m hk hn => by
    cases i with
    | zero => cases hk; cases hn; rw [putOk_one, hf]
    | succ i => simp at hk) (fun i => by
    have h := pack_len ([6].take i) ([n].take i)
    have : (([6].take i).map Int.toNat).sum ≤ 6 := by
     match i with
     | 0 => decide
     | i + 1 => rw [List.take_of_length_le (by simp)]; decide
    omega)
   rw [hseal hf] at this
   exact this
  | false =>
   have := make1No_c 2 ByteArray.empty V2 _ _ n w1 hV h1 h2 hf
   rw [headS, if_neg (by simp [hf])]
   exact this
 refine o_call (.a (.v _)) rfl rfl fnok88 rfl rfl rfl (fun hg E w1 hm => by exact key _ hm.leV) ?_
 iterate 4 refine yO rfl rfl rfl rfl ?_
 refine o_end [2, 3] rfl ?_
 refine x_then (c_ret ?_)
 refine b_ret tok rfl ?_
 intro E w' hm _
 refine ⟨?_, hm.below ((hle1.trans hle2))⟩
 rfl
theorem refHeadS_c (n : Int) (w : World) : Calls Tryz.prog 20 #[I n] w fun e w' => e = .returned (.tuple #[S (headS n).1, I (headS n).2]) ∧ Below w.heap.size w w' := by
 refine enter (E := E0) (O := []) (nl := 0) (V := vw w) [.a (.v (I n))] Tryz.func20 rfl rfl (mem0 E0 0 w) rfl rfl ?_
 refine c_seq (c_region ?_)
 iterate 2 refine yO rfl rfl rfl rfl ?_
 refine o_end [0] rfl ?_
 refine x_then (c_seq (c_region ?_))
 refine o_bs tok rfl rfl rfl rfl (fun b1 V1 hle1 hb1 => ?_)
 refine yO rfl rfl rfl rfl ?_
 refine o_bs tok rfl rfl rfl rfl (fun b2 V2 hle2 hb2 => ?_)
 have h1 := SlOf.ofBlock (enc := encI64) (sz := 1) (l := [6]) (hle2.get _ _ (hb1 rfl)) rfl (fun _ => rfl) (Nat.le_refl _)
 have h2 := SlOf.ofBlock (enc := encI64) (sz := 1) (l := [n]) (hb2 rfl) rfl (fun _ => rfl) (Nat.le_refl _)
 have key : ∀ w1, V2.le (vw w1) → Calls Tryz.prog 37 #[I8 2, S ByteArray.empty, .slice (some ⟨b1, 0, none⟩) 1 1, .slice (some ⟨b2, 0, none⟩) 1 1] w1 fun e w' => e = .returned (.tuple #[S (headS n).1, I (headS n).2]) ∧ Below w1.heap.size w1 w' := fun w1 hV => by
  cases hf : fitsB n 6 with
  | true =>
   have := refMake_c 2 (by unfold R8; omega) ByteArray.empty V2 _ _ [6] [n] w1 (by simp) hV h1 h2 rfl (by simp) (fun i k m hk hn => by
    cases i with
    | zero => cases hk; cases hn; rw [putOk_one, hf]
    | succ i => simp at hk) (fun i => by
    have h := pack_len ([6].take i) ([n].take i)
    have : (([6].take i).map Int.toNat).sum ≤ 6 := by
     match i with
     | 0 => decide
     | i + 1 => rw [List.take_of_length_le (by simp)]; decide
    omega)
   rw [hseal hf] at this
   exact this
  | false =>
   have := refMake1No_c 2 ByteArray.empty V2 _ _ n w1 hV h1 h2 hf
   rw [headS, if_neg (by simp [hf])]
   exact this
 refine o_call (.a (.v _)) rfl rfl fnok37 rfl rfl rfl (fun hg E w1 hm => by exact key _ hm.leV) ?_
 iterate 4 refine yO rfl rfl rfl rfl ?_
 refine o_end [2, 3] rfl ?_
 refine x_then (c_ret ?_)
 refine b_ret tok rfl ?_
 intro E w' hm _
 refine ⟨?_, hm.below ((hle1.trans hle2))⟩
 rfl
def tailOk (s : ByteArray) : Option Int := match fieldsR 2 s [6] with
 | some (l, r) => if r.size = 0 then l[0]? else none
 | none => none
def tailV (s : ByteArray) : Int := (tailOk s).getD 0
def tailE (s : ByteArray) : Int := if (tailOk s).isSome then 0 else 50
theorem one_list {l : List Int} (h : l.length = 1) : ∃ a, l = [a] := by
 match l, h with
 | [a], _ => exact ⟨a, rfl⟩
theorem stail_c (s : ByteArray) (hs : s.size ≤ maxLen) (w : World) : Calls Tryz.prog 71 #[S s] w fun e w' => e = .returned (.tuple #[I (tailV s), I (tailE s)]) ∧ Below w.heap.size w w' := by
 refine enter (E := E0) (O := []) (nl := 0) (V := vw w) [.a (.v (S s))] Tryz.func71 rfl rfl (mem0 E0 0 w) rfl rfl ?_
 refine c_seq (c_region ?_)
 iterate 2 refine yO rfl rfl rfl rfl ?_
 refine o_end [0] rfl ?_
 refine x_then (c_seq (c_seq (c_region ?_)))
 refine yO rfl rfl rfl rfl ?_
 refine o_bs tok rfl rfl rfl rfl (fun b1 V1 hle1 hb1 => ?_)
 refine o_callV (FVal 2 s [6]) rfl rfl fnok82 rfl rfl (fun hg E w1 hm => by exact fval_of hm.leV (fields_c 2 s V1 _ [6] w1 hs hm.leV (SlOf.ofBlock (enc := encI64) (sz := 1) (l := [6]) (hb1 rfl) rfl (fun _ => rfl) (Nat.le_refl _)) (by simp))) ?_
 rintro x V2 hle2 hx
 have hx' := hx rfl
 clear hx
 rcases hx' with ⟨l, r, v, hfr, rfl, hsl⟩ | ⟨hfr, rfl⟩
 ·
  obtain ⟨a, rfl⟩ := one_list (by rw [fields_len hfr]; rfl)
  have e1 : ([a] : List Int)[0]? = some a := rfl
  iterate 7 refine yO rfl rfl rfl rfl ?_
  refine o_end [4, 5, 6] rfl ?_
  refine x_then (c_seq (c_region ?_))
  iterate 6 refine yO rfl rfl rfl rfl ?_
  refine o_end [4, 19] rfl ?_
  refine x_then ?_
  refine c_cond rfl (fun h => ?_) (fun h => ?_)
  ·
   refine c_seq (c_region ?_)
   refine yO rfl rfl rfl rfl ?_
   have hlt_a := lt_of_at e1
   refine o_yield rfl rfl rfl (y_idx tok rfl (fun hg => hsl.sl) (fun hg => ⟨by omega, by omega⟩)) ?_
   refine o_yield rfl rfl rfl (y_lel tok (0) 0 (a) rfl (fun hg => hsl) (fun hg => e1) rfl rfl) ?_
   iterate 2 refine yO rfl rfl rfl rfl ?_
   refine o_end [2, 3] rfl ?_
   refine x_then (c_ret (x_then_ret ?_))
   refine b_ret tok rfl ?_
   intro E w' hm _
   refine ⟨?_, hm.below ((hle1.trans hle2))⟩
   have : tailOk s = some a := by
    rw [tailOk, hfr]
    simp only
    rw [size_empty'] at h
    rw [if_pos (by simpa using h)]; rfl
   rw [tailV, tailE, this]; rfl
  ·
   refine c_skip (x_then (c_seq (c_region ?_)))
   iterate 2 refine yO rfl rfl rfl rfl ?_
   refine o_end [2, 3] rfl ?_
   refine x_then (c_ret ?_)
   refine b_ret tok rfl ?_
   intro E w' hm _
   refine ⟨?_, hm.below ((hle1.trans hle2))⟩
   have : tailOk s = none := by
    rw [tailOk, hfr]
    simp only
    rw [size_empty'] at h
    rw [if_neg (by simpa using h)]
   rw [tailV, tailE, this]; rfl
 ·
  iterate 7 refine yO rfl rfl rfl rfl ?_
  refine o_end [4, 5, 6] rfl ?_
  refine x_then (c_seq (c_region ?_))
  iterate 6 refine yO rfl rfl rfl rfl ?_
  refine o_end [4, 19] rfl ?_
  refine x_then ?_
  refine c_cond rfl (fun h => ?_) (fun h => ?_)
  · exact absurd h (by decide)
  ·
   refine c_skip (x_then (c_seq (c_region ?_)))
   iterate 2 refine yO rfl rfl rfl rfl ?_
   refine o_end [2, 3] rfl ?_
   refine x_then (c_ret ?_)
   refine b_ret tok rfl ?_
   intro E w' hm _
   refine ⟨?_, hm.below ((hle1.trans hle2))⟩
   have : tailOk s = none := by rw [tailOk, hfr]
   rw [tailV, tailE, this]; rfl
def gMk (g : Geo) : ByteArray × Int := sealS 1 (strOf (packL gW (gNums g)) ++ ByteArray.empty)
theorem rstail_c (s : ByteArray) (hs : s.size ≤ maxLen) (w : World) : Calls Tryz.prog 43 #[S s] w fun e w' => e = .returned (.tuple #[I (tailV s), I (tailE s)]) ∧ Below w.heap.size w w' := by
 refine enter (E := E0) (O := []) (nl := 0) (V := vw w) [.a (.v (S s))] Tryz.func43 rfl rfl (mem0 E0 0 w) rfl rfl ?_
 refine c_seq (c_region ?_)
 iterate 2 refine yO rfl rfl rfl rfl ?_
 refine o_end [0] rfl ?_
 refine x_then (c_seq (c_region ?_))
 refine yO rfl rfl rfl rfl ?_
 refine o_bs tok rfl rfl rfl rfl (fun b1 V1 hle1 hb1 => ?_)
 refine o_callV (FVal 2 s [6]) rfl rfl fnok50 rfl rfl (fun hg E w1 hm => by exact fval_of hm.leV (refFields_c 2 s V1 _ [6] w1 hs hm.leV (SlOf.ofBlock (enc := encI64) (sz := 1) (l := [6]) (hb1 rfl) rfl (fun _ => rfl) (Nat.le_refl _)) (by simp))) ?_
 rintro x V2 hle2 hx
 have hx' := hx rfl
 clear hx
 rcases hx' with ⟨l, r, v, hfr, rfl, hsl⟩ | ⟨hfr, rfl⟩
 ·
  obtain ⟨a, rfl⟩ := one_list (by rw [fields_len hfr]; rfl)
  have e1 : ([a] : List Int)[0]? = some a := rfl
  iterate 7 refine yO rfl rfl rfl rfl ?_
  refine o_end [4, 5, 6] rfl ?_
  refine x_then (c_seq (c_seq (c_region ?_)))
  iterate 6 refine yO rfl rfl rfl rfl ?_
  refine o_end [4, 19] rfl ?_
  refine x_then ?_
  refine c_cond rfl (fun h => ?_) (fun h => ?_)
  ·
   refine c_seq (c_region ?_)
   iterate 2 refine yO rfl rfl rfl rfl ?_
   refine o_end [2, 3] rfl ?_
   refine x_then (c_ret (x_then_ret ?_))
   refine b_ret tok rfl ?_
   intro E w' hm _
   refine ⟨?_, hm.below ((hle1.trans hle2))⟩
   have : tailOk s = none := by
    rw [tailOk, hfr]
    simp only
    rw [bne, size_empty'] at h
    rw [if_neg (by simpa using h)]
   rw [tailV, tailE, this]; rfl
  ·
   refine c_skip (x_then (c_seq (c_region ?_)))
   refine yO rfl rfl rfl rfl ?_
   have hlt_a := lt_of_at e1
   refine o_yield rfl rfl rfl (y_idx tok rfl (fun hg => hsl.sl) (fun hg => ⟨by omega, by omega⟩)) ?_
   refine o_yield rfl rfl rfl (y_lel tok (0) 0 (a) rfl (fun hg => hsl) (fun hg => e1) rfl rfl) ?_
   iterate 2 refine yO rfl rfl rfl rfl ?_
   refine o_end [2, 3] rfl ?_
   refine x_then (c_ret ?_)
   refine b_ret tok rfl ?_
   intro E w' hm _
   refine ⟨?_, hm.below ((hle1.trans hle2))⟩
   have : tailOk s = some a := by
    rw [tailOk, hfr]
    simp only
    rw [bne, size_empty'] at h
    rw [if_pos (by simpa using h)]; rfl
   rw [tailV, tailE, this]; rfl
 ·
  iterate 7 refine yO rfl rfl rfl rfl ?_
  refine o_end [4, 5, 6] rfl ?_
  refine x_then (c_seq (c_seq (c_region ?_)))
  iterate 6 refine yO rfl rfl rfl rfl ?_
  refine o_end [4, 19] rfl ?_
  refine x_then ?_
  refine c_cond rfl (fun h => ?_) (fun h => ?_)
  ·
   refine c_seq (c_region ?_)
   iterate 2 refine yO rfl rfl rfl rfl ?_
   refine o_end [2, 3] rfl ?_
   refine x_then (c_ret (x_then_ret ?_))
   refine b_ret tok rfl ?_
   intro E w' hm _
   refine ⟨?_, hm.below ((hle1.trans hle2))⟩
   have : tailOk s = none := by rw [tailOk, hfr]
   rw [tailV, tailE, this]; rfl
  ·
   exact absurd h (by decide)
theorem tail_seal {n : Int} (h : fitsB n 6 = true) : tailOk (strOf (sealL 2 (leB 6 n))) = some n := by
 have h6 : (packL [6] [n]) = leB 6 n := by simp [packL]
 have hl : (leB 6 n).length = 6 := by simp [leB, leTake_len]
 have hp := fldA_pack [6] [n] [] [] rfl (fun i k m hk hn => by
  cases i with
  | zero => cases hk; cases hn; exact h
  | succ i => simp at hk)
 rw [List.append_nil, h6] at hp
 have ho : openB (strOf (sealL 2 (leB 6 n))) = true := openB_seal (by decide) (by decide) (by omega)
 have hof : ofB 2 (strOf (sealL 2 (leB 6 n))) = true := by
  rw [ofB, ho, byteAt_seal, Bool.true_and]; decide
 have hfr : fieldsR 2 (strOf (sealL 2 (leB 6 n))) [6] = some ([] ++ [n], strOf []) := by
  rw [fieldsR, if_pos hof, loadOf_seal, hp]
 rw [tailOk, hfr]
 simp only
 rw [if_pos (by rw [strOf_size]; rfl)]
 rfl
theorem headS_eq {n : Int} (h : fitsB n 6 = true) : headS n = (strOf (sealL 2 (leB 6 n)), 0) := by rw [headS, if_pos h]
theorem tail_head {n : Int} (h : fitsB n 6 = true) : tailOk (headS n).1 = some n := by
 rw [headS_eq h]
 exact tail_seal h
def Geo.eqB (a b : Geo) : Bool := a.nodes == b.nodes && (a.slots == b.slots && (a.blocks == b.blocks && (a.per == b.per && (a.journal == b.journal && (a.log == b.log && (a.lease == b.lease && a.wait == b.wait))))))
def fmtTo (g : Geo) (top hd : ByteArray) : Nat → List ByteArray
 | 0 => (List.replicate (totV g).toNat ByteArray.empty).set 0 top
 | i + 1 => (fmtTo g top hd i).set (headV g (i : Int)).toNat hd
def fitB (d : Nat) (l : List ByteArray) : Bool := !((l.take d).any fun x => decide ((512 : Int) < x.size)) && !((l.drop d).any fun x => decide ((256 : Int) < x.size))
def headsOk (g : Geo) (l : List ByteArray) : Bool := (List.range g.slots.toNat).all fun i => decide (tailE (l.getD (headV g (i : Int)).toNat ByteArray.empty) = 0)
def chkG (l : List ByteArray) : Option Geo := match l with
 | [] => none
 | s :: r => match srOk s with
  | none => none
  | some g => if (((s :: r).length : Int) = totV g ∧ fitB (dataV g 0 0).toNat (s :: r) = true) ∧ headsOk g (s :: r) = true then some g else none
def chkV (l : List ByteArray) : Geo := (chkG l).getD geo0
def chkE (l : List ByteArray) : Int := if (chkG l).isSome then 0 else 50
end Go.Proofs.YtlafboeohojcbaaGreat

/- What is read of bytes was put there: the plain law. -/
set_option linter.unusedVariables false
set_option linter.unusedSimpArgs false
set_option maxRecDepth 100000
namespace Go.Proofs.YtlafboeohojcbaaGreat
open Go Go.Eng Go.RowKit
theorem pw_add (a b : Nat) : pw (a + b) = pw a * pw b := by rw [pw, pw, pw, Nat.pow_add]
theorem leTo_digit {f : Nat → Nat} (hf : ∀ j, f j < 256) : ∀ (k j : Nat), j < k → leTo f k / pw j % 256 = f j
 | k + 1, j, h => by
  have hlt := leTo_lt hf k
  have hfk := hf k
  rw [leTo]
  by_cases hjk : j = k
  ·
   subst hjk
   rw [Nat.add_mul_div_right _ _ (pw_pos j), Nat.div_eq_of_lt hlt, Nat.zero_add, Nat.mod_eq_of_lt hfk]
  ·
   have ih := leTo_digit hf k j (by omega)
   obtain ⟨d, rfl⟩ : ∃ d, k = (j + 1) + d := ⟨k - (j + 1), by omega⟩
   have e : f (j + 1 + d) * pw (j + 1 + d) = (f (j + 1 + d) * pw d * 256) * pw j := by
    rw [pw_add, pw_succ]
    simp only [Nat.mul_assoc, Nat.mul_comm, Nat.mul_left_comm]
   rw [e, Nat.add_mul_div_right _ _ (pw_pos j), Nat.add_mul_mod_self_right, ih]
theorem getSpec_val {s : ByteArray} {k : Nat} (h : (getSpec s 0 k).2 = 0) : (getSpec s 0 k).1 = ((leTo (digit s 0) k : Nat) : Int) := by
 unfold getSpec at h ⊢
 split at h
 · simp at h
 ·
  rename_i h1
  rw [if_neg h1]
  split at h
  · simp at h
  ·
   rename_i h2
   rw [if_neg h2]
   split at h
   · simp at h
   ·
    rename_i h3
    rw [if_neg h3]
    rfl
theorem getSpec_inv {s : ByteArray} {k : Nat} (h : (getSpec s 0 k).2 = 0) : s = strOf (leB k (getSpec s 0 k).1 ++ (restOf s k).data.toList) := by
 obtain ⟨hw, _, hle⟩ := getSpec_ok h
 have hsz := size_list s
 have hke : k ≤ s.data.toList.length := by omega
 apply str_ext
 rw [strOf_list, restOf_list, getSpec_val h]
 conv => lhs; rw [← List.take_append_drop k s.data.toList]
 congr 1
 apply List.ext_getElem
 · rw [List.length_take, leB, leTake_len, Int.toNat_natCast]; omega
 ·
  intro i h1 h2
  have hik : i < k := by rw [List.length_take] at h1; omega
  rw [List.getElem_take]
  simp only [leB, leTake, Int.toNat_natCast, List.getElem_map, List.getElem_range]
  rw [leTo_digit (digit_lt s 0) k i hik, digit, byteAt_list, Nat.zero_add, UInt8.ofNat_toNat]
  rw [List.getD_eq_getElem?_getD, List.getElem?_eq_getElem (by omega)]
  rfl
theorem fld_inv : ∀ (ks acc : List Int) (rest : ByteArray) {l : List Int} {r : ByteArray}, fldA acc rest ks = some (l, r) → ∃ l', l = acc ++ l' ∧ l'.length = ks.length ∧ rest.data.toList = packL ks l' ++ r.data.toList
 | [], acc, rest, l, r, h => by
  simp only [fldA, Option.some.injEq, Prod.mk.injEq] at h
  exact ⟨[], by simp [h.1], rfl, by simp [packL, h.2]⟩
 | k :: ks, acc, rest, l, r, h => by
  rw [fldA] at h
  split at h
  · cases h
  ·
   rename_i hg
   have hg0 : (getSpec rest 0 k).2 = 0 := Decidable.not_not.1 hg
   obtain ⟨hw, _, _⟩ := getSpec_ok hg0
   obtain ⟨m, rfl⟩ : ∃ m : Nat, k = m := ⟨k.toNat, by have := width_cases hw; omega⟩
   obtain ⟨l', h1, h2, h3⟩ := fld_inv ks _ _ h
   refine ⟨(getSpec rest 0 m).1 :: l', by rw [h1]; simp, by simp [h2], ?_⟩
   have := congrArg (fun x : ByteArray => x.data.toList) (getSpec_inv hg0)
   simp only [strOf_list] at this
   rw [Int.toNat_natCast] at h3
   rw [this, h3, packL, List.append_assoc]
theorem flds_inv {kind : Int} {s : ByteArray} {ks l : List Int} {r : ByteArray} (h : fieldsR kind s ks = some (l, r)) (hr : r.size = 0) : s = strOf (sealL (byteAt s 0) (packL ks l)) ∧ ((byteAt s 0).toNat : Int) = kind := by
 unfold fieldsR at h
 split at h
 ·
  rename_i ho
  simp only [ofB, Bool.and_eq_true, decide_eq_true_eq] at ho
  obtain ⟨ho, hk⟩ := ho
  refine ⟨?_, hk⟩
  obtain ⟨l', h1, h2, h3⟩ := fld_inv _ _ _ h
  simp only [List.nil_append] at h1
  subst h1
  have hr0 : r.data.toList = [] := List.length_eq_zero_iff.1 (by rw [size_list]; exact hr)
  rw [hr0, List.append_nil] at h3
  simp only [openB, Bool.and_eq_true, decide_eq_true_eq] at ho
  apply str_ext
  rw [strOf_list, ← h3]
  exact ho.2.symm
 · cases h
theorem tail_inv {s : ByteArray} {n : Int} (h : tailOk s = some n) : headS n = (s, 0) ∧ 0 ≤ n ∧ n ≤ 1099511627776 := by
 unfold tailOk at h
 split at h
 ·
  rename_i l r hfr
  split at h
  ·
   rename_i hq
   obtain ⟨a, rfl⟩ := one_list (l := l) (by rw [fields_len hfr]; rfl)
   have han : a = n := by simpa using h
   subst han
   obtain ⟨h1, h2⟩ := flds_inv hfr hq
   have hb : byteAt s 0 = 2 := UInt8.toNat_inj.1 (by have : (2 : UInt8).toNat = 2 := rfl; omega)
   rw [hb] at h1
   have hbnd : 0 ≤ a ∧ a ≤ 1099511627776 := by
    unfold fieldsR at hfr
    split at hfr
    ·
     simp only [fldA] at hfr
     split at hfr
     · cases hfr
     ·
      simp only [List.nil_append, Option.some.injEq, Prod.mk.injEq, List.cons.injEq, and_true] at hfr
      rw [← hfr.1]
      exact getSpec_64 _ _ _
    · cases hfr
   have hfit : fitsB a 6 = true := by
    have : mostN (6 : Int).toNat = 1099511627776 := by decide
    rw [fitsB, this]
    simp [widthB]; omega
   have h6 : (packL [6] [a]) = leB 6 a := by simp [packL]
   rw [h6] at h1
   exact ⟨by rw [headS_eq hfit, ← h1], hbnd⟩
  · cases h
 · cases h
theorem fits6 (n : Int) : fitsB n 6 = (decide (0 ≤ n) && decide (n ≤ 1099511627776)) := by
 have : mostN (6 : Int).toNat = 1099511627776 := by decide
 rw [fitsB, this]
 simp [widthB]
theorem headS_tail (n : Int) : ((headS n).2 = 0 ↔ 0 ≤ n ∧ n ≤ 1099511627776) ∧ ((headS n).2 = 0 → tailOk (headS n).1 = some n) := by
 by_cases h : fitsB n 6 = true
 ·
  have h2 := h
  rw [fits6] at h2
  simp only [Bool.and_eq_true, decide_eq_true_eq] at h2
  exact ⟨⟨fun _ => h2, fun _ => by rw [headS_eq h]⟩, fun _ => tail_head h⟩
 ·
  have h2 := h
  rw [fits6] at h2
  simp only [Bool.and_eq_true, decide_eq_true_eq] at h2
  have h3 : (headS n).2 = 2 := by rw [headS, if_neg h]
  exact ⟨⟨fun h4 => by omega, fun h4 => absurd h4 h2⟩, fun h4 => by omega⟩
theorem head_pos {g : Geo} (hg : geoB g = true) {k : Nat} (hk : (k : Int) < g.slots) : 1 ≤ headV g (k : Int) ∧ headV g (k : Int) < dataAt g := by
 have hf := geo_facts hg
 have hh : headV g (k : Int) = 1 + 2 * g.nodes + g.log + (k : Int) * (1 + g.journal) := by rw [headV, if_pos ⟨hg, by omega, hk⟩]
 have hd : dataAt g = 1 + 2 * g.nodes + g.log + g.slots * (1 + g.journal) := rfl
 have h1 : 0 ≤ (k : Int) * (1 + g.journal) := Int.mul_nonneg (by omega) (by omega)
 have h2 : ((k : Int) + 1) * (1 + g.journal) ≤ g.slots * (1 + g.journal) := Int.mul_le_mul_of_nonneg_right (by omega) (by omega)
 rw [Int.add_mul] at h2
 omega
theorem head_inj {g : Geo} (hg : geoB g = true) {i k : Nat} (hi : (i : Int) < g.slots) (hk : (k : Int) < g.slots) (h : headV g (i : Int) = headV g (k : Int)) : i = k := by
 have hf := geo_facts hg
 rw [headV, if_pos ⟨hg, by omega, hi⟩, headV, if_pos ⟨hg, by omega, hk⟩] at h
 have h2 : (i : Int) * (1 + g.journal) = (k : Int) * (1 + g.journal) := by omega
 have := Int.eq_of_mul_eq_mul_right (by omega) h2
 omega
theorem bmayS_c (sv : Value) (l : List Block) (g : Geo) (ok : g.Ok) (b : Nat) (w : World) (hb : w.heap[b]? = some (.cells (sv :: g.cells).toArray 159 (0, 0))) (hs0 : SlOf ((vw w).del b) Block.cells 2 sv l) (hn : l.length ≤ maxLen) :
  Calls Tryz.prog 107 #[.pointer (some ⟨b, 0, none⟩)] w fun e w' => e = .returned (.bool (mayL g l)) ∧ Below w.heap.size w w' := by
 have hs := hs0
 simp only [maxLen] at hn
 refine enter1 [.a (.ptr 0 0)] hb Tryz.func107 rfl rfl rfl rfl ?_
 refine c_seq (c_region ?_)
 refine yO rfl rfl rfl rfl ?_
 refine o_end [0] rfl ?_
 refine x_then (c_seq (c_seq (c_region ?_)))
 iterate 4 refine yO rfl rfl rfl rfl ?_
 refine o_call (.a (.v _)) rfl rfl fnok79 rfl rfl rfl (fun hg E w1 hm => by exact geoMay_c g ok _) ?_
 refine yO rfl rfl rfl rfl ?_
 refine o_end [0, 11] rfl ?_
 refine x_then ?_
 refine c_cond rfl (fun h => ?_) (fun h => ?_)
 ·
  simp only [Xa, Xb, Xc, Xd, Xe, Xf, Xg, Xh, Xi, Xj, Xk, Xl, Xm, Xn, Xo, Xp] at h
  refine c_seq (c_region ?_)
  refine yO rfl rfl rfl rfl ?_
  refine o_end [2] rfl ?_
  refine x_then (c_ret (x_then_ret ?_))
  refine b_ret tok rfl ?_
  intro E w' hm _
  exact ⟨by rw [mayL, h]; rfl, below1 hb hm (Vw.le.refl _) rfl rfl rfl⟩
 ·
  simp only [Xa, Xb, Xc, Xd, Xe, Xf, Xg, Xh, Xi, Xj, Xk, Xl, Xm, Xn, Xo, Xp] at h
  have hgg := h
  have hf := geo_facts hgg
  clear h
  have hmL : mayL g l = mayF g (-1) l := by rw [mayL, hgg, Bool.true_and]
  have hwp : IntKind.i64.wrap (g.per * 256) = g.per * 256 := wrapI (by omega) (by omega)
  refine c_skip (x_then (c_seq (c_region ?_)))
  refine yO rfl rfl rfl rfl ?_
  refine o_end [0, 3] rfl ?_
  refine x_then (c_seq (c_seq (c_region ?_)))
  iterate 5 refine yO rfl rfl rfl rfl ?_
  refine o_yield rfl rfl rfl (y_len tok rfl (fun hg => hs.sl)) ?_
  refine yO rfl rfl rfl rfl ?_
  refine o_end [0, 3, 16, 17, 18] rfl ?_
  refine x_then (c_block ?_)
  refine c_loopK [0, 16, 17] [0, 1, 2] rfl rfl (σ := Nat) (fun i => [(3, .a (.v (I (lastN l i)))), (18, .a (.v (I i)))]) (fun i => [(0, .lit ((sv :: g.cells).map .v) 159), (1, .pin 0 b), (2, .size w.heap.size)]) (fun i => i ≤ l.length ∧ mayF g (-1) l = mayF g (lastN l i) (l.drop i) ∧ -1 ≤ lastN l i) (fun i => l.length - i) (0) (⟨by omega, rfl, by simp [lastN]⟩) (by repeat (first | exact fN | refine fC rfl ?_)) (by repeat (first | exact oN | refine oC rfl ?_)) rfl ?_
  rintro i ⟨hi, heq, hlast⟩
  refine c_seq (c_region ?_)
  refine yO rfl rfl rfl rfl ?_
  refine o_end [0, 3, 16, 17, 18, 19] rfl ?_
  refine x_then (c_seq ?_)
  refine c_cond rfl (fun h => ?_) (fun h => ?_)
  ·
   simp only [Xa, Xb, Xc, Xd, Xe, Xf, Xg, Xh, Xi, Xj, Xk, Xl, Xm, Xn, Xo, Xp] at h
   refine c_skip (x_then (c_seq (c_block (c_seq (c_region ?_)))))
   obtain ⟨x, h_x⟩ := hs.at (k := i) (by omega)
   rw [drop_at h_x] at heq
   have hlt_x := lt_of_at h_x
   refine o_yield rfl rfl rfl (y_idx tok rfl (fun hg => hs.sl) (fun hg => ⟨by omega, by omega⟩)) ?_
   refine o_yield rfl rfl rfl (y_lel tok (i) 0 (x) rfl (fun hg => hs) (fun hg => h_x) rfl rfl) ?_
   refine o_new tok rfl rfl rfl rfl ?_
   refine o_store tok rfl rfl rfl (by first | (repeat' first | exact trivial | exact rfl | apply And.intro); done | simp [onesP, oneP, lk, Value.oneCell']) ?_
   refine o_end [0, 3, 5, 16, 17, 18] rfl ?_
   refine x_then (c_seq (c_seq ?_))
   refine c_draw mixed (by kernel_rfl) ?_
   iterate 26 refine d_yield rfl rfl rfl (yV rfl) rfl ?_
   refine d_end [0, 5, 16, 17, 18, 47] rfl ?_
   refine x_then ?_
   refine c_cond rfl (fun h => ?_) (fun h => ?_)
   ·
    simp only [Xa, Xb, Xc, Xd, Xe, Xf, Xg, Xh, Xi, Xj, Xk, Xl, Xm, Xn, Xo, Xp] at h
    refine c_seq (c_region ?_)
    refine yO rfl rfl rfl rfl ?_
    refine o_end [2] rfl ?_
    refine x_then (c_ret (x_then_ret (x_block_ret (x_then_ret (x_then_ret ?_)))))
    refine x_block_ret (x_then_ret ?_)
    refine b_ret tok rfl ?_
    rw [hwp] at h
    have hno : mayF g (lastN l i) (x :: l.drop (i + 1)) = false := by
     rw [Bool.eq_false_iff]
     intro hc
     obtain ⟨⟨h1, h2, h3⟩, _⟩ := mayF_cons.1 hc
     omega
    intro E w' hm _
    exact ⟨by rw [hmL, heq, hno]; rfl, below1 hb hm (Vw.le.refl _) rfl rfl rfl⟩
   ·
    simp only [Xa, Xb, Xc, Xd, Xe, Xf, Xg, Xh, Xi, Xj, Xk, Xl, Xm, Xn, Xo, Xp] at h
    refine c_skip (x_then (c_region ?_))
    iterate 3 refine yO rfl rfl rfl rfl ?_
    refine o_end [0, 3, 16, 17, 18] rfl ?_
    refine x_block (x_then (c_region ?_))
    iterate 2 refine yO rfl rfl rfl rfl ?_
    refine o_end [0, 3, 16, 17, 18] rfl ?_
    refine x_then ?_
    rw [hwp] at h
    have hyes : mayF g (lastN l i) (x :: l.drop (i + 1)) = mayF g x.n (l.drop (i + 1)) := by
     rw [mayF, decide_eq_true (by omega), Bool.true_and]
    rw [wrapI (n := (i : Int) + 1) (by omega) (by omega)]
    have hls := lastN_succ h_x
    rw [← hls]
    refine x_round (i + 1) (⟨by omega, by rw [heq, hyes, hls], by rw [hls]; omega⟩) (by first | omega | (dsimp only; omega)) (by repeat (first | exact fN | refine fC rfl ?_)) (by repeat (first | exact oN | refine oC rfl ?_)) rfl (Vw.le.refl _)
  ·
   simp only [Xa, Xb, Xc, Xd, Xe, Xf, Xg, Xh, Xi, Xj, Xk, Xl, Xm, Xn, Xo, Xp] at h
   refine c_exit (x_then_exit (x_then_exit (x_block_hit (x_then (c_seq ?_)))))
   refine c_region ?_
   refine yO rfl rfl rfl rfl ?_
   refine o_end [2] rfl ?_
   refine x_then (c_ret ?_)
   refine b_ret tok rfl ?_
   have hkL : i = l.length := by omega
   subst hkL
   rw [List.drop_length, mayF] at heq
   intro E w' hm _
   exact ⟨by rw [hmL, heq]; rfl, below1 hb hm (Vw.le.refl _) rfl rfl rfl⟩
theorem bmay_c (V : Vw) (g : Geo) (ok : g.Ok) (sv : Value) (l : List Block) (w : World) (hV : V.le (vw w)) (hs0 : SlOf V Block.cells 2 sv l) (hn : l.length ≤ maxLen) :
  Calls Tryz.prog 95 #[g.val, sv] w fun e w' => e = .returned (.bool (mayL g l)) ∧ Below w.heap.size w w' := by
 obtain ⟨a, n, c, rfl⟩ := sl_shape hs0.sl
 have hs := hs0.mono hV
 refine enter (E := E0) (O := []) (nl := 0) (V := vw w) [.a (.v g.val), .a (.v (.slice a n c))] Tryz.func95 rfl rfl (mem0 E0 0 w) rfl rfl ?_
 refine c_seq (c_region ?_)
 refine o_new tok rfl rfl rfl rfl ?_
 refine yO rfl rfl rfl rfl ?_
 refine o_end [1, 2] rfl ?_
 refine x_then (c_seq (c_region ?_))
 iterate 4 refine yO rfl rfl rfl rfl ?_
 refine o_new tok rfl rfl rfl rfl ?_
 refine o_call (.a (.v _)) rfl rfl fnok107 rfl rfl rfl (fun hg E w1 hm => by exact bmayS_c _ l g ok _ _ (hm.lit 1 _ _ rfl) (hs.mono (hm.leDel (l := 1) rfl)) hn) ?_
 refine yO rfl rfl rfl rfl ?_
 refine o_end [4] rfl ?_
 refine x_then (c_ret ?_)
 refine b_ret tok rfl ?_
 intro E w' hm _
 refine ⟨?_, hm.below (Vw.le.refl _)⟩
 rfl
theorem pieceL_len (t : ByteArray) (k : Nat) : (pieceL k t).length = k := by simp [pieceL]
theorem pieces_cV (V : Vw) (g : Geo) (ok : g.Ok) (text : ByteArray) (w : World) (hV : V.le (vw w)) (ht : text.size ≤ maxLen) (hg : geoB g = true) (hle : (text.size : Int) ≤ g.per * 256) :
  Calls Tryz.prog 96 #[g.val, S text] w fun e w' => ∃ x V', e = .returned x ∧ Below w.heap.size w w' ∧ Vext w.heap.size V V' w' ∧ ∃ a n c, x = .tuple #[.slice a n c, I 0] ∧ SlOf V' encS 1 (.slice a n c) (pieceL g.per.toNat text) := by
 refine (pieces_c g ok text w ht).mono ?_
 rintro e w' ⟨h | h | h, hb⟩
 ·
  obtain ⟨_, _, v, rfl, hrow⟩ := h
  obtain ⟨V', hx, hsl⟩ := ownsRow_vext hV hb hrow
  obtain ⟨a, n, c, rfl⟩ := sl_shape hsl
  exact ⟨_, V', rfl, hb, hx, a, n, c, rfl, hsl, fun _ => rfl⟩
 · rw [hg] at h; cases h.1
 · omega
def cellAt (g : Geo) (per : Nat) (l : List Block) (j : Nat) : Cell := ⟨dataV g (blkAt l (j / per)).n ((j % per : Nat) : Int), pieceAt (blkAt l (j / per)).text (j % per)⟩
def cellsN (g : Geo) (per : Nat) (l : List Block) (n : Nat) : List Cell := (List.range n).map (cellAt g per l)
theorem cellsN_len (g : Geo) (per : Nat) (l : List Block) (n : Nat) : (cellsN g per l n).length = n := by simp [cellsN]
theorem cellsN_succ (g : Geo) (per : Nat) (l : List Block) (n : Nat) : cellsN g per l (n + 1) = cellsN g per l n ++ [cellAt g per l n] := by simp [cellsN, List.range_succ]
theorem cellsN_at {g : Geo} {per : Nat} {l : List Block} {n j : Nat} (h : j < n) : (cellsN g per l n)[j]? = some (cellAt g per l j) := by simp [cellsN, List.getElem?_range h]
theorem cellAt_eq (g : Geo) {per : Nat} {l : List Block} {i k : Nat} {b : Block} (hb : l[i]? = some b) (hk : k < per) : cellAt g per l (i * per + k) = ⟨dataV g b.n (k : Int), pieceAt b.text k⟩ := by
 have h1 : (i * per + k) / per = i := by rw [Nat.add_comm, Nat.add_mul_div_right _ _ (by omega), Nat.div_eq_of_lt hk, Nat.zero_add]
 have h2 : (i * per + k) % per = k := by rw [Nat.add_comm, Nat.add_mul_mod_self_right, Nat.mod_eq_of_lt hk]
 rw [cellAt, h1, h2, blkAt_eq hb]
theorem cell_ones (l : List Cell) : ∀ u ∈ l.flatMap Cell.cells, u.oneCell' = true := by
 intro u hu
 obtain ⟨x, _, hx⟩ := List.mem_flatMap.1 hu
 simp only [Cell.cells, List.mem_cons, List.not_mem_nil, or_false] at hx
 rcases hx with rfl | rfl <;> rfl
def allCells (g : Geo) (l : List Block) : List Cell := cellsN g g.per.toNat l (l.length * g.per.toNat)
def CelPost (g : Geo) (l : List Block) (w : World) (e : Ending) (w' : World) : Prop :=
 ((mayL g l = true ∧ ∃ v, e = .returned (.tuple #[v, I 0]) ∧ w'.ownsRow w.heap.size 126 2 v (allCells g l).length ((allCells g l).flatMap Cell.cells)) ∨
  (mayL g l = false ∧ e = .returned (.tuple #[.slice none 0 0, I 2]))) ∧ Below w.heap.size w w'
theorem bcells_c (V : Vw) (g : Geo) (ok : g.Ok) (sv : Value) (l : List Block) (w : World) (hV : V.le (vw w)) (hs0 : SlOf V Block.cells 2 sv l) (hn : l.length ≤ maxLen) :
  Calls Tryz.prog 84 #[g.val, sv] w (CelPost g l w) := by
 have hs := hs0.mono hV
 have hn0 := hn
 simp only [maxLen] at hn
 refine enter (E := E0) (O := []) (nl := 0) (V := vw w) [.a (.v g.val), .a (.v sv)] Tryz.func84 rfl rfl (mem0 E0 0 w) rfl rfl ?_
 refine c_seq (c_region ?_)
 refine o_new tok rfl rfl rfl rfl ?_
 iterate 2 refine yO rfl rfl rfl rfl ?_
 refine o_end [1, 2, 4] rfl ?_
 refine x_then (c_seq (c_seq (c_region ?_)))
 iterate 2 refine yO rfl rfl rfl rfl ?_
 refine o_call (.a (.v _)) rfl rfl fnok95 rfl rfl rfl (fun hg E w1 hm => by exact bmay_c (vw w) g ok sv l _ hm.leV hs hn0) ?_
 refine yO rfl rfl rfl rfl ?_
 refine o_end [1, 2, 4, 15] rfl ?_
 refine x_then ?_
 refine c_cond rfl (fun h => ?_) (fun h => ?_)
 ·
  simp only [Xa, Xb, Xc, Xd, Xe, Xf, Xg, Xh, Xi, Xj, Xk, Xl, Xm, Xn, Xo, Xp] at h
  refine c_seq (c_region ?_)
  iterate 2 refine yO rfl rfl rfl rfl ?_
  refine o_end [4, 5] rfl ?_
  refine x_then (c_ret (x_then_ret ?_))
  refine b_ret tok rfl ?_
  intro E w' hm _
  exact ⟨.inr ⟨h, rfl⟩, hm.below (Vw.le.refl _)⟩
 ·
  simp only [Xa, Xb, Xc, Xd, Xe, Xf, Xg, Xh, Xi, Xj, Xk, Xl, Xm, Xn, Xo, Xp] at h
  have hml := h
  clear h
  have hlen := mayL_len hml
  have hmay := hml
  rw [mayL, Bool.and_eq_true] at hmay
  have hf := geo_facts hmay.1
  have hat := mayF_at hmay.2
  obtain ⟨per, hper⟩ : ∃ per : Nat, g.per = per := ⟨g.per.toNat, by omega⟩
  have hpn : g.per.toNat = per := by omega
  refine c_skip (x_then (c_seq (c_seq (c_region ?_))))
  refine yO rfl rfl rfl rfl ?_
  refine o_yield rfl rfl rfl (y_len tok rfl (fun hg => hs.sl)) ?_
  refine yO rfl rfl rfl rfl ?_
  refine o_end [2, 4, 16, 17, 18] rfl ?_
  refine x_then (c_block ?_)
  refine k_nil 4 126 2 rfl rfl ?_
  have e0 : cellsN g per l (0 * per) = [] := by simp [cellsN]
  refine c_loopK [2, 16, 17] [1, 0] rfl rfl (σ := Nat) (fun i => [(4, .a (.row 1)), (18, .a (.v (I i)))]) (fun i => [(1, .row 126 2 (cellsN g per l (i * per)).length ((cellsN g per l (i * per)).flatMap Cell.cells)), (0, .lit (g.cells.map .v) 23)]) (fun i => i ≤ l.length) (fun i => l.length - i) (0) (by omega) (by repeat (first | exact SubF.nil | refine SubF.cons rfl ?_ | refine SubF.cons (by simp only [e0]; first | done | rfl) ?_)) (by repeat (first | exact SubO.nil | refine SubO.cons rfl ?_ | refine SubO.cons (by simp only [e0]; first | done | rfl) ?_)) rfl ?_
  rintro i hi
  have hip : i * per ≤ 512 := by
   have : i * per ≤ 64 * per := Nat.mul_le_mul_right _ (by omega)
   omega
  refine c_seq (c_region ?_)
  refine yO rfl rfl rfl rfl ?_
  refine o_end [2, 4, 16, 17, 18, 19] rfl ?_
  refine x_then (c_seq ?_)
  refine c_cond rfl (fun h => ?_) (fun h => ?_)
  ·
   simp only [Xa, Xb, Xc, Xd, Xe, Xf, Xg, Xh, Xi, Xj, Xk, Xl, Xm, Xn, Xo, Xp] at h
   refine c_skip (x_then (c_seq (c_block (c_seq (c_region ?_)))))
   obtain ⟨x, h_x⟩ := hs.at (k := i) (by omega)
   have hlt_x := lt_of_at h_x
   refine o_yield rfl rfl rfl (y_idx tok rfl (fun hg => hs.sl) (fun hg => ⟨by omega, by omega⟩)) ?_
   refine o_yield rfl rfl rfl (y_lel tok (i) 0 (x) rfl (fun hg => hs) (fun hg => h_x) rfl rfl) ?_
   refine o_new tok rfl rfl rfl rfl ?_
   refine o_store tok rfl rfl rfl (by first | (repeat' first | exact trivial | exact rfl | apply And.intro); done | simp [onesP, oneP, lk, Value.oneCell']) ?_
   refine o_end [2, 4, 7, 16, 17, 18] rfl ?_
   refine x_then (c_seq (c_region ?_))
   iterate 3 refine yO rfl rfl rfl rfl ?_
   obtain ⟨_, _, hx3, _, _⟩ := hat i x h_x
   have hxs : x.text.size ≤ 2048 := by omega
   have hpl : (pieceL per x.text).length = per := pieceL_len _ _
   refine o_callV (fun y V' => ∃ a n c, y = .tuple #[.slice a n c, I 0] ∧ SlOf V' encS 1 (.slice a n c) (pieceL per x.text)) rfl rfl fnok96 rfl rfl (fun hg E w1 hm => by exact by have := pieces_cV (vw w) g ok x.text w1 hm.leV (by simp only [maxLen]; omega) hmay.1 hx3; rw [hpn] at this; exact this) ?_
   rintro y V1 hle1 hy
   obtain ⟨a1, n1, c1, rfl, hs1⟩ := hy rfl
   iterate 5 refine yO rfl rfl rfl rfl ?_
   refine o_end [2, 4, 7, 8, 16, 17, 18] rfl ?_
   refine x_then (c_seq (c_region ?_))
   refine yO rfl rfl rfl rfl ?_
   refine o_yield rfl rfl rfl (y_len tok rfl (fun hg => hs1.sl)) ?_
   refine yO rfl rfl rfl rfl ?_
   refine o_end [2, 4, 7, 16, 17, 18, 29, 30, 31] rfl ?_
   refine x_then (c_block ?_)
   refine c_loopK [2, 7, 16, 17, 18, 29, 30] [1, 0, 2] rfl rfl (σ := Nat) (fun k => [(4, .a (.row 1)), (31, .a (.v (I k)))]) (fun k => [(1, .row 126 2 (cellsN g per l (i * per + k)).length ((cellsN g per l (i * per + k)).flatMap Cell.cells)), (0, .lit (g.cells.map .v) 23), (2, .lit (x.cells.map .v) 72)]) (fun k => k ≤ per) (fun k => per - k) (0) (by omega) (by repeat (first | exact fN | refine fC rfl ?_)) (by repeat (first | exact oN | refine oC rfl ?_)) rfl ?_
   rintro k hk
   refine c_seq (c_region ?_)
   refine yO rfl rfl rfl rfl ?_
   refine o_end [2, 4, 7, 16, 17, 18, 29, 30, 31, 32] rfl ?_
   refine x_then (c_seq ?_)
   refine c_cond rfl (fun h => ?_) (fun h => ?_)
   ·
    simp only [Xa, Xb, Xc, Xd, Xe, Xf, Xg, Xh, Xi, Xj, Xk, Xl, Xm, Xn, Xo, Xp] at h
    refine c_skip (x_then (c_seq (c_block (c_seq (c_region ?_)))))
    refine yO rfl rfl rfl rfl ?_
    have hklt : k < per := by omega
    have hp : (pieceL per x.text)[k]? = some (pieceAt x.text k) := by simp [pieceL, List.getElem?_range hklt]
    have hca := cellAt_eq g h_x hklt
    have hl1 : (cellsN g per l (i * per + k)).length + 1 = (cellsN g per l (i * per + (k + 1))).length := by rw [cellsN_len, cellsN_len]; omega
    have hlt_pieceAt_x_text_k := lt_of_at hp
    refine o_yield rfl rfl rfl (y_idx tok rfl (fun hg => hs1.sl) (fun hg => ⟨by omega, by omega⟩)) ?_
    refine o_yield rfl rfl rfl (y_lel tok (k) 0 (pieceAt x.text k) rfl (fun hg => hs1) (fun hg => hp) rfl rfl) ?_
    iterate 2 refine yO rfl rfl rfl rfl ?_
    refine o_end [2, 4, 7, 10, 11, 16, 17, 18, 29, 30, 31] rfl ?_
    refine x_then (c_region ?_)
    iterate 5 refine yO rfl rfl rfl rfl ?_
    refine o_call (.a (.v _)) rfl rfl fnok97 rfl rfl rfl (fun hg E w1 hm => by exact data_c g ok x.n k _) ?_
    iterate 2 refine yO rfl rfl rfl rfl ?_
    refine o_step rfl rfl rfl rfl rfl (s_bs tok 2 rfl rfl rfl) (fun _ _ => ?_)
    refine o_step rfl rfl rfl rfl rfl (s_app tok ([cellAt g per l (i * per + k)].flatMap Cell.cells) rfl (fun E w hm => by rw [hca]; exact ownsRow_src (hm.row _ _ _ _ _ rfl)) (fun _ _ _ => cell_ones _) (by dsimp only; rw [cellsN_len]; omega)) (fun _ _ => ?_)
    refine yO rfl rfl rfl rfl ?_
    refine o_end [2, 4, 7, 16, 17, 18, 29, 30, 31] rfl ?_
    refine x_block (x_then (c_region ?_))
    iterate 2 refine yO rfl rfl rfl rfl ?_
    refine o_end [2, 4, 7, 16, 17, 18, 29, 30, 31] rfl ?_
    refine x_then ?_
    rw [hl1, ← List.flatMap_append, ← cellsN_succ, wrapI (n := (k : Int) + 1) (by omega) (by omega)]
    refine k_swap 1 4 rfl ?_
    refine x_round (k + 1) (by omega) (by first | omega | (dsimp only; omega)) (by repeat (first | exact fN | refine fC rfl ?_)) (by repeat (first | exact oN | refine oC rfl ?_)) rfl (Vw.le.refl _)
   ·
    simp only [Xa, Xb, Xc, Xd, Xe, Xf, Xg, Xh, Xi, Xj, Xk, Xl, Xm, Xn, Xo, Xp] at h
    refine c_exit (x_then_exit (x_then_exit (x_block_hit (x_block (x_then ?_)))))
    refine c_region ?_
    iterate 2 refine yO rfl rfl rfl rfl ?_
    refine o_end [2, 4, 16, 17, 18] rfl ?_
    refine x_then ?_
    have hkp : k = per := by omega
    subst hkp
    rw [wrapI (n := (i : Int) + 1) (by omega) (by omega), show i * k + k = (i + 1) * k by rw [Nat.add_mul, Nat.one_mul]]
    refine x_round (i + 1) (by omega) (by first | omega | (dsimp only; omega)) (by repeat (first | exact fN | refine fC rfl ?_)) (by repeat (first | exact oN | refine oC rfl ?_)) rfl (hle1)
  ·
   simp only [Xa, Xb, Xc, Xd, Xe, Xf, Xg, Xh, Xi, Xj, Xk, Xl, Xm, Xn, Xo, Xp] at h
   refine c_exit (x_then_exit (x_then_exit (x_block_hit (x_then (c_seq ?_)))))
   refine c_region ?_
   iterate 3 refine yO rfl rfl rfl rfl ?_
   refine o_end [4, 5] rfl ?_
   refine x_then (c_ret ?_)
   refine b_ret tok rfl ?_
   have hil : i = l.length := by omega
   subst hil
   intro E w' hm _
   refine ⟨.inl ⟨hml, E.κ 1, rfl, ?_⟩, hm.below (Vw.le.refl _)⟩
   rw [allCells, hpn]
   exact hm.rowFresh (Vw.le.refl _) (l := 1) rfl
theorem dataV_eq {g : Geo} {n k : Int} (h : geoB g = true) (h1 : 0 ≤ n) (h2 : n < g.blocks) (h3 : 0 ≤ k) (h4 : k < g.per) : dataV g n k = dataAt g + n * g.per + k := by
 rw [dataV, if_pos ⟨h, h1, h2, h3, h4⟩]
theorem cell_up {g : Geo} {l : List Block} {per i : Nat} (hml : mayL g l = true) (hper : g.per = per) (hi : i < l.length * per) (h0 : 0 < i) : (cellAt g per l (i - 1)).sector < (cellAt g per l i).sector := by
 have hmay := hml
 rw [mayL, Bool.and_eq_true] at hmay
 have hf := geo_facts hmay.1
 have hat := mayF_at hmay.2
 have hp : 0 < per := by omega
 obtain ⟨q, r, hr, hiq⟩ : ∃ q r, r < per ∧ i = q * per + r := ⟨i / per, i % per, Nat.mod_lt _ hp, by rw [Nat.mul_comm]; exact (Nat.div_add_mod i per).symm⟩
 have hq : q < l.length := by
  rcases Nat.lt_or_ge q l.length with h | h
  · exact h
  ·
   have : l.length * per ≤ q * per := Nat.mul_le_mul_right _ h
   omega
 obtain ⟨b, hb⟩ : ∃ b, l[q]? = some b := ⟨l[q]'hq, by simp [hq]⟩
 obtain ⟨hb1, hb2, _, hb4, _⟩ := hat q b hb
 have hi' := hiq
 rw [hiq, cellAt_eq g hb hr]
 cases r with
 | succ r' =>
  rw [show q * per + (r' + 1) - 1 = q * per + r' by omega, cellAt_eq g hb (by omega)]
  simp only
  rw [dataV_eq hmay.1 (by omega) hb2 (by omega) (by omega), dataV_eq hmay.1 (by omega) hb2 (by omega) (by omega)]
  omega
 | zero =>
  cases q with
  | zero => omega
  | succ q' =>
   obtain ⟨b', hb'⟩ : ∃ b', l[q']? = some b' := ⟨l[q']'(by omega), by simp [show q' < l.length by omega]⟩
   obtain ⟨_, hc2, _, hc4, _⟩ := hat q' b' hb'
   rw [if_neg (by omega), show q' + 1 - 1 = q' by omega, blkAt_eq hb'] at hb1
   rw [show (q' + 1) * per + 0 - 1 = q' * per + (per - 1) by rw [Nat.add_mul]; omega, cellAt_eq g hb' (by omega)]
   simp only
   rw [dataV_eq hmay.1 (by omega) hb2 (by omega) (by omega), dataV_eq hmay.1 (by omega) hc2 (by omega) (by omega)]
   have : (b'.n + 1) * g.per ≤ b.n * g.per := Int.mul_le_mul_of_nonneg_right (by omega) (by omega)
   rw [Int.add_mul] at this
   omega
theorem wholeFrom_le : ∀ (l : List Record) (i n d : Nat), n ≤ i → wholeFrom l i n d ≤ i + l.length
 | [], i, n, d, h => by rw [wholeFrom]; exact Nat.le_trans h (Nat.le_add_right _ _)
 | r :: t, i, n, d, h => by
  rw [wholeFrom]
  have h1 := wholeFrom_le t (i + 1) n (d + 1) (by omega)
  have h2 := wholeFrom_le t (i + 1) (i + 1) 0 (by omega)
  simp only [List.length_cons]
  split
  · omega
  · split <;> omega
theorem whole_le (l : List Record) : whole l ≤ l.length := by
 have := wholeFrom_le l 0 0 0 (Nat.le_refl _)
 unfold whole; omega
end Go.Proofs.YtlafboeohojcbaaGreat
