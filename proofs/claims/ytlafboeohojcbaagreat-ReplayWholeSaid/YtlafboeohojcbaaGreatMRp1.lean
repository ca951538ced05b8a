import Derived.Test.YtlafboeohojcbaaGreatMLLn
import Derived.Test.YtlafboeohojcbaaGreatEng39
/- What is whole of a journal's records; blocks where nothing is whole. -/
set_option linter.unusedVariables false
set_option linter.unusedSimpArgs false
set_option maxRecDepth 100000
namespace Go.Proofs.YtlafboeohojcbaaGreat
open Go Go.Eng Go.RowKit
theorem sl_cap {V : Vw} {v : Value} {sz m : Nat} {xs : List Value} (h : IsSl V v sz m xs) : ∃ a c, v = .slice a m c ∧ m ≤ c ∧ IsSl V (.slice a m m) sz m xs := by
 rcases h with ⟨h0, ⟨a, c, rfl, rfl⟩ | ⟨b, off, cap, cs, e, f, rfl, hg, hle, hx, hc⟩⟩
 · exact ⟨a, c, rfl, Nat.zero_le _, h0, .inl ⟨a, 0, rfl, rfl⟩⟩
 · exact ⟨_, cap, rfl, hc, h0, .inr ⟨b, off, m, cs, e, f, rfl, hg, hle, hx, Nat.le_refl _⟩⟩
theorem sl_pre {V : Vw} {a : Option Addr} {m c sz : Nat} {xs : List Value} (h : IsSl V (.slice a m c) sz m xs) {k : Nat} (hk : k ≤ m) : IsSl V (.slice a k k) sz k (xs.take (k * sz)) := by
 obtain ⟨h0, h1⟩ := h
 have hm := Nat.mul_le_mul_right sz hk
 refine ⟨by rw [List.length_take]; omega, ?_⟩
 rcases h1 with ⟨a', c', he, rfl⟩ | ⟨b, off, cap, cs, e, f, he, hg, hle, hx, hc⟩
 ·
  cases he
  have : k = 0 := by omega
  subst this
  exact .inl ⟨_, _, rfl, rfl⟩
 ·
  cases he
  refine .inr ⟨b, off, k, cs, e, f, rfl, hg, by omega, ?_, Nat.le_refl _⟩
  rw [hx, List.take_take]
  congr 1
  omega
theorem sl_take {α : Type} {V : Vw} {enc : α → List Value} {sz : Nat} {a : Option Addr} {n c : Nat} {l : List α} (h : SlOf V enc sz (.slice a n c) l) {k : Nat} (hk : k ≤ l.length) : SlOf V enc sz (.slice a k k) (l.take k) := by
 obtain ⟨a', c', he, _, _⟩ := sl_cap h.sl
 cases he
 have := sl_pre h.sl hk
 rw [flatMap_take h.len] at this
 refine ⟨?_, h.len⟩
 have hl : (l.take k).length = k := by rw [List.length_take]; omega
 rw [hl]
 exact this
theorem sWhole_c (V : Vw) (a : Option Addr) (n c : Nat) (l : List Record) (w : World) (hV : V.le (vw w)) (hs0 : SlOf V Record.cells 6 (.slice a n c) l) (hn : l.length ≤ 1000000) :
  Calls Tryz.prog 98 #[.slice a n c] w fun e w' => e = .returned (.slice a (whole l) (whole l)) ∧ Below w.heap.size w w' := by
 have hs := hs0.mono hV
 have hwl := whole_le l
 obtain ⟨a', c', he, hlc, _⟩ := sl_cap hs.sl
 cases he
 refine enter (E := E0) (O := []) (nl := 0) (V := vw w) [.a (.v (.slice a l.length c))] Tryz.func98 rfl rfl (mem0 E0 0 w) rfl rfl ?_
 refine c_seq (c_region ?_)
 refine yO rfl rfl rfl rfl ?_
 refine o_end [0] rfl ?_
 refine x_then (c_seq (c_region ?_))
 refine yO rfl rfl rfl rfl ?_
 refine o_call (.a (.v _)) rfl rfl fnok100 rfl rfl rfl (fun hg E w1 hm => by exact whole_c (vw w) _ l _ hm.leV hs (by simp only [lim]; omega)) ?_
 refine yO rfl rfl rfl rfl ?_
 refine o_end [0, 3] rfl ?_
 refine x_then (c_seq (c_region ?_))
 iterate 3 refine yO rfl rfl rfl rfl ?_
 refine o_yield rfl rfl rfl (y_sl3 tok rfl (fun hg => ⟨by omega, by omega, by omega⟩)) ?_
 refine yO rfl rfl rfl rfl ?_
 refine o_end [2] rfl ?_
 refine x_then (c_ret ?_)
 refine b_ret tok rfl ?_
 rw [Int.toNat_natCast]
 intro E w' hm _
 refine ⟨?_, hm.below (Vw.le.refl _)⟩
 rfl
theorem sEnd_c (V : Vw) (sv : Value) (l : List Record) (tail : Int) (w : World) (hV : V.le (vw w)) (hs0 : SlOf V Record.cells 6 sv l) (hn : l.length ≤ 1000000) :
  Calls Tryz.prog 86 #[I tail, sv] w fun e w' => e = .returned (I (IntKind.i64.wrap (tail + whole l))) ∧ Below w.heap.size w w' := by
 have hs := hs0.mono hV
 refine enter (E := E0) (O := []) (nl := 0) (V := vw w) [.a (.v (I tail)), .a (.v sv)] Tryz.func86 rfl rfl (mem0 E0 0 w) rfl rfl ?_
 refine c_seq (c_region ?_)
 refine yO rfl rfl rfl rfl ?_
 refine o_end [0, 1] rfl ?_
 refine x_then (c_seq (c_region ?_))
 iterate 2 refine yO rfl rfl rfl rfl ?_
 refine o_call (.a (.v _)) rfl rfl fnok100 rfl rfl rfl (fun hg E w1 hm => by exact whole_c (vw w) _ l _ hm.leV hs (by simp only [lim]; omega)) ?_
 iterate 2 refine yO rfl rfl rfl rfl ?_
 refine o_end [4] rfl ?_
 refine x_then (c_ret ?_)
 refine b_ret tok rfl ?_
 intro E w' hm _
 refine ⟨?_, hm.below (Vw.le.refl _)⟩
 rfl
theorem blocks0_c (V : Vw) (a : Option Addr) (n c : Nat) (l : List Record) (w : World) (hV : V.le (vw w)) (hs0 : SlOf V Record.cells 6 (.slice a n c) l) (hn : l.length ≤ 1000000) (h0 : whole l = 0) :
  Calls Tryz.prog 85 #[.slice a n c] w fun e w' => e = .returned (.slice none 0 0) ∧ Below w.heap.size w w' := by
 have hs := hs0.mono hV
 refine enter (E := E0) (O := []) (nl := 0) (V := vw w) [.a (.v (.slice a n c))] Tryz.func85 rfl rfl (mem0 E0 0 w) rfl rfl ?_
 refine c_seq (c_region ?_)
 refine yO rfl rfl rfl rfl ?_
 refine o_end [0, 2] rfl ?_
 refine x_then ?_
 refine c_scope ?_
 refine c_seq (c_region ?_)
 refine o_step rfl rfl rfl rfl rfl (s_mkMapV rfl) (fun mb hmb => ?_)
 have hle1 : (vw w).le ((vw w).put mb (mvOb [])) := Vw.put_le (Vw.le.refl _) hmb
 iterate 2 refine yO rfl rfl rfl rfl ?_
 refine o_end [0, 2, 3, 4] rfl ?_
 refine x_then (c_seq (c_region ?_))
 refine yO rfl rfl rfl rfl ?_
 have hwc := fun w1 hV => sWhole_c (vw w) a n c l w1 hV hs hn
 rw [h0] at hwc
 refine o_call (.a (.v _)) rfl rfl fnok98 rfl rfl rfl (fun hg E w1 hm => by exact hwc _ (hle1.trans hm.leV)) ?_
 refine yO rfl rfl rfl rfl ?_
 refine o_end [2, 3, 4, 5] rfl ?_
 refine x_then (c_seq ?_)
 refine c_label ?_
 refine x_then (c_seq (c_seq (c_region ?_)))
 refine yO rfl rfl rfl rfl ?_
 have hs2 : SlOf ((vw w).put mb (mvOb [])) Record.cells 6 (.slice a 0 0) [] := by
  have := sl_take (hs.mono hle1) (k := 0) (by omega)
  rwa [List.take_zero] at this
 refine o_yield rfl rfl rfl (y_len tok rfl (fun hg => hs2.sl)) ?_
 refine yO rfl rfl rfl rfl ?_
 refine o_end [2, 3, 4, 5, 17, 18, 19] rfl ?_
 refine x_then (c_block ?_)
 refine c_loopK [2, 3, 5, 17, 18] [] rfl rfl (σ := Nat) (fun k => [(4, .a (.v (I 0))), (19, .a (.v (I k)))]) (fun k => []) (fun k => k = 0) (fun k => 0) (0) (rfl) (by repeat (first | exact fN | refine fC rfl ?_)) (by repeat (first | exact oN | refine oC rfl ?_)) rfl ?_
 rintro k rfl
 refine c_seq (c_region ?_)
 refine yO rfl rfl rfl rfl ?_
 refine o_end [2, 3, 4, 5, 17, 18, 19, 20] rfl ?_
 refine x_then (c_seq ?_)
 refine c_cond rfl (fun h => ?_) (fun h => ?_)
 ·
  simp only [Xa, Xb, Xc, Xd, Xe, Xf, Xg, Xh, Xi, Xj, Xk, Xl, Xm, Xn, Xo, Xp] at h
  refine c_skip (x_then (c_seq (c_block (c_seq (c_region ?_)))))
  refine yO rfl rfl rfl rfl ?_
  simp at h
 ·
  simp only [Xa, Xb, Xc, Xd, Xe, Xf, Xg, Xh, Xi, Xj, Xk, Xl, Xm, Xn, Xo, Xp] at h
  refine c_exit (x_then_exit (x_then_exit (x_block_hit (x_then (c_seq ?_)))))
  refine c_seq (c_region ?_)
  refine yO rfl rfl rfl rfl ?_
  refine o_end [2, 3, 36] rfl ?_
  refine x_then (c_block ?_)
  refine c_loopK [3] [] rfl rfl (σ := Nat) (fun k => [(2, .a (.v (.slice none 0 0))), (36, .a (.v (I k)))]) (fun k => []) (fun k => k ≤ 64) (fun k => 64 - k) (0) (by omega) (by repeat (first | exact fN | refine fC rfl ?_)) (by repeat (first | exact oN | refine oC rfl ?_)) rfl ?_
  rintro k hk
  refine c_seq (c_region ?_)
  refine yO rfl rfl rfl rfl ?_
  refine o_end [2, 3, 36, 37] rfl ?_
  refine x_then (c_seq ?_)
  refine c_cond rfl (fun h => ?_) (fun h => ?_)
  ·
   simp only [Xa, Xb, Xc, Xd, Xe, Xf, Xg, Xh, Xi, Xj, Xk, Xl, Xm, Xn, Xo, Xp] at h
   refine c_skip (x_then (c_seq (c_block (c_seq (c_region ?_)))))
   iterate 2 refine yO rfl rfl rfl rfl ?_
   refine o_end [2, 3, 8, 36] rfl ?_
   refine x_then (c_seq (c_region ?_))
   iterate 2 refine yO rfl rfl rfl rfl ?_
   refine o_yield rfl rfl rfl (y_lkpV2 [] (.slice none 0 0) false rfl Tryz.underlying144 Tryz.underlying3 (fun w => Tryz.zeroValue24 w) (fun hg => Vw.put_get _ _ _) (fun hg => ⟨rfl, rfl⟩)) ?_
   iterate 5 refine yO rfl rfl rfl rfl ?_
   refine o_end [2, 3, 8, 9, 10, 36] rfl ?_
   refine x_then (c_seq (c_seq (c_region ?_)))
   iterate 2 refine yO rfl rfl rfl rfl ?_
   refine o_end [2, 3, 8, 9, 36, 46] rfl ?_
   refine x_then ?_
   refine c_cond rfl (fun h => ?_) (fun h => ?_)
   ·
    refine c_exit (x_then_exit (x_block_hit (x_then (c_region ?_))))
    iterate 2 refine yO rfl rfl rfl rfl ?_
    refine o_end [2, 3, 36] rfl ?_
    refine x_then ?_
    rw [wrapI (by omega) (by omega)]
    refine x_round (k + 1) (by omega) (by first | omega | (dsimp only; omega)) (by repeat (first | exact fN | refine fC rfl ?_)) (by repeat (first | exact oN | refine oC rfl ?_)) rfl (Vw.le.refl _)
   ·
    refine c_skip (x_then (c_seq (c_region ?_)))
    iterate 2 refine yO rfl rfl rfl rfl ?_
    refine o_new tok rfl rfl rfl rfl ?_
    refine o_store tok rfl rfl rfl (by first | (repeat' first | exact trivial | exact rfl | apply And.intro); done | simp [onesP, oneP, lk, Value.oneCell']) ?_
    refine o_end [2, 3, 9, 11, 36] rfl ?_
    refine x_then (c_seq (c_seq (c_region ?_)))
    refine yO rfl rfl rfl rfl ?_
    simp at h
  ·
   simp only [Xa, Xb, Xc, Xd, Xe, Xf, Xg, Xh, Xi, Xj, Xk, Xl, Xm, Xn, Xo, Xp] at h
   refine c_exit (x_then_exit (x_then_exit (x_block_hit (x_then (c_seq ?_)))))
   refine c_region ?_
   iterate 2 refine yO rfl rfl rfl rfl ?_
   refine o_end [2] rfl ?_
   refine x_then (c_ret ?_)
   refine x_scope_ret ?_
   refine b_ret tok rfl ?_
   intro E w' hm _
   refine ⟨?_, hm.below (hle1)⟩
   rfl
abbrev fnV (f : Nat) : Value := .func (.func f) #[] #[]
abbrev deedsV : Value := .agg #[fnV 57, fnV 58, fnV 59, fnV 60, fnV 61, fnV 62, fnV 63, fnV 64]
theorem deeds_c (w : World) : Calls Tryz.prog 49 #[] w fun e w' => e = .returned deedsV ∧ Below w.heap.size w w' := by
 refine enter (E := E0) (O := []) (nl := 0) (V := vw w) [] Tryz.func49 rfl rfl (mem0 E0 0 w) rfl rfl ?_
 refine c_seq (c_region ?_)
 refine o_new tok rfl rfl rfl rfl ?_
 refine o_end [0] rfl ?_
 refine x_then (c_seq (c_region ?_))
 iterate 4 refine yO rfl rfl rfl rfl ?_
 refine o_yield rfl rfl rfl (y_bar tok rfl) ?_
 refine o_store tok rfl rfl rfl (by first | (repeat' first | exact trivial | exact rfl | apply And.intro); done | simp [onesP, oneP, lk, Value.oneCell']) ?_
 refine o_end [0] rfl ?_
 refine x_then (c_ret ?_)
 refine b_ret tok rfl ?_
 intro E w' hm _
 refine ⟨?_, hm.below (Vw.le.refl _)⟩
 rfl
theorem deed0_c (w : World) : Calls Tryz.prog 41 #[I8 0] w fun e w' => e = .returned (.tuple #[.agg #[fnV 57, fnV 58], .bool true]) ∧ Below w.heap.size w w' := by
 refine enter (E := E0) (O := []) (nl := 0) (V := vw w) [.a (.v (I8 0))] Tryz.func41 rfl rfl (mem0 E0 0 w) rfl rfl ?_
 refine c_seq (c_region ?_)
 refine o_new tok rfl rfl rfl rfl ?_
 refine yO rfl rfl rfl rfl ?_
 refine o_end [0, 2] rfl ?_
 refine x_then (c_seq (c_region ?_))
 refine o_call (.a (.v _)) rfl rfl fnok49 rfl rfl rfl (fun hg E w1 hm => by exact deeds_c _) ?_
 refine o_new tok rfl rfl rfl rfl ?_
 refine o_store tok rfl rfl rfl (by first | (repeat' first | exact trivial | exact rfl | apply And.intro); done | simp [onesP, oneP, lk, Value.oneCell']) ?_
 refine o_end [0, 2, 4] rfl ?_
 refine x_then (c_seq (c_seq (c_region ?_)))
 iterate 7 refine yO rfl rfl rfl rfl ?_
 refine o_end [0, 2, 4, 12] rfl ?_
 refine x_then ?_
 refine c_cond rfl (fun h => ?_) (fun h => ?_)
 ·
  refine c_seq (c_region ?_)
  refine yO rfl rfl rfl rfl ?_
  refine o_store tok rfl rfl rfl (by first | (repeat' first | exact trivial | exact rfl | apply And.intro); done | simp [onesP, oneP, lk, Value.oneCell']) ?_
  refine yO rfl rfl rfl rfl ?_
  refine o_end [2, 3] rfl ?_
  refine x_then (c_ret (x_then_ret ?_))
  refine b_ret tok rfl ?_
  exact absurd h (by decide)
 ·
  refine c_skip (x_then (c_seq (c_region ?_)))
  refine yO rfl rfl rfl rfl ?_
  refine o_yield rfl rfl rfl (y_aidx tok 0 rfl (by rfl) (fun hg => by decide)) ?_
  refine yO rfl rfl rfl rfl ?_
  refine o_store tok rfl rfl rfl (by first | (repeat' first | exact trivial | exact rfl | apply And.intro); done | simp [onesP, oneP, lk, Value.oneCell']) ?_
  refine yO rfl rfl rfl rfl ?_
  refine o_end [2, 3] rfl ?_
  refine x_then (c_ret ?_)
  refine b_ret tok rfl ?_
  intro E w' hm _
  refine ⟨?_, hm.below (Vw.le.refl _)⟩
  rfl
theorem deed1_c (w : World) : Calls Tryz.prog 41 #[I8 1] w fun e w' => e = .returned (.tuple #[.agg #[fnV 59, fnV 60], .bool true]) ∧ Below w.heap.size w w' := by
 refine enter (E := E0) (O := []) (nl := 0) (V := vw w) [.a (.v (I8 1))] Tryz.func41 rfl rfl (mem0 E0 0 w) rfl rfl ?_
 refine c_seq (c_region ?_)
 refine o_new tok rfl rfl rfl rfl ?_
 refine yO rfl rfl rfl rfl ?_
 refine o_end [0, 2] rfl ?_
 refine x_then (c_seq (c_region ?_))
 refine o_call (.a (.v _)) rfl rfl fnok49 rfl rfl rfl (fun hg E w1 hm => by exact deeds_c _) ?_
 refine o_new tok rfl rfl rfl rfl ?_
 refine o_store tok rfl rfl rfl (by first | (repeat' first | exact trivial | exact rfl | apply And.intro); done | simp [onesP, oneP, lk, Value.oneCell']) ?_
 refine o_end [0, 2, 4] rfl ?_
 refine x_then (c_seq (c_seq (c_region ?_)))
 iterate 7 refine yO rfl rfl rfl rfl ?_
 refine o_end [0, 2, 4, 12] rfl ?_
 refine x_then ?_
 refine c_cond rfl (fun h => ?_) (fun h => ?_)
 ·
  refine c_seq (c_region ?_)
  refine yO rfl rfl rfl rfl ?_
  refine o_store tok rfl rfl rfl (by first | (repeat' first | exact trivial | exact rfl | apply And.intro); done | simp [onesP, oneP, lk, Value.oneCell']) ?_
  refine yO rfl rfl rfl rfl ?_
  refine o_end [2, 3] rfl ?_
  refine x_then (c_ret (x_then_ret ?_))
  refine b_ret tok rfl ?_
  exact absurd h (by decide)
 ·
  refine c_skip (x_then (c_seq (c_region ?_)))
  refine yO rfl rfl rfl rfl ?_
  refine o_yield rfl rfl rfl (y_aidx tok 2 rfl (by rfl) (fun hg => by decide)) ?_
  refine yO rfl rfl rfl rfl ?_
  refine o_store tok rfl rfl rfl (by first | (repeat' first | exact trivial | exact rfl | apply And.intro); done | simp [onesP, oneP, lk, Value.oneCell']) ?_
  refine yO rfl rfl rfl rfl ?_
  refine o_end [2, 3] rfl ?_
  refine x_then (c_ret ?_)
  refine b_ret tok rfl ?_
  intro E w' hm _
  refine ⟨?_, hm.below (Vw.le.refl _)⟩
  rfl
theorem deed2_c (w : World) : Calls Tryz.prog 41 #[I8 2] w fun e w' => e = .returned (.tuple #[.agg #[fnV 61, fnV 62], .bool true]) ∧ Below w.heap.size w w' := by
 refine enter (E := E0) (O := []) (nl := 0) (V := vw w) [.a (.v (I8 2))] Tryz.func41 rfl rfl (mem0 E0 0 w) rfl rfl ?_
 refine c_seq (c_region ?_)
 refine o_new tok rfl rfl rfl rfl ?_
 refine yO rfl rfl rfl rfl ?_
 refine o_end [0, 2] rfl ?_
 refine x_then (c_seq (c_region ?_))
 refine o_call (.a (.v _)) rfl rfl fnok49 rfl rfl rfl (fun hg E w1 hm => by exact deeds_c _) ?_
 refine o_new tok rfl rfl rfl rfl ?_
 refine o_store tok rfl rfl rfl (by first | (repeat' first | exact trivial | exact rfl | apply And.intro); done | simp [onesP, oneP, lk, Value.oneCell']) ?_
 refine o_end [0, 2, 4] rfl ?_
 refine x_then (c_seq (c_seq (c_region ?_)))
 iterate 7 refine yO rfl rfl rfl rfl ?_
 refine o_end [0, 2, 4, 12] rfl ?_
 refine x_then ?_
 refine c_cond rfl (fun h => ?_) (fun h => ?_)
 ·
  refine c_seq (c_region ?_)
  refine yO rfl rfl rfl rfl ?_
  refine o_store tok rfl rfl rfl (by first | (repeat' first | exact trivial | exact rfl | apply And.intro); done | simp [onesP, oneP, lk, Value.oneCell']) ?_
  refine yO rfl rfl rfl rfl ?_
  refine o_end [2, 3] rfl ?_
  refine x_then (c_ret (x_then_ret ?_))
  refine b_ret tok rfl ?_
  exact absurd h (by decide)
 ·
  refine c_skip (x_then (c_seq (c_region ?_)))
  refine yO rfl rfl rfl rfl ?_
  refine o_yield rfl rfl rfl (y_aidx tok 4 rfl (by rfl) (fun hg => by decide)) ?_
  refine yO rfl rfl rfl rfl ?_
  refine o_store tok rfl rfl rfl (by first | (repeat' first | exact trivial | exact rfl | apply And.intro); done | simp [onesP, oneP, lk, Value.oneCell']) ?_
  refine yO rfl rfl rfl rfl ?_
  refine o_end [2, 3] rfl ?_
  refine x_then (c_ret ?_)
  refine b_ret tok rfl ?_
  intro E w' hm _
  refine ⟨?_, hm.below (Vw.le.refl _)⟩
  rfl
theorem deed3_c (w : World) : Calls Tryz.prog 41 #[I8 3] w fun e w' => e = .returned (.tuple #[.agg #[fnV 63, fnV 64], .bool true]) ∧ Below w.heap.size w w' := by
 refine enter (E := E0) (O := []) (nl := 0) (V := vw w) [.a (.v (I8 3))] Tryz.func41 rfl rfl (mem0 E0 0 w) rfl rfl ?_
 refine c_seq (c_region ?_)
 refine o_new tok rfl rfl rfl rfl ?_
 refine yO rfl rfl rfl rfl ?_
 refine o_end [0, 2] rfl ?_
 refine x_then (c_seq (c_region ?_))
 refine o_call (.a (.v _)) rfl rfl fnok49 rfl rfl rfl (fun hg E w1 hm => by exact deeds_c _) ?_
 refine o_new tok rfl rfl rfl rfl ?_
 refine o_store tok rfl rfl rfl (by first | (repeat' first | exact trivial | exact rfl | apply And.intro); done | simp [onesP, oneP, lk, Value.oneCell']) ?_
 refine o_end [0, 2, 4] rfl ?_
 refine x_then (c_seq (c_seq (c_region ?_)))
 iterate 7 refine yO rfl rfl rfl rfl ?_
 refine o_end [0, 2, 4, 12] rfl ?_
 refine x_then ?_
 refine c_cond rfl (fun h => ?_) (fun h => ?_)
 ·
  refine c_seq (c_region ?_)
  refine yO rfl rfl rfl rfl ?_
  refine o_store tok rfl rfl rfl (by first | (repeat' first | exact trivial | exact rfl | apply And.intro); done | simp [onesP, oneP, lk, Value.oneCell']) ?_
  refine yO rfl rfl rfl rfl ?_
  refine o_end [2, 3] rfl ?_
  refine x_then (c_ret (x_then_ret ?_))
  refine b_ret tok rfl ?_
  exact absurd h (by decide)
 ·
  refine c_skip (x_then (c_seq (c_region ?_)))
  refine yO rfl rfl rfl rfl ?_
  refine o_yield rfl rfl rfl (y_aidx tok 6 rfl (by rfl) (fun hg => by decide)) ?_
  refine yO rfl rfl rfl rfl ?_
  refine o_store tok rfl rfl rfl (by first | (repeat' first | exact trivial | exact rfl | apply And.intro); done | simp [onesP, oneP, lk, Value.oneCell']) ?_
  refine yO rfl rfl rfl rfl ?_
  refine o_end [2, 3] rfl ?_
  refine x_then (c_ret ?_)
  refine b_ret tok rfl ?_
  intro E w' hm _
  refine ⟨?_, hm.below (Vw.le.refl _)⟩
  rfl
theorem callsF {P : Program} {f : Nat} {args : List Value} {w : World} {R : Ending → World → Prop} (hok : FnOk P f) (h : Calls P f args.toArray w R) : CallsFn P (fnV f) args w R :=
 ⟨f, #[], rfl, hok, by simpa using h⟩
abbrev rpL (slot key at_ tail : Int) (lv cv : Value) (i en : Int) : List Value := [I slot, I key, I8 at_, I tail, lv, cv, I i, I en]
abbrev rpV (slot key at_ tail : Int) (lv cv : Value) (i en : Int) : Value := .agg #[I slot, I key, I8 at_, I tail, lv, cv, I i, I en]
abbrev wkC (slot key at_ tail : Int) (lv cv : Value) (i en : Int) (g : Geo) : List Value := [I slot, I key, I8 at_, I tail, lv, cv, I i, I en, I g.nodes, I g.slots, I g.blocks, I g.per, I g.journal, I g.log, I g.lease, I g.wait]
abbrev actV (kind sector : Int) (b : ByteArray) : Value := .agg #[I8 kind, I sector, S b, I 0]
def readK (k : Int) : Int := if k < 0 then 0 else 1
def readN (k : Int) : Int := if k < 0 then 0 else k
theorem reads_c (k : Int) (w : World) : Calls Tryz.prog 70 #[I k] w fun e w' => e = .returned (actV (readK k) (readN k) ByteArray.empty) ∧ Below w.heap.size w w' := by
 refine enter (E := E0) (O := []) (nl := 0) (V := vw w) [.a (.v (I k))] Tryz.func70 rfl rfl (mem0 E0 0 w) rfl rfl ?_
 refine c_seq (c_region ?_)
 refine o_new tok rfl rfl rfl rfl ?_
 refine o_end [0, 2] rfl ?_
 refine x_then (c_seq (c_seq (c_region ?_)))
 iterate 2 refine yO rfl rfl rfl rfl ?_
 refine o_end [0, 2, 4] rfl ?_
 refine x_then ?_
 refine c_cond rfl (fun h => ?_) (fun h => ?_)
 ·
  simp only [Xa, Xb, Xc, Xd, Xe, Xf, Xg, Xh, Xi, Xj, Xk, Xl, Xm, Xn, Xo, Xp] at h
  refine c_seq (c_region ?_)
  refine yO rfl rfl rfl rfl ?_
  refine o_store tok rfl rfl rfl (by first | (repeat' first | exact trivial | exact rfl | apply And.intro); done | simp [onesP, oneP, lk, Value.oneCell']) ?_
  refine o_end [2] rfl ?_
  refine x_then (c_ret (x_then_ret ?_))
  refine b_ret tok rfl ?_
  intro E w' hm _
  refine ⟨?_, hm.below (Vw.le.refl _)⟩
  rw [readK, readN, if_pos h, if_pos h]
  rfl
 ·
  simp only [Xa, Xb, Xc, Xd, Xe, Xf, Xg, Xh, Xi, Xj, Xk, Xl, Xm, Xn, Xo, Xp] at h
  refine c_skip (x_then (c_seq (c_region ?_)))
  iterate 2 refine yO rfl rfl rfl rfl ?_
  refine o_store tok rfl rfl rfl (by first | (repeat' first | exact trivial | exact rfl | apply And.intro); done | simp [onesP, oneP, lk, Value.oneCell']) ?_
  refine o_end [2] rfl ?_
  refine x_then (c_ret ?_)
  refine b_ret tok rfl ?_
  intro E w' hm _
  refine ⟨?_, hm.below (Vw.le.refl _)⟩
  rw [readK, readN, if_neg (by omega), if_neg (by omega)]
  rfl
theorem wantHead_c (g : Geo) (ok : g.Ok) (slot key at_ tail : Int) (lv cv : Value) (i en : Int) (b : Nat) (w : World) (hb : w.heap[b]? = some (.cells (wkC slot key at_ tail lv cv i en g).toArray 88 (0, 0))) :
  Calls Tryz.prog 57 #[Ptr b] w fun e w' => e = .returned (actV (readK (headV g slot)) (readN (headV g slot)) ByteArray.empty) ∧ Below w.heap.size w w' := by
 refine enter1 [.a (.ptr 0 0)] hb Tryz.func57 rfl rfl rfl rfl ?_
 refine c_seq (c_region ?_)
 refine o_new tok rfl rfl rfl rfl ?_
 refine o_end [0, 2] rfl ?_
 refine x_then (c_seq ?_)
 refine c_heldS [11] mixed rfl (by repeat (first | exact oN | refine oC rfl ?_)) (by first | rfl | simp [okCels, allOk_plain]) ?_
 refine t_takeD 0 rfl (by kernel_rfl) rfl rfl rfl (yV rfl) rfl ?_
 refine t_takeD 1 rfl (by kernel_rfl) rfl rfl rfl (yV rfl) rfl ?_
 refine t_takeD 2 rfl (by kernel_rfl) rfl rfl rfl (yV rfl) rfl ?_
 refine t_takeD 3 rfl (by kernel_rfl) rfl rfl rfl (yV rfl) rfl ?_
 refine t_takeD 4 rfl (by kernel_rfl) rfl rfl rfl (yV rfl) rfl ?_
 refine t_takeD 5 rfl (by kernel_rfl) rfl rfl rfl (yV rfl) rfl ?_
 refine t_takeD 6 rfl (by kernel_rfl) rfl rfl rfl (yV rfl) rfl ?_
 refine t_takeD 7 rfl (by kernel_rfl) rfl rfl rfl (yV rfl) rfl ?_
 refine t_takeD 8 rfl (by kernel_rfl) rfl rfl rfl (yV rfl) rfl ?_
 refine t_go ?_
 refine h_one 9 (by kernel_rfl) ?_
 refine h_call 9 (.a (.v _)) rfl rfl rfl fnok38 rfl rfl rfl (fun hg E w1 hm => by exact head_c g ok slot _) ?_
 refine h_one 10 (by kernel_rfl) ?_
 refine h_call 10 (.a (.v _)) rfl rfl rfl fnok70 rfl rfl rfl (fun hg E w1 hm => by exact reads_c _ _) ?_
 refine h_one 11 (by kernel_rfl) ?_
 refine h_store 11 tok rfl rfl rfl rfl (by repeat' first | exact trivial | exact rfl | apply And.intro) (.inl rfl) ?_
 refine h_done [2] (by kernel_rfl) rfl ?_
 refine x_then (c_ret ?_)
 refine b_ret tok rfl ?_
 intro E w' hm _
 exact ⟨rfl, below1 hb hm (Vw.le.refl _) rfl rfl rfl⟩
theorem wantRow_c (V : Vw) (g : Geo) (ok : g.Ok) (slot key at_ tail : Int) (a : Option Addr) (n c : Nat) (cv : Value) (i en : Int) (L : List Record) (b : Nat) (w : World) (hb : w.heap[b]? = some (.cells (wkC slot key at_ tail (.slice a n c) cv i en g).toArray 88 (0, 0)))
  (hs : SlOf V Record.cells 6 (.slice a n c) L) :
  Calls Tryz.prog 59 #[Ptr b] w fun e w' => e = .returned (actV (readK (jourV g slot (IntKind.i64.wrap (tail + L.length)))) (readN (jourV g slot (IntKind.i64.wrap (tail + L.length)))) ByteArray.empty) ∧ Below w.heap.size w w' := by
 obtain ⟨a', c', he, _⟩ := sl_cap hs.sl
 cases he
 refine enter1 [.a (.ptr 0 0)] hb Tryz.func59 rfl rfl rfl rfl ?_
 refine c_seq (c_region ?_)
 refine o_new tok rfl rfl rfl rfl ?_
 refine o_end [0, 2] rfl ?_
 refine x_then (c_seq ?_)
 refine c_heldS [23] mixed rfl (by repeat (first | exact oN | refine oC rfl ?_)) (by first | rfl | simp [okCels, allOk_plain]) ?_
 refine t_takeD 0 rfl (by kernel_rfl) rfl rfl rfl (yV rfl) rfl ?_
 refine t_takeD 1 rfl (by kernel_rfl) rfl rfl rfl (yV rfl) rfl ?_
 refine t_takeD 2 rfl (by kernel_rfl) rfl rfl rfl (yV rfl) rfl ?_
 refine t_takeD 3 rfl (by kernel_rfl) rfl rfl rfl (yV rfl) rfl ?_
 refine t_takeD 4 rfl (by kernel_rfl) rfl rfl rfl (yV rfl) rfl ?_
 refine t_takeD 5 rfl (by kernel_rfl) rfl rfl rfl (yV rfl) rfl ?_
 refine t_takeD 6 rfl (by kernel_rfl) rfl rfl rfl (yV rfl) rfl ?_
 refine t_takeD 7 rfl (by kernel_rfl) rfl rfl rfl (yV rfl) rfl ?_
 refine t_takeD 8 rfl (by kernel_rfl) rfl rfl rfl (yV rfl) rfl ?_
 refine t_takeD 9 rfl (by kernel_rfl) rfl rfl rfl (yV rfl) rfl ?_
 refine t_takeD 10 rfl (by kernel_rfl) rfl rfl rfl (yV rfl) rfl ?_
 refine t_takeD 11 rfl (by kernel_rfl) rfl rfl rfl (yV rfl) rfl ?_
 refine t_takeD 12 rfl (by kernel_rfl) rfl rfl rfl (yV rfl) rfl ?_
 refine t_takeD 13 rfl (by kernel_rfl) rfl rfl rfl (yV rfl) rfl ?_
 refine t_takeD 14 rfl (by kernel_rfl) rfl rfl rfl (yV rfl) rfl ?_
 refine t_takeD 15 rfl (by kernel_rfl) rfl rfl rfl (yV rfl) rfl ?_
 refine t_takeD 16 rfl (by kernel_rfl) rfl rfl rfl (yV rfl) rfl ?_
 refine t_takeD 17 rfl (by kernel_rfl) rfl rfl rfl (yV rfl) rfl ?_
 refine t_takeD 18 rfl (by kernel_rfl) rfl rfl rfl (yV rfl) rfl ?_
 refine t_takeD 19 rfl (by kernel_rfl) rfl rfl rfl (y_lenP tok rfl) rfl ?_
 refine t_takeD 20 rfl (by kernel_rfl) rfl rfl rfl (yV rfl) rfl ?_
 refine t_go ?_
 refine h_one 21 (by kernel_rfl) ?_
 refine h_call 21 (.a (.v _)) rfl rfl rfl fnok72 rfl rfl rfl (fun hg E w1 hm => by exact jour_c g ok slot _ _) ?_
 refine h_one 22 (by kernel_rfl) ?_
 refine h_call 22 (.a (.v _)) rfl rfl rfl fnok70 rfl rfl rfl (fun hg E w1 hm => by exact reads_c _ _) ?_
 refine h_one 23 (by kernel_rfl) ?_
 refine h_store 23 tok rfl rfl rfl rfl (by repeat' first | exact trivial | exact rfl | apply And.intro) (.inl rfl) ?_
 refine h_done [2] (by kernel_rfl) rfl ?_
 refine x_then (c_ret ?_)
 refine b_ret tok rfl ?_
 intro E w' hm _
 exact ⟨rfl, below1 hb hm (Vw.le.refl _) rfl rfl rfl⟩
def tailK (g : Geo) (slot en : Int) : Int := if (headS en).2 = 0 ∧ 0 ≤ headV g slot then 2 else 0
def tailN (g : Geo) (slot en : Int) : Int := if (headS en).2 = 0 ∧ 0 ≤ headV g slot then headV g slot else 0
def tailT (g : Geo) (slot en : Int) : ByteArray := if (headS en).2 = 0 ∧ 0 ≤ headV g slot then (headS en).1 else ByteArray.empty
theorem wantTail_c (g : Geo) (ok : g.Ok) (slot key at_ tail : Int) (lv cv : Value) (i en : Int) (b : Nat) (w : World) (hb : w.heap[b]? = some (.cells (wkC slot key at_ tail lv cv i en g).toArray 88 (0, 0))) :
  Calls Tryz.prog 63 #[Ptr b] w fun e w' => e = .returned (actV (tailK g slot en) (tailN g slot en) (tailT g slot en)) ∧ Below w.heap.size w w' := by
 have hhc := fun w => shead_c en w
 generalize hH : headS en = H at hhc
 obtain ⟨hs, he⟩ := H
 refine enter1 [.a (.ptr 0 0)] hb Tryz.func63 rfl rfl rfl rfl ?_
 refine c_seq (c_region ?_)
 refine o_new tok rfl rfl rfl rfl ?_
 refine o_end [0, 2] rfl ?_
 refine x_then (c_seq (c_region ?_))
 iterate 5 refine yO rfl rfl rfl rfl ?_
 refine o_call (.a (.v _)) rfl rfl fnok76 rfl rfl rfl (fun hg E w1 hm => by exact hhc _) ?_
 iterate 5 refine yO rfl rfl rfl rfl ?_
 refine o_end [0, 2, 3, 4] rfl ?_
 refine x_then (c_seq (c_seq ?_))
 refine c_draw mixed (by kernel_rfl) ?_
 iterate 9 refine d_yield rfl rfl rfl (yV rfl) rfl ?_
 refine d_call (.a (.v _)) rfl rfl fnok38 rfl rfl rfl (fun hg E w1 hm => by exact head_c g ok slot _) ?_
 refine d_yield rfl rfl rfl (yV rfl) rfl ?_
 refine d_end [2, 3, 4, 5] rfl ?_
 refine x_then (c_seq (c_region ?_))
 iterate 6 refine yO rfl rfl rfl rfl ?_
 refine o_end [2, 3, 5, 30] rfl ?_
 refine x_then ?_
 refine c_cond rfl (fun h => ?_) (fun h => ?_)
 ·
  simp only [Xa, Xb, Xc, Xd, Xe, Xf, Xg, Xh, Xi, Xj, Xk, Xl, Xm, Xn, Xo, Xp] at h
  refine c_seq (c_region ?_)
  iterate 3 refine yO rfl rfl rfl rfl ?_
  refine o_store tok rfl rfl rfl (by first | (repeat' first | exact trivial | exact rfl | apply And.intro); done | simp [onesP, oneP, lk, Value.oneCell']) ?_
  refine o_end [2] rfl ?_
  refine x_then (c_ret (x_then_ret ?_))
  refine b_ret tok rfl ?_
  intro E w' hm _
  refine ⟨?_, below1 hb hm (Vw.le.refl _) rfl rfl rfl⟩
  rw [tailK, tailN, tailT, hH, if_pos h, if_pos h, if_pos h]
  rfl
 ·
  simp only [Xa, Xb, Xc, Xd, Xe, Xf, Xg, Xh, Xi, Xj, Xk, Xl, Xm, Xn, Xo, Xp] at h
  refine c_skip (x_then (c_seq (c_region ?_)))
  refine yO rfl rfl rfl rfl ?_
  refine o_store tok rfl rfl rfl (by first | (repeat' first | exact trivial | exact rfl | apply And.intro); done | simp [onesP, oneP, lk, Value.oneCell']) ?_
  refine o_end [2] rfl ?_
  refine x_then (c_ret ?_)
  refine b_ret tok rfl ?_
  intro E w' hm _
  refine ⟨?_, below1 hb hm (Vw.le.refl _) rfl rfl rfl⟩
  have hn : ¬ (he = 0 ∧ 0 ≤ headV g slot) := by omega
  rw [tailK, tailN, tailT, hH, if_neg hn, if_neg hn, if_neg hn]
  rfl
theorem rpWant0_c (g : Geo) (ok : g.Ok) (slot key tail : Int) (lv cv : Value) (i en : Int) (w : World) :
  Calls Tryz.prog 23 #[g.val, rpV slot key 0 tail lv cv i en] w fun e w' => e = .returned (actV (readK (headV g slot)) (readN (headV g slot)) ByteArray.empty) ∧ Below w.heap.size w w' := by
 refine enter (E := E0) (O := []) (nl := 0) (V := vw w) [.a (.v g.val), .a (.v (rpV slot key 0 tail lv cv i en))] Tryz.func23 rfl rfl (mem0 E0 0 w) rfl rfl ?_
 refine c_seq (c_region ?_)
 iterate 3 refine o_new tok rfl rfl rfl rfl ?_
 refine o_end [2, 3, 4] rfl ?_
 refine x_then (c_seq (c_region ?_))
 iterate 2 refine yO rfl rfl rfl rfl ?_
 refine o_call (.a (.v _)) rfl rfl fnok41 rfl rfl rfl (fun hg E w1 hm => by exact deed0_c _) ?_
 iterate 3 refine yO rfl rfl rfl rfl ?_
 refine o_new tok rfl rfl rfl rfl ?_
 refine o_store tok rfl rfl rfl (by first | (repeat' first | exact trivial | exact rfl | apply And.intro); done | simp [onesP, oneP, lk, Value.oneCell']) ?_
 refine yO rfl rfl rfl rfl ?_
 refine o_end [2, 3, 4, 5, 6] rfl ?_
 refine x_then (c_seq (c_seq (c_region ?_)))
 iterate 2 refine yO rfl rfl rfl rfl ?_
 refine o_end [2, 3, 4, 5, 14] rfl ?_
 refine x_then ?_
 refine c_cond rfl (fun h => ?_) (fun h => ?_)
 ·
  refine c_seq (c_region ?_)
  refine yO rfl rfl rfl rfl ?_
  refine o_store tok rfl rfl rfl (by first | (repeat' first | exact trivial | exact rfl | apply And.intro); done | simp [onesP, oneP, lk, Value.oneCell']) ?_
  refine o_end [4] rfl ?_
  refine x_then (c_ret (x_then_ret ?_))
  refine b_ret tok rfl ?_
  exact absurd h (by decide)
 ·
  refine c_skip (x_then (c_seq (c_region ?_)))
  iterate 5 refine yO rfl rfl rfl rfl ?_
  refine o_new tok rfl rfl rfl rfl ?_
  refine o_callF (.a (.v _)) rfl rfl rfl rfl rfl (fun hg E w1 hm => by exact callsF fnok57 (wantHead_c g ok slot key 0 tail lv cv i en _ _ (hm.lit 4 _ _ rfl))) ?_
  refine o_store tok rfl rfl rfl (by first | (repeat' first | exact trivial | exact rfl | apply And.intro); done | simp [onesP, oneP, lk, Value.oneCell']) ?_
  refine o_end [4] rfl ?_
  refine x_then (c_ret ?_)
  refine b_ret tok rfl ?_
  intro E w' hm _
  refine ⟨?_, hm.below (Vw.le.refl _)⟩
  rfl
theorem rpWant1_c (V : Vw) (g : Geo) (ok : g.Ok) (slot key tail : Int) (a : Option Addr) (n c : Nat) (cv : Value) (i en : Int) (L : List Record) (w : World) (hs : SlOf V Record.cells 6 (.slice a n c) L) :
  Calls Tryz.prog 23 #[g.val, rpV slot key 1 tail (.slice a n c) cv i en] w fun e w' => e = .returned (actV (readK (jourV g slot (IntKind.i64.wrap (tail + L.length)))) (readN (jourV g slot (IntKind.i64.wrap (tail + L.length)))) ByteArray.empty) ∧ Below w.heap.size w w' := by
 refine enter (E := E0) (O := []) (nl := 0) (V := vw w) [.a (.v g.val), .a (.v (rpV slot key 1 tail (.slice a n c) cv i en))] Tryz.func23 rfl rfl (mem0 E0 0 w) rfl rfl ?_
 refine c_seq (c_region ?_)
 iterate 3 refine o_new tok rfl rfl rfl rfl ?_
 refine o_end [2, 3, 4] rfl ?_
 refine x_then (c_seq (c_region ?_))
 iterate 2 refine yO rfl rfl rfl rfl ?_
 refine o_call (.a (.v _)) rfl rfl fnok41 rfl rfl rfl (fun hg E w1 hm => by exact deed1_c _) ?_
 iterate 3 refine yO rfl rfl rfl rfl ?_
 refine o_new tok rfl rfl rfl rfl ?_
 refine o_store tok rfl rfl rfl (by first | (repeat' first | exact trivial | exact rfl | apply And.intro); done | simp [onesP, oneP, lk, Value.oneCell']) ?_
 refine yO rfl rfl rfl rfl ?_
 refine o_end [2, 3, 4, 5, 6] rfl ?_
 refine x_then (c_seq (c_seq (c_region ?_)))
 iterate 2 refine yO rfl rfl rfl rfl ?_
 refine o_end [2, 3, 4, 5, 14] rfl ?_
 refine x_then ?_
 refine c_cond rfl (fun h => ?_) (fun h => ?_)
 ·
  refine c_seq (c_region ?_)
  refine yO rfl rfl rfl rfl ?_
  refine o_store tok rfl rfl rfl (by first | (repeat' first | exact trivial | exact rfl | apply And.intro); done | simp [onesP, oneP, lk, Value.oneCell']) ?_
  refine o_end [4] rfl ?_
  refine x_then (c_ret (x_then_ret ?_))
  refine b_ret tok rfl ?_
  exact absurd h (by decide)
 ·
  refine c_skip (x_then (c_seq (c_region ?_)))
  iterate 5 refine yO rfl rfl rfl rfl ?_
  refine o_new tok rfl rfl rfl rfl ?_
  refine o_callF (.a (.v _)) rfl rfl rfl rfl rfl (fun hg E w1 hm => by exact callsF fnok59 (wantRow_c V g ok slot key 1 tail a n c cv i en L _ _ (hm.lit 4 _ _ rfl) hs)) ?_
  refine o_store tok rfl rfl rfl (by first | (repeat' first | exact trivial | exact rfl | apply And.intro); done | simp [onesP, oneP, lk, Value.oneCell']) ?_
  refine o_end [4] rfl ?_
  refine x_then (c_ret ?_)
  refine b_ret tok rfl ?_
  intro E w' hm _
  refine ⟨?_, hm.below (Vw.le.refl _)⟩
  rfl
theorem rpWant3_c (g : Geo) (ok : g.Ok) (slot key tail : Int) (lv cv : Value) (i en : Int) (w : World) :
  Calls Tryz.prog 23 #[g.val, rpV slot key 3 tail lv cv i en] w fun e w' => e = .returned (actV (tailK g slot en) (tailN g slot en) (tailT g slot en)) ∧ Below w.heap.size w w' := by
 refine enter (E := E0) (O := []) (nl := 0) (V := vw w) [.a (.v g.val), .a (.v (rpV slot key 3 tail lv cv i en))] Tryz.func23 rfl rfl (mem0 E0 0 w) rfl rfl ?_
 refine c_seq (c_region ?_)
 iterate 3 refine o_new tok rfl rfl rfl rfl ?_
 refine o_end [2, 3, 4] rfl ?_
 refine x_then (c_seq (c_region ?_))
 iterate 2 refine yO rfl rfl rfl rfl ?_
 refine o_call (.a (.v _)) rfl rfl fnok41 rfl rfl rfl (fun hg E w1 hm => by exact deed3_c _) ?_
 iterate 3 refine yO rfl rfl rfl rfl ?_
 refine o_new tok rfl rfl rfl rfl ?_
 refine o_store tok rfl rfl rfl (by first | (repeat' first | exact trivial | exact rfl | apply And.intro); done | simp [onesP, oneP, lk, Value.oneCell']) ?_
 refine yO rfl rfl rfl rfl ?_
 refine o_end [2, 3, 4, 5, 6] rfl ?_
 refine x_then (c_seq (c_seq (c_region ?_)))
 iterate 2 refine yO rfl rfl rfl rfl ?_
 refine o_end [2, 3, 4, 5, 14] rfl ?_
 refine x_then ?_
 refine c_cond rfl (fun h => ?_) (fun h => ?_)
 ·
  refine c_seq (c_region ?_)
  refine yO rfl rfl rfl rfl ?_
  refine o_store tok rfl rfl rfl (by first | (repeat' first | exact trivial | exact rfl | apply And.intro); done | simp [onesP, oneP, lk, Value.oneCell']) ?_
  refine o_end [4] rfl ?_
  refine x_then (c_ret (x_then_ret ?_))
  refine b_ret tok rfl ?_
  exact absurd h (by decide)
 ·
  refine c_skip (x_then (c_seq (c_region ?_)))
  iterate 5 refine yO rfl rfl rfl rfl ?_
  refine o_new tok rfl rfl rfl rfl ?_
  refine o_callF (.a (.v _)) rfl rfl rfl rfl rfl (fun hg E w1 hm => by exact callsF fnok63 (wantTail_c g ok slot key 3 tail lv cv i en _ _ (hm.lit 4 _ _ rfl))) ?_
  refine o_store tok rfl rfl rfl (by first | (repeat' first | exact trivial | exact rfl | apply And.intro); done | simp [onesP, oneP, lk, Value.oneCell']) ?_
  refine o_end [4] rfl ?_
  refine x_then (c_ret ?_)
  refine b_ret tok rfl ?_
  intro E w' hm _
  refine ⟨?_, hm.below (Vw.le.refl _)⟩
  rfl
theorem rover_c (slot key at_ tail : Int) (lv cv : Value) (i en : Int) (w : World) :
  Calls Tryz.prog 25 #[rpV slot key at_ tail lv cv i en] w fun e w' => e = .returned (.bool (decide (3 < at_))) ∧ Below w.heap.size w w' := by
 refine enter (E := E0) (O := []) (nl := 0) (V := vw w) [.a (.v (rpV slot key at_ tail lv cv i en))] Tryz.func25 rfl rfl (mem0 E0 0 w) rfl rfl ?_
 refine c_seq (c_region ?_)
 refine o_new tok rfl rfl rfl rfl ?_
 refine yO rfl rfl rfl rfl ?_
 refine o_end [1] rfl ?_
 refine x_then (c_seq (c_region ?_))
 iterate 4 refine yO rfl rfl rfl rfl ?_
 refine o_end [2] rfl ?_
 refine x_then (c_ret ?_)
 refine b_ret tok rfl ?_
 intro E w' hm _
 refine ⟨?_, hm.below (Vw.le.refl _)⟩
 rfl
theorem rbegin_c (g : Geo) (ok : g.Ok) (slot key : Int) (w : World) :
  Calls Tryz.prog 21 #[g.val, I slot, I key] w fun e w' => Below w.heap.size w w' ∧
   ((0 ≤ headV g slot ∧ keyB key = true ∧ 0 ≤ seatOf key ∧ e = .returned (.tuple #[rpV slot key 0 0 (.slice none 0 0) (.slice none 0 0) 0 0, I 0])) ∨
    (¬ (0 ≤ headV g slot ∧ keyB key = true ∧ 0 ≤ seatOf key) ∧ e = .returned (.tuple #[rpV 0 0 0 0 (.slice none 0 0) (.slice none 0 0) 0 0, I 2]))) := by
 refine enter (E := E0) (O := []) (nl := 0) (V := vw w) [.a (.v g.val), .a (.v (I slot)), .a (.v (I key))] Tryz.func21 rfl rfl (mem0 E0 0 w) rfl rfl ?_
 refine c_seq (c_region ?_)
 iterate 2 refine o_new tok rfl rfl rfl rfl ?_
 refine yO rfl rfl rfl rfl ?_
 refine o_end [1, 2, 3, 6] rfl ?_
 refine x_then (c_seq (c_seq (c_region ?_)))
 iterate 2 refine yO rfl rfl rfl rfl ?_
 refine o_call (.a (.v _)) rfl rfl fnok38 rfl rfl rfl (fun hg E w1 hm => by exact head_c g ok slot _) ?_
 iterate 3 refine yO rfl rfl rfl rfl ?_
 refine o_call (.a (.v _)) rfl rfl fnok39 rfl rfl rfl (fun hg E w1 hm => by exact key_c key _) ?_
 iterate 4 refine yO rfl rfl rfl rfl ?_
 refine o_call (.a (.v _)) rfl rfl fnok40 rfl rfl rfl (fun hg E w1 hm => by exact cof_c key _) ?_
 iterate 2 refine yO rfl rfl rfl rfl ?_
 refine o_end [1, 2, 6, 21] rfl ?_
 refine x_then ?_
 refine c_cond rfl (fun h => ?_) (fun h => ?_)
 ·
  simp only [Xa, Xb, Xc, Xd, Xe, Xf, Xg, Xh, Xi, Xj, Xk, Xl, Xm, Xn, Xo, Xp] at h
  refine c_seq (c_region ?_)
  refine yO rfl rfl rfl rfl ?_
  refine o_store tok rfl rfl rfl (by first | (repeat' first | exact trivial | exact rfl | apply And.intro); done | simp [onesP, oneP, lk, Value.oneCell']) ?_
  refine yO rfl rfl rfl rfl ?_
  refine o_end [6, 7] rfl ?_
  refine x_then (c_ret (x_then_ret ?_))
  refine b_ret tok rfl ?_
  intro E w' hm _
  refine ⟨hm.below (Vw.le.refl _), .inr ⟨?_, rfl⟩⟩
  rintro ⟨h1, h2, h3⟩
  rcases h with (h | h) | h
  · omega
  · rw [h2] at h; cases h
  · omega
 ·
  simp only [Xa, Xb, Xc, Xd, Xe, Xf, Xg, Xh, Xi, Xj, Xk, Xl, Xm, Xn, Xo, Xp] at h
  refine c_skip (x_then (c_seq (c_region ?_)))
  iterate 3 refine yO rfl rfl rfl rfl ?_
  refine o_store tok rfl rfl rfl (by first | (repeat' first | exact trivial | exact rfl | apply And.intro); done | simp [onesP, oneP, lk, Value.oneCell']) ?_
  refine yO rfl rfl rfl rfl ?_
  refine o_end [6, 7] rfl ?_
  refine x_then (c_ret ?_)
  refine b_ret tok rfl ?_
  intro E w' hm _
  refine ⟨hm.below (Vw.le.refl _), .inl ⟨by omega, h.1.2, by omega, rfl⟩⟩
theorem rpTake0_c (g : Geo) (ok : g.Ok) (slot key tail : Int) (la ca : Option Addr) (ln lc cn cc : Nat) (i en : Int) (s : ByteArray) (hs : s.size ≤ maxLen) (w : World) :
  Calls Tryz.prog 24 #[g.val, rpV slot key 0 tail (.slice la ln lc) (.slice ca cn cc) i en, S s] w fun e w' => Below w.heap.size w w' ∧
   ((tailE s = 0 ∧ e = .returned (.tuple #[rpV slot key 1 (tailV s) (.slice la ln lc) (.slice ca cn cc) i en, .bool false, I 0])) ∨ (tailE s ≠ 0 ∧ e = .returned (.tuple #[rpV slot key 0 tail (.slice la ln lc) (.slice ca cn cc) i en, .bool false, I (tailE s)]))) := by
 refine enter (E := E0) (O := []) (nl := 0) (V := vw w) [.a (.v g.val), .a (.v (rpV slot key 0 tail (.slice la ln lc) (.slice ca cn cc) i en)), .a (.v (S s))] Tryz.func24 rfl rfl (mem0 E0 0 w) rfl rfl ?_
 refine c_seq (c_region ?_)
 iterate 3 refine o_new tok rfl rfl rfl rfl ?_
 iterate 2 refine yO rfl rfl rfl rfl ?_
 refine o_end [2, 3, 4, 6, 8] rfl ?_
 refine x_then (c_seq (c_region ?_))
 iterate 2 refine yO rfl rfl rfl rfl ?_
 refine o_call (.a (.v _)) rfl rfl fnok41 rfl rfl rfl (fun hg E w1 hm => by exact deed0_c _) ?_
 iterate 3 refine yO rfl rfl rfl rfl ?_
 refine o_new tok rfl rfl rfl rfl ?_
 refine o_store tok rfl rfl rfl (by first | (repeat' first | exact trivial | exact rfl | apply And.intro); done | simp [onesP, oneP, lk, Value.oneCell']) ?_
 refine yO rfl rfl rfl rfl ?_
 refine o_end [2, 3, 4, 6, 8, 9, 10] rfl ?_
 refine x_then (c_seq (c_region ?_))
 iterate 3 refine yO rfl rfl rfl rfl ?_
 refine o_new tok rfl rfl rfl rfl ?_
 refine yO rfl rfl rfl rfl ?_
 refine o_end [2, 4, 6, 8, 9, 10, 11] rfl ?_
 refine x_then (c_seq (c_seq (c_region ?_)))
 refine yO rfl rfl rfl rfl ?_
 refine o_end [2, 4, 6, 8, 9, 11, 22] rfl ?_
 refine x_then ?_
 refine c_cond rfl (fun h => ?_) (fun h => ?_)
 ·
  refine c_region ?_
  iterate 4 refine yO rfl rfl rfl rfl ?_
  refine o_inlF rfl rfl rfl rfl rfl fnok58 rfl Tryz.func58 rfl rfl rfl (fun E => ?_)
  refine c_seq (c_region ?_)
  refine yO rfl rfl rfl rfl ?_
  refine o_end [0, 1] rfl ?_
  refine x_then (c_seq (c_region ?_))
  refine yO rfl rfl rfl rfl ?_
  refine o_call (.a (.v _)) rfl rfl fnok71 rfl rfl rfl (fun hg E w1 hm => by exact stail_c s hs _) ?_
  iterate 5 refine yO rfl rfl rfl rfl ?_
  refine o_end [0, 5, 6] rfl ?_
  refine x_then (c_seq (c_seq (c_region ?_)))
  iterate 2 refine yO rfl rfl rfl rfl ?_
  refine o_end [0, 5, 6, 13] rfl ?_
  refine x_then ?_
  refine c_cond rfl (fun h => ?_) (fun h => ?_)
  ·
   simp only [Xa, Xb, Xc, Xd, Xe, Xf, Xg, Xh, Xi, Xj, Xk, Xl, Xm, Xn, Xo, Xp] at h
   have hz0 := h
   clear h
   refine c_region ?_
   iterate 6 refine yO rfl rfl rfl rfl ?_
   refine o_store tok rfl rfl rfl (by first | (repeat' first | exact trivial | exact rfl | apply And.intro); done | simp [onesP, oneP, lk, Value.oneCell']) ?_
   iterate 3 refine yO rfl rfl rfl rfl ?_
   refine o_store tok rfl rfl rfl (by first | (repeat' first | exact trivial | exact rfl | apply And.intro); done | simp [onesP, oneP, lk, Value.oneCell']) ?_
   refine o_end [6] rfl ?_
   refine x_then (c_seq (c_region ?_))
   iterate 2 refine yO rfl rfl rfl rfl ?_
   refine o_end [4] rfl ?_
   refine x_then (c_ret ?_)
   refine b_ret tok rfl ?_
   intro E1 w1 hm1 hok1
   refine inl_end (E := E) hm1 hok1 rfl rfl (by repeat (first | exact KeepsIn.zero | refine KeepsIn.succ rfl ?_)) rfl (by repeat (first | exact oN | refine oC rfl ?_)) rfl ?_
   clear hm1 hok1 w1 E1 E
   refine yO rfl rfl rfl rfl ?_
   refine o_end [4, 6, 8, 11] rfl ?_
   refine x_then (c_seq (c_seq (c_region ?_)))
   iterate 2 refine yO rfl rfl rfl rfl ?_
   refine o_end [4, 6, 8, 11, 29] rfl ?_
   refine x_then ?_
   refine c_cond rfl (fun h => ?_) (fun h => ?_)
   ·
    simp only [Xa, Xb, Xc, Xd, Xe, Xf, Xg, Xh, Xi, Xj, Xk, Xl, Xm, Xn, Xo, Xp] at h
    refine c_seq ?_
    refine c_heldS [4] mixed rfl (by repeat (first | exact oN | refine oC rfl ?_)) (by first | rfl | simp [okCels, allOk_plain]) ?_
    refine t_takeD 0 rfl (by kernel_rfl) rfl rfl rfl (yV rfl) rfl ?_
    refine t_takeD 1 rfl (by kernel_rfl) rfl rfl rfl (yV rfl) rfl ?_
    refine t_takeR 3 rfl (by kernel_rfl) rfl rfl rfl (fun _ => y_val tok rfl) rfl ?_
    refine t_go ?_
    refine h_one 2 (by kernel_rfl) ?_
    exact absurd hz0 h
   ·
    simp only [Xa, Xb, Xc, Xd, Xe, Xf, Xg, Xh, Xi, Xj, Xk, Xl, Xm, Xn, Xo, Xp] at h
    refine c_skip (x_then (c_seq ?_))
    refine c_heldS [9] mixed rfl (by repeat (first | exact oN | refine oC rfl ?_)) (by first | rfl | simp [okCels, allOk_plain]) ?_
    refine t_takeD 0 rfl (by kernel_rfl) rfl rfl rfl (yV rfl) rfl ?_
    refine t_takeD 1 rfl (by kernel_rfl) rfl rfl rfl (yV rfl) rfl ?_
    refine t_takeD 2 rfl (by kernel_rfl) rfl rfl rfl (yV rfl) rfl ?_
    refine t_takeD 3 rfl (by kernel_rfl) rfl rfl rfl (yV rfl) rfl ?_
    refine t_takeD 4 rfl (by kernel_rfl) rfl rfl rfl (yV rfl) rfl ?_
    refine t_takeD 5 rfl (by kernel_rfl) rfl rfl rfl (yV rfl) rfl ?_
    refine t_takeD 6 rfl (by kernel_rfl) rfl rfl rfl (yV rfl) rfl ?_
    refine t_takeD 7 rfl (by kernel_rfl) rfl rfl rfl (yV rfl) rfl ?_
    refine t_go ?_
    refine h_one 8 (by kernel_rfl) ?_
    refine h_call 8 (.a (.v _)) rfl rfl rfl fnok25 rfl rfl rfl (fun hg E w1 hm => by exact rover_c _ _ _ _ _ _ _ _ _) ?_
    refine h_one 9 (by kernel_rfl) ?_
    refine h_store 9 tok rfl rfl rfl rfl (by repeat' first | exact trivial | exact rfl | apply And.intro) (.inl rfl) ?_
    refine h_one 10 (by kernel_rfl) ?_
    refine yH 10 rfl rfl rfl rfl rfl ?_
    refine h_one 11 (by kernel_rfl) ?_
    refine yH 11 rfl rfl rfl rfl rfl ?_
    refine h_done [6, 7, 8] (by kernel_rfl) rfl ?_
    refine x_then (c_ret ?_)
    refine b_ret tok rfl ?_
    intro E w' hm _
    exact ⟨hm.below (Vw.le.refl _), .inl ⟨hz0, rfl⟩⟩
  ·
   simp only [Xa, Xb, Xc, Xd, Xe, Xf, Xg, Xh, Xi, Xj, Xk, Xl, Xm, Xn, Xo, Xp] at h
   have hz0 := h
   clear h
   refine c_skip (x_then (c_seq (c_region ?_)))
   iterate 2 refine yO rfl rfl rfl rfl ?_
   refine o_end [4] rfl ?_
   refine x_then (c_ret ?_)
   refine b_ret tok rfl ?_
   intro E1 w1 hm1 hok1
   refine inl_end (E := E) hm1 hok1 rfl rfl (by repeat (first | exact KeepsIn.zero | refine KeepsIn.succ rfl ?_)) rfl (by repeat (first | exact oN | refine oC rfl ?_)) rfl ?_
   clear hm1 hok1 w1 E1 E
   refine yO rfl rfl rfl rfl ?_
   refine o_end [4, 6, 8, 11] rfl ?_
   refine x_then (c_seq (c_seq (c_region ?_)))
   iterate 2 refine yO rfl rfl rfl rfl ?_
   refine o_end [4, 6, 8, 11, 29] rfl ?_
   refine x_then ?_
   refine c_cond rfl (fun h => ?_) (fun h => ?_)
   ·
    simp only [Xa, Xb, Xc, Xd, Xe, Xf, Xg, Xh, Xi, Xj, Xk, Xl, Xm, Xn, Xo, Xp] at h
    refine c_seq ?_
    refine c_heldS [4] mixed rfl (by repeat (first | exact oN | refine oC rfl ?_)) (by first | rfl | simp [okCels, allOk_plain]) ?_
    refine t_takeD 0 rfl (by kernel_rfl) rfl rfl rfl (yV rfl) rfl ?_
    refine t_takeD 1 rfl (by kernel_rfl) rfl rfl rfl (yV rfl) rfl ?_
    refine t_takeR 3 rfl (by kernel_rfl) rfl rfl rfl (fun _ => y_val tok rfl) rfl ?_
    refine t_go ?_
    refine h_one 2 (by kernel_rfl) ?_
    refine h_call 2 (.a (.v _)) rfl rfl rfl fnok25 rfl rfl rfl (fun hg E w1 hm => by exact rover_c _ _ _ _ _ _ _ _ _) ?_
    refine h_one 4 (by kernel_rfl) ?_
    refine h_store 4 tok rfl rfl rfl rfl (by repeat' first | exact trivial | exact rfl | apply And.intro) (.inl rfl) ?_
    refine h_one 5 (by kernel_rfl) ?_
    refine yH 5 rfl rfl rfl rfl rfl ?_
    refine h_one 6 (by kernel_rfl) ?_
    refine yH 6 rfl rfl rfl rfl rfl ?_
    refine h_done [6, 7, 8] (by kernel_rfl) rfl ?_
    refine x_then (c_ret (x_then_ret ?_))
    refine b_ret tok rfl ?_
    intro E w' hm _
    exact ⟨hm.below (Vw.le.refl _), .inr ⟨hz0, rfl⟩⟩
   ·
    simp only [Xa, Xb, Xc, Xd, Xe, Xf, Xg, Xh, Xi, Xj, Xk, Xl, Xm, Xn, Xo, Xp] at h
    refine c_skip (x_then (c_seq ?_))
    refine c_heldS [9] mixed rfl (by repeat (first | exact oN | refine oC rfl ?_)) (by first | rfl | simp [okCels, allOk_plain]) ?_
    refine t_takeD 0 rfl (by kernel_rfl) rfl rfl rfl (yV rfl) rfl ?_
    refine t_takeD 1 rfl (by kernel_rfl) rfl rfl rfl (yV rfl) rfl ?_
    refine t_takeD 2 rfl (by kernel_rfl) rfl rfl rfl (yV rfl) rfl ?_
    refine t_takeD 3 rfl (by kernel_rfl) rfl rfl rfl (yV rfl) rfl ?_
    refine t_takeD 4 rfl (by kernel_rfl) rfl rfl rfl (yV rfl) rfl ?_
    refine t_takeD 5 rfl (by kernel_rfl) rfl rfl rfl (yV rfl) rfl ?_
    refine t_takeD 6 rfl (by kernel_rfl) rfl rfl rfl (yV rfl) rfl ?_
    refine t_takeD 7 rfl (by kernel_rfl) rfl rfl rfl (yV rfl) rfl ?_
    refine t_go ?_
    refine h_one 8 (by kernel_rfl) ?_
    exact absurd h hz0
 ·
  exact absurd h (by decide)
theorem rpTake3_c (g : Geo) (ok : g.Ok) (slot key tail : Int) (la ca : Option Addr) (ln lc cn cc : Nat) (i en : Int) (s : ByteArray) (w : World) :
  Calls Tryz.prog 24 #[g.val, rpV slot key 3 tail (.slice la ln lc) (.slice ca cn cc) i en, S s] w fun e w' => e = .returned (.tuple #[rpV slot key 4 tail (.slice la ln lc) (.slice ca cn cc) i en, .bool true, I 0]) ∧ Below w.heap.size w w' := by
 refine enter (E := E0) (O := []) (nl := 0) (V := vw w) [.a (.v g.val), .a (.v (rpV slot key 3 tail (.slice la ln lc) (.slice ca cn cc) i en)), .a (.v (S s))] Tryz.func24 rfl rfl (mem0 E0 0 w) rfl rfl ?_
 refine c_seq (c_region ?_)
 iterate 3 refine o_new tok rfl rfl rfl rfl ?_
 iterate 2 refine yO rfl rfl rfl rfl ?_
 refine o_end [2, 3, 4, 6, 8] rfl ?_
 refine x_then (c_seq (c_region ?_))
 iterate 2 refine yO rfl rfl rfl rfl ?_
 refine o_call (.a (.v _)) rfl rfl fnok41 rfl rfl rfl (fun hg E w1 hm => by exact deed3_c _) ?_
 iterate 3 refine yO rfl rfl rfl rfl ?_
 refine o_new tok rfl rfl rfl rfl ?_
 refine o_store tok rfl rfl rfl (by first | (repeat' first | exact trivial | exact rfl | apply And.intro); done | simp [onesP, oneP, lk, Value.oneCell']) ?_
 refine yO rfl rfl rfl rfl ?_
 refine o_end [2, 3, 4, 6, 8, 9, 10] rfl ?_
 refine x_then (c_seq (c_region ?_))
 iterate 3 refine yO rfl rfl rfl rfl ?_
 refine o_new tok rfl rfl rfl rfl ?_
 refine yO rfl rfl rfl rfl ?_
 refine o_end [2, 4, 6, 8, 9, 10, 11] rfl ?_
 refine x_then (c_seq (c_seq (c_region ?_)))
 refine yO rfl rfl rfl rfl ?_
 refine o_end [2, 4, 6, 8, 9, 11, 22] rfl ?_
 refine x_then ?_
 refine c_cond rfl (fun h => ?_) (fun h => ?_)
 ·
  refine c_region ?_
  iterate 4 refine yO rfl rfl rfl rfl ?_
  refine o_inlF rfl rfl rfl rfl rfl fnok64 rfl Tryz.func64 rfl rfl rfl (fun E => ?_)
  refine c_seq (c_region ?_)
  refine yO rfl rfl rfl rfl ?_
  refine o_end [0] rfl ?_
  refine x_then (c_seq (c_region ?_))
  iterate 4 refine yO rfl rfl rfl rfl ?_
  refine o_store tok rfl rfl rfl (by first | (repeat' first | exact trivial | exact rfl | apply And.intro); done | simp [onesP, oneP, lk, Value.oneCell']) ?_
  refine o_end [] rfl ?_
  refine x_then (c_seq (c_region ?_))
  refine yO rfl rfl rfl rfl ?_
  refine o_end [4] rfl ?_
  refine x_then (c_ret ?_)
  refine b_ret tok rfl ?_
  intro E1 w1 hm1 hok1
  refine inl_end (E := E) hm1 hok1 rfl rfl (by repeat (first | exact KeepsIn.zero | refine KeepsIn.succ rfl ?_)) rfl (by repeat (first | exact oN | refine oC rfl ?_)) rfl ?_
  clear hm1 hok1 w1 E1 E
  refine yO rfl rfl rfl rfl ?_
  refine o_end [4, 6, 8, 11] rfl ?_
  refine x_then (c_seq (c_seq (c_region ?_)))
  iterate 2 refine yO rfl rfl rfl rfl ?_
  refine o_end [4, 6, 8, 11, 29] rfl ?_
  refine x_then ?_
  refine c_cond rfl (fun h => ?_) (fun h => ?_)
  ·
   refine c_seq ?_
   refine c_heldS [4] mixed rfl (by repeat (first | exact oN | refine oC rfl ?_)) (by first | rfl | simp [okCels, allOk_plain]) ?_
   refine t_takeD 0 rfl (by kernel_rfl) rfl rfl rfl (yV rfl) rfl ?_
   refine t_takeD 1 rfl (by kernel_rfl) rfl rfl rfl (yV rfl) rfl ?_
   refine t_takeR 3 rfl (by kernel_rfl) rfl rfl rfl (fun _ => y_val tok rfl) rfl ?_
   refine t_go ?_
   refine h_one 2 (by kernel_rfl) ?_
   exact absurd h (by decide)
  ·
   refine c_skip (x_then (c_seq ?_))
   refine c_heldS [9] mixed rfl (by repeat (first | exact oN | refine oC rfl ?_)) (by first | rfl | simp [okCels, allOk_plain]) ?_
   refine t_takeD 0 rfl (by kernel_rfl) rfl rfl rfl (yV rfl) rfl ?_
   refine t_takeD 1 rfl (by kernel_rfl) rfl rfl rfl (yV rfl) rfl ?_
   refine t_takeD 2 rfl (by kernel_rfl) rfl rfl rfl (yV rfl) rfl ?_
   refine t_takeD 3 rfl (by kernel_rfl) rfl rfl rfl (yV rfl) rfl ?_
   refine t_takeD 4 rfl (by kernel_rfl) rfl rfl rfl (yV rfl) rfl ?_
   refine t_takeD 5 rfl (by kernel_rfl) rfl rfl rfl (yV rfl) rfl ?_
   refine t_takeD 6 rfl (by kernel_rfl) rfl rfl rfl (yV rfl) rfl ?_
   refine t_takeD 7 rfl (by kernel_rfl) rfl rfl rfl (yV rfl) rfl ?_
   refine t_go ?_
   refine h_one 8 (by kernel_rfl) ?_
   refine h_call 8 (.a (.v _)) rfl rfl rfl fnok25 rfl rfl rfl (fun hg E w1 hm => by exact rover_c _ _ _ _ _ _ _ _ _) ?_
   refine h_one 9 (by kernel_rfl) ?_
   refine h_store 9 tok rfl rfl rfl rfl (by repeat' first | exact trivial | exact rfl | apply And.intro) (.inl rfl) ?_
   refine h_one 10 (by kernel_rfl) ?_
   refine yH 10 rfl rfl rfl rfl rfl ?_
   refine h_one 11 (by kernel_rfl) ?_
   refine yH 11 rfl rfl rfl rfl rfl ?_
   refine h_done [6, 7, 8] (by kernel_rfl) rfl ?_
   refine x_then (c_ret ?_)
   refine b_ret tok rfl ?_
   intro E w' hm _
   refine ⟨?_, hm.below (Vw.le.refl _)⟩
   rfl
 ·
  exact absurd h (by decide)
theorem cells0_c (g : Geo) (ok : g.Ok) (hG : geoB g = true) (w : World) :
  Calls Tryz.prog 84 #[g.val, .slice none 0 0] w fun e w' => e = .returned (.tuple #[.slice none 0 0, I 0]) ∧ Below w.heap.size w w' := by
 have hsl : SlOf (vw w) Block.cells 2 (.slice none 0 0) [] := slNil _ _ _ _ (fun _ => rfl)
 have hmay : mayL g [] = true := by simp [mayL, mayF, hG]
 have hmc := fun w1 hV => bmay_c (vw w) g ok _ [] w1 hV hsl (by simp [maxLen])
 rw [hmay] at hmc
 refine enter (E := E0) (O := []) (nl := 0) (V := vw w) [.a (.v g.val), .a (.v (.slice none 0 0))] Tryz.func84 rfl rfl (mem0 E0 0 w) rfl rfl ?_
 refine c_seq (c_region ?_)
 refine o_new tok rfl rfl rfl rfl ?_
 iterate 2 refine yO rfl rfl rfl rfl ?_
 refine o_end [1, 2, 4] rfl ?_
 refine x_then (c_seq (c_seq (c_region ?_)))
 iterate 2 refine yO rfl rfl rfl rfl ?_
 refine o_call (.a (.v _)) rfl rfl fnok95 rfl rfl rfl (fun hg E w1 hm => by exact hmc _ hm.leV) ?_
 refine yO rfl rfl rfl rfl ?_
 refine o_end [1, 2, 4, 15] rfl ?_
 refine x_then ?_
 refine c_cond rfl (fun h => ?_) (fun h => ?_)
 ·
  refine c_seq (c_region ?_)
  iterate 2 refine yO rfl rfl rfl rfl ?_
  refine o_end [4, 5] rfl ?_
  refine x_then (c_ret (x_then_ret ?_))
  refine b_ret tok rfl ?_
  exact absurd h (by decide)
 ·
  refine c_skip (x_then (c_seq (c_seq (c_region ?_))))
  refine yO rfl rfl rfl rfl ?_
  refine o_yield rfl rfl rfl (y_len tok rfl (fun hg => hsl.sl)) ?_
  refine yO rfl rfl rfl rfl ?_
  refine o_end [2, 4, 16, 17, 18] rfl ?_
  refine x_then (c_block ?_)
  refine c_loopK [2, 16, 17] [] rfl rfl (σ := Nat) (fun k => [(4, .a (.v (.slice none 0 0))), (18, .a (.v (I k)))]) (fun k => []) (fun k => k = 0) (fun k => 0) (0) (rfl) (by repeat (first | exact fN | refine fC rfl ?_)) (by repeat (first | exact oN | refine oC rfl ?_)) rfl ?_
  rintro k rfl
  refine c_seq (c_region ?_)
  refine yO rfl rfl rfl rfl ?_
  refine o_end [2, 4, 16, 17, 18, 19] rfl ?_
  refine x_then (c_seq ?_)
  refine c_cond rfl (fun h => ?_) (fun h => ?_)
  ·
   simp only [Xa, Xb, Xc, Xd, Xe, Xf, Xg, Xh, Xi, Xj, Xk, Xl, Xm, Xn, Xo, Xp] at h
   refine c_skip (x_then (c_seq (c_block (c_seq (c_region ?_)))))
   simp at h
  ·
   simp only [Xa, Xb, Xc, Xd, Xe, Xf, Xg, Xh, Xi, Xj, Xk, Xl, Xm, Xn, Xo, Xp] at h
   refine c_exit (x_then_exit (x_then_exit (x_block_hit (x_then (c_seq ?_)))))
   refine c_region ?_
   iterate 3 refine yO rfl rfl rfl rfl ?_
   refine o_end [4, 5] rfl ?_
   refine x_then (c_ret ?_)
   refine b_ret tok rfl ?_
   intro E w' hm _
   refine ⟨?_, hm.below (Vw.le.refl _)⟩
   rfl
theorem scanned0_c (V : Vw) (g : Geo) (ok : g.Ok) (hG : geoB g = true) (slot key at_ tail : Int) (lv cv : Value) (i en : Int) (L : List Record) (b : Nat) (w : World) (hb : w.heap[b]? = some (.cells (wkC slot key at_ tail lv cv i en g).toArray 88 (0, 0)))
  (hV : V.le ((vw w).del b)) (hs0 : SlOf V Record.cells 6 lv L) (hn : L.length ≤ 1000000) (h0 : whole L = 0) :
  Calls Tryz.prog 74 #[Ptr b] w fun e w' => e = .returned (I 0) ∧ Go.Eng.Touch (· = b) w w' ∧
   w'.heap[b]? = some (.cells (wkC slot key 3 tail lv (.slice none 0 0) 0 (IntKind.i64.wrap tail) g).toArray 88 (0, 0)) := by
 obtain ⟨la, ln, lc, rfl⟩ := sl_shape hs0.sl
 have hs := hs0.mono hV
 have hbc := fun w1 hV => blocks0_c ((vw w).del b) la ln lc L w1 hV hs hn h0
 have hec := fun w1 hV => sEnd_c ((vw w).del b) _ L tail w1 hV hs hn
 rw [h0] at hec
 refine enter1 [.a (.ptr 0 0)] hb Tryz.func74 rfl rfl rfl rfl ?_
 refine c_seq (c_region ?_)
 refine yO rfl rfl rfl rfl ?_
 refine o_end [0] rfl ?_
 refine x_then (c_seq ?_)
 refine c_draw mixed (by kernel_rfl) ?_
 iterate 9 refine d_yield rfl rfl rfl (yV rfl) rfl ?_
 refine d_call (.a (.v _)) rfl rfl fnok85 rfl rfl rfl (fun hg E w1 hm => by exact hbc _ hm.leV) ?_
 refine d_call (.a (.v _)) rfl rfl fnok84 rfl rfl rfl (fun hg E w1 hm => by exact cells0_c g ok hG _) ?_
 iterate 5 refine d_yield rfl rfl rfl (yV rfl) rfl ?_
 refine d_end [0, 3, 4] rfl ?_
 refine x_then (c_seq (c_seq (c_region ?_)))
 iterate 2 refine yO rfl rfl rfl rfl ?_
 refine o_end [0, 3, 20] rfl ?_
 refine x_then ?_
 refine c_cond rfl (fun h => ?_) (fun h => ?_)
 ·
  refine c_seq (c_region ?_)
  refine yO rfl rfl rfl rfl ?_
  refine o_end [2] rfl ?_
  refine x_then (c_ret (x_then_ret ?_))
  refine b_ret tok rfl ?_
  exact absurd h (by decide)
 ·
  refine c_skip (x_then (c_seq ?_))
  refine c_heldS [19, 23, 27, 31] mixed rfl (by repeat (first | exact oN | refine oC rfl ?_)) (by first | rfl | simp [okCels, allOk_plain]) ?_
  refine t_takeD 0 rfl (by kernel_rfl) rfl rfl rfl (yV rfl) rfl ?_
  refine t_takeR 1 rfl (by kernel_rfl) rfl rfl rfl (fun _ => y_val tok rfl) rfl ?_
  refine t_takeR 2 rfl (by kernel_rfl) rfl rfl rfl (fun _ => y_val tok rfl) rfl ?_
  refine t_takeR 3 rfl (by kernel_rfl) rfl rfl rfl (fun _ => y_val tok rfl) rfl ?_
  refine t_takeD 4 rfl (by kernel_rfl) rfl rfl rfl (yV rfl) rfl ?_
  refine t_takeD 5 rfl (by kernel_rfl) rfl rfl rfl (yV rfl) rfl ?_
  refine t_takeD 6 rfl (by kernel_rfl) rfl rfl rfl (yV rfl) rfl ?_
  refine t_takeD 7 rfl (by kernel_rfl) rfl rfl rfl (yV rfl) rfl ?_
  refine t_takeD 8 rfl (by kernel_rfl) rfl rfl rfl (yV rfl) rfl ?_
  refine t_takeD 9 rfl (by kernel_rfl) rfl rfl rfl (yV rfl) rfl ?_
  refine t_takeD 10 rfl (by kernel_rfl) rfl rfl rfl (yV rfl) rfl ?_
  refine t_takeD 11 rfl (by kernel_rfl) rfl rfl rfl (yV rfl) rfl ?_
  refine t_takeD 12 rfl (by kernel_rfl) rfl rfl rfl (yV rfl) rfl ?_
  refine t_takeD 13 rfl (by kernel_rfl) rfl rfl rfl (yV rfl) rfl ?_
  refine t_takeD 14 rfl (by kernel_rfl) rfl rfl rfl (yV rfl) rfl ?_
  refine t_go ?_
  refine h_one 15 (by kernel_rfl) ?_
  refine h_call 15 (.a (.v _)) rfl rfl rfl fnok86 rfl rfl rfl (fun hg E w1 hm => by exact hec _ hm.leV) ?_
  refine h_one 16 (by kernel_rfl) ?_
  refine yH 16 rfl rfl rfl rfl rfl ?_
  refine h_one 17 (by kernel_rfl) ?_
  refine yH 17 rfl rfl rfl rfl rfl ?_
  refine h_one 18 (by kernel_rfl) ?_
  refine yH 18 rfl rfl rfl rfl rfl ?_
  refine h_one 19 (by kernel_rfl) ?_
  refine h_store 19 tok rfl rfl rfl rfl (by repeat' first | exact trivial | exact rfl | apply And.intro) (.inl rfl) ?_
  refine h_one 20 (by kernel_rfl) ?_
  refine yH 20 rfl rfl rfl rfl rfl ?_
  refine h_one 21 (by kernel_rfl) ?_
  refine yH 21 rfl rfl rfl rfl rfl ?_
  refine h_one 22 (by kernel_rfl) ?_
  refine yH 22 rfl rfl rfl rfl rfl ?_
  refine h_one 23 (by kernel_rfl) ?_
  refine h_store 23 tok rfl rfl rfl rfl (by repeat' first | exact trivial | exact rfl | apply And.intro) (.inl rfl) ?_
  refine h_one 24 (by kernel_rfl) ?_
  refine yH 24 rfl rfl rfl rfl rfl ?_
  refine h_one 25 (by kernel_rfl) ?_
  refine yH 25 rfl rfl rfl rfl rfl ?_
  refine h_one 26 (by kernel_rfl) ?_
  refine yH 26 rfl rfl rfl rfl rfl ?_
  refine h_one 27 (by kernel_rfl) ?_
  refine h_store 27 tok rfl rfl rfl rfl (by repeat' first | exact trivial | exact rfl | apply And.intro) (.inl rfl) ?_
  refine h_one 28 (by kernel_rfl) ?_
  refine yH 28 rfl rfl rfl rfl rfl ?_
  refine h_one 29 (by kernel_rfl) ?_
  refine yH 29 rfl rfl rfl rfl rfl ?_
  refine h_one 30 (by kernel_rfl) ?_
  refine yH 30 rfl rfl rfl rfl rfl ?_
  refine h_one 31 (by kernel_rfl) ?_
  refine h_store 31 tok rfl rfl rfl rfl (by repeat' first | exact trivial | exact rfl | apply And.intro) (.inl rfl) ?_
  refine h_done [0, 3] (by kernel_rfl) rfl ?_
  refine x_then (c_seq (c_seq (c_region ?_)))
  refine yO rfl rfl rfl rfl ?_
  refine o_yield rfl rfl rfl (y_lenP tok rfl) ?_
  refine yO rfl rfl rfl rfl ?_
  refine o_end [0, 51] rfl ?_
  refine x_then ?_
  refine c_cond rfl (fun h => ?_) (fun h => ?_)
  ·
   refine c_region ?_
   iterate 4 refine yO rfl rfl rfl rfl ?_
   refine o_store tok rfl rfl rfl (by first | (repeat' first | exact trivial | exact rfl | apply And.intro); done | simp [onesP, oneP, lk, Value.oneCell']) ?_
   refine o_end [] rfl ?_
   refine x_then (c_seq (c_region ?_))
   refine yO rfl rfl rfl rfl ?_
   refine o_end [2] rfl ?_
   refine x_then (c_ret ?_)
   refine b_ret tok rfl ?_
   intro E w' hm _
   obtain ⟨h1, h2⟩ := back1 hm (Vw.le.refl _) rfl rfl rfl
   refine ⟨rfl, h1, ?_⟩
   rw [h2]
   simp [A.den]
  ·
   refine c_skip (x_then (c_seq (c_region ?_)))
   refine yO rfl rfl rfl rfl ?_
   refine o_end [2] rfl ?_
   refine x_then (c_ret ?_)
   refine b_ret tok rfl ?_
   simp at h
theorem rp_take {α : Type} {l : List α} {i : Nat} {x : α} (h : l[i]? = some x) : l.take (i + 1) = l.take i ++ [x] := by
 rw [List.take_add_one, h]; rfl
theorem records_c (V : Vw) (b : Nat) (ma : Option Addr) (mn mc : Nat) (w : World) (hV : V.le (vw w)) : Calls Tryz.prog 75 #[Ptr b, .slice ma mn mc] w fun e w' => ∃ v V', e = .returned v ∧ Below w.heap.size w w' ∧ Vext w.heap.size V V' w' ∧
  ∃ bw bm, v = .func (.func 87) #[] #[Ptr bw, Ptr bm] ∧ V'.get bw = some (.cells [Ptr b].toArray 86 (0, 0)) ∧ V'.get bm = some (.cells [.slice ma mn mc].toArray 36 (0, 0)) := by
 refine enter (E := E0) (O := []) (nl := 0) (V := vw w) [.a (.v (Ptr b)), .a (.v (.slice ma mn mc))] Tryz.func75 rfl rfl (mem0 E0 0 w) rfl rfl ?_
 refine c_seq (c_region ?_)
 iterate 2 refine o_new tok rfl rfl rfl rfl ?_
 refine yO rfl rfl rfl rfl ?_
 refine o_end [2, 3] rfl ?_
 refine x_then (c_seq (c_region ?_))
 iterate 2 refine yO rfl rfl rfl rfl ?_
 refine o_end [4] rfl ?_
 refine x_then (c_ret ?_)
 refine b_ret tok rfl ?_
 intro E w' hm _
 have hb := hm.below (Vw.le.refl _)
 have h0 := hm.lit 0 _ _ rfl
 have h1 := hm.lit 1 _ _ rfl
 have z0 : w.heap.size ≤ E.ρ 0 := by
  rcases Nat.lt_or_ge (E.ρ 0) w.heap.size with h | h
  ·
   have := hm.off 0 _ (E.ρ 0) rfl rfl
   rw [show (vw w).get (E.ρ 0) = w.heap[E.ρ 0]? from rfl, Array.getElem?_eq_getElem h] at this
   cases this
  · exact h
 have z1 : w.heap.size ≤ E.ρ 1 := by
  rcases Nat.lt_or_ge (E.ρ 1) w.heap.size with h | h
  ·
   have := hm.off 1 _ (E.ρ 1) rfl rfl
   rw [show (vw w).get (E.ρ 1) = w.heap[E.ρ 1]? from rfl, Array.getElem?_eq_getElem h] at this
   cases this
  · exact h
 refine ⟨_, ⟨fun k => if w.heap.size ≤ k then w'.heap[k]? else V.get k, V.os, V.tape, V.output⟩, rfl, hb, ⟨⟨fun k o hk => ?_, rfl, rfl, rfl⟩, fun k o hk => ?_⟩, E.ρ 0, E.ρ 1, rfl, ?_, ?_⟩
 ·
  have hlt : k < w.heap.size := (Array.getElem?_eq_some_iff.1 (hV.get k o hk)).1
  show (if _ then _ else _) = _
  rw [if_neg (by omega)]
  exact hk
 ·
  change (if _ then _ else _) = _ at hk
  split at hk
  · exact ⟨hk, .inr (by assumption)⟩
  ·
   have hlt : k < w.heap.size := (Array.getElem?_eq_some_iff.1 (hV.get k o hk)).1
   exact ⟨(hb.block k hlt).trans (hV.get k o hk), .inl hk⟩
 ·
  show (if _ then _ else _) = _
  rw [if_pos z0]
  exact h0
 ·
  show (if _ then _ else _) = _
  rw [if_pos z1]
  exact h1
theorem records_seq (V : Vw) (bw bm b : Nat) (slot key at_ tail : Int) (la : Option Addr) (ln lc : Nat) (cv : Value) (i en : Int) (g : Geo) (ma : Option Addr) (mn mc : Nat) (L M : List Record) (hn : L.length + M.length ≤ 1000000)
  (hbw : V.get bw = some (.cells [Ptr b].toArray 86 (0, 0))) (hbm : V.get bm = some (.cells [.slice ma mn mc].toArray 36 (0, 0)))
  (hb : V.get b = some (.cells (wkC slot key at_ tail (.slice la ln lc) cv i en g).toArray 88 (0, 0))) (hL : SlOf V Record.cells 6 (.slice la ln lc) L) (hM : SlOf V Record.cells 6 (.slice ma mn mc) M) (m : Nat) (w0 : World) (hV : V.le (vw w0)) :
  SeqR m Tryz.prog 87 #[Ptr bw, Ptr bm] (fun r : Record => #[r.val]) V (fun xs => xs = L ++ M) (fun _ => True) (L.length + M.length) w0 := by
 intro l J Jx W hW hab hsub hJx hY h0
 have hVW : V.le (vw W) := hV.trans ⟨fun k o hk => by
  have := hW.block k (Array.getElem?_eq_some_iff.1 hk).1
  show W.heap[k]? = some o
  rw [this]; exact hk, hW.os, hW.tape, hW.output⟩
 have hJle : ∀ {R p A B}, J R p A → (vw A).le (vw B) → J R p B := fun {R p A B} h hle => hsub _ _ _ _ (hab _ _ _ _ none h (grown_of_le hle) (fun r e => by cases e)) (fun k hk => .inl hk)
 show CallsIn _ _ _ _ #[.func (.yield l) #[] #[], Ptr bw, Ptr bm] _ _
 refine enterR _ [.a (.v (.func (.yield l) #[] #[])), .a (.v (Ptr bw)), .a (.v (Ptr bm))] Tryz.func87 rfl rfl (mem0 E0 0 W) rfl rfl ?_
 refine r_seq ?_
 refine r_heldS (by intro _ _ w1 h1; first | exact h1 | (obtain ⟨h2, _⟩ := h1; cases h2; done) | (obtain ⟨⟨_, h2⟩, _⟩ := h1; cases h2; done) | (obtain ⟨⟨_, h2, _⟩, _⟩ := h1; cases h2; done) | (obtain ⟨_, h2, _⟩ := h1; cases h2; done) | (obtain ⟨_, _, h2, _⟩ := h1; cases h2; done) | (obtain ⟨_, _, _, h2, _⟩ := h1; cases h2; done) | (rcases h1 with ⟨⟨_, _, h2, _⟩ | ⟨_, h2⟩, _⟩ <;> cases h2; done) | (exact nor _ h1)) rfl [] mixed rfl (by repeat (first | exact oN | refine oC rfl ?_)) (by first | rfl | simp [okCels, allOk_plain]) ?_
 refine t_take 0 rfl (by kernel_rfl) rfl rfl rfl (y_ldp tok rfl (fun hg => hVW.get _ _ hbw) rfl) rfl ?_
 refine t_take 1 rfl (by kernel_rfl) rfl rfl rfl (yV rfl) rfl ?_
 refine t_take 2 rfl (by kernel_rfl) rfl rfl rfl (yV rfl) rfl ?_
 refine t_take 3 rfl (by kernel_rfl) rfl rfl rfl (yV rfl) rfl ?_
 refine t_take 4 rfl (by kernel_rfl) rfl rfl rfl (y_ldp tok rfl (fun hg => hVW.get _ _ hb) rfl) rfl ?_
 refine t_take 5 rfl (by kernel_rfl) rfl rfl rfl (y_ldp tok rfl (fun hg => hVW.get _ _ hbm) rfl) rfl ?_
 refine t_take 8 rfl (by kernel_rfl) rfl rfl rfl (yV rfl) rfl ?_
 refine t_go ?_
 refine h_one 6 (by kernel_rfl) ?_
 refine h_to 6 rfl rfl rfl rfl rfl rfl (s_bs tok 1 rfl rfl rfl) (.inr fun _ _ => ⟨(by repeat (first | exact oN | refine oC rfl ?_)), rfl, (by first | exact Vw.le.refl _ | assumption)⟩) (fun _ _ => ?_)
 refine h_one 7 (by kernel_rfl) ?_
 refine h_yield 7 rfl rfl rfl rfl (y_own (s := .a (.v (I 2))) 0 rfl rfl (fun v V' hv => y_len tok rfl (fun hg => hv))) ?_
 refine h_done [0, 14, 15, 16] (by kernel_rfl) rfl ?_
 refine rq ?_
 refine x_then ?_
 refine r_block ?_
 refine k_freeze 0 rfl (fun v V1 hle1 hsl hoff => ?_)
 refine k_now (fun E1 w1 hm1 => ?_)
 refine weaken (l := [(0, .a (.v (.func (.yield l) #[] #[]))), (14, .a (.v v)), (15, .a (.v (I 2))), (16, .a (.v (I 0)))]) (O' := []) (nl' := 1) ?_ (by repeat (first | exact fN | refine fC rfl ?_)) (by repeat (first | exact oN | refine oC rfl ?_)) rfl (Vw.le.refl _)
 have hleW : (vw W).le (vw w1) := hle1.trans hm1.leV
 obtain ⟨R0, hR0⟩ : ∃ R0 : Nat → Prop, R0 = fun k => False ∨ (W.heap.size ≤ k ∧ k < w1.heap.size) := ⟨_, rfl⟩
 have h1 : J R0 [] w1 := by rw [hR0]; exact hab _ _ _ _ none h0 (grown_of_le hleW) (fun r e => by cases e)
 obtain ⟨Vb, hVb⟩ : ∃ Vb : Vw, Vb = ⟨fun k => if W.heap.size ≤ k ∧ k < w1.heap.size then w1.heap[k]? else V.get k, V.os, V.tape, V.output⟩ := ⟨_, rfl⟩
 have hV1 := hVW.trans hleW
 have hVb0 : V.le Vb := by
  rw [hVb]
  refine ⟨fun k o hk => ?_, rfl, rfl, rfl⟩
  have hlt : k < W.heap.size := (Array.getElem?_eq_some_iff.1 (hVW.get k o hk)).1
  show (if _ then _ else _) = _
  rw [if_neg (by omega)]
  exact hk
 have hVb1 : Vb.le (vw w1) := by
  rw [hVb]
  refine ⟨fun k o hk => ?_, hV1.os, hV1.tape, hV1.output⟩
  change (if _ then _ else _) = _ at hk
  split at hk
  · exact hk
  · exact hV1.get k o hk
 have hkeep : ∀ A B : World, Vb.le (vw A) → (V.le (vw A) → V.le (vw B)) → (∀ k o, R0 k → A.heap[k]? = some o → B.heap[k]? = some o) → Vb.le (vw B) := by
  intro A B hA hAB hR
  have hB := hAB (hVb0.trans hA)
  have hAg := hA.get
  rw [hVb] at hAg ⊢
  refine ⟨fun k o hk => ?_, hB.os, hB.tape, hB.output⟩
  have h1 := hAg k o hk
  change (if _ then _ else _) = _ at hk
  split at hk
  · exact hR k o (by rw [hR0]; exact .inr (by assumption)) h1
  · exact hB.get k o hk
 have hslb : IsSl Vb v 1 2 [.slice la ln lc, .slice ma mn mc] := hsl.atBlock (fun k ob hk hg => by
  have hno := hoff k hk
  have hw := hm1.leV.get k ob hg
  have hlt : k < w1.heap.size := (Array.getElem?_eq_some_iff.1 hw).1
  have hge : W.heap.size ≤ k := Array.getElem?_eq_none_iff.1 hno
  rw [hVb]
  show (if _ then _ else _) = _
  rw [if_pos ⟨hge, hlt⟩]
  exact hw)
 have hrow : SlOf Vb (fun x : Value => [x]) 1 v [.slice la ln lc, .slice ma mn mc] := ⟨hslb, fun _ => rfl⟩
 obtain ⟨pre, hp0, hp1, hp2⟩ : ∃ pre : Nat → List Record, pre 0 = [] ∧ pre 1 = L ∧ pre 2 = L ++ M := ⟨fun i => if i = 0 then [] else if i = 1 then L else L ++ M, rfl, rfl, rfl⟩
 have hLb := hL.mono hVb0
 have hMb := hM.mono hVb0
 clear hsl hoff hslb
 refine r_loopV [0, 14, 15] [] rfl rfl (σ := Nat × World) (fun y => [(16, .a (.v (I y.1)))]) (fun y => []) (fun y => vw y.2) (fun y => (y.1 ≤ 2 ∧ J R0 (pre y.1) y.2 ∧ Vb.le (vw y.2))) (fun y => 2 - y.1) ((0, w1)) (⟨by omega, by rw [hp0]; exact h1, hVb1⟩) (by repeat (first | exact fN | refine fC rfl ?_)) (by repeat (first | exact oN | refine oC rfl ?_)) rfl (Vw.le.refl _) ?_
 rintro ⟨i, W1⟩ ⟨hi, hJ1, hVi⟩
 dsimp only at hi hJ1 hVi ⊢
 refine r_seq ?_
 refine r_region (by intro _ _ w1 h1; first | exact h1 | (obtain ⟨h2, _⟩ := h1; cases h2; done) | (obtain ⟨⟨_, h2⟩, _⟩ := h1; cases h2; done) | (obtain ⟨⟨_, h2, _⟩, _⟩ := h1; cases h2; done) | (obtain ⟨_, h2, _⟩ := h1; cases h2; done) | (obtain ⟨_, _, h2, _⟩ := h1; cases h2; done) | (obtain ⟨_, _, _, h2, _⟩ := h1; cases h2; done) | (rcases h1 with ⟨⟨_, _, h2, _⟩ | ⟨_, h2⟩, _⟩ <;> cases h2; done) | (exact nor _ h1)) rfl ?_
 refine yO rfl rfl rfl rfl ?_
 refine o_end [0, 14, 15, 16, 17] rfl ?_
 refine rq ?_
 refine x_then ?_
 refine r_seq ?_
 refine r_cond rfl (fun h => ?_) (fun h => ?_)
 ·
  simp only [Xa, Xb, Xc, Xd, Xe, Xf, Xg, Xh, Xi, Xj, Xk, Xl, Xm, Xn, Xo, Xp] at h
  refine r_skip ?_
  refine x_then ?_
  refine r_seq ?_
  refine r_block ?_
  refine r_seq ?_
  refine r_region (by intro _ _ w1 h1; first | exact h1 | (obtain ⟨h2, _⟩ := h1; cases h2; done) | (obtain ⟨⟨_, h2⟩, _⟩ := h1; cases h2; done) | (obtain ⟨⟨_, h2, _⟩, _⟩ := h1; cases h2; done) | (obtain ⟨_, h2, _⟩ := h1; cases h2; done) | (obtain ⟨_, _, h2, _⟩ := h1; cases h2; done) | (obtain ⟨_, _, _, h2, _⟩ := h1; cases h2; done) | (rcases h1 with ⟨⟨_, _, h2, _⟩ | ⟨_, h2⟩, _⟩ <;> cases h2; done) | (exact nor _ h1)) rfl ?_
  obtain ⟨xa, xn, xc, X, hx, hX, hpre, hplen⟩ : ∃ xa xn xc X, ([.slice la ln lc, .slice ma mn mc] : List Value)[i]? = some (.slice xa xn xc) ∧ SlOf Vb Record.cells 6 (.slice xa xn xc) X ∧ pre (i + 1) = pre i ++ X ∧ (pre i ++ X).length ≤ L.length + M.length := by
   have hi2 : i = 0 ∨ i = 1 := by omega
   rcases hi2 with rfl | rfl
   · exact ⟨_, _, _, L, rfl, hLb, by rw [hp1, hp0]; rfl, by rw [hp0]; simp⟩
   · exact ⟨_, _, _, M, rfl, hMb, by rw [hp2, hp1], by rw [hp1]; simp⟩
  have hrow1 := hrow.mono hVi
  have hX1 := hX.mono hVi
  have hlt___slice_xa_xn_xc_ := lt_of_at hx
  refine o_yield rfl rfl rfl (y_idx tok rfl (fun hg => hrow1.sl) (fun hg => ⟨by omega, by simp; omega⟩)) ?_
  refine o_yield rfl rfl rfl (y_lel tok (i) 0 ((.slice xa xn xc)) rfl (fun hg => hrow1) (fun hg => hx) rfl rfl) ?_
  refine yO rfl rfl rfl rfl ?_
  refine o_end [0, 5, 14, 15, 16] rfl ?_
  refine rq ?_
  refine x_then ?_
  refine r_seq ?_
  refine r_region (by intro _ _ w1 h1; first | exact h1 | (obtain ⟨h2, _⟩ := h1; cases h2; done) | (obtain ⟨⟨_, h2⟩, _⟩ := h1; cases h2; done) | (obtain ⟨⟨_, h2, _⟩, _⟩ := h1; cases h2; done) | (obtain ⟨_, h2, _⟩ := h1; cases h2; done) | (obtain ⟨_, _, h2, _⟩ := h1; cases h2; done) | (obtain ⟨_, _, _, h2, _⟩ := h1; cases h2; done) | (rcases h1 with ⟨⟨_, _, h2, _⟩ | ⟨_, h2⟩, _⟩ <;> cases h2; done) | (exact nor _ h1)) rfl ?_
  refine yO rfl rfl rfl rfl ?_
  refine o_yield rfl rfl rfl (y_len tok rfl (fun hg => hX1.sl)) ?_
  refine yO rfl rfl rfl rfl ?_
  refine o_end [0, 14, 15, 16, 20, 21, 22] rfl ?_
  refine rq ?_
  refine x_then ?_
  refine r_block ?_
  have hXn : X.length ≤ 1000000 := by rw [List.length_append] at hplen; omega
  refine r_loopV [0, 14, 15, 16, 20, 21] [] rfl rfl (σ := Nat × World) (fun z => [(22, .a (.v (I z.1)))]) (fun z => []) (fun z => vw z.2) (fun z => (z.1 ≤ X.length ∧ J R0 (pre i ++ X.take z.1) z.2 ∧ Vb.le (vw z.2))) (fun z => X.length - z.1) ((0, W1)) (⟨by omega, by simpa using hJ1, hVi⟩) (by repeat (first | exact fN | refine fC rfl ?_)) (by repeat (first | exact oN | refine oC rfl ?_)) rfl (Vw.le.refl _) ?_
  rintro ⟨k, W2⟩ ⟨hk, hJ2, hVk⟩
  dsimp only at hk hJ2 hVk ⊢
  refine r_seq ?_
  refine r_region (by intro _ _ w1 h1; first | exact h1 | (obtain ⟨h2, _⟩ := h1; cases h2; done) | (obtain ⟨⟨_, h2⟩, _⟩ := h1; cases h2; done) | (obtain ⟨⟨_, h2, _⟩, _⟩ := h1; cases h2; done) | (obtain ⟨_, h2, _⟩ := h1; cases h2; done) | (obtain ⟨_, _, h2, _⟩ := h1; cases h2; done) | (obtain ⟨_, _, _, h2, _⟩ := h1; cases h2; done) | (rcases h1 with ⟨⟨_, _, h2, _⟩ | ⟨_, h2⟩, _⟩ <;> cases h2; done) | (exact nor _ h1)) rfl ?_
  refine yO rfl rfl rfl rfl ?_
  refine o_end [0, 14, 15, 16, 20, 21, 22, 23] rfl ?_
  refine rq ?_
  refine x_then ?_
  refine r_seq ?_
  refine r_cond rfl (fun h => ?_) (fun h => ?_)
  ·
   simp only [Xa, Xb, Xc, Xd, Xe, Xf, Xg, Xh, Xi, Xj, Xk, Xl, Xm, Xn, Xo, Xp] at h
   refine r_skip ?_
   refine x_then ?_
   refine r_seq ?_
   refine r_block ?_
   refine r_seq ?_
   refine r_region (by intro _ _ w1 h1; first | exact h1 | (obtain ⟨h2, _⟩ := h1; cases h2; done) | (obtain ⟨⟨_, h2⟩, _⟩ := h1; cases h2; done) | (obtain ⟨⟨_, h2, _⟩, _⟩ := h1; cases h2; done) | (obtain ⟨_, h2, _⟩ := h1; cases h2; done) | (obtain ⟨_, _, h2, _⟩ := h1; cases h2; done) | (obtain ⟨_, _, _, h2, _⟩ := h1; cases h2; done) | (rcases h1 with ⟨⟨_, _, h2, _⟩ | ⟨_, h2⟩, _⟩ <;> cases h2; done) | (exact nor _ h1)) rfl ?_
   have hX2 := hX.mono hVk
   obtain ⟨x, h_x⟩ := hX2.at (k := k) (by omega)
   have hlt_x := lt_of_at h_x
   refine o_yield rfl rfl rfl (y_idx tok rfl (fun hg => hX2.sl) (fun hg => ⟨by omega, by omega⟩)) ?_
   refine o_yield rfl rfl rfl (y_lel tok (k) 0 (x) rfl (fun hg => hX2) (fun hg => h_x) rfl rfl) ?_
   refine o_new tok rfl rfl rfl rfl ?_
   refine o_store tok rfl rfl rfl (by first | (repeat' first | exact trivial | exact rfl | apply And.intro); done | simp [onesP, oneP, lk, Value.oneCell']) ?_
   refine o_end [0, 7, 14, 15, 16, 20, 21, 22] rfl ?_
   refine rq ?_
   refine x_then ?_
   refine r_seq ?_
   refine r_regionY 2 (by intro _ _ w1 h1; first | exact h1 | (obtain ⟨h2, _⟩ := h1; cases h2; done) | (obtain ⟨⟨_, h2⟩, _⟩ := h1; cases h2; done) | (obtain ⟨⟨_, h2, _⟩, _⟩ := h1; cases h2; done) | (obtain ⟨_, h2, _⟩ := h1; cases h2; done) | (obtain ⟨_, _, h2, _⟩ := h1; cases h2; done) | (obtain ⟨_, _, _, h2, _⟩ := h1; cases h2; done) | (rcases h1 with ⟨⟨_, _, h2, _⟩ | ⟨_, h2⟩, _⟩ <;> cases h2; done) | (exact nor _ h1)) rfl rfl ?_
   iterate 2 refine yO rfl rfl rfl rfl ?_
   refine o_end [0, 7, 14, 15, 16, 20, 21, 22, 26, 27] rfl ?_
   refine ry _ ?_
   have htk : pre i ++ X.take (k + 1) = (pre i ++ X.take k) ++ [x] := by rw [List.append_assoc, rp_take h_x]
   have hplt : (pre i ++ X.take k).length < L.length + M.length := by
    rw [List.length_append] at hplen ⊢
    rw [List.length_take]
    omega
   have hround : ∀ w, (vw W2).le (vw w) → YieldAt (Rd none) (m - 1) Tryz.prog l #[x.val] w fun e w' => ∃ b V', e = .returned (.bool b) ∧ V'.le (vw w') ∧ ∃ W', V' = vw W' ∧ (b = true → J R0 (pre i ++ X.take (k + 1)) W' ∧ Vb.le (vw W')) ∧ (b = false → Jx (pre i ++ X.take (k + 1)) W') := by
    intro w hle
    refine yield_mono (hY R0 _ x w (hJle hJ2 hle) hplt) ?_
    intro e w' hq
    rw [htk]
    rcases hq with ⟨rfl, hj, hkv, hkr⟩ | ⟨rfl, hj⟩
    · exact ⟨true, vw w', rfl, Vw.le.refl _, w', rfl, fun _ => ⟨hj, hkeep _ _ (hVk.trans hle) hkv hkr⟩, fun hf => (by cases hf)⟩
    · exact ⟨false, vw w', rfl, Vw.le.refl _, w', rfl, fun hf => (by cases hf), fun _ => hj⟩
   refine weaken (l := [(0, .a (.v (.func (.yield l) #[] #[]))), (14, .a (.v v)), (15, .a (.v (I 2))), (16, .a (.v (I i))), (20, .a (.v (.slice xa xn xc))), (21, .a (.v (I X.length))), (22, .a (.v (I k))), (26, .a (.v (.func (.yield l) #[] #[]))), (27, .agg [.v (I x.key), .v (I x.lsn), .v (I x.block), .v (I x.k), .v (S x.text), .v (I x.count)])]) (O' := []) (nl' := 2) ?_ (by repeat (first | exact fN | refine fC rfl ?_)) (by repeat (first | exact oN | refine oC rfl ?_)) rfl (Vw.le.refl _)
   refine r_yield (fun b V' => ∃ W', V' = vw W' ∧ (b = true → J R0 (pre i ++ X.take (k + 1)) W' ∧ Vb.le (vw W')) ∧ (b = false → Jx (pre i ++ X.take (k + 1)) W')) rfl rfl rfl rfl (fun E w hle => by exact hround w hle) ?_
   rintro q V' ⟨W', rfl, hq1, hq2⟩
   refine r_rest (by intro _ _ w1 h1; first | exact h1 | (obtain ⟨h2, _⟩ := h1; cases h2; done) | (obtain ⟨⟨_, h2⟩, _⟩ := h1; cases h2; done) | (obtain ⟨⟨_, h2, _⟩, _⟩ := h1; cases h2; done) | (obtain ⟨_, h2, _⟩ := h1; cases h2; done) | (obtain ⟨_, _, h2, _⟩ := h1; cases h2; done) | (obtain ⟨_, _, _, h2, _⟩ := h1; cases h2; done) | (rcases h1 with ⟨⟨_, _, h2, _⟩ | ⟨_, h2⟩, _⟩ <;> cases h2; done) | (exact nor _ h1)) rfl ?_
   refine yO rfl rfl rfl rfl ?_
   refine o_end [0, 14, 15, 16, 20, 21, 22, 29] rfl ?_
   refine rq ?_
   refine x_then ?_
   refine r_cond rfl (fun h => ?_) (fun h => ?_)
   ·
    refine r_ret ?_
    refine x_block_ret (x_then_ret (x_then_ret (x_block_ret (x_block_ret (x_then_ret ?_)))))
    refine x_then_ret (x_block_ret ?_)
    refine rb_ret tok rfl ?_
    cases q with
    | true => exact absurd h (by simp)
    | false =>
     intro E w' hm _
     exact ⟨⟨_, rfl⟩, .inr ⟨_, trivial, abides_le hJx (hq2 rfl) hm.leV⟩⟩
   ·
    refine r_skip ?_
    refine x_block (x_then ?_)
    refine r_region (by intro _ _ w1 h1; first | exact h1 | (obtain ⟨h2, _⟩ := h1; cases h2; done) | (obtain ⟨⟨_, h2⟩, _⟩ := h1; cases h2; done) | (obtain ⟨⟨_, h2, _⟩, _⟩ := h1; cases h2; done) | (obtain ⟨_, h2, _⟩ := h1; cases h2; done) | (obtain ⟨_, _, h2, _⟩ := h1; cases h2; done) | (obtain ⟨_, _, _, h2, _⟩ := h1; cases h2; done) | (rcases h1 with ⟨⟨_, _, h2, _⟩ | ⟨_, h2⟩, _⟩ <;> cases h2; done) | (exact nor _ h1)) rfl ?_
    iterate 2 refine yO rfl rfl rfl rfl ?_
    refine o_end [0, 14, 15, 16, 20, 21, 22] rfl ?_
    refine rq ?_
    refine x_then ?_
    cases q with
    | false => exact absurd h (by simp)
    | true =>
     obtain ⟨hj, hv⟩ := hq1 rfl
     rw [wrapI (n := (k : Int) + 1) (by omega) (by omega)]
     refine rx_round ((k + 1, W')) (⟨by dsimp only; omega, hj, hv⟩) (by first | omega | (dsimp only; omega)) (by repeat (first | exact fN | refine fC rfl ?_)) (by repeat (first | exact oN | refine oC rfl ?_)) rfl (Vw.le.refl _)
  ·
   simp only [Xa, Xb, Xc, Xd, Xe, Xf, Xg, Xh, Xi, Xj, Xk, Xl, Xm, Xn, Xo, Xp] at h
   refine r_exit ?_
   iterate 2 refine x_then_exit ?_
   refine x_block_hit (x_block (x_then ?_))
   refine r_region (by intro _ _ w1 h1; first | exact h1 | (obtain ⟨h2, _⟩ := h1; cases h2; done) | (obtain ⟨⟨_, h2⟩, _⟩ := h1; cases h2; done) | (obtain ⟨⟨_, h2, _⟩, _⟩ := h1; cases h2; done) | (obtain ⟨_, h2, _⟩ := h1; cases h2; done) | (obtain ⟨_, _, h2, _⟩ := h1; cases h2; done) | (obtain ⟨_, _, _, h2, _⟩ := h1; cases h2; done) | (rcases h1 with ⟨⟨_, _, h2, _⟩ | ⟨_, h2⟩, _⟩ <;> cases h2; done) | (exact nor _ h1)) rfl ?_
   iterate 2 refine yO rfl rfl rfl rfl ?_
   refine o_end [0, 14, 15, 16] rfl ?_
   refine rq ?_
   refine x_then ?_
   have hkx : k = X.length := by omega
   subst hkx
   rw [List.take_of_length_le (Nat.le_refl _)] at hJ2
   rw [wrapI (n := (i : Int) + 1) (by omega) (by omega)]
   refine rx_round ((i + 1, W2)) (⟨by dsimp only; omega, by dsimp only; rw [hpre]; exact hJ2, hVk⟩) (by first | omega | (dsimp only; omega)) (by repeat (first | exact fN | refine fC rfl ?_)) (by repeat (first | exact oN | refine oC rfl ?_)) rfl (Vw.le.refl _)
 ·
  simp only [Xa, Xb, Xc, Xd, Xe, Xf, Xg, Xh, Xi, Xj, Xk, Xl, Xm, Xn, Xo, Xp] at h
  refine r_exit ?_
  iterate 2 refine x_then_exit ?_
  refine x_block_hit ?_
  refine rb_end tok rfl ?_
  have hi2 : i = 2 := by omega
  subst hi2
  intro E w' hm _
  exact ⟨⟨_, rfl⟩, .inl ⟨_, hp2.symm ▸ rfl, R0, hJle hJ1 hm.leV⟩⟩
abbrev wkR (d : Bool) (slot key tail : Int) (a : Option Addr) (n c : Nat) (ca : Option Addr) (cn cc : Nat) (i en : Int) (g : Geo) : List Value :=
 wkC slot key (if d = true then 3 else 1) tail (.slice a n c) (.slice (if d = true then none else ca) (if d = true then 0 else cn) (if d = true then 0 else cc)) (if d = true then 0 else i) (if d = true then IntKind.i64.wrap tail else en) g
def rowL (L : List Record) (s : ByteArray) (key lsn : Int) : List Record := if isB s key lsn = true then L ++ [isV s key lsn] else L
def rowD (g : Geo) (L : List Record) (s : ByteArray) (key lsn : Int) : Bool := !(isB s key lsn && decide ((L.length : Int) + 1 < g.journal))
def RowQ (V : Vw) (b : Nat) (g : Geo) (slot key tail : Int) (ca : Option Addr) (cn cc : Nat) (i en : Int) (L : List Record) (s : ByteArray) (lsn : Int) (w : World) (e : Ending) (w' : World) : Prop :=
 e = .returned (I 0) ∧ Go.Eng.Touch (· = b) w w' ∧ ∃ a n c V', Vext w.heap.size V V' w' ∧ SlOf V' Record.cells 6 (.slice a n c) (rowL L s key lsn) ∧
  w'.heap[b]? = some (.cells (wkR (rowD g L s key lsn) slot key tail a n c ca cn cc i en g).toArray 88 (0, 0))
theorem row_c (V : Vw) (g : Geo) (ok : g.Ok) (hG : geoB g = true) (slot key tail : Int) (la : Option Addr) (ln lc : Nat) (ca : Option Addr) (cn cc : Nat) (i en : Int) (L : List Record) (s : ByteArray) (hz : s.size ≤ maxLen) (b : Nat) (w : World) (hb : w.heap[b]? = some (.cells (wkC slot key 1 tail (.slice la ln lc) (.slice ca cn cc) i en g).toArray 88 (0, 0)))
  (hV : V.le ((vw w).del b)) (hs0 : SlOf V Record.cells 6 (.slice la ln lc) L) (hn : L.length ≤ 1000) (lsn : Int) (hlsn : lsn = IntKind.i64.wrap (tail + L.length)) (h0 : whole (rowL L s key lsn) = 0) :
  Calls Tryz.prog 60 #[Ptr b, S s] w (RowQ V b g slot key tail ca cn cc i en L s lsn w) := by
 have hs := hs0.mono hV
 obtain ⟨a', c', he, _⟩ := sl_cap hs.sl
 cases he
 have hisc := fun w => recIs_c s key lsn hz w
 obtain ⟨R, hR⟩ : ∃ R, isV s key lsn = R := ⟨_, rfl⟩
 obtain ⟨q, hq⟩ : ∃ q, isB s key lsn = q := ⟨_, rfl⟩
 rw [hR, hq, hlsn] at hisc
 rw [rowL, hR, hq] at h0
 refine enterR1 9 [.a (.ptr 0 0), .a (.v (S s))] hb Tryz.func60 rfl rfl rfl rfl ?_
 refine r_seq ?_
 refine r_region (by intro _ _ w1 h1; first | exact h1 | (obtain ⟨h2, _⟩ := h1; cases h2; done) | (obtain ⟨⟨_, h2⟩, _⟩ := h1; cases h2; done) | (obtain ⟨⟨_, h2, _⟩, _⟩ := h1; cases h2; done) | (obtain ⟨_, h2, _⟩ := h1; cases h2; done) | (obtain ⟨_, _, h2, _⟩ := h1; cases h2; done) | (obtain ⟨_, _, _, h2, _⟩ := h1; cases h2; done) | (rcases h1 with ⟨⟨_, _, h2, _⟩ | ⟨_, h2⟩, _⟩ <;> cases h2; done) | (exact nor _ h1)) rfl ?_
 refine yO rfl rfl rfl rfl ?_
 refine o_end [0, 1] rfl ?_
 refine rq ?_
 refine x_then ?_
 refine r_seq ?_
 refine r_heldM rfl (σ := Unit) (fun _ => [(0, .a (.ptr 0 0)), (5, .a (.ptr 3 0)), (6, .a (.v (.bool q)))]) (fun _ => [(0, .lit ((wkC slot key 1 tail (.slice la L.length lc) (.slice ca cn cc) i en g).map .v) 88), (1, .pin 0 b), (2, .size w.heap.size), (3, .lit (R.cells.map .v) 74)]) (4) (fun _ => (vw w).del b) (fun _ => True) mixed ?_ ?_
 ·
  refine t_take 0 rfl (by kernel_rfl) rfl rfl rfl (yV rfl) rfl ?_
  refine t_take 1 rfl (by kernel_rfl) rfl rfl rfl (yV rfl) rfl ?_
  refine t_take 2 rfl (by kernel_rfl) rfl rfl rfl (yV rfl) rfl ?_
  refine t_take 3 rfl (by kernel_rfl) rfl rfl rfl (yV rfl) rfl ?_
  refine t_take 4 rfl (by kernel_rfl) rfl rfl rfl (yV rfl) rfl ?_
  refine t_take 5 rfl (by kernel_rfl) rfl rfl rfl (yV rfl) rfl ?_
  refine t_take 6 rfl (by kernel_rfl) rfl rfl rfl (yV rfl) rfl ?_
  refine t_take 7 rfl (by kernel_rfl) rfl rfl rfl (yV rfl) rfl ?_
  refine t_take 8 rfl (by kernel_rfl) rfl rfl rfl (yV rfl) rfl ?_
  refine t_take 9 rfl (by kernel_rfl) rfl rfl rfl (yV rfl) rfl ?_
  refine t_take 10 rfl (by kernel_rfl) rfl rfl rfl (yV rfl) rfl ?_
  refine t_take 11 rfl (by kernel_rfl) rfl rfl rfl (yV rfl) rfl ?_
  refine t_take 12 rfl (by kernel_rfl) rfl rfl rfl (yV rfl) rfl ?_
  refine t_take 13 rfl (by kernel_rfl) rfl rfl rfl (yV rfl) rfl ?_
  refine t_take 14 rfl (by kernel_rfl) rfl rfl rfl (yV rfl) rfl ?_
  refine t_take 15 rfl (by kernel_rfl) rfl rfl rfl (yV rfl) rfl ?_
  refine t_take 16 rfl (by kernel_rfl) rfl rfl rfl (y_lenP tok rfl) rfl ?_
  refine t_take 17 rfl (by kernel_rfl) rfl rfl rfl (yV rfl) rfl ?_
  refine t_go ?_
  refine h_two 18 22 (by kernel_rfl) ?_ ?_
  ·
   refine h_call 18 (.a (.v (.tuple #[R.val, .bool q]))) rfl rfl rfl fnok73 rfl rfl rfl (fun hg E w1 hm => by exact hisc _) ?_
   refine h_two 19 22 (by kernel_rfl) ?_ ?_
   ·
    refine yH 19 rfl rfl rfl rfl rfl ?_
    refine h_three 20 21 22 (by kernel_rfl) ?_ ?_ ?_
    ·
     refine yH 20 rfl rfl rfl rfl rfl ?_
     refine h_two 21 22 (by kernel_rfl) ?_ ?_
     ·
      refine yH 21 rfl rfl rfl rfl rfl ?_
      refine h_one 22 (by kernel_rfl) ?_
      refine h_new 22 tok rfl rfl rfl rfl rfl rfl ?_
      refine h_one 23 (by kernel_rfl) ?_
      refine h_store 23 tok rfl rfl rfl rfl (by repeat' first | exact trivial | exact rfl | apply And.intro) (.inr ⟨(by repeat (first | exact oN | refine oC rfl ?_)), rfl, (by first | exact Vw.le.refl _ | assumption)⟩) ?_
      refine h_one 24 (by kernel_rfl) ?_
      refine yH 24 rfl rfl rfl rfl rfl ?_
      refine h_done [0, 5, 6] (by kernel_rfl) rfl ?_
      exact x_meet () trivial (by repeat (first | exact fN | refine fC rfl ?_)) (by repeat (first | exact oN | refine oC rfl ?_)) rfl (Vw.le.refl _)
     ·
      refine h_new 22 tok rfl rfl rfl rfl rfl rfl ?_
      refine h_two 21 23 (by kernel_rfl) ?_ ?_
      ·
       refine yH 21 rfl rfl rfl rfl rfl ?_
       refine h_one 23 (by kernel_rfl) ?_
       refine h_store 23 tok rfl rfl rfl rfl (by repeat' first | exact trivial | exact rfl | apply And.intro) (.inr ⟨(by repeat (first | exact oN | refine oC rfl ?_)), rfl, (by first | exact Vw.le.refl _ | assumption)⟩) ?_
       refine h_one 24 (by kernel_rfl) ?_
       refine yH 24 rfl rfl rfl rfl rfl ?_
       refine h_done [0, 5, 6] (by kernel_rfl) rfl ?_
       exact x_meet () trivial (by repeat (first | exact fN | refine fC rfl ?_)) (by repeat (first | exact oN | refine oC rfl ?_)) rfl (Vw.le.refl _)
      ·
       refine h_store 23 tok rfl rfl rfl rfl (by repeat' first | exact trivial | exact rfl | apply And.intro) (.inr ⟨(by repeat (first | exact oN | refine oC rfl ?_)), rfl, (by first | exact Vw.le.refl _ | assumption)⟩) ?_
       refine h_one 21 (by kernel_rfl) ?_
       refine yH 21 rfl rfl rfl rfl rfl ?_
       refine h_one 24 (by kernel_rfl) ?_
       refine yH 24 rfl rfl rfl rfl rfl ?_
       refine h_done [0, 5, 6] (by kernel_rfl) rfl ?_
       exact x_meet () trivial (by repeat (first | exact fN | refine fC rfl ?_)) (by repeat (first | exact oN | refine oC rfl ?_)) rfl (Vw.le.refl _)
    ·
     refine yH 21 rfl rfl rfl rfl rfl ?_
     refine h_two 20 22 (by kernel_rfl) ?_ ?_
     ·
      refine yH 20 rfl rfl rfl rfl rfl ?_
      refine h_one 22 (by kernel_rfl) ?_
      refine h_new 22 tok rfl rfl rfl rfl rfl rfl ?_
      refine h_one 23 (by kernel_rfl) ?_
      refine h_store 23 tok rfl rfl rfl rfl (by repeat' first | exact trivial | exact rfl | apply And.intro) (.inr ⟨(by repeat (first | exact oN | refine oC rfl ?_)), rfl, (by first | exact Vw.le.refl _ | assumption)⟩) ?_
      refine h_one 24 (by kernel_rfl) ?_
      refine yH 24 rfl rfl rfl rfl rfl ?_
      refine h_done [0, 5, 6] (by kernel_rfl) rfl ?_
      exact x_meet () trivial (by repeat (first | exact fN | refine fC rfl ?_)) (by repeat (first | exact oN | refine oC rfl ?_)) rfl (Vw.le.refl _)
     ·
      refine h_new 22 tok rfl rfl rfl rfl rfl rfl ?_
      refine h_one 20 (by kernel_rfl) ?_
      refine yH 20 rfl rfl rfl rfl rfl ?_
      refine h_one 23 (by kernel_rfl) ?_
      refine h_store 23 tok rfl rfl rfl rfl (by repeat' first | exact trivial | exact rfl | apply And.intro) (.inr ⟨(by repeat (first | exact oN | refine oC rfl ?_)), rfl, (by first | exact Vw.le.refl _ | assumption)⟩) ?_
      refine h_one 24 (by kernel_rfl) ?_
      refine yH 24 rfl rfl rfl rfl rfl ?_
      refine h_done [0, 5, 6] (by kernel_rfl) rfl ?_
      exact x_meet () trivial (by repeat (first | exact fN | refine fC rfl ?_)) (by repeat (first | exact oN | refine oC rfl ?_)) rfl (Vw.le.refl _)
    ·
     refine h_new 22 tok rfl rfl rfl rfl rfl rfl ?_
     refine h_two 20 21 (by kernel_rfl) ?_ ?_
     ·
      refine yH 20 rfl rfl rfl rfl rfl ?_
      refine h_two 21 23 (by kernel_rfl) ?_ ?_
      ·
       refine yH 21 rfl rfl rfl rfl rfl ?_
       refine h_one 23 (by kernel_rfl) ?_
       refine h_store 23 tok rfl rfl rfl rfl (by repeat' first | exact trivial | exact rfl | apply And.intro) (.inr ⟨(by repeat (first | exact oN | refine oC rfl ?_)), rfl, (by first | exact Vw.le.refl _ | assumption)⟩) ?_
       refine h_one 24 (by kernel_rfl) ?_
       refine yH 24 rfl rfl rfl rfl rfl ?_
       refine h_done [0, 5, 6] (by kernel_rfl) rfl ?_
       exact x_meet () trivial (by repeat (first | exact fN | refine fC rfl ?_)) (by repeat (first | exact oN | refine oC rfl ?_)) rfl (Vw.le.refl _)
      ·
       refine h_store 23 tok rfl rfl rfl rfl (by repeat' first | exact trivial | exact rfl | apply And.intro) (.inr ⟨(by repeat (first | exact oN | refine oC rfl ?_)), rfl, (by first | exact Vw.le.refl _ | assumption)⟩) ?_
       refine h_one 21 (by kernel_rfl) ?_
       refine yH 21 rfl rfl rfl rfl rfl ?_
       refine h_one 24 (by kernel_rfl) ?_
       refine yH 24 rfl rfl rfl rfl rfl ?_
       refine h_done [0, 5, 6] (by kernel_rfl) rfl ?_
       exact x_meet () trivial (by repeat (first | exact fN | refine fC rfl ?_)) (by repeat (first | exact oN | refine oC rfl ?_)) rfl (Vw.le.refl _)
     ·
      refine yH 21 rfl rfl rfl rfl rfl ?_
      refine h_one 20 (by kernel_rfl) ?_
      refine yH 20 rfl rfl rfl rfl rfl ?_
      refine h_one 23 (by kernel_rfl) ?_
      refine h_store 23 tok rfl rfl rfl rfl (by repeat' first | exact trivial | exact rfl | apply And.intro) (.inr ⟨(by repeat (first | exact oN | refine oC rfl ?_)), rfl, (by first | exact Vw.le.refl _ | assumption)⟩) ?_
      refine h_one 24 (by kernel_rfl) ?_
      refine yH 24 rfl rfl rfl rfl rfl ?_
      refine h_done [0, 5, 6] (by kernel_rfl) rfl ?_
      exact x_meet () trivial (by repeat (first | exact fN | refine fC rfl ?_)) (by repeat (first | exact oN | refine oC rfl ?_)) rfl (Vw.le.refl _)
   ·
    refine h_new 22 tok rfl rfl rfl rfl rfl rfl ?_
    refine h_one 19 (by kernel_rfl) ?_
    refine yH 19 rfl rfl rfl rfl rfl ?_
    refine h_two 20 21 (by kernel_rfl) ?_ ?_
    ·
     refine yH 20 rfl rfl rfl rfl rfl ?_
     refine h_two 21 23 (by kernel_rfl) ?_ ?_
     ·
      refine yH 21 rfl rfl rfl rfl rfl ?_
      refine h_one 23 (by kernel_rfl) ?_
      refine h_store 23 tok rfl rfl rfl rfl (by repeat' first | exact trivial | exact rfl | apply And.intro) (.inr ⟨(by repeat (first | exact oN | refine oC rfl ?_)), rfl, (by first | exact Vw.le.refl _ | assumption)⟩) ?_
      refine h_one 24 (by kernel_rfl) ?_
      refine yH 24 rfl rfl rfl rfl rfl ?_
      refine h_done [0, 5, 6] (by kernel_rfl) rfl ?_
      exact x_meet () trivial (by repeat (first | exact fN | refine fC rfl ?_)) (by repeat (first | exact oN | refine oC rfl ?_)) rfl (Vw.le.refl _)
     ·
      refine h_store 23 tok rfl rfl rfl rfl (by repeat' first | exact trivial | exact rfl | apply And.intro) (.inr ⟨(by repeat (first | exact oN | refine oC rfl ?_)), rfl, (by first | exact Vw.le.refl _ | assumption)⟩) ?_
      refine h_one 21 (by kernel_rfl) ?_
      refine yH 21 rfl rfl rfl rfl rfl ?_
      refine h_one 24 (by kernel_rfl) ?_
      refine yH 24 rfl rfl rfl rfl rfl ?_
      refine h_done [0, 5, 6] (by kernel_rfl) rfl ?_
      exact x_meet () trivial (by repeat (first | exact fN | refine fC rfl ?_)) (by repeat (first | exact oN | refine oC rfl ?_)) rfl (Vw.le.refl _)
    ·
     refine yH 21 rfl rfl rfl rfl rfl ?_
     refine h_one 20 (by kernel_rfl) ?_
     refine yH 20 rfl rfl rfl rfl rfl ?_
     refine h_one 23 (by kernel_rfl) ?_
     refine h_store 23 tok rfl rfl rfl rfl (by repeat' first | exact trivial | exact rfl | apply And.intro) (.inr ⟨(by repeat (first | exact oN | refine oC rfl ?_)), rfl, (by first | exact Vw.le.refl _ | assumption)⟩) ?_
     refine h_one 24 (by kernel_rfl) ?_
     refine yH 24 rfl rfl rfl rfl rfl ?_
     refine h_done [0, 5, 6] (by kernel_rfl) rfl ?_
     exact x_meet () trivial (by repeat (first | exact fN | refine fC rfl ?_)) (by repeat (first | exact oN | refine oC rfl ?_)) rfl (Vw.le.refl _)
  ·
   refine h_new 22 tok rfl rfl rfl rfl rfl rfl ?_
   refine h_one 18 (by kernel_rfl) ?_
   refine h_call 18 (.a (.v (.tuple #[R.val, .bool q]))) rfl rfl rfl fnok73 rfl rfl rfl (fun hg E w1 hm => by exact hisc _) ?_
   refine h_one 19 (by kernel_rfl) ?_
   refine yH 19 rfl rfl rfl rfl rfl ?_
   refine h_two 20 21 (by kernel_rfl) ?_ ?_
   ·
    refine yH 20 rfl rfl rfl rfl rfl ?_
    refine h_two 21 23 (by kernel_rfl) ?_ ?_
    ·
     refine yH 21 rfl rfl rfl rfl rfl ?_
     refine h_one 23 (by kernel_rfl) ?_
     refine h_store 23 tok rfl rfl rfl rfl (by repeat' first | exact trivial | exact rfl | apply And.intro) (.inr ⟨(by repeat (first | exact oN | refine oC rfl ?_)), rfl, (by first | exact Vw.le.refl _ | assumption)⟩) ?_
     refine h_one 24 (by kernel_rfl) ?_
     refine yH 24 rfl rfl rfl rfl rfl ?_
     refine h_done [0, 5, 6] (by kernel_rfl) rfl ?_
     exact x_meet () trivial (by repeat (first | exact fN | refine fC rfl ?_)) (by repeat (first | exact oN | refine oC rfl ?_)) rfl (Vw.le.refl _)
    ·
     refine h_store 23 tok rfl rfl rfl rfl (by repeat' first | exact trivial | exact rfl | apply And.intro) (.inr ⟨(by repeat (first | exact oN | refine oC rfl ?_)), rfl, (by first | exact Vw.le.refl _ | assumption)⟩) ?_
     refine h_one 21 (by kernel_rfl) ?_
     refine yH 21 rfl rfl rfl rfl rfl ?_
     refine h_one 24 (by kernel_rfl) ?_
     refine yH 24 rfl rfl rfl rfl rfl ?_
     refine h_done [0, 5, 6] (by kernel_rfl) rfl ?_
     exact x_meet () trivial (by repeat (first | exact fN | refine fC rfl ?_)) (by repeat (first | exact oN | refine oC rfl ?_)) rfl (Vw.le.refl _)
   ·
    refine yH 21 rfl rfl rfl rfl rfl ?_
    refine h_one 20 (by kernel_rfl) ?_
    refine yH 20 rfl rfl rfl rfl rfl ?_
    refine h_one 23 (by kernel_rfl) ?_
    refine h_store 23 tok rfl rfl rfl rfl (by repeat' first | exact trivial | exact rfl | apply And.intro) (.inr ⟨(by repeat (first | exact oN | refine oC rfl ?_)), rfl, (by first | exact Vw.le.refl _ | assumption)⟩) ?_
    refine h_one 24 (by kernel_rfl) ?_
    refine yH 24 rfl rfl rfl rfl rfl ?_
    refine h_done [0, 5, 6] (by kernel_rfl) rfl ?_
    exact x_meet () trivial (by repeat (first | exact fN | refine fC rfl ?_)) (by repeat (first | exact oN | refine oC rfl ?_)) rfl (Vw.le.refl _)
 rintro ⟨⟩ -
 refine x_then ?_
 iterate 2 refine r_seq ?_
 refine r_region (by intro _ _ w1 h1; first | exact h1 | (obtain ⟨h2, _⟩ := h1; cases h2; done) | (obtain ⟨⟨_, h2⟩, _⟩ := h1; cases h2; done) | (obtain ⟨⟨_, h2, _⟩, _⟩ := h1; cases h2; done) | (obtain ⟨_, h2, _⟩ := h1; cases h2; done) | (obtain ⟨_, _, h2, _⟩ := h1; cases h2; done) | (obtain ⟨_, _, _, h2, _⟩ := h1; cases h2; done) | (rcases h1 with ⟨⟨_, _, h2, _⟩ | ⟨_, h2⟩, _⟩ <;> cases h2; done) | (exact nor _ h1)) rfl ?_
 iterate 2 refine yO rfl rfl rfl rfl ?_
 refine o_end [0, 5, 32] rfl ?_
 refine rq ?_
 refine x_then ?_
 refine r_cond rfl (fun h => ?_) (fun h => ?_)
 ·
  refine r_seq ?_
  refine r_region (by intro _ _ w1 h1; first | exact h1 | (obtain ⟨h2, _⟩ := h1; cases h2; done) | (obtain ⟨⟨_, h2⟩, _⟩ := h1; cases h2; done) | (obtain ⟨⟨_, h2, _⟩, _⟩ := h1; cases h2; done) | (obtain ⟨_, h2, _⟩ := h1; cases h2; done) | (obtain ⟨_, _, h2, _⟩ := h1; cases h2; done) | (obtain ⟨_, _, _, h2, _⟩ := h1; cases h2; done) | (rcases h1 with ⟨⟨_, _, h2, _⟩ | ⟨_, h2⟩, _⟩ <;> cases h2; done) | (exact nor _ h1)) rfl ?_
  refine yO rfl rfl rfl rfl ?_
  have hqf : q = false := by simpa using h
  rw [hqf, if_neg (by simp)] at h0
  refine o_step rfl rfl rfl rfl rfl (s_callW (σ := Unit) (fun _ => True) (fun _ => .a (.v (I 0))) 0 88 (fun _ => (wkC slot key 3 tail (.slice la L.length lc) (.slice none 0 0) 0 (IntKind.i64.wrap tail) g).map .v) rfl fnok74 rfl (fun _ => rfl) (fun _ => rfl) (fun E w1 hm hb1 => (scanned0_c ((vw w).del b) g ok hG slot key 1 tail _ _ i en L (E.ρ 0) w1 hb1 (hm.leDel (l := 0) rfl) hs (by omega) h0).mono (fun e w' ⟨h1, h2, h3⟩ => ⟨(), h1, h2, h3, trivial⟩))) (fun _ _ => ?_)
  refine yO rfl rfl rfl rfl ?_
  refine o_end [4] rfl ?_
  refine rq ?_
  refine x_then ?_
  refine r_ret ?_
  refine x_then_ret ?_
  refine rb_ret tok rfl ?_
  intro E w' hm _
  obtain ⟨h1, h2⟩ := back1 hm (Vw.le.refl _) rfl rfl rfl
  refine ⟨rfl, h1, la, L.length, lc, V, vext_touch hV h1, ?_, ?_⟩
  · rw [rowL, hq, hqf, if_neg (by simp)]; exact hs0
  · rw [h2, rowD, hq, hqf]; rfl
 ·
  have hqt : q = true := by simpa using h
  rw [hqt, if_pos rfl] at h0
  clear h
  refine r_skip ?_
  refine x_then ?_
  refine r_seq ?_
  refine r_region (by intro _ _ w1 h1; first | exact h1 | (obtain ⟨h2, _⟩ := h1; cases h2; done) | (obtain ⟨⟨_, h2⟩, _⟩ := h1; cases h2; done) | (obtain ⟨⟨_, h2, _⟩, _⟩ := h1; cases h2; done) | (obtain ⟨_, h2, _⟩ := h1; cases h2; done) | (obtain ⟨_, _, h2, _⟩ := h1; cases h2; done) | (obtain ⟨_, _, _, h2, _⟩ := h1; cases h2; done) | (rcases h1 with ⟨⟨_, _, h2, _⟩ | ⟨_, h2⟩, _⟩ <;> cases h2; done) | (exact nor _ h1)) rfl ?_
  refine o_new tok rfl rfl rfl rfl ?_
  refine o_end [0, 5, 7] rfl ?_
  refine rq ?_
  refine x_then ?_
  iterate 2 refine r_seq ?_
  refine r_region (by intro _ _ w1 h1; first | exact h1 | (obtain ⟨h2, _⟩ := h1; cases h2; done) | (obtain ⟨⟨_, h2⟩, _⟩ := h1; cases h2; done) | (obtain ⟨⟨_, h2, _⟩, _⟩ := h1; cases h2; done) | (obtain ⟨_, h2, _⟩ := h1; cases h2; done) | (obtain ⟨_, _, h2, _⟩ := h1; cases h2; done) | (obtain ⟨_, _, _, h2, _⟩ := h1; cases h2; done) | (rcases h1 with ⟨⟨_, _, h2, _⟩ | ⟨_, h2⟩, _⟩ <;> cases h2; done) | (exact nor _ h1)) rfl ?_
  iterate 2 refine yO rfl rfl rfl rfl ?_
  refine o_bs tok rfl rfl rfl rfl (fun b1 W1 hlw1 hb1 => ?_)
  refine k_nilO 4 0 74 6 rfl rfl ?_
  refine k_plainP [0, 7, 35, 37] [1, 2, 4, 5] rfl (by repeat (first | exact fN | refine fC rfl ?_)) rfl rfl (fun Ea V1 hle1 hlit hpin => ?_)
  have hw0 := hlit 0 _ _ rfl rfl
  have hbe : Ea.ρ 0 = b := hpin 1 0 b rfl
  clear hlit hpin
  refine o_callV (fun v V2 => ∃ bw bm, v = .func (.func 87) #[] #[Ptr bw, Ptr bm] ∧ V2.get bw = some (.cells [Ptr (Ea.ρ 0)].toArray 86 (0, 0)) ∧ V2.get bm = some (.cells [.slice (some ⟨b1, 0, none⟩) 1 1].toArray 36 (0, 0))) rfl rfl fnok75 rfl rfl (fun hg E w1 hm => by exact records_c V1 (Ea.ρ 0) _ 1 1 _ hm.leV) ?_
  rintro v V2 hle2 hx
  obtain ⟨bw, bm, rfl, hbw, hbm⟩ := hx rfl
  clear hx
  have hle12 := hle1.trans hle2
  have hM : SlOf V2 Record.cells 6 (.slice (some ⟨b1, 0, none⟩) 1 1) [R] := (SlOf.ofBlock (enc := Record.cells) (sz := 6) (l := [R]) (hb1 rfl) rfl (fun _ => rfl) (Nat.le_refl _)).mono hle12
  have hL2 : SlOf V2 Record.cells 6 (.slice la L.length lc) L := hs.mono (hlw1.trans hle12)
  refine o_end [0, 7, 38] rfl ?_
  refine rq ?_
  refine x_then ?_
  refine r_block ?_
  refine r_rangeB (α := Record) (σ := List Record) (τ := Unit) (by omega) rfl fnok87 (fun r => r.val) (fun xs => xs = L ++ [R]) (fun _ => True) (L.length + [R].length) [(0, .a (.v (Ptr (Ea.ρ 0)))), (7, .a (.v (Ptr (Ea.ρ 4))))] (fun s => [(4, .lit [.row 5] 36), (5, .row 74 6 s.length (s.flatMap Record.cells)), (2, .size w.heap.size), (7, .keep 4 (Ea.ρ 4) (Ea.κ 4))]) (fun xs s => s = xs) (fun _ => []) (fun _ _ => False) .ret [] (by repeat (first | exact fN | refine fC rfl ?_)) rfl rfl (by repeat (first | exact oN | refine oC rfl ?_)) (fun _ => rfl) (fun _ => rfl) rfl (fun w0 hw => records_seq V2 bw bm (Ea.ρ 0) slot key 1 tail la L.length lc _ i en g _ 1 1 L [R] (by simp; omega) hbw hbm (hle2.get _ _ hw0) hL2 hM _ w0 hw) ?_ ?_ ?_
  ·
   intro l pre x s1 Vf sz hI hlen hVf
   have hpl : s1.length ≤ 1001 := by rw [hI]; simp at hlen; omega
   refine r_region (by intro _ _ w1 h1; first | exact h1 | (obtain ⟨h2, _⟩ := h1; cases h2; done) | (obtain ⟨⟨_, h2⟩, _⟩ := h1; cases h2; done) | (obtain ⟨⟨_, h2, _⟩, _⟩ := h1; cases h2; done) | (obtain ⟨_, h2, _⟩ := h1; cases h2; done) | (obtain ⟨_, _, h2, _⟩ := h1; cases h2; done) | (obtain ⟨_, _, _, h2, _⟩ := h1; cases h2; done) | (rcases h1 with ⟨⟨_, _, h2, _⟩ | ⟨_, h2⟩, _⟩ <;> cases h2; done) | (exact nor _ h1)) rfl ?_
   refine o_new tok rfl rfl rfl rfl ?_
   refine o_store tok rfl rfl rfl (by first | (repeat' first | exact trivial | exact rfl | apply And.intro); done | simp [onesP, oneP, lk, Value.oneCell']) ?_
   refine o_end [7, 8] rfl ?_
   refine rq ?_
   refine ra_end rfl (by repeat (first | exact Vw.le.refl _ | assumption | (refine Vw.le.trans ?_ (by assumption)))) (fun Vg kz hVg => ?_)
   refine r_block ?_
   refine k_unptrK 7 7 4 (Ea.ρ 4) 0 rfl rfl rfl ?_
   refine r_region (by intro _ _ w1 h1; first | exact h1 | (obtain ⟨h2, _⟩ := h1; cases h2; done) | (obtain ⟨⟨_, h2⟩, _⟩ := h1; cases h2; done) | (obtain ⟨⟨_, h2, _⟩, _⟩ := h1; cases h2; done) | (obtain ⟨_, h2, _⟩ := h1; cases h2; done) | (obtain ⟨_, _, h2, _⟩ := h1; cases h2; done) | (obtain ⟨_, _, _, h2, _⟩ := h1; cases h2; done) | (rcases h1 with ⟨⟨_, _, h2, _⟩ | ⟨_, h2⟩, _⟩ <;> cases h2; done) | (exact nor _ h1)) rfl ?_
   iterate 2 refine yO rfl rfl rfl rfl ?_
   refine o_step rfl rfl rfl rfl rfl (s_bs tok 6 rfl rfl rfl) (fun _ _ => ?_)
   refine o_step rfl rfl rfl rfl rfl (s_app tok x.cells rfl (fun E w hm => ownsRow_src (hm.row _ _ _ _ _ rfl)) (fun _ _ _ => by simpa using rec_ones [x]) (by dsimp only; omega)) (fun _ _ => ?_)
   refine o_store tok rfl rfl rfl (by first | (repeat' first | exact trivial | exact rfl | apply And.intro); done | simp [onesP, oneP, lk, Value.oneCell']) ?_
   refine o_end [] rfl ?_
   refine rq ?_
   refine x_block ?_
   have hx : s1.length + 1 = (s1 ++ [x]).length ∧ s1.flatMap Record.cells ++ x.cells = (s1 ++ [x]).flatMap Record.cells := by simp
   rw [hx.1, hx.2]
   refine k_swap 5 13 rfl ?_
   refine rc_next (s1 ++ [x]) (by rw [hI]) (by repeat (first | exact oN | refine oC rfl ?_)) rfl (by repeat (first | exact Vw.le.refl _ | assumption | (refine Vw.le.trans ?_ (by assumption))))
  ·
   intro D V3 s1 xs hS hI hle3 hD hle4
   have hsL : s1 = L ++ [R] := hI.trans hS
   subst hsL
   have hw3 := hle3.get _ _ (hle2.get _ _ hw0)
   have hDne : D ≠ Ea.ρ 0 := fun e => by rw [e, hw3] at hD; cases hD
   have hD2 : (V3.del (Ea.ρ 0)).get D = some (.deferred (some [])) := by
    simp only [Vw.del]
    rw [if_neg hDne]
    exact hD
   have hln : (L ++ [R]).length ≤ 1000000 := by simp; omega
   have hrl : rowL L s key lsn = L ++ [R] := by rw [rowL, hq, hR, hqt, if_pos rfl]
   have hVend : ((vw w).del (Ea.ρ 0)).le ((V3.del (Ea.ρ 0)).del D) := by
    rw [hbe]
    have h1 := hlw1.trans (hle12.trans hle4)
    refine ⟨fun k o hk => ?_, h1.os, h1.tape, h1.output⟩
    have h2 := h1.get k o hk
    simp only [Vw.del] at hk h2 ⊢
    split at hk
    · cases hk
    ·
     rename_i hkb
     split at h2
     · cases h2
     ·
      rename_i hkD
      rw [if_neg hkD, if_neg hkb]
      exact h2
   refine x_block (x_then ?_)
   iterate 2 refine r_seq ?_
   refine k_unptrK 7 7 4 (Ea.ρ 4) 0 rfl rfl rfl ?_
   refine k_thaw (Ea.ρ 0) 88 hw3 (fun kv => ?_)
   refine k_unptrK 0 11 10 (Ea.ρ 0) 0 rfl rfl rfl ?_
   refine r_region (by intro _ _ w1 h1; first | exact h1 | (obtain ⟨h2, _⟩ := h1; cases h2; done) | (obtain ⟨⟨_, h2⟩, _⟩ := h1; cases h2; done) | (obtain ⟨⟨_, h2, _⟩, _⟩ := h1; cases h2; done) | (obtain ⟨_, h2, _⟩ := h1; cases h2; done) | (obtain ⟨_, _, h2, _⟩ := h1; cases h2; done) | (obtain ⟨_, _, _, h2, _⟩ := h1; cases h2; done) | (rcases h1 with ⟨⟨_, _, h2, _⟩ | ⟨_, h2⟩, _⟩ <;> cases h2; done) | (exact nor _ h1)) rfl ?_
   iterate 5 refine yO rfl rfl rfl rfl ?_
   refine o_store tok rfl rfl rfl (by first | (repeat' first | exact trivial | exact rfl | apply And.intro); done | simp [onesP, oneP, lk, Value.oneCell']) ?_
   refine o_end [0, 7] rfl ?_
   refine rq ?_
   refine x_then ?_
   refine r_seq ?_
   refine r_heldS (by intro _ _ w1 h1; first | exact h1 | (obtain ⟨h2, _⟩ := h1; cases h2; done) | (obtain ⟨⟨_, h2⟩, _⟩ := h1; cases h2; done) | (obtain ⟨⟨_, h2, _⟩, _⟩ := h1; cases h2; done) | (obtain ⟨_, h2, _⟩ := h1; cases h2; done) | (obtain ⟨_, _, h2, _⟩ := h1; cases h2; done) | (obtain ⟨_, _, _, h2, _⟩ := h1; cases h2; done) | (rcases h1 with ⟨⟨_, _, h2, _⟩ | ⟨_, h2⟩, _⟩ <;> cases h2; done) | (exact nor _ h1)) rfl [] mixed rfl (by repeat (first | exact oN | refine oC rfl ?_)) (by first | rfl | simp [okCels, allOk_plain]) ?_
   refine t_take 0 rfl (by kernel_rfl) rfl rfl rfl (yV rfl) rfl ?_
   refine t_take 1 rfl (by kernel_rfl) rfl rfl rfl (y_own (s := .a (.v (I (L ++ [R]).length))) 5 rfl rfl (fun v V' hv => y_len tok rfl (fun hg => hv))) rfl ?_
   refine t_take 2 rfl (by kernel_rfl) rfl rfl rfl (yV rfl) rfl ?_
   refine t_take 3 rfl (by kernel_rfl) rfl rfl rfl (yV rfl) rfl ?_
   refine t_take 4 rfl (by kernel_rfl) rfl rfl rfl (yV rfl) rfl ?_
   refine t_take 5 rfl (by kernel_rfl) rfl rfl rfl (yV rfl) rfl ?_
   refine t_take 6 rfl (by kernel_rfl) rfl rfl rfl (yV rfl) rfl ?_
   refine t_take 7 rfl (by kernel_rfl) rfl rfl rfl (yV rfl) rfl ?_
   refine t_go ?_
   refine h_done [0, 56] (by kernel_rfl) rfl ?_
   refine rq ?_
   refine x_then ?_
   refine r_cond rfl (fun h => ?_) (fun h => ?_)
   ·
    refine r_seq ?_
    refine r_region (by intro _ _ w1 h1; first | exact h1 | (obtain ⟨h2, _⟩ := h1; cases h2; done) | (obtain ⟨⟨_, h2⟩, _⟩ := h1; cases h2; done) | (obtain ⟨⟨_, h2, _⟩, _⟩ := h1; cases h2; done) | (obtain ⟨_, h2, _⟩ := h1; cases h2; done) | (obtain ⟨_, _, h2, _⟩ := h1; cases h2; done) | (obtain ⟨_, _, _, h2, _⟩ := h1; cases h2; done) | (rcases h1 with ⟨⟨_, _, h2, _⟩ | ⟨_, h2⟩, _⟩ <;> cases h2; done) | (exact nor _ h1)) rfl ?_
    refine yO rfl rfl rfl rfl ?_
    refine o_end [4] rfl ?_
    refine rq ?_
    refine x_then ?_
    refine r_ret ?_
    refine x_then_ret ?_
    refine rb_retD tok rfl hD2 ?_
    have hlt : ((L ++ [R]).length : Int) < g.journal := by simpa using h
    intro E w' hm _
    obtain ⟨h1, h2⟩ := backK hm hVend rfl (l := 10) (q := 11) rfl rfl
    rw [hbe] at h1 h2
    have hr := hm.rowFreshD hVend (l0 := 10) rfl (hm.kp 11 10 _ _ rfl).1 (l := 5) rfl
    obtain ⟨V', hx, hsl⟩ := vext_touchRow hV h1 hr
    obtain ⟨ra, rn, rc, he⟩ := sl_shape hsl
    rw [he] at hsl
    refine ⟨rfl, h1, ra, rn, rc, V', hx, by rw [hrl]; exact ⟨hsl, fun _ => rfl⟩, ?_⟩
    have hd : rowD g L s key lsn = false := by
     rw [rowD, hq, hqt, decide_eq_true (by rw [List.length_append] at hlt; simpa using hlt)]; rfl
    rw [h2, hd]
    simp [A.den, he]
   ·
    refine r_skip ?_
    refine x_then ?_
    refine r_seq ?_
    refine r_region (by intro _ _ w1 h1; first | exact h1 | (obtain ⟨h2, _⟩ := h1; cases h2; done) | (obtain ⟨⟨_, h2⟩, _⟩ := h1; cases h2; done) | (obtain ⟨⟨_, h2, _⟩, _⟩ := h1; cases h2; done) | (obtain ⟨_, h2, _⟩ := h1; cases h2; done) | (obtain ⟨_, _, h2, _⟩ := h1; cases h2; done) | (obtain ⟨_, _, _, h2, _⟩ := h1; cases h2; done) | (rcases h1 with ⟨⟨_, _, h2, _⟩ | ⟨_, h2⟩, _⟩ <;> cases h2; done) | (exact nor _ h1)) rfl ?_
    refine yO rfl rfl rfl rfl ?_
    have hge : ¬ ((L ++ [R]).length : Int) < g.journal := by simpa using h
    have hd : rowD g L s key lsn = true := by
     rw [rowD, decide_eq_false (by rw [List.length_append] at hge; simpa using hge), Bool.and_false]; rfl
    refine o_step rfl rfl rfl rfl rfl (s_callW (σ := Unit) (fun _ => True) (fun _ => .a (.v (I 0))) 10 88 (fun _ => [.v (I slot), .v (I key), .v (I8 3), .v (I tail), .row 5, .v (.slice none 0 0), .v (I 0), .v (I (IntKind.i64.wrap tail)), .v (I g.nodes), .v (I g.slots), .v (I g.blocks), .v (I g.per), .v (I g.journal), .v (I g.log), .v (I g.lease), .v (I g.wait)]) rfl fnok74 rfl (fun _ => rfl) (fun _ => rfl) (fun E w1 hm hb1 => (scanned0_c ((vw w1).del (E.ρ 10)) g ok hG slot key 1 tail (E.κ 5) (.slice ca cn cc) i en (L ++ [R]) (E.ρ 10) w1 hb1 (Vw.le.refl _) (hm.rowOfDel 5 rfl rfl (fun _ => rfl)) hln h0).mono (fun e w' ⟨h1, h2, h3⟩ => ⟨(), h1, h2, h3, trivial⟩))) (fun _ _ => ?_)
    refine yO rfl rfl rfl rfl ?_
    refine o_end [4] rfl ?_
    refine rq ?_
    refine x_then ?_
    refine r_ret ?_
    refine rb_retD tok rfl hD2 ?_
    intro E w' hm _
    obtain ⟨h1, h2⟩ := backK hm hVend rfl (l := 10) (q := 11) rfl rfl
    rw [hbe] at h1 h2
    have hr := hm.rowFreshD hVend (l0 := 10) rfl (hm.kp 11 10 _ _ rfl).1 (l := 5) rfl
    obtain ⟨V', hx, hsl⟩ := vext_touchRow hV h1 hr
    obtain ⟨ra, rn, rc, he⟩ := sl_shape hsl
    rw [he] at hsl
    refine ⟨rfl, h1, ra, rn, rc, V', hx, by rw [hrl]; exact ⟨hsl, fun _ => rfl⟩, ?_⟩
    rw [h2, hd]
    simp [A.den, he]
  ·
   intro D V3 y pre _ hf
   exact hf.elim
abbrev rpR (d : Bool) (slot key tail : Int) (a : Option Addr) (n c : Nat) (ca : Option Addr) (cn cc : Nat) (i en : Int) : Value :=
 rpV slot key (if d = true then 3 else 1) tail (.slice a n c) (.slice (if d = true then none else ca) (if d = true then 0 else cn) (if d = true then 0 else cc)) (if d = true then 0 else i) (if d = true then IntKind.i64.wrap tail else en)
theorem rpTake1_c (V : Vw) (g : Geo) (ok : g.Ok) (hG : geoB g = true) (slot key tail : Int) (la : Option Addr) (ln lc : Nat) (ca : Option Addr) (cn cc : Nat) (i en : Int) (L : List Record) (s : ByteArray) (hz : s.size ≤ maxLen) (w : World)
  (hV : V.le (vw w)) (hs0 : SlOf V Record.cells 6 (.slice la ln lc) L) (hn : L.length ≤ 1000) (lsn : Int) (hlsn : lsn = IntKind.i64.wrap (tail + L.length)) (h0 : whole (rowL L s key lsn) = 0) :
  Calls Tryz.prog 24 #[g.val, rpV slot key 1 tail (.slice la ln lc) (.slice ca cn cc) i en, S s] w fun e w' => ∃ v V', e = .returned v ∧ Below w.heap.size w w' ∧ Vext w.heap.size V V' w' ∧
   ∃ a n c, v = .tuple #[rpR (rowD g L s key lsn) slot key tail a n c ca cn cc i en, .bool false, I 0] ∧ SlOf V' Record.cells 6 (.slice a n c) (rowL L s key lsn) := by
 obtain ⟨d, hd⟩ : ∃ d, rowD g L s key lsn = d := ⟨_, rfl⟩
 have hrc := row_c V g ok hG slot key tail la ln lc ca cn cc i en L s hz
 unfold RowQ at hrc
 rw [hd]
 have hcall : ∀ (b1 : Nat) (w1 : World), w.heap.size ≤ w1.heap.size → (vw w).le ((vw w1).del b1) → w1.heap[b1]? = some (.cells (wkC slot key 1 tail (.slice la ln lc) (.slice ca cn cc) i en g).toArray 88 (0, 0)) →
   Calls Tryz.prog 60 #[Ptr b1, S s] w1 fun e w' => ∃ (x : Option Addr × Nat × Nat) (V' : Vw), e = .returned (I 0) ∧ Go.Eng.Touch (· = b1) w1 w' ∧ w'.heap[b1]? = some (.cells (wkR d slot key tail x.1 x.2.1 x.2.2 ca cn cc i en g).toArray 88 (0, 0)) ∧ Vext w1.heap.size (vw w) V' w' ∧
    ∃ V2 : Vw, V2.le V' ∧ V.le V2 ∧ (∀ k o, V2.get k = some o → V.get k = some o ∨ w.heap.size ≤ k) ∧ SlOf V2 Record.cells 6 (.slice x.1 x.2.1 x.2.2) (rowL L s key lsn) := by
  intro b1 w1 hsz hdel hb1
  refine (hrc b1 w1 hb1 (hV.trans hdel) hs0 hn lsn hlsn h0).mono ?_
  rintro e w' ⟨h1, h2, a, n, c, V', hx, hsl, hc⟩
  obtain ⟨V3, g1, g2, g3⟩ := small_touch hsz hV hdel h2 hx
  rw [hd] at hc
  exact ⟨(a, n, c), V3, h1, h2, hc, g1, V', g2, hx.le, g3, hsl⟩
 refine enter (E := E0) (O := []) (nl := 0) (V := vw w) [.a (.v g.val), .a (.v (rpV slot key 1 tail (.slice la ln lc) (.slice ca cn cc) i en)), .a (.v (S s))] Tryz.func24 rfl rfl (mem0 E0 0 w) rfl rfl ?_
 refine c_seq (c_region ?_)
 iterate 3 refine o_new tok rfl rfl rfl rfl ?_
 iterate 2 refine yO rfl rfl rfl rfl ?_
 refine o_end [2, 3, 4, 6, 8] rfl ?_
 refine x_then (c_seq (c_region ?_))
 iterate 2 refine yO rfl rfl rfl rfl ?_
 refine o_call (.a (.v _)) rfl rfl fnok41 rfl rfl rfl (fun hg E w1 hm => by exact deed1_c _) ?_
 iterate 3 refine yO rfl rfl rfl rfl ?_
 refine o_new tok rfl rfl rfl rfl ?_
 refine o_store tok rfl rfl rfl (by first | (repeat' first | exact trivial | exact rfl | apply And.intro); done | simp [onesP, oneP, lk, Value.oneCell']) ?_
 refine yO rfl rfl rfl rfl ?_
 refine o_end [2, 3, 4, 6, 8, 9, 10] rfl ?_
 refine x_then (c_seq (c_region ?_))
 iterate 3 refine yO rfl rfl rfl rfl ?_
 refine o_new tok rfl rfl rfl rfl ?_
 refine yO rfl rfl rfl rfl ?_
 refine o_end [2, 4, 6, 8, 9, 10, 11] rfl ?_
 refine x_then (c_seq (c_seq (c_region ?_)))
 refine yO rfl rfl rfl rfl ?_
 refine o_end [2, 4, 6, 8, 9, 11, 22] rfl ?_
 refine x_then ?_
 refine c_cond rfl (fun h => ?_) (fun h => ?_)
 ·
  refine c_region ?_
  iterate 4 refine yO rfl rfl rfl rfl ?_
  refine o_step rfl rfl rfl rfl rfl (s_callWVF (σ := Option Addr × Nat × Nat) (fun x V' => ∃ V2 : Vw, V2.le V' ∧ V.le V2 ∧ (∀ k o, V2.get k = some o → V.get k = some o ∨ w.heap.size ≤ k) ∧ SlOf V2 Record.cells 6 (.slice x.1 x.2.1 x.2.2) (rowL L s key lsn)) (fun _ => .a (.v (I 0))) 4 88 (fun x => (wkR d slot key tail x.1 x.2.1 x.2.2 ca cn cc i en g).map .v) rfl rfl (fun _ => rfl) (fun _ => rfl) (fun E w1 hm hb1 => by exact callsF fnok60 (hcall (E.ρ 4) w1 (hm.below (Vw.le.refl _)).size (hm.leDel (l := 4) rfl) hb1))) (fun x hx => ?_)
  obtain ⟨⟨a, n, c⟩, V1⟩ := x
  obtain ⟨hle1, V2, h2, h3, h4, hsl⟩ := hx
  dsimp only at hle1 h2 h3 h4 hsl
  refine yO rfl rfl rfl rfl ?_
  refine o_end [4, 6, 8, 11] rfl ?_
  refine x_then (c_seq (c_seq (c_region ?_)))
  iterate 2 refine yO rfl rfl rfl rfl ?_
  refine o_end [4, 6, 8, 11, 29] rfl ?_
  refine x_then ?_
  refine c_cond rfl (fun h => ?_) (fun h => ?_)
  ·
   refine c_seq ?_
   refine c_heldS [4] mixed rfl (by repeat (first | exact oN | refine oC rfl ?_)) (by first | rfl | simp [okCels, allOk_plain]) ?_
   refine t_takeD 0 rfl (by kernel_rfl) rfl rfl rfl (yV rfl) rfl ?_
   refine t_takeD 1 rfl (by kernel_rfl) rfl rfl rfl (yV rfl) rfl ?_
   refine t_takeR 3 rfl (by kernel_rfl) rfl rfl rfl (fun _ => y_val tok rfl) rfl ?_
   refine t_go ?_
   refine h_one 2 (by kernel_rfl) ?_
   exact absurd h (by decide)
  ·
   refine c_skip (x_then (c_seq ?_))
   refine c_heldS [9] mixed rfl (by repeat (first | exact oN | refine oC rfl ?_)) (by first | rfl | simp [okCels, allOk_plain]) ?_
   refine t_takeD 0 rfl (by kernel_rfl) rfl rfl rfl (yV rfl) rfl ?_
   refine t_takeD 1 rfl (by kernel_rfl) rfl rfl rfl (yV rfl) rfl ?_
   refine t_takeD 2 rfl (by kernel_rfl) rfl rfl rfl (yV rfl) rfl ?_
   refine t_takeD 3 rfl (by kernel_rfl) rfl rfl rfl (yV rfl) rfl ?_
   refine t_takeD 4 rfl (by kernel_rfl) rfl rfl rfl (yV rfl) rfl ?_
   refine t_takeD 5 rfl (by kernel_rfl) rfl rfl rfl (yV rfl) rfl ?_
   refine t_takeD 6 rfl (by kernel_rfl) rfl rfl rfl (yV rfl) rfl ?_
   refine t_takeD 7 rfl (by kernel_rfl) rfl rfl rfl (yV rfl) rfl ?_
   refine t_go ?_
   refine h_one 8 (by kernel_rfl) ?_
   refine h_call 8 (.a (.v _)) rfl rfl rfl fnok25 rfl rfl rfl (fun hg E w1 hm => by exact rover_c _ _ _ _ _ _ _ _ _) ?_
   refine h_one 9 (by kernel_rfl) ?_
   refine h_store 9 tok rfl rfl rfl rfl (by repeat' first | exact trivial | exact rfl | apply And.intro) (.inl rfl) ?_
   refine h_one 10 (by kernel_rfl) ?_
   refine yH 10 rfl rfl rfl rfl rfl ?_
   refine h_one 11 (by kernel_rfl) ?_
   refine yH 11 rfl rfl rfl rfl rfl ?_
   refine h_done [6, 7, 8] (by kernel_rfl) rfl ?_
   refine x_then (c_ret ?_)
   refine b_ret tok rfl ?_
   intro E w' hm _
   refine ⟨_, V2, rfl, hm.below hle1, ⟨h3, fun k o hk => ⟨(h2.trans hm.leV).get k o hk, h4 k o hk⟩⟩, a, n, c, ?_, hsl⟩
   cases d <;> rfl
 ·
  exact absurd h (by decide)
end Go.Proofs.YtlafboeohojcbaaGreat
