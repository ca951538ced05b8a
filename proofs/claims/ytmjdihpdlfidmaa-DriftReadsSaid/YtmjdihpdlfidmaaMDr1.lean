import Derived.Test.YtmjdihpdlfidmaaMRPut3
import Derived.Test.YtmjdihpdlfidmaaEng41
/- What ends a call ahead of its end, and what ended it. -/
set_option linter.unusedVariables false
set_option linter.unusedSimpArgs false
set_option maxRecDepth 100000
namespace Go.Proofs.Ytmjdihpdlfidmaa
open Go Go.Eng Go.RowKit

abbrev wrongV (e : Int) : Value := .iface 74 (.agg #[I e])

theorem wrong_mki (v : Value) (w : World) : (Instr.makeInterface 74 v).run Try.prog w = .ok (.iface 74 v) w := by
  have hu : Try.prog.underlying 74 = some (.struct (Try.prog.fieldsOf 74)) := by kernel_rfl
  unfold Instr.makeInterface
  go_simp

theorem must_ok (e : Int) (w : World) : Calls Try.prog 22 #[.bool true, I e] w fun e w' => e = .returned (.tuple #[]) ∧ Below w.heap.size w w' := by
  refine enter (E := E0) (O := []) (nl := 0) (V := vw w) [.a (.v (.bool true)), .a (.v (I e))] Try.func22 rfl rfl (mem0 E0 0 w) rfl rfl ?_
  refine c_seq ?_
  refine c_region ?_
  refine o_yield rfl rfl rfl (y_val tok rfl) ?_
  refine o_yield rfl rfl rfl (y_val tok rfl) ?_
  refine o_end [1, 5] rfl ?_
  refine x_then ?_
  refine c_cond rfl (fun h => ?_) (fun h => ?_)
  ·
    simp only [Bool.and_eq_true, Bool.or_eq_true, Bool.not_eq_true', Bool.or_eq_false_iff, Bool.and_eq_false_iff, decide_eq_true_eq, decide_eq_false_iff_not, beq_iff_eq, bne_iff_ne, Bool.not_eq_false', beq_eq_false_iff_ne, bne_eq_false_iff_eq, ne_eq, Decidable.not_not, Int.not_lt, Int.not_le] at h
    refine c_region ?_
    refine o_yield rfl rfl rfl (y_val tok rfl) ?_
    refine o_yield rfl rfl rfl (y_val tok rfl) ?_
    simp at h
  ·
    simp only [Bool.and_eq_true, Bool.or_eq_true, Bool.not_eq_true', Bool.or_eq_false_iff, Bool.and_eq_false_iff, decide_eq_true_eq, decide_eq_false_iff_not, beq_iff_eq, bne_iff_ne, Bool.not_eq_false', beq_eq_false_iff_ne, bne_eq_false_iff_eq, ne_eq, Decidable.not_not, Int.not_lt, Int.not_le] at h
    refine c_skip ?_
    refine b_end tok rfl ?_
    intro E w' hm _
    refine ⟨?_, hm.below (Vw.le.refl _)⟩
    rfl

theorem must_no (e : Int) (w : World) : Calls Try.prog 22 #[.bool false, I e] w fun x w' => x = .panicked [{ v := wrongV e, recovered := false }] ∧ Below w.heap.size w w' := by
  refine enter (E := E0) (O := []) (nl := 0) (V := vw w) [.a (.v (.bool false)), .a (.v (I e))] Try.func22 rfl rfl (mem0 E0 0 w) rfl rfl ?_
  refine c_seq ?_
  refine c_region ?_
  refine o_yield rfl rfl rfl (y_val tok rfl) ?_
  refine o_yield rfl rfl rfl (y_val tok rfl) ?_
  refine o_end [1, 5] rfl ?_
  refine x_then ?_
  refine c_cond rfl (fun h => ?_) (fun h => ?_)
  ·
    refine c_region ?_
    refine o_yield rfl rfl rfl (y_val tok rfl) ?_
    refine o_yield rfl rfl rfl (y_val tok rfl) ?_
    refine o_yield rfl rfl rfl (y_mki (v := .agg #[I e]) rfl rfl (fun _ => rfl) (fun w => wrong_mki _ w)) ?_
    refine o_panic rfl rfl rfl (fun _ => rfl) ?_
    exact ⟨fun E a w' hd hf hm => ⟨hd, rfl, hm.below (Vw.le.refl _)⟩⟩
  ·
    exact absurd h (by decide)

theorem wrong_tas (e : Int) (w : World) : (Instr.typeAssert (wrongV e) 20 74 true).run Try.prog w = .ok (.tuple #[.agg #[I e], .bool true]) w := by
  have hu : Try.prog.underlying 74 = some (.struct (Try.prog.fieldsOf 74)) := by kernel_rfl
  unfold Instr.typeAssert
  go_simp

theorem caught_nil (w : World) : Calls Try.prog 21 #[.nilIface] w fun e w' => e = .returned (.tuple #[I 0, .bool false]) ∧ Below w.heap.size w w' := by
  refine enter (E := E0) (O := []) (nl := 0) (V := vw w) [.a (.v .nilIface)] Try.func21 rfl rfl (mem0 E0 0 w) rfl rfl ?_
  refine c_seq ?_
  refine c_region ?_
  refine o_yield rfl rfl rfl (y_val tok rfl) ?_
  refine o_yield rfl rfl rfl (y_val tok rfl) ?_
  refine o_end [0] rfl ?_
  refine x_then ?_
  refine c_seq ?_
  refine c_seq ?_
  refine c_region ?_
  refine o_yield rfl rfl rfl (y_val tok rfl) ?_
  refine o_yield rfl rfl rfl (y_seq (.bool true) rfl (fun E w => by kernel_rfl)) ?_
  refine o_end [0, 6] rfl ?_
  refine x_then ?_
  refine c_cond rfl (fun h => ?_) (fun h => ?_)
  ·
    refine c_seq ?_
    refine c_region ?_
    refine o_yield rfl rfl rfl (y_val tok rfl) ?_
    refine o_yield rfl rfl rfl (y_val tok rfl) ?_
    refine o_end [2, 3] rfl ?_
    refine x_then ?_
    refine c_ret ?_
    refine x_then_ret ?_
    refine b_ret tok rfl ?_
    intro E w' hm _
    refine ⟨?_, hm.below (Vw.le.refl _)⟩
    rfl
  ·
    exact absurd h (by decide)

theorem caught_wrong (e : Int) (w : World) : Calls Try.prog 21 #[wrongV e] w fun x w' => x = .returned (.tuple #[I e, .bool true]) ∧ Below w.heap.size w w' := by
  refine enter (E := E0) (O := []) (nl := 0) (V := vw w) [.a (.v (wrongV e))] Try.func21 rfl rfl (mem0 E0 0 w) rfl rfl ?_
  refine c_seq ?_
  refine c_region ?_
  refine o_yield rfl rfl rfl (y_val tok rfl) ?_
  refine o_yield rfl rfl rfl (y_val tok rfl) ?_
  refine o_end [0] rfl ?_
  refine x_then ?_
  refine c_seq ?_
  refine c_seq ?_
  refine c_region ?_
  refine o_yield rfl rfl rfl (y_val tok rfl) ?_
  refine o_yield rfl rfl rfl (y_seq (.bool false) rfl (fun E w => by kernel_rfl)) ?_
  refine o_end [0, 6] rfl ?_
  refine x_then ?_
  refine c_cond rfl (fun h => ?_) (fun h => ?_)
  ·
    exact absurd h (by decide)
  ·
    refine c_skip ?_
    refine x_then ?_
    refine c_seq ?_
    refine c_region ?_
    refine o_yield rfl rfl rfl (y_val tok rfl) ?_
    refine o_yield rfl rfl rfl (y_tas (v := wrongV e) (r := .tuple #[.agg #[I e], .bool true]) (s' := .tup [.v (.agg #[I e]), .v (.bool true)]) rfl rfl (fun _ => rfl) (fun w => wrong_tas e w) (fun _ => rfl) rfl) ?_
    refine o_yield rfl rfl rfl (y_val tok rfl) ?_
    refine o_yield rfl rfl rfl (y_val tok rfl) ?_
    refine o_yield rfl rfl rfl (y_val tok rfl) ?_
    refine o_new tok rfl rfl rfl rfl ?_
    refine o_store tok rfl rfl rfl (by first | exact ⟨trivial, trivial⟩ | (repeat' first | exact trivial | exact rfl | apply And.intro); done | simp [onesP, oneP, lk, Value.oneCell']) ?_
    refine o_yield rfl rfl rfl (y_val tok rfl) ?_
    refine o_end [0, 3, 4] rfl ?_
    refine x_then ?_
    refine c_seq ?_
    refine c_seq ?_
    refine c_region ?_
    refine o_yield rfl rfl rfl (y_val tok rfl) ?_
    refine o_yield rfl rfl rfl (y_val tok rfl) ?_
    refine o_end [0, 4, 13] rfl ?_
    refine x_then ?_
    refine c_cond rfl (fun h => ?_) (fun h => ?_)
    ·
      exact absurd h (by decide)
    ·
      refine c_skip ?_
      refine x_then ?_
      refine c_seq ?_
      refine c_region ?_
      refine o_yield rfl rfl rfl (y_val tok rfl) ?_
      refine o_yield rfl rfl rfl (y_val tok rfl) ?_
      refine o_yield rfl rfl rfl (y_val tok rfl) ?_
      refine o_yield rfl rfl rfl (y_val tok rfl) ?_
      refine o_end [2, 3] rfl ?_
      refine x_then ?_
      refine c_ret ?_
      refine b_ret tok rfl ?_
      intro E w' hm _
      refine ⟨?_, hm.below (Vw.le.refl _)⟩
      rfl
end Go.Proofs.Ytmjdihpdlfidmaa

/- A transaction opened. -/
set_option linter.unusedVariables false
set_option linter.unusedSimpArgs false
set_option maxRecDepth 100000
namespace Go.Proofs.Ytmjdihpdlfidmaa
open Go Go.Eng Go.RowKit

abbrev txV (op : Bool) (a : Option Addr) (n c : Nat) : Value := .agg #[.bool op, .slice a n c]

theorem open_c (op : Bool) (a : Option Addr) (n c : Nat) (w : World) : Calls Try.prog 11 #[txV op a n c] w fun e w' => e = .returned (.tuple #[if op = true then txV op a n c else txV true none 0 0, I (if op = true then 270 else 0)]) ∧ Below w.heap.size w w' := by
  refine enterP (E := E0) (O := []) (nl := 0) (V := vw w) [.a (.v (txV op a n c))] Try.func11 rfl rfl (mem0 E0 0 w) rfl rfl ?_
  refine p_seq ?_
  refine p_region (by intro _ _ w1 h1; first | exact h1 | (obtain ⟨h2, _⟩ := h1; cases h2; done) | (obtain ⟨⟨_, h2⟩, _⟩ := h1; cases h2; done) | (obtain ⟨⟨_, h2, _⟩, _⟩ := h1; cases h2; done) | (obtain ⟨_, h2, _⟩ := h1; cases h2; done) | (obtain ⟨_, _, h2, _⟩ := h1; cases h2; done) | (obtain ⟨_, _, _, h2, _⟩ := h1; cases h2; done) | (rcases h1 with ⟨⟨_, _, h2, _⟩ | ⟨_, h2⟩, _⟩ <;> cases h2; done) | (exact nor _ h1)) ?_
  refine o_new tok rfl rfl rfl rfl ?_
  refine o_new tok rfl rfl rfl rfl ?_
  refine o_new tok rfl rfl rfl rfl ?_
  refine o_end [1, 2, 3] rfl ?_
  refine rq ?_
  refine x_then ?_
  refine p_seq ?_
  refine p_region (by intro _ _ w1 h1; first | exact h1 | (obtain ⟨h2, _⟩ := h1; cases h2; done) | (obtain ⟨⟨_, h2⟩, _⟩ := h1; cases h2; done) | (obtain ⟨⟨_, h2, _⟩, _⟩ := h1; cases h2; done) | (obtain ⟨_, h2, _⟩ := h1; cases h2; done) | (obtain ⟨_, _, h2, _⟩ := h1; cases h2; done) | (obtain ⟨_, _, _, h2, _⟩ := h1; cases h2; done) | (rcases h1 with ⟨⟨_, _, h2, _⟩ | ⟨_, h2⟩, _⟩ <;> cases h2; done) | (exact nor _ h1)) ?_
  refine o_yield rfl rfl rfl (y_val tok rfl) ?_
  refine k_pin 0 rfl (fun b0 => ?_)
  refine k_pin 1 rfl (fun b1 => ?_)
  refine k_pin 2 rfl (fun b2 => ?_)
  refine o_deferF (f := 26) (caps := #[Ptr b0, Ptr b1, Ptr b2]) rfl rfl rfl rfl (fun E w hm => by rw [← (hm.pin 3 0 b0 rfl).1, ← (hm.pin 4 1 b1 rfl).1, ← (hm.pin 5 2 b2 rfl).1]; rfl) ?_
  refine x_then ?_
  refine p_seq ?_
  refine p_region (by intro _ _ w1 h1; first | exact h1 | (obtain ⟨h2, _⟩ := h1; cases h2; done) | (obtain ⟨⟨_, h2⟩, _⟩ := h1; cases h2; done) | (obtain ⟨⟨_, h2, _⟩, _⟩ := h1; cases h2; done) | (obtain ⟨_, h2, _⟩ := h1; cases h2; done) | (obtain ⟨_, _, h2, _⟩ := h1; cases h2; done) | (obtain ⟨_, _, _, h2, _⟩ := h1; cases h2; done) | (rcases h1 with ⟨⟨_, _, h2, _⟩ | ⟨_, h2⟩, _⟩ <;> cases h2; done) | (exact nor _ h1)) ?_
  refine o_yield rfl rfl rfl (y_val tok rfl) ?_
  refine o_yield rfl rfl rfl (y_val tok rfl) ?_
  refine o_yield rfl rfl rfl (y_val tok rfl) ?_
  cases op with
  | true =>
    refine o_callP [{ v := wrongV 270, recovered := false }] rfl rfl rfl fnok22 (fun E w1 hm => must_no _ _) ?_
    refine rq ?_
    refine p_leaveI tok (fn := Try.f11) [.a (.ptr 0 0), .a (.ptr 1 0), .a (.ptr 2 0)] (.inr ⟨_, rfl, rfl⟩) (rfl) (.inr ⟨[], rfl, rfl⟩) Try.func26 rfl rfl (fun E w hm => by rw [← (hm.pin 3 0 b0 rfl).1, ← (hm.pin 4 1 b1 rfl).1, ← (hm.pin 5 2 b2 rfl).1]; rfl) rfl rfl rfl rfl (by decide) (fun _ _ => rfl) (fun _ => rfl) (fun E => ?_)
    refine o_call (.a (.v _)) rfl rfl fnok21 rfl rfl rfl (fun hg E w1 hm => by exact caught_wrong 270 _) ?_
    refine o_yield rfl rfl rfl (y_val tok rfl) ?_
    refine o_yield rfl rfl rfl (y_val tok rfl) ?_
    refine o_yield rfl rfl rfl (y_val tok rfl) ?_
    refine o_yield rfl rfl rfl (y_val tok rfl) ?_
    refine o_yield rfl rfl rfl (y_val tok rfl) ?_
    refine o_end [0, 1, 2, 3, 4] rfl ?_
    refine x_then ?_
    refine c_seq ?_
    refine c_region ?_
    refine o_yield rfl rfl rfl (y_val tok rfl) ?_
    refine o_end [0, 1, 2, 3, 10] rfl ?_
    refine x_then ?_
    refine c_cond rfl (fun h => ?_) (fun h => ?_)
    ·
      refine c_region ?_
      refine o_yield rfl rfl rfl (y_val tok rfl) ?_
      refine o_yield rfl rfl rfl (y_val tok rfl) ?_
      refine o_store tok rfl rfl rfl (by first | exact ⟨trivial, trivial⟩ | (repeat' first | exact trivial | exact rfl | apply And.intro); done | simp [onesP, oneP, lk, Value.oneCell']) ?_
      refine o_store tok rfl rfl rfl (by first | exact ⟨trivial, trivial⟩ | (repeat' first | exact trivial | exact rfl | apply And.intro); done | simp [onesP, oneP, lk, Value.oneCell']) ?_
      refine o_end [] rfl ?_
      refine q_end (.inl rfl) tok rfl (by repeat (first | exact KeepsIn.zero | refine KeepsIn.succ rfl ?_)) rfl ?_
      refine ⟨_, rfl, fun E w hm => ⟨?_, hm.below (Vw.le.refl _)⟩⟩
      rfl
    ·
      exact absurd h (by decide)
  | false =>
    refine o_call (.a (.v _)) rfl rfl fnok22 rfl rfl rfl (fun hg E w1 hm => by exact must_ok 270 _) ?_
    refine o_end [2, 3] rfl ?_
    refine rq ?_
    refine x_then ?_
    refine p_seq ?_
    refine p_region (by intro _ _ w1 h1; first | exact h1 | (obtain ⟨h2, _⟩ := h1; cases h2; done) | (obtain ⟨⟨_, h2⟩, _⟩ := h1; cases h2; done) | (obtain ⟨⟨_, h2, _⟩, _⟩ := h1; cases h2; done) | (obtain ⟨_, h2, _⟩ := h1; cases h2; done) | (obtain ⟨_, _, h2, _⟩ := h1; cases h2; done) | (obtain ⟨_, _, _, h2, _⟩ := h1; cases h2; done) | (rcases h1 with ⟨⟨_, _, h2, _⟩ | ⟨_, h2⟩, _⟩ <;> cases h2; done) | (exact nor _ h1)) ?_
    refine o_yield rfl rfl rfl (y_val tok rfl) ?_
    refine o_store tok rfl rfl rfl (by first | exact ⟨trivial, trivial⟩ | (repeat' first | exact trivial | exact rfl | apply And.intro); done | simp [onesP, oneP, lk, Value.oneCell']) ?_
    refine o_end [2, 3] rfl ?_
    refine rq ?_
    refine x_then ?_
    refine p_seq ?_
    refine p_region (by intro _ _ w1 h1; first | exact h1 | (obtain ⟨h2, _⟩ := h1; cases h2; done) | (obtain ⟨⟨_, h2⟩, _⟩ := h1; cases h2; done) | (obtain ⟨⟨_, h2, _⟩, _⟩ := h1; cases h2; done) | (obtain ⟨_, h2, _⟩ := h1; cases h2; done) | (obtain ⟨_, _, h2, _⟩ := h1; cases h2; done) | (obtain ⟨_, _, _, h2, _⟩ := h1; cases h2; done) | (rcases h1 with ⟨⟨_, _, h2, _⟩ | ⟨_, h2⟩, _⟩ <;> cases h2; done) | (exact nor _ h1)) ?_
    refine o_yield rfl rfl rfl (y_val tok rfl) ?_
    refine o_store tok rfl rfl rfl (by first | exact ⟨trivial, trivial⟩ | (repeat' first | exact trivial | exact rfl | apply And.intro); done | simp [onesP, oneP, lk, Value.oneCell']) ?_
    refine o_store tok rfl rfl rfl (by first | exact ⟨trivial, trivial⟩ | (repeat' first | exact trivial | exact rfl | apply And.intro); done | simp [onesP, oneP, lk, Value.oneCell']) ?_
    refine o_end [2, 3] rfl ?_
    refine rq ?_
    refine x_then ?_
    refine p_ret ?_
    refine id ?_
    refine p_leaveI tok (fn := Try.f11) [.a (.ptr 0 0), .a (.ptr 1 0), .a (.ptr 2 0)] (.inl ⟨.inl rfl, rfl⟩) (rfl) (.inl ⟨rfl, rfl, rfl⟩) Try.func26 rfl rfl (fun E w hm => by rw [← (hm.pin 3 0 b0 rfl).1, ← (hm.pin 4 1 b1 rfl).1, ← (hm.pin 5 2 b2 rfl).1]; rfl) rfl rfl rfl rfl (by decide) (fun _ _ => rfl) (fun _ => rfl) (fun E => ?_)
    refine o_call (.a (.v _)) rfl rfl fnok21 rfl rfl rfl (fun hg E w1 hm => by exact caught_nil _) ?_
    refine o_yield rfl rfl rfl (y_val tok rfl) ?_
    refine o_yield rfl rfl rfl (y_val tok rfl) ?_
    refine o_yield rfl rfl rfl (y_val tok rfl) ?_
    refine o_yield rfl rfl rfl (y_val tok rfl) ?_
    refine o_yield rfl rfl rfl (y_val tok rfl) ?_
    refine o_end [0, 1, 2, 3, 4] rfl ?_
    refine x_then ?_
    refine c_seq ?_
    refine c_region ?_
    refine o_yield rfl rfl rfl (y_val tok rfl) ?_
    refine o_end [0, 1, 2, 3, 10] rfl ?_
    refine x_then ?_
    refine c_cond rfl (fun h => ?_) (fun h => ?_)
    ·
      exact absurd h (by decide)
    ·
      refine c_skip ?_
      refine q_end (.inl rfl) tok rfl (by repeat (first | exact KeepsIn.zero | refine KeepsIn.succ rfl ?_)) rfl ?_
      refine ⟨_, rfl, fun E w hm => ⟨?_, hm.below (Vw.le.refl _)⟩⟩
      rfl
end Go.Proofs.Ytmjdihpdlfidmaa

/- A looker: whether a block is covered. -/
set_option linter.unusedVariables false
set_option linter.unusedSimpArgs false
set_option maxRecDepth 100000
namespace Go.Proofs.Ytmjdihpdlfidmaa
open Go Go.Eng Go.RowKit

abbrev lookV (g : Geo) (key : Int) (a : Option Addr) (m c : Nat) : Value := .agg #[I g.nodes, I g.slots, I g.blocks, I g.per, I g.journal, I g.log, I g.lease, I g.wait, I key, .slice a m c]

abbrev pan (e : Int) : Ending := .panicked [{ v := wrongV e, recovered := false }]

def lookE (g : Geo) (l : List Hold) (key n mode : Int) (fits : Bool) : Int :=
  if (decide (0 ≤ dataV g n 0) && fits) = true then (if covers l key n mode = true then 0 else 250) else 60

theorem block_c (V : Vw) (g : Geo) (ok : g.Ok) (key n mode : Int) (a : Option Addr) (m c : Nat) (fits : Bool) (l : List Hold) (w : World) (hV : V.le (vw w)) (hs0 : SlOf V Hold.cells 4 (.slice a m c) l) (hn : l.length ≤ 1000) :
    Calls Try.prog 23 #[lookV g key a m c, I n, .bool fits, I8 mode] w fun e w' => e = (if lookE g l key n mode fits = 0 then .returned (.tuple #[]) else pan (lookE g l key n mode fits)) ∧ Below w.heap.size w w' := by
  have hs := hs0.mono hV
  unfold lookE
  refine enter (E := E0) (O := []) (nl := 0) (V := vw w) [.a (.v (lookV g key a m c)), .a (.v (I n)), .a (.v (.bool fits)), .a (.v (I8 mode))] Try.func23 rfl rfl (mem0 E0 0 w) rfl rfl ?_
  refine c_seq ?_
  refine c_region ?_
  refine o_new tok rfl rfl rfl rfl ?_
  refine o_end [1, 2, 3, 4] rfl ?_
  refine x_then ?_
  refine c_scope ?_
  refine c_seq ?_
  refine c_region ?_
  refine o_yield rfl rfl rfl (y_val tok rfl) ?_
  refine o_yield rfl rfl rfl (y_val tok rfl) ?_
  refine o_yield rfl rfl rfl (y_val tok rfl) ?_
  refine o_call (.a (.v _)) rfl rfl fnok34 rfl rfl rfl (fun hg E w1 hm => by exact data_c g ok n 0 _) ?_
  refine o_yield rfl rfl rfl (y_val tok rfl) ?_
  refine o_yield rfl rfl rfl (y_val tok rfl) ?_
  refine o_yield rfl rfl rfl (y_val tok rfl) ?_
  refine o_yield rfl rfl rfl (y_val tok rfl) ?_
  generalize (decide (0 ≤ dataV g n 0) && fits) = q
  cases q with
  | false =>
    refine o_callP [{ v := wrongV 60, recovered := false }] rfl rfl rfl fnok22 (fun E w1 hm => must_no _ _) ?_
    exact ⟨fun E a w' hd hf hm => ⟨hd, rfl, hm.below (Vw.le.refl _)⟩⟩
  | true =>
    refine o_call (.a (.v _)) rfl rfl fnok22 rfl rfl rfl (fun hg E w1 hm => by exact must_ok 60 _) ?_
    refine o_end [1, 3, 4] rfl ?_
    refine x_then ?_
    refine c_seq ?_
    refine c_label ?_
    refine x_then ?_
    refine c_seq ?_
    refine c_seq ?_
    refine c_region ?_
    refine o_yield rfl rfl rfl (y_val tok rfl) ?_
    refine o_yield rfl rfl rfl (y_val tok rfl) ?_
    refine o_yield rfl rfl rfl (y_len tok rfl (fun hg => hs.sl)) ?_
    refine o_yield rfl rfl rfl (y_val tok rfl) ?_
    refine o_end [1, 3, 4, 20, 21, 22] rfl ?_
    refine x_then ?_
    refine c_block ?_
    refine c_loopK [1, 3, 4, 20, 21] [] rfl rfl (σ := Nat) (fun i => [(22, .a (.v (I i)))]) (fun i => []) (fun i => i ≤ l.length ∧ ∀ (j : Nat) (x : Hold), j < i → l[j]? = some x → coversAt key n mode x = false) (fun i => l.length - i) (0) (⟨by omega, fun j x h => by omega⟩) (by repeat (first | exact SubF.nil | refine SubF.cons rfl ?_)) (by repeat (first | exact SubO.nil | refine SubO.cons rfl ?_)) rfl ?_
    rintro i ⟨hi, hno⟩
    refine c_seq ?_
    refine c_region ?_
    refine o_yield rfl rfl rfl (y_val tok rfl) ?_
    refine o_end [1, 3, 4, 20, 21, 22, 23] rfl ?_
    refine x_then ?_
    refine c_seq ?_
    refine c_cond rfl (fun h => ?_) (fun h => ?_)
    ·
      simp only [Bool.and_eq_true, Bool.or_eq_true, Bool.not_eq_true', Bool.or_eq_false_iff, Bool.and_eq_false_iff, decide_eq_true_eq, decide_eq_false_iff_not, beq_iff_eq, bne_iff_ne, Bool.not_eq_false', beq_eq_false_iff_ne, bne_eq_false_iff_eq, ne_eq, Decidable.not_not, Int.not_lt, Int.not_le] at h
      have hlt : i < l.length := by omega
      clear h
      obtain ⟨x, h_x⟩ := hs.at (k := i) hlt
      have hwi : IntKind.i64.wrap ((i : Int) + 1) = ((i + 1 : Nat) : Int) := wrapI (by omega) (by omega)
      refine c_skip ?_
      refine x_then ?_
      refine c_seq ?_
      refine c_block ?_
      refine c_seq ?_
      refine c_region ?_
      have hlt_x := lt_of_at h_x
      refine o_yield rfl rfl rfl (y_idx tok rfl (fun hg => hs.sl) (fun hg => ⟨by omega, by omega⟩)) ?_
      refine o_yield rfl rfl rfl (y_lel tok (i) 0 (x) rfl (fun hg => hs) (fun hg => h_x) rfl rfl) ?_
      refine o_new tok rfl rfl rfl rfl ?_
      refine o_store tok rfl rfl rfl (by first | exact ⟨trivial, trivial⟩ | (repeat' first | exact trivial | exact rfl | apply And.intro); done | simp [onesP, oneP, lk, Value.oneCell']) ?_
      refine o_end [1, 3, 4, 9, 20, 21, 22] rfl ?_
      refine x_then ?_
      refine c_seq ?_
      refine c_seq ?_
      refine c_region ?_
      refine o_yield rfl rfl rfl (y_val tok rfl) ?_
      refine o_bs tok rfl rfl rfl rfl (fun b1 W1 hlw1 hb1 => ?_)
      refine o_yield rfl rfl rfl (y_val tok rfl) ?_
      refine o_yield rfl rfl rfl (y_val tok rfl) ?_
      refine o_yield rfl rfl rfl (y_val tok rfl) ?_
      refine o_yield rfl rfl rfl (y_val tok rfl) ?_
      have hsx : SlOf W1 Hold.cells 4 (.slice (some ⟨b1, 0, none⟩) 1 1) [x] := SlOf.ofBlock (enc := Hold.cells) (sz := 4) (l := [x]) (hb1 rfl) rfl (fun _ => rfl) (Nat.le_refl _)
      refine o_call (.a (.v _)) rfl rfl fnok35 rfl rfl rfl (fun hg E w1 hm => by exact spCovers_c W1 _ [x] key n mode _ hm.leV hsx (by simp [lim])) ?_
      refine o_end [1, 3, 4, 20, 21, 22, 32] rfl ?_
      refine x_then ?_
      refine c_cond rfl (fun h => ?_) (fun h => ?_)
      ·
        refine c_ret ?_
        refine x_then_ret ?_
        refine x_block_ret ?_
        refine x_then_ret ?_
        refine x_then_ret ?_
        refine x_block_ret ?_
        refine x_then_ret ?_
        refine x_scope_ret ?_
        refine b_ret tok rfl ?_
        intro E w' hm _
        refine ⟨?_, hm.below (hlw1)⟩
        have hc : covers l key n mode = true := by
          rw [covers, List.any_eq_true]
          exact ⟨x, List.mem_of_getElem? h_x, by simpa [covers] using h⟩
        rw [if_pos rfl, if_pos hc]
        rfl
      ·
        refine c_skip ?_
        refine x_then ?_
        refine c_exit ?_
        refine x_block_hit ?_
        refine x_then ?_
        refine c_region ?_
        refine o_yield rfl rfl rfl (y_val tok rfl) ?_
        refine o_yield rfl rfl rfl (y_val tok rfl) ?_
        refine o_end [1, 3, 4, 20, 21, 22] rfl ?_
        refine x_then ?_
        have hcx : coversAt key n mode x = false := by simpa [covers] using h
        rw [hwi]
        have hno' : ∀ (j : Nat) (y : Hold), j < i + 1 → l[j]? = some y → coversAt key n mode y = false := fun j y hj hy => by
          rcases Nat.lt_or_ge j i with hlt | hge
          · exact hno j y hlt hy
          · have : j = i := by omega
            subst this
            rw [h_x] at hy
            cases hy
            exact hcx
        refine x_round (i + 1) (⟨by omega, hno'⟩) (by first | omega | (dsimp only; omega)) (by repeat (first | exact SubF.nil | refine SubF.cons rfl ?_)) (by repeat (first | exact SubO.nil | refine SubO.cons rfl ?_)) rfl (hlw1)
    ·
      simp only [Bool.and_eq_true, Bool.or_eq_true, Bool.not_eq_true', Bool.or_eq_false_iff, Bool.and_eq_false_iff, decide_eq_true_eq, decide_eq_false_iff_not, beq_iff_eq, bne_iff_ne, Bool.not_eq_false', beq_eq_false_iff_ne, bne_eq_false_iff_eq, ne_eq, Decidable.not_not, Int.not_lt, Int.not_le] at h
      refine c_exit ?_
      refine x_then_exit ?_
      refine x_then_exit ?_
      refine x_block_hit ?_
      refine x_then ?_
      refine c_region ?_
      have hc : covers l key n mode = false := by
        rw [covers, List.any_eq_false]
        intro y hy
        obtain ⟨j, hj⟩ := List.mem_iff_getElem?.1 hy
        rw [hno j y (by have := lt_of_at hj; omega) hj]
        simp
      refine o_callP [{ v := wrongV 250, recovered := false }] rfl rfl rfl fnok22 (fun E w1 hm => must_no _ _) ?_
      exact ⟨fun E a w' hd hf hm => ⟨hd, by rw [hc]; rfl, hm.below (Vw.le.refl _)⟩⟩
end Go.Proofs.Ytmjdihpdlfidmaa

/- A block written into a transaction. -/
set_option linter.unusedVariables false
set_option linter.unusedSimpArgs false
set_option maxRecDepth 100000
namespace Go.Proofs.Ytmjdihpdlfidmaa
open Go Go.Eng Go.RowKit

def wrE (g : Geo) (op : Bool) (hl : List Hold) (key n : Int) (text : ByteArray) : Int :=
  if op = true then lookE g hl key n 2 (decide ((text.size : Int) ≤ IntKind.i64.wrap (g.per * 256))) else 270

def WrQ (g : Geo) (op : Bool) (a : Option Addr) (m c : Nat) (l : List Block) (hl : List Hold) (key n : Int) (text : ByteArray) (w : World) (e : Ending) (w' : World) : Prop :=
  ((wrE g op hl key n text ≠ 0 ∧ e = .returned (.tuple #[txV op a m c, I (wrE g op hl key n text)])) ∨
    (wrE g op hl key n text = 0 ∧ ∃ v, e = .returned (.tuple #[.agg #[.bool true, v], I 0]) ∧ w'.ownsRow w.heap.size 57 2 v (putP l [⟨n, text⟩]).length ((putP l [⟨n, text⟩]).flatMap Block.cells))) ∧ Below w.heap.size w w'

theorem write_c (V : Vw) (g : Geo) (ok : g.Ok) (op : Bool) (a : Option Addr) (m c : Nat) (l : List Block) (key n : Int) (text : ByteArray) (ha : Option Addr) (hm_ hc : Nat) (hl : List Hold) (w : World) (hV : V.le (vw w))
    (hs0 : SlOf V Block.cells 2 (.slice a m c) l) (hh0 : SlOf V Hold.cells 4 (.slice ha hm_ hc) hl) (hn : l.length ≤ 1000) (hhn : hl.length ≤ 1000) :
    Calls Try.prog 15 #[g.val, txV op a m c, I key, I n, S text, .slice ha hm_ hc] w (WrQ g op a m c l hl key n text w) := by
  have hs := hs0.mono hV
  have hh := hh0.mono hV
  have nor : ∀ w', ¬ WrQ g op a m c l hl key n text w .outgrown w' := by rintro w' ⟨⟨_, h⟩ | ⟨_, v, h, _⟩, _⟩ <;> cases h
  refine enterP (E := E0) (O := []) (nl := 0) (V := vw w) [.a (.v g.val), .a (.v (txV op a m c)), .a (.v (I key)), .a (.v (I n)), .a (.v (S text)), .a (.v (.slice ha hm_ hc))] Try.func15 rfl rfl (mem0 E0 0 w) rfl rfl ?_
  refine p_seq ?_
  refine p_region (by intro _ _ w1 h1; first | exact h1 | (obtain ⟨h2, _⟩ := h1; cases h2; done) | (obtain ⟨⟨_, h2⟩, _⟩ := h1; cases h2; done) | (obtain ⟨⟨_, h2, _⟩, _⟩ := h1; cases h2; done) | (obtain ⟨_, h2, _⟩ := h1; cases h2; done) | (obtain ⟨_, _, h2, _⟩ := h1; cases h2; done) | (obtain ⟨_, _, _, h2, _⟩ := h1; cases h2; done) | (rcases h1 with ⟨⟨_, _, h2, _⟩ | ⟨_, h2⟩, _⟩ <;> cases h2; done) | (exact nor _ h1)) ?_
  refine o_new tok rfl rfl rfl rfl ?_
  refine o_new tok rfl rfl rfl rfl ?_
  refine o_new tok rfl rfl rfl rfl ?_
  refine o_new tok rfl rfl rfl rfl ?_
  refine o_end [2, 3, 4, 5, 6, 7, 12, 13] rfl ?_
  refine rq ?_
  refine x_then ?_
  refine p_seq ?_
  refine p_region (by intro _ _ w1 h1; first | exact h1 | (obtain ⟨h2, _⟩ := h1; cases h2; done) | (obtain ⟨⟨_, h2⟩, _⟩ := h1; cases h2; done) | (obtain ⟨⟨_, h2, _⟩, _⟩ := h1; cases h2; done) | (obtain ⟨_, h2, _⟩ := h1; cases h2; done) | (obtain ⟨_, _, h2, _⟩ := h1; cases h2; done) | (obtain ⟨_, _, _, h2, _⟩ := h1; cases h2; done) | (rcases h1 with ⟨⟨_, _, h2, _⟩ | ⟨_, h2⟩, _⟩ <;> cases h2; done) | (exact nor _ h1)) ?_
  refine o_yield rfl rfl rfl (y_val tok rfl) ?_
  refine k_pin 1 rfl (fun b0 => ?_)
  refine k_pin 2 rfl (fun b1 => ?_)
  refine k_pin 3 rfl (fun b2 => ?_)
  refine o_deferF (f := 30) (caps := #[Ptr b0, Ptr b1, Ptr b2]) rfl rfl rfl rfl (fun E w hm => by rw [← (hm.pin 4 1 b0 rfl).1, ← (hm.pin 5 2 b1 rfl).1, ← (hm.pin 6 3 b2 rfl).1]; rfl) ?_
  refine x_then ?_
  refine p_seq ?_
  refine p_region (by intro _ _ w1 h1; first | exact h1 | (obtain ⟨h2, _⟩ := h1; cases h2; done) | (obtain ⟨⟨_, h2⟩, _⟩ := h1; cases h2; done) | (obtain ⟨⟨_, h2, _⟩, _⟩ := h1; cases h2; done) | (obtain ⟨_, h2, _⟩ := h1; cases h2; done) | (obtain ⟨_, _, h2, _⟩ := h1; cases h2; done) | (obtain ⟨_, _, _, h2, _⟩ := h1; cases h2; done) | (rcases h1 with ⟨⟨_, _, h2, _⟩ | ⟨_, h2⟩, _⟩ <;> cases h2; done) | (exact nor _ h1)) ?_
  refine o_yield rfl rfl rfl (y_val tok rfl) ?_
  refine o_yield rfl rfl rfl (y_val tok rfl) ?_
  cases op with
  | false =>
    refine o_callP [{ v := wrongV 270, recovered := false }] rfl rfl rfl fnok22 (fun E w1 hm => must_no _ _) ?_
    refine rq ?_
    refine p_leaveI tok (fn := Try.f15) [.a (.ptr 1 0), .a (.ptr 2 0), .a (.ptr 3 0)] (.inr ⟨_, rfl, rfl⟩) (rfl) (.inr ⟨[], rfl, rfl⟩) Try.func30 rfl rfl (fun E w hm => by rw [← (hm.pin 4 1 b0 rfl).1, ← (hm.pin 5 2 b1 rfl).1, ← (hm.pin 6 3 b2 rfl).1]; rfl) rfl rfl rfl rfl (by decide) (fun _ _ => rfl) (fun _ => rfl) (fun E => ?_)
    refine o_call (.a (.v _)) rfl rfl fnok21 rfl rfl rfl (fun hg E w1 hm => by exact caught_wrong 270 _) ?_
    refine o_yield rfl rfl rfl (y_val tok rfl) ?_
    refine o_yield rfl rfl rfl (y_val tok rfl) ?_
    refine o_yield rfl rfl rfl (y_val tok rfl) ?_
    refine o_yield rfl rfl rfl (y_val tok rfl) ?_
    refine o_yield rfl rfl rfl (y_val tok rfl) ?_
    refine o_end [0, 1, 2, 3, 4] rfl ?_
    refine x_then ?_
    refine c_seq ?_
    refine c_region ?_
    refine o_yield rfl rfl rfl (y_val tok rfl) ?_
    refine o_end [0, 1, 2, 3, 10] rfl ?_
    refine x_then ?_
    refine c_cond rfl (fun h => ?_) (fun h => ?_)
    ·
      refine c_region ?_
      refine o_yield rfl rfl rfl (y_val tok rfl) ?_
      refine o_yield rfl rfl rfl (y_val tok rfl) ?_
      refine o_store tok rfl rfl rfl (by first | exact ⟨trivial, trivial⟩ | (repeat' first | exact trivial | exact rfl | apply And.intro); done | simp [onesP, oneP, lk, Value.oneCell']) ?_
      refine o_store tok rfl rfl rfl (by first | exact ⟨trivial, trivial⟩ | (repeat' first | exact trivial | exact rfl | apply And.intro); done | simp [onesP, oneP, lk, Value.oneCell']) ?_
      refine o_end [] rfl ?_
      refine q_end (.inl rfl) tok rfl (by repeat (first | exact KeepsIn.zero | refine KeepsIn.succ rfl ?_)) rfl ?_
      exact ⟨_, rfl, fun E w hm => ⟨.inl ⟨by rw [wrE, if_neg (by simp)]; decide, rfl⟩, hm.below (Vw.le.refl _)⟩⟩
    ·
      exact absurd h (by decide)
  | true =>
    refine o_call (.a (.v _)) rfl rfl fnok22 rfl rfl rfl (fun hg E w1 hm => by exact must_ok 270 _) ?_
    refine o_end [2, 3, 4, 5, 6, 7, 12, 13] rfl ?_
    refine rq ?_
    refine x_then ?_
    refine p_seq ?_
    refine p_region (by intro _ _ w1 h1; first | exact h1 | (obtain ⟨h2, _⟩ := h1; cases h2; done) | (obtain ⟨⟨_, h2⟩, _⟩ := h1; cases h2; done) | (obtain ⟨⟨_, h2, _⟩, _⟩ := h1; cases h2; done) | (obtain ⟨_, h2, _⟩ := h1; cases h2; done) | (obtain ⟨_, _, h2, _⟩ := h1; cases h2; done) | (obtain ⟨_, _, _, h2, _⟩ := h1; cases h2; done) | (rcases h1 with ⟨⟨_, _, h2, _⟩ | ⟨_, h2⟩, _⟩ <;> cases h2; done) | (exact nor _ h1)) ?_
    refine o_yield rfl rfl rfl (y_val tok rfl) ?_
    refine o_yield rfl rfl rfl (y_val tok rfl) ?_
    refine o_yield rfl rfl rfl (y_val tok rfl) ?_
    refine o_yield rfl rfl rfl (y_val tok rfl) ?_
    refine o_yield rfl rfl rfl (y_val tok rfl) ?_
    refine o_yield rfl rfl rfl (y_val tok rfl) ?_
    refine o_yield rfl rfl rfl (y_val tok rfl) ?_
    refine o_yield rfl rfl rfl (y_val tok rfl) ?_
    refine o_yield rfl rfl rfl (y_val tok rfl) ?_
    refine o_yield rfl rfl rfl (y_val tok rfl) ?_
    refine o_yield rfl rfl rfl (y_val tok rfl) ?_
    have hbc := fun w1 hV => block_c (vw w) g ok key n 2 ha hm_ hc (decide ((text.size : Int) ≤ IntKind.i64.wrap (g.per * 256))) hl w1 hV hh hhn
    have hwr : wrE g true hl key n text = lookE g hl key n 2 (decide ((text.size : Int) ≤ IntKind.i64.wrap (g.per * 256))) := by rw [wrE, if_pos rfl]
    obtain ⟨z, hz⟩ : ∃ z, lookE g hl key n 2 (decide ((text.size : Int) ≤ IntKind.i64.wrap (g.per * 256))) = z := ⟨_, rfl⟩
    rw [hz] at hbc hwr
    by_cases hz0 : z = 0
    · rw [if_pos hz0] at hbc
      refine o_call (.a (.v _)) rfl rfl fnok23 rfl rfl rfl (fun hg E w1 hm => by exact hbc _ hm.leV) ?_
      refine o_end [3, 4, 7, 12, 13] rfl ?_
      refine rq ?_
      refine x_then ?_
      refine p_seq ?_
      refine p_region (by intro _ _ w1 h1; first | exact h1 | (obtain ⟨h2, _⟩ := h1; cases h2; done) | (obtain ⟨⟨_, h2⟩, _⟩ := h1; cases h2; done) | (obtain ⟨⟨_, h2, _⟩, _⟩ := h1; cases h2; done) | (obtain ⟨_, h2, _⟩ := h1; cases h2; done) | (obtain ⟨_, _, h2, _⟩ := h1; cases h2; done) | (obtain ⟨_, _, _, h2, _⟩ := h1; cases h2; done) | (rcases h1 with ⟨⟨_, _, h2, _⟩ | ⟨_, h2⟩, _⟩ <;> cases h2; done) | (exact nor _ h1)) ?_
      refine o_yield rfl rfl rfl (y_val tok rfl) ?_
      refine o_yield rfl rfl rfl (y_val tok rfl) ?_
      refine o_yield rfl rfl rfl (y_val tok rfl) ?_
      refine o_yield rfl rfl rfl (y_val tok rfl) ?_
      refine o_yield rfl rfl rfl (y_val tok rfl) ?_
      refine o_bs tok rfl rfl rfl rfl (fun b3 W1 hlw1 hb3 => ?_)
      have hsx : SlOf W1 Block.cells 2 (.slice (some ⟨b3, 0, none⟩) 1 1) [(⟨n, text⟩ : Block)] := SlOf.ofBlock (enc := Block.cells) (sz := 2) (l := [(⟨n, text⟩ : Block)]) (hb3 rfl) rfl (fun _ => rfl) (Nat.le_refl _)
      refine o_step rfl rfl rfl rfl rfl (s_callRow 57 2 (putP l [⟨n, text⟩]).length ((putP l [⟨n, text⟩]).flatMap Block.cells) rfl fnok31 (fun E w1 hm => (bufPut_c W1 _ _ l [⟨n, text⟩] w1 hm.leV (hs.mono hlw1) hsx (by simp; omega)).mono (fun e w' ⟨v, he, ho, hb⟩ => ⟨v, he, ho, hb⟩))) (fun _ _ => ?_)
      refine o_yield rfl rfl rfl (y_val tok rfl) ?_
      refine o_store tok rfl rfl rfl (by first | exact ⟨trivial, trivial⟩ | (repeat' first | exact trivial | exact rfl | apply And.intro); done | simp [onesP, oneP, lk, Value.oneCell']) ?_
      refine o_store tok rfl rfl rfl (by first | exact ⟨trivial, trivial⟩ | (repeat' first | exact trivial | exact rfl | apply And.intro); done | simp [onesP, oneP, lk, Value.oneCell']) ?_
      refine o_end [12, 13] rfl ?_
      refine rq ?_
      refine x_then ?_
      refine p_ret ?_
      refine id ?_
      refine p_leaveI tok (fn := Try.f15) [.a (.ptr 1 0), .a (.ptr 2 0), .a (.ptr 3 0)] (.inl ⟨.inl rfl, rfl⟩) (rfl) (.inl ⟨rfl, rfl, rfl⟩) Try.func30 rfl rfl (fun E w hm => by rw [← (hm.pin 4 1 b0 rfl).1, ← (hm.pin 5 2 b1 rfl).1, ← (hm.pin 6 3 b2 rfl).1]; rfl) rfl rfl rfl rfl (by decide) (fun _ _ => rfl) (fun _ => rfl) (fun E => ?_)
      refine o_call (.a (.v _)) rfl rfl fnok21 rfl rfl rfl (fun hg E w1 hm => by exact caught_nil _) ?_
      refine o_yield rfl rfl rfl (y_val tok rfl) ?_
      refine o_yield rfl rfl rfl (y_val tok rfl) ?_
      refine o_yield rfl rfl rfl (y_val tok rfl) ?_
      refine o_yield rfl rfl rfl (y_val tok rfl) ?_
      refine o_yield rfl rfl rfl (y_val tok rfl) ?_
      refine o_end [0, 1, 2, 3, 4] rfl ?_
      refine x_then ?_
      refine c_seq ?_
      refine c_region ?_
      refine o_yield rfl rfl rfl (y_val tok rfl) ?_
      refine o_end [0, 1, 2, 3, 10] rfl ?_
      refine x_then ?_
      refine c_cond rfl (fun h => ?_) (fun h => ?_)
      ·
        exact absurd h (by decide)
      ·
        refine c_skip ?_
        refine q_end (.inl rfl) tok rfl (by repeat (first | exact KeepsIn.zero | refine KeepsIn.succ rfl ?_)) rfl ?_
        exact ⟨_, rfl, fun E w hm => ⟨.inr ⟨hwr.trans hz0, E.κ 7, rfl, hm.rowFresh hlw1 (l := 7) rfl⟩, hm.below hlw1⟩⟩
    ·
      rw [if_neg hz0] at hbc
      refine o_callP [{ v := wrongV z, recovered := false }] rfl rfl rfl fnok23 (fun E w1 hm => hbc _ hm.leV) ?_
      refine rq ?_
      refine p_leaveI tok (fn := Try.f15) [.a (.ptr 1 0), .a (.ptr 2 0), .a (.ptr 3 0)] (.inr ⟨_, rfl, rfl⟩) (rfl) (.inr ⟨[], rfl, rfl⟩) Try.func30 rfl rfl (fun E w hm => by rw [← (hm.pin 4 1 b0 rfl).1, ← (hm.pin 5 2 b1 rfl).1, ← (hm.pin 6 3 b2 rfl).1]; rfl) rfl rfl rfl rfl (by decide) (fun _ _ => rfl) (fun _ => rfl) (fun E => ?_)
      refine o_call (.a (.v _)) rfl rfl fnok21 rfl rfl rfl (fun hg E w1 hm => by exact caught_wrong z _) ?_
      refine o_yield rfl rfl rfl (y_val tok rfl) ?_
      refine o_yield rfl rfl rfl (y_val tok rfl) ?_
      refine o_yield rfl rfl rfl (y_val tok rfl) ?_
      refine o_yield rfl rfl rfl (y_val tok rfl) ?_
      refine o_yield rfl rfl rfl (y_val tok rfl) ?_
      refine o_end [0, 1, 2, 3, 4] rfl ?_
      refine x_then ?_
      refine c_seq ?_
      refine c_region ?_
      refine o_yield rfl rfl rfl (y_val tok rfl) ?_
      refine o_end [0, 1, 2, 3, 10] rfl ?_
      refine x_then ?_
      refine c_cond rfl (fun h => ?_) (fun h => ?_)
      ·
        refine c_region ?_
        refine o_yield rfl rfl rfl (y_val tok rfl) ?_
        refine o_yield rfl rfl rfl (y_val tok rfl) ?_
        refine o_store tok rfl rfl rfl (by first | exact ⟨trivial, trivial⟩ | (repeat' first | exact trivial | exact rfl | apply And.intro); done | simp [onesP, oneP, lk, Value.oneCell']) ?_
        refine o_store tok rfl rfl rfl (by first | exact ⟨trivial, trivial⟩ | (repeat' first | exact trivial | exact rfl | apply And.intro); done | simp [onesP, oneP, lk, Value.oneCell']) ?_
        refine o_end [] rfl ?_
        refine q_end (.inl rfl) tok rfl (by repeat (first | exact KeepsIn.zero | refine KeepsIn.succ rfl ?_)) rfl ?_
        exact ⟨_, rfl, fun E w hm => ⟨.inl ⟨by rw [hwr]; exact hz0, by rw [hwr]; rfl⟩, hm.below (Vw.le.refl _)⟩⟩
      ·
        exact absurd h (by decide)
end Go.Proofs.Ytmjdihpdlfidmaa

/- A transaction closed. -/
set_option linter.unusedVariables false
set_option linter.unusedSimpArgs false
set_option maxRecDepth 100000
namespace Go.Proofs.Ytmjdihpdlfidmaa
open Go Go.Eng Go.RowKit

theorem close_c (op : Bool) (a : Option Addr) (n c : Nat) (w : World) : Calls Try.prog 10 #[txV op a n c] w fun e w' => e = .returned (.tuple (if op = true then #[txV false none 0 0, .slice a n c, I 0] else #[txV op a n c, .slice none 0 0, I 270])) ∧ Below w.heap.size w w' := by
  refine enterP (E := E0) (O := []) (nl := 0) (V := vw w) [.a (.v (txV op a n c))] Try.func10 rfl rfl (mem0 E0 0 w) rfl rfl ?_
  refine p_seq ?_
  refine p_region (by intro _ _ w1 h1; first | exact h1 | (obtain ⟨h2, _⟩ := h1; cases h2; done) | (obtain ⟨⟨_, h2⟩, _⟩ := h1; cases h2; done) | (obtain ⟨⟨_, h2, _⟩, _⟩ := h1; cases h2; done) | (obtain ⟨_, h2, _⟩ := h1; cases h2; done) | (obtain ⟨_, _, h2, _⟩ := h1; cases h2; done) | (obtain ⟨_, _, _, h2, _⟩ := h1; cases h2; done) | (rcases h1 with ⟨⟨_, _, h2, _⟩ | ⟨_, h2⟩, _⟩ <;> cases h2; done) | (exact nor _ h1)) ?_
  refine o_new tok rfl rfl rfl rfl ?_
  refine o_new tok rfl rfl rfl rfl ?_
  refine o_new tok rfl rfl rfl rfl ?_
  refine o_new tok rfl rfl rfl rfl ?_
  refine o_end [1, 2, 3, 4] rfl ?_
  refine rq ?_
  refine x_then ?_
  refine p_seq ?_
  refine p_region (by intro _ _ w1 h1; first | exact h1 | (obtain ⟨h2, _⟩ := h1; cases h2; done) | (obtain ⟨⟨_, h2⟩, _⟩ := h1; cases h2; done) | (obtain ⟨⟨_, h2, _⟩, _⟩ := h1; cases h2; done) | (obtain ⟨_, h2, _⟩ := h1; cases h2; done) | (obtain ⟨_, _, h2, _⟩ := h1; cases h2; done) | (obtain ⟨_, _, _, h2, _⟩ := h1; cases h2; done) | (rcases h1 with ⟨⟨_, _, h2, _⟩ | ⟨_, h2⟩, _⟩ <;> cases h2; done) | (exact nor _ h1)) ?_
  refine o_yield rfl rfl rfl (y_val tok rfl) ?_
  refine k_pin 0 rfl (fun b0 => ?_)
  refine k_pin 1 rfl (fun b1 => ?_)
  refine k_pin 2 rfl (fun b2 => ?_)
  refine k_pin 3 rfl (fun b3 => ?_)
  refine o_deferF (f := 25) (caps := #[Ptr b0, Ptr b1, Ptr b2, Ptr b3]) rfl rfl rfl rfl (fun E w hm => by rw [← (hm.pin 4 0 b0 rfl).1, ← (hm.pin 5 1 b1 rfl).1, ← (hm.pin 6 2 b2 rfl).1, ← (hm.pin 7 3 b3 rfl).1]; rfl) ?_
  refine x_then ?_
  refine p_seq ?_
  refine p_region (by intro _ _ w1 h1; first | exact h1 | (obtain ⟨h2, _⟩ := h1; cases h2; done) | (obtain ⟨⟨_, h2⟩, _⟩ := h1; cases h2; done) | (obtain ⟨⟨_, h2, _⟩, _⟩ := h1; cases h2; done) | (obtain ⟨_, h2, _⟩ := h1; cases h2; done) | (obtain ⟨_, _, h2, _⟩ := h1; cases h2; done) | (obtain ⟨_, _, _, h2, _⟩ := h1; cases h2; done) | (rcases h1 with ⟨⟨_, _, h2, _⟩ | ⟨_, h2⟩, _⟩ <;> cases h2; done) | (exact nor _ h1)) ?_
  refine o_yield rfl rfl rfl (y_val tok rfl) ?_
  refine o_yield rfl rfl rfl (y_val tok rfl) ?_
  cases op with
  | false =>
    refine o_callP [{ v := wrongV 270, recovered := false }] rfl rfl rfl fnok22 (fun E w1 hm => must_no _ _) ?_
    refine rq ?_
    refine p_leaveI tok (fn := Try.f10) [.a (.ptr 0 0), .a (.ptr 1 0), .a (.ptr 2 0), .a (.ptr 3 0)] (.inr ⟨_, rfl, rfl⟩) (rfl) (.inr ⟨[], rfl, rfl⟩) Try.func25 rfl rfl (fun E w hm => by rw [← (hm.pin 4 0 b0 rfl).1, ← (hm.pin 5 1 b1 rfl).1, ← (hm.pin 6 2 b2 rfl).1, ← (hm.pin 7 3 b3 rfl).1]; rfl) rfl rfl rfl rfl (by decide) (fun _ _ => rfl) (fun _ => rfl) (fun E => ?_)
    refine o_call (.a (.v _)) rfl rfl fnok21 rfl rfl rfl (fun hg E w1 hm => by exact caught_wrong 270 _) ?_
    refine o_yield rfl rfl rfl (y_val tok rfl) ?_
    refine o_yield rfl rfl rfl (y_val tok rfl) ?_
    refine o_yield rfl rfl rfl (y_val tok rfl) ?_
    refine o_yield rfl rfl rfl (y_val tok rfl) ?_
    refine o_yield rfl rfl rfl (y_val tok rfl) ?_
    refine o_end [0, 1, 2, 3, 4, 5] rfl ?_
    refine x_then ?_
    refine c_seq ?_
    refine c_region ?_
    refine o_yield rfl rfl rfl (y_val tok rfl) ?_
    refine o_end [0, 1, 2, 3, 4, 11] rfl ?_
    refine x_then ?_
    refine c_cond rfl (fun h => ?_) (fun h => ?_)
    ·
      refine c_region ?_
      refine o_yield rfl rfl rfl (y_val tok rfl) ?_
      refine o_yield rfl rfl rfl (y_val tok rfl) ?_
      refine o_store tok rfl rfl rfl (by first | exact ⟨trivial, trivial⟩ | (repeat' first | exact trivial | exact rfl | apply And.intro); done | simp [onesP, oneP, lk, Value.oneCell']) ?_
      refine o_store tok rfl rfl rfl (by first | exact ⟨trivial, trivial⟩ | (repeat' first | exact trivial | exact rfl | apply And.intro); done | simp [onesP, oneP, lk, Value.oneCell']) ?_
      refine o_store tok rfl rfl rfl (by first | exact ⟨trivial, trivial⟩ | (repeat' first | exact trivial | exact rfl | apply And.intro); done | simp [onesP, oneP, lk, Value.oneCell']) ?_
      refine o_end [] rfl ?_
      refine q_end (.inl rfl) tok rfl (by repeat (first | exact KeepsIn.zero | refine KeepsIn.succ rfl ?_)) rfl ?_
      refine ⟨_, rfl, fun E w hm => ⟨?_, hm.below (Vw.le.refl _)⟩⟩
      rfl
    ·
      exact absurd h (by decide)
  | true =>
    refine o_call (.a (.v _)) rfl rfl fnok22 rfl rfl rfl (fun hg E w1 hm => by exact must_ok 270 _) ?_
    refine o_end [1, 2, 3, 4] rfl ?_
    refine rq ?_
    refine x_then ?_
    refine p_seq ?_
    refine p_held (by intro _ _ w1 h1; first | exact h1 | (obtain ⟨h2, _⟩ := h1; cases h2; done) | (obtain ⟨⟨_, h2⟩, _⟩ := h1; cases h2; done) | (obtain ⟨⟨_, h2, _⟩, _⟩ := h1; cases h2; done) | (obtain ⟨_, h2, _⟩ := h1; cases h2; done) | (obtain ⟨_, _, h2, _⟩ := h1; cases h2; done) | (obtain ⟨_, _, _, h2, _⟩ := h1; cases h2; done) | (rcases h1 with ⟨⟨_, _, h2, _⟩ | ⟨_, h2⟩, _⟩ <;> cases h2; done) | (exact nor _ h1)) [] ([(0, .lit [.v (.bool true), .v (.slice a n c)] 26), (1, .lit [.v (.bool false), .v (.slice none 0 0)] 26)]) mixed (by repeat (first | exact SubO.nil | refine SubO.cons rfl ?_)) (by first | rfl | simp [okCels, allOk_plain]) ?_
    refine t_take 0 rfl (by kernel_rfl) rfl rfl rfl (y_val tok rfl) rfl ?_
    refine t_take 1 rfl (by kernel_rfl) rfl rfl rfl (y_val tok rfl) rfl ?_
    refine t_take 2 rfl (by kernel_rfl) rfl rfl rfl (y_val tok rfl) rfl ?_
    refine t_go ?_
    refine h_one 3 (by kernel_rfl) ?_
    refine h_store 3 tok rfl rfl rfl rfl (by first | exact ⟨trivial, trivial⟩ | (repeat' first | exact trivial | exact rfl | apply And.intro); done | simp [onesP, oneP, lk, Value.oneCell']) (.inr ⟨(by repeat (first | exact SubO.nil | refine SubO.cons rfl ?_)), rfl, (by first | exact Vw.le.refl _ | assumption)⟩) ?_
    refine h_one 4 (by kernel_rfl) ?_
    refine h_store 4 tok rfl rfl rfl rfl (by first | exact ⟨trivial, trivial⟩ | (repeat' first | exact trivial | exact rfl | apply And.intro); done | simp [onesP, oneP, lk, Value.oneCell']) (.inr ⟨(by repeat (first | exact SubO.nil | refine SubO.cons rfl ?_)), rfl, (by first | exact Vw.le.refl _ | assumption)⟩) ?_
    refine h_one 5 (by kernel_rfl) ?_
    refine h_store 5 tok rfl rfl rfl rfl (by first | exact ⟨trivial, trivial⟩ | (repeat' first | exact trivial | exact rfl | apply And.intro); done | simp [onesP, oneP, lk, Value.oneCell']) (.inr ⟨(by repeat (first | exact SubO.nil | refine SubO.cons rfl ?_)), rfl, (by first | exact Vw.le.refl _ | assumption)⟩) ?_
    refine h_done [2, 3, 4] (by kernel_rfl) rfl ?_
    refine rq ?_
    refine x_then ?_
    refine p_ret ?_
    refine id ?_
    refine p_leaveI tok (fn := Try.f10) [.a (.ptr 0 0), .a (.ptr 1 0), .a (.ptr 2 0), .a (.ptr 3 0)] (.inl ⟨.inl rfl, rfl⟩) (rfl) (.inl ⟨rfl, rfl, rfl⟩) Try.func25 rfl rfl (fun E w hm => by rw [← (hm.pin 4 0 b0 rfl).1, ← (hm.pin 5 1 b1 rfl).1, ← (hm.pin 6 2 b2 rfl).1, ← (hm.pin 7 3 b3 rfl).1]; rfl) rfl rfl rfl rfl (by decide) (fun _ _ => rfl) (fun _ => rfl) (fun E => ?_)
    refine o_call (.a (.v _)) rfl rfl fnok21 rfl rfl rfl (fun hg E w1 hm => by exact caught_nil _) ?_
    refine o_yield rfl rfl rfl (y_val tok rfl) ?_
    refine o_yield rfl rfl rfl (y_val tok rfl) ?_
    refine o_yield rfl rfl rfl (y_val tok rfl) ?_
    refine o_yield rfl rfl rfl (y_val tok rfl) ?_
    refine o_yield rfl rfl rfl (y_val tok rfl) ?_
    refine o_end [0, 1, 2, 3, 4, 5] rfl ?_
    refine x_then ?_
    refine c_seq ?_
    refine c_region ?_
    refine o_yield rfl rfl rfl (y_val tok rfl) ?_
    refine o_end [0, 1, 2, 3, 4, 11] rfl ?_
    refine x_then ?_
    refine c_cond rfl (fun h => ?_) (fun h => ?_)
    ·
      exact absurd h (by decide)
    ·
      refine c_skip ?_
      refine q_end (.inl rfl) tok rfl (by repeat (first | exact KeepsIn.zero | refine KeepsIn.succ rfl ?_)) rfl ?_
      refine ⟨_, rfl, fun E w hm => ⟨?_, hm.below (Vw.le.refl _)⟩⟩
      rfl
end Go.Proofs.Ytmjdihpdlfidmaa

/- A block read in a transaction. -/
set_option linter.unusedVariables false
set_option linter.unusedSimpArgs false
set_option maxRecDepth 100000
namespace Go.Proofs.Ytmjdihpdlfidmaa
open Go Go.Eng Go.RowKit

def rdE (g : Geo) (op : Bool) (hl : List Hold) (key n : Int) : Int := if op = true then lookE g hl key n 1 true else 270

def rdV (ec : Int) (k : ByteArray × Bool) : Value := .tuple (if ec = 0 then #[S k.1, .bool k.2, I 0] else #[S ByteArray.empty, .bool false, I ec])

theorem read_c (V : Vw) (g : Geo) (ok : g.Ok) (op : Bool) (a : Option Addr) (m c : Nat) (l : List Block) (key n : Int) (pa : Option Addr) (pm pc : Nat) (pl : List Block) (ha : Option Addr) (hm_ hc : Nat) (hl : List Hold) (w : World) (hV : V.le (vw w))
    (hs0 : SlOf V Block.cells 2 (.slice a m c) l) (hp0 : SlOf V Block.cells 2 (.slice pa pm pc) pl) (hh0 : SlOf V Hold.cells 4 (.slice ha hm_ hc) hl) (hn : l.length ≤ 1000) (hpn : pl.length ≤ 1000) (hhn : hl.length ≤ 1000) :
    Calls Try.prog 9 #[g.val, txV op a m c, I key, I n, .slice pa pm pc, .slice ha hm_ hc] w fun e w' => e = .returned (rdV (rdE g op hl key n) (knownB [⟨.slice a m c, l⟩, ⟨.slice pa pm pc, pl⟩] n)) ∧ Below w.heap.size w w' := by
  have hs := hs0.mono hV
  have hp := hp0.mono hV
  have hh := hh0.mono hV
  refine enterP (E := E0) (O := []) (nl := 0) (V := vw w) [.a (.v g.val), .a (.v (txV op a m c)), .a (.v (I key)), .a (.v (I n)), .a (.v (.slice pa pm pc)), .a (.v (.slice ha hm_ hc))] Try.func9 rfl rfl (mem0 E0 0 w) rfl rfl ?_
  refine p_seq ?_
  refine p_region (by intro _ _ w1 h1; first | exact h1 | (obtain ⟨h2, _⟩ := h1; cases h2; done) | (obtain ⟨⟨_, h2⟩, _⟩ := h1; cases h2; done) | (obtain ⟨⟨_, h2, _⟩, _⟩ := h1; cases h2; done) | (obtain ⟨_, h2, _⟩ := h1; cases h2; done) | (obtain ⟨_, _, h2, _⟩ := h1; cases h2; done) | (obtain ⟨_, _, _, h2, _⟩ := h1; cases h2; done) | (rcases h1 with ⟨⟨_, _, h2, _⟩ | ⟨_, h2⟩, _⟩ <;> cases h2; done) | (exact nor _ h1)) ?_
  refine o_new tok rfl rfl rfl rfl ?_
  refine o_new tok rfl rfl rfl rfl ?_
  refine o_new tok rfl rfl rfl rfl ?_
  refine o_new tok rfl rfl rfl rfl ?_
  refine o_new tok rfl rfl rfl rfl ?_
  refine o_end [2, 3, 4, 5, 6, 7, 12, 13, 14] rfl ?_
  refine rq ?_
  refine x_then ?_
  refine p_seq ?_
  refine p_region (by intro _ _ w1 h1; first | exact h1 | (obtain ⟨h2, _⟩ := h1; cases h2; done) | (obtain ⟨⟨_, h2⟩, _⟩ := h1; cases h2; done) | (obtain ⟨⟨_, h2, _⟩, _⟩ := h1; cases h2; done) | (obtain ⟨_, h2, _⟩ := h1; cases h2; done) | (obtain ⟨_, _, h2, _⟩ := h1; cases h2; done) | (obtain ⟨_, _, _, h2, _⟩ := h1; cases h2; done) | (rcases h1 with ⟨⟨_, _, h2, _⟩ | ⟨_, h2⟩, _⟩ <;> cases h2; done) | (exact nor _ h1)) ?_
  refine o_yield rfl rfl rfl (y_val tok rfl) ?_
  refine k_pin 2 rfl (fun b0 => ?_)
  refine k_pin 3 rfl (fun b1 => ?_)
  refine k_pin 4 rfl (fun b2 => ?_)
  refine o_deferF (f := 20) (caps := #[Ptr b0, Ptr b1, Ptr b2]) rfl rfl rfl rfl (fun E w hm => by rw [← (hm.pin 5 2 b0 rfl).1, ← (hm.pin 6 3 b1 rfl).1, ← (hm.pin 7 4 b2 rfl).1]; rfl) ?_
  refine x_then ?_
  refine p_seq ?_
  refine p_region (by intro _ _ w1 h1; first | exact h1 | (obtain ⟨h2, _⟩ := h1; cases h2; done) | (obtain ⟨⟨_, h2⟩, _⟩ := h1; cases h2; done) | (obtain ⟨⟨_, h2, _⟩, _⟩ := h1; cases h2; done) | (obtain ⟨_, h2, _⟩ := h1; cases h2; done) | (obtain ⟨_, _, h2, _⟩ := h1; cases h2; done) | (obtain ⟨_, _, _, h2, _⟩ := h1; cases h2; done) | (rcases h1 with ⟨⟨_, _, h2, _⟩ | ⟨_, h2⟩, _⟩ <;> cases h2; done) | (exact nor _ h1)) ?_
  refine o_yield rfl rfl rfl (y_val tok rfl) ?_
  refine o_yield rfl rfl rfl (y_val tok rfl) ?_
  cases op with
  | false =>
    refine o_callP [{ v := wrongV 270, recovered := false }] rfl rfl rfl fnok22 (fun E w1 hm => must_no _ _) ?_
    refine rq ?_
    refine p_leaveI tok (fn := Try.f9) [.a (.ptr 2 0), .a (.ptr 3 0), .a (.ptr 4 0)] (.inr ⟨_, rfl, rfl⟩) (rfl) (.inr ⟨[], rfl, rfl⟩) Try.func20 rfl rfl (fun E w hm => by rw [← (hm.pin 5 2 b0 rfl).1, ← (hm.pin 6 3 b1 rfl).1, ← (hm.pin 7 4 b2 rfl).1]; rfl) rfl rfl rfl rfl (by decide) (fun _ _ => rfl) (fun _ => rfl) (fun E => ?_)
    refine o_call (.a (.v _)) rfl rfl fnok21 rfl rfl rfl (fun hg E w1 hm => by exact caught_wrong 270 _) ?_
    refine o_yield rfl rfl rfl (y_val tok rfl) ?_
    refine o_yield rfl rfl rfl (y_val tok rfl) ?_
    refine o_yield rfl rfl rfl (y_val tok rfl) ?_
    refine o_yield rfl rfl rfl (y_val tok rfl) ?_
    refine o_yield rfl rfl rfl (y_val tok rfl) ?_
    refine o_end [0, 1, 2, 3, 4] rfl ?_
    refine x_then ?_
    refine c_seq ?_
    refine c_region ?_
    refine o_yield rfl rfl rfl (y_val tok rfl) ?_
    refine o_end [0, 1, 2, 3, 10] rfl ?_
    refine x_then ?_
    refine c_cond rfl (fun h => ?_) (fun h => ?_)
    ·
      refine c_region ?_
      refine o_yield rfl rfl rfl (y_val tok rfl) ?_
      refine o_store tok rfl rfl rfl (by first | exact ⟨trivial, trivial⟩ | (repeat' first | exact trivial | exact rfl | apply And.intro); done | simp [onesP, oneP, lk, Value.oneCell']) ?_
      refine o_store tok rfl rfl rfl (by first | exact ⟨trivial, trivial⟩ | (repeat' first | exact trivial | exact rfl | apply And.intro); done | simp [onesP, oneP, lk, Value.oneCell']) ?_
      refine o_store tok rfl rfl rfl (by first | exact ⟨trivial, trivial⟩ | (repeat' first | exact trivial | exact rfl | apply And.intro); done | simp [onesP, oneP, lk, Value.oneCell']) ?_
      refine o_end [] rfl ?_
      refine q_end (.inl rfl) tok rfl (by repeat (first | exact KeepsIn.zero | refine KeepsIn.succ rfl ?_)) rfl ?_
      exact ⟨_, rfl, fun E w hm => ⟨rfl, hm.below (Vw.le.refl _)⟩⟩
    ·
      exact absurd h (by decide)
  | true =>
    refine o_call (.a (.v _)) rfl rfl fnok22 rfl rfl rfl (fun hg E w1 hm => by exact must_ok 270 _) ?_
    refine o_end [2, 3, 4, 5, 6, 7, 12, 13, 14] rfl ?_
    refine rq ?_
    refine x_then ?_
    refine p_seq ?_
    refine p_region (by intro _ _ w1 h1; first | exact h1 | (obtain ⟨h2, _⟩ := h1; cases h2; done) | (obtain ⟨⟨_, h2⟩, _⟩ := h1; cases h2; done) | (obtain ⟨⟨_, h2, _⟩, _⟩ := h1; cases h2; done) | (obtain ⟨_, h2, _⟩ := h1; cases h2; done) | (obtain ⟨_, _, h2, _⟩ := h1; cases h2; done) | (obtain ⟨_, _, _, h2, _⟩ := h1; cases h2; done) | (rcases h1 with ⟨⟨_, _, h2, _⟩ | ⟨_, h2⟩, _⟩ <;> cases h2; done) | (exact nor _ h1)) ?_
    refine o_yield rfl rfl rfl (y_val tok rfl) ?_
    refine o_yield rfl rfl rfl (y_val tok rfl) ?_
    refine o_yield rfl rfl rfl (y_val tok rfl) ?_
    refine o_yield rfl rfl rfl (y_val tok rfl) ?_
    refine o_yield rfl rfl rfl (y_val tok rfl) ?_
    have hbc := fun w1 hV => block_c (vw w) g ok key n 1 ha hm_ hc true hl w1 hV hh hhn
    have hwr : rdE g true hl key n = lookE g hl key n 1 true := by rw [rdE, if_pos rfl]
    obtain ⟨z, hz⟩ : ∃ z, lookE g hl key n 1 true = z := ⟨_, rfl⟩
    rw [hz] at hbc hwr
    rw [hwr]
    by_cases hz0 : z = 0
    · rw [if_pos hz0] at hbc
      obtain ⟨k, hk⟩ : ∃ k, knownB [⟨.slice a m c, l⟩, ⟨.slice pa pm pc, pl⟩] n = k := ⟨_, rfl⟩
      obtain ⟨kt, kb⟩ := k
      rw [hk]
      refine o_call (.a (.v _)) rfl rfl fnok23 rfl rfl rfl (fun hg E w1 hm => by exact hbc _ hm.leV) ?_
      refine o_end [3, 4, 7, 12, 13, 14] rfl ?_
      refine rq ?_
      refine x_then ?_
      refine p_seq ?_
      refine p_region (by intro _ _ w1 h1; first | exact h1 | (obtain ⟨h2, _⟩ := h1; cases h2; done) | (obtain ⟨⟨_, h2⟩, _⟩ := h1; cases h2; done) | (obtain ⟨⟨_, h2, _⟩, _⟩ := h1; cases h2; done) | (obtain ⟨_, h2, _⟩ := h1; cases h2; done) | (obtain ⟨_, _, h2, _⟩ := h1; cases h2; done) | (obtain ⟨_, _, _, h2, _⟩ := h1; cases h2; done) | (rcases h1 with ⟨⟨_, _, h2, _⟩ | ⟨_, h2⟩, _⟩ <;> cases h2; done) | (exact nor _ h1)) ?_
      refine o_yield rfl rfl rfl (y_val tok rfl) ?_
      refine o_yield rfl rfl rfl (y_val tok rfl) ?_
      refine o_yield rfl rfl rfl (y_val tok rfl) ?_
      refine o_yield rfl rfl rfl (y_val tok rfl) ?_
      refine o_bs tok rfl rfl rfl rfl (fun b3 W1 hlw1 hb3 => ?_)
      have hsx : SlOf W1 Sl.enc 1 (.slice (some ⟨b3, 0, none⟩) 2 2) [(⟨.slice a m c, l⟩ : Sl Block), ⟨.slice pa pm pc, pl⟩] := SlOf.ofBlock (enc := Sl.enc) (sz := 1) (l := [(⟨.slice a m c, l⟩ : Sl Block), ⟨.slice pa pm pc, pl⟩]) (hb3 rfl) rfl (fun _ => rfl) (Nat.le_refl _)
      have hkc := fun w1 hV1 => known_c W1 _ [(⟨.slice a m c, l⟩ : Sl Block), ⟨.slice pa pm pc, pl⟩] n w1 hV1 hsx (fun r hr => by
        simp only [List.mem_cons, List.not_mem_nil, or_false] at hr
        rcases hr with rfl | rfl
        · exact ⟨hs.mono hlw1, by dsimp only; omega⟩
        · exact ⟨hp.mono hlw1, by dsimp only; omega⟩) (by simp)
      rw [hk] at hkc
      refine o_call (.a (.v _)) rfl rfl fnok24 rfl rfl rfl (fun hg E w1 hm => by exact hkc _ hm.leV) ?_
      refine o_yield rfl rfl rfl (y_val tok rfl) ?_
      refine o_yield rfl rfl rfl (y_val tok rfl) ?_
      refine o_yield rfl rfl rfl (y_val tok rfl) ?_
      refine o_store tok rfl rfl rfl (by first | exact ⟨trivial, trivial⟩ | (repeat' first | exact trivial | exact rfl | apply And.intro); done | simp [onesP, oneP, lk, Value.oneCell']) ?_
      refine o_store tok rfl rfl rfl (by first | exact ⟨trivial, trivial⟩ | (repeat' first | exact trivial | exact rfl | apply And.intro); done | simp [onesP, oneP, lk, Value.oneCell']) ?_
      refine o_end [12, 13, 14] rfl ?_
      refine rq ?_
      refine x_then ?_
      refine p_seq ?_
      refine p_held (by intro _ _ w1 h1; first | exact h1 | (obtain ⟨h2, _⟩ := h1; cases h2; done) | (obtain ⟨⟨_, h2⟩, _⟩ := h1; cases h2; done) | (obtain ⟨⟨_, h2, _⟩, _⟩ := h1; cases h2; done) | (obtain ⟨_, h2, _⟩ := h1; cases h2; done) | (obtain ⟨_, _, h2, _⟩ := h1; cases h2; done) | (obtain ⟨_, _, _, h2, _⟩ := h1; cases h2; done) | (rcases h1 with ⟨⟨_, _, h2, _⟩ | ⟨_, h2⟩, _⟩ <;> cases h2; done) | (exact nor _ h1)) [] ([(2, .lit [.v (S kt)] 9), (3, .lit [.v (.bool kb)] 4)]) mixed (by repeat (first | exact SubO.nil | refine SubO.cons rfl ?_)) (by first | rfl | simp [okCels, allOk_plain]) ?_
      refine t_take 0 rfl (by kernel_rfl) rfl rfl rfl (y_val tok rfl) rfl ?_
      refine t_take 1 rfl (by kernel_rfl) rfl rfl rfl (y_val tok rfl) rfl ?_
      refine t_go ?_
      refine h_one 2 (by kernel_rfl) ?_
      refine h_store 2 tok rfl rfl rfl rfl (by first | exact ⟨trivial, trivial⟩ | (repeat' first | exact trivial | exact rfl | apply And.intro); done | simp [onesP, oneP, lk, Value.oneCell']) (.inr ⟨(by repeat (first | exact SubO.nil | refine SubO.cons rfl ?_)), rfl, (by first | exact Vw.le.refl _ | assumption)⟩) ?_
      refine h_one 3 (by kernel_rfl) ?_
      refine h_store 3 tok rfl rfl rfl rfl (by first | exact ⟨trivial, trivial⟩ | (repeat' first | exact trivial | exact rfl | apply And.intro); done | simp [onesP, oneP, lk, Value.oneCell']) (.inr ⟨(by repeat (first | exact SubO.nil | refine SubO.cons rfl ?_)), rfl, (by first | exact Vw.le.refl _ | assumption)⟩) ?_
      refine h_one 4 (by kernel_rfl) ?_
      refine h_store 4 tok rfl rfl rfl rfl (by first | exact ⟨trivial, trivial⟩ | (repeat' first | exact trivial | exact rfl | apply And.intro); done | simp [onesP, oneP, lk, Value.oneCell']) (.inr ⟨(by repeat (first | exact SubO.nil | refine SubO.cons rfl ?_)), rfl, (by first | exact Vw.le.refl _ | assumption)⟩) ?_
      refine h_done [12, 13, 14] (by kernel_rfl) rfl ?_
      refine rq ?_
      refine x_then ?_
      refine p_ret ?_
      refine id ?_
      refine p_leaveI tok (fn := Try.f9) [.a (.ptr 2 0), .a (.ptr 3 0), .a (.ptr 4 0)] (.inl ⟨.inl rfl, rfl⟩) (rfl) (.inl ⟨rfl, rfl, rfl⟩) Try.func20 rfl rfl (fun E w hm => by rw [← (hm.pin 5 2 b0 rfl).1, ← (hm.pin 6 3 b1 rfl).1, ← (hm.pin 7 4 b2 rfl).1]; rfl) rfl rfl rfl rfl (by decide) (fun _ _ => rfl) (fun _ => rfl) (fun E => ?_)
      refine o_call (.a (.v _)) rfl rfl fnok21 rfl rfl rfl (fun hg E w1 hm => by exact caught_nil _) ?_
      refine o_yield rfl rfl rfl (y_val tok rfl) ?_
      refine o_yield rfl rfl rfl (y_val tok rfl) ?_
      refine o_yield rfl rfl rfl (y_val tok rfl) ?_
      refine o_yield rfl rfl rfl (y_val tok rfl) ?_
      refine o_yield rfl rfl rfl (y_val tok rfl) ?_
      refine o_end [0, 1, 2, 3, 4] rfl ?_
      refine x_then ?_
      refine c_seq ?_
      refine c_region ?_
      refine o_yield rfl rfl rfl (y_val tok rfl) ?_
      refine o_end [0, 1, 2, 3, 10] rfl ?_
      refine x_then ?_
      refine c_cond rfl (fun h => ?_) (fun h => ?_)
      ·
        exact absurd h (by decide)
      ·
        refine c_skip ?_
        refine q_end (.inl rfl) tok rfl (by repeat (first | exact KeepsIn.zero | refine KeepsIn.succ rfl ?_)) rfl ?_
        exact ⟨_, rfl, fun E w hm => ⟨by rw [rdV, if_pos hz0]; rfl, hm.below hlw1⟩⟩
    ·
      rw [if_neg hz0] at hbc
      refine o_callP [{ v := wrongV z, recovered := false }] rfl rfl rfl fnok23 (fun E w1 hm => hbc _ hm.leV) ?_
      refine rq ?_
      refine p_leaveI tok (fn := Try.f9) [.a (.ptr 2 0), .a (.ptr 3 0), .a (.ptr 4 0)] (.inr ⟨_, rfl, rfl⟩) (rfl) (.inr ⟨[], rfl, rfl⟩) Try.func20 rfl rfl (fun E w hm => by rw [← (hm.pin 5 2 b0 rfl).1, ← (hm.pin 6 3 b1 rfl).1, ← (hm.pin 7 4 b2 rfl).1]; rfl) rfl rfl rfl rfl (by decide) (fun _ _ => rfl) (fun _ => rfl) (fun E => ?_)
      refine o_call (.a (.v _)) rfl rfl fnok21 rfl rfl rfl (fun hg E w1 hm => by exact caught_wrong z _) ?_
      refine o_yield rfl rfl rfl (y_val tok rfl) ?_
      refine o_yield rfl rfl rfl (y_val tok rfl) ?_
      refine o_yield rfl rfl rfl (y_val tok rfl) ?_
      refine o_yield rfl rfl rfl (y_val tok rfl) ?_
      refine o_yield rfl rfl rfl (y_val tok rfl) ?_
      refine o_end [0, 1, 2, 3, 4] rfl ?_
      refine x_then ?_
      refine c_seq ?_
      refine c_region ?_
      refine o_yield rfl rfl rfl (y_val tok rfl) ?_
      refine o_end [0, 1, 2, 3, 10] rfl ?_
      refine x_then ?_
      refine c_cond rfl (fun h => ?_) (fun h => ?_)
      ·
        refine c_region ?_
        refine o_yield rfl rfl rfl (y_val tok rfl) ?_
        refine o_store tok rfl rfl rfl (by first | exact ⟨trivial, trivial⟩ | (repeat' first | exact trivial | exact rfl | apply And.intro); done | simp [onesP, oneP, lk, Value.oneCell']) ?_
        refine o_store tok rfl rfl rfl (by first | exact ⟨trivial, trivial⟩ | (repeat' first | exact trivial | exact rfl | apply And.intro); done | simp [onesP, oneP, lk, Value.oneCell']) ?_
        refine o_store tok rfl rfl rfl (by first | exact ⟨trivial, trivial⟩ | (repeat' first | exact trivial | exact rfl | apply And.intro); done | simp [onesP, oneP, lk, Value.oneCell']) ?_
        refine o_end [] rfl ?_
        refine q_end (.inl rfl) tok rfl (by repeat (first | exact KeepsIn.zero | refine KeepsIn.succ rfl ?_)) rfl ?_
        exact ⟨_, rfl, fun E w hm => ⟨by rw [rdV, if_neg hz0]; rfl, hm.below (Vw.le.refl _)⟩⟩
      ·
        exact absurd h (by decide)
end Go.Proofs.Ytmjdihpdlfidmaa

/- Transactions: as great as their blocks say; that may be; the same. -/
set_option linter.unusedVariables false
set_option linter.unusedSimpArgs false
set_option maxRecDepth 100000
namespace Go.Proofs.Ytmjdihpdlfidmaa
open Go Go.Eng Go.RowKit

theorem size_c (g : Geo) (ok : g.Ok) (op : Bool) (V : Vw) (a : Option Addr) (m c : Nat) (l : List Block) (w : World) (hV : V.le (vw w)) (hs0 : SlOf V Block.cells 2 (.slice a m c) l) (hn : l.length ≤ 1000) :
    Calls Try.prog 12 #[g.val, txV op a m c] w fun e w' => e = .returned (I (manyOf g l.length)) ∧ Below w.heap.size w w' := by
  have hs := hs0.mono hV
  refine enter (E := E0) (O := []) (nl := 0) (V := vw w) [.a (.v g.val), .a (.v (txV op a m c))] Try.func12 rfl rfl (mem0 E0 0 w) rfl rfl ?_
  refine c_seq ?_
  refine c_region ?_
  refine o_new tok rfl rfl rfl rfl ?_
  refine o_new tok rfl rfl rfl rfl ?_
  refine o_yield rfl rfl rfl (y_val tok rfl) ?_
  refine o_end [2, 3] rfl ?_
  refine x_then ?_
  refine c_seq ?_
  refine c_region ?_
  refine o_yield rfl rfl rfl (y_val tok rfl) ?_
  refine o_yield rfl rfl rfl (y_val tok rfl) ?_
  refine o_yield rfl rfl rfl (y_val tok rfl) ?_
  refine o_yield rfl rfl rfl (y_len tok rfl (fun hg => hs.sl)) ?_
  refine o_call (.a (.v _)) rfl rfl fnok27 rfl rfl rfl (fun hg E w1 hm => by exact many_c g ok _ _) ?_
  refine o_yield rfl rfl rfl (y_val tok rfl) ?_
  refine o_end [4] rfl ?_
  refine x_then ?_
  refine c_ret ?_
  refine b_ret tok rfl ?_
  intro E w' hm _
  refine ⟨?_, hm.below (Vw.le.refl _)⟩
  rfl

theorem same23_c (V : Vw) (op : Bool) (a a2 : Option Addr) (m c m2 c2 : Nat) (l : List Block) (w : World) (hV : V.le (vw w)) (hs0 : SlOf V Block.cells 2 (.slice a m c) l) (ht0 : SlOf V Block.cells 2 (.slice a2 m2 c2) l) (hn : l.length ≤ 1000) :
    Calls Try.prog 17 #[txV op a m c, txV op a2 m2 c2] w fun e w' => e = .returned (.bool true) ∧ Below w.heap.size w w' := by
  have hs := hs0.mono hV
  have ht := ht0.mono hV
  refine enter (E := E0) (O := []) (nl := 0) (V := vw w) [.a (.v (txV op a m c)), .a (.v (txV op a2 m2 c2))] Try.func17 rfl rfl (mem0 E0 0 w) rfl rfl ?_
  refine c_seq ?_
  refine c_region ?_
  refine o_new tok rfl rfl rfl rfl ?_
  refine o_new tok rfl rfl rfl rfl ?_
  refine o_yield rfl rfl rfl (y_val tok rfl) ?_
  refine o_end [2, 3] rfl ?_
  refine x_then ?_
  refine c_seq ?_
  refine c_region ?_
  refine o_yield rfl rfl rfl (y_val tok rfl) ?_
  refine o_yield rfl rfl rfl (y_val tok rfl) ?_
  refine o_yield rfl rfl rfl (y_val tok rfl) ?_
  refine o_yield rfl rfl rfl (y_val tok rfl) ?_
  refine o_yield rfl rfl rfl (y_val tok rfl) ?_
  refine o_yield rfl rfl rfl (y_val tok rfl) ?_
  refine o_yield rfl rfl rfl (y_val tok rfl) ?_
  refine o_yield rfl rfl rfl (y_val tok rfl) ?_
  refine o_yield rfl rfl rfl (y_val tok rfl) ?_
  refine o_yield rfl rfl rfl (y_val tok rfl) ?_
  refine o_call (.a (.v _)) rfl rfl fnok32 rfl rfl rfl (fun hg E w1 hm => by exact sameDr_c (vw w) _ _ l _ hm.leV hs ht (by omega)) ?_
  refine o_yield rfl rfl rfl (y_val tok rfl) ?_
  refine o_yield rfl rfl rfl (y_val tok rfl) ?_
  refine o_end [4] rfl ?_
  refine x_then ?_
  refine c_ret ?_
  refine b_ret tok rfl ?_
  intro E w' hm _
  refine ⟨?_, hm.below (Vw.le.refl _)⟩
  cases op <;> rfl
end Go.Proofs.Ytmjdihpdlfidmaa

/- Transactions, blocks, holds that are too great. -/
set_option linter.unusedVariables false
set_option linter.unusedSimpArgs false
set_option maxRecDepth 100000
namespace Go.Proofs.Ytmjdihpdlfidmaa
open Go Go.Eng Go.RowKit

/-- The texts' sizes of so many blocks, each at most 10000. -/
def sumT (l : List Block) : Nat → Int
  | 0 => 0
  | k + 1 => sumT l k + min ((blkD l k).text.size : Int) 10000
where blkD (l : List Block) (k : Nat) : Block := (l[k]?).getD ⟨0, ByteArray.empty⟩

theorem sumT_le (l : List Block) : ∀ k, 0 ≤ sumT l k ∧ sumT l k ≤ 10000 * (k : Int)
  | 0 => by simp [sumT]
  | k + 1 => by
    have := sumT_le l k
    rw [sumT]
    omega

def great23 (l pl : List Block) (nh : Nat) : Bool :=
  decide (100 < l.length) || decide (100 < pl.length) || decide (60000 < sumT l l.length + sumT pl pl.length) || decide (100 < (nh : Int))

theorem great23_c (V : Vw) (op : Bool) (a : Option Addr) (m c : Nat) (l : List Block) (pa : Option Addr) (pm pc : Nat) (pl : List Block) (ha : Option Addr) (hm_ hc : Nat) (hl : List Hold) (w : World) (hV : V.le (vw w))
    (hs0 : SlOf V Block.cells 2 (.slice a m c) l) (hp0 : SlOf V Block.cells 2 (.slice pa pm pc) pl) (hh0 : SlOf V Hold.cells 4 (.slice ha hm_ hc) hl) :
    Calls Try.prog 5 #[txV op a m c, .slice pa pm pc, .slice ha hm_ hc] w fun e w' => e = .returned (.bool (great23 l pl hl.length)) ∧ Below w.heap.size w w' := by
  have hs := hs0.mono hV
  have hp := hp0.mono hV
  have hh := hh0.mono hV
  refine enter (E := E0) (O := []) (nl := 0) (V := vw w) [.a (.v (txV op a m c)), .a (.v (.slice pa pm pc)), .a (.v (.slice ha hm_ hc))] Try.func5 rfl rfl (mem0 E0 0 w) rfl rfl ?_
  refine c_seq ?_
  refine c_region ?_
  refine o_new tok rfl rfl rfl rfl ?_
  refine o_yield rfl rfl rfl (y_val tok rfl) ?_
  refine o_end [1, 2, 3] rfl ?_
  refine x_then ?_
  refine c_seq ?_
  refine c_region ?_
  refine o_yield rfl rfl rfl (y_val tok rfl) ?_
  refine o_end [1, 2, 3, 7] rfl ?_
  refine x_then ?_
  refine c_seq ?_
  refine c_seq ?_
  refine c_region ?_
  refine o_yield rfl rfl rfl (y_val tok rfl) ?_
  refine o_yield rfl rfl rfl (y_val tok rfl) ?_
  refine o_yield rfl rfl rfl (y_val tok rfl) ?_
  refine o_bs tok rfl rfl rfl rfl (fun b3 W1 hlw1 hb3 => ?_)
  have hsx : SlOf W1 Sl.enc 1 (.slice (some ⟨b3, 0, none⟩) 2 2) [(⟨.slice a m c, l⟩ : Sl Block), ⟨.slice pa pm pc, pl⟩] := SlOf.ofBlock (enc := Sl.enc) (sz := 1) (l := [(⟨.slice a m c, l⟩ : Sl Block), ⟨.slice pa pm pc, pl⟩]) (hb3 rfl) rfl (fun _ => rfl) (Nat.le_refl _)
  refine o_yield rfl rfl rfl (y_len tok rfl (fun hg => hsx.sl)) ?_
  refine o_yield rfl rfl rfl (y_val tok rfl) ?_
  refine o_end [2, 7, 14, 15, 16] rfl ?_
  refine x_then ?_
  refine c_block ?_
  refine c_loopK [2, 14, 15] [] rfl rfl (σ := Nat) (fun i => [(7, .a (.v (I (if i = 0 then 0 else if i = 1 then sumT l l.length else sumT l l.length + sumT pl pl.length)))), (16, .a (.v (I i)))]) (fun i => []) (fun i => i ≤ 2 ∧ (1 ≤ i → l.length ≤ 100) ∧ (2 ≤ i → pl.length ≤ 100)) (fun i => 2 - i) (0) (⟨by omega, by omega, by omega⟩) (by repeat (first | exact SubF.nil | refine SubF.cons rfl ?_)) (by repeat (first | exact SubO.nil | refine SubO.cons rfl ?_)) rfl ?_
  rintro i ⟨hi, h1, h2⟩
  refine c_seq ?_
  refine c_region ?_
  refine o_yield rfl rfl rfl (y_val tok rfl) ?_
  refine o_end [2, 7, 14, 15, 16, 17] rfl ?_
  refine x_then ?_
  refine c_seq ?_
  refine c_cond rfl (fun h => ?_) (fun h => ?_)
  ·
    simp only [Bool.and_eq_true, Bool.or_eq_true, Bool.not_eq_true', Bool.or_eq_false_iff, Bool.and_eq_false_iff, decide_eq_true_eq, decide_eq_false_iff_not, beq_iff_eq, bne_iff_ne, Bool.not_eq_false', beq_eq_false_iff_ne, bne_eq_false_iff_eq, ne_eq, Decidable.not_not, Int.not_lt, Int.not_le] at h
    have hi2 : i < 2 := by simp at h; omega
    clear h
    have hwi : IntKind.i64.wrap ((i : Int) + 1) = ((i + 1 : Nat) : Int) := wrapI (by omega) (by omega)
    obtain ⟨x, h_x⟩ := hsx.at (k := i) (by simpa using hi2)
    have hxs : SlOf W1 Block.cells 2 x.v x.l := by
      match i, h_x with
      | 0, h_x => cases h_x; exact hs.mono hlw1
      | 1, h_x => cases h_x; exact hp.mono hlw1
    have hsb := sumT_le l l.length
    obtain ⟨n0, hn0, hb0, hb1⟩ : ∃ n0 : Int, (if i = 0 then 0 else if i = 1 then sumT l l.length else sumT l l.length + sumT pl pl.length) = n0 ∧ 0 ≤ n0 ∧ n0 ≤ 1000000 := by
      refine ⟨_, rfl, ?_⟩
      match i, hi2 with
      | 0, _ => simp
      | 1, _ => have := h1 (by omega); simp only [if_neg (show ¬ 1 = 0 by omega), if_pos]; omega
    rw [hn0]
    have e0 : n0 + sumT x.l 0 = n0 := by simp [sumT]
    obtain ⟨xa, xn, xc, hxv⟩ := sl_shape hxs.sl
    refine c_skip ?_
    refine x_then ?_
    refine c_seq ?_
    refine c_block ?_
    refine c_seq ?_
    refine c_region ?_
    have hlt_x := lt_of_at h_x
    refine o_yield rfl rfl rfl (y_idx tok rfl (fun hg => hsx.sl) (fun hg => ⟨by omega, by omega⟩)) ?_
    refine o_yield rfl rfl rfl (y_lel tok (i) 0 (x) rfl (fun hg => hsx) (fun hg => h_x) rfl rfl) ?_
    refine o_yield rfl rfl rfl (y_val tok rfl) ?_
    refine o_end [2, 7, 9, 14, 15, 16] rfl ?_
    refine x_then ?_
    refine c_seq ?_
    refine c_seq ?_
    refine c_region ?_
    refine o_yield rfl rfl rfl (y_val tok rfl) ?_
    refine o_end [2, 7, 9, 10, 14, 15, 16] rfl ?_
    refine x_then ?_
    refine c_block ?_
    refine c_loopK [2, 14, 15, 16] [] rfl rfl (σ := Nat) (fun k => [(7, .a (.v (I (n0 + sumT x.l k)))), (9, .a (.v x.v)), (10, .a (.v (I k)))]) (fun k => []) (fun k => k ≤ x.l.length ∧ k ≤ 101) (fun k => x.l.length - k) (0) (⟨by omega, by omega⟩) (by repeat (first | exact SubF.nil | refine SubF.cons rfl ?_ | refine SubF.cons (by simp only [e0]; first | done | rfl) ?_)) (by repeat (first | exact SubO.nil | refine SubO.cons rfl ?_ | refine SubO.cons (by simp only [e0]; first | done | rfl) ?_)) rfl ?_
    rintro k ⟨hk, hk1⟩
    refine c_seq ?_
    refine c_seq ?_
    refine c_region ?_
    refine o_yield rfl rfl rfl (y_val tok rfl) ?_
    refine o_yield rfl rfl rfl (y_val tok rfl) ?_
    refine o_yield rfl rfl rfl (y_len tok rfl (fun hg => hxs.sl)) ?_
    refine o_yield rfl rfl rfl (y_val tok rfl) ?_
    refine o_yield rfl rfl rfl (y_val tok rfl) ?_
    refine o_yield rfl rfl rfl (y_val tok rfl) ?_
    refine o_yield rfl rfl rfl (y_val tok rfl) ?_
    refine o_yield rfl rfl rfl (y_val tok rfl) ?_
    refine o_end [2, 7, 9, 10, 14, 15, 16, 27] rfl ?_
    refine x_then ?_
    refine c_cond rfl (fun h => ?_) (fun h => ?_)
    ·
      have hlt : k < x.l.length ∧ k ≤ 100 := by simp at h; omega
      clear h
      obtain ⟨y, h_y⟩ := hxs.at (k := k) hlt.1
      have hst : sumT x.l (k + 1) = sumT x.l k + min (y.text.size : Int) 10000 := by rw [sumT, sumT.blkD, h_y]; rfl
      have hsk := sumT_le x.l k
      have hwk : IntKind.i64.wrap ((k : Int) + 1) = ((k + 1 : Nat) : Int) := wrapI (by omega) (by omega)
      have hwn : IntKind.i64.wrap (n0 + sumT x.l k + (bif false then max (y.text.size : Int) 10000 else min (y.text.size : Int) 10000)) = n0 + sumT x.l (k + 1) := by
        show IntKind.i64.wrap (n0 + sumT x.l k + min (y.text.size : Int) 10000) = _
        rw [wrapI (by omega) (by omega), hst]
        omega
      refine c_skip ?_
      refine x_then ?_
      refine c_seq ?_
      refine c_block ?_
      refine c_region ?_
      refine o_yield rfl rfl rfl (y_val tok rfl) ?_
      refine o_yield rfl rfl rfl (y_val tok rfl) ?_
      refine o_yield rfl rfl rfl (y_val tok rfl) ?_
      have hlt_y := lt_of_at h_y
      refine o_yield rfl rfl rfl (y_idx tok rfl (fun hg => hxs.sl) (fun hg => ⟨by omega, by omega⟩)) ?_
      refine o_yield rfl rfl rfl (y_fel tok rfl (fun hg => hxs.sl) (fun hg => by omega)) ?_
      refine o_yield rfl rfl rfl (y_lel tok (k) 1 (y) rfl (fun hg => hxs) (fun hg => h_y) rfl rfl) ?_
      refine o_yield rfl rfl rfl (y_val tok rfl) ?_
      refine o_yield rfl rfl rfl (y_mm rfl) ?_
      refine o_yield rfl rfl rfl (y_val tok rfl) ?_
      refine o_yield rfl rfl rfl (y_val tok rfl) ?_
      refine o_end [2, 7, 9, 10, 14, 15, 16] rfl ?_
      refine x_block ?_
      refine x_then ?_
      refine c_region ?_
      refine o_yield rfl rfl rfl (y_val tok rfl) ?_
      refine o_yield rfl rfl rfl (y_val tok rfl) ?_
      refine o_yield rfl rfl rfl (y_val tok rfl) ?_
      refine o_end [2, 7, 9, 10, 14, 15, 16] rfl ?_
      refine x_then ?_
      rw [hwn, hwk]
      refine x_round (k + 1) (⟨by omega, by omega⟩) (by first | omega | (dsimp only; omega)) (by repeat (first | exact SubF.nil | refine SubF.cons rfl ?_)) (by repeat (first | exact SubO.nil | refine SubO.cons rfl ?_)) rfl (Vw.le.refl _)
    ·
      have hke : k = x.l.length ∨ (k = 101 ∧ 101 ≤ x.l.length) := by
        simp at h
        omega
      clear h
      refine c_exit ?_
      refine x_then_exit ?_
      refine x_then_exit ?_
      refine x_block_hit ?_
      refine x_then ?_
      refine c_seq ?_
      refine c_region ?_
      refine o_yield rfl rfl rfl (y_val tok rfl) ?_
      refine o_yield rfl rfl rfl (y_len tok rfl (fun hg => hxs.sl)) ?_
      refine o_yield rfl rfl rfl (y_val tok rfl) ?_
      refine o_end [2, 7, 14, 15, 16, 41] rfl ?_
      refine x_then ?_
      refine c_cond rfl (fun h => ?_) (fun h => ?_)
      ·
        simp only [Bool.and_eq_true, Bool.or_eq_true, Bool.not_eq_true', Bool.or_eq_false_iff, Bool.and_eq_false_iff, decide_eq_true_eq, decide_eq_false_iff_not, beq_iff_eq, bne_iff_ne, Bool.not_eq_false', beq_eq_false_iff_ne, bne_eq_false_iff_eq, ne_eq, Decidable.not_not, Int.not_lt, Int.not_le] at h
        refine c_seq ?_
        refine c_region ?_
        refine o_yield rfl rfl rfl (y_val tok rfl) ?_
        refine o_end [6] rfl ?_
        refine x_then ?_
        refine c_ret ?_
        refine x_block_ret ?_
        refine x_then_ret ?_
        refine x_then_ret ?_
        refine x_block_ret ?_
        refine x_then_ret ?_
        refine b_ret tok rfl ?_
        intro E w' hm _
        refine ⟨?_, hm.below (hlw1)⟩
        have hg : great23 l pl hl.length = true := by
          rw [great23]
          match i, h_x with
          | 0, h_x => cases h_x; dsimp only at h; simp; omega
          | 1, h_x => cases h_x; dsimp only at h; simp; omega
        rw [hg]
        rfl
      ·
        simp only [Bool.and_eq_true, Bool.or_eq_true, Bool.not_eq_true', Bool.or_eq_false_iff, Bool.and_eq_false_iff, decide_eq_true_eq, decide_eq_false_iff_not, beq_iff_eq, bne_iff_ne, Bool.not_eq_false', beq_eq_false_iff_ne, bne_eq_false_iff_eq, ne_eq, Decidable.not_not, Int.not_lt, Int.not_le] at h
        refine c_skip ?_
        refine x_block ?_
        refine x_then ?_
        refine c_region ?_
        refine o_yield rfl rfl rfl (y_val tok rfl) ?_
        refine o_yield rfl rfl rfl (y_val tok rfl) ?_
        refine o_end [2, 7, 14, 15, 16] rfl ?_
        refine x_then ?_
        have hkl : k = x.l.length := by omega
        have hnx : n0 + sumT x.l k = (if i + 1 = 0 then 0 else if i + 1 = 1 then sumT l l.length else sumT l l.length + sumT pl pl.length) := by
          rw [hkl, ← hn0]
          match i, h_x with
          | 0, h_x => cases h_x; simp
          | 1, h_x => cases h_x; simp
        rw [hwi, hnx]
        have hq1 : 1 ≤ i + 1 → l.length ≤ 100 := fun _ => by
          match i, h_x with
          | 0, h_x => cases h_x; dsimp only at h; omega
          | 1, h_x => exact h1 (by omega)
        have hq2 : 2 ≤ i + 1 → pl.length ≤ 100 := fun hq => by
          match i, h_x with
          | 0, h_x => omega
          | 1, h_x => cases h_x; dsimp only at h; omega
        refine x_round (i + 1) (⟨by omega, hq1, hq2⟩) (by first | omega | (dsimp only; omega)) (by repeat (first | exact SubF.nil | refine SubF.cons rfl ?_)) (by repeat (first | exact SubO.nil | refine SubO.cons rfl ?_)) rfl (Vw.le.refl _)
  ·
    simp only [Bool.and_eq_true, Bool.or_eq_true, Bool.not_eq_true', Bool.or_eq_false_iff, Bool.and_eq_false_iff, decide_eq_true_eq, decide_eq_false_iff_not, beq_iff_eq, bne_iff_ne, Bool.not_eq_false', beq_eq_false_iff_ne, bne_eq_false_iff_eq, ne_eq, Decidable.not_not, Int.not_lt, Int.not_le] at h
    have hi2 : i = 2 := by simp at h; omega
    subst hi2
    have hl1 := h1 (by omega)
    have hl2 := h2 (by omega)
    clear h
    rw [if_neg (show ¬ (2 : Nat) = 0 by omega), if_neg (show ¬ (2 : Nat) = 1 by omega)]
    refine c_exit ?_
    refine x_then_exit ?_
    refine x_then_exit ?_
    refine x_block_hit ?_
    refine x_then ?_
    refine c_seq ?_
    refine c_region ?_
    refine o_yield rfl rfl rfl (y_val tok rfl) ?_
    refine o_yield rfl rfl rfl (y_val tok rfl) ?_
    refine o_yield rfl rfl rfl (y_val tok rfl) ?_
    refine o_yield rfl rfl rfl (y_val tok rfl) ?_
    refine o_yield rfl rfl rfl (y_len tok rfl (fun hg => (hh.mono hlw1).sl)) ?_
    refine o_yield rfl rfl rfl (y_val tok rfl) ?_
    refine o_yield rfl rfl rfl (y_val tok rfl) ?_
    refine o_yield rfl rfl rfl (y_val tok rfl) ?_
    refine o_end [6] rfl ?_
    refine x_then ?_
    refine c_ret ?_
    refine b_ret tok rfl ?_
    intro E w' hm _
    refine ⟨?_, hm.below (hlw1)⟩
    rw [great23, decide_eq_false (show ¬ 100 < l.length by omega), decide_eq_false (show ¬ 100 < pl.length by omega)]
    simp
    rfl
end Go.Proofs.Ytmjdihpdlfidmaa

/- Whether a transaction may be; what the document says of a hold. -/
set_option linter.unusedVariables false
set_option linter.unusedSimpArgs false
set_option maxRecDepth 100000
namespace Go.Proofs.Ytmjdihpdlfidmaa
open Go Go.Eng Go.RowKit

theorem dmay_c (V : Vw) (g : Geo) (ok : g.Ok) (op : Bool) (a : Option Addr) (m c : Nat) (l : List Block) (w : World) (hV : V.le (vw w)) (hs0 : SlOf V Block.cells 2 (.slice a m c) l) (hn : l.length ≤ maxLen) :
    Calls Try.prog 19 #[g.val, txV op a m c] w fun e w' => e = .returned (.bool ((op || decide ((l.length : Int) = 0)) && mayL g l)) ∧ Below w.heap.size w w' := by
  have hs := hs0.mono hV
  refine enter (E := E0) (O := []) (nl := 0) (V := vw w) [.a (.v g.val), .a (.v (txV op a m c))] Try.func19 rfl rfl (mem0 E0 0 w) rfl rfl ?_
  refine c_seq ?_
  refine c_region ?_
  refine o_new tok rfl rfl rfl rfl ?_
  refine o_new tok rfl rfl rfl rfl ?_
  refine o_yield rfl rfl rfl (y_val tok rfl) ?_
  refine o_end [2, 3] rfl ?_
  refine x_then ?_
  refine c_seq ?_
  refine c_region ?_
  refine o_yield rfl rfl rfl (y_val tok rfl) ?_
  refine o_yield rfl rfl rfl (y_val tok rfl) ?_
  refine o_yield rfl rfl rfl (y_val tok rfl) ?_
  refine o_yield rfl rfl rfl (y_val tok rfl) ?_
  refine o_yield rfl rfl rfl (y_val tok rfl) ?_
  refine o_yield rfl rfl rfl (y_len tok rfl (fun hg => hs.sl)) ?_
  refine o_yield rfl rfl rfl (y_val tok rfl) ?_
  refine o_yield rfl rfl rfl (y_val tok rfl) ?_
  refine o_yield rfl rfl rfl (y_val tok rfl) ?_
  refine o_yield rfl rfl rfl (y_val tok rfl) ?_
  refine o_yield rfl rfl rfl (y_val tok rfl) ?_
  refine o_yield rfl rfl rfl (y_val tok rfl) ?_
  refine o_call (.a (.v _)) rfl rfl fnok33 rfl rfl rfl (fun hg E w1 hm => by exact bmay_c (vw w) g ok _ l _ hm.leV hs hn) ?_
  refine o_yield rfl rfl rfl (y_val tok rfl) ?_
  refine o_yield rfl rfl rfl (y_val tok rfl) ?_
  refine o_end [4] rfl ?_
  refine x_then ?_
  refine c_ret ?_
  refine b_ret tok rfl ?_
  intro E w' hm _
  refine ⟨?_, hm.below (Vw.le.refl _)⟩
  rfl

theorem write_cV (V : Vw) (g : Geo) (ok : g.Ok) (op : Bool) (a : Option Addr) (m c : Nat) (l : List Block) (key n : Int) (text : ByteArray) (ha : Option Addr) (hm_ hc : Nat) (hl : List Hold) (w : World) (hV : V.le (vw w))
    (hs0 : SlOf V Block.cells 2 (.slice a m c) l) (hh0 : SlOf V Hold.cells 4 (.slice ha hm_ hc) hl) (hn : l.length ≤ 1000) (hhn : hl.length ≤ 1000) (hok : wrE g op hl key n text = 0) :
    Calls Try.prog 15 #[g.val, txV op a m c, I key, I n, S text, .slice ha hm_ hc] w fun e w' => ∃ v V', e = .returned v ∧ Below w.heap.size w w' ∧ Vext w.heap.size V V' w' ∧ ∃ a n' c, v = .tuple #[txV true a n' c, I 0] ∧ SlOf V' Block.cells 2 (.slice a n' c) (putP l [⟨n, text⟩]) := by
  refine (write_c V g ok op a m c l key n text ha hm_ hc hl w hV hs0 hh0 hn hhn).mono ?_
  rintro e w' ⟨⟨h, _⟩ | ⟨_, v, rfl, hrow⟩, hb⟩
  · exact absurd hok h
  · obtain ⟨V', hx, hsl⟩ := ownsRow_vext hV hb hrow
    obtain ⟨a', n', c', rfl⟩ := sl_shape hsl
    exact ⟨_, V', rfl, hb, hx, a', n', c', rfl, hsl, fun _ => rfl⟩

theorem write_no (V : Vw) (g : Geo) (ok : g.Ok) (op : Bool) (a : Option Addr) (m c : Nat) (l : List Block) (key n : Int) (text : ByteArray) (ha : Option Addr) (hm_ hc : Nat) (hl : List Hold) (w : World) (hV : V.le (vw w))
    (hs0 : SlOf V Block.cells 2 (.slice a m c) l) (hh0 : SlOf V Hold.cells 4 (.slice ha hm_ hc) hl) (hn : l.length ≤ 1000) (hhn : hl.length ≤ 1000) (hno : wrE g op hl key n text ≠ 0) :
    Calls Try.prog 15 #[g.val, txV op a m c, I key, I n, S text, .slice ha hm_ hc] w fun e w' => e = .returned (.tuple #[txV op a m c, I (wrE g op hl key n text)]) ∧ Below w.heap.size w w' := by
  refine (write_c V g ok op a m c l key n text ha hm_ hc hl w hV hs0 hh0 hn hhn).mono ?_
  rintro e w' ⟨⟨_, h⟩ | ⟨h, _⟩, hb⟩
  · exact ⟨h, hb⟩
  · exact absurd h hno
end Go.Proofs.Ytmjdihpdlfidmaa

/- What the document says of a hold in the wrong mode, and of what was written. -/
set_option linter.unusedVariables false
set_option linter.unusedSimpArgs false
set_option maxRecDepth 100000
namespace Go.Proofs.Ytmjdihpdlfidmaa
open Go Go.Eng Go.RowKit

abbrev geo23 : Geo := ⟨1, 1, 3, 1, 4, 8, 1, 2⟩
theorem geo23_ok : geo23.Ok := by
  refine ⟨?_, ?_, ?_, ?_, ?_, ?_, ?_, ?_⟩ <;> simp [R64]
abbrev ho1 : Hold := ⟨16, 0, 2, 1⟩
abbrev ho2 : Hold := ⟨16, 0, 2, 2⟩
abbrev txa : ByteArray := ⟨#[97]⟩

theorem wakes23_c (w : World) : Calls Try.prog 8 #[] w fun e w' => e = .returned (.bool true) ∧ Below w.heap.size w w' := by
  have hnil : ∀ V : Vw, SlOf V Block.cells 2 (.slice none 0 0) [] := fun V => slNil _ _ _ _ (fun _ => rfl)
  refine enter (E := E0) (O := []) (nl := 0) (V := vw w) [] Try.func8 rfl rfl (mem0 E0 0 w) rfl rfl ?_
  refine c_seq ?_
  refine c_region ?_
  refine o_yield rfl rfl rfl (y_val tok rfl) ?_
  refine o_end [] rfl ?_
  refine x_then ?_
  refine c_seq ?_
  refine c_region ?_
  refine o_yield rfl rfl rfl (y_val tok rfl) ?_
  refine o_new tok rfl rfl rfl rfl ?_
  refine o_store tok rfl rfl rfl (by first | exact ⟨trivial, trivial⟩ | (repeat' first | exact trivial | exact rfl | apply And.intro); done | simp [onesP, oneP, lk, Value.oneCell']) ?_
  refine o_end [1] rfl ?_
  refine x_then ?_
  refine c_seq ?_
  refine c_region ?_
  refine o_yield rfl rfl rfl (y_val tok rfl) ?_
  refine o_yield rfl rfl rfl (y_val tok rfl) ?_
  refine o_new tok rfl rfl rfl rfl ?_
  refine o_store tok rfl rfl rfl (by first | exact ⟨trivial, trivial⟩ | (repeat' first | exact trivial | exact rfl | apply And.intro); done | simp [onesP, oneP, lk, Value.oneCell']) ?_
  refine o_end [1, 2] rfl ?_
  refine x_then ?_
  refine c_seq ?_
  refine c_region ?_
  refine o_yield rfl rfl rfl (y_val tok rfl) ?_
  refine o_call (.a (.v _)) rfl rfl fnok11 rfl rfl rfl (fun hg E w1 hm => by exact open_c false none 0 0 _) ?_
  refine o_yield rfl rfl rfl (y_val tok rfl) ?_
  refine o_yield rfl rfl rfl (y_val tok rfl) ?_
  refine o_yield rfl rfl rfl (y_val tok rfl) ?_
  refine o_new tok rfl rfl rfl rfl ?_
  refine o_store tok rfl rfl rfl (by first | exact ⟨trivial, trivial⟩ | (repeat' first | exact trivial | exact rfl | apply And.intro); done | simp [onesP, oneP, lk, Value.oneCell']) ?_
  refine o_yield rfl rfl rfl (y_val tok rfl) ?_
  refine o_end [1, 2, 3, 4] rfl ?_
  refine x_then ?_
  refine c_seq ?_
  refine c_region ?_
  refine o_yield rfl rfl rfl (y_val tok rfl) ?_
  refine o_yield rfl rfl rfl (y_val tok rfl) ?_
  refine o_yield rfl rfl rfl (y_val tok rfl) ?_
  refine o_bs tok rfl rfl rfl rfl (fun b1 W1 hlw1 hb1 => ?_)
  have hs1 : SlOf W1 Hold.cells 4 (.slice (some ⟨b1, 0, none⟩) 1 1) [ho1] := SlOf.ofBlock (enc := Hold.cells) (sz := 4) (l := [ho1]) (hb1 rfl) rfl (fun _ => rfl) (Nat.le_refl _)
  refine o_call (.a (.v _)) rfl rfl fnok15 rfl rfl rfl (fun hg E w1 hm => by exact write_no W1 geo23 geo23_ok true none 0 0 [] 16 1 txa _ _ _ [ho1] _ hm.leV (hnil _) hs1 (by simp) (by simp) (by decide)) ?_
  refine o_yield rfl rfl rfl (y_val tok rfl) ?_
  refine o_yield rfl rfl rfl (y_val tok rfl) ?_
  refine o_yield rfl rfl rfl (y_val tok rfl) ?_
  refine o_new tok rfl rfl rfl rfl ?_
  refine o_store tok rfl rfl rfl (by first | exact ⟨trivial, trivial⟩ | (repeat' first | exact trivial | exact rfl | apply And.intro); done | simp [onesP, oneP, lk, Value.oneCell']) ?_
  refine o_yield rfl rfl rfl (y_val tok rfl) ?_
  refine o_end [1, 2, 3, 4, 6] rfl ?_
  refine x_then ?_
  refine c_seq ?_
  refine c_region ?_
  refine o_yield rfl rfl rfl (y_val tok rfl) ?_
  refine o_store tok rfl rfl rfl (by first | exact ⟨trivial, trivial⟩ | (repeat' first | exact trivial | exact rfl | apply And.intro); done | simp [onesP, oneP, lk, Value.oneCell']) ?_
  refine o_end [1, 2, 3, 4, 6] rfl ?_
  refine x_then ?_
  refine c_seq ?_
  refine c_region ?_
  refine o_yield rfl rfl rfl (y_val tok rfl) ?_
  refine o_yield rfl rfl rfl (y_val tok rfl) ?_
  refine o_yield rfl rfl rfl (y_val tok rfl) ?_
  refine o_bs tok rfl rfl rfl rfl (fun b2 W2 hlw2 hb2 => ?_)
  have hs2 : SlOf W2 Hold.cells 4 (.slice (some ⟨b2, 0, none⟩) 1 1) [ho2] := SlOf.ofBlock (enc := Hold.cells) (sz := 4) (l := [ho2]) (hb2 rfl) rfl (fun _ => rfl) (Nat.le_refl _)
  refine o_callV (fun v V' => ∃ a n' c, v = .tuple #[txV true a n' c, I 0] ∧ SlOf V' Block.cells 2 (.slice a n' c) (putP [] [⟨1, txa⟩])) rfl rfl fnok15 rfl rfl (fun hg E w1 hm => by exact write_cV W2 geo23 geo23_ok true none 0 0 [] 16 1 txa _ _ _ [ho2] _ hm.leV (hnil _) hs2 (by simp) (by simp) (by decide)) ?_
  rintro v W3 hlw3 hv
  obtain ⟨a, m, c, rfl, hs3⟩ := hv rfl
  clear hv
  refine o_yield rfl rfl rfl (y_val tok rfl) ?_
  refine o_yield rfl rfl rfl (y_val tok rfl) ?_
  refine o_yield rfl rfl rfl (y_val tok rfl) ?_
  refine o_new tok rfl rfl rfl rfl ?_
  refine o_store tok rfl rfl rfl (by first | exact ⟨trivial, trivial⟩ | (repeat' first | exact trivial | exact rfl | apply And.intro); done | simp [onesP, oneP, lk, Value.oneCell']) ?_
  refine o_yield rfl rfl rfl (y_val tok rfl) ?_
  refine o_end [1, 2, 3, 4, 6, 7, 8] rfl ?_
  refine x_then ?_
  refine c_seq ?_
  refine c_region ?_
  refine o_yield rfl rfl rfl (y_val tok rfl) ?_
  refine o_yield rfl rfl rfl (y_val tok rfl) ?_
  refine o_yield rfl rfl rfl (y_val tok rfl) ?_
  refine o_bs tok rfl rfl rfl rfl (fun b3 W4 hlw4 hb4 => ?_)
  have hs4 : SlOf W4 Hold.cells 4 (.slice (some ⟨b3, 0, none⟩) 1 1) [ho2] := SlOf.ofBlock (enc := Hold.cells) (sz := 4) (l := [ho2]) (hb4 rfl) rfl (fun _ => rfl) (Nat.le_refl _)
  refine o_call (.a (.v _)) rfl rfl fnok9 rfl rfl rfl (fun hg E w1 hm => by exact read_c W4 geo23 geo23_ok true a m c _ 16 1 none 0 0 [] _ _ _ [ho2] _ hm.leV (hs3.mono hlw4) (hnil _) hs4 (by decide) (by simp) (by simp)) ?_
  refine o_yield rfl rfl rfl (y_val tok rfl) ?_
  refine o_yield rfl rfl rfl (y_val tok rfl) ?_
  refine o_yield rfl rfl rfl (y_val tok rfl) ?_
  refine o_yield rfl rfl rfl (y_val tok rfl) ?_
  refine o_yield rfl rfl rfl (y_val tok rfl) ?_
  refine o_yield rfl rfl rfl (y_val tok rfl) ?_
  refine o_yield rfl rfl rfl (y_val tok rfl) ?_
  refine o_end [1, 3, 4, 6, 7, 8, 9, 10, 11] rfl ?_
  refine x_then ?_
  refine c_seq ?_
  refine c_region ?_
  refine o_yield rfl rfl rfl (y_val tok rfl) ?_
  refine o_yield rfl rfl rfl (y_val tok rfl) ?_
  refine o_yield rfl rfl rfl (y_val tok rfl) ?_
  refine o_yield rfl rfl rfl (y_val tok rfl) ?_
  refine o_yield rfl rfl rfl (y_val tok rfl) ?_
  refine o_yield rfl rfl rfl (y_val tok rfl) ?_
  refine o_yield rfl rfl rfl (y_val tok rfl) ?_
  refine o_yield rfl rfl rfl (y_val tok rfl) ?_
  refine o_yield rfl rfl rfl (y_val tok rfl) ?_
  refine o_yield rfl rfl rfl (y_val tok rfl) ?_
  refine o_yield rfl rfl rfl (y_val tok rfl) ?_
  refine o_yield rfl rfl rfl (y_val tok rfl) ?_
  refine o_yield rfl rfl rfl (y_val tok rfl) ?_
  refine o_yield rfl rfl rfl (y_val tok rfl) ?_
  refine o_yield rfl rfl rfl (y_val tok rfl) ?_
  refine o_yield rfl rfl rfl (y_val tok rfl) ?_
  refine o_yield rfl rfl rfl (y_val tok rfl) ?_
  refine o_yield rfl rfl rfl (y_val tok rfl) ?_
  refine o_yield rfl rfl rfl (y_val tok rfl) ?_
  refine o_yield rfl rfl rfl (y_val tok rfl) ?_
  refine o_yield rfl rfl rfl (y_val tok rfl) ?_
  refine o_yield rfl rfl rfl (y_val tok rfl) ?_
  refine o_yield rfl rfl rfl (y_val tok rfl) ?_
  refine o_yield rfl rfl rfl (y_val tok rfl) ?_
  refine o_yield rfl rfl rfl (y_val tok rfl) ?_
  refine o_yield rfl rfl rfl (y_val tok rfl) ?_
  refine o_yield rfl rfl rfl (y_val tok rfl) ?_
  refine o_yield rfl rfl rfl (y_val tok rfl) ?_
  refine o_call (.a (.v _)) rfl rfl fnok12 rfl rfl rfl (fun hg E w1 hm => by exact size_c geo23 geo23_ok true W4 a m c _ _ hm.leV (hs3.mono hlw4) (by decide)) ?_
  refine o_yield rfl rfl rfl (y_val tok rfl) ?_
  refine o_yield rfl rfl rfl (y_val tok rfl) ?_
  refine o_yield rfl rfl rfl (y_val tok rfl) ?_
  refine o_end [0] rfl ?_
  refine x_then ?_
  refine c_ret ?_
  refine b_ret tok rfl ?_
  intro E w' hm _
  refine ⟨?_, hm.below ((hlw1.trans (hlw2.trans (hlw3.trans hlw4))))⟩
  have k1 : knownB [(⟨.slice a m c, putP [] [⟨1, txa⟩]⟩ : Sl Block), ⟨.slice none 0 0, []⟩] 1 = (txa, true) := by rfl
  have k2 : wrE geo23 true [ho1] 16 1 txa = 250 := by decide
  have k3 : manyOf geo23 ((putP [] [(⟨1, txa⟩ : Block)]).length : Int) = 2 := by decide
  rw [k1, k2, k3]
  have k4 : (txa.toList == ({ data := #[97] } : ByteArray).toList) = true := beq_iff_eq.mpr rfl
  simp only [k4]
  rfl
end Go.Proofs.Ytmjdihpdlfidmaa

/- What is read behind a merge: the plain law. -/
set_option linter.unusedVariables false
set_option linter.unusedSimpArgs false
set_option maxRecDepth 100000
namespace Go.Proofs.Ytmjdihpdlfidmaa
open Go Go.Eng Go.RowKit

def optG (l : List Block) (n : Int) : Option ByteArray := if (getB l n).2 = true then some (getB l n).1 else none

theorem optG_cons (b : Block) (r : List Block) (n : Int) : optG (b :: r) n = if b.n = n then some b.text else optG r n := by
  rw [optG, getB]
  by_cases h : b.n = n
  · rw [if_pos h, if_pos h]; rfl
  · rw [if_neg h, if_neg h]; rfl

theorem optG_low {g : Geo} {n : Int} : ∀ (l : List Block) (last : Int), mayF g last l = true → n ≤ last → optG l n = none
  | [], _, _, _ => rfl
  | b :: r, last, h, hn => by
    obtain ⟨⟨h1, _⟩, h2⟩ := mayF_cons.1 h
    rw [optG_cons, if_neg (by omega)]
    exact optG_low r b.n h2 (by omega)

theorem known_two (v v' : Value) (l p : List Block) (n : Int) : knownB [⟨v, l⟩, ⟨v', p⟩] n = (match optG l n with | some t => (t, true) | none => (match optG p n with | some t => (t, true) | none => (ByteArray.empty, false))) := by
  simp only [knownB, optG]
  by_cases h1 : (getB l n).2 = true
  · rw [if_pos h1, if_pos h1]
  · rw [if_neg h1, if_neg h1]
    dsimp only
    by_cases h2 : (getB p n).2 = true
    · rw [if_pos h2, if_pos h2]
    · rw [if_neg h2, if_neg h2]

end Go.Proofs.Ytmjdihpdlfidmaa

/- The law DriftEnds. -/
set_option linter.unusedVariables false
set_option linter.unusedSimpArgs false
set_option maxRecDepth 100000
namespace Go.Proofs.Ytmjdihpdlfidmaa
open Go Go.Eng Go.RowKit

end Go.Proofs.Ytmjdihpdlfidmaa

/- Which writes and reads are let in: plain. -/
set_option linter.unusedVariables false
set_option linter.unusedSimpArgs false
set_option maxRecDepth 100000
namespace Go.Proofs.Ytmjdihpdlfidmaa
open Go Go.Eng Go.RowKit

theorem data_iff {g : Geo} (h : geoB g = true) (n : Int) : 0 ≤ dataV g n 0 ↔ 0 ≤ n ∧ n < g.blocks := by
  have hf := geo_facts h
  constructor
  · intro h0
    rw [dataV] at h0
    split at h0
    · rename_i hc; exact ⟨hc.2.1, hc.2.2.1⟩
    · omega
  · rintro ⟨h1, h2⟩
    have hm := Int.mul_nonneg h1 (show 0 ≤ g.per by omega)
    have hm2 := Int.mul_nonneg (show 0 ≤ g.slots by omega) (show 0 ≤ 1 + g.journal by omega)
    have hd : dataAt g = 1 + 2 * g.nodes + g.log + g.slots * (1 + g.journal) := rfl
    rw [dataV, if_pos ⟨h, h1, h2, by omega, by omega⟩]
    omega

theorem look_iff {g : Geo} (h : geoB g = true) (hl : List Hold) (key n mode : Int) (fits : Bool) : lookE g hl key n mode fits = 0 ↔ 0 ≤ n ∧ n < g.blocks ∧ fits = true ∧ covers hl key n mode = true := by
  rw [lookE]
  by_cases hd : 0 ≤ dataV g n 0
  · have hb := (data_iff h n).1 hd
    rw [decide_eq_true hd, Bool.true_and]
    cases fits <;> cases covers hl key n mode <;> simp [hb]
  · have hb : ¬ (0 ≤ n ∧ n < g.blocks) := fun hc => hd ((data_iff h n).2 hc)
    rw [decide_eq_false hd, Bool.false_and, if_neg (by simp)]
    constructor
    · intro h0; omega
    · rintro ⟨h1, h2, _⟩; exact absurd ⟨h1, h2⟩ hb

theorem wr_iff {g : Geo} (h : geoB g = true) (hl : List Hold) (key n : Int) (text : ByteArray) : wrE g true hl key n text = 0 ↔ 0 ≤ n ∧ n < g.blocks ∧ (text.size : Int) ≤ g.per * 256 ∧ covers hl key n 2 = true := by
  have hf := geo_facts h
  rw [wrE, if_pos rfl, look_iff h, wrapI (n := g.per * 256) (by omega) (by omega), decide_eq_true_eq]

/-- Of a block that there is, what is no error is ErrLock. -/
theorem rd_lock {g : Geo} (h : geoB g = true) (hl : List Hold) (key n : Int) (h1 : 0 ≤ n) (h2 : n < g.blocks) : rdE g true hl key n = if covers hl key n 1 = true then 0 else 250 := by
  rw [rdE, if_pos rfl, lookE, decide_eq_true ((data_iff h n).2 ⟨h1, h2⟩)]
  rfl
end Go.Proofs.Ytmjdihpdlfidmaa

/- What was written last, held against what the transaction has: plain. -/
set_option linter.unusedVariables false
set_option linter.unusedSimpArgs false
set_option maxRecDepth 100000
namespace Go.Proofs.Ytmjdihpdlfidmaa
open Go Go.Eng Go.RowKit

def lastA (X : List Block) : List A := (List.range 64).map fun i => .v (S (getB X (i : Nat)).1)
def wroteA (X : List Block) : List A := (List.range 64).map fun i => .v (.bool (getB X (i : Nat)).2)

theorem lastA_len (X : List Block) : (lastA X).length = 64 := by simp [lastA]
theorem wroteA_len (X : List Block) : (wroteA X).length = 64 := by simp [wroteA]

theorem lastA_at (X : List Block) (k : Nat) (h : k < 64) : (lastA X)[k]? = some (.v (S (getB X (k : Nat)).1)) := by
  rw [lastA, List.getElem?_map, List.getElem?_range h]; rfl
theorem wroteA_at (X : List Block) (k : Nat) (h : k < 64) : (wroteA X)[k]? = some (.v (.bool (getB X (k : Nat)).2)) := by
  rw [wroteA, List.getElem?_map, List.getElem?_range h]; rfl

theorem lastA_set (X : List Block) (k : Nat) (t : ByteArray) (h : k < 64) : (lastA X).set k (.v (S t)) = lastA (insB X ⟨(k : Nat), t⟩) := by
  apply List.ext_getElem?
  intro i
  by_cases hi : i < 64
  · rw [lastA_at _ i hi, ins_get]
    by_cases hik : i = k
    · subst hik
      rw [List.getElem?_set_self (by rw [lastA_len]; exact h), if_pos rfl]
    · rw [List.getElem?_set_ne (fun e => hik e.symm), lastA_at _ i hi, if_neg (by dsimp only; omega)]
  · rw [List.getElem?_eq_none (by rw [List.length_set, lastA_len]; omega), List.getElem?_eq_none (by rw [lastA_len]; omega)]

theorem wroteA_set (X : List Block) (k : Nat) (t : ByteArray) (h : k < 64) : (wroteA X).set k (.v (.bool true)) = wroteA (insB X ⟨(k : Nat), t⟩) := by
  apply List.ext_getElem?
  intro i
  by_cases hi : i < 64
  · rw [wroteA_at _ i hi, ins_get]
    by_cases hik : i = k
    · subst hik
      rw [List.getElem?_set_self (by rw [wroteA_len]; exact h), if_pos rfl]
    · rw [List.getElem?_set_ne (fun e => hik e.symm), wroteA_at _ i hi, if_neg (by dsimp only; omega)]
  · rw [List.getElem?_eq_none (by rw [List.length_set, wroteA_len]; omega), List.getElem?_eq_none (by rw [wroteA_len]; omega)]

theorem wroteA_atI (X : List Block) (n : Int) (h0 : 0 ≤ n) (h : n < 64) : (wroteA X)[n.toNat]? = some (.v (.bool (getB X n).2)) := by
  rw [wroteA_at X n.toNat (by omega), Int.toNat_of_nonneg h0]
theorem lastA_setI (X : List Block) (n : Int) (t : ByteArray) (h0 : 0 ≤ n) (h : n < 64) : (lastA X).set n.toNat (.v (S t)) = lastA (insB X ⟨n, t⟩) := by
  rw [lastA_set X n.toNat t (by omega), Int.toNat_of_nonneg h0]
theorem wroteA_setI (X : List Block) (n : Int) (t : ByteArray) (h0 : 0 ≤ n) (h : n < 64) : (wroteA X).set n.toNat (.v (.bool true)) = wroteA (insB X ⟨n, t⟩) := by
  rw [wroteA_set X n.toNat t (by omega), Int.toNat_of_nonneg h0]

theorem ins_len {g : Geo} {x : Block} : ∀ {l : List Block} {last : Int}, mayF g last l = true → ((insB l x).length : Int) = l.length + if (getB l x.n).2 = true then 0 else 1
  | [], _, _ => rfl
  | y :: r, last, h => by
    obtain ⟨⟨h1, _⟩, h2⟩ := mayF_cons.1 h
    rw [insB, getB]
    by_cases e1 : y.n = x.n
    · rw [if_pos e1, if_pos e1]; simp
    · rw [if_neg e1, if_neg e1]
      by_cases e2 : x.n < y.n
      · have hlow := optG_low (n := x.n) r y.n h2 (by omega)
        rw [optG] at hlow
        have : ¬ (getB r x.n).2 = true := by
          intro hc; rw [if_pos hc] at hlow; cases hlow
        rw [if_pos e2, if_neg this]
        simp only [List.length_cons]; omega
      · rw [if_neg e2, List.length_cons, List.length_cons]
        have := ins_len (x := x) h2
        omega

/-- A write that is let in: what the transaction has behind it. -/
theorem put_facts {g : Geo} {X : List Block} (hX : mayL g X = true) {n : Int} {t : ByteArray} (h0 : 0 ≤ n) (h1 : n < g.blocks) (ht : (t.size : Int) ≤ g.per * 256) :
    putP X [⟨n, t⟩] = insB X ⟨n, t⟩ ∧ mayL g (insB X ⟨n, t⟩) = true ∧ ((insB X ⟨n, t⟩).length : Int) = X.length + if (getB X n).2 = true then 0 else 1 := by
  rw [mayL, Bool.and_eq_true] at hX
  refine ⟨putB_ins hX.2, ?_, ins_len hX.2⟩
  rw [mayL, hX.1, Bool.true_and]
  exact ins_may h1 ht (by dsimp only; omega) hX.2

theorem known_get (v v' : Value) (l p : List Block) (n : Int) : knownB [⟨v, l⟩, ⟨v', p⟩] n = if (getB l n).2 = true then ((getB l n).1, true) else getB p n := by
  have hb : ∀ (l : List Block), (getB l n).2 = true ∨ getB l n = (ByteArray.empty, false) := by
    intro l
    induction l with
    | nil => exact .inr rfl
    | cons b r ih =>
      rw [getB]
      by_cases h : b.n = n
      · rw [if_pos h]; exact .inl rfl
      · rw [if_neg h]; exact ih
  rw [known_two, optG, optG]
  by_cases h1 : (getB l n).2 = true
  · rw [if_pos h1, if_pos h1]
  · rw [if_neg h1, if_neg h1]
    dsimp only
    rcases hb p with h2 | h2
    · rw [if_pos h2, ← h2]
    · rw [h2]; rfl
end Go.Proofs.Ytmjdihpdlfidmaa
