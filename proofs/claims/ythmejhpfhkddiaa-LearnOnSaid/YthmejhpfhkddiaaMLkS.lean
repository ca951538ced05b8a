import Derived.Test.YthmejhpfhkddiaaMRTb
import Derived.Test.YthmejhpfhkddiaaEng38
/- Locks: what is chosen, what is among some. -/
set_option linter.unusedVariables false
set_option linter.unusedSimpArgs false
set_option maxRecDepth 100000
namespace Go.Proofs.Ythmejhpfhkddiaa
open Go Go.Eng Go.RowKit

/-- A function value that tells pr, whatever it has already. -/
def TellsB (V : Vw) (fv : Value) (pr : Hold → Bool) : Prop :=
  ∀ (x : Hold) w', V.le (vw w') → CallsB Try.prog fv [x.val] w' fun e w'' => e = .returned (.bool (pr x)) ∧ Below w'.heap.size w' w''

def spIn (gs : List Span) (lo hi : Int) : Bool := gs.any fun s => lo == s.lo && hi == s.hi

def Hold.eqB (a b : Hold) : Bool := a.key == b.key && ((a.lo == b.lo && a.hi == b.hi) && a.mode == b.mode)

theorem Hold.eqB_iff (a b : Hold) : a.eqB b = true ↔ a = b := by
  obtain ⟨a1, a2, a3, a4⟩ := a
  obtain ⟨b1, b2, b3, b4⟩ := b
  simp [Hold.eqB, and_assoc]

theorem holdEq {op : BinOp} {ox oy : Operand} (a b : Hold) (w : World) (hop : op = .eql ∨ op = .neq) :
    (do eqGuard op 92 ox oy a.val b.val; binOp op 92 a.val b.val : Sem Value).run Try.prog w = .ok (.bool (if op = .eql then a.eqB b else !(a.eqB b))) w := by
  have hS : Try.prog.underlying 92 = some (.struct (Try.prog.fieldsOf 92)) := by kernel_rfl
  have hp : Try.prog.stoodInHeld 92 = false := by kernel_rfl
  have hg : Try.prog.eqGuardType Try.prog.depth 92 = false := by kernel_rfl
  have hS2 : Try.prog.underlying 36 = some (.struct (Try.prog.fieldsOf 36)) := by kernel_rfl
  have hp2 : Try.prog.stoodInHeld 36 = false := by kernel_rfl
  have key2 : ∀ a b c d : Int, (Op.equalIn 9999 36 (.agg #[I a, I b]) (.agg #[I c, I d])).run Try.prog w = .ok (a == c && b == d) w := by
    intro a b c d
    have u3 := Try.underlying3
    have a3 := Try.isAgg3
    have z3 := Try.sizeOf3
    rw [show (9999 : Nat) = 9998 + 1 from rfl, run_equalIn_agg w 9998 36 _ _ hS2 hp2]
    simp only [Program.fieldsOf, Try.underlying36]
    go_simp
    by_cases h1 : a = c <;> by_cases h2 : b = d <;> simp [h1, h2]
  have key : (Op.equalIn 10000 92 a.val b.val).run Try.prog w = .ok (a.eqB b) w := by
    have u3 := Try.underlying3
    have a3 := Try.isAgg3
    have z3 := Try.sizeOf3
    have u8 := Try.underlying34
    have a8 := Try.isAgg34
    have z8 := Try.sizeOf34
    have asp := Try.isAgg36
    have zsp := Try.sizeOf36
    rw [show (10000 : Nat) = 9999 + 1 from rfl, run_equalIn_agg w 9999 92 _ _ hS hp]
    simp only [Program.fieldsOf, Try.underlying92]
    have e := fun (k : IntKind) (x y : Int) (t : Nat) (hu : Try.prog.underlying t = some (.int k)) => run_equalIn_int (P := Try.prog) w 9998 t k k x y hu
    refine (eqF_cons (by simp) (by go_simp; rfl) (by go_simp; rfl) (e .i64 _ _ _ u3) <| eqF_cons (a := .agg #[I a.lo, I a.hi]) (b := .agg #[I b.lo, I b.hi]) (by simp) (by go_simp) (by go_simp) (key2 _ _ _ _) <|
      eqF_cons (by simp) (by go_simp; rfl) (by go_simp; rfl) (e .i8 _ _ _ u8) eqF_nil).trans ?_
    rw [Bool.and_true]
    rfl
  rw [Sem.run_bind, run_eqGuard_agg w _ _ _ _ _ _ hg]
  rcases hop with rfl | rfl
  · simp only [Result.andThen_ok, run_eql_struct, key]; rfl
  · simp only [Result.andThen_ok, run_neq_struct, key]; rfl

def inH (h : Hold) (l : List Hold) : Bool := l.any fun x => h.eqB x

end Go.Proofs.Ythmejhpfhkddiaa

/- Locks: what a key has, waits for, is told. -/
set_option linter.unusedVariables false
set_option linter.unusedSimpArgs false
set_option maxRecDepth 100000
namespace Go.Proofs.Ythmejhpfhkddiaa
open Go Go.Eng Go.RowKit

def hasF (key : Int) (all : Bool) (gs : List Span) (h : Hold) : Bool := ((h.key == key) && !all) && !spIn gs h.lo h.hi

def hasL (key : Int) (all : Bool) (gs : List Span) (H : List Hold) : List Hold := H.filter (hasF key all gs)

def waitsL (key : Int) (Q : List Hold) : List Hold := Q.filter fun h => h.key == key

end Go.Proofs.Ythmejhpfhkddiaa

/- Locks: who waits for what a key has, what is wanted of it. -/
set_option linter.unusedVariables false
set_option linter.unusedSimpArgs false
set_option maxRecDepth 100000
namespace Go.Proofs.Ythmejhpfhkddiaa
open Go Go.Eng Go.RowKit

/-- Who waits for what a key has. -/
def demL (key : Int) (t : Tb) : List Hold := t.Q.filter fun h => !fits h (t.H.filter fun h => h.key == key)

end Go.Proofs.Ythmejhpfhkddiaa

/- Locks: what is wanted; the document's. -/
set_option linter.unusedVariables false
set_option linter.unusedSimpArgs false
set_option maxRecDepth 100000
namespace Go.Proofs.Ythmejhpfhkddiaa
open Go Go.Eng Go.RowKit

/-- What answers a row of spans of one's own. -/
def SRow (l : List Span) (w : World) (e : Ending) (w' : World) : Prop := ∃ v', e = .returned v' ∧ w'.ownsRow w.heap.size 36 2 v' l.length (l.flatMap Span.cells) ∧ Below w.heap.size w w'

def SOut (V : Vw) (l : List Span) (w : World) (e : Ending) (w' : World) : Prop := ∃ v V', e = .returned v ∧ Below w.heap.size w w' ∧ Vext w.heap.size V V' w' ∧ SlOf V' Span.cells 2 v l

theorem SRow.out {V : Vw} {l : List Span} {w : World} {e : Ending} {w' : World} (h : SRow l w e w') (hV : V.le (vw w)) : SOut V l w e w' := by
  obtain ⟨v, rfl, h1, h2⟩ := h
  exact ⟨v, _, rfl, h2, Vext.grown hV h2, SlOf.grown (enc := Span.cells) V h1 (fun _ => rfl)⟩

abbrev spOf (h : Hold) : Span := ⟨h.lo, h.hi⟩

/-- What is wanted of a key. -/
def wantL (key : Int) (t : Tb) : List Span := ((hasL key false [] t.H).filter fun h => !fits h (demL key t)).map spOf

end Go.Proofs.Ythmejhpfhkddiaa

/- Locks: the document's. -/
set_option linter.unusedVariables false
set_option linter.unusedSimpArgs false
set_option maxRecDepth 100000
namespace Go.Proofs.Ythmejhpfhkddiaa
open Go Go.Eng Go.RowKit

theorem Hold.eqB_refl (x : Hold) : x.eqB x = true := (Hold.eqB_iff x x).2 rfl

theorem sameHolds_c (V : Vw) (sv tv : Value) (l : List Hold) (w : World) (hV : V.le (vw w)) (hs0 : SlOf V Hold.cells 4 sv l) (ht0 : SlOf V Hold.cells 4 tv l) (hn : l.length ≤ lim) :
    Calls Try.prog 20 #[sv, tv] w fun e w' => e = .returned (.bool true) ∧ Below w.heap.size w w' := by
  unfold lim at hn
  have hs := hs0.mono hV
  have ht := ht0.mono hV
  refine enter (E := E0) (O := []) (nl := 0) (V := vw w) [.a (.v sv), .a (.v tv)] Try.func20 rfl rfl (mem0 E0 0 w) rfl rfl ?_
  refine c_seq ?_
  refine c_region ?_
  refine o_yield rfl rfl rfl (y_val tok rfl) ?_
  refine o_end [0, 1] rfl ?_
  refine x_then ?_
  refine c_seq ?_
  refine c_seq ?_
  refine c_region ?_
  refine o_yield rfl rfl rfl (y_val tok rfl) ?_
  refine o_yield rfl rfl rfl (y_len tok rfl (fun hg => hs.sl)) ?_
  refine o_yield rfl rfl rfl (y_val tok rfl) ?_
  refine o_yield rfl rfl rfl (y_len tok rfl (fun hg => ht.sl)) ?_
  refine o_yield rfl rfl rfl (y_val tok rfl) ?_
  refine o_end [0, 1, 10] rfl ?_
  refine x_then ?_
  refine c_cond rfl (fun h => ?_) (fun h => ?_)
  ·
    refine c_seq ?_
    refine c_region ?_
    refine o_yield rfl rfl rfl (y_val tok rfl) ?_
    refine o_end [4] rfl ?_
    refine x_then ?_
    refine c_ret ?_
    refine x_then_ret ?_
    refine b_ret tok rfl ?_
    simp at h
  ·
    refine c_skip ?_
    refine x_then ?_
    refine c_seq ?_
    refine c_seq ?_
    refine c_region ?_
    refine o_yield rfl rfl rfl (y_val tok rfl) ?_
    refine o_end [0, 1, 5] rfl ?_
    refine x_then ?_
    refine c_block ?_
    refine c_loopK [0, 1] [] rfl rfl (σ := Nat) (fun i => [(5, .a (.v (I i)))]) (fun i => []) (fun i => i ≤ l.length) (fun i => l.length - i) (0) (by omega) (by repeat (first | exact SubF.nil | refine SubF.cons rfl ?_)) (by repeat (first | exact SubO.nil | refine SubO.cons rfl ?_)) rfl ?_
    rintro i hi
    refine c_seq ?_
    refine c_seq ?_
    refine c_region ?_
    refine o_yield rfl rfl rfl (y_val tok rfl) ?_
    refine o_yield rfl rfl rfl (y_val tok rfl) ?_
    refine o_yield rfl rfl rfl (y_len tok rfl (fun hg => hs.sl)) ?_
    refine o_yield rfl rfl rfl (y_val tok rfl) ?_
    refine o_end [0, 1, 5, 14] rfl ?_
    refine x_then ?_
    refine c_cond rfl (fun h => ?_) (fun h => ?_)
    ·
      simp only [Bool.and_eq_true, Bool.or_eq_true, Bool.not_eq_true', Bool.or_eq_false_iff, Bool.and_eq_false_iff, decide_eq_true_eq, decide_eq_false_iff_not, beq_iff_eq, bne_iff_ne, Bool.not_eq_false', beq_eq_false_iff_ne, bne_eq_false_iff_eq, ne_eq, Decidable.not_not, Int.not_lt, Int.not_le] at h
      refine c_skip ?_
      refine x_then ?_
      refine c_seq ?_
      refine c_block ?_
      refine c_seq ?_
      refine c_draw mixed (by kernel_rfl) ?_
      refine d_yield rfl rfl rfl (y_val tok rfl) rfl ?_
      refine d_yield rfl rfl rfl (y_val tok rfl) rfl ?_
      obtain ⟨x, h_x⟩ := hs.at (k := i) (by omega)
      have hlt_x := lt_of_at h_x
      refine d_yield rfl rfl rfl (y_idx tok rfl (fun hg => hs.sl) (fun hg => ⟨by omega, by omega⟩)) rfl ?_
      refine d_yield rfl rfl rfl (y_lel tok (i) 0 (x) rfl (fun hg => hs) (fun hg => h_x) rfl rfl) rfl ?_
      refine d_yield rfl rfl rfl (y_val tok rfl) rfl ?_
      refine d_yield rfl rfl rfl (y_val tok rfl) rfl ?_
      have hlt_x := lt_of_at h_x
      refine d_yield rfl rfl rfl (y_idx tok rfl (fun hg => ht.sl) (fun hg => ⟨by omega, by omega⟩)) rfl ?_
      refine d_yield rfl rfl rfl (y_lel tok (i) 0 (x) rfl (fun hg => ht) (fun hg => h_x) rfl rfl) rfl ?_
      refine d_yield rfl rfl rfl (y_seq (.bool (!(x.eqB x))) rfl (fun E w => holdEq x x w (.inr rfl))) rfl ?_
      refine d_end [0, 1, 5, 25] rfl ?_
      refine x_then ?_
      refine c_cond rfl (fun h => ?_) (fun h => ?_)
      ·
        refine c_seq ?_
        refine c_region ?_
        refine o_yield rfl rfl rfl (y_val tok rfl) ?_
        refine o_end [4] rfl ?_
        refine x_then ?_
        refine c_ret ?_
        refine x_block_ret ?_
        refine x_then_ret ?_
        refine x_then_ret ?_
        refine x_block_ret ?_
        refine x_then_ret ?_
        refine b_ret tok rfl ?_
        rw [Hold.eqB_refl] at h; simp at h
      ·
        refine c_skip ?_
        refine x_block ?_
        refine x_then ?_
        refine c_region ?_
        refine o_yield rfl rfl rfl (y_val tok rfl) ?_
        refine o_yield rfl rfl rfl (y_val tok rfl) ?_
        refine o_yield rfl rfl rfl (y_val tok rfl) ?_
        refine o_end [0, 1, 5] rfl ?_
        refine x_then ?_
        rw [wrapI (by omega) (by omega)]
        refine x_round (i + 1) (by omega) (by first | omega | (dsimp only; omega)) (by repeat (first | exact SubF.nil | refine SubF.cons rfl ?_)) (by repeat (first | exact SubO.nil | refine SubO.cons rfl ?_)) rfl (Vw.le.refl _)
    ·
      simp only [Bool.and_eq_true, Bool.or_eq_true, Bool.not_eq_true', Bool.or_eq_false_iff, Bool.and_eq_false_iff, decide_eq_true_eq, decide_eq_false_iff_not, beq_iff_eq, bne_iff_ne, Bool.not_eq_false', beq_eq_false_iff_ne, bne_eq_false_iff_eq, ne_eq, Decidable.not_not, Int.not_lt, Int.not_le] at h
      refine c_exit ?_
      refine x_then_exit ?_
      refine x_then_exit ?_
      refine x_block_hit ?_
      refine x_then ?_
      refine c_seq ?_
      refine c_region ?_
      refine o_yield rfl rfl rfl (y_val tok rfl) ?_
      refine o_end [4] rfl ?_
      refine x_then ?_
      refine c_ret ?_
      refine b_ret tok rfl ?_
      intro E w' hm _
      refine ⟨?_, hm.below (Vw.le.refl _)⟩
      rfl

end Go.Proofs.Ythmejhpfhkddiaa

/- Locks: commands, or why there is none. -/
set_option linter.unusedVariables false
set_option linter.unusedSimpArgs false
set_option maxRecDepth 100000
namespace Go.Proofs.Ythmejhpfhkddiaa
open Go Go.Eng Go.RowKit

/-- A command with its owner. -/
abbrev ownC (key serial : Int) (c : Cmd) : Cmd := ⟨c.kind, key, serial, c.dead, c.was, c.lo, c.hi, c.mode⟩

def saysV (key serial : Int) (t : Tb) (c : Cmd) : ByteArray × Int :=
  if (decide (0 ≤ slotI t.S key) && (cbE (ownC key serial c) == 0)) = true then (cbV (ownC key serial c), 0) else (ByteArray.empty, 2)

/-- What a key has and waits for. -/
def allL (key : Int) (t : Tb) : List Hold := (t.H ++ t.Q).filter fun h => h.key == key

def askV (g : Geo) (t : Tb) (key serial lo hi mode : Int) : ByteArray × Int :=
  if (saysV key serial t ⟨2, 0, 0, 0, 0, lo, hi, mode⟩).2 ≠ 0 ∨ holdB g.blocks ⟨key, lo, hi, mode⟩ = false then (ByteArray.empty, 2)
  else if touches (allL key t) key lo hi = true then (ByteArray.empty, 251) else if 64 ≤ (allL key t).length then (ByteArray.empty, 252) else ((saysV key serial t ⟨2, 0, 0, 0, 0, lo, hi, mode⟩).1, 0)

def spanF (lo hi : Int) (h : Hold) : Bool := h.lo == lo && h.hi == hi

def freeV (g : Geo) (t : Tb) (key serial lo hi : Int) : ByteArray × Int :=
  if (saysV key serial t ⟨3, 0, 0, 0, 0, lo, hi, 0⟩).2 ≠ 0 ∨ may g.blocks lo hi = false then (ByteArray.empty, 2)
  else if (allL key t).any (spanF lo hi) = false then (ByteArray.empty, 250) else ((saysV key serial t ⟨3, 0, 0, 0, 0, lo, hi, 0⟩).1, 0)

end Go.Proofs.Ythmejhpfhkddiaa

/- What commands say and what comes of them: plain. -/
set_option linter.unusedVariables false
set_option linter.unusedSimpArgs false
set_option maxRecDepth 100000
namespace Go.Proofs.Ythmejhpfhkddiaa
open Go Go.Eng Go.RowKit

theorem grant_sum (t : Tb) : t.grant.H.length + t.grant.Q.length = t.H.length + t.Q.length := by
  have := grant_len' t.Q t.H []
  simp only [List.length_nil, Nat.add_zero] at this
  exact this

theorem clear_sum (t : Tb) (k : Nat) : (t.clear k).H.length + (t.clear k).Q.length ≤ t.H.length + t.Q.length := by
  rw [Tb.clear, grant_sum]
  have h1 := List.length_filter_le (fun h : Hold => !(h.key == slotKey t.S k)) t.H
  have h2 := List.length_filter_le (fun h : Hold => !(h.key == slotKey t.S k)) t.Q
  dsimp only
  omega

/-- A command brings one hold at most. -/
theorem apply_sum (blocks : Int) (t : Tb) (c : Cmd) : (t.apply blocks c).H.length + (t.apply blocks c).Q.length ≤ t.H.length + t.Q.length + 1 := by
  unfold Tb.apply
  split
  · unfold Tb.mount
    split
    · omega
    · split <;> first | omega | (dsimp only; omega)
  · split
    · unfold Tb.leave
      split
      · have := clear_sum t (by assumption); omega
      · omega
    · split
      · unfold Tb.ask
        split
        · rw [grant_sum]; dsimp only; rw [List.length_append]; dsimp only [List.length]; omega
        · omega
      · split
        · unfold Tb.free
          split
          · rw [grant_sum]; dsimp only; have := (erase_sub t.H (by assumption)).length_le; omega
          · split
            · rw [grant_sum]; dsimp only; have := (erase_sub t.Q (by assumption)).length_le; omega
            · omega
        · split
          · unfold Tb.claim
            split
            · split <;> first | omega | (dsimp only; omega)
            · omega
          · split
            · unfold Tb.purge
              split
              · split
                · have := clear_sum t (by assumption); omega
                · omega
              · omega
            · omega

theorem TbOk.fitS {n blocks : Int} {t : Tb} (h : TbOk n blocks t) (hn : n ≤ 16) (hs : t.H.length + t.Q.length ≤ 1000) : t.Fit ∧ t.Q.length + 1 ≤ 100000 := by
  have := h.n
  exact ⟨⟨by omega, by omega, by omega⟩, by omega⟩

theorem cmdB_key {c : Cmd} (h : cmdB c = true) : 16 ≤ c.by_ := by
  simp only [cmdB, Bool.and_eq_true] at h
  have := h.1.1.1
  simp only [keyB, Bool.and_eq_true, decide_eq_true_eq] at this
  exact this.1

def askC (key serial lo hi mode : Int) : Cmd := ⟨2, key, serial, 0, 0, lo, hi, mode⟩
def freeC (key serial lo hi : Int) : Cmd := ⟨3, key, serial, 0, 0, lo, hi, 0⟩
def leaveC (key serial : Int) : Cmd := ⟨1, key, serial, 0, 0, 0, 0, 0⟩

end Go.Proofs.Ythmejhpfhkddiaa

/- law25.table: the table that a log makes. -/
set_option linter.unusedVariables false
set_option linter.unusedSimpArgs false
set_option maxRecDepth 100000
namespace Go.Proofs.Ythmejhpfhkddiaa
open Go Go.Eng Go.RowKit

/-- A callee's answer, told over a smaller view. -/
theorem small_view {V V0 : Vw} {Φ : Value → Vw → Prop} {n : Nat} {w1 w' : World} {e : Ending} (hn : n ≤ w1.heap.size) (hV : V.le V0) (h0 : V0.le (vw w1))
    (h : ∃ v V2, e = .returned v ∧ Below w1.heap.size w1 w' ∧ Vext w1.heap.size V V2 w' ∧ Φ v V2) :
    ∃ v V', e = .returned v ∧ Below w1.heap.size w1 w' ∧ Vext w1.heap.size V0 V' w' ∧ ∃ V2 : Vw, V2.le V' ∧ V.le V2 ∧ (∀ k o, V2.get k = some o → V.get k = some o ∨ n ≤ k) ∧ Φ v V2 := by
  obtain ⟨v, V2, e1, hb, hx, hp⟩ := h
  refine ⟨v, V0.grown w1 w', e1, hb, Vext.grown h0 hb, V2, ⟨?_, ?_, ?_, ?_⟩, hx.le, fun k o hk => (hx.get k o hk).2.imp id (Nat.le_trans hn), hp⟩
  · intro k o hk
    obtain ⟨h1, h2⟩ := hx.get k o hk
    simp only [Vw.grown]
    rcases h2 with h2 | h2
    · rw [if_pos (h0.lt (hV.get _ _ h2))]
      exact hV.get _ _ h2
    · rw [if_neg (by omega)]
      exact h1
  · exact hV.os.trans hx.le.os.symm
  · exact hV.tape.trans hx.le.tape.symm
  · exact hV.output.trans hx.le.output.symm

abbrev TabP (g : Geo) (V' : Vw) (v : Value) : Prop := v = .tuple #[.agg #[.slice none 0 0, .slice none 0 0, .slice none 0 0], .bool false] ∨
  ∃ tv t, v = .tuple #[tv, .bool true] ∧ TbIs V' tv t ∧ TbOk g.slots g.blocks t ∧ g.slots ≤ 16 ∧ t.H.length + t.Q.length ≤ 60

end Go.Proofs.Ythmejhpfhkddiaa

/- Locks: rows of holds that are exclusive; the document's commands. -/
set_option linter.unusedVariables false
set_option linter.unusedSimpArgs false
set_option maxRecDepth 100000
namespace Go.Proofs.Ythmejhpfhkddiaa
open Go Go.Eng Go.RowKit

def exP (L : List (Sl Hold)) : Prop := ∀ (i : Nat) (s : Sl Hold), L[i]? = some s → ∀ h ∈ s.l, fits h (catL (L.take i)) = true

end Go.Proofs.Ythmejhpfhkddiaa

/- LockApart: members, and plain facts. -/
set_option linter.unusedVariables false
set_option linter.unusedSimpArgs false
set_option maxRecDepth 100000
namespace Go.Proofs.Ythmejhpfhkddiaa
open Go Go.Eng Go.RowKit

/-- Who is a member. -/
def memL (S : List Slot) : List Int := (S.filter fun x => !(x.key == 0)).map (·.key)

theorem mint_snoc (L : List Int) (x : Int) : L.length + 1 = (L ++ [x]).length ∧ L.flatMap encI64 ++ [I x] = (L ++ [x]).flatMap encI64 := by simp [encI64]

def IRow (l : List Int) (w : World) (e : Ending) (w' : World) : Prop := ∃ v', e = .returned v' ∧ w'.ownsRow w.heap.size 3 1 v' l.length (l.flatMap encI64) ∧ Below w.heap.size w w'

def IOut (V : Vw) (l : List Int) (w : World) (e : Ending) (w' : World) : Prop := ∃ v V', e = .returned v ∧ Below w.heap.size w w' ∧ Vext w.heap.size V V' w' ∧ SlOf V' encI64 1 v l

theorem IRow.out {V : Vw} {l : List Int} {w : World} {e : Ending} {w' : World} (h : IRow l w e w') (hV : V.le (vw w)) : IOut V l w e w' := by
  obtain ⟨v, rfl, h1, h2⟩ := h
  exact ⟨v, _, rfl, h2, Vext.grown hV h2, SlOf.grown (enc := encI64) V h1 (fun _ => rfl)⟩

end Go.Proofs.Ythmejhpfhkddiaa

/- Where everything stands: the program's regions. -/
set_option linter.unusedVariables false
set_option linter.unusedSimpArgs false
set_option maxRecDepth 100000
namespace Go.Proofs.Ythmejhpfhkddiaa
open Go Go.Eng Go.RowKit

/-- A stretch of things of a kind. -/
structure Reg where
  first : Int
  many : Int
  kind : Int
  per : Int
abbrev Reg.cells (r : Reg) : List Value := [I r.first, I r.many, I8 r.kind, I r.per]
abbrev Reg.val (r : Reg) : Value := .agg #[I r.first, I r.many, I8 r.kind, I r.per]

/-- The first sector of data. -/
def dataAt (g : Geo) : Int := 1 + 2 * g.nodes + g.log + g.slots * (1 + g.journal)

def regs (g : Geo) : List Reg :=
  [⟨0, 1, 1, 1⟩, ⟨1, g.nodes, 2, 1⟩, ⟨1 + g.nodes, g.nodes, 3, 1⟩, ⟨1 + 2 * g.nodes, g.log, 4, 1⟩, ⟨1 + 2 * g.nodes + g.log, g.slots * (1 + g.journal), 6, 1 + g.journal⟩, ⟨dataAt g, g.blocks * g.per, 7, g.per⟩]

theorem stretchEnd_c (a b : Int) (w : World) : Calls Try.prog 75 #[.agg #[I a, I b]] w fun e w' => e = .returned (I (IntKind.i64.wrap (a + b))) ∧ Below w.heap.size w w' := by
  refine enter (E := E0) (O := []) (nl := 0) (V := vw w) [.a (.v (.agg #[I a, I b]))] Try.func75 rfl rfl (mem0 E0 0 w) rfl rfl ?_
  refine c_seq ?_
  refine c_region ?_
  refine o_new tok rfl rfl rfl rfl ?_
  refine o_yield rfl rfl rfl (y_val tok rfl) ?_
  refine o_end [1] rfl ?_
  refine x_then ?_
  refine c_seq ?_
  refine c_region ?_
  refine o_yield rfl rfl rfl (y_val tok rfl) ?_
  refine o_yield rfl rfl rfl (y_val tok rfl) ?_
  refine o_yield rfl rfl rfl (y_val tok rfl) ?_
  refine o_yield rfl rfl rfl (y_val tok rfl) ?_
  refine o_yield rfl rfl rfl (y_val tok rfl) ?_
  refine o_yield rfl rfl rfl (y_val tok rfl) ?_
  refine o_end [2] rfl ?_
  refine x_then ?_
  refine c_ret ?_
  refine b_ret tok rfl ?_
  intro E w' hm _
  refine ⟨?_, hm.below (Vw.le.refl _)⟩
  rfl

theorem stretchAt_c (a b k : Int) (w : World) : Calls Try.prog 43 #[.agg #[I a, I b], I k] w fun e w' => e = .returned (I (if k < 0 ∨ b ≤ k then -1 else IntKind.i64.wrap (a + k))) ∧ Below w.heap.size w w' := by
  refine enter (E := E0) (O := []) (nl := 0) (V := vw w) [.a (.v (.agg #[I a, I b])), .a (.v (I k))] Try.func43 rfl rfl (mem0 E0 0 w) rfl rfl ?_
  refine c_seq ?_
  refine c_region ?_
  refine o_new tok rfl rfl rfl rfl ?_
  refine o_yield rfl rfl rfl (y_val tok rfl) ?_
  refine o_end [1, 2] rfl ?_
  refine x_then ?_
  refine c_seq ?_
  refine c_seq ?_
  refine c_region ?_
  refine o_yield rfl rfl rfl (y_val tok rfl) ?_
  refine o_yield rfl rfl rfl (y_val tok rfl) ?_
  refine o_yield rfl rfl rfl (y_val tok rfl) ?_
  refine o_yield rfl rfl rfl (y_val tok rfl) ?_
  refine o_yield rfl rfl rfl (y_val tok rfl) ?_
  refine o_yield rfl rfl rfl (y_val tok rfl) ?_
  refine o_yield rfl rfl rfl (y_val tok rfl) ?_
  refine o_yield rfl rfl rfl (y_val tok rfl) ?_
  refine o_end [1, 2, 12] rfl ?_
  refine x_then ?_
  refine c_cond rfl (fun h => ?_) (fun h => ?_)
  ·
    simp only [Bool.and_eq_true, Bool.or_eq_true, Bool.not_eq_true', Bool.or_eq_false_iff, Bool.and_eq_false_iff, decide_eq_true_eq, decide_eq_false_iff_not, beq_iff_eq, bne_iff_ne, Bool.not_eq_false', beq_eq_false_iff_ne, bne_eq_false_iff_eq, ne_eq, Decidable.not_not, Int.not_lt, Int.not_le] at h
    refine c_seq ?_
    refine c_region ?_
    refine o_yield rfl rfl rfl (y_val tok rfl) ?_
    refine o_end [4] rfl ?_
    refine x_then ?_
    refine c_ret ?_
    refine x_then_ret ?_
    refine b_ret tok rfl ?_
    intro E w' hm _
    refine ⟨?_, hm.below (Vw.le.refl _)⟩
    rw [if_pos (by omega)]; rfl
  ·
    simp only [Bool.and_eq_true, Bool.or_eq_true, Bool.not_eq_true', Bool.or_eq_false_iff, Bool.and_eq_false_iff, decide_eq_true_eq, decide_eq_false_iff_not, beq_iff_eq, bne_iff_ne, Bool.not_eq_false', beq_eq_false_iff_ne, bne_eq_false_iff_eq, ne_eq, Decidable.not_not, Int.not_lt, Int.not_le] at h
    refine c_skip ?_
    refine x_then ?_
    refine c_seq ?_
    refine c_region ?_
    refine o_yield rfl rfl rfl (y_val tok rfl) ?_
    refine o_yield rfl rfl rfl (y_val tok rfl) ?_
    refine o_yield rfl rfl rfl (y_val tok rfl) ?_
    refine o_yield rfl rfl rfl (y_val tok rfl) ?_
    refine o_yield rfl rfl rfl (y_val tok rfl) ?_
    refine o_end [4] rfl ?_
    refine x_then ?_
    refine c_ret ?_
    refine b_ret tok rfl ?_
    intro E w' hm _
    refine ⟨?_, hm.below (Vw.le.refl _)⟩
    rw [if_neg (by omega)]; rfl

theorem geo_facts {g : Geo} (h : geoB g = true) : (1 ≤ g.nodes ∧ g.nodes ≤ 16) ∧ (1 ≤ g.slots ∧ g.slots ≤ g.nodes) ∧ (1 ≤ g.blocks ∧ g.blocks ≤ 64) ∧ (1 ≤ g.per ∧ g.per ≤ 8) ∧ (g.per + 2 ≤ g.journal ∧ g.journal ≤ 64) ∧
  (8 * g.slots ≤ g.log ∧ g.log ≤ 512) ∧ (1 ≤ g.lease ∧ g.lease < g.wait ∧ g.wait ≤ 1048576) := by simpa [geoB] using h

theorem prod_bound {a b A B : Int} (ha : 0 ≤ a) (hb : 0 ≤ b) (h1 : a ≤ A) (h2 : b ≤ B) : 0 ≤ a * b ∧ a * b ≤ A * B :=
  ⟨Int.mul_nonneg ha hb, Int.le_trans (Int.mul_le_mul_of_nonneg_right h1 hb) (Int.mul_le_mul_of_nonneg_left h2 (by omega))⟩

theorem reg_ones (l : List Reg) : ∀ u ∈ l.flatMap Reg.cells, u.oneCell' = true := by
  intro u hu
  obtain ⟨x, _, hx⟩ := List.mem_flatMap.1 hu
  simp only [Reg.cells, List.mem_cons, List.not_mem_nil, or_false] at hx
  rcases hx with rfl | rfl | rfl | rfl <;> rfl

theorem regions_c (g : Geo) (ok : g.Ok) (w : World) :
    Calls Try.prog 55 #[g.val] w fun e w' => ((geoB g = true ∧ ∃ v, e = .returned v ∧ w'.ownsRow w.heap.size 109 4 v 6 ((regs g).flatMap Reg.cells)) ∨ (geoB g = false ∧ e = .returned (.slice none 0 0))) ∧ Below w.heap.size w w' := by
  refine enter (E := E0) (O := []) (nl := 0) (V := vw w) [.a (.v g.val)] Try.func55 rfl rfl (mem0 E0 0 w) rfl rfl ?_
  refine c_seq ?_
  refine c_region ?_
  refine o_new tok rfl rfl rfl rfl ?_
  refine o_new tok rfl rfl rfl rfl ?_
  refine o_end [1, 2] rfl ?_
  refine x_then ?_
  refine c_seq ?_
  refine c_seq ?_
  refine c_region ?_
  refine o_yield rfl rfl rfl (y_val tok rfl) ?_
  refine o_call (.a (.v _)) rfl rfl fnok73 rfl rfl rfl (fun hg E w1 hm => by exact geoMay_c g ok _) ?_
  refine o_yield rfl rfl rfl (y_val tok rfl) ?_
  refine o_end [1, 2, 7] rfl ?_
  refine x_then ?_
  refine c_cond rfl (fun h => ?_) (fun h => ?_)
  ·
    simp only [Bool.and_eq_true, Bool.or_eq_true, Bool.not_eq_true', Bool.or_eq_false_iff, Bool.and_eq_false_iff, decide_eq_true_eq, decide_eq_false_iff_not, beq_iff_eq, bne_iff_ne, Bool.not_eq_false', beq_eq_false_iff_ne, bne_eq_false_iff_eq, ne_eq, Decidable.not_not, Int.not_lt, Int.not_le] at h
    refine c_seq ?_
    refine c_region ?_
    refine o_store tok rfl rfl rfl (by first | exact ⟨trivial, trivial⟩ | (repeat' first | exact trivial | exact rfl | apply And.intro); done | simp [onesP, oneP, lk, Value.oneCell']) ?_
    refine o_end [2] rfl ?_
    refine x_then ?_
    refine c_ret ?_
    refine x_then_ret ?_
    refine b_ret tok rfl ?_
    intro E w' hm _
    exact ⟨.inr ⟨by simpa using h, rfl⟩, hm.below (Vw.le.refl _)⟩
  ·
    simp only [Bool.and_eq_true, Bool.or_eq_true, Bool.not_eq_true', Bool.or_eq_false_iff, Bool.and_eq_false_iff, decide_eq_true_eq, decide_eq_false_iff_not, beq_iff_eq, bne_iff_ne, Bool.not_eq_false', beq_eq_false_iff_ne, bne_eq_false_iff_eq, ne_eq, Decidable.not_not, Int.not_lt, Int.not_le] at h
    refine c_skip ?_
    refine x_then ?_
    refine c_seq ?_
    refine c_region ?_
    refine o_new tok rfl rfl rfl rfl ?_
    refine o_store tok rfl rfl rfl (by first | exact ⟨trivial, trivial⟩ | (repeat' first | exact trivial | exact rfl | apply And.intro); done | simp [onesP, oneP, lk, Value.oneCell']) ?_
    refine o_end [1, 2, 3] rfl ?_
    refine x_then ?_
    refine c_seq ?_
    refine c_region ?_
    refine o_yield rfl rfl rfl (y_val tok rfl) ?_
    refine o_yield rfl rfl rfl (y_val tok rfl) ?_
    refine o_end [1, 2, 4] rfl ?_
    refine x_then ?_
    refine c_seq ?_
    refine c_region ?_
    refine o_yield rfl rfl rfl (y_val tok rfl) ?_
    have hgeo : geoB g = true := by simpa using h
    clear h
    have hf := geo_facts hgeo
    have hs := prod_bound (a := g.slots) (b := 1 + g.journal) (A := 16) (B := 65) (by omega) (by omega) (by omega) (by omega)
    have hb := prod_bound (a := g.blocks) (b := g.per) (A := 64) (B := 8) (by omega) (by omega) (by omega) (by omega)
    have hda : dataAt g = 1 + 2 * g.nodes + g.log + g.slots * (1 + g.journal) := rfl
    refine k_nilO 1 0 109 4 rfl rfl ?_
    refine o_inl rfl rfl rfl rfl rfl fnok74 Try.func74 rfl rfl rfl (fun E => ?_)
    refine c_seq ?_
    refine c_region ?_
    refine o_yield rfl rfl rfl (y_val tok rfl) ?_
    refine o_yield rfl rfl rfl (y_val tok rfl) ?_
    refine o_yield rfl rfl rfl (y_val tok rfl) ?_
    refine o_yield rfl rfl rfl (y_val tok rfl) ?_
    refine o_yield rfl rfl rfl (y_val tok rfl) ?_
    refine o_yield rfl rfl rfl (y_val tok rfl) ?_
    refine o_yield rfl rfl rfl (y_val tok rfl) ?_
    refine o_yield rfl rfl rfl (y_val tok rfl) ?_
    refine o_new tok rfl rfl rfl rfl ?_
    refine o_store tok rfl rfl rfl (by first | exact ⟨trivial, trivial⟩ | (repeat' first | exact trivial | exact rfl | apply And.intro); done | simp [onesP, oneP, lk, Value.oneCell']) ?_
    refine o_end [3, 4, 8] rfl ?_
    refine x_then ?_
    refine c_seq ?_
    refine c_region ?_
    refine o_yield rfl rfl rfl (y_val tok rfl) ?_
    refine o_yield rfl rfl rfl (y_val tok rfl) ?_
    rw [show IntKind.i64.wrap (1 * 1) = 1 by rw [wrapI (by omega) (by omega)]; try omega]
    refine o_step rfl rfl rfl rfl rfl (s_bs tok 4 rfl rfl rfl) (fun _ _ => ?_)
    refine o_step rfl rfl rfl rfl rfl (s_app tok (⟨0, 1, 1, 1⟩ : Reg).cells rfl (fun E w hm => ownsRow_src (hm.row _ _ _ _ _ rfl)) (fun _ _ _ => by simpa using reg_ones [(⟨0, 1, 1, 1⟩ : Reg)]) (by dsimp only; omega)) (fun _ _ => ?_)
    refine o_store tok rfl rfl rfl (by first | exact ⟨trivial, trivial⟩ | (repeat' first | exact trivial | exact rfl | apply And.intro); done | simp [onesP, oneP, lk, Value.oneCell']) ?_
    refine o_end [3, 8] rfl ?_
    refine x_then ?_
    refine c_region ?_
    refine o_yield rfl rfl rfl (y_val tok rfl) ?_
    refine o_yield rfl rfl rfl (y_val tok rfl) ?_
    refine o_call (.a (.v _)) rfl rfl fnok75 rfl rfl rfl (fun hg E w1 hm => by exact stretchEnd_c _ _ _) ?_
    refine o_store tok rfl rfl rfl (by first | exact ⟨trivial, trivial⟩ | (repeat' first | exact trivial | exact rfl | apply And.intro); done | simp [onesP, oneP, lk, Value.oneCell']) ?_
    refine o_end [] rfl ?_
    refine b_end tok rfl ?_
    rw [show IntKind.i64.wrap (0 + 1) = 1 by rw [wrapI (by omega) (by omega)]; try omega]
    intro E1 w1 hm1 hok1
    refine inl_end (E := E) hm1 hok1 rfl rfl (by repeat (first | exact KeepsIn.zero | refine KeepsIn.succ rfl ?_)) rfl (by repeat (first | exact SubO.nil | refine SubO.cons rfl ?_)) rfl ?_
    clear hm1 hok1 w1 E1 E
    refine k_swap 3 10 rfl ?_
    refine weaken (l := [(1, .a (.ptr 0 0)), (2, .a (.ptr 1 0)), (4, .a (.fn 74 [(2, 0), (1, 0)]))]) (O' := [(0, .lit (g.cells.map .v) 23), (1, .lit [.row 3] 119), (2, .lit [.v (I (1))] 3), (3, .row 109 4 1 (((regs g).take 1).flatMap Reg.cells))]) (nl' := 4) ?_ (by repeat (first | exact SubF.nil | refine SubF.cons rfl ?_)) (by repeat (first | exact SubO.nil | refine SubO.cons rfl ?_)) rfl (Vw.le.refl _)
    refine o_end [1, 2, 4] rfl ?_
    refine x_then ?_
    refine c_seq ?_
    refine c_region ?_
    refine o_yield rfl rfl rfl (y_val tok rfl) ?_
    refine o_yield rfl rfl rfl (y_val tok rfl) ?_
    refine o_yield rfl rfl rfl (y_val tok rfl) ?_
    refine o_inl rfl rfl rfl rfl rfl fnok74 Try.func74 rfl rfl rfl (fun E => ?_)
    refine c_seq ?_
    refine c_region ?_
    refine o_yield rfl rfl rfl (y_val tok rfl) ?_
    refine o_yield rfl rfl rfl (y_val tok rfl) ?_
    refine o_yield rfl rfl rfl (y_val tok rfl) ?_
    refine o_yield rfl rfl rfl (y_val tok rfl) ?_
    refine o_yield rfl rfl rfl (y_val tok rfl) ?_
    refine o_yield rfl rfl rfl (y_val tok rfl) ?_
    refine o_yield rfl rfl rfl (y_val tok rfl) ?_
    refine o_yield rfl rfl rfl (y_val tok rfl) ?_
    refine o_new tok rfl rfl rfl rfl ?_
    refine o_store tok rfl rfl rfl (by first | exact ⟨trivial, trivial⟩ | (repeat' first | exact trivial | exact rfl | apply And.intro); done | simp [onesP, oneP, lk, Value.oneCell']) ?_
    refine o_end [3, 4, 8] rfl ?_
    refine x_then ?_
    refine c_seq ?_
    refine c_region ?_
    refine o_yield rfl rfl rfl (y_val tok rfl) ?_
    refine o_yield rfl rfl rfl (y_val tok rfl) ?_
    rw [show IntKind.i64.wrap (g.nodes * 1) = g.nodes by rw [wrapI (by omega) (by omega)]; try omega]
    refine o_step rfl rfl rfl rfl rfl (s_bs tok 4 rfl rfl rfl) (fun _ _ => ?_)
    refine o_step rfl rfl rfl rfl rfl (s_app tok (⟨1, g.nodes, 2, 1⟩ : Reg).cells rfl (fun E w hm => ownsRow_src (hm.row _ _ _ _ _ rfl)) (fun _ _ _ => by simpa using reg_ones [(⟨1, g.nodes, 2, 1⟩ : Reg)]) (by dsimp only; omega)) (fun _ _ => ?_)
    refine o_store tok rfl rfl rfl (by first | exact ⟨trivial, trivial⟩ | (repeat' first | exact trivial | exact rfl | apply And.intro); done | simp [onesP, oneP, lk, Value.oneCell']) ?_
    refine o_end [3, 8] rfl ?_
    refine x_then ?_
    refine c_region ?_
    refine o_yield rfl rfl rfl (y_val tok rfl) ?_
    refine o_yield rfl rfl rfl (y_val tok rfl) ?_
    refine o_call (.a (.v _)) rfl rfl fnok75 rfl rfl rfl (fun hg E w1 hm => by exact stretchEnd_c _ _ _) ?_
    refine o_store tok rfl rfl rfl (by first | exact ⟨trivial, trivial⟩ | (repeat' first | exact trivial | exact rfl | apply And.intro); done | simp [onesP, oneP, lk, Value.oneCell']) ?_
    refine o_end [] rfl ?_
    refine b_end tok rfl ?_
    rw [show IntKind.i64.wrap (1 + g.nodes) = 1 + g.nodes by rw [wrapI (by omega) (by omega)]; try omega]
    intro E1 w1 hm1 hok1
    refine inl_end (E := E) hm1 hok1 rfl rfl (by repeat (first | exact KeepsIn.zero | refine KeepsIn.succ rfl ?_)) rfl (by repeat (first | exact SubO.nil | refine SubO.cons rfl ?_)) rfl ?_
    clear hm1 hok1 w1 E1 E
    refine k_swap 3 10 rfl ?_
    refine weaken (l := [(1, .a (.ptr 0 0)), (2, .a (.ptr 1 0)), (4, .a (.fn 74 [(2, 0), (1, 0)]))]) (O' := [(0, .lit (g.cells.map .v) 23), (1, .lit [.row 3] 119), (2, .lit [.v (I (1 + g.nodes))] 3), (3, .row 109 4 2 (((regs g).take 2).flatMap Reg.cells))]) (nl' := 4) ?_ (by repeat (first | exact SubF.nil | refine SubF.cons rfl ?_)) (by repeat (first | exact SubO.nil | refine SubO.cons rfl ?_)) rfl (Vw.le.refl _)
    refine o_end [1, 2, 4] rfl ?_
    refine x_then ?_
    refine c_seq ?_
    refine c_region ?_
    refine o_yield rfl rfl rfl (y_val tok rfl) ?_
    refine o_yield rfl rfl rfl (y_val tok rfl) ?_
    refine o_yield rfl rfl rfl (y_val tok rfl) ?_
    refine o_inl rfl rfl rfl rfl rfl fnok74 Try.func74 rfl rfl rfl (fun E => ?_)
    refine c_seq ?_
    refine c_region ?_
    refine o_yield rfl rfl rfl (y_val tok rfl) ?_
    refine o_yield rfl rfl rfl (y_val tok rfl) ?_
    refine o_yield rfl rfl rfl (y_val tok rfl) ?_
    refine o_yield rfl rfl rfl (y_val tok rfl) ?_
    refine o_yield rfl rfl rfl (y_val tok rfl) ?_
    refine o_yield rfl rfl rfl (y_val tok rfl) ?_
    refine o_yield rfl rfl rfl (y_val tok rfl) ?_
    refine o_yield rfl rfl rfl (y_val tok rfl) ?_
    refine o_new tok rfl rfl rfl rfl ?_
    refine o_store tok rfl rfl rfl (by first | exact ⟨trivial, trivial⟩ | (repeat' first | exact trivial | exact rfl | apply And.intro); done | simp [onesP, oneP, lk, Value.oneCell']) ?_
    refine o_end [3, 4, 8] rfl ?_
    refine x_then ?_
    refine c_seq ?_
    refine c_region ?_
    refine o_yield rfl rfl rfl (y_val tok rfl) ?_
    refine o_yield rfl rfl rfl (y_val tok rfl) ?_
    rw [show IntKind.i64.wrap (g.nodes * 1) = g.nodes by rw [wrapI (by omega) (by omega)]; try omega]
    refine o_step rfl rfl rfl rfl rfl (s_bs tok 4 rfl rfl rfl) (fun _ _ => ?_)
    refine o_step rfl rfl rfl rfl rfl (s_app tok (⟨1 + g.nodes, g.nodes, 3, 1⟩ : Reg).cells rfl (fun E w hm => ownsRow_src (hm.row _ _ _ _ _ rfl)) (fun _ _ _ => by simpa using reg_ones [(⟨1 + g.nodes, g.nodes, 3, 1⟩ : Reg)]) (by dsimp only; omega)) (fun _ _ => ?_)
    refine o_store tok rfl rfl rfl (by first | exact ⟨trivial, trivial⟩ | (repeat' first | exact trivial | exact rfl | apply And.intro); done | simp [onesP, oneP, lk, Value.oneCell']) ?_
    refine o_end [3, 8] rfl ?_
    refine x_then ?_
    refine c_region ?_
    refine o_yield rfl rfl rfl (y_val tok rfl) ?_
    refine o_yield rfl rfl rfl (y_val tok rfl) ?_
    refine o_call (.a (.v _)) rfl rfl fnok75 rfl rfl rfl (fun hg E w1 hm => by exact stretchEnd_c _ _ _) ?_
    refine o_store tok rfl rfl rfl (by first | exact ⟨trivial, trivial⟩ | (repeat' first | exact trivial | exact rfl | apply And.intro); done | simp [onesP, oneP, lk, Value.oneCell']) ?_
    refine o_end [] rfl ?_
    refine b_end tok rfl ?_
    rw [show IntKind.i64.wrap ((1 + g.nodes) + g.nodes) = 1 + 2 * g.nodes by rw [wrapI (by omega) (by omega)]; try omega]
    intro E1 w1 hm1 hok1
    refine inl_end (E := E) hm1 hok1 rfl rfl (by repeat (first | exact KeepsIn.zero | refine KeepsIn.succ rfl ?_)) rfl (by repeat (first | exact SubO.nil | refine SubO.cons rfl ?_)) rfl ?_
    clear hm1 hok1 w1 E1 E
    refine k_swap 3 10 rfl ?_
    refine weaken (l := [(1, .a (.ptr 0 0)), (2, .a (.ptr 1 0)), (4, .a (.fn 74 [(2, 0), (1, 0)]))]) (O' := [(0, .lit (g.cells.map .v) 23), (1, .lit [.row 3] 119), (2, .lit [.v (I (1 + 2 * g.nodes))] 3), (3, .row 109 4 3 (((regs g).take 3).flatMap Reg.cells))]) (nl' := 4) ?_ (by repeat (first | exact SubF.nil | refine SubF.cons rfl ?_)) (by repeat (first | exact SubO.nil | refine SubO.cons rfl ?_)) rfl (Vw.le.refl _)
    refine o_end [1, 2, 4] rfl ?_
    refine x_then ?_
    refine c_seq ?_
    refine c_region ?_
    refine o_yield rfl rfl rfl (y_val tok rfl) ?_
    refine o_yield rfl rfl rfl (y_val tok rfl) ?_
    refine o_yield rfl rfl rfl (y_val tok rfl) ?_
    refine o_inl rfl rfl rfl rfl rfl fnok74 Try.func74 rfl rfl rfl (fun E => ?_)
    refine c_seq ?_
    refine c_region ?_
    refine o_yield rfl rfl rfl (y_val tok rfl) ?_
    refine o_yield rfl rfl rfl (y_val tok rfl) ?_
    refine o_yield rfl rfl rfl (y_val tok rfl) ?_
    refine o_yield rfl rfl rfl (y_val tok rfl) ?_
    refine o_yield rfl rfl rfl (y_val tok rfl) ?_
    refine o_yield rfl rfl rfl (y_val tok rfl) ?_
    refine o_yield rfl rfl rfl (y_val tok rfl) ?_
    refine o_yield rfl rfl rfl (y_val tok rfl) ?_
    refine o_new tok rfl rfl rfl rfl ?_
    refine o_store tok rfl rfl rfl (by first | exact ⟨trivial, trivial⟩ | (repeat' first | exact trivial | exact rfl | apply And.intro); done | simp [onesP, oneP, lk, Value.oneCell']) ?_
    refine o_end [3, 4, 8] rfl ?_
    refine x_then ?_
    refine c_seq ?_
    refine c_region ?_
    refine o_yield rfl rfl rfl (y_val tok rfl) ?_
    refine o_yield rfl rfl rfl (y_val tok rfl) ?_
    rw [show IntKind.i64.wrap (g.log * 1) = g.log by rw [wrapI (by omega) (by omega)]; try omega]
    refine o_step rfl rfl rfl rfl rfl (s_bs tok 4 rfl rfl rfl) (fun _ _ => ?_)
    refine o_step rfl rfl rfl rfl rfl (s_app tok (⟨1 + 2 * g.nodes, g.log, 4, 1⟩ : Reg).cells rfl (fun E w hm => ownsRow_src (hm.row _ _ _ _ _ rfl)) (fun _ _ _ => by simpa using reg_ones [(⟨1 + 2 * g.nodes, g.log, 4, 1⟩ : Reg)]) (by dsimp only; omega)) (fun _ _ => ?_)
    refine o_store tok rfl rfl rfl (by first | exact ⟨trivial, trivial⟩ | (repeat' first | exact trivial | exact rfl | apply And.intro); done | simp [onesP, oneP, lk, Value.oneCell']) ?_
    refine o_end [3, 8] rfl ?_
    refine x_then ?_
    refine c_region ?_
    refine o_yield rfl rfl rfl (y_val tok rfl) ?_
    refine o_yield rfl rfl rfl (y_val tok rfl) ?_
    refine o_call (.a (.v _)) rfl rfl fnok75 rfl rfl rfl (fun hg E w1 hm => by exact stretchEnd_c _ _ _) ?_
    refine o_store tok rfl rfl rfl (by first | exact ⟨trivial, trivial⟩ | (repeat' first | exact trivial | exact rfl | apply And.intro); done | simp [onesP, oneP, lk, Value.oneCell']) ?_
    refine o_end [] rfl ?_
    refine b_end tok rfl ?_
    rw [show IntKind.i64.wrap ((1 + 2 * g.nodes) + g.log) = 1 + 2 * g.nodes + g.log by rw [wrapI (by omega) (by omega)]; try omega]
    intro E1 w1 hm1 hok1
    refine inl_end (E := E) hm1 hok1 rfl rfl (by repeat (first | exact KeepsIn.zero | refine KeepsIn.succ rfl ?_)) rfl (by repeat (first | exact SubO.nil | refine SubO.cons rfl ?_)) rfl ?_
    clear hm1 hok1 w1 E1 E
    refine k_swap 3 10 rfl ?_
    refine weaken (l := [(1, .a (.ptr 0 0)), (2, .a (.ptr 1 0)), (4, .a (.fn 74 [(2, 0), (1, 0)]))]) (O' := [(0, .lit (g.cells.map .v) 23), (1, .lit [.row 3] 119), (2, .lit [.v (I (1 + 2 * g.nodes + g.log))] 3), (3, .row 109 4 4 (((regs g).take 4).flatMap Reg.cells))]) (nl' := 4) ?_ (by repeat (first | exact SubF.nil | refine SubF.cons rfl ?_)) (by repeat (first | exact SubO.nil | refine SubO.cons rfl ?_)) rfl (Vw.le.refl _)
    refine o_end [1, 2, 4] rfl ?_
    refine x_then ?_
    refine c_seq ?_
    refine c_region ?_
    refine o_yield rfl rfl rfl (y_val tok rfl) ?_
    refine o_yield rfl rfl rfl (y_val tok rfl) ?_
    refine o_yield rfl rfl rfl (y_val tok rfl) ?_
    refine o_yield rfl rfl rfl (y_val tok rfl) ?_
    refine o_yield rfl rfl rfl (y_val tok rfl) ?_
    refine o_yield rfl rfl rfl (y_val tok rfl) ?_
    refine o_inl rfl rfl rfl rfl rfl fnok74 Try.func74 rfl rfl rfl (fun E => ?_)
    refine c_seq ?_
    refine c_region ?_
    refine o_yield rfl rfl rfl (y_val tok rfl) ?_
    refine o_yield rfl rfl rfl (y_val tok rfl) ?_
    refine o_yield rfl rfl rfl (y_val tok rfl) ?_
    refine o_yield rfl rfl rfl (y_val tok rfl) ?_
    refine o_yield rfl rfl rfl (y_val tok rfl) ?_
    refine o_yield rfl rfl rfl (y_val tok rfl) ?_
    refine o_yield rfl rfl rfl (y_val tok rfl) ?_
    refine o_yield rfl rfl rfl (y_val tok rfl) ?_
    refine o_new tok rfl rfl rfl rfl ?_
    refine o_store tok rfl rfl rfl (by first | exact ⟨trivial, trivial⟩ | (repeat' first | exact trivial | exact rfl | apply And.intro); done | simp [onesP, oneP, lk, Value.oneCell']) ?_
    refine o_end [3, 4, 8] rfl ?_
    refine x_then ?_
    refine c_seq ?_
    refine c_region ?_
    refine o_yield rfl rfl rfl (y_val tok rfl) ?_
    refine o_yield rfl rfl rfl (y_val tok rfl) ?_
    rw [wrapI (n := 1 + g.journal) (by omega) (by omega)]
    rw [show IntKind.i64.wrap (g.slots * (1 + g.journal)) = g.slots * (1 + g.journal) by rw [wrapI (by omega) (by omega)]; try omega]
    refine o_step rfl rfl rfl rfl rfl (s_bs tok 4 rfl rfl rfl) (fun _ _ => ?_)
    refine o_step rfl rfl rfl rfl rfl (s_app tok (⟨1 + 2 * g.nodes + g.log, g.slots * (1 + g.journal), 6, 1 + g.journal⟩ : Reg).cells rfl (fun E w hm => ownsRow_src (hm.row _ _ _ _ _ rfl)) (fun _ _ _ => by simpa using reg_ones [(⟨1 + 2 * g.nodes + g.log, g.slots * (1 + g.journal), 6, 1 + g.journal⟩ : Reg)]) (by dsimp only; omega)) (fun _ _ => ?_)
    refine o_store tok rfl rfl rfl (by first | exact ⟨trivial, trivial⟩ | (repeat' first | exact trivial | exact rfl | apply And.intro); done | simp [onesP, oneP, lk, Value.oneCell']) ?_
    refine o_end [3, 8] rfl ?_
    refine x_then ?_
    refine c_region ?_
    refine o_yield rfl rfl rfl (y_val tok rfl) ?_
    refine o_yield rfl rfl rfl (y_val tok rfl) ?_
    refine o_call (.a (.v _)) rfl rfl fnok75 rfl rfl rfl (fun hg E w1 hm => by exact stretchEnd_c _ _ _) ?_
    refine o_store tok rfl rfl rfl (by first | exact ⟨trivial, trivial⟩ | (repeat' first | exact trivial | exact rfl | apply And.intro); done | simp [onesP, oneP, lk, Value.oneCell']) ?_
    refine o_end [] rfl ?_
    refine b_end tok rfl ?_
    rw [show IntKind.i64.wrap ((1 + 2 * g.nodes + g.log) + g.slots * (1 + g.journal)) = dataAt g by rw [wrapI (by omega) (by omega)]; try omega]
    intro E1 w1 hm1 hok1
    refine inl_end (E := E) hm1 hok1 rfl rfl (by repeat (first | exact KeepsIn.zero | refine KeepsIn.succ rfl ?_)) rfl (by repeat (first | exact SubO.nil | refine SubO.cons rfl ?_)) rfl ?_
    clear hm1 hok1 w1 E1 E
    refine k_swap 3 10 rfl ?_
    refine weaken (l := [(1, .a (.ptr 0 0)), (2, .a (.ptr 1 0)), (4, .a (.fn 74 [(2, 0), (1, 0)]))]) (O' := [(0, .lit (g.cells.map .v) 23), (1, .lit [.row 3] 119), (2, .lit [.v (I (dataAt g))] 3), (3, .row 109 4 5 (((regs g).take 5).flatMap Reg.cells))]) (nl' := 4) ?_ (by repeat (first | exact SubF.nil | refine SubF.cons rfl ?_)) (by repeat (first | exact SubO.nil | refine SubO.cons rfl ?_)) rfl (Vw.le.refl _)
    refine o_end [1, 2, 4] rfl ?_
    refine x_then ?_
    refine c_seq ?_
    refine c_region ?_
    refine o_yield rfl rfl rfl (y_val tok rfl) ?_
    refine o_yield rfl rfl rfl (y_val tok rfl) ?_
    refine o_yield rfl rfl rfl (y_val tok rfl) ?_
    refine o_yield rfl rfl rfl (y_val tok rfl) ?_
    refine o_yield rfl rfl rfl (y_val tok rfl) ?_
    refine o_inl rfl rfl rfl rfl rfl fnok74 Try.func74 rfl rfl rfl (fun E => ?_)
    refine c_seq ?_
    refine c_region ?_
    refine o_yield rfl rfl rfl (y_val tok rfl) ?_
    refine o_yield rfl rfl rfl (y_val tok rfl) ?_
    refine o_yield rfl rfl rfl (y_val tok rfl) ?_
    refine o_yield rfl rfl rfl (y_val tok rfl) ?_
    refine o_yield rfl rfl rfl (y_val tok rfl) ?_
    refine o_yield rfl rfl rfl (y_val tok rfl) ?_
    refine o_yield rfl rfl rfl (y_val tok rfl) ?_
    refine o_yield rfl rfl rfl (y_val tok rfl) ?_
    refine o_new tok rfl rfl rfl rfl ?_
    refine o_store tok rfl rfl rfl (by first | exact ⟨trivial, trivial⟩ | (repeat' first | exact trivial | exact rfl | apply And.intro); done | simp [onesP, oneP, lk, Value.oneCell']) ?_
    refine o_end [3, 4, 8] rfl ?_
    refine x_then ?_
    refine c_seq ?_
    refine c_region ?_
    refine o_yield rfl rfl rfl (y_val tok rfl) ?_
    refine o_yield rfl rfl rfl (y_val tok rfl) ?_
    rw [show IntKind.i64.wrap (g.blocks * g.per) = g.blocks * g.per by rw [wrapI (by omega) (by omega)]; try omega]
    refine o_step rfl rfl rfl rfl rfl (s_bs tok 4 rfl rfl rfl) (fun _ _ => ?_)
    refine o_step rfl rfl rfl rfl rfl (s_app tok (⟨dataAt g, g.blocks * g.per, 7, g.per⟩ : Reg).cells rfl (fun E w hm => ownsRow_src (hm.row _ _ _ _ _ rfl)) (fun _ _ _ => by simpa using reg_ones [(⟨dataAt g, g.blocks * g.per, 7, g.per⟩ : Reg)]) (by dsimp only; omega)) (fun _ _ => ?_)
    refine o_store tok rfl rfl rfl (by first | exact ⟨trivial, trivial⟩ | (repeat' first | exact trivial | exact rfl | apply And.intro); done | simp [onesP, oneP, lk, Value.oneCell']) ?_
    refine o_end [3, 8] rfl ?_
    refine x_then ?_
    refine c_region ?_
    refine o_yield rfl rfl rfl (y_val tok rfl) ?_
    refine o_yield rfl rfl rfl (y_val tok rfl) ?_
    refine o_call (.a (.v _)) rfl rfl fnok75 rfl rfl rfl (fun hg E w1 hm => by exact stretchEnd_c _ _ _) ?_
    refine o_store tok rfl rfl rfl (by first | exact ⟨trivial, trivial⟩ | (repeat' first | exact trivial | exact rfl | apply And.intro); done | simp [onesP, oneP, lk, Value.oneCell']) ?_
    refine o_end [] rfl ?_
    refine b_end tok rfl ?_
    rw [show IntKind.i64.wrap (dataAt g + g.blocks * g.per) = dataAt g + g.blocks * g.per by rw [wrapI (by omega) (by omega)]; try omega]
    intro E1 w1 hm1 hok1
    refine inl_end (E := E) hm1 hok1 rfl rfl (by repeat (first | exact KeepsIn.zero | refine KeepsIn.succ rfl ?_)) rfl (by repeat (first | exact SubO.nil | refine SubO.cons rfl ?_)) rfl ?_
    clear hm1 hok1 w1 E1 E
    refine o_end [2] rfl ?_
    refine x_then ?_
    refine c_seq ?_
    refine c_region ?_
    refine o_yield rfl rfl rfl (y_val tok rfl) ?_
    refine o_store tok rfl rfl rfl (by first | exact ⟨trivial, trivial⟩ | (repeat' first | exact trivial | exact rfl | apply And.intro); done | simp [onesP, oneP, lk, Value.oneCell']) ?_
    refine o_end [2] rfl ?_
    refine x_then ?_
    refine c_ret ?_
    refine b_ret tok rfl ?_
    intro E w' hm _
    refine ⟨.inl ⟨hgeo, E.κ 10, rfl, ?_⟩, hm.below (Vw.le.refl _)⟩
    have hrow := hm.rowFresh (Vw.le.refl _) (l := 10) rfl
    simpa [regs] using hrow

def regL (g : Geo) : List Reg := if geoB g = true then regs g else []

/-- The regions as ones that nobody writes. -/
theorem regions_cV (V : Vw) (g : Geo) (ok : g.Ok) (w : World) (hV : V.le (vw w)) :
    Calls Try.prog 55 #[g.val] w fun e w' => ∃ x V', e = .returned x ∧ Below w.heap.size w w' ∧ Vext w.heap.size V V' w' ∧ SlOf V' Reg.cells 4 x (regL g) := by
  refine (regions_c g ok w).mono ?_
  rintro e w' ⟨⟨h, v, rfl, hown⟩ | ⟨h, rfl⟩, hb⟩
  · obtain ⟨V', hx, hsl⟩ := ownsRow_vext hV hb hown
    exact ⟨_, V', rfl, hb, hx, by rw [regL, if_pos h]; exact ⟨hsl, fun _ => rfl⟩⟩
  · exact ⟨_, V, rfl, hb, Vext.same hV hb, by rw [regL, if_neg (by simp [h])]; exact slNil V Reg.cells 4 0 (fun _ => rfl)⟩

def findR (k : Int) : List Reg → Reg
  | [] => ⟨0, 0, 0, 1⟩
  | r :: t => if r.kind = k then r else findR k t

theorem find_c (g : Geo) (ok : g.Ok) (k : Int) (w : World) : Calls Try.prog 42 #[g.val, I8 k] w fun e w' => e = .returned (findR k (regL g)).val ∧ Below w.heap.size w w' := by
  refine enter (E := E0) (O := []) (nl := 0) (V := vw w) [.a (.v g.val), .a (.v (I8 k))] Try.func42 rfl rfl (mem0 E0 0 w) rfl rfl ?_
  refine c_seq ?_
  refine c_region ?_
  refine o_new tok rfl rfl rfl rfl ?_
  refine o_new tok rfl rfl rfl rfl ?_
  refine o_end [1, 2, 4] rfl ?_
  refine x_then ?_
  refine c_seq ?_
  refine c_seq ?_
  refine c_region ?_
  refine o_yield rfl rfl rfl (y_val tok rfl) ?_
  refine o_callV (fun x V' => SlOf V' Reg.cells 4 x (regL g)) rfl rfl fnok55 rfl rfl (fun hg E w1 hm => by exact regions_cV (vw w) g ok _ hm.leV) ?_
  rintro x V1 hle1 hx
  have hs := hx rfl
  clear hx
  refine o_yield rfl rfl rfl (y_len tok rfl (fun hg => hs.sl)) ?_
  refine o_yield rfl rfl rfl (y_val tok rfl) ?_
  refine o_end [1, 4, 8, 9, 10] rfl ?_
  refine x_then ?_
  refine c_block ?_
  have hl6 : (regL g).length ≤ 6 := by unfold regL; split <;> simp [regs]
  refine c_loopV [1, 4, 8, 9] [] rfl rfl (σ := Nat) (fun i => [(10, .a (.v (I i)))]) (fun i => []) (fun i => V1) (fun i => i ≤ (regL g).length ∧ findR k (regL g) = findR k ((regL g).drop i)) (fun i => (regL g).length - i) (0) (⟨by omega, rfl⟩) (by repeat (first | exact SubF.nil | refine SubF.cons rfl ?_)) (by repeat (first | exact SubO.nil | refine SubO.cons rfl ?_)) rfl (Vw.le.refl _) ?_
  rintro i ⟨hi, heq⟩
  refine c_seq ?_
  refine c_region ?_
  refine o_yield rfl rfl rfl (y_val tok rfl) ?_
  refine o_end [1, 4, 8, 9, 10, 11] rfl ?_
  refine x_then ?_
  refine c_seq ?_
  refine c_cond rfl (fun h => ?_) (fun h => ?_)
  ·
    simp only [Bool.and_eq_true, Bool.or_eq_true, Bool.not_eq_true', Bool.or_eq_false_iff, Bool.and_eq_false_iff, decide_eq_true_eq, decide_eq_false_iff_not, beq_iff_eq, bne_iff_ne, Bool.not_eq_false', beq_eq_false_iff_ne, bne_eq_false_iff_eq, ne_eq, Decidable.not_not, Int.not_lt, Int.not_le] at h
    refine c_skip ?_
    refine x_then ?_
    refine c_seq ?_
    refine c_block ?_
    refine c_seq ?_
    refine c_region ?_
    obtain ⟨r, h_r⟩ := hs.at (k := i) (by omega)
    rw [drop_at h_r, findR] at heq
    have hlt_r := lt_of_at h_r
    refine o_yield rfl rfl rfl (y_idx tok rfl (fun hg => hs.sl) (fun hg => ⟨by omega, by omega⟩)) ?_
    refine o_yield rfl rfl rfl (y_lel tok (i) 0 (r) rfl (fun hg => hs) (fun hg => h_r) rfl rfl) ?_
    refine o_new tok rfl rfl rfl rfl ?_
    refine o_store tok rfl rfl rfl (by first | exact ⟨trivial, trivial⟩ | (repeat' first | exact trivial | exact rfl | apply And.intro); done | simp [onesP, oneP, lk, Value.oneCell']) ?_
    refine o_end [1, 4, 6, 8, 9, 10] rfl ?_
    refine x_then ?_
    refine c_seq ?_
    refine c_region ?_
    refine o_yield rfl rfl rfl (y_val tok rfl) ?_
    refine o_yield rfl rfl rfl (y_val tok rfl) ?_
    refine o_yield rfl rfl rfl (y_val tok rfl) ?_
    refine o_yield rfl rfl rfl (y_val tok rfl) ?_
    refine o_end [1, 4, 6, 8, 9, 10, 17] rfl ?_
    refine x_then ?_
    refine c_cond rfl (fun h => ?_) (fun h => ?_)
    ·
      simp only [Bool.and_eq_true, Bool.or_eq_true, Bool.not_eq_true', Bool.or_eq_false_iff, Bool.and_eq_false_iff, decide_eq_true_eq, decide_eq_false_iff_not, beq_iff_eq, bne_iff_ne, Bool.not_eq_false', beq_eq_false_iff_ne, bne_eq_false_iff_eq, ne_eq, Decidable.not_not, Int.not_lt, Int.not_le] at h
      refine c_seq ?_
      refine c_region ?_
      refine o_yield rfl rfl rfl (y_val tok rfl) ?_
      refine o_store tok rfl rfl rfl (by first | exact ⟨trivial, trivial⟩ | (repeat' first | exact trivial | exact rfl | apply And.intro); done | simp [onesP, oneP, lk, Value.oneCell']) ?_
      refine o_end [4] rfl ?_
      refine x_then ?_
      refine c_ret ?_
      refine x_block_ret ?_
      refine x_then_ret ?_
      refine x_then_ret ?_
      refine x_block_ret ?_
      refine x_then_ret ?_
      refine b_ret tok rfl ?_
      rw [if_pos h] at heq
      intro E w' hm _
      refine ⟨?_, hm.below (hle1)⟩
      rw [heq]; rfl
    ·
      simp only [Bool.and_eq_true, Bool.or_eq_true, Bool.not_eq_true', Bool.or_eq_false_iff, Bool.and_eq_false_iff, decide_eq_true_eq, decide_eq_false_iff_not, beq_iff_eq, bne_iff_ne, Bool.not_eq_false', beq_eq_false_iff_ne, bne_eq_false_iff_eq, ne_eq, Decidable.not_not, Int.not_lt, Int.not_le] at h
      refine c_skip ?_
      refine x_block ?_
      refine x_then ?_
      refine c_region ?_
      refine o_yield rfl rfl rfl (y_val tok rfl) ?_
      refine o_yield rfl rfl rfl (y_val tok rfl) ?_
      refine o_end [1, 4, 8, 9, 10] rfl ?_
      refine x_then ?_
      rw [if_neg h] at heq
      rw [wrapI (n := (i : Int) + 1) (by omega) (by omega)]
      refine x_round (i + 1) (⟨by omega, heq⟩) (by first | omega | (dsimp only; omega)) (by repeat (first | exact SubF.nil | refine SubF.cons rfl ?_)) (by repeat (first | exact SubO.nil | refine SubO.cons rfl ?_)) rfl (Vw.le.refl _)
  ·
    simp only [Bool.and_eq_true, Bool.or_eq_true, Bool.not_eq_true', Bool.or_eq_false_iff, Bool.and_eq_false_iff, decide_eq_true_eq, decide_eq_false_iff_not, beq_iff_eq, bne_iff_ne, Bool.not_eq_false', beq_eq_false_iff_ne, bne_eq_false_iff_eq, ne_eq, Decidable.not_not, Int.not_lt, Int.not_le] at h
    refine c_exit ?_
    refine x_then_exit ?_
    refine x_then_exit ?_
    refine x_block_hit ?_
    refine x_then ?_
    refine c_seq ?_
    refine c_region ?_
    refine o_yield rfl rfl rfl (y_val tok rfl) ?_
    refine o_store tok rfl rfl rfl (by first | exact ⟨trivial, trivial⟩ | (repeat' first | exact trivial | exact rfl | apply And.intro); done | simp [onesP, oneP, lk, Value.oneCell']) ?_
    refine o_end [4] rfl ?_
    refine x_then ?_
    refine c_ret ?_
    refine b_ret tok rfl ?_
    have hkL : i = (regL g).length := by omega
    subst hkL
    rw [List.drop_length, findR] at heq
    intro E w' hm _
    refine ⟨?_, hm.below (hle1)⟩
    rw [heq]; rfl

theorem of_c' (g : Geo) (ok : g.Ok) (kd i k : Int) (r : Reg) (hr : findR kd (regL g) = r) (m : Int) (hm0 : 0 ≤ m) (hm : r.many = m * r.per) (hp : 1 ≤ r.per) (hb : m * r.per ≤ 4096) (hf : 0 ≤ r.first) (hf2 : r.first ≤ 4096) (v : Int) (hv : v = if i < 0 ∨ m ≤ i ∨ k < 0 ∨ r.per ≤ k then -1 else r.first + i * r.per + k) (w : World) :
    Calls Try.prog 32 #[g.val, I8 kd, I i, I k] w fun e w' => e = .returned (I v) ∧ Below w.heap.size w w' := by
  have hq : r.many.tdiv r.per = m := by rw [hm]; exact Int.mul_tdiv_cancel m (by omega)
  have hpb : r.per ≤ m * r.per ∨ m = 0 := by
    by_cases h : m = 0
    · exact .inr h
    · left
      have := Int.mul_le_mul_of_nonneg_right (show 1 ≤ m by omega) (show 0 ≤ r.per by omega)
      omega
  have hmb : m ≤ m * r.per := by
    have := Int.mul_le_mul_of_nonneg_left hp hm0
    omega
  refine enter (E := E0) (O := []) (nl := 0) (V := vw w) [.a (.v g.val), .a (.v (I8 kd)), .a (.v (I i)), .a (.v (I k))] Try.func32 rfl rfl (mem0 E0 0 w) rfl rfl ?_
  refine c_seq ?_
  refine c_region ?_
  refine o_new tok rfl rfl rfl rfl ?_
  refine o_yield rfl rfl rfl (y_val tok rfl) ?_
  refine o_end [1, 2, 3, 4] rfl ?_
  refine x_then ?_
  refine c_seq ?_
  refine c_region ?_
  refine o_yield rfl rfl rfl (y_val tok rfl) ?_
  refine o_yield rfl rfl rfl (y_val tok rfl) ?_
  refine o_call (.a (.v _)) rfl rfl fnok42 rfl rfl rfl (fun hg E w1 hm => by exact find_c g ok kd _) ?_
  refine o_new tok rfl rfl rfl rfl ?_
  refine o_store tok rfl rfl rfl (by first | exact ⟨trivial, trivial⟩ | (repeat' first | exact trivial | exact rfl | apply And.intro); done | simp [onesP, oneP, lk, Value.oneCell']) ?_
  refine o_end [2, 3, 9] rfl ?_
  refine x_then ?_
  refine c_seq ?_
  refine c_seq ?_
  refine c_region ?_
  refine o_yield rfl rfl rfl (y_val tok rfl) ?_
  refine o_yield rfl rfl rfl (y_val tok rfl) ?_
  refine o_yield rfl rfl rfl (y_val tok rfl) ?_
  refine o_yield rfl rfl rfl (y_val tok rfl) ?_
  refine o_yield rfl rfl rfl (y_val tok rfl) ?_
  refine o_yield rfl rfl rfl (y_val tok rfl) ?_
  refine o_yield rfl rfl rfl (y_val tok rfl) ?_
  refine o_yield rfl rfl rfl (y_val tok rfl) ?_
  refine o_yield rfl rfl rfl (y_val tok rfl) ?_
  rw [hr]
  have hqw : IntKind.i64.wrap (r.many.tdiv r.per) = m := by rw [hq, wrapI (by omega) (by omega)]
  refine o_yield rfl rfl rfl (y_quo rfl (fun hg => by omega)) ?_
  refine o_yield rfl rfl rfl (y_val tok rfl) ?_
  refine o_yield rfl rfl rfl (y_val tok rfl) ?_
  refine o_yield rfl rfl rfl (y_val tok rfl) ?_
  refine o_yield rfl rfl rfl (y_val tok rfl) ?_
  refine o_yield rfl rfl rfl (y_val tok rfl) ?_
  refine o_yield rfl rfl rfl (y_val tok rfl) ?_
  refine o_yield rfl rfl rfl (y_val tok rfl) ?_
  refine o_yield rfl rfl rfl (y_val tok rfl) ?_
  refine o_yield rfl rfl rfl (y_val tok rfl) ?_
  refine o_yield rfl rfl rfl (y_val tok rfl) ?_
  refine o_yield rfl rfl rfl (y_val tok rfl) ?_
  refine o_yield rfl rfl rfl (y_val tok rfl) ?_
  refine o_end [2, 3, 9, 34] rfl ?_
  refine x_then ?_
  refine c_cond rfl (fun h => ?_) (fun h => ?_)
  ·
    simp only [Bool.and_eq_true, Bool.or_eq_true, Bool.not_eq_true', Bool.or_eq_false_iff, Bool.and_eq_false_iff, decide_eq_true_eq, decide_eq_false_iff_not, beq_iff_eq, bne_iff_ne, Bool.not_eq_false', beq_eq_false_iff_ne, bne_eq_false_iff_eq, ne_eq, Decidable.not_not, Int.not_lt, Int.not_le] at h
    refine c_seq ?_
    refine c_region ?_
    refine o_yield rfl rfl rfl (y_val tok rfl) ?_
    refine o_end [8] rfl ?_
    refine x_then ?_
    refine c_ret ?_
    refine x_then_ret ?_
    refine b_ret tok rfl ?_
    intro E w' hm _
    refine ⟨?_, hm.below (Vw.le.refl _)⟩
    rw [hv, if_pos (by omega)]; rfl
  ·
    simp only [Bool.and_eq_true, Bool.or_eq_true, Bool.not_eq_true', Bool.or_eq_false_iff, Bool.and_eq_false_iff, decide_eq_true_eq, decide_eq_false_iff_not, beq_iff_eq, bne_iff_ne, Bool.not_eq_false', beq_eq_false_iff_ne, bne_eq_false_iff_eq, ne_eq, Decidable.not_not, Int.not_lt, Int.not_le] at h
    refine c_skip ?_
    refine x_then ?_
    refine c_seq ?_
    refine c_region ?_
    refine o_yield rfl rfl rfl (y_val tok rfl) ?_
    refine o_yield rfl rfl rfl (y_val tok rfl) ?_
    refine o_yield rfl rfl rfl (y_val tok rfl) ?_
    refine o_yield rfl rfl rfl (y_val tok rfl) ?_
    refine o_yield rfl rfl rfl (y_val tok rfl) ?_
    refine o_yield rfl rfl rfl (y_val tok rfl) ?_
    refine o_yield rfl rfl rfl (y_val tok rfl) ?_
    refine o_yield rfl rfl rfl (y_val tok rfl) ?_
    have hik := prod_bound (a := i) (b := r.per) (A := m) (B := r.per) (by omega) (by omega) (by omega) (by omega)
    have h2 : i * r.per + r.per ≤ m * r.per := by
      have := Int.mul_le_mul_of_nonneg_right (show i + 1 ≤ m by omega) (show 0 ≤ r.per by omega)
      rw [Int.add_mul, Int.one_mul] at this
      exact this
    rw [wrapI (n := i * r.per) (by omega) (by omega), wrapI (n := i * r.per + k) (by omega) (by omega)]
    refine o_call (.a (.v _)) rfl rfl fnok43 rfl rfl rfl (fun hg E w1 hm => by exact stretchAt_c r.first r.many _ _) ?_
    refine o_yield rfl rfl rfl (y_val tok rfl) ?_
    refine o_end [8] rfl ?_
    refine x_then ?_
    refine c_ret ?_
    refine b_ret tok rfl ?_
    intro E w' hm _
    refine ⟨?_, hm.below (Vw.le.refl _)⟩
    rw [hv, if_neg (by omega), if_neg (by omega), wrapI (by omega) (by omega), Int.add_assoc]; rfl
end Go.Proofs.Ythmejhpfhkddiaa

/- A new table. -/
set_option linter.unusedVariables false
set_option linter.unusedSimpArgs false
set_option maxRecDepth 100000
namespace Go.Proofs.Ythmejhpfhkddiaa
open Go Go.Eng Go.RowKit

theorem repZ_slots : ∀ k : Nat, repZ k [I 0, I 0] = (List.replicate k (⟨0, 0⟩ : Slot)).flatMap Slot.cells
  | 0 => rfl
  | k + 1 => by rw [List.replicate_succ, List.flatMap_cons, ← repZ_slots k]; rfl

theorem new_c (V : Vw) (g : Geo) (w : World) (hV : V.le (vw w)) : Calls Try.prog 13 #[g.val] w (TbOut V (newT g.slots) w) := by
  have hk : min (max g.slots 0) 16 = ((newN g.slots : Nat) : Int) := by rw [newN]; omega
  have hk16 : newN g.slots ≤ 16 := by rw [newN]; omega
  refine enter (E := E0) (O := []) (nl := 0) (V := vw w) [.a (.v g.val)] Try.func13 rfl rfl (mem0 E0 0 w) rfl rfl ?_
  refine c_seq ?_
  refine c_region ?_
  refine o_new tok rfl rfl rfl rfl ?_
  refine o_new tok rfl rfl rfl rfl ?_
  refine o_end [1, 2] rfl ?_
  refine x_then ?_
  refine c_seq ?_
  refine c_region ?_
  refine o_yield rfl rfl rfl (y_val tok rfl) ?_
  refine o_yield rfl rfl rfl (y_val tok rfl) ?_
  refine o_yield rfl rfl rfl (y_mm rfl) ?_
  refine o_yield rfl rfl rfl (y_mm rfl) ?_
  rw [show (bif false then max (bif true then max g.slots 0 else min g.slots 0) 16 else min (bif true then max g.slots 0 else min g.slots 0) 16) = ((newN g.slots : Nat) : Int) from hk]
  refine o_step rfl rfl rfl rfl rfl (s_mk tok (newN g.slots) (newN g.slots) rfl rfl rfl (Nat.le_refl _) (by show 16 * newN g.slots ≤ _; omega) (by simp only [maxLen]; omega)) (fun _ _ => ?_)
  refine o_yield rfl rfl rfl (y_val tok rfl) ?_
  refine o_store tok rfl rfl rfl (by first | exact ⟨trivial, trivial⟩ | (repeat' first | exact trivial | exact rfl | apply And.intro); done | simp [onesP, oneP, lk, Value.oneCell']) ?_
  refine o_end [2] rfl ?_
  refine x_then ?_
  refine c_ret ?_
  refine b_ret tok rfl ?_
  intro E' w' hm _
  have hrow := hm.rowFresh (Vw.le.refl _) (l := 2) rfl
  rw [show repZ (newN g.slots) _ = _ from repZ_slots (newN g.slots)] at hrow
  exact TbIs.out (t := newT g.slots) hV (hm.below (Vw.le.refl _)) (by show World.ownsRow _ _ _ _ _ (List.replicate (newN g.slots) (⟨0, 0⟩ : Slot)).length _; rw [List.length_replicate]; exact hrow) (World.ownsRow_nil w' w.heap.size _ _) (World.ownsRow_nil w' w.heap.size _ _)

end Go.Proofs.Ythmejhpfhkddiaa
