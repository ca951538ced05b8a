import Derived.Test.YtlcpfhjbhogdiaaMG
/- Decided sectors: the program's. -/
set_option linter.unusedVariables false
set_option linter.unusedSimpArgs false
set_option maxRecDepth 100000
namespace Go.Proofs.Ytlcpfhjbhogdiaa
open Go Go.Eng Go.RowKit

def dbV (s : ByteArray) : ByteArray := if crdE s = 0 then (sealS 5 s).1 else ByteArray.empty
def dbE (s : ByteArray) : Int := if crdE s = 0 then (sealS 5 s).2 else 2

theorem decBytes_c (s : ByteArray) (hs : s.size ≤ maxLen) (w : World) : Calls Try.prog 37 #[S s] w fun e w' => e = .returned (.tuple #[S (dbV s), I (dbE s)]) ∧ Below w.heap.size w w' := by
  refine enter (E := E0) (O := []) (nl := 0) (V := vw w) [.a (.v (S s))] Try.func37 rfl rfl (mem0 E0 0 w) rfl rfl ?_
  refine c_seq ?_
  refine c_region ?_
  refine o_yield rfl rfl rfl (y_val tok rfl) ?_
  refine o_yield rfl rfl rfl (y_val tok rfl) ?_
  refine o_end [0] rfl ?_
  refine x_then ?_
  refine c_seq ?_
  refine c_seq ?_
  refine c_region ?_
  refine o_yield rfl rfl rfl (y_val tok rfl) ?_
  refine o_call (.a (.v _)) rfl rfl fnok89 rfl rfl rfl (fun hg E w1 hm => by exact cmdRead_c s hs _) ?_
  refine o_yield rfl rfl rfl (y_val tok rfl) ?_
  refine o_yield rfl rfl rfl (y_val tok rfl) ?_
  refine o_yield rfl rfl rfl (y_val tok rfl) ?_
  refine o_new tok rfl rfl rfl rfl ?_
  refine o_store tok rfl rfl rfl (by first | exact ⟨trivial, trivial⟩ | simp [onesP, oneP, lk, Value.oneCell']) ?_
  refine o_yield rfl rfl rfl (y_val tok rfl) ?_
  refine o_end [0, 5] rfl ?_
  refine x_then ?_
  refine c_seq ?_
  refine c_region ?_
  refine o_yield rfl rfl rfl (y_val tok rfl) ?_
  refine o_yield rfl rfl rfl (y_val tok rfl) ?_
  refine o_end [0, 12] rfl ?_
  refine x_then ?_
  refine c_cond rfl (fun h => ?_) (fun h => ?_)
  ·
    simp only [Bool.and_eq_true, Bool.or_eq_true, Bool.not_eq_true', Bool.or_eq_false_iff, Bool.and_eq_false_iff, decide_eq_true_eq, decide_eq_false_iff_not, beq_iff_eq, bne_iff_ne, Bool.not_eq_false', beq_eq_false_iff_ne, bne_eq_false_iff_eq, ne_eq, Decidable.not_not, Int.not_lt, Int.not_le] at h
    refine c_seq ?_
    refine c_region ?_
    refine o_yield rfl rfl rfl (y_val tok rfl) ?_
    refine o_yield rfl rfl rfl (y_val tok rfl) ?_
    refine o_end [2, 3] rfl ?_
    refine x_then ?_
    refine c_ret ?_
    refine x_then_ret ?_
    refine b_ret tok rfl ?_
    intro E w' hm _
    refine ⟨?_, hm.below (Vw.le.refl _)⟩
    rw [dbV, dbE, if_neg h, if_neg h]; rfl
  ·
    simp only [Bool.and_eq_true, Bool.or_eq_true, Bool.not_eq_true', Bool.or_eq_false_iff, Bool.and_eq_false_iff, decide_eq_true_eq, decide_eq_false_iff_not, beq_iff_eq, bne_iff_ne, Bool.not_eq_false', beq_eq_false_iff_ne, bne_eq_false_iff_eq, ne_eq, Decidable.not_not, Int.not_lt, Int.not_le] at h
    refine c_skip ?_
    refine x_then ?_
    refine c_seq ?_
    refine c_region ?_
    refine o_yield rfl rfl rfl (y_val tok rfl) ?_
    refine o_call (.a (.v _)) rfl rfl fnok90 rfl rfl rfl (fun hg E w1 hm => by exact sealSeal_c 5 (by unfold R8; omega) s hs _) ?_
    refine o_yield rfl rfl rfl (y_val tok rfl) ?_
    refine o_yield rfl rfl rfl (y_val tok rfl) ?_
    refine o_yield rfl rfl rfl (y_val tok rfl) ?_
    refine o_yield rfl rfl rfl (y_val tok rfl) ?_
    refine o_end [2, 3] rfl ?_
    refine x_then ?_
    refine c_ret ?_
    refine b_ret tok rfl ?_
    intro E w' hm _
    refine ⟨?_, hm.below (Vw.le.refl _)⟩
    rw [dbV, dbE, if_pos h, if_pos h]; rfl

/-- What reading a sector finds. -/
def drB (s : ByteArray) : Bool := !(s.toList == ByteArray.empty.toList) && (ofE 5 s == 0 && crdE (ofL 5 s) == 0)
def drC (s : ByteArray) : Cmd := if drB s = true then crdV (ofL 5 s) else cmd0
def drS (s : ByteArray) : ByteArray := if drB s = true then ofL 5 s else ByteArray.empty
def drE (s : ByteArray) : Int := if (s.toList == ByteArray.empty.toList) = true ∨ drB s = true then 0 else 50

abbrev readerC (c : Cmd) (s : ByteArray) (ok : Bool) (lv : Value) : List Value := c.cells ++ [S s, .bool ok, lv]
abbrev readerAs (c : Cmd) (s : ByteArray) (ok : Bool) (a : A) : List A := c.cells.map .v ++ [.v (S s), .v (.bool ok), a]

theorem ofL_size (k : Int) (s : ByteArray) (hs : s.size ≤ maxLen) : (ofL k s).size ≤ maxLen := by
  rw [ofL]
  split
  · rw [loadOf, ByteArray.size_extract]; omega
  · exact Nat.zero_le _

theorem dread_c (s : ByteArray) (hs : s.size ≤ maxLen) (c0 : Cmd) (s0 : ByteArray) (ok0 : Bool) (lv : Value) (b : Nat) (w : World) (hb : w.heap[b]? = some (.cells (readerC c0 s0 ok0 lv).toArray 142 (0, 0))) :
    Calls Try.prog 92 #[.pointer (some ⟨b, 0, none⟩), S s] w fun e w' => e = .returned (I (drE s)) ∧ Go.Eng.Touch (· = b) w w' ∧ w'.heap[b]? = some (.cells (readerC (drC s) (drS s) (drB s) lv).toArray 142 (0, 0)) := by
  have hos := ofL_size 5 s hs
  refine enter1 [.a (.ptr 0 0), .a (.v (S s))] hb Try.func92 rfl rfl rfl rfl ?_
  refine c_seq ?_
  refine c_region ?_
  refine o_yield rfl rfl rfl (y_val tok rfl) ?_
  refine o_end [0, 1] rfl ?_
  refine x_then ?_
  refine c_seq ?_
  refine c_region ?_
  refine o_yield rfl rfl rfl (y_val tok rfl) ?_
  refine o_yield rfl rfl rfl (y_val tok rfl) ?_
  refine o_yield rfl rfl rfl (y_val tok rfl) ?_
  refine o_yield rfl rfl rfl (y_val tok rfl) ?_
  refine o_store tok rfl rfl rfl (by first | exact ⟨trivial, trivial⟩ | simp [onesP, oneP, lk, Value.oneCell']) ?_
  refine o_end [0, 1] rfl ?_
  refine x_then ?_
  refine c_seq ?_
  refine c_seq ?_
  refine c_region ?_
  refine o_yield rfl rfl rfl (y_val tok rfl) ?_
  refine o_yield rfl rfl rfl (y_val tok rfl) ?_
  refine o_end [0, 1, 13] rfl ?_
  refine x_then ?_
  refine c_cond rfl (fun h => ?_) (fun h => ?_)
  ·
    refine c_seq ?_
    refine c_region ?_
    refine o_yield rfl rfl rfl (y_val tok rfl) ?_
    refine o_end [4] rfl ?_
    refine x_then ?_
    refine c_ret ?_
    refine x_then_ret ?_
    refine b_ret tok rfl ?_
    intro E w' hm _
    obtain ⟨h1, h2⟩ := back1 hm (Vw.le.refl _) rfl rfl rfl
    have hem : (s.toList == ByteArray.empty.toList) = true := h
    have hB : drB s = false := by rw [drB, hem]; rfl
    refine ⟨?_, h1, ?_⟩
    · rw [drE, if_pos (.inl hem)]; rfl
    · rw [h2, drC, drS, hB]; rfl
  ·
    refine c_skip ?_
    refine x_then ?_
    refine c_seq ?_
    refine c_region ?_
    refine o_yield rfl rfl rfl (y_val tok rfl) ?_
    have hem : (s.toList == ByteArray.empty.toList) = false := h
    have no : ∀ {x : Bool}, drB s = x → (ofE 5 s == 0 && crdE (ofL 5 s) == 0) = x := fun hx => by rw [drB, hem] at hx; simpa using hx
    clear h
    refine o_call (.a (.v _)) rfl rfl fnok126 rfl rfl rfl (fun hg E w1 hm => by exact sealOf_c 5 s hs _) ?_
    refine o_yield rfl rfl rfl (y_val tok rfl) ?_
    refine o_yield rfl rfl rfl (y_val tok rfl) ?_
    refine o_yield rfl rfl rfl (y_val tok rfl) ?_
    refine o_yield rfl rfl rfl (y_val tok rfl) ?_
    refine o_yield rfl rfl rfl (y_val tok rfl) ?_
    refine o_end [0, 5, 6] rfl ?_
    refine x_then ?_
    refine c_seq ?_
    refine c_seq ?_
    refine c_region ?_
    refine o_yield rfl rfl rfl (y_val tok rfl) ?_
    refine o_yield rfl rfl rfl (y_val tok rfl) ?_
    refine o_end [0, 5, 20] rfl ?_
    refine x_then ?_
    refine c_cond rfl (fun h => ?_) (fun h => ?_)
    ·
      simp only [Bool.and_eq_true, Bool.or_eq_true, Bool.not_eq_true', Bool.or_eq_false_iff, Bool.and_eq_false_iff, decide_eq_true_eq, decide_eq_false_iff_not, beq_iff_eq, bne_iff_ne, Bool.not_eq_false', beq_eq_false_iff_ne, bne_eq_false_iff_eq, ne_eq, Decidable.not_not, Int.not_lt, Int.not_le] at h
      refine c_seq ?_
      refine c_region ?_
      refine o_yield rfl rfl rfl (y_val tok rfl) ?_
      refine o_end [4] rfl ?_
      refine x_then ?_
      refine c_ret ?_
      refine x_then_ret ?_
      refine b_ret tok rfl ?_
      intro E w' hm _
      obtain ⟨h3, h4⟩ := back1 hm (Vw.le.refl _) rfl rfl rfl
      have hB : drB s = false := by rw [drB, hem]; simp [h]
      have hE : drE s = 50 := by rw [drE, if_neg (by rw [hem, hB]; decide)]
      refine ⟨?_, h3, ?_⟩
      · rw [hE]; rfl
      · rw [h4, drC, drS, hB]; rfl
    ·
      simp only [Bool.and_eq_true, Bool.or_eq_true, Bool.not_eq_true', Bool.or_eq_false_iff, Bool.and_eq_false_iff, decide_eq_true_eq, decide_eq_false_iff_not, beq_iff_eq, bne_iff_ne, Bool.not_eq_false', beq_eq_false_iff_ne, bne_eq_false_iff_eq, ne_eq, Decidable.not_not, Int.not_lt, Int.not_le] at h
      refine c_skip ?_
      refine x_then ?_
      refine c_seq ?_
      refine c_region ?_
      refine o_yield rfl rfl rfl (y_val tok rfl) ?_
      have ho := h
      clear h
      refine o_call (.a (.v _)) rfl rfl fnok89 rfl rfl rfl (fun hg E w1 hm => by exact cmdRead_c (ofL 5 s) hos _) ?_
      refine o_yield rfl rfl rfl (y_val tok rfl) ?_
      refine o_yield rfl rfl rfl (y_val tok rfl) ?_
      refine o_yield rfl rfl rfl (y_val tok rfl) ?_
      refine o_new tok rfl rfl rfl rfl ?_
      refine o_store tok rfl rfl rfl (by first | exact ⟨trivial, trivial⟩ | simp [onesP, oneP, lk, Value.oneCell']) ?_
      refine o_yield rfl rfl rfl (y_val tok rfl) ?_
      refine o_end [0, 5, 6, 7] rfl ?_
      refine x_then ?_
      refine c_seq ?_
      refine c_seq ?_
      refine c_region ?_
      refine o_yield rfl rfl rfl (y_val tok rfl) ?_
      refine o_yield rfl rfl rfl (y_val tok rfl) ?_
      refine o_end [0, 5, 7, 27] rfl ?_
      refine x_then ?_
      refine c_cond rfl (fun h => ?_) (fun h => ?_)
      ·
        simp only [Bool.and_eq_true, Bool.or_eq_true, Bool.not_eq_true', Bool.or_eq_false_iff, Bool.and_eq_false_iff, decide_eq_true_eq, decide_eq_false_iff_not, beq_iff_eq, bne_iff_ne, Bool.not_eq_false', beq_eq_false_iff_ne, bne_eq_false_iff_eq, ne_eq, Decidable.not_not, Int.not_lt, Int.not_le] at h
        refine c_seq ?_
        refine c_region ?_
        refine o_yield rfl rfl rfl (y_val tok rfl) ?_
        refine o_end [4] rfl ?_
        refine x_then ?_
        refine c_ret ?_
        refine x_then_ret ?_
        refine b_ret tok rfl ?_
        intro E w' hm _
        obtain ⟨h3, h4⟩ := back1 hm (Vw.le.refl _) rfl rfl rfl
        have hB : drB s = false := by rw [drB, hem]; simp [h]
        have hE : drE s = 50 := by rw [drE, if_neg (by rw [hem, hB]; decide)]
        refine ⟨?_, h3, ?_⟩
        · rw [hE]; rfl
        · rw [h4, drC, drS, hB]; rfl
      ·
        simp only [Bool.and_eq_true, Bool.or_eq_true, Bool.not_eq_true', Bool.or_eq_false_iff, Bool.and_eq_false_iff, decide_eq_true_eq, decide_eq_false_iff_not, beq_iff_eq, bne_iff_ne, Bool.not_eq_false', beq_eq_false_iff_ne, bne_eq_false_iff_eq, ne_eq, Decidable.not_not, Int.not_lt, Int.not_le] at h
        refine c_skip ?_
        refine x_then ?_
        refine c_seq ?_
        refine c_region ?_
        refine o_yield rfl rfl rfl (y_val tok rfl) ?_
        refine o_yield rfl rfl rfl (y_val tok rfl) ?_
        refine o_yield rfl rfl rfl (y_val tok rfl) ?_
        refine o_yield rfl rfl rfl (y_val tok rfl) ?_
        refine o_yield rfl rfl rfl (y_val tok rfl) ?_
        refine o_yield rfl rfl rfl (y_val tok rfl) ?_
        refine o_store tok rfl rfl rfl (by first | exact ⟨trivial, trivial⟩ | simp [onesP, oneP, lk, Value.oneCell']) ?_
        refine o_end [] rfl ?_
        refine x_then ?_
        refine c_seq ?_
        refine c_region ?_
        refine o_yield rfl rfl rfl (y_val tok rfl) ?_
        refine o_end [4] rfl ?_
        refine x_then ?_
        refine c_ret ?_
        refine b_ret tok rfl ?_
        intro E w' hm _
        obtain ⟨h3, h4⟩ := back1 hm (Vw.le.refl _) rfl rfl rfl
        have hB : drB s = true := by rw [drB, hem, ho, h]; rfl
        have hE : drE s = 0 := by rw [drE, if_pos (.inr hB)]
        refine ⟨?_, h3, ?_⟩
        · rw [hE]; rfl
        · rw [h4, drC, drS, hB]; rfl

section
variable {o : Oper} {n : Nat} {F : Frame0} {C : List Nat} {O : Own} {nl : Nat} {V : Vw}

theorem s_dread {p : List (Nat × Bool)} (l : Nat) (s : ByteArray) (c0 : Cmd) (s0 : ByteArray) (ok0 : Bool) (a : A) (ha : a.ok nl = true) (ss : List SV) (hv : evalC F p o.op = some (92, ss)) (hss : ∀ E, ss.map (SV.den E) = [.pointer (some ⟨E.ρ l, 0, none⟩), S s])
    (hl : lk O l = some (.lit (readerAs c0 s0 ok0 a) 142)) (hs : s.size ≤ maxLen) :
    StepTo Try.prog o p n F C O nl V (σ := Unit) (fun _ => True) (fun _ => .a (.v (I (drE s)))) (fun _ => (l, .lit (readerAs (drC s) (drS s) (drB s) a) 142) :: O) nl (fun _ => V) := by
  refine s_callW (fun _ => True) (fun _ => .a (.v (I (drE s)))) l 142 (fun _ => readerAs (drC s) (drS s) (drB s) a) hv fnok92 hl (fun _ => by simp only [readerAs, Cmd.cells, List.map_cons, List.map_nil, List.cons_append, List.nil_append, allOk, ha]; rfl) (fun _ => rfl) ?_
  intro E w hm hb
  rw [hss E]
  refine (dread_c s hs c0 s0 ok0 (a.den E) (E.ρ l) w hb).mono ?_
  rintro e w' ⟨rfl, h1, h2⟩
  exact ⟨(), rfl, h1, h2, trivial⟩
end

theorem decRead_c (s : ByteArray) (hs : s.size ≤ maxLen) (w : World) : Calls Try.prog 39 #[S s] w fun e w' => e = .returned (.tuple #[(drC s).val, S (drS s), .bool (drB s), I (drE s)]) ∧ Below w.heap.size w w' := by
  refine enter (E := E0) (O := []) (nl := 0) (V := vw w) [.a (.v (S s))] Try.func39 rfl rfl (mem0 E0 0 w) rfl rfl ?_
  refine c_seq ?_
  refine c_region ?_
  refine o_new tok rfl rfl rfl rfl ?_
  refine o_yield rfl rfl rfl (y_val tok rfl) ?_
  refine o_yield rfl rfl rfl (y_val tok rfl) ?_
  refine o_yield rfl rfl rfl (y_val tok rfl) ?_
  refine o_end [0, 2] rfl ?_
  refine x_then ?_
  refine c_seq ?_
  refine c_region ?_
  refine o_yield rfl rfl rfl (y_val tok rfl) ?_
  refine o_new tok rfl rfl rfl rfl ?_
  refine o_yield rfl rfl rfl (y_val tok rfl) ?_
  refine o_end [0, 2, 6] rfl ?_
  refine x_then ?_
  refine c_seq ?_
  refine c_region ?_
  refine o_yield rfl rfl rfl (y_val tok rfl) ?_
  refine o_yield rfl rfl rfl (y_val tok rfl) ?_
  refine o_step rfl rfl rfl rfl rfl (s_dread 1 s cmd0 ByteArray.empty false (.v (.slice none 0 0)) rfl _ rfl (fun E => rfl) rfl hs) (fun _ _ => ?_)
  refine o_yield rfl rfl rfl (y_val tok rfl) ?_
  refine o_end [2, 5, 6] rfl ?_
  refine x_then ?_
  refine c_seq ?_
  refine c_held [] ([(1, .lit (readerAs (drC s) (drS s) (drB s) (.v (.slice none 0 0))) 142)]) mixed (by repeat (first | exact SubO.nil | refine SubO.cons rfl ?_)) rfl ?_
  refine t_take 0 rfl (by kernel_rfl) rfl rfl rfl (y_val tok rfl) rfl ?_
  refine t_take 1 rfl (by kernel_rfl) rfl rfl rfl (y_val tok rfl) rfl ?_
  refine t_take 2 rfl (by kernel_rfl) rfl rfl rfl (y_val tok rfl) rfl ?_
  refine t_take 3 rfl (by kernel_rfl) rfl rfl rfl (y_val tok rfl) rfl ?_
  refine t_take 4 rfl (by kernel_rfl) rfl rfl rfl (y_val tok rfl) rfl ?_
  refine t_take 5 rfl (by kernel_rfl) rfl rfl rfl (y_val tok rfl) rfl ?_
  refine t_take 6 rfl (by kernel_rfl) rfl rfl rfl (y_val tok rfl) rfl ?_
  refine t_take 7 rfl (by kernel_rfl) rfl rfl rfl (y_val tok rfl) rfl ?_
  refine t_take 8 rfl (by kernel_rfl) rfl rfl rfl (y_val tok rfl) rfl ?_
  refine t_take 9 rfl (by kernel_rfl) rfl rfl rfl (y_val tok rfl) rfl ?_
  refine t_take 10 rfl (by kernel_rfl) rfl rfl rfl (y_val tok rfl) rfl ?_
  refine t_take 11 rfl (by kernel_rfl) rfl rfl rfl (y_val tok rfl) rfl ?_
  refine t_take 12 rfl (by kernel_rfl) rfl rfl rfl (y_val tok rfl) rfl ?_
  refine t_take 13 rfl (by kernel_rfl) rfl rfl rfl (y_val tok rfl) rfl ?_
  refine t_take 14 rfl (by kernel_rfl) rfl rfl rfl (y_val tok rfl) rfl ?_
  refine t_take 15 rfl (by kernel_rfl) rfl rfl rfl (y_val tok rfl) rfl ?_
  refine t_go ?_
  refine h_one 16 (by kernel_rfl) ?_
  refine h_store 16 tok rfl rfl rfl rfl (by first | exact ⟨trivial, trivial⟩ | simp [onesP, oneP, lk, Value.oneCell']) (.inr ⟨(by repeat (first | exact SubO.nil | refine SubO.cons rfl ?_)), rfl, Vw.le.refl _⟩) ?_
  refine h_one 17 (by kernel_rfl) ?_
  refine h_yield 17 rfl rfl rfl rfl (y_val tok rfl) ?_
  refine h_one 18 (by kernel_rfl) ?_
  refine h_yield 18 rfl rfl rfl rfl (y_val tok rfl) ?_
  refine h_one 19 (by kernel_rfl) ?_
  refine h_yield 19 rfl rfl rfl rfl (y_val tok rfl) ?_
  refine h_done [2, 3, 4, 5] (by kernel_rfl) rfl ?_
  refine x_then ?_
  refine c_ret ?_
  refine b_ret tok rfl ?_
  intro E w' hm _
  refine ⟨?_, hm.below (Vw.le.refl _)⟩
  rfl
end Go.Proofs.Ytlcpfhjbhogdiaa

/- Commands put and read back: the plain law. -/
set_option linter.unusedVariables false
set_option linter.unusedSimpArgs false
set_option maxRecDepth 100000
namespace Go.Proofs.Ytlcpfhjbhogdiaa
open Go Go.Eng Go.RowKit

def cmdR (c : Cmd) : List UInt8 :=
  if c.kind = 2 then leB 1 c.lo ++ (leB 1 c.hi ++ (leB 1 c.mode ++ []))
  else if c.kind = 3 then leB 1 c.lo ++ (leB 1 c.hi ++ [])
  else if c.kind = 4 then leB 6 c.dead ++ (leB 6 c.was ++ [])
  else if c.kind = 5 then leB 6 c.dead ++ []
  else []

theorem cmd_shape (c : Cmd) : cmdL c = leB 1 c.kind ++ (leB 6 c.by_ ++ (leB 4 c.serial ++ cmdR c)) := by
  unfold cmdL cmdR
  split
  · simp [putL]
  · split
    · simp [putL]
    · split
      · simp [putL]
      · split <;> simp [putL]

theorem cmdR_len (c : Cmd) : (cmdR c).length ≤ 12 := by
  unfold cmdR
  split
  · simp [leB, leTake_len]
  · split
    · simp [leB, leTake_len]
    · split
      · simp [leB, leTake_len]
      · split <;> simp [leB, leTake_len]

theorem cmdL_len (c : Cmd) : 11 ≤ (cmdL c).length ∧ (cmdL c).length ≤ 23 := by
  have := cmdR_len c
  rw [cmd_shape]
  simp only [List.length_append, leB, leTake_len]
  omega

theorem tk_pack {n : Int} {k : Nat} (h : fitsB n k = true) (R : List UInt8) (bad : Bool) : tkS (strOf (leB k n ++ R), bad) k = (strOf R, bad) := by
  have := restOf_pack n k R
  rw [Int.toNat_natCast] at this
  rw [tkS, if_neg (by rw [getSpec_pack h]; simp), this]

theorem rd_cmd {c : Cmd} (ok : CmdOk c) : rdPre (strOf (cmdL c)) = (c, (strOf [], false)) := by
  have m6 : mostN (6 : Int).toNat = 1099511627776 := by decide
  have m4 : mostN (4 : Int).toNat = 4294967295 := by decide
  have m1 : mostN (1 : Int).toNat = 255 := by decide
  obtain ⟨o1, o2, o3, o4, o5, o6, o7, o8, o9, o10, o11, o12⟩ := ok
  have f1 : ∀ n : Int, 0 ≤ n → n ≤ 255 → fitsB n 1 = true := fun n h1 h2 => by rw [fitsB, m1]; simp [widthB]; omega
  have f6 : ∀ n : Int, 0 ≤ n → n ≤ 1099511627776 → fitsB n 6 = true := fun n h1 h2 => by rw [fitsB, m6]; simp [widthB]; omega
  have f4 : ∀ n : Int, 0 ≤ n → n ≤ 4294967295 → fitsB n 4 = true := fun n h1 h2 => by rw [fitsB, m4]; simp [widthB]; omega
  have t1 : ∀ (n : Int) (R : List UInt8), 0 ≤ n → n ≤ 255 → tkS (strOf (leB 1 n ++ R), false) 1 = (strOf R, false) := fun n R h1 h2 => tk_pack (k := 1) (f1 n h1 h2) R false
  have t6 : ∀ (n : Int) (R : List UInt8), 0 ≤ n → n ≤ 1099511627776 → tkS (strOf (leB 6 n ++ R), false) 6 = (strOf R, false) := fun n R h1 h2 => tk_pack (k := 6) (f6 n h1 h2) R false
  have t4 : ∀ (n : Int) (R : List UInt8), 0 ≤ n → n ≤ 4294967295 → tkS (strOf (leB 4 n ++ R), false) 4 = (strOf R, false) := fun n R h1 h2 => tk_pack (k := 4) (f4 n h1 h2) R false
  have g1 : ∀ (n : Int) (R : List UInt8), 0 ≤ n → n ≤ 255 → getSpec (strOf (leB 1 n ++ R)) 0 1 = (n, 0) := fun n R h1 h2 => getSpec_pack (f1 n h1 h2) R
  have g6 : ∀ (n : Int) (R : List UInt8), 0 ≤ n → n ≤ 1099511627776 → getSpec (strOf (leB 6 n ++ R)) 0 6 = (n, 0) := fun n R h1 h2 => getSpec_pack (f6 n h1 h2) R
  have g4 : ∀ (n : Int) (R : List UInt8), 0 ≤ n → n ≤ 4294967295 → getSpec (strOf (leB 4 n ++ R)) 0 4 = (n, 0) := fun n R h1 h2 => getSpec_pack (f4 n h1 h2) R
  have hm : min c.kind 127 = c.kind := by omega
  obtain ⟨kind, by_, serial, dead, was, lo, hi, mode⟩ := c
  dsimp only at *
  rw [rdPre, cmd_shape, g1 _ _ (by dsimp only; omega) (by dsimp only; omega), t1 _ _ (by dsimp only; omega) (by dsimp only; omega)]
  dsimp only
  rw [g6 _ _ (by omega) (by omega), t6 _ _ (by omega) (by omega)]
  dsimp only
  rw [g4 _ _ (by omega) (by omega), t4 _ _ (by omega) (by omega), hm]
  dsimp only
  unfold cmdR
  dsimp only
  split
  · rename_i e
    rw [g1 _ _ (by omega) (by omega), t1 _ _ (by omega) (by omega)]
    dsimp only
    rw [g1 _ _ (by omega) (by omega), t1 _ _ (by omega) (by omega)]
    dsimp only
    rw [g1 _ _ (by omega) (by omega), t1 _ _ (by omega) (by omega), show min mode 127 = mode by omega, o11 (by omega) (by omega), o12 (by omega)]
  · rename_i e2
    split
    · rename_i e
      rw [g1 _ _ (by omega) (by omega), t1 _ _ (by omega) (by omega)]
      dsimp only
      rw [g1 _ _ (by omega) (by omega), t1 _ _ (by omega) (by omega), o11 (by omega) (by omega), o12 (by omega), o10 e2]
    · rename_i e3
      obtain ⟨o13, o14⟩ := o9 e2 e3
      split
      · rename_i e
        rw [g6 _ _ (by omega) (by omega), t6 _ _ (by omega) (by omega)]
        dsimp only
        rw [g6 _ _ (by omega) (by omega), t6 _ _ (by omega) (by omega), o10 e2, o13, o14]
      · rename_i e4
        split
        · rename_i e
          rw [g6 _ _ (by omega) (by omega), t6 _ _ (by omega) (by omega)]
          dsimp only
          rw [o10 e2, o13, o14, o12 e4]
        · rename_i e5
          rw [o10 e2, o13, o14, o12 e4, o11 e4 e5]

theorem crd_cmd {c : Cmd} (h : cmdB c = true) : crdV (strOf (cmdL c)) = c ∧ crdE (strOf (cmdL c)) = 0 :=
  crd_yes (rd_cmd (cmdOk h)) (by show ((false || !((strOf []).toList == ByteArray.empty.toList)) || !cmdB c) = false; rw [empty_beq, strOf_size, h]; rfl)

/-- A decided sector of a command. -/
def decS (c : Cmd) : ByteArray := strOf (sealL 5 (cmdL c))

theorem dec_back {c : Cmd} (h : cmdB c = true) : dbV (strOf (cmdL c)) = decS c ∧ dbE (strOf (cmdL c)) = 0 ∧ drB (decS c) = true ∧ drC (decS c) = c ∧ drS (decS c) = strOf (cmdL c) ∧ drE (decS c) = 0 ∧ (decS c).size = 7 + (cmdL c).length := by
  obtain ⟨h1, h2⟩ := crd_cmd h
  have hl := cmdL_len c
  have hs : sealS 5 (strOf (cmdL c)) = (decS c, 0) := by
    rw [sealS, if_neg (by rw [strOf_size]; omega), strOf_list, decS]; rfl
  have hsz : (decS c).size = 7 + (cmdL c).length := by rw [decS, strOf_size, sealL_len]
  have ho : openB (decS c) = true := openB_seal (by decide) (by decide) (by omega)
  have hof : ofB 5 (decS c) = true := by rw [ofB, ho, decS, byteAt_seal]; rfl
  have hL : ofL 5 (decS c) = strOf (cmdL c) := by rw [ofL, if_pos hof, decS, loadOf_seal]
  have hB : drB (decS c) = true := by
    rw [drB, hL, h2, ofE, if_pos hof, empty_beq, decide_eq_false (by omega)]; rfl
  refine ⟨by rw [dbV, if_pos h2, hs], by rw [dbE, if_pos h2, hs], hB, by rw [drC, if_pos hB, hL, h1], by rw [drS, if_pos hB, hL], by rw [drE, if_pos (.inr hB)], hsz⟩

theorem dec_flip {c : Cmd} (h : cmdB c = true) {s' : ByteArray} {A R : List UInt8} {b d : UInt8} (hs : (decS c).data.toList = A ++ b :: R) (hs' : s'.data.toList = A ++ d :: R) (hne : b ≠ d) : drE s' = 50 ∧ drB s' = false := by
  have hl := cmdL_len c
  have ho : openB (decS c) = true := openB_seal (by decide) (by decide) (by omega)
  have hno := open_flip ho hs hs' hne
  have hof : ofE 5 s' = 30 := by rw [ofE, if_neg (by simp [ofB, hno])]
  have hB : drB s' = false := by rw [drB, hof]; simp
  have hsz : s'.size ≠ 0 := by rw [← size_list, hs']; simp
  exact ⟨by rw [drE, empty_beq, decide_eq_false hsz, hB]; rfl, hB⟩

theorem crd_empty : crdE ByteArray.empty = 100 := by decide
end Go.Proofs.Ytlcpfhjbhogdiaa

/- Decided rows: the program's. -/
set_option linter.unusedVariables false
set_option linter.unusedSimpArgs false
set_option maxRecDepth 100000
namespace Go.Proofs.Ytlcpfhjbhogdiaa
open Go Go.Eng Go.RowKit

theorem cmd_ones (l : List Cmd) : ∀ u ∈ l.flatMap Cmd.cells, u.oneCell' = true := by
  intro u hu
  simp only [List.mem_flatMap] at hu
  obtain ⟨a, _, hu⟩ := hu
  simp only [Cmd.cells, List.mem_cons, List.not_mem_nil, or_false] at hu
  rcases hu with rfl | rfl | rfl | rfl | rfl | rfl | rfl | rfl <;> rfl

/-- The commands of a row of sectors. -/
def rowV : List ByteArray → List Cmd → List Cmd × Int
  | [], acc => (acc, 0)
  | s :: r, acc => if drE s ≠ 0 then ([], drE s) else if drB s = false then (acc, 0) else rowV r (acc ++ [drC s])

theorem none_c (c : Cmd) (x : ByteArray) (ok : Bool) (lv : Value) (b : Nat) (w : World) (hb : w.heap[b]? = some (.cells (readerC c x ok lv).toArray 142 (0, 0))) :
    Calls Try.prog 97 #[.pointer (some ⟨b, 0, none⟩)] w fun e w' => e = .returned (.bool (!ok)) ∧ Below w.heap.size w w' := by
  refine enter1 [.a (.ptr 0 0)] hb Try.func97 rfl rfl rfl rfl ?_
  refine c_seq ?_
  refine c_region ?_
  refine o_yield rfl rfl rfl (y_val tok rfl) ?_
  refine o_end [0] rfl ?_
  refine x_then ?_
  refine c_seq ?_
  refine c_region ?_
  refine o_yield rfl rfl rfl (y_val tok rfl) ?_
  refine o_yield rfl rfl rfl (y_val tok rfl) ?_
  refine o_yield rfl rfl rfl (y_val tok rfl) ?_
  refine o_yield rfl rfl rfl (y_val tok rfl) ?_
  refine o_yield rfl rfl rfl (y_val tok rfl) ?_
  refine o_yield rfl rfl rfl (y_val tok rfl) ?_
  refine o_end [2] rfl ?_
  refine x_then ?_
  refine c_ret ?_
  refine b_ret tok rfl ?_
  intro E w' hm _
  exact ⟨rfl, below1 hb hm (Vw.le.refl _) rfl rfl rfl⟩

def RowPost (r : List Cmd × Int) (w : World) (e : Ending) (w' : World) : Prop :=
  (∃ v, e = .returned (.tuple #[v, I r.2]) ∧ w'.ownsRow w.heap.size 61 8 v r.1.length (r.1.flatMap Cmd.cells)) ∧ Below w.heap.size w w'

theorem row_c (V : Vw) (sv : Value) (L : List ByteArray) (w : World) (hV : V.le (vw w)) (hs0 : SlOf V encS 1 sv L) (hL : ∀ s ∈ L, s.size ≤ maxLen) (hln : L.length ≤ 1000000) :
    Calls Try.prog 44 #[sv] w (RowPost (rowV L []) w) := by
  have hs := hs0.mono hV
  refine enter (E := E0) (O := []) (nl := 0) (V := vw w) [.a (.v sv)] Try.func44 rfl rfl (mem0 E0 0 w) rfl rfl ?_
  refine c_seq ?_
  refine c_region ?_
  refine o_yield rfl rfl rfl (y_val tok rfl) ?_
  refine o_yield rfl rfl rfl (y_val tok rfl) ?_
  refine o_end [0] rfl ?_
  refine x_then ?_
  refine c_seq ?_
  refine c_region ?_
  refine o_yield rfl rfl rfl (y_val tok rfl) ?_
  refine o_new tok rfl rfl rfl rfl ?_
  refine o_yield rfl rfl rfl (y_val tok rfl) ?_
  refine o_end [0, 4] rfl ?_
  refine x_then ?_
  refine c_seq ?_
  refine c_seq ?_
  refine c_region ?_
  refine o_yield rfl rfl rfl (y_val tok rfl) ?_
  refine o_yield rfl rfl rfl (y_len tok rfl (fun hg => hs.sl)) ?_
  refine o_yield rfl rfl rfl (y_val tok rfl) ?_
  refine o_end [4, 10, 11, 12] rfl ?_
  refine x_then ?_
  refine c_block ?_
  refine k_nilO 0 10 61 8 rfl rfl ?_
  refine c_loopK [4, 10, 11] [0, 1] rfl rfl (σ := Nat × List Cmd × Cmd × ByteArray × Bool) (fun (k, acc, c, s, ok) => [(12, .a (.v (I k)))]) (fun (k, acc, c, s, ok) => [(0, .lit (readerAs c s ok (.row 1)) 142), (1, .row 61 8 acc.length (acc.flatMap Cmd.cells))]) (fun (k, acc, c, s, ok) => k ≤ L.length ∧ rowV L [] = rowV (L.drop k) acc ∧ acc.length = k) (fun (k, acc, c, s, ok) => L.length - k) ((0, [], cmd0, ByteArray.empty, false)) (⟨by omega, rfl, rfl⟩) (by repeat (first | exact SubF.nil | refine SubF.cons rfl ?_)) (by repeat (first | exact SubO.nil | refine SubO.cons rfl ?_)) rfl ?_
  rintro ⟨k, acc, c, s, ok⟩ ⟨hk, heq, hal⟩
  refine c_seq ?_
  refine c_region ?_
  refine o_yield rfl rfl rfl (y_val tok rfl) ?_
  refine o_end [4, 10, 11, 12, 13] rfl ?_
  refine x_then ?_
  refine c_seq ?_
  refine c_cond rfl (fun h => ?_) (fun h => ?_)
  ·
    simp only [Bool.and_eq_true, Bool.or_eq_true, Bool.not_eq_true', Bool.or_eq_false_iff, Bool.and_eq_false_iff, decide_eq_true_eq, decide_eq_false_iff_not, beq_iff_eq, bne_iff_ne, Bool.not_eq_false', beq_eq_false_iff_ne, bne_eq_false_iff_eq, ne_eq, Decidable.not_not, Int.not_lt, Int.not_le] at h
    refine c_skip ?_
    refine x_then ?_
    refine c_seq ?_
    refine c_block ?_
    refine c_seq ?_
    refine c_region ?_
    obtain ⟨x, h_x⟩ := hs.at (k := k) (by omega)
    have hlt_x := lt_of_at h_x
    refine o_yield rfl rfl rfl (y_idx tok rfl (fun hg => hs.sl) (fun hg => ⟨by omega, by omega⟩)) ?_
    refine o_yield rfl rfl rfl (y_lel tok (k) 0 (x) rfl (fun hg => hs) (fun hg => h_x) rfl rfl) ?_
    refine o_yield rfl rfl rfl (y_val tok rfl) ?_
    refine o_end [4, 6, 10, 11, 12] rfl ?_
    refine x_then ?_
    refine c_seq ?_
    refine c_seq ?_
    refine c_region ?_
    refine o_yield rfl rfl rfl (y_val tok rfl) ?_
    refine o_yield rfl rfl rfl (y_val tok rfl) ?_
    have hx := hL x (List.mem_of_getElem? h_x)
    rw [drop_at h_x, rowV] at heq
    refine o_step rfl rfl rfl rfl rfl (s_dread 0 x c s ok (.row 1) rfl _ rfl (fun E => rfl) rfl hx) (fun _ _ => ?_)
    refine o_yield rfl rfl rfl (y_val tok rfl) ?_
    refine o_end [4, 7, 10, 11, 12] rfl ?_
    refine x_then ?_
    refine c_seq ?_
    refine c_region ?_
    refine o_yield rfl rfl rfl (y_val tok rfl) ?_
    refine o_yield rfl rfl rfl (y_val tok rfl) ?_
    refine o_end [4, 7, 10, 11, 12, 20] rfl ?_
    refine x_then ?_
    refine c_cond rfl (fun h => ?_) (fun h => ?_)
    ·
      simp only [Bool.and_eq_true, Bool.or_eq_true, Bool.not_eq_true', Bool.or_eq_false_iff, Bool.and_eq_false_iff, decide_eq_true_eq, decide_eq_false_iff_not, beq_iff_eq, bne_iff_ne, Bool.not_eq_false', beq_eq_false_iff_ne, bne_eq_false_iff_eq, ne_eq, Decidable.not_not, Int.not_lt, Int.not_le] at h
      refine c_seq ?_
      refine c_region ?_
      refine o_yield rfl rfl rfl (y_val tok rfl) ?_
      refine o_yield rfl rfl rfl (y_val tok rfl) ?_
      refine o_yield rfl rfl rfl (y_val tok rfl) ?_
      refine o_end [2, 3] rfl ?_
      refine x_then ?_
      refine c_ret ?_
      refine x_then_ret ?_
      refine x_block_ret ?_
      refine x_then_ret ?_
      refine x_then_ret ?_
      refine x_block_ret ?_
      refine x_then_ret ?_
      refine b_ret tok rfl ?_
      intro E w' hm _
      rw [if_pos h] at heq
      refine ⟨⟨_, by rw [heq]; rfl, ?_⟩, hm.below (Vw.le.refl _)⟩
      rw [heq]
      exact World.ownsRow_nil _ _ _ _
    ·
      simp only [Bool.and_eq_true, Bool.or_eq_true, Bool.not_eq_true', Bool.or_eq_false_iff, Bool.and_eq_false_iff, decide_eq_true_eq, decide_eq_false_iff_not, beq_iff_eq, bne_iff_ne, Bool.not_eq_false', beq_eq_false_iff_ne, bne_eq_false_iff_eq, ne_eq, Decidable.not_not, Int.not_lt, Int.not_le] at h
      refine c_skip ?_
      refine x_then ?_
      refine c_seq ?_
      refine c_seq ?_
      refine c_region ?_
      refine o_yield rfl rfl rfl (y_val tok rfl) ?_
      refine o_yield rfl rfl rfl (y_val tok rfl) ?_
      refine o_yield rfl rfl rfl (y_val tok rfl) ?_
      have he := h
      clear h
      rw [if_neg (by simp [he])] at heq
      refine o_call (.a (.v _)) rfl rfl fnok97 rfl rfl rfl (fun hg E w1 hm => by exact none_c (drC x) (drS x) (drB x) _ _ _ (hm.lit 0 _ _ rfl)) ?_
      refine o_end [4, 10, 11, 12, 25] rfl ?_
      refine x_then ?_
      refine c_cond rfl (fun h => ?_) (fun h => ?_)
      ·
        refine c_exit ?_
        refine x_then_exit ?_
        refine x_block_miss rfl ?_
        refine x_then_exit ?_
        refine x_then_exit ?_
        refine x_block_hit ?_
        refine x_then ?_
        refine c_seq ?_
        refine c_region ?_
        refine o_yield rfl rfl rfl (y_val tok rfl) ?_
        refine o_yield rfl rfl rfl (y_val tok rfl) ?_
        refine o_yield rfl rfl rfl (y_val tok rfl) ?_
        refine o_yield rfl rfl rfl (y_val tok rfl) ?_
        refine o_yield rfl rfl rfl (y_val tok rfl) ?_
        refine o_yield rfl rfl rfl (y_val tok rfl) ?_
        refine o_end [2, 3] rfl ?_
        refine x_then ?_
        refine c_ret ?_
        refine b_ret tok rfl ?_
        have hb : drB x = false := by simpa using h
        rw [if_pos hb] at heq
        intro E w' hm _
        refine ⟨⟨_, by rw [heq]; rfl, ?_⟩, hm.below (Vw.le.refl _)⟩
        rw [heq]
        exact hm.rowFresh (Vw.le.refl _) (l := 1) rfl
      ·
        refine c_skip ?_
        refine x_then ?_
        refine c_held [14] ([(0, .lit (readerAs (drC x) (drS x) (drB x) (.row 1)) 142)]) mixed (by repeat (first | exact SubO.nil | refine SubO.cons rfl ?_)) rfl ?_
        refine t_takeD 0 rfl (by kernel_rfl) rfl rfl rfl (y_val tok rfl) rfl ?_
        refine t_takeD 1 rfl (by kernel_rfl) rfl rfl rfl (y_val tok rfl) rfl ?_
        refine t_takeD 2 rfl (by kernel_rfl) rfl rfl rfl (y_val tok rfl) rfl ?_
        refine t_takeD 3 rfl (by kernel_rfl) rfl rfl rfl (y_val tok rfl) rfl ?_
        refine t_takeD 4 rfl (by kernel_rfl) rfl rfl rfl (y_val tok rfl) rfl ?_
        refine t_takeD 5 rfl (by kernel_rfl) rfl rfl rfl (y_val tok rfl) rfl ?_
        refine t_takeD 6 rfl (by kernel_rfl) rfl rfl rfl (y_val tok rfl) rfl ?_
        refine t_takeD 7 rfl (by kernel_rfl) rfl rfl rfl (y_val tok rfl) rfl ?_
        refine t_takeD 8 rfl (by kernel_rfl) rfl rfl rfl (y_val tok rfl) rfl ?_
        refine t_takeD 9 rfl (by kernel_rfl) rfl rfl rfl (y_val tok rfl) rfl ?_
        refine t_go ?_
        refine h_one 10 (by kernel_rfl) ?_
        have hb : drB x = true := by simpa using h
        rw [if_neg (by simp [hb])] at heq
        clear h
        refine h_to 10 rfl rfl rfl rfl rfl rfl (s_bs tok 8 rfl rfl rfl) (.inr fun _ _ => ⟨(by repeat (first | exact SubO.nil | refine SubO.cons rfl ?_)), rfl, Vw.le.refl _⟩) (fun _ _ => ?_)
        refine h_one 11 (by kernel_rfl) ?_
        refine h_to 11 rfl rfl rfl rfl rfl rfl (s_app tok ([drC x].flatMap Cmd.cells) rfl (fun E w hm => ownsRow_src (hm.row 2 _ _ _ _ rfl)) (fun _ _ _ => cmd_ones _) (by dsimp only; omega)) (.inr fun _ _ => ⟨(by repeat (first | exact SubO.nil | refine SubO.cons rfl ?_)), rfl, Vw.le.refl _⟩) (fun _ _ => ?_)
        refine h_one 12 (by kernel_rfl) ?_
        refine h_yield 12 rfl rfl rfl rfl (y_val tok rfl) ?_
        refine h_one 13 (by kernel_rfl) ?_
        refine h_yield 13 rfl rfl rfl rfl (y_val tok rfl) ?_
        refine h_one 14 (by kernel_rfl) ?_
        refine h_store 14 tok rfl rfl rfl rfl (by first | exact ⟨trivial, trivial⟩ | simp [onesP, oneP, lk, Value.oneCell']) (.inl rfl) ?_
        refine h_done [4, 10, 11, 12] (by kernel_rfl) rfl ?_
        refine x_block ?_
        refine x_then ?_
        refine c_region ?_
        refine o_yield rfl rfl rfl (y_val tok rfl) ?_
        refine o_yield rfl rfl rfl (y_val tok rfl) ?_
        refine o_end [4, 10, 11, 12] rfl ?_
        refine x_then ?_
        rw [← List.flatMap_append, show acc.length + 1 = (acc ++ [drC x]).length by simp, wrapI (n := (k : Int) + 1) (by omega) (by omega)]
        refine k_swap 1 3 rfl ?_
        refine x_round ((k + 1, acc ++ [drC x], drC x, drS x, drB x)) (⟨by omega, heq, by simp [hal]⟩) (by first | omega | (dsimp only; omega)) (by repeat (first | exact SubF.nil | refine SubF.cons rfl ?_)) (by repeat (first | exact SubO.nil | refine SubO.cons rfl ?_)) rfl (Vw.le.refl _)
  ·
    simp only [Bool.and_eq_true, Bool.or_eq_true, Bool.not_eq_true', Bool.or_eq_false_iff, Bool.and_eq_false_iff, decide_eq_true_eq, decide_eq_false_iff_not, beq_iff_eq, bne_iff_ne, Bool.not_eq_false', beq_eq_false_iff_ne, bne_eq_false_iff_eq, ne_eq, Decidable.not_not, Int.not_lt, Int.not_le] at h
    refine c_exit ?_
    refine x_then_exit ?_
    refine x_then_exit ?_
    refine x_block_hit ?_
    refine x_then ?_
    refine c_seq ?_
    refine c_region ?_
    refine o_yield rfl rfl rfl (y_val tok rfl) ?_
    refine o_yield rfl rfl rfl (y_val tok rfl) ?_
    refine o_yield rfl rfl rfl (y_val tok rfl) ?_
    refine o_yield rfl rfl rfl (y_val tok rfl) ?_
    refine o_yield rfl rfl rfl (y_val tok rfl) ?_
    refine o_yield rfl rfl rfl (y_val tok rfl) ?_
    refine o_end [2, 3] rfl ?_
    refine x_then ?_
    refine c_ret ?_
    refine b_ret tok rfl ?_
    have hkL : k = L.length := by omega
    subst hkL
    rw [List.drop_length, rowV] at heq
    intro E w' hm _
    refine ⟨⟨_, by rw [heq]; rfl, ?_⟩, hm.below (Vw.le.refl _)⟩
    rw [heq]
    exact hm.rowFresh (Vw.le.refl _) (l := 1) rfl
end Go.Proofs.Ytlcpfhjbhogdiaa

/- What the twelfth document says of some sectors. -/
set_option linter.unusedVariables false
set_option linter.unusedSimpArgs false
set_option maxRecDepth 100000
namespace Go.Proofs.Ytlcpfhjbhogdiaa
open Go Go.Eng Go.RowKit

/-- decided.Row, its commands as ones that nobody writes. -/
def RowVal (r : List Cmd × Int) (x : Value) (V' : Vw) : Prop := ∃ v, x = .tuple #[v, I r.2] ∧ SlOf V' Cmd.cells 8 v r.1

theorem row_cV (V : Vw) (sv : Value) (L : List ByteArray) (r : List Cmd × Int) (hr : rowV L [] = r) (w : World) (hV : V.le (vw w)) (hs0 : SlOf V encS 1 sv L) (hL : ∀ s ∈ L, s.size ≤ maxLen) (hln : L.length ≤ 1000000) :
    Calls Try.prog 44 #[sv] w fun e w' => ∃ x V', e = .returned x ∧ Below w.heap.size w w' ∧ Vext w.heap.size V V' w' ∧ RowVal r x V' := by
  refine (row_c V sv L w hV hs0 hL hln).mono ?_
  rintro e w' ⟨⟨v, rfl, hown⟩, hb⟩
  rw [hr] at hown
  obtain ⟨V', hx, hsl⟩ := ownsRow_vext hV hb hown
  exact ⟨_, V', by rw [hr], hb, hx, v, rfl, hsl, fun _ => rfl⟩

abbrev ordC (n : Int) : Cmd := ⟨0, n, 1, 0, 0, 0, 0, 0⟩

theorem ordC_may {n : Int} (h : keyB n = true) : cmdB (ordC n) = true := by
  simp [cmdB, ordC, h, onlyB]

theorem cbV_pos {c : Cmd} (h : cmdB c = true) : cbV c = strOf (cmdL c) ∧ cbE c = 0 := by
  rw [cbV, cbE, if_pos h, if_pos h]; exact ⟨rfl, rfl⟩

theorem cmdL_max (c : Cmd) : (strOf (cmdL c)).size ≤ maxLen := by
  have := cmdL_len c
  rw [strOf_size]; simp only [maxLen]; omega

theorem sector_c (n : Int) (h : keyB n = true) (w : World) : Calls Try.prog 91 #[I n] w fun e w' => e = .returned (S (decS (ordC n))) ∧ Below w.heap.size w w' := by
  have hb := ordC_may h
  obtain ⟨h1, h2⟩ := cbV_pos hb
  obtain ⟨h3, h4, _⟩ := dec_back hb
  have hmx := cmdL_max (ordC n)
  refine enter (E := E0) (O := []) (nl := 0) (V := vw w) [.a (.v (I n))] Try.func91 rfl rfl (mem0 E0 0 w) rfl rfl ?_
  refine c_seq ?_
  refine c_region ?_
  refine o_yield rfl rfl rfl (y_val tok rfl) ?_
  refine o_end [0] rfl ?_
  refine x_then ?_
  refine c_seq ?_
  refine c_region ?_
  refine o_yield rfl rfl rfl (y_val tok rfl) ?_
  refine o_yield rfl rfl rfl (y_val tok rfl) ?_
  refine o_call (.a (.v _)) rfl rfl fnok36 rfl rfl rfl (fun hg E w1 hm => by exact cmdBytes_c (ordC n) _) ?_
  refine o_yield rfl rfl rfl (y_val tok rfl) ?_
  refine o_yield rfl rfl rfl (y_val tok rfl) ?_
  refine o_yield rfl rfl rfl (y_val tok rfl) ?_
  refine o_yield rfl rfl rfl (y_val tok rfl) ?_
  refine o_yield rfl rfl rfl (y_val tok rfl) ?_
  refine o_end [3] rfl ?_
  refine x_then ?_
  refine c_seq ?_
  refine c_region ?_
  refine o_yield rfl rfl rfl (y_val tok rfl) ?_
  rw [h1]
  refine o_call (.a (.v _)) rfl rfl fnok37 rfl rfl rfl (fun hg E w1 hm => by exact decBytes_c (strOf (cmdL (ordC n))) hmx _) ?_
  refine o_yield rfl rfl rfl (y_val tok rfl) ?_
  refine o_yield rfl rfl rfl (y_val tok rfl) ?_
  refine o_yield rfl rfl rfl (y_val tok rfl) ?_
  refine o_yield rfl rfl rfl (y_val tok rfl) ?_
  refine o_yield rfl rfl rfl (y_val tok rfl) ?_
  refine o_end [5] rfl ?_
  refine x_then ?_
  refine c_seq ?_
  refine c_region ?_
  refine o_yield rfl rfl rfl (y_val tok rfl) ?_
  refine o_yield rfl rfl rfl (y_val tok rfl) ?_
  refine o_end [2] rfl ?_
  refine x_then ?_
  refine c_ret ?_
  refine b_ret tok rfl ?_
  rw [h3]
  intro E w' hm _
  refine ⟨?_, hm.below (Vw.le.refl _)⟩
  rfl

theorem drE_empty : drE ByteArray.empty = 0 := by rw [drE, if_pos (.inl (by rw [empty_beq]; rfl))]
theorem drB_empty : drB ByteArray.empty = false := by rw [drB, empty_beq]; rfl

abbrev xS : ByteArray := ⟨#[120]⟩
theorem drE_x : drE xS = 50 := by
  have ho : openB xS = false := by rw [openB, decide_eq_false (show ¬ 7 ≤ xS.size by decide)]; rfl
  have hof : ofE 5 xS = 30 := by rw [ofE, if_neg (by simp [ofB, ho])]
  have hB : drB xS = false := by rw [drB, hof]; simp
  rw [drE, empty_beq, decide_eq_false (show ¬ xS.size = 0 by decide), hB]; rfl

theorem row1 : rowV [decS (ordC 17), ByteArray.empty, decS (ordC 18)] [] = ([ordC 17], 0) := by
  obtain ⟨_, _, h3, h4, _, h6, _⟩ := dec_back (ordC_may (n := 17) (by decide))
  rw [rowV, h6, if_neg (by decide), h3, if_neg (by decide), rowV, drE_empty, if_neg (by decide), if_pos drB_empty, h4]; rfl

theorem row2 : rowV [decS (ordC 17), xS] [] = ([], 50) := by
  obtain ⟨_, _, h3, h4, _, h6, _⟩ := dec_back (ordC_may (n := 17) (by decide))
  rw [rowV, h6, if_neg (by decide), h3, if_neg (by decide), rowV, drE_x, if_pos (by decide)]

theorem decS_max (c : Cmd) : (decS c).size ≤ maxLen := by
  have := cmdL_len c
  rw [decS, strOf_size, sealL_len]; simp only [maxLen]; omega

theorem wakes12_c (w : World) : Calls Try.prog 38 #[] w fun e w' => e = .returned (.bool true) ∧ Below w.heap.size w w' := by
  have m17 := decS_max (ordC 17)
  have m18 := decS_max (ordC 18)
  have a1 : ∀ s ∈ [decS (ordC 17), ByteArray.empty, decS (ordC 18)], s.size ≤ maxLen := by
    intro s hs
    simp only [List.mem_cons, List.not_mem_nil, or_false] at hs
    rcases hs with h | h | h
    · rw [h]; exact m17
    · rw [h]; exact Nat.zero_le _
    · rw [h]; exact m18
  have a2 : ∀ s ∈ [decS (ordC 17), xS], s.size ≤ maxLen := by
    intro s hs
    simp only [List.mem_cons, List.not_mem_nil, or_false] at hs
    rcases hs with h | h
    · rw [h]; exact m17
    · rw [h]; decide
  refine enter (E := E0) (O := []) (nl := 0) (V := vw w) [] Try.func38 rfl rfl (mem0 E0 0 w) rfl rfl ?_
  refine c_seq ?_
  refine c_region ?_
  refine o_yield rfl rfl rfl (y_val tok rfl) ?_
  refine o_end [] rfl ?_
  refine x_then ?_
  refine c_seq ?_
  refine c_region ?_
  refine o_call (.a (.v _)) rfl rfl fnok91 rfl rfl rfl (fun hg E w1 hm => by exact sector_c 17 (by decide) _) ?_
  refine o_call (.a (.v _)) rfl rfl fnok91 rfl rfl rfl (fun hg E w1 hm => by exact sector_c 18 (by decide) _) ?_
  refine o_bs tok rfl rfl rfl rfl (fun b1 V1 hle1 hb1 => ?_)
  refine o_callV (RowVal ([ordC 17], 0)) rfl rfl fnok44 rfl rfl (fun hg E w1 hm => by exact row_cV V1 _ [decS (ordC 17), ByteArray.empty, decS (ordC 18)] _ row1 _ hm.leV (SlOf.ofBlock (enc := encS) (sz := 1) (l := [decS (ordC 17), ByteArray.empty, decS (ordC 18)]) (hb1 rfl) rfl (fun _ => rfl) (Nat.le_refl _)) a1 (by decide)) ?_
  rintro x V2 hle2 hx
  obtain ⟨v, rfl, hsl⟩ := hx rfl
  refine o_yield rfl rfl rfl (y_val tok rfl) ?_
  refine o_yield rfl rfl rfl (y_val tok rfl) ?_
  refine o_yield rfl rfl rfl (y_val tok rfl) ?_
  refine o_yield rfl rfl rfl (y_val tok rfl) ?_
  refine o_yield rfl rfl rfl (y_val tok rfl) ?_
  refine o_end [1, 2] rfl ?_
  refine x_then ?_
  refine c_seq ?_
  refine c_region ?_
  refine o_call (.a (.v _)) rfl rfl fnok91 rfl rfl rfl (fun hg E w1 hm => by exact sector_c 17 (by decide) _) ?_
  refine o_bs tok rfl rfl rfl rfl (fun b3 V3 hle3 hb3 => ?_)
  refine o_callV (RowVal ([], 50)) rfl rfl fnok44 rfl rfl (fun hg E w1 hm => by exact row_cV V3 _ [decS (ordC 17), xS] _ row2 _ hm.leV (SlOf.ofBlock (enc := encS) (sz := 1) (l := [decS (ordC 17), xS]) (hb3 rfl) rfl (fun _ => rfl) (Nat.le_refl _)) a2 (by decide)) ?_
  rintro x V4 hle4 hx
  obtain ⟨v4, rfl, hsl4⟩ := hx rfl
  refine o_yield rfl rfl rfl (y_val tok rfl) ?_
  refine o_yield rfl rfl rfl (y_val tok rfl) ?_
  refine o_yield rfl rfl rfl (y_val tok rfl) ?_
  refine o_yield rfl rfl rfl (y_val tok rfl) ?_
  refine o_yield rfl rfl rfl (y_val tok rfl) ?_
  refine o_end [1, 2, 4] rfl ?_
  refine x_then ?_
  refine c_seq ?_
  refine c_region ?_
  refine o_call (.a (.v _)) rfl rfl fnok39 rfl rfl rfl (fun hg E w1 hm => by exact decRead_c ByteArray.empty (Nat.zero_le _) _) ?_
  refine o_yield rfl rfl rfl (y_val tok rfl) ?_
  refine o_yield rfl rfl rfl (y_val tok rfl) ?_
  refine o_yield rfl rfl rfl (y_val tok rfl) ?_
  refine o_yield rfl rfl rfl (y_val tok rfl) ?_
  refine o_yield rfl rfl rfl (y_val tok rfl) ?_
  refine o_new tok rfl rfl rfl rfl ?_
  refine o_store tok rfl rfl rfl (by first | exact ⟨trivial, trivial⟩ | simp [onesP, oneP, lk, Value.oneCell']) ?_
  refine o_yield rfl rfl rfl (y_val tok rfl) ?_
  refine o_yield rfl rfl rfl (y_val tok rfl) ?_
  refine o_yield rfl rfl rfl (y_val tok rfl) ?_
  refine o_end [1, 2, 4, 7, 8] rfl ?_
  refine x_then ?_
  refine c_seq ?_
  refine c_region ?_
  refine o_yield rfl rfl rfl (y_val tok rfl) ?_
  refine o_yield rfl rfl rfl (y_val tok rfl) ?_
  refine o_yield rfl rfl rfl (y_val tok rfl) ?_
  refine o_yield rfl rfl rfl (y_val tok rfl) ?_
  have hsl' := hsl.mono (hle3.trans hle4)
  refine o_yield rfl rfl rfl (y_len tok rfl (fun hg => hsl'.sl)) ?_
  refine o_yield rfl rfl rfl (y_val tok rfl) ?_
  refine o_yield rfl rfl rfl (y_val tok rfl) ?_
  refine o_yield rfl rfl rfl (y_val tok rfl) ?_
  refine o_yield rfl rfl rfl (y_val tok rfl) ?_
  refine o_yield rfl rfl rfl (y_idx tok rfl (fun hg => hsl'.sl) (fun hg => ⟨by decide, by decide⟩)) ?_
  refine o_yield rfl rfl rfl (y_fel tok rfl (fun hg => hsl'.sl) (fun hg => by decide)) ?_
  refine o_yield rfl rfl rfl (y_lel tok (0) 1 (_) rfl (fun hg => hsl') (fun hg => rfl) rfl rfl) ?_
  refine o_yield rfl rfl rfl (y_val tok rfl) ?_
  refine o_yield rfl rfl rfl (y_val tok rfl) ?_
  refine o_yield rfl rfl rfl (y_val tok rfl) ?_
  refine o_yield rfl rfl rfl (y_val tok rfl) ?_
  refine o_yield rfl rfl rfl (y_val tok rfl) ?_
  refine o_yield rfl rfl rfl (y_val tok rfl) ?_
  refine o_yield rfl rfl rfl (y_val tok rfl) ?_
  refine o_yield rfl rfl rfl (y_val tok rfl) ?_
  refine o_yield rfl rfl rfl (y_val tok rfl) ?_
  refine o_yield rfl rfl rfl (y_val tok rfl) ?_
  refine o_yield rfl rfl rfl (y_val tok rfl) ?_
  refine o_yield rfl rfl rfl (y_val tok rfl) ?_
  refine o_yield rfl rfl rfl (y_val tok rfl) ?_
  refine o_yield rfl rfl rfl (y_val tok rfl) ?_
  refine o_yield rfl rfl rfl (y_val tok rfl) ?_
  refine o_end [0] rfl ?_
  refine x_then ?_
  refine c_ret ?_
  refine b_ret tok rfl ?_
  intro E w' hm _
  refine ⟨?_, hm.below ((((hle1.trans hle2).trans hle3)).trans hle4)⟩
  rw [drB_empty, drE_empty]
  rfl
end Go.Proofs.Ytlcpfhjbhogdiaa

/- The law DecidedBack from what comes in. -/
set_option linter.unusedVariables false
set_option linter.unusedSimpArgs false
set_option maxRecDepth 100000
namespace Go.Proofs.Ytlcpfhjbhogdiaa
open Go Go.Eng Go.RowKit

theorem cbV_max (c : Cmd) : (cbV c).size ≤ maxLen := by
  rw [cbV]; split
  · exact cmdL_max c
  · exact Nat.zero_le _

theorem decidedBack_law (w : World) {v0 v1 : Value} (R0 : ∃ c : Cmd, v0 = c.val ∧ c.Ok) (R1 : ∃ n : Int, v1 = I n ∧ R64 n) :
    Calls Try.prog 9 #[v0, v1] w fun e w' => e = .returned (.bool true) ∧ Below w.heap.size w w' := by
  obtain ⟨c, rfl, _⟩ := R0
  obtain ⟨bit, rfl, hbit⟩ := R1
  have hcm := cbV_max c
  cases hr : cmdB c with
  | false =>
    have hE : cbE c = 2 := by rw [cbE, if_neg (by simp [hr])]
    have hV : cbV c = ByteArray.empty := by rw [cbV, if_neg (by simp [hr])]
    have hd : dbV ByteArray.empty = ByteArray.empty ∧ dbE ByteArray.empty = 2 := by
      rw [dbV, dbE, crd_empty]; exact ⟨rfl, rfl⟩
    refine enter (E := E0) (O := []) (nl := 0) (V := vw w) [.a (.v c.val), .a (.v (I bit))] Try.func9 rfl rfl (mem0 E0 0 w) rfl rfl ?_
    refine c_seq ?_
    refine c_region ?_
    refine o_new tok rfl rfl rfl rfl ?_
    refine o_yield rfl rfl rfl (y_val tok rfl) ?_
    refine o_end [1, 2] rfl ?_
    refine x_then ?_
    refine c_seq ?_
    refine c_region ?_
    refine o_yield rfl rfl rfl (y_val tok rfl) ?_
    refine o_call (.a (.v _)) rfl rfl fnok36 rfl rfl rfl (fun hg E w1 hm => by exact cmdBytes_c c _) ?_
    refine o_yield rfl rfl rfl (y_val tok rfl) ?_
    refine o_yield rfl rfl rfl (y_val tok rfl) ?_
    refine o_yield rfl rfl rfl (y_val tok rfl) ?_
    refine o_yield rfl rfl rfl (y_val tok rfl) ?_
    refine o_yield rfl rfl rfl (y_val tok rfl) ?_
    refine o_end [1, 2, 5, 6] rfl ?_
    refine x_then ?_
    refine c_seq ?_
    refine c_region ?_
    refine o_yield rfl rfl rfl (y_val tok rfl) ?_
    rw [hV, hE]
    refine o_call (.a (.v _)) rfl rfl fnok37 rfl rfl rfl (fun hg E w1 hm => by exact decBytes_c ByteArray.empty (Nat.zero_le _) _) ?_
    refine o_yield rfl rfl rfl (y_val tok rfl) ?_
    refine o_yield rfl rfl rfl (y_val tok rfl) ?_
    refine o_yield rfl rfl rfl (y_val tok rfl) ?_
    refine o_yield rfl rfl rfl (y_val tok rfl) ?_
    refine o_yield rfl rfl rfl (y_val tok rfl) ?_
    refine o_end [1, 2, 5, 6, 7, 8] rfl ?_
    refine x_then ?_
    refine c_seq ?_
    refine c_seq ?_
    refine c_region ?_
    refine o_yield rfl rfl rfl (y_val tok rfl) ?_
    refine o_yield rfl rfl rfl (y_val tok rfl) ?_
    refine o_end [1, 2, 5, 7, 8, 26] rfl ?_
    refine x_then ?_
    refine c_cond rfl (fun h => ?_) (fun h => ?_)
    rw [hd.1, hd.2]
    ·
      refine c_seq ?_
      refine c_region ?_
      refine o_yield rfl rfl rfl (y_val tok rfl) ?_
      refine o_yield rfl rfl rfl (y_val tok rfl) ?_
      refine o_yield rfl rfl rfl (y_val tok rfl) ?_
      refine o_yield rfl rfl rfl (y_val tok rfl) ?_
      refine o_yield rfl rfl rfl (y_val tok rfl) ?_
      refine o_yield rfl rfl rfl (y_val tok rfl) ?_
      refine o_yield rfl rfl rfl (y_val tok rfl) ?_
      refine o_call (.a (.v _)) rfl rfl fnok38 rfl rfl rfl (fun hg E w1 hm => by exact wakes12_c _) ?_
      refine o_yield rfl rfl rfl (y_val tok rfl) ?_
      refine o_yield rfl rfl rfl (y_val tok rfl) ?_
      refine o_end [4] rfl ?_
      refine x_then ?_
      refine c_ret ?_
      refine x_then_ret ?_
      refine b_ret tok rfl ?_
      intro E w' hm _
      refine ⟨?_, hm.below (Vw.le.refl _)⟩
      show Ending.returned (.bool (((2 : Int) == 2 && ByteArray.empty.toList == ByteArray.empty.toList) && true)) = _
      rw [empty_beq]
      rfl
    · exact absurd h (by decide)
  | true =>
    obtain ⟨h1, h2⟩ := cbV_pos hr
    obtain ⟨h3, h4, h5, h6, h7, h8, h9⟩ := dec_back hr
    have hlen := cmdL_len c
    have hmx := decS_max c
    have hm2 := cmdL_max c
    have hflip : ∀ {s' : ByteArray} {A R : List UInt8} {b d : UInt8}, (decS c).data.toList = A ++ b :: R → s'.data.toList = A ++ d :: R → b ≠ d → drE s' = 50 ∧ drB s' = false := fun hq hq' hne => dec_flip hr hq hq' hne
    obtain ⟨s, hs⟩ : ∃ s, decS c = s := ⟨_, rfl⟩
    rw [hs] at h3 h5 h6 h7 h8 h9 hmx
    rw [hs] at hflip
    clear hs
    have heq : c.eqB c = true := (Cmd.eqB_iff c c).2 rfl
    refine enter (E := E0) (O := []) (nl := 0) (V := vw w) [.a (.v c.val), .a (.v (I bit))] Try.func9 rfl rfl (mem0 E0 0 w) rfl rfl ?_
    refine c_seq ?_
    refine c_region ?_
    refine o_new tok rfl rfl rfl rfl ?_
    refine o_yield rfl rfl rfl (y_val tok rfl) ?_
    refine o_end [1, 2] rfl ?_
    refine x_then ?_
    refine c_seq ?_
    refine c_region ?_
    refine o_yield rfl rfl rfl (y_val tok rfl) ?_
    refine o_call (.a (.v _)) rfl rfl fnok36 rfl rfl rfl (fun hg E w1 hm => by exact cmdBytes_c c _) ?_
    refine o_yield rfl rfl rfl (y_val tok rfl) ?_
    refine o_yield rfl rfl rfl (y_val tok rfl) ?_
    refine o_yield rfl rfl rfl (y_val tok rfl) ?_
    refine o_yield rfl rfl rfl (y_val tok rfl) ?_
    refine o_yield rfl rfl rfl (y_val tok rfl) ?_
    refine o_end [1, 2, 5, 6] rfl ?_
    refine x_then ?_
    refine c_seq ?_
    refine c_region ?_
    refine o_yield rfl rfl rfl (y_val tok rfl) ?_
    rw [h1, h2]
    refine o_call (.a (.v _)) rfl rfl fnok37 rfl rfl rfl (fun hg E w1 hm => by exact decBytes_c (strOf (cmdL c)) hm2 _) ?_
    refine o_yield rfl rfl rfl (y_val tok rfl) ?_
    refine o_yield rfl rfl rfl (y_val tok rfl) ?_
    refine o_yield rfl rfl rfl (y_val tok rfl) ?_
    refine o_yield rfl rfl rfl (y_val tok rfl) ?_
    refine o_yield rfl rfl rfl (y_val tok rfl) ?_
    refine o_end [1, 2, 5, 6, 7, 8] rfl ?_
    refine x_then ?_
    refine c_seq ?_
    refine c_seq ?_
    refine c_region ?_
    refine o_yield rfl rfl rfl (y_val tok rfl) ?_
    refine o_yield rfl rfl rfl (y_val tok rfl) ?_
    refine o_end [1, 2, 5, 7, 8, 26] rfl ?_
    refine x_then ?_
    refine c_cond rfl (fun h => ?_) (fun h => ?_)
    · exact absurd h (by decide)
    ·
      rw [h3, h4]
      refine c_skip ?_
      refine x_then ?_
      refine c_seq ?_
      refine c_region ?_
      refine o_yield rfl rfl rfl (y_val tok rfl) ?_
      refine o_call (.a (.v _)) rfl rfl fnok39 rfl rfl rfl (fun hg E w1 hm => by exact decRead_c s hmx _) ?_
      refine o_yield rfl rfl rfl (y_val tok rfl) ?_
      refine o_yield rfl rfl rfl (y_val tok rfl) ?_
      refine o_yield rfl rfl rfl (y_val tok rfl) ?_
      refine o_yield rfl rfl rfl (y_val tok rfl) ?_
      refine o_yield rfl rfl rfl (y_val tok rfl) ?_
      refine o_new tok rfl rfl rfl rfl ?_
      refine o_store tok rfl rfl rfl (by first | exact ⟨trivial, trivial⟩ | simp [onesP, oneP, lk, Value.oneCell']) ?_
      refine o_yield rfl rfl rfl (y_val tok rfl) ?_
      refine o_yield rfl rfl rfl (y_val tok rfl) ?_
      refine o_yield rfl rfl rfl (y_val tok rfl) ?_
      refine o_end [1, 2, 5, 7, 8, 9, 10, 11, 12] rfl ?_
      refine x_then ?_
      refine c_seq ?_
      refine c_seq ?_
      refine c_region ?_
      refine o_yield rfl rfl rfl (y_val tok rfl) ?_
      refine o_yield rfl rfl rfl (y_val tok rfl) ?_
      refine o_yield rfl rfl rfl (y_val tok rfl) ?_
      refine o_yield rfl rfl rfl (y_val tok rfl) ?_
      refine o_yield rfl rfl rfl (y_val tok rfl) ?_
      refine o_yield rfl rfl rfl (y_val tok rfl) ?_
      refine o_yield rfl rfl rfl (y_val tok rfl) ?_
      refine o_yield rfl rfl rfl (y_val tok rfl) ?_
      refine o_yield rfl rfl rfl (y_val tok rfl) ?_
      refine o_yield rfl rfl rfl (y_val tok rfl) ?_
      refine o_yield rfl rfl rfl (y_val tok rfl) ?_
      refine o_yield rfl rfl rfl (y_val tok rfl) ?_
      refine o_yield rfl rfl rfl (y_val tok rfl) ?_
      rw [h5, h6, h7, h8]
      refine o_yield rfl rfl rfl (y_seq (.bool (!(c.eqB c))) rfl (fun E w => cmdEq c c w (.inr rfl))) ?_
      refine o_yield rfl rfl rfl (y_val tok rfl) ?_
      refine o_yield rfl rfl rfl (y_val tok rfl) ?_
      refine o_yield rfl rfl rfl (y_val tok rfl) ?_
      refine o_yield rfl rfl rfl (y_val tok rfl) ?_
      refine o_yield rfl rfl rfl (y_val tok rfl) ?_
      refine o_yield rfl rfl rfl (y_val tok rfl) ?_
      refine o_yield rfl rfl rfl (y_val tok rfl) ?_
      refine o_yield rfl rfl rfl (y_val tok rfl) ?_
      refine o_yield rfl rfl rfl (y_val tok rfl) ?_
      refine o_yield rfl rfl rfl (y_val tok rfl) ?_
      refine o_yield rfl rfl rfl (y_val tok rfl) ?_
      refine o_end [1, 7, 67] rfl ?_
      refine x_then ?_
      refine c_cond rfl (fun h => ?_) (fun h => ?_)
      · rw [heq] at h
        simp at h
        rw [h] at h9
        have h0 : ByteArray.empty.size = 0 := rfl
        omega
      ·
        refine c_skip ?_
        refine x_then ?_
        refine c_seq ?_
        refine c_region ?_
        refine o_yield rfl rfl rfl (y_val tok rfl) ?_
        clear h
        refine o_step rfl rfl rfl rfl rfl (s_s2bX tok rfl) (fun x hx => ?_)
        obtain ⟨hxl, hx2⟩ := hx
        have hsl := hx2.sl
        obtain ⟨v, V2⟩ := x
        dsimp only at hxl hx2 hsl
        obtain ⟨b, cap, cs, el, fz, rfl, g1, g2, g3, g4, g5, g6⟩ := hx2
        have hlen := size_list s
        obtain ⟨n, hn⟩ : ∃ n : Nat, 8 * s.size = n := ⟨_, rfl⟩
        have hw8 : IntKind.i64.wrap (8 * (s.data.toList.length : Int)) = (n : Int) := by rw [wrapI (by omega) (by omega)]; omega
        refine o_yield rfl rfl rfl (y_val tok rfl) ?_
        refine o_end [1, 13] rfl ?_
        refine x_then ?_
        refine c_seq ?_
        refine c_region ?_
        refine o_yield rfl rfl rfl (y_val tok rfl) ?_
        refine o_yield rfl rfl rfl (y_val tok rfl) ?_
        refine o_yield rfl rfl rfl (y_len tok rfl (fun hg => hsl.sl)) ?_
        refine o_yield rfl rfl rfl (y_val tok rfl) ?_
        rw [hw8]
        refine o_yield rfl rfl rfl (y_rem rfl (fun hg => by omega)) ?_
        refine o_yield rfl rfl rfl (y_val tok rfl) ?_
        refine o_yield rfl rfl rfl (y_len tok rfl (fun hg => hsl.sl)) ?_
        refine o_yield rfl rfl rfl (y_val tok rfl) ?_
        refine o_yield rfl rfl rfl (y_val tok rfl) ?_
        refine o_yield rfl rfl rfl (y_val tok rfl) ?_
        rw [hw8]
        have hb1 : -(n : Int) < bit.tmod n ∧ bit.tmod n < n := by
          have := Int.tmod_lt_of_pos bit (show (0 : Int) < n by omega)
          have := Int.lt_tmod_of_pos bit (show (0 : Int) < n by omega)
          omega
        rw [wrapI (n := bit.tmod n + n) (by omega) (by omega)]
        refine o_yield rfl rfl rfl (y_len tok rfl (fun hg => hsl.sl)) ?_
        refine o_yield rfl rfl rfl (y_val tok rfl) ?_
        rw [hw8]
        refine o_yield rfl rfl rfl (y_rem rfl (fun hg => by omega)) ?_
        refine o_yield rfl rfl rfl (y_val tok rfl) ?_
        refine o_end [13, 14] rfl ?_
        refine x_then ?_
        refine c_seq ?_
        refine c_region ?_
        refine o_yield rfl rfl rfl (y_val tok rfl) ?_
        refine o_yield rfl rfl rfl (y_val tok rfl) ?_
        obtain ⟨j, hj, hjl⟩ : ∃ j : Nat, (bit.tmod n + n).tmod n = (j : Int) ∧ j < n := by
          have h1 := Int.tmod_nonneg (n : Int) (show 0 ≤ bit.tmod n + n by omega)
          have h2 := Int.tmod_lt_of_pos (bit.tmod n + n) (show (0 : Int) < n by omega)
          exact ⟨((bit.tmod n + n).tmod n).toNat, by omega, by omega⟩
        rw [hj]
        have hq8 : IntKind.i64.wrap ((j : Int).tdiv 8) = ((j / 8 : Nat) : Int) := by
          rw [Int.tdiv_eq_ediv_of_nonneg (by omega), wrapI (by omega) (by omega)]; omega
        refine o_yield rfl rfl rfl (y_quo rfl (fun hg => by decide)) ?_
        refine o_yield rfl rfl rfl (y_val tok rfl) ?_
        refine o_yield rfl rfl rfl (y_val tok rfl) ?_
        rw [hq8]
        refine o_yield rfl rfl rfl (y_quo rfl (fun hg => by decide)) ?_
        rw [hq8]
        obtain ⟨c0, h_c0⟩ := hsl.at (k := j / 8) (by omega)
        have hlt_c0 := lt_of_at h_c0
        refine o_yield rfl rfl rfl (y_idx tok rfl (fun hg => hsl.sl) (fun hg => ⟨by omega, by omega⟩)) ?_
        refine o_yield rfl rfl rfl (y_lel tok (j / 8) 0 (c0) rfl (fun hg => hsl) (fun hg => h_c0) rfl rfl) ?_
        refine o_yield rfl rfl rfl (y_val tok rfl) ?_
        refine o_yield rfl rfl rfl (y_rem rfl (fun hg => by decide)) ?_
        refine o_yield rfl rfl rfl (y_val tok rfl) ?_
        rw [Int.tmod_eq_emod_of_nonneg (by omega), show IntKind.u64.wrap ((j : Int) % 8) = ((j % 8 : Nat) : Int) by rw [IntKind.wrap_u64]; omega]
        refine o_yield rfl rfl rfl (y_shl rfl (fun hg => ⟨by omega, by show ((j % 8 : Nat) : Int) ≤ 8; omega⟩)) ?_
        refine o_yield rfl rfl rfl (y_val tok rfl) ?_
        obtain ⟨c1, hc1, hbits⟩ := byte_turn c0 (j % 8) (by omega)
        rw [Int.toNat_natCast, hbits]
        refine o_yield rfl rfl rfl (y_idxK tok (j / 8) rfl (by simp; omega) (fun hg => hsl.sl) (fun hg => by omega)) ?_
        refine o_stepN rfl rfl rfl rfl (s_vst tok rfl g2 (by omega) (.inr (by omega)) rfl) (fun _ _ => ?_)
        refine o_end [13] rfl ?_
        refine x_then ?_
        refine c_seq ?_
        refine c_region ?_
        refine o_yield rfl rfl rfl (y_val tok rfl) ?_
        have hset := s2b_set (V' := V2) (b := b) (e := el) (fz := fz) (c := c1) (show j / 8 < s.size by omega) g1 g3 g4
        have hsp := list_split h_c0
        have hsl2 := (hsp.2 c1)
        refine o_yield rfl rfl rfl (y_b2s tok (s.data.toList.set (j / 8) c1) rfl (fun hg => hset.sl)) ?_
        refine o_call (.a (.v _)) rfl rfl fnok39 rfl rfl rfl (fun hg E w1 hm => by exact decRead_c (strOf (s.data.toList.set (j / 8) c1)) (by rw [strOf_size, List.length_set]; simp only [maxLen]; omega) _) ?_
        refine o_yield rfl rfl rfl (y_val tok rfl) ?_
        refine o_yield rfl rfl rfl (y_val tok rfl) ?_
        refine o_yield rfl rfl rfl (y_val tok rfl) ?_
        refine o_yield rfl rfl rfl (y_val tok rfl) ?_
        refine o_yield rfl rfl rfl (y_val tok rfl) ?_
        refine o_yield rfl rfl rfl (y_val tok rfl) ?_
        refine o_yield rfl rfl rfl (y_val tok rfl) ?_
        refine o_end [11, 12] rfl ?_
        refine x_then ?_
        refine c_seq ?_
        refine c_region ?_
        refine o_yield rfl rfl rfl (y_val tok rfl) ?_
        refine o_yield rfl rfl rfl (y_val tok rfl) ?_
        refine o_yield rfl rfl rfl (y_val tok rfl) ?_
        refine o_yield rfl rfl rfl (y_val tok rfl) ?_
        refine o_yield rfl rfl rfl (y_val tok rfl) ?_
        refine o_yield rfl rfl rfl (y_val tok rfl) ?_
        refine o_yield rfl rfl rfl (y_val tok rfl) ?_
        obtain ⟨y1, y2⟩ := hflip hsp.1 (s' := strOf (s.data.toList.set (j / 8) c1)) (by rw [strOf_list]; exact hsl2) (Ne.symm hc1)
        rw [y1, y2]
        refine o_call (.a (.v _)) rfl rfl fnok38 rfl rfl rfl (fun hg E w1 hm => by exact wakes12_c _) ?_
        refine o_yield rfl rfl rfl (y_val tok rfl) ?_
        refine o_yield rfl rfl rfl (y_val tok rfl) ?_
        refine o_end [4] rfl ?_
        refine x_then ?_
        refine c_ret ?_
        refine b_ret tok rfl ?_
        have hle : (vw w).le (V2.put b (.cells (cs.setIfInBounds (0 + j / 8) (.int .u8 c1.toNat)) el fz)) := by
          refine ⟨fun k ob hk => ?_, hxl.os, hxl.tape, hxl.output⟩
          show (if _ then _ else _) = _
          rw [if_neg (fun hkb => by rw [hkb, g6] at hk; cases hk)]
          exact hxl.get k ob hk
        intro E w' hm _
        refine ⟨?_, hm.below (hle)⟩
        rfl
end Go.Proofs.Ytlcpfhjbhogdiaa
