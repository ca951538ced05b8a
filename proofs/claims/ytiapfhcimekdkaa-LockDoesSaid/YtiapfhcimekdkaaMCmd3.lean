import Derived.Test.YtiapfhcimekdkaaMRTb
/- Commands read back: the program's. -/
set_option linter.unusedVariables false
set_option linter.unusedSimpArgs false
set_option maxRecDepth 100000
namespace Go.Proofs.Ytiapfhcimekdkaa
open Go Go.Eng Go.RowKit

/-- What is left, and whether something was lacking. -/
def tkS (t : ByteArray × Bool) (k : Nat) : ByteArray × Bool := if (getSpec t.1 0 k).2 ≠ 0 then (t.1, true) else (restOf t.1 k, t.2)

section
variable {o : Oper} {n : Nat} {F : Frame0} {C : List Nat} {O : Go.Eng.Own} {nl : Nat} {V : Vw}

end

theorem wrapI8 {n : Int} (h0 : 0 ≤ n) (h1 : n ≤ 127) : IntKind.i8.wrap n = n := by
  simp [IntKind.wrap, IntKind.bits, IntKind.signed]; omega

def rdPre (s : ByteArray) : Cmd × (ByteArray × Bool) :=
  if min (getSpec s 0 1).1 127 = 2 then
    (⟨min (getSpec s 0 1).1 127, (getSpec (tkS (s, false) 1).1 0 6).1, (getSpec (tkS (tkS (s, false) 1) 6).1 0 4).1, 0, 0, (getSpec (tkS (tkS (tkS (s, false) 1) 6) 4).1 0 1).1, (getSpec (tkS (tkS (tkS (tkS (s, false) 1) 6) 4) 1).1 0 1).1,
      min (getSpec (tkS (tkS (tkS (tkS (tkS (s, false) 1) 6) 4) 1) 1).1 0 1).1 127⟩, tkS (tkS (tkS (tkS (tkS (tkS (s, false) 1) 6) 4) 1) 1) 1)
  else if min (getSpec s 0 1).1 127 = 3 then
    (⟨min (getSpec s 0 1).1 127, (getSpec (tkS (s, false) 1).1 0 6).1, (getSpec (tkS (tkS (s, false) 1) 6).1 0 4).1, 0, 0, (getSpec (tkS (tkS (tkS (s, false) 1) 6) 4).1 0 1).1, (getSpec (tkS (tkS (tkS (tkS (s, false) 1) 6) 4) 1).1 0 1).1, 0⟩,
      tkS (tkS (tkS (tkS (tkS (s, false) 1) 6) 4) 1) 1)
  else if min (getSpec s 0 1).1 127 = 4 then
    (⟨min (getSpec s 0 1).1 127, (getSpec (tkS (s, false) 1).1 0 6).1, (getSpec (tkS (tkS (s, false) 1) 6).1 0 4).1, (getSpec (tkS (tkS (tkS (s, false) 1) 6) 4).1 0 6).1, (getSpec (tkS (tkS (tkS (tkS (s, false) 1) 6) 4) 6).1 0 6).1, 0, 0, 0⟩,
      tkS (tkS (tkS (tkS (tkS (s, false) 1) 6) 4) 6) 6)
  else if min (getSpec s 0 1).1 127 = 5 then
    (⟨min (getSpec s 0 1).1 127, (getSpec (tkS (s, false) 1).1 0 6).1, (getSpec (tkS (tkS (s, false) 1) 6).1 0 4).1, (getSpec (tkS (tkS (tkS (s, false) 1) 6) 4).1 0 6).1, 0, 0, 0, 0⟩, tkS (tkS (tkS (tkS (s, false) 1) 6) 4) 6)
  else (⟨min (getSpec s 0 1).1 127, (getSpec (tkS (s, false) 1).1 0 6).1, (getSpec (tkS (tkS (s, false) 1) 6).1 0 4).1, 0, 0, 0, 0, 0⟩, tkS (tkS (tkS (s, false) 1) 6) 4)

/-- Whether what was read stands. -/
def rdB (x : Cmd × (ByteArray × Bool)) : Bool := !((x.2.2 || !(x.2.1.toList == ByteArray.empty.toList)) || !(cmdB x.1))
def cmd0 : Cmd := ⟨0, 0, 0, 0, 0, 0, 0, 0⟩
def crdV (s : ByteArray) : Cmd := if rdB (rdPre s) = true then (rdPre s).1 else cmd0
def crdE (s : ByteArray) : Int := if rdB (rdPre s) = true then 0 else 100

end Go.Proofs.Ytiapfhcimekdkaa

/- What a command is as bytes. -/
set_option linter.unusedVariables false
set_option linter.unusedSimpArgs false
set_option maxRecDepth 100000
namespace Go.Proofs.Ytiapfhcimekdkaa
open Go Go.Eng Go.RowKit

def cmdR (c : Cmd) : List UInt8 :=
  if c.kind = 2 then leB 1 c.lo ++ (leB 1 c.hi ++ (leB 1 c.mode ++ []))
  else if c.kind = 3 then leB 1 c.lo ++ (leB 1 c.hi ++ [])
  else if c.kind = 4 then leB 6 c.dead ++ (leB 6 c.was ++ [])
  else if c.kind = 5 then leB 6 c.dead ++ []
  else []

theorem cmd_shape (c : Cmd) : cmdL c = leB 1 c.kind ++ (leB 6 c.by_ ++ (leB 4 c.serial ++ cmdR c)) := by
  unfold cmdL cmdR
  split
  · simp [putL]
  · split
    · simp [putL]
    · split
      · simp [putL]
      · split <;> simp [putL]

theorem cmdR_len (c : Cmd) : (cmdR c).length ≤ 12 := by
  unfold cmdR
  split
  · simp [leB, leTake_len]
  · split
    · simp [leB, leTake_len]
    · split
      · simp [leB, leTake_len]
      · split <;> simp [leB, leTake_len]

theorem cmdL_len (c : Cmd) : 11 ≤ (cmdL c).length ∧ (cmdL c).length ≤ 23 := by
  have := cmdR_len c
  rw [cmd_shape]
  simp only [List.length_append, leB, leTake_len]
  omega

theorem cbV_pos {c : Cmd} (h : cmdB c = true) : cbV c = strOf (cmdL c) ∧ cbE c = 0 := by
  rw [cbV, cbE, if_pos h, if_pos h]; exact ⟨rfl, rfl⟩

end Go.Proofs.Ytiapfhcimekdkaa

/- What is read of bytes was put there: the plain law. -/
set_option linter.unusedVariables false
set_option linter.unusedSimpArgs false
set_option maxRecDepth 100000
namespace Go.Proofs.Ytiapfhcimekdkaa
open Go Go.Eng Go.RowKit

end Go.Proofs.Ytiapfhcimekdkaa

/- A row of numbers, the document's. -/
set_option linter.unusedVariables false
set_option linter.unusedSimpArgs false
set_option maxRecDepth 100000
namespace Go.Proofs.Ytiapfhcimekdkaa
open Go Go.Eng Go.RowKit

/-- The numbers of six bytes each that make up a string. -/
def rowR : Nat → ByteArray → List Int → List Int × Int
  | 0, _, acc => (acc, 0)
  | f + 1, r, acc => if r.size = 0 then (acc, 0) else if (getSpec r 0 6).2 ≠ 0 then ([], (getSpec r 0 6).2) else rowR f (restOf r 6) (acc ++ [(getSpec r 0 6).1])

theorem int_ones2 (l : List Int) : ∀ u ∈ l.flatMap encI64, u.oneCell' = true := by
  intro u hu
  obtain ⟨x, _, hx⟩ := List.mem_flatMap.1 hu
  simp only [encI64, List.mem_singleton] at hx
  subst hx; rfl

def RowPostI (r : List Int × Int) (w : World) (e : Ending) (w' : World) : Prop :=
  (∃ v, e = .returned (.tuple #[v, I r.2]) ∧ w'.ownsRow w.heap.size 3 1 v r.1.length (r.1.flatMap encI64)) ∧ Below w.heap.size w w'

theorem refRow_c (s : ByteArray) (hs : s.size ≤ 1000) (w : World) : Calls Try.prog 83 #[S s, I 6] w (RowPostI (rowR (s.size + 1) s []) w) := by
  have hm : mostI 6 = 1099511627776 := by decide
  have hmx : s.size ≤ maxLen := by simp only [maxLen]; omega
  obtain ⟨R, hR⟩ : ∃ r, rowR (s.size + 1) s [] = r := ⟨_, rfl⟩
  rw [hR]
  refine enter (E := E0) (O := []) (nl := 0) (V := vw w) [.a (.v (S s)), .a (.v (I 6))] Try.func83 rfl rfl (mem0 E0 0 w) rfl rfl ?_
  refine c_seq ?_
  refine c_region ?_
  refine o_yield rfl rfl rfl (y_val tok rfl) ?_
  refine o_yield rfl rfl rfl (y_val tok rfl) ?_
  refine o_end [0, 1] rfl ?_
  refine x_then ?_
  refine c_seq ?_
  refine c_seq ?_
  refine c_region ?_
  refine o_yield rfl rfl rfl (y_val tok rfl) ?_
  refine o_call (.a (.v _)) rfl rfl fnok124 rfl rfl rfl (fun hg E w1 hm => by exact refMost_c 6 _) ?_
  refine o_yield rfl rfl rfl (y_val tok rfl) ?_
  refine o_end [0, 1, 12] rfl ?_
  refine x_then ?_
  refine c_cond rfl (fun h => ?_) (fun h => ?_)
  ·
    exfalso
    rw [hm] at h
    exact absurd h (by decide)
  ·
    refine c_skip ?_
    refine x_then ?_
    refine c_seq ?_
    refine c_region ?_
    refine o_yield rfl rfl rfl (y_val tok rfl) ?_
    refine o_end [0, 1, 6] rfl ?_
    refine x_then ?_
    refine c_seq ?_
    refine c_seq ?_
    refine c_region ?_
    refine o_yield rfl rfl rfl (y_val tok rfl) ?_
    refine o_end [0, 1, 6, 7] rfl ?_
    refine x_then ?_
    refine c_block ?_
    refine k_nil 6 3 1 rfl rfl ?_
    refine c_loopK [0, 1] [0] rfl rfl (σ := Nat × Nat × List Int) (fun (a, f, acc) => [(6, .a (.row 0)), (7, .a (.v (I a)))]) (fun (a, f, acc) => [(0, .row 3 1 acc.length (acc.flatMap encI64))]) (fun (a, f, acc) => a ≤ s.size ∧ s.size + 1 ≤ a + f ∧ R = rowR f (restOf s a) acc ∧ acc.length ≤ a) (fun (a, f, acc) => s.size - a) ((0, s.size + 1, [])) (⟨by omega, by omega, by rw [restOf_zero]; exact hR.symm, by simp⟩) (by repeat (first | exact SubF.nil | refine SubF.cons rfl ?_)) (by repeat (first | exact SubO.nil | refine SubO.cons rfl ?_)) rfl ?_
    rintro ⟨a, f, acc⟩ ⟨ha, hf, heq, hal⟩
    have hrs := restOf_size s a
    obtain ⟨f, rfl⟩ : ∃ g, f = g + 1 := ⟨f - 1, by omega⟩
    rw [rowR] at heq
    refine c_seq ?_
    refine c_seq ?_
    refine c_region ?_
    refine o_yield rfl rfl rfl (y_val tok rfl) ?_
    refine o_yield rfl rfl rfl (y_val tok rfl) ?_
    refine o_yield rfl rfl rfl (y_val tok rfl) ?_
    refine o_yield rfl rfl rfl (y_val tok rfl) ?_
    refine o_end [0, 1, 6, 7, 16] rfl ?_
    refine x_then ?_
    refine c_cond rfl (fun h => ?_) (fun h => ?_)
    ·
      simp only [Bool.and_eq_true, Bool.or_eq_true, Bool.not_eq_true', Bool.or_eq_false_iff, Bool.and_eq_false_iff, decide_eq_true_eq, decide_eq_false_iff_not, beq_iff_eq, bne_iff_ne, Bool.not_eq_false', beq_eq_false_iff_ne, bne_eq_false_iff_eq, ne_eq, Decidable.not_not, Int.not_lt, Int.not_le] at h
      refine c_skip ?_
      refine x_then ?_
      refine c_seq ?_
      refine c_block ?_
      refine c_seq ?_
      refine c_region ?_
      refine o_yield rfl rfl rfl (y_val tok rfl) ?_
      refine o_yield rfl rfl rfl (y_val tok rfl) ?_
      refine o_yield rfl rfl rfl (y_val tok rfl) ?_
      rw [if_neg (by omega)] at heq
      rw [getSpec_rest s ha] at heq
      refine o_call (.a (.v _)) rfl rfl fnok82 rfl rfl rfl (fun hg E w1 hm => by exact refGet_c s a 6 hmx _) ?_
      refine o_yield rfl rfl rfl (y_val tok rfl) ?_
      refine o_yield rfl rfl rfl (y_val tok rfl) ?_
      refine o_yield rfl rfl rfl (y_val tok rfl) ?_
      refine o_yield rfl rfl rfl (y_val tok rfl) ?_
      refine o_yield rfl rfl rfl (y_val tok rfl) ?_
      refine o_end [0, 1, 6, 7, 8, 9] rfl ?_
      refine x_then ?_
      refine c_seq ?_
      refine c_seq ?_
      refine c_region ?_
      refine o_yield rfl rfl rfl (y_val tok rfl) ?_
      refine o_yield rfl rfl rfl (y_val tok rfl) ?_
      refine o_end [0, 1, 6, 7, 8, 9, 28] rfl ?_
      refine x_then ?_
      refine c_cond rfl (fun h => ?_) (fun h => ?_)
      ·
        simp only [Bool.and_eq_true, Bool.or_eq_true, Bool.not_eq_true', Bool.or_eq_false_iff, Bool.and_eq_false_iff, decide_eq_true_eq, decide_eq_false_iff_not, beq_iff_eq, bne_iff_ne, Bool.not_eq_false', beq_eq_false_iff_ne, bne_eq_false_iff_eq, ne_eq, Decidable.not_not, Int.not_lt, Int.not_le] at h
        refine c_seq ?_
        refine c_region ?_
        refine o_yield rfl rfl rfl (y_val tok rfl) ?_
        refine o_yield rfl rfl rfl (y_val tok rfl) ?_
        refine o_yield rfl rfl rfl (y_val tok rfl) ?_
        refine o_end [4, 5] rfl ?_
        refine x_then ?_
        refine c_ret ?_
        refine x_then_ret ?_
        refine x_block_ret ?_
        refine x_then_ret ?_
        refine x_then_ret ?_
        refine x_block_ret ?_
        refine x_then_ret ?_
        refine b_ret tok rfl ?_
        rw [if_pos h] at heq
        intro E w' hm _
        refine ⟨⟨_, by rw [heq]; rfl, ?_⟩, hm.below (Vw.le.refl _)⟩
        rw [heq]
        exact World.ownsRow_nil _ _ _ _
      ·
        simp only [Bool.and_eq_true, Bool.or_eq_true, Bool.not_eq_true', Bool.or_eq_false_iff, Bool.and_eq_false_iff, decide_eq_true_eq, decide_eq_false_iff_not, beq_iff_eq, bne_iff_ne, Bool.not_eq_false', beq_eq_false_iff_ne, bne_eq_false_iff_eq, ne_eq, Decidable.not_not, Int.not_lt, Int.not_le] at h
        rw [if_neg (by simp [h])] at heq
        obtain ⟨_, _, hle⟩ := getSpec_ok h
        rw [restOf_add] at heq
        clear h
        refine c_skip ?_
        refine x_then ?_
        refine c_region ?_
        refine o_yield rfl rfl rfl (y_val tok rfl) ?_
        refine o_yield rfl rfl rfl (y_val tok rfl) ?_
        refine o_step rfl rfl rfl rfl rfl (s_bs tok 1 rfl rfl rfl) (fun _ _ => ?_)
        refine o_step rfl rfl rfl rfl rfl (s_app tok ([(getSpec s a 6).1].flatMap encI64) rfl (fun E w hm => ownsRow_src (hm.row 1 _ _ _ _ rfl)) (fun _ _ _ => int_ones2 _) (by dsimp only; omega)) (fun _ _ => ?_)
        refine o_yield rfl rfl rfl (y_val tok rfl) ?_
        refine o_end [0, 1, 6, 7] rfl ?_
        refine x_block ?_
        refine x_then ?_
        refine c_region ?_
        refine o_yield rfl rfl rfl (y_val tok rfl) ?_
        refine o_yield rfl rfl rfl (y_val tok rfl) ?_
        refine o_yield rfl rfl rfl (y_val tok rfl) ?_
        refine o_yield rfl rfl rfl (y_val tok rfl) ?_
        refine o_end [0, 1, 6, 7] rfl ?_
        refine x_then ?_
        rw [← List.flatMap_append, show acc.length + 1 = (acc ++ [(getSpec s a 6).1]).length by simp, wrapI (n := (a : Int) + 6) (by omega) (by omega), show (a : Int) + 6 = ((a + 6 : Nat) : Int) by omega]
        refine k_swap 0 2 rfl ?_
        refine x_round ((a + 6, f, acc ++ [(getSpec s a 6).1])) (⟨by omega, by omega, heq, by simp; omega⟩) (by first | omega | (dsimp only; omega)) (by repeat (first | exact SubF.nil | refine SubF.cons rfl ?_)) (by repeat (first | exact SubO.nil | refine SubO.cons rfl ?_)) rfl (Vw.le.refl _)
    ·
      simp only [Bool.and_eq_true, Bool.or_eq_true, Bool.not_eq_true', Bool.or_eq_false_iff, Bool.and_eq_false_iff, decide_eq_true_eq, decide_eq_false_iff_not, beq_iff_eq, bne_iff_ne, Bool.not_eq_false', beq_eq_false_iff_ne, bne_eq_false_iff_eq, ne_eq, Decidable.not_not, Int.not_lt, Int.not_le] at h
      refine c_exit ?_
      refine x_then_exit ?_
      refine x_then_exit ?_
      refine x_block_hit ?_
      refine x_then ?_
      refine c_seq ?_
      refine c_region ?_
      refine o_yield rfl rfl rfl (y_val tok rfl) ?_
      refine o_yield rfl rfl rfl (y_val tok rfl) ?_
      refine o_yield rfl rfl rfl (y_val tok rfl) ?_
      refine o_end [4, 5] rfl ?_
      refine x_then ?_
      refine c_ret ?_
      refine b_ret tok rfl ?_
      rw [if_pos (by omega)] at heq
      intro E w' hm _
      refine ⟨⟨_, by rw [heq]; rfl, ?_⟩, hm.below (Vw.le.refl _)⟩
      rw [heq]
      exact hm.rowFresh (Vw.le.refl _) (l := 0) rfl
end Go.Proofs.Ytiapfhcimekdkaa

/- Commands read back, the document's: what is none. -/
set_option linter.unusedVariables false
set_option linter.unusedSimpArgs false
set_option maxRecDepth 100000
namespace Go.Proofs.Ytiapfhcimekdkaa
open Go Go.Eng Go.RowKit

section
variable {o : Oper} {n : Nat} {F : Frame0} {C : List Nat} {O : Go.Eng.Own} {nl : Nat} {V : Vw}

theorem y_ssR {P : Program} {tt : List (Nat × TI)} (htt : TTok P tt) {p : List (Nat × Bool)} {g : Bool} {s : ByteArray} {lo hi : Option Int} (r : ByteArray)
    (hv : evalSs tt F p o.op = some (s, lo, hi)) (hb : g = true → 0 ≤ lo.getD 0 ∧ lo.getD 0 ≤ hi.getD s.size ∧ hi.getD s.size ≤ s.size) (hr : s.extract (lo.getD 0).toNat (hi.getD s.size).toNat = r) :
    Yld P o n F C O nl V p g (.a (.v (.string r))) := hr ▸ y_ss htt hv hb

theorem s_refRow {p : List (Nat × Bool)} (s : ByteArray) (r : List Int × Int) (hr : rowR (s.size + 1) s [] = r) {ss : List SV} (hv : evalC F p o.op = some (83, ss)) (hs : s.size ≤ 1000)
    (hss : ∀ E, ss.map (SV.den E) = [S s, I 6]) :
    StepTo Try.prog o p n F C O nl V (σ := Unit) (fun _ => True) (fun _ => .tup [.row nl, .v (I r.2)]) (fun _ => (nl, .row 3 1 r.1.length (r.1.flatMap encI64)) :: O) (nl + 1) (fun _ => V) := by
  refine s_callR (fun _ => True) (fun _ => .tup [.row nl, .v (I r.2)]) 3 1 (fun _ => r.1.length) (fun _ => r.1.flatMap encI64) hv fnok83 (fun _ => by simp [SV.ok, allOk, A.ok, blt_iff]) ?_
  intro E w hm
  rw [hss E]
  refine (refRow_c s hs w).mono ?_
  rintro e w' ⟨⟨v, rfl, hown⟩, hbl⟩
  rw [hr] at hown
  exact ⟨(), v, by rw [hr]; simp [SV.den, A.den, Env.setκ], hown, hbl, trivial⟩
end

end Go.Proofs.Ytiapfhcimekdkaa

/- Commands read back, the document's. -/
set_option linter.unusedVariables false
set_option linter.unusedSimpArgs false
set_option maxRecDepth 100000
namespace Go.Proofs.Ytiapfhcimekdkaa
open Go Go.Eng Go.RowKit

theorem rest_add (a b : List UInt8) : restOf (strOf (a ++ b)) a.length = strOf b := by
  apply str_ext
  rw [restOf_list, strOf_list, strOf_list, List.drop_left]

theorem leB_len (k n : Int) : (leB k n).length = k.toNat := by rw [leB, leTake_len]

theorem byte0 {n : Int} (h0 : 0 ≤ n) (h1 : n ≤ 255) (R : List UInt8) : (byteAt (strOf (leB 1 n ++ R)) 0).toNat = n.toNat := by
  rw [byteAt_list, strOf_list, (leB_one h0 h1).1, List.singleton_append]
  show (kindOf8 n).toNat = _
  rw [kindOf8, UInt8.toNat_ofNat']; omega

theorem byte_rest (s : ByteArray) (i : Nat) : byteAt s (i + 1) = byteAt (restOf s 1) i := by
  rw [byteAt_list, byteAt_list, restOf_list]
  simp [List.getD, List.getElem?_drop, Nat.add_comm]

structure Facts (c : Cmd) (s r : ByteArray) : Prop where
  size : s.size = 11 + (cmdR c).length
  g1 : getSpec s 1 6 = (c.by_, 0)
  g2 : getSpec s 7 4 = (c.serial, 0)
  k0 : (byteAt s 0).toNat = c.kind.toNat
  rest : restOf s 11 = r

theorem facts {c : Cmd} (hc : cmdB c = true) : Facts c (strOf (cmdL c)) (strOf (cmdR c)) := by
  have ok := cmdOk hc
  have okk := ok.kind
  have oky := ok.by_
  have oks := ok.serial
  have m6 : mostN (6 : Int).toNat = 1099511627776 := by decide
  have m4 : mostN (4 : Int).toNat = 4294967295 := by decide
  have f6 : fitsB c.by_ 6 = true := by rw [fitsB, m6]; simp [widthB]; omega
  have f4 : fitsB c.serial 4 = true := by rw [fitsB, m4]; simp [widthB]; omega
  have e := cmd_shape c
  have l := cmdL_len c
  have r1 : restOf (strOf (cmdL c)) 1 = strOf (leB 6 c.by_ ++ (leB 4 c.serial ++ cmdR c)) := by
    rw [e]; exact rest_add (leB 1 c.kind) _
  have r7 : restOf (strOf (cmdL c)) 7 = strOf (leB 4 c.serial ++ cmdR c) := by
    rw [show 7 = 1 + 6 from rfl, ← restOf_add, r1]; exact rest_add (leB 6 c.by_) _
  have r11 : restOf (strOf (cmdL c)) 11 = strOf (cmdR c) := by
    rw [show 11 = 7 + 4 from rfl, ← restOf_add, r7]; exact rest_add (leB 4 c.serial) _
  have hs : (strOf (cmdL c)).size = 11 + (cmdR c).length := by
    rw [strOf_size, e]
    simp only [List.length_append, leB_len]
    omega
  refine ⟨hs, ?_, ?_, ?_, r11⟩
  · have := getSpec_rest (strOf (cmdL c)) (a := 1) (by omega) 6
    rw [r1, getSpec_pack f6] at this
    exact this.symm
  · have := getSpec_rest (strOf (cmdL c)) (a := 7) (by omega) 4
    rw [r7, getSpec_pack f4] at this
    exact this.symm
  · rw [e]; exact byte0 (by omega) (by omega) _

theorem rowR_two {a b : Int} (ha : 0 ≤ a ∧ a ≤ 1099511627776) (hb : 0 ≤ b ∧ b ≤ 1099511627776) : rowR ((strOf (leB 6 a ++ (leB 6 b ++ []))).size + 1) (strOf (leB 6 a ++ (leB 6 b ++ []))) [] = ([a, b], 0) := by
  have m6 : mostN (6 : Int).toNat = 1099511627776 := by decide
  have f6 : ∀ n : Int, 0 ≤ n ∧ n ≤ 1099511627776 → fitsB n 6 = true := fun n h => by rw [fitsB, m6]; simp [widthB]; omega
  have l : (strOf (leB 6 a ++ (leB 6 b ++ []))).size = 12 := by rw [strOf_size]; simp only [List.length_append, leB_len, List.length_nil]; rfl
  have l2 : (strOf (leB 6 b ++ [])).size = 6 := by rw [strOf_size]; simp only [List.length_append, leB_len, List.length_nil]; rfl
  rw [l, rowR, l, if_neg (by decide), getSpec_pack (f6 a ha), if_neg (by simp), show restOf (strOf (leB 6 a ++ (leB 6 b ++ []))) 6 = strOf (leB 6 b ++ []) from rest_add (leB 6 a) _,
    rowR, l2, if_neg (by decide), getSpec_pack (f6 b hb), if_neg (by simp), show restOf (strOf (leB 6 b ++ [])) 6 = strOf [] from rest_add (leB 6 b) _, rowR, if_pos (by rw [strOf_size]; rfl)]
  rfl

theorem rowR_one {b : Int} (hb : 0 ≤ b ∧ b ≤ 1099511627776) : rowR ((strOf (leB 6 b ++ [])).size + 1) (strOf (leB 6 b ++ [])) [] = ([b], 0) := by
  have m6 : mostN (6 : Int).toNat = 1099511627776 := by decide
  have f6 : ∀ n : Int, 0 ≤ n ∧ n ≤ 1099511627776 → fitsB n 6 = true := fun n h => by rw [fitsB, m6]; simp [widthB]; omega
  have l2 : (strOf (leB 6 b ++ [])).size = 6 := by rw [strOf_size]; simp only [List.length_append, leB_len, List.length_nil]; rfl
  rw [l2, rowR, l2, if_neg (by decide), getSpec_pack (f6 b hb), if_neg (by simp), show restOf (strOf (leB 6 b ++ [])) 6 = strOf [] from rest_add (leB 6 b) _, rowR, if_pos (by rw [strOf_size]; rfl)]
  rfl
end Go.Proofs.Ytiapfhcimekdkaa

/- Commands read back, the document's: what is one. -/
set_option linter.unusedVariables false
set_option linter.unusedSimpArgs false
set_option maxRecDepth 100000
namespace Go.Proofs.Ytiapfhcimekdkaa
open Go Go.Eng Go.RowKit

theorem refBytes_as {s : ByteArray} {c : Cmd} (hc : cmdB c = true) (hs : strOf (cmdL c) = s) (c' : Cmd) (h : c' = c) (w : World) : Calls Try.prog 84 #[c'.val] w fun e w' => e = .returned (.tuple #[S s, I 0]) ∧ Below w.heap.size w w' := by
  subst h
  obtain ⟨h1, h2⟩ := cbV_pos hc
  have := refCmdBytes_c c' w
  rw [h1, h2, hs] at this
  exact this

theorem conv0 {b : UInt8} {n : Int} (h0 : 0 ≤ n) (h1 : n ≤ 127) (h : b.toNat = n.toNat) : IntKind.i64.wrap ((b.toNat : Nat) : Int) = n ∧ IntKind.i8.wrap ((b.toNat : Nat) : Int) = n := by
  rw [h, show ((n.toNat : Nat) : Int) = n by omega]
  exact ⟨wrapI (by omega) (by omega), wrapI8 h0 h1⟩

theorem mode_and {b : UInt8} {n : Int} (h0 : 0 ≤ n) (h1 : n ≤ 2) (h : b.toNat = n.toNat) : IntKind.i8.wrap (bits .and .u8 ((b.toNat : Nat) : Int) 127) = n := by
  rw [h]
  have : n = 0 ∨ n = 1 ∨ n = 2 := by omega
  rcases this with rfl | rfl | rfl <;> decide

theorem refCmdRead_good (c : Cmd) (hc : cmdB c = true) (w : World) : Calls Try.prog 34 #[S (strOf (cmdL c))] w fun e w' => e = .returned (.tuple #[c.val, I 0]) ∧ Below w.heap.size w w' := by
  have ok := cmdOk hc
  have okk := ok.kind
  have okl := ok.lo
  have okh := ok.hi
  have okm := ok.mode
  have okd := ok.dead
  have okw := ok.was
  obtain ⟨fz, g1, g2, k0, hr⟩ := facts hc
  have hR : c.kind ≠ 2 → c.kind ≠ 3 → c.kind = 4 ∨ c.kind = 5 → rowR ((strOf (cmdR c)).size + 1) (strOf (cmdR c)) [] = (if c.kind = 4 then [c.dead, c.was] else [c.dead], 0) := by
    intro n2 n3 h
    rw [cmdR, if_neg n2, if_neg n3]
    rcases h with h | h
    · rw [if_pos h, if_pos h]; exact rowR_two okd okw
    · rw [if_neg (by omega), if_pos h, if_neg (by omega)]; exact rowR_one okd
  have hl := cmdR_len c
  have hrz : (strOf (cmdR c)).size = (cmdR c).length := strOf_size _
  have hb := refBytes_as hc (s := strOf (cmdL c)) rfl
  obtain ⟨y1, y2⟩ := conv0 (b := byteAt (strOf (cmdL c)) (0 : Int).toNat) okk.1 (by omega) k0
  have r2 : c.kind = 2 → (strOf (cmdR c)).size = 3 ∧ (byteAt (strOf (cmdR c)) 0).toNat = c.lo.toNat ∧ (byteAt (strOf (cmdR c)) 1).toNat = c.hi.toNat ∧ (byteAt (strOf (cmdR c)) 2).toNat = c.mode.toNat := by
    intro h
    have e : cmdR c = leB 1 c.lo ++ (leB 1 c.hi ++ (leB 1 c.mode ++ [])) := by rw [cmdR, if_pos h]
    rw [hrz, e]
    have x1 : restOf (strOf (leB 1 c.lo ++ (leB 1 c.hi ++ (leB 1 c.mode ++ [])))) 1 = strOf (leB 1 c.hi ++ (leB 1 c.mode ++ [])) := rest_add (leB 1 c.lo) _
    have x2 : restOf (strOf (leB 1 c.hi ++ (leB 1 c.mode ++ []))) 1 = strOf (leB 1 c.mode ++ []) := rest_add (leB 1 c.hi) _
    refine ⟨by simp only [List.length_append, leB_len, List.length_nil]; rfl, byte0 (by omega) (by omega) _, ?_, ?_⟩
    · rw [byte_rest _ 0, x1]; exact byte0 (by omega) (by omega) _
    · rw [byte_rest _ 1, x1, byte_rest _ 0, x2]; exact byte0 (by omega) (by omega) _
  have r3 : c.kind = 3 → (strOf (cmdR c)).size = 2 ∧ (byteAt (strOf (cmdR c)) 0).toNat = c.lo.toNat ∧ (byteAt (strOf (cmdR c)) 1).toNat = c.hi.toNat := by
    intro h
    have e : cmdR c = leB 1 c.lo ++ (leB 1 c.hi ++ []) := by rw [cmdR, if_neg (by omega), if_pos h]
    rw [hrz, e]
    have x1 : restOf (strOf (leB 1 c.lo ++ (leB 1 c.hi ++ []))) 1 = strOf (leB 1 c.hi ++ []) := rest_add (leB 1 c.lo) _
    refine ⟨by simp only [List.length_append, leB_len, List.length_nil]; rfl, byte0 (by omega) (by omega) _, ?_⟩
    rw [byte_rest _ 0, x1]; exact byte0 (by omega) (by omega) _
  obtain ⟨s, hs⟩ : ∃ s, strOf (cmdL c) = s := ⟨_, rfl⟩
  obtain ⟨r, hrr⟩ : ∃ r, strOf (cmdR c) = r := ⟨_, rfl⟩
  rw [hs] at fz g1 g2 k0 hr hb y1 y2 ⊢
  rw [hrr] at hr hR r2 r3 hrz
  have hmx : s.size ≤ maxLen := by simp only [maxLen]; omega
  refine enter (E := E0) (O := []) (nl := 0) (V := vw w) [.a (.v (S s))] Try.func34 rfl rfl (mem0 E0 0 w) rfl rfl ?_
  refine c_seq ?_
  refine c_region ?_
  refine o_new tok rfl rfl rfl rfl ?_
  refine o_yield rfl rfl rfl (y_val tok rfl) ?_
  refine o_end [0, 2] rfl ?_
  refine x_then ?_
  refine c_seq ?_
  refine c_seq ?_
  refine c_region ?_
  refine o_yield rfl rfl rfl (y_val tok rfl) ?_
  refine o_yield rfl rfl rfl (y_val tok rfl) ?_
  refine o_yield rfl rfl rfl (y_val tok rfl) ?_
  refine o_end [0, 2, 16] rfl ?_
  refine x_then ?_
  refine c_cond rfl (fun h => ?_) (fun h => ?_)
  ·
    simp only [Bool.and_eq_true, Bool.or_eq_true, Bool.not_eq_true', Bool.or_eq_false_iff, Bool.and_eq_false_iff, decide_eq_true_eq, decide_eq_false_iff_not, beq_iff_eq, bne_iff_ne, Bool.not_eq_false', beq_eq_false_iff_ne, bne_eq_false_iff_eq, ne_eq, Decidable.not_not, Int.not_lt, Int.not_le] at h
    refine c_seq ?_
    refine c_region ?_
    refine o_yield rfl rfl rfl (y_val tok rfl) ?_
    refine o_store tok rfl rfl rfl (by first | exact ⟨trivial, trivial⟩ | (repeat' first | exact trivial | exact rfl | apply And.intro); done | simp [onesP, oneP, lk, Value.oneCell']) ?_
    refine o_yield rfl rfl rfl (y_val tok rfl) ?_
    refine o_end [2, 3] rfl ?_
    refine x_then ?_
    refine c_ret ?_
    refine x_then_ret ?_
    refine b_ret tok rfl ?_
    omega
  ·
    simp only [Bool.and_eq_true, Bool.or_eq_true, Bool.not_eq_true', Bool.or_eq_false_iff, Bool.and_eq_false_iff, decide_eq_true_eq, decide_eq_false_iff_not, beq_iff_eq, bne_iff_ne, Bool.not_eq_false', beq_eq_false_iff_ne, bne_eq_false_iff_eq, ne_eq, Decidable.not_not, Int.not_lt, Int.not_le] at h
    refine c_skip ?_
    refine x_then ?_
    refine c_seq ?_
    refine c_region ?_
    refine o_yield rfl rfl rfl (y_val tok rfl) ?_
    clear h
    refine o_call (.a (.v _)) rfl rfl fnok82 rfl rfl rfl (fun hg E w1 hm => by exact refGet_c s 1 6 hmx _) ?_
    refine o_yield rfl rfl rfl (y_val tok rfl) ?_
    refine o_yield rfl rfl rfl (y_val tok rfl) ?_
    refine o_yield rfl rfl rfl (y_val tok rfl) ?_
    refine o_yield rfl rfl rfl (y_val tok rfl) ?_
    refine o_yield rfl rfl rfl (y_val tok rfl) ?_
    refine o_end [0, 2, 4, 5] rfl ?_
    refine x_then ?_
    refine c_seq ?_
    refine c_region ?_
    refine o_yield rfl rfl rfl (y_val tok rfl) ?_
    refine o_call (.a (.v _)) rfl rfl fnok82 rfl rfl rfl (fun hg E w1 hm => by exact refGet_c s 7 4 hmx _) ?_
    refine o_yield rfl rfl rfl (y_val tok rfl) ?_
    refine o_yield rfl rfl rfl (y_val tok rfl) ?_
    refine o_yield rfl rfl rfl (y_val tok rfl) ?_
    refine o_yield rfl rfl rfl (y_val tok rfl) ?_
    refine o_yield rfl rfl rfl (y_val tok rfl) ?_
    refine o_end [0, 2, 4, 5, 6, 7] rfl ?_
    refine x_then ?_
    refine c_seq ?_
    refine c_seq ?_
    refine c_region ?_
    refine o_yield rfl rfl rfl (y_val tok rfl) ?_
    refine o_yield rfl rfl rfl (y_val tok rfl) ?_
    refine o_yield rfl rfl rfl (y_val tok rfl) ?_
    refine o_yield rfl rfl rfl (y_val tok rfl) ?_
    refine o_yield rfl rfl rfl (y_val tok rfl) ?_
    refine o_yield rfl rfl rfl (y_val tok rfl) ?_
    refine o_yield rfl rfl rfl (y_val tok rfl) ?_
    refine o_yield rfl rfl rfl (y_val tok rfl) ?_
    refine o_yield rfl rfl rfl (y_si tok rfl (fun hg => by omega)) ?_
    refine o_yield rfl rfl rfl (y_val tok rfl) ?_
    refine o_yield rfl rfl rfl (y_val tok rfl) ?_
    refine o_end [0, 2, 4, 6, 38] rfl ?_
    refine x_then ?_
    refine c_cond rfl (fun h => ?_) (fun h => ?_)
    ·
      exfalso
      rw [g1, g2] at h
      have : ((byteAt s (0 : Int).toNat).toNat : Int) ≤ 5 := by rw [show byteAt s (0 : Int).toNat = byteAt s 0 from rfl, k0]; omega
      simp at h
      omega
    ·
      refine c_skip ?_
      refine x_then ?_
      refine c_seq ?_
      refine c_region ?_
      refine o_yield rfl rfl rfl (y_val tok rfl) ?_
      clear h
      refine o_yield rfl rfl rfl (y_si tok rfl (fun hg => by omega)) ?_
      refine o_yield rfl rfl rfl (y_val tok rfl) ?_
      refine o_yield rfl rfl rfl (y_val tok rfl) ?_
      refine o_yield rfl rfl rfl (y_val tok rfl) ?_
      refine o_yield rfl rfl rfl (y_val tok rfl) ?_
      refine o_new tok rfl rfl rfl rfl ?_
      refine o_store tok rfl rfl rfl (by first | exact ⟨trivial, trivial⟩ | (repeat' first | exact trivial | exact rfl | apply And.intro); done | simp [onesP, oneP, lk, Value.oneCell']) ?_
      refine o_end [0, 2, 8] rfl ?_
      refine x_then ?_
      refine c_seq ?_
      refine c_region ?_
      refine o_yield rfl rfl rfl (y_val tok rfl) ?_
      rw [y2, g1, g2]
      refine o_yield rfl rfl rfl (y_ssR tok r rfl (fun hg => by simp only [Option.getD]; omega) hr) ?_
      refine o_yield rfl rfl rfl (y_val tok rfl) ?_
      refine o_end [0, 2, 8, 9] rfl ?_
      refine x_then ?_
      refine c_seq ?_
      refine c_seq ?_
      refine c_region ?_
      refine o_yield rfl rfl rfl (y_val tok rfl) ?_
      refine o_yield rfl rfl rfl (y_val tok rfl) ?_
      refine o_end [0, 2, 8, 9, 49] rfl ?_
      refine x_then ?_
      refine c_block ?_
      refine c_seq ?_
      refine c_seq ?_
      refine c_region ?_
      refine o_yield rfl rfl rfl (y_val tok rfl) ?_
      refine o_yield rfl rfl rfl (y_val tok rfl) ?_
      refine o_end [0, 2, 8, 9, 49, 50] rfl ?_
      refine x_then ?_
      refine c_cond rfl (fun h => ?_) (fun h => ?_)
      ·
        refine c_skip ?_
        refine x_then ?_
        refine c_cond rfl (fun h2 => ?_) (fun h2 => ?_)
        ·
          have e : c.kind = 2 := by simpa using h2
          have hcc : (⟨c.kind, c.by_, c.serial, 0, 0, c.lo, c.hi, c.mode⟩ : Cmd) = c := (Cmd.eqB_iff _ _).1 (by
            simp [Cmd.eqB, ok.dead0 (by omega) (by omega), ok.was0 (by omega)])
          obtain ⟨q0, q1, q2, q3⟩ := r2 e
          obtain ⟨u0, _⟩ := conv0 (b := byteAt r (0 : Int).toNat) okl.1 (by omega) q1
          obtain ⟨u1, _⟩ := conv0 (b := byteAt r (1 : Int).toNat) okh.1 (by omega) q2
          have u2 := mode_and (b := byteAt r (2 : Int).toNat) okm.1 okm.2 q3
          refine c_seq ?_
          refine c_seq ?_
          refine c_region ?_
          refine o_yield rfl rfl rfl (y_val tok rfl) ?_
          refine o_yield rfl rfl rfl (y_val tok rfl) ?_
          refine o_yield rfl rfl rfl (y_val tok rfl) ?_
          refine o_end [0, 2, 8, 9, 55] rfl ?_
          refine x_then ?_
          refine c_cond rfl (fun h => ?_) (fun h => ?_)
          ·
            simp only [Bool.and_eq_true, Bool.or_eq_true, Bool.not_eq_true', Bool.or_eq_false_iff, Bool.and_eq_false_iff, decide_eq_true_eq, decide_eq_false_iff_not, beq_iff_eq, bne_iff_ne, Bool.not_eq_false', beq_eq_false_iff_ne, bne_eq_false_iff_eq, ne_eq, Decidable.not_not, Int.not_lt, Int.not_le] at h
            refine c_seq ?_
            refine c_region ?_
            refine o_yield rfl rfl rfl (y_val tok rfl) ?_
            refine o_store tok rfl rfl rfl (by first | exact ⟨trivial, trivial⟩ | (repeat' first | exact trivial | exact rfl | apply And.intro); done | simp [onesP, oneP, lk, Value.oneCell']) ?_
            refine o_yield rfl rfl rfl (y_val tok rfl) ?_
            refine o_end [2, 3] rfl ?_
            refine x_then ?_
            refine c_ret ?_
            refine x_then_ret ?_
            refine x_block_ret ?_
            refine x_then_ret ?_
            refine b_ret tok rfl ?_
            omega
          ·
            simp only [Bool.and_eq_true, Bool.or_eq_true, Bool.not_eq_true', Bool.or_eq_false_iff, Bool.and_eq_false_iff, decide_eq_true_eq, decide_eq_false_iff_not, beq_iff_eq, bne_iff_ne, Bool.not_eq_false', beq_eq_false_iff_ne, bne_eq_false_iff_eq, ne_eq, Decidable.not_not, Int.not_lt, Int.not_le] at h
            refine c_skip ?_
            refine x_then ?_
            refine c_seq ?_
            refine c_heldS [8] mixed rfl (by repeat (first | exact SubO.nil | refine SubO.cons rfl ?_)) (by first | rfl | simp [okCels, allOk_plain]) ?_
            refine t_takeD 0 rfl (by kernel_rfl) rfl rfl rfl (y_val tok rfl) rfl ?_
            clear h
            refine t_takeD 1 rfl (by kernel_rfl) rfl rfl rfl (y_si tok rfl (fun hg => by omega)) rfl ?_
            refine t_takeD 2 rfl (by kernel_rfl) rfl rfl rfl (y_val tok rfl) rfl ?_
            refine t_takeD 3 rfl (by kernel_rfl) rfl rfl rfl (y_val tok rfl) rfl ?_
            refine t_takeD 4 rfl (by kernel_rfl) rfl rfl rfl (y_si tok rfl (fun hg => by omega)) rfl ?_
            refine t_takeD 5 rfl (by kernel_rfl) rfl rfl rfl (y_val tok rfl) rfl ?_
            refine t_takeD 6 rfl (by kernel_rfl) rfl rfl rfl (y_val tok rfl) rfl ?_
            refine t_takeD 7 rfl (by kernel_rfl) rfl rfl rfl (y_val tok rfl) rfl ?_
            refine t_go ?_
            refine h_one 8 (by kernel_rfl) ?_
            refine h_store 8 tok rfl rfl rfl rfl (by first | exact ⟨trivial, trivial⟩ | (repeat' first | exact trivial | exact rfl | apply And.intro); done | simp [onesP, oneP, lk, Value.oneCell']) (.inl rfl) ?_
            refine h_done [0, 2, 8, 9] (by kernel_rfl) rfl ?_
            refine x_then ?_
            refine c_seq ?_
            refine c_region ?_
            refine o_yield rfl rfl rfl (y_val tok rfl) ?_
            refine o_yield rfl rfl rfl (y_val tok rfl) ?_
            refine o_yield rfl rfl rfl (y_val tok rfl) ?_
            refine o_yield rfl rfl rfl (y_val tok rfl) ?_
            refine o_yield rfl rfl rfl (y_val tok rfl) ?_
            refine o_yield rfl rfl rfl (y_val tok rfl) ?_
            refine o_yield rfl rfl rfl (y_val tok rfl) ?_
            refine o_yield rfl rfl rfl (y_val tok rfl) ?_
            refine o_end [0, 2, 8, 9, 72] rfl ?_
            refine x_then ?_
            refine c_cond rfl (fun h => ?_) (fun h => ?_)
            ·
              refine c_region ?_
              refine o_yield rfl rfl rfl (y_val tok rfl) ?_
              refine o_yield rfl rfl rfl (y_si tok rfl (fun hg => by omega)) ?_
              refine o_yield rfl rfl rfl (y_val tok rfl) ?_
              refine o_yield rfl rfl rfl (y_val tok rfl) ?_
              refine o_yield rfl rfl rfl (y_val tok rfl) ?_
              refine o_store tok rfl rfl rfl (by first | exact ⟨trivial, trivial⟩ | (repeat' first | exact trivial | exact rfl | apply And.intro); done | simp [onesP, oneP, lk, Value.oneCell']) ?_
              refine o_end [0, 2, 8] rfl ?_
              refine x_block ?_
              refine x_then ?_
              refine c_seq ?_
              refine c_region ?_
              refine o_yield rfl rfl rfl (y_val tok rfl) ?_
              rw [u0, u1, u2]
              refine o_call (.a (.v _)) rfl rfl fnok84 rfl rfl rfl (fun hg E w1 hm => by exact hb ⟨c.kind, c.by_, c.serial, 0, 0, c.lo, c.hi, c.mode⟩ hcc _) ?_
              refine o_yield rfl rfl rfl (y_val tok rfl) ?_
              refine o_yield rfl rfl rfl (y_val tok rfl) ?_
              refine o_yield rfl rfl rfl (y_val tok rfl) ?_
              refine o_yield rfl rfl rfl (y_val tok rfl) ?_
              refine o_yield rfl rfl rfl (y_val tok rfl) ?_
              refine o_end [0, 2, 8, 12, 13] rfl ?_
              refine x_then ?_
              refine c_seq ?_
              refine c_seq ?_
              refine c_region ?_
              refine o_yield rfl rfl rfl (y_val tok rfl) ?_
              refine o_yield rfl rfl rfl (y_val tok rfl) ?_
              refine o_yield rfl rfl rfl (y_val tok rfl) ?_
              refine o_yield rfl rfl rfl (y_val tok rfl) ?_
              refine o_yield rfl rfl rfl (y_val tok rfl) ?_
              refine o_yield rfl rfl rfl (y_val tok rfl) ?_
              refine o_yield rfl rfl rfl (y_val tok rfl) ?_
              refine o_end [2, 8, 121] rfl ?_
              refine x_then ?_
              refine c_cond rfl (fun h => ?_) (fun h => ?_)
              ·
                exfalso
                simp at h
              ·
                refine c_skip ?_
                refine x_then ?_
                refine c_seq ?_
                refine c_region ?_
                refine o_yield rfl rfl rfl (y_val tok rfl) ?_
                refine o_store tok rfl rfl rfl (by first | exact ⟨trivial, trivial⟩ | (repeat' first | exact trivial | exact rfl | apply And.intro); done | simp [onesP, oneP, lk, Value.oneCell']) ?_
                refine o_yield rfl rfl rfl (y_val tok rfl) ?_
                refine o_end [2, 3] rfl ?_
                refine x_then ?_
                refine c_ret ?_
                refine b_ret tok rfl ?_
                intro E w' hm _
                refine ⟨?_, hm.below (Vw.le.refl _)⟩
                show Ending.returned (.tuple #[(⟨c.kind, c.by_, c.serial, 0, 0, c.lo, c.hi, c.mode⟩ : Cmd).val, I 0]) = _
                rw [hcc]
            ·
              exfalso
              simp [e, q0] at h
        ·
          exact absurd (h.symm.trans h2) (by decide)
      ·
        refine c_region ?_
        refine o_yield rfl rfl rfl (y_val tok rfl) ?_
        refine o_yield rfl rfl rfl (y_val tok rfl) ?_
        refine o_end [0, 2, 8, 9, 49, 50] rfl ?_
        refine x_then ?_
        refine c_cond rfl (fun h2 => ?_) (fun h2 => ?_)
        ·
          have e : c.kind = 3 := by simpa using h2
          have hcc : (⟨c.kind, c.by_, c.serial, 0, 0, c.lo, c.hi, 0⟩ : Cmd) = c := (Cmd.eqB_iff _ _).1 (by
            simp [Cmd.eqB, ok.mode0 (by omega), ok.dead0 (by omega) (by omega), ok.was0 (by omega)])
          obtain ⟨q0, q1, q2⟩ := r3 e
          obtain ⟨u0, _⟩ := conv0 (b := byteAt r (0 : Int).toNat) okl.1 (by omega) q1
          obtain ⟨u1, _⟩ := conv0 (b := byteAt r (1 : Int).toNat) okh.1 (by omega) q2
          refine c_seq ?_
          refine c_seq ?_
          refine c_region ?_
          refine o_yield rfl rfl rfl (y_val tok rfl) ?_
          refine o_yield rfl rfl rfl (y_val tok rfl) ?_
          refine o_yield rfl rfl rfl (y_val tok rfl) ?_
          refine o_end [0, 2, 8, 9, 55] rfl ?_
          refine x_then ?_
          refine c_cond rfl (fun h => ?_) (fun h => ?_)
          ·
            simp only [Bool.and_eq_true, Bool.or_eq_true, Bool.not_eq_true', Bool.or_eq_false_iff, Bool.and_eq_false_iff, decide_eq_true_eq, decide_eq_false_iff_not, beq_iff_eq, bne_iff_ne, Bool.not_eq_false', beq_eq_false_iff_ne, bne_eq_false_iff_eq, ne_eq, Decidable.not_not, Int.not_lt, Int.not_le] at h
            refine c_seq ?_
            refine c_region ?_
            refine o_yield rfl rfl rfl (y_val tok rfl) ?_
            refine o_store tok rfl rfl rfl (by first | exact ⟨trivial, trivial⟩ | (repeat' first | exact trivial | exact rfl | apply And.intro); done | simp [onesP, oneP, lk, Value.oneCell']) ?_
            refine o_yield rfl rfl rfl (y_val tok rfl) ?_
            refine o_end [2, 3] rfl ?_
            refine x_then ?_
            refine c_ret ?_
            refine x_then_ret ?_
            refine x_block_ret ?_
            refine x_then_ret ?_
            refine b_ret tok rfl ?_
            omega
          ·
            simp only [Bool.and_eq_true, Bool.or_eq_true, Bool.not_eq_true', Bool.or_eq_false_iff, Bool.and_eq_false_iff, decide_eq_true_eq, decide_eq_false_iff_not, beq_iff_eq, bne_iff_ne, Bool.not_eq_false', beq_eq_false_iff_ne, bne_eq_false_iff_eq, ne_eq, Decidable.not_not, Int.not_lt, Int.not_le] at h
            refine c_skip ?_
            refine x_then ?_
            refine c_seq ?_
            refine c_heldS [8] mixed rfl (by repeat (first | exact SubO.nil | refine SubO.cons rfl ?_)) (by first | rfl | simp [okCels, allOk_plain]) ?_
            refine t_takeD 0 rfl (by kernel_rfl) rfl rfl rfl (y_val tok rfl) rfl ?_
            clear h
            refine t_takeD 1 rfl (by kernel_rfl) rfl rfl rfl (y_si tok rfl (fun hg => by omega)) rfl ?_
            refine t_takeD 2 rfl (by kernel_rfl) rfl rfl rfl (y_val tok rfl) rfl ?_
            refine t_takeD 3 rfl (by kernel_rfl) rfl rfl rfl (y_val tok rfl) rfl ?_
            refine t_takeD 4 rfl (by kernel_rfl) rfl rfl rfl (y_si tok rfl (fun hg => by omega)) rfl ?_
            refine t_takeD 5 rfl (by kernel_rfl) rfl rfl rfl (y_val tok rfl) rfl ?_
            refine t_takeD 6 rfl (by kernel_rfl) rfl rfl rfl (y_val tok rfl) rfl ?_
            refine t_takeD 7 rfl (by kernel_rfl) rfl rfl rfl (y_val tok rfl) rfl ?_
            refine t_go ?_
            refine h_one 8 (by kernel_rfl) ?_
            refine h_store 8 tok rfl rfl rfl rfl (by first | exact ⟨trivial, trivial⟩ | (repeat' first | exact trivial | exact rfl | apply And.intro); done | simp [onesP, oneP, lk, Value.oneCell']) (.inl rfl) ?_
            refine h_done [0, 2, 8, 9] (by kernel_rfl) rfl ?_
            refine x_then ?_
            refine c_seq ?_
            refine c_region ?_
            refine o_yield rfl rfl rfl (y_val tok rfl) ?_
            refine o_yield rfl rfl rfl (y_val tok rfl) ?_
            refine o_yield rfl rfl rfl (y_val tok rfl) ?_
            refine o_yield rfl rfl rfl (y_val tok rfl) ?_
            refine o_yield rfl rfl rfl (y_val tok rfl) ?_
            refine o_yield rfl rfl rfl (y_val tok rfl) ?_
            refine o_yield rfl rfl rfl (y_val tok rfl) ?_
            refine o_yield rfl rfl rfl (y_val tok rfl) ?_
            refine o_end [0, 2, 8, 9, 72] rfl ?_
            refine x_then ?_
            refine c_cond rfl (fun h => ?_) (fun h => ?_)
            ·
              exfalso
              simp [e] at h
            ·
              refine c_skip ?_
              refine x_block ?_
              refine x_then ?_
              refine c_seq ?_
              refine c_region ?_
              refine o_yield rfl rfl rfl (y_val tok rfl) ?_
              rw [u0, u1]
              refine o_call (.a (.v _)) rfl rfl fnok84 rfl rfl rfl (fun hg E w1 hm => by exact hb ⟨c.kind, c.by_, c.serial, 0, 0, c.lo, c.hi, 0⟩ hcc _) ?_
              refine o_yield rfl rfl rfl (y_val tok rfl) ?_
              refine o_yield rfl rfl rfl (y_val tok rfl) ?_
              refine o_yield rfl rfl rfl (y_val tok rfl) ?_
              refine o_yield rfl rfl rfl (y_val tok rfl) ?_
              refine o_yield rfl rfl rfl (y_val tok rfl) ?_
              refine o_end [0, 2, 8, 12, 13] rfl ?_
              refine x_then ?_
              refine c_seq ?_
              refine c_seq ?_
              refine c_region ?_
              refine o_yield rfl rfl rfl (y_val tok rfl) ?_
              refine o_yield rfl rfl rfl (y_val tok rfl) ?_
              refine o_yield rfl rfl rfl (y_val tok rfl) ?_
              refine o_yield rfl rfl rfl (y_val tok rfl) ?_
              refine o_yield rfl rfl rfl (y_val tok rfl) ?_
              refine o_yield rfl rfl rfl (y_val tok rfl) ?_
              refine o_yield rfl rfl rfl (y_val tok rfl) ?_
              refine o_end [2, 8, 121] rfl ?_
              refine x_then ?_
              refine c_cond rfl (fun h => ?_) (fun h => ?_)
              ·
                exfalso
                simp at h
              ·
                refine c_skip ?_
                refine x_then ?_
                refine c_seq ?_
                refine c_region ?_
                refine o_yield rfl rfl rfl (y_val tok rfl) ?_
                refine o_store tok rfl rfl rfl (by first | exact ⟨trivial, trivial⟩ | (repeat' first | exact trivial | exact rfl | apply And.intro); done | simp [onesP, oneP, lk, Value.oneCell']) ?_
                refine o_yield rfl rfl rfl (y_val tok rfl) ?_
                refine o_end [2, 3] rfl ?_
                refine x_then ?_
                refine c_ret ?_
                refine b_ret tok rfl ?_
                intro E w' hm _
                refine ⟨?_, hm.below (Vw.le.refl _)⟩
                show Ending.returned (.tuple #[(⟨c.kind, c.by_, c.serial, 0, 0, c.lo, c.hi, 0⟩ : Cmd).val, I 0]) = _
                rw [hcc]
        ·
          refine c_seq ?_
          refine c_seq ?_
          refine c_region ?_
          refine o_yield rfl rfl rfl (y_val tok rfl) ?_
          refine o_yield rfl rfl rfl (y_val tok rfl) ?_
          refine o_end [0, 2, 8, 9, 49, 78] rfl ?_
          refine x_then ?_
          refine c_cond rfl (fun h4 => ?_) (fun h4 => ?_)
          ·
            refine c_skip ?_
            refine x_then ?_
            refine c_cond rfl (fun h5 => ?_) (fun h5 => ?_)
            ·
              refine c_seq ?_
              refine c_region ?_
              refine o_yield rfl rfl rfl (y_val tok rfl) ?_
              have e : c.kind = 4 := by simpa using h4
              have hR4 := hR (by omega) (by omega) (.inl e)
              rw [if_pos e] at hR4
              have hcc : (⟨c.kind, c.by_, c.serial, c.dead, c.was, 0, 0, 0⟩ : Cmd) = c := (Cmd.eqB_iff _ _).1 (by
                obtain ⟨z1, z2⟩ := ok.span (by omega) (by omega)
                simp [Cmd.eqB, z1, z2, ok.mode0 (by omega)])
              refine o_step rfl rfl rfl rfl rfl (s_refRow r ([c.dead, c.was], 0) hR4 rfl (by omega) (fun E => rfl)) (fun _ _ => ?_)
              refine o_yield rfl rfl rfl (y_val tok rfl) ?_
              refine o_yield rfl rfl rfl (y_val tok rfl) ?_
              refine o_yield rfl rfl rfl (y_val tok rfl) ?_
              refine o_yield rfl rfl rfl (y_val tok rfl) ?_
              refine o_yield rfl rfl rfl (y_val tok rfl) ?_
              refine o_end [0, 2, 8, 10, 11] rfl ?_
              refine x_then ?_
              refine c_seq ?_
              refine c_seq ?_
              refine c_region ?_
              refine o_yield rfl rfl rfl (y_val tok rfl) ?_
              refine o_yield rfl rfl rfl (y_val tok rfl) ?_
              refine o_yield rfl rfl rfl (y_val tok rfl) ?_
              refine o_yield rfl rfl rfl (y_val tok rfl) ?_
              refine o_yield rfl rfl rfl (y_val tok rfl) ?_
              refine o_yield rfl rfl rfl (y_val tok rfl) ?_
              refine o_yield rfl rfl rfl (y_val tok rfl) ?_
              refine o_end [0, 2, 8, 10, 92] rfl ?_
              refine x_then ?_
              refine c_cond rfl (fun h => ?_) (fun h => ?_)
              ·
                exfalso
                simp at h
              ·
                refine c_skip ?_
                refine x_then ?_
                refine c_seq ?_
                refine c_region ?_
                refine o_yield rfl rfl rfl (y_val tok rfl) ?_
                clear h
                refine o_yield rfl rfl rfl (y_own (s := .a (.rel 2 0)) 2 rfl rfl (fun v V' hv => y_idxK tok 0 rfl (by simp) (fun hg => hv) (fun hg => by simp))) ?_
                refine o_yield rfl rfl rfl (y_own (s := .a (.v (I c.dead))) 2 rfl rfl (fun v V' hv => y_lel (enc := encI64) (l := [c.dead, c.was]) tok 0 0 c.dead rfl (fun hg => ⟨hv, fun _ => rfl⟩) (fun hg => rfl) (by simp) rfl)) ?_
                refine o_yield rfl rfl rfl (y_val tok rfl) ?_
                refine o_store tok rfl rfl rfl (by first | exact ⟨trivial, trivial⟩ | (repeat' first | exact trivial | exact rfl | apply And.intro); done | simp [onesP, oneP, lk, Value.oneCell']) ?_
                refine o_end [0, 2, 8, 10] rfl ?_
                refine x_then ?_
                refine c_seq ?_
                refine c_region ?_
                refine o_yield rfl rfl rfl (y_val tok rfl) ?_
                refine o_yield rfl rfl rfl (y_val tok rfl) ?_
                refine o_yield rfl rfl rfl (y_val tok rfl) ?_
                refine o_yield rfl rfl rfl (y_val tok rfl) ?_
                refine o_yield rfl rfl rfl (y_val tok rfl) ?_
                refine o_yield rfl rfl rfl (y_val tok rfl) ?_
                refine o_yield rfl rfl rfl (y_val tok rfl) ?_
                refine o_yield rfl rfl rfl (y_val tok rfl) ?_
                refine o_end [0, 2, 8, 10, 105] rfl ?_
                refine x_then ?_
                refine c_cond rfl (fun h => ?_) (fun h => ?_)
                ·
                  refine c_region ?_
                  refine o_yield rfl rfl rfl (y_val tok rfl) ?_
                  refine o_yield rfl rfl rfl (y_own (s := .a (.rel 2 1)) 2 rfl rfl (fun v V' hv => y_idxK tok 1 rfl (by simp) (fun hg => hv) (fun hg => by simp))) ?_
                  refine o_yield rfl rfl rfl (y_own (s := .a (.v (I c.was))) 2 rfl rfl (fun v V' hv => y_lel (enc := encI64) (l := [c.dead, c.was]) tok 1 0 c.was rfl (fun hg => ⟨hv, fun _ => rfl⟩) (fun hg => rfl) (by simp) rfl)) ?_
                  refine o_yield rfl rfl rfl (y_val tok rfl) ?_
                  refine o_store tok rfl rfl rfl (by first | exact ⟨trivial, trivial⟩ | (repeat' first | exact trivial | exact rfl | apply And.intro); done | simp [onesP, oneP, lk, Value.oneCell']) ?_
                  refine o_end [0, 2, 8] rfl ?_
                  refine x_block ?_
                  refine x_then ?_
                  refine c_seq ?_
                  refine c_region ?_
                  refine o_yield rfl rfl rfl (y_val tok rfl) ?_
                  refine o_call (.a (.v _)) rfl rfl fnok84 rfl rfl rfl (fun hg E w1 hm => by exact hb ⟨c.kind, c.by_, c.serial, c.dead, c.was, 0, 0, 0⟩ hcc _) ?_
                  refine o_yield rfl rfl rfl (y_val tok rfl) ?_
                  refine o_yield rfl rfl rfl (y_val tok rfl) ?_
                  refine o_yield rfl rfl rfl (y_val tok rfl) ?_
                  refine o_yield rfl rfl rfl (y_val tok rfl) ?_
                  refine o_yield rfl rfl rfl (y_val tok rfl) ?_
                  refine o_end [0, 2, 8, 12, 13] rfl ?_
                  refine x_then ?_
                  refine c_seq ?_
                  refine c_seq ?_
                  refine c_region ?_
                  refine o_yield rfl rfl rfl (y_val tok rfl) ?_
                  refine o_yield rfl rfl rfl (y_val tok rfl) ?_
                  refine o_yield rfl rfl rfl (y_val tok rfl) ?_
                  refine o_yield rfl rfl rfl (y_val tok rfl) ?_
                  refine o_yield rfl rfl rfl (y_val tok rfl) ?_
                  refine o_yield rfl rfl rfl (y_val tok rfl) ?_
                  refine o_yield rfl rfl rfl (y_val tok rfl) ?_
                  refine o_end [2, 8, 121] rfl ?_
                  refine x_then ?_
                  refine c_cond rfl (fun h => ?_) (fun h => ?_)
                  ·
                    exfalso
                    simp at h
                  ·
                    refine c_skip ?_
                    refine x_then ?_
                    refine c_seq ?_
                    refine c_region ?_
                    refine o_yield rfl rfl rfl (y_val tok rfl) ?_
                    refine o_store tok rfl rfl rfl (by first | exact ⟨trivial, trivial⟩ | (repeat' first | exact trivial | exact rfl | apply And.intro); done | simp [onesP, oneP, lk, Value.oneCell']) ?_
                    refine o_yield rfl rfl rfl (y_val tok rfl) ?_
                    refine o_end [2, 3] rfl ?_
                    refine x_then ?_
                    refine c_ret ?_
                    refine b_ret tok rfl ?_
                    intro E w' hm _
                    refine ⟨?_, hm.below (Vw.le.refl _)⟩
                    show Ending.returned (.tuple #[(⟨c.kind, c.by_, c.serial, c.dead, c.was, 0, 0, 0⟩ : Cmd).val, I 0]) = _
                    rw [hcc]
                ·
                  exfalso
                  simp [e] at h
            ·
              exact absurd (h5.symm.trans h4) (by decide)
          ·
            refine c_region ?_
            refine o_yield rfl rfl rfl (y_val tok rfl) ?_
            refine o_yield rfl rfl rfl (y_val tok rfl) ?_
            refine o_end [0, 2, 8, 9, 78] rfl ?_
            refine x_then ?_
            refine c_cond rfl (fun h5 => ?_) (fun h5 => ?_)
            ·
              refine c_seq ?_
              refine c_region ?_
              refine o_yield rfl rfl rfl (y_val tok rfl) ?_
              have e : c.kind = 5 := by simpa using h5
              have hR4 := hR (by omega) (by omega) (.inr e)
              rw [if_neg (by omega)] at hR4
              have hcc : (⟨c.kind, c.by_, c.serial, c.dead, 0, 0, 0, 0⟩ : Cmd) = c := (Cmd.eqB_iff _ _).1 (by
                obtain ⟨z1, z2⟩ := ok.span (by omega) (by omega)
                simp [Cmd.eqB, z1, z2, ok.mode0 (by omega), ok.was0 (by omega)])
              refine o_step rfl rfl rfl rfl rfl (s_refRow r ([c.dead], 0) hR4 rfl (by omega) (fun E => rfl)) (fun _ _ => ?_)
              refine o_yield rfl rfl rfl (y_val tok rfl) ?_
              refine o_yield rfl rfl rfl (y_val tok rfl) ?_
              refine o_yield rfl rfl rfl (y_val tok rfl) ?_
              refine o_yield rfl rfl rfl (y_val tok rfl) ?_
              refine o_yield rfl rfl rfl (y_val tok rfl) ?_
              refine o_end [0, 2, 8, 10, 11] rfl ?_
              refine x_then ?_
              refine c_seq ?_
              refine c_seq ?_
              refine c_region ?_
              refine o_yield rfl rfl rfl (y_val tok rfl) ?_
              refine o_yield rfl rfl rfl (y_val tok rfl) ?_
              refine o_yield rfl rfl rfl (y_val tok rfl) ?_
              refine o_yield rfl rfl rfl (y_val tok rfl) ?_
              refine o_yield rfl rfl rfl (y_val tok rfl) ?_
              refine o_yield rfl rfl rfl (y_val tok rfl) ?_
              refine o_yield rfl rfl rfl (y_val tok rfl) ?_
              refine o_end [0, 2, 8, 10, 92] rfl ?_
              refine x_then ?_
              refine c_cond rfl (fun h => ?_) (fun h => ?_)
              ·
                exfalso
                simp at h
              ·
                refine c_skip ?_
                refine x_then ?_
                refine c_seq ?_
                refine c_region ?_
                refine o_yield rfl rfl rfl (y_val tok rfl) ?_
                clear h
                refine o_yield rfl rfl rfl (y_own (s := .a (.rel 2 0)) 2 rfl rfl (fun v V' hv => y_idxK tok 0 rfl (by simp) (fun hg => hv) (fun hg => by simp))) ?_
                refine o_yield rfl rfl rfl (y_own (s := .a (.v (I c.dead))) 2 rfl rfl (fun v V' hv => y_lel (enc := encI64) (l := [c.dead]) tok 0 0 c.dead rfl (fun hg => ⟨hv, fun _ => rfl⟩) (fun hg => rfl) (by simp) rfl)) ?_
                refine o_yield rfl rfl rfl (y_val tok rfl) ?_
                refine o_store tok rfl rfl rfl (by first | exact ⟨trivial, trivial⟩ | (repeat' first | exact trivial | exact rfl | apply And.intro); done | simp [onesP, oneP, lk, Value.oneCell']) ?_
                refine o_end [0, 2, 8, 10] rfl ?_
                refine x_then ?_
                refine c_seq ?_
                refine c_region ?_
                refine o_yield rfl rfl rfl (y_val tok rfl) ?_
                refine o_yield rfl rfl rfl (y_val tok rfl) ?_
                refine o_yield rfl rfl rfl (y_val tok rfl) ?_
                refine o_yield rfl rfl rfl (y_val tok rfl) ?_
                refine o_yield rfl rfl rfl (y_val tok rfl) ?_
                refine o_yield rfl rfl rfl (y_val tok rfl) ?_
                refine o_yield rfl rfl rfl (y_val tok rfl) ?_
                refine o_yield rfl rfl rfl (y_val tok rfl) ?_
                refine o_end [0, 2, 8, 10, 105] rfl ?_
                refine x_then ?_
                refine c_cond rfl (fun h => ?_) (fun h => ?_)
                ·
                  exfalso
                  simp [e] at h
                ·
                  refine c_skip ?_
                  refine x_block ?_
                  refine x_then ?_
                  refine c_seq ?_
                  refine c_region ?_
                  refine o_yield rfl rfl rfl (y_val tok rfl) ?_
                  refine o_call (.a (.v _)) rfl rfl fnok84 rfl rfl rfl (fun hg E w1 hm => by exact hb ⟨c.kind, c.by_, c.serial, c.dead, 0, 0, 0, 0⟩ hcc _) ?_
                  refine o_yield rfl rfl rfl (y_val tok rfl) ?_
                  refine o_yield rfl rfl rfl (y_val tok rfl) ?_
                  refine o_yield rfl rfl rfl (y_val tok rfl) ?_
                  refine o_yield rfl rfl rfl (y_val tok rfl) ?_
                  refine o_yield rfl rfl rfl (y_val tok rfl) ?_
                  refine o_end [0, 2, 8, 12, 13] rfl ?_
                  refine x_then ?_
                  refine c_seq ?_
                  refine c_seq ?_
                  refine c_region ?_
                  refine o_yield rfl rfl rfl (y_val tok rfl) ?_
                  refine o_yield rfl rfl rfl (y_val tok rfl) ?_
                  refine o_yield rfl rfl rfl (y_val tok rfl) ?_
                  refine o_yield rfl rfl rfl (y_val tok rfl) ?_
                  refine o_yield rfl rfl rfl (y_val tok rfl) ?_
                  refine o_yield rfl rfl rfl (y_val tok rfl) ?_
                  refine o_yield rfl rfl rfl (y_val tok rfl) ?_
                  refine o_end [2, 8, 121] rfl ?_
                  refine x_then ?_
                  refine c_cond rfl (fun h => ?_) (fun h => ?_)
                  ·
                    exfalso
                    simp at h
                  ·
                    refine c_skip ?_
                    refine x_then ?_
                    refine c_seq ?_
                    refine c_region ?_
                    refine o_yield rfl rfl rfl (y_val tok rfl) ?_
                    refine o_store tok rfl rfl rfl (by first | exact ⟨trivial, trivial⟩ | (repeat' first | exact trivial | exact rfl | apply And.intro); done | simp [onesP, oneP, lk, Value.oneCell']) ?_
                    refine o_yield rfl rfl rfl (y_val tok rfl) ?_
                    refine o_end [2, 3] rfl ?_
                    refine x_then ?_
                    refine c_ret ?_
                    refine b_ret tok rfl ?_
                    intro E w' hm _
                    refine ⟨?_, hm.below (Vw.le.refl _)⟩
                    show Ending.returned (.tuple #[(⟨c.kind, c.by_, c.serial, c.dead, 0, 0, 0, 0⟩ : Cmd).val, I 0]) = _
                    rw [hcc]
            ·
              refine c_skip ?_
              refine x_block ?_
              refine x_then ?_
              refine c_seq ?_
              refine c_region ?_
              refine o_yield rfl rfl rfl (y_val tok rfl) ?_
              have f2 : ¬ c.kind = 2 := by simpa using h
              have f3 : ¬ c.kind = 3 := by simpa using h2
              have f4 : ¬ c.kind = 4 := by simpa using h4
              have f5 : ¬ c.kind = 5 := by simpa using h5
              have hcc : (⟨c.kind, c.by_, c.serial, 0, 0, 0, 0, 0⟩ : Cmd) = c := (Cmd.eqB_iff _ _).1 (by
                obtain ⟨z1, z2⟩ := ok.span f2 f3
                simp [Cmd.eqB, z1, z2, ok.mode0 f2, ok.dead0 f4 f5, ok.was0 f4])
              refine o_call (.a (.v _)) rfl rfl fnok84 rfl rfl rfl (fun hg E w1 hm => by exact hb ⟨c.kind, c.by_, c.serial, 0, 0, 0, 0, 0⟩ hcc _) ?_
              refine o_yield rfl rfl rfl (y_val tok rfl) ?_
              refine o_yield rfl rfl rfl (y_val tok rfl) ?_
              refine o_yield rfl rfl rfl (y_val tok rfl) ?_
              refine o_yield rfl rfl rfl (y_val tok rfl) ?_
              refine o_yield rfl rfl rfl (y_val tok rfl) ?_
              refine o_end [0, 2, 8, 12, 13] rfl ?_
              refine x_then ?_
              refine c_seq ?_
              refine c_seq ?_
              refine c_region ?_
              refine o_yield rfl rfl rfl (y_val tok rfl) ?_
              refine o_yield rfl rfl rfl (y_val tok rfl) ?_
              refine o_yield rfl rfl rfl (y_val tok rfl) ?_
              refine o_yield rfl rfl rfl (y_val tok rfl) ?_
              refine o_yield rfl rfl rfl (y_val tok rfl) ?_
              refine o_yield rfl rfl rfl (y_val tok rfl) ?_
              refine o_yield rfl rfl rfl (y_val tok rfl) ?_
              refine o_end [2, 8, 121] rfl ?_
              refine x_then ?_
              refine c_cond rfl (fun h => ?_) (fun h => ?_)
              ·
                exfalso
                simp at h
              ·
                refine c_skip ?_
                refine x_then ?_
                refine c_seq ?_
                refine c_region ?_
                refine o_yield rfl rfl rfl (y_val tok rfl) ?_
                refine o_store tok rfl rfl rfl (by first | exact ⟨trivial, trivial⟩ | (repeat' first | exact trivial | exact rfl | apply And.intro); done | simp [onesP, oneP, lk, Value.oneCell']) ?_
                refine o_yield rfl rfl rfl (y_val tok rfl) ?_
                refine o_end [2, 3] rfl ?_
                refine x_then ?_
                refine c_ret ?_
                refine b_ret tok rfl ?_
                intro E w' hm _
                refine ⟨?_, hm.below (Vw.le.refl _)⟩
                show Ending.returned (.tuple #[(⟨c.kind, c.by_, c.serial, 0, 0, 0, 0, 0⟩ : Cmd).val, I 0]) = _
                rw [hcc]
end Go.Proofs.Ytiapfhcimekdkaa
