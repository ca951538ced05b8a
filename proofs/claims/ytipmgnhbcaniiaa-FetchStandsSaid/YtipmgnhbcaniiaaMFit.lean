import Derived.Test.YtipmgnhbcaniiaaMGeo
import Derived.Test.YtipmgnhbcaniiaaEng28
import Derived.Test.YtipmgnhbcaniiaaEng29
/- Whether a transaction fits, which blocks may be. -/
set_option linter.unusedVariables false
set_option linter.unusedSimpArgs false
set_option maxRecDepth 100000
namespace Go.Proofs.Ytipmgnhbcaniiaa
open Go Go.Eng Go.RowKit

def fitsV (g : Geo) (used n : Int) : Int :=
  if geoB g = false ∨ used < 0 ∨ g.journal < used ∨ n < 0 then 2 else if g.journal < manyOf g n then 180 else if g.journal < manyOf g n + used then 190 else 0

/-- Blocks behind a number. -/
def mayF (g : Geo) : Int → List Block → Bool
  | _, [] => true
  | last, x :: r => decide (last < x.n ∧ x.n < g.blocks ∧ (x.text.size : Int) ≤ g.per * 256) && mayF g x.n r

def mayL (g : Geo) (l : List Block) : Bool := geoB g && mayF g (-1) l

theorem mayF_cons {g : Geo} {last : Int} {x : Block} {r : List Block} : mayF g last (x :: r) = true ↔ (last < x.n ∧ x.n < g.blocks ∧ (x.text.size : Int) ≤ g.per * 256) ∧ mayF g x.n r = true := by
  simp [mayF]

theorem lastN_succ {l : List Block} {i : Nat} {x : Block} (h : l[i]? = some x) : lastN l (i + 1) = x.n := by rw [lastN, blkAt_eq h]

theorem refBMay_c (V : Vw) (g : Geo) (ok : g.Ok) (sv : Value) (l : List Block) (w : World) (hV : V.le (vw w)) (hs0 : SlOf V Block.cells 2 sv l) (hn : l.length ≤ maxLen) :
    Calls Try.prog 5 #[g.val, sv] w fun e w' => e = .returned (.bool (mayL g l)) ∧ Below w.heap.size w w' := by
  have hs := hs0.mono hV
  simp only [maxLen] at hn
  refine enter (E := E0) (O := []) (nl := 0) (V := vw w) [.a (.v g.val), .a (.v sv)] Try.func5 rfl rfl (mem0 E0 0 w) rfl rfl ?_
  refine c_seq ?_
  refine c_region ?_
  refine o_new tok rfl rfl rfl rfl ?_
  refine o_yield rfl rfl rfl (y_val tok rfl) ?_
  refine o_end [1, 2] rfl ?_
  refine x_then ?_
  refine c_seq ?_
  refine c_seq ?_
  refine c_region ?_
  refine o_yield rfl rfl rfl (y_val tok rfl) ?_
  refine o_call (.a (.v _)) rfl rfl fnok18 rfl rfl rfl (fun hg E w1 hm => by exact refMay_c g ok _) ?_
  refine o_yield rfl rfl rfl (y_val tok rfl) ?_
  refine o_end [1, 2, 8] rfl ?_
  refine x_then ?_
  refine c_cond rfl (fun h => ?_) (fun h => ?_)
  ·
    simp only [Bool.and_eq_true, Bool.or_eq_true, Bool.not_eq_true', Bool.or_eq_false_iff, Bool.and_eq_false_iff, decide_eq_true_eq, decide_eq_false_iff_not, beq_iff_eq, bne_iff_ne, Bool.not_eq_false', beq_eq_false_iff_ne, bne_eq_false_iff_eq, ne_eq, Decidable.not_not, Int.not_lt, Int.not_le] at h
    refine c_seq ?_
    refine c_region ?_
    refine o_yield rfl rfl rfl (y_val tok rfl) ?_
    refine o_end [4] rfl ?_
    refine x_then ?_
    refine c_ret ?_
    refine x_then_ret ?_
    refine b_ret tok rfl ?_
    intro E w' hm _
    refine ⟨?_, hm.below (Vw.le.refl _)⟩
    rw [mayL, h]; rfl
  ·
    simp only [Bool.and_eq_true, Bool.or_eq_true, Bool.not_eq_true', Bool.or_eq_false_iff, Bool.and_eq_false_iff, decide_eq_true_eq, decide_eq_false_iff_not, beq_iff_eq, bne_iff_ne, Bool.not_eq_false', beq_eq_false_iff_ne, bne_eq_false_iff_eq, ne_eq, Decidable.not_not, Int.not_lt, Int.not_le] at h
    have hgg := h
    have hf := geo_facts hgg
    clear h
    have hmL : mayL g l = mayF g (-1) l := by rw [mayL, hgg, Bool.true_and]
    refine c_skip ?_
    refine x_then ?_
    refine c_seq ?_
    refine c_seq ?_
    refine c_region ?_
    refine o_yield rfl rfl rfl (y_val tok rfl) ?_
    refine o_end [1, 2, 5] rfl ?_
    refine x_then ?_
    refine c_block ?_
    refine c_loopK [1, 2] [] rfl rfl (σ := Nat) (fun i => [(5, .a (.v (I i)))]) (fun i => []) (fun i => i ≤ l.length ∧ mayF g (-1) l = mayF g (lastN l i) (l.drop i) ∧ -1 ≤ lastN l i) (fun i => l.length - i) (0) (⟨by omega, rfl, by simp [lastN]⟩) (by repeat (first | exact SubF.nil | refine SubF.cons rfl ?_)) (by repeat (first | exact SubO.nil | refine SubO.cons rfl ?_)) rfl ?_
    rintro i ⟨hi, heq, hlast⟩
    have hlc : (i = 0 ∧ lastN l i = -1) ∨ (0 < i ∧ lastN l i = (blkAt l (i - 1)).n) := by
      cases i with
      | zero => exact .inl ⟨rfl, rfl⟩
      | succ j => exact .inr ⟨by omega, rfl⟩
    refine c_seq ?_
    refine c_seq ?_
    refine c_region ?_
    refine o_yield rfl rfl rfl (y_val tok rfl) ?_
    refine o_yield rfl rfl rfl (y_val tok rfl) ?_
    refine o_yield rfl rfl rfl (y_len tok rfl (fun hg => hs.sl)) ?_
    refine o_yield rfl rfl rfl (y_val tok rfl) ?_
    refine o_end [1, 2, 5, 12] rfl ?_
    refine x_then ?_
    refine c_cond rfl (fun h => ?_) (fun h => ?_)
    ·
      simp only [Bool.and_eq_true, Bool.or_eq_true, Bool.not_eq_true', Bool.or_eq_false_iff, Bool.and_eq_false_iff, decide_eq_true_eq, decide_eq_false_iff_not, beq_iff_eq, bne_iff_ne, Bool.not_eq_false', beq_eq_false_iff_ne, bne_eq_false_iff_eq, ne_eq, Decidable.not_not, Int.not_lt, Int.not_le] at h
      refine c_skip ?_
      refine x_then ?_
      refine c_seq ?_
      refine c_block ?_
      refine c_seq ?_
      refine c_draw mixed (by kernel_rfl) ?_
      refine d_yield rfl rfl rfl (y_val tok rfl) rfl ?_
      refine d_yield rfl rfl rfl (y_val tok rfl) rfl ?_
      obtain ⟨x, h_x⟩ := hs.at (k := i) (by omega)
      rw [drop_at h_x] at heq
      have hlt_x := lt_of_at h_x
      refine d_yield rfl rfl rfl (y_idx tok rfl (fun hg => hs.sl) (fun hg => ⟨by omega, by omega⟩)) rfl ?_
      refine d_yield rfl rfl rfl (y_fel tok rfl (fun hg => hs.sl) (fun hg => by omega)) rfl ?_
      refine d_yield rfl rfl rfl (y_lel tok (i) 0 (x) rfl (fun hg => hs) (fun hg => h_x) rfl rfl) rfl ?_
      refine d_yield rfl rfl rfl (y_val tok rfl) rfl ?_
      refine d_yield rfl rfl rfl (y_val tok rfl) rfl ?_
      refine d_yield rfl rfl rfl (y_val tok rfl) rfl ?_
      refine d_yield rfl rfl rfl (y_val tok rfl) rfl ?_
      have hlt_x := lt_of_at h_x
      refine d_yield rfl rfl rfl (y_idx tok rfl (fun hg => hs.sl) (fun hg => ⟨by omega, by omega⟩)) rfl ?_
      refine d_yield rfl rfl rfl (y_fel tok rfl (fun hg => hs.sl) (fun hg => by omega)) rfl ?_
      refine d_yield rfl rfl rfl (y_lel tok (i) 0 (x) rfl (fun hg => hs) (fun hg => h_x) rfl rfl) rfl ?_
      refine d_yield rfl rfl rfl (y_val tok rfl) rfl ?_
      refine d_yield rfl rfl rfl (y_val tok rfl) rfl ?_
      refine d_yield rfl rfl rfl (y_val tok rfl) rfl ?_
      refine d_yield rfl rfl rfl (y_val tok rfl) rfl ?_
      refine d_yield rfl rfl rfl (y_val tok rfl) rfl ?_
      refine d_yield rfl rfl rfl (y_val tok rfl) rfl ?_
      refine d_yield rfl rfl rfl (y_val tok rfl) rfl ?_
      refine d_yield rfl rfl rfl (y_val tok rfl) rfl ?_
      refine d_yield rfl rfl rfl (y_val tok rfl) rfl ?_
      refine d_yield rfl rfl rfl (y_val tok rfl) rfl ?_
      have hlt_x := lt_of_at h_x
      refine d_yield rfl rfl rfl (y_idx tok rfl (fun hg => hs.sl) (fun hg => ⟨by omega, by omega⟩)) rfl ?_
      refine d_yield rfl rfl rfl (y_fel tok rfl (fun hg => hs.sl) (fun hg => by omega)) rfl ?_
      refine d_yield rfl rfl rfl (y_lel tok (i) 0 (x) rfl (fun hg => hs) (fun hg => h_x) rfl rfl) rfl ?_
      refine d_yield rfl rfl rfl (y_val tok rfl) rfl ?_
      refine d_yield rfl rfl rfl (y_val tok rfl) rfl ?_
      refine d_yield rfl rfl rfl (y_val tok rfl) rfl ?_
      refine d_yield rfl rfl rfl (y_idxK tok ((i - 1) * 2) rfl (by rw [wrapI (by omega) (by omega)]; dsimp only; omega) (fun hg => hs.sl) (fun hg => by simp at hg; rw [wrapI (by omega) (by omega)]; omega)) rfl ?_
      refine d_yield rfl rfl rfl (y_fel tok rfl (fun hg => hs.sl) (fun hg => by omega)) rfl ?_
      refine d_yield rfl rfl rfl (y_lel tok (i - 1) 0 (blkAt l (i - 1)) rfl (fun hg => hs) (fun hg => by rw [blkAt, List.getD, List.getElem?_eq_getElem (by omega)]; rfl) rfl rfl) rfl ?_
      refine d_yield rfl rfl rfl (y_val tok rfl) rfl ?_
      refine d_yield rfl rfl rfl (y_val tok rfl) rfl ?_
      refine d_yield rfl rfl rfl (y_val tok rfl) rfl ?_
      refine d_yield rfl rfl rfl (y_val tok rfl) rfl ?_
      refine d_yield rfl rfl rfl (y_val tok rfl) rfl ?_
      refine d_yield rfl rfl rfl (y_val tok rfl) rfl ?_
      have hwp : IntKind.i64.wrap (g.per * 256) = g.per * 256 := wrapI (by omega) (by omega)
      have hlt_x := lt_of_at h_x
      refine d_yield rfl rfl rfl (y_idx tok rfl (fun hg => hs.sl) (fun hg => ⟨by omega, by omega⟩)) rfl ?_
      refine d_yield rfl rfl rfl (y_fel tok rfl (fun hg => hs.sl) (fun hg => by omega)) rfl ?_
      refine d_yield rfl rfl rfl (y_lel tok (i) 1 (x) rfl (fun hg => hs) (fun hg => h_x) rfl rfl) rfl ?_
      refine d_yield rfl rfl rfl (y_val tok rfl) rfl ?_
      refine d_yield rfl rfl rfl (y_val tok rfl) rfl ?_
      refine d_yield rfl rfl rfl (y_val tok rfl) rfl ?_
      refine d_yield rfl rfl rfl (y_val tok rfl) rfl ?_
      refine d_yield rfl rfl rfl (y_val tok rfl) rfl ?_
      refine d_yield rfl rfl rfl (y_val tok rfl) rfl ?_
      refine d_end [1, 2, 5, 60] rfl ?_
      refine x_then ?_
      refine c_cond rfl (fun h => ?_) (fun h => ?_)
      ·
        simp only [Bool.and_eq_true, Bool.or_eq_true, Bool.not_eq_true', Bool.or_eq_false_iff, Bool.and_eq_false_iff, decide_eq_true_eq, decide_eq_false_iff_not, beq_iff_eq, bne_iff_ne, Bool.not_eq_false', beq_eq_false_iff_ne, bne_eq_false_iff_eq, ne_eq, Decidable.not_not, Int.not_lt, Int.not_le] at h
        refine c_seq ?_
        refine c_region ?_
        refine o_yield rfl rfl rfl (y_val tok rfl) ?_
        refine o_end [4] rfl ?_
        refine x_then ?_
        refine c_ret ?_
        refine x_block_ret ?_
        refine x_then_ret ?_
        refine x_then_ret ?_
        refine x_block_ret ?_
        refine x_then_ret ?_
        refine b_ret tok rfl ?_
        have hno : mayF g (lastN l i) (x :: l.drop (i + 1)) = false := by
          rw [Bool.eq_false_iff]
          intro hc
          obtain ⟨⟨h1, h2, h3⟩, _⟩ := mayF_cons.1 hc
          omega
        intro E w' hm _
        refine ⟨?_, hm.below (Vw.le.refl _)⟩
        rw [hmL, heq, hno]; rfl
      ·
        simp only [Bool.and_eq_true, Bool.or_eq_true, Bool.not_eq_true', Bool.or_eq_false_iff, Bool.and_eq_false_iff, decide_eq_true_eq, decide_eq_false_iff_not, beq_iff_eq, bne_iff_ne, Bool.not_eq_false', beq_eq_false_iff_ne, bne_eq_false_iff_eq, ne_eq, Decidable.not_not, Int.not_lt, Int.not_le] at h
        refine c_skip ?_
        refine x_block ?_
        refine x_then ?_
        refine c_region ?_
        refine o_yield rfl rfl rfl (y_val tok rfl) ?_
        refine o_yield rfl rfl rfl (y_val tok rfl) ?_
        refine o_yield rfl rfl rfl (y_val tok rfl) ?_
        refine o_end [1, 2, 5] rfl ?_
        refine x_then ?_
        have hyes : mayF g (lastN l i) (x :: l.drop (i + 1)) = mayF g x.n (l.drop (i + 1)) := by
          rw [mayF, decide_eq_true (by omega), Bool.true_and]
        rw [wrapI (n := (i : Int) + 1) (by omega) (by omega)]
        refine x_round (i + 1) (⟨by omega, by rw [heq, hyes, lastN_succ h_x], by rw [lastN_succ h_x]; omega⟩) (by first | omega | (dsimp only; omega)) (by repeat (first | exact SubF.nil | refine SubF.cons rfl ?_)) (by repeat (first | exact SubO.nil | refine SubO.cons rfl ?_)) rfl (Vw.le.refl _)
    ·
      simp only [Bool.and_eq_true, Bool.or_eq_true, Bool.not_eq_true', Bool.or_eq_false_iff, Bool.and_eq_false_iff, decide_eq_true_eq, decide_eq_false_iff_not, beq_iff_eq, bne_iff_ne, Bool.not_eq_false', beq_eq_false_iff_ne, bne_eq_false_iff_eq, ne_eq, Decidable.not_not, Int.not_lt, Int.not_le] at h
      refine c_exit ?_
      refine x_then_exit ?_
      refine x_then_exit ?_
      refine x_block_hit ?_
      refine x_then ?_
      refine c_seq ?_
      refine c_region ?_
      refine o_yield rfl rfl rfl (y_val tok rfl) ?_
      refine o_end [4] rfl ?_
      refine x_then ?_
      refine c_ret ?_
      refine b_ret tok rfl ?_
      have hkL : i = l.length := by omega
      subst hkL
      rw [List.drop_length, mayF] at heq
      intro E w' hm _
      refine ⟨?_, hm.below (Vw.le.refl _)⟩
      rw [hmL, heq]; rfl

theorem mayF_at {g : Geo} : ∀ {l : List Block} {last : Int}, mayF g last l = true → ∀ i b, l[i]? = some b → (if i = 0 then last else (blkAt l (i - 1)).n) < b.n ∧ b.n < g.blocks ∧ (b.text.size : Int) ≤ g.per * 256 ∧ last < b.n ∧ last + i < b.n
  | [], _, _, i, b, hb => by simp at hb
  | x :: r, last, h, 0, b, hb => by
    obtain ⟨⟨h1, h2, h3⟩, _⟩ := mayF_cons.1 h
    simp at hb
    subst hb
    exact ⟨by simpa using h1, h2, h3, h1, by omega⟩
  | x :: r, last, h, i + 1, b, hb => by
    obtain ⟨⟨h1, h2, h3⟩, h4⟩ := mayF_cons.1 h
    simp only [List.getElem?_cons_succ] at hb
    obtain ⟨k1, k2, k3, k4, k5⟩ := mayF_at h4 i b hb
    refine ⟨?_, k2, k3, by omega, by omega⟩
    rw [if_neg (by omega), show i + 1 - 1 = i by omega]
    cases i with
    | zero => simpa [blkAt] using k1
    | succ j =>
      rw [if_neg (by omega), show j + 1 - 1 = j by omega] at k1
      simpa [blkAt, List.getD] using k1

theorem mayL_len {g : Geo} {l : List Block} (h : mayL g l = true) : (l.length : Int) ≤ g.blocks := by
  rw [mayL, Bool.and_eq_true] at h
  have hf := geo_facts h.1
  cases hl : l.length with
  | zero => omega
  | succ k =>
    obtain ⟨b, hb⟩ : ∃ b, l[k]? = some b := ⟨l[k]'(by omega), by simp [hl]⟩
    obtain ⟨_, h2, _, _, h5⟩ := mayF_at h.2 k b hb
    omega

end Go.Proofs.Ytipmgnhbcaniiaa

/- A transaction that is committed: the program's. -/
set_option linter.unusedVariables false
set_option linter.unusedSimpArgs false
set_option maxRecDepth 100000
namespace Go.Proofs.Ytipmgnhbcaniiaa
open Go Go.Eng Go.RowKit

/-- What the device is asked. -/
structure ActV where
  kind : Int
  sector : Int
  b : ByteArray
  key : Int
abbrev ActV.val (a : ActV) : Value := .agg #[I8 a.kind, I a.sector, S a.b, I a.key]
abbrev act0 : ActV := ⟨0, 0, ByteArray.empty, 0⟩

abbrev putV (v : Value) (i : Int) : Value := .agg #[v, I i]

section
variable {o : Oper} {n : Nat} {F : Frame0} {C : List Nat} {O : Go.Eng.Own} {nl : Nat} {V : Vw}
end

def leftV (n i : Int) : Int := max 0 (n - max i 0)

def takeI (n i : Int) : Int := if n ≤ i then i else IntKind.i64.wrap (i + 1)

end Go.Proofs.Ytipmgnhbcaniiaa

/- Sectors that are made of numbers: the document's. -/
set_option linter.unusedVariables false
set_option linter.unusedSimpArgs false
set_option maxRecDepth 100000
namespace Go.Proofs.Ytipmgnhbcaniiaa
open Go Go.Eng Go.RowKit

theorem refMake_c (kind : Int) (hk : R8 kind) (t : ByteArray) (V : Vw) (kv nv : Value) (ks ns : List Int) (w : World) (ht : t.size ≤ 1099511627776) (hV : V.le (vw w)) (hks : SlOf V encI64 1 kv ks) (hns : SlOf V encI64 1 nv ns)
    (hlen : ks.length = ns.length) (hn : ns.length ≤ 1000) (hfit : ∀ (i : Nat) (k n : Int), ks[i]? = some k → ns[i]? = some n → putOk k [n] = true) (hsz : ∀ i : Nat, (packL (ks.take i) (ns.take i)).length ≤ 505) :
    Calls Try.prog 48 #[I8 kind, S t, kv, nv] w fun e w' => e = .returned (.tuple #[S (sealS kind (strOf (packL ks ns) ++ t)).1, I (sealS kind (strOf (packL ks ns) ++ t)).2]) ∧ Below w.heap.size w w' := by
  have hks' := hks.mono hV
  have hns' := hns.mono hV
  refine enter (E := E0) (O := []) (nl := 0) (V := vw w) [.a (.v (I8 kind)), .a (.v (S t)), .a (.v kv), .a (.v nv)] Try.func48 rfl rfl (mem0 E0 0 w) rfl rfl ?_
  refine c_seq ?_
  refine c_region ?_
  refine o_yield rfl rfl rfl (y_val tok rfl) ?_
  refine o_yield rfl rfl rfl (y_val tok rfl) ?_
  refine o_end [0, 1, 2, 3] rfl ?_
  refine x_then ?_
  refine c_seq ?_
  refine c_seq ?_
  refine c_region ?_
  refine o_yield rfl rfl rfl (y_val tok rfl) ?_
  refine o_yield rfl rfl rfl (y_len tok rfl (fun hg => hks'.sl)) ?_
  refine o_yield rfl rfl rfl (y_val tok rfl) ?_
  refine o_yield rfl rfl rfl (y_len tok rfl (fun hg => hns'.sl)) ?_
  refine o_yield rfl rfl rfl (y_val tok rfl) ?_
  refine o_end [0, 1, 2, 3, 18] rfl ?_
  refine x_then ?_
  refine c_cond rfl (fun h => ?_) (fun h => ?_)
  ·
    simp only [Bool.and_eq_true, Bool.or_eq_true, Bool.not_eq_true', Bool.or_eq_false_iff, Bool.and_eq_false_iff, decide_eq_true_eq, decide_eq_false_iff_not, beq_iff_eq, bne_iff_ne, Bool.not_eq_false', beq_eq_false_iff_ne, bne_eq_false_iff_eq, ne_eq, Decidable.not_not, Int.not_lt, Int.not_le] at h
    refine c_seq ?_
    refine c_region ?_
    refine o_yield rfl rfl rfl (y_val tok rfl) ?_
    refine o_yield rfl rfl rfl (y_val tok rfl) ?_
    refine o_end [8, 9] rfl ?_
    refine x_then ?_
    refine c_ret ?_
    refine x_then_ret ?_
    refine b_ret tok rfl ?_
    omega
  ·
    simp only [Bool.and_eq_true, Bool.or_eq_true, Bool.not_eq_true', Bool.or_eq_false_iff, Bool.and_eq_false_iff, decide_eq_true_eq, decide_eq_false_iff_not, beq_iff_eq, bne_iff_ne, Bool.not_eq_false', beq_eq_false_iff_ne, bne_eq_false_iff_eq, ne_eq, Decidable.not_not, Int.not_lt, Int.not_le] at h
    clear h
    refine c_skip ?_
    refine x_then ?_
    refine c_seq ?_
    refine c_region ?_
    refine o_yield rfl rfl rfl (y_val tok rfl) ?_
    refine o_end [0, 1, 2, 3, 10] rfl ?_
    refine x_then ?_
    refine c_seq ?_
    refine c_seq ?_
    refine c_region ?_
    refine o_yield rfl rfl rfl (y_val tok rfl) ?_
    refine o_end [0, 1, 2, 3, 10, 11] rfl ?_
    refine x_then ?_
    refine c_block ?_
    refine k_nil 10 5 1 rfl rfl ?_
    refine c_loopK [0, 1, 2, 3] [0] rfl rfl (σ := Nat) (fun i => [(10, .a (.row 0)), (11, .a (.v (I i)))]) (fun i => [(0, .row 5 1 (packL (ks.take i) (ns.take i)).length ((packL (ks.take i) (ns.take i)).flatMap encByte))]) (fun i => i ≤ ns.length) (fun i => ns.length - i) (0) (by omega) (by repeat (first | exact SubF.nil | refine SubF.cons rfl ?_)) (by repeat (first | exact SubO.nil | refine SubO.cons rfl ?_)) rfl ?_
    rintro i hi
    refine c_seq ?_
    refine c_seq ?_
    refine c_region ?_
    refine o_yield rfl rfl rfl (y_val tok rfl) ?_
    refine o_yield rfl rfl rfl (y_val tok rfl) ?_
    refine o_yield rfl rfl rfl (y_len tok rfl (fun hg => hns'.sl)) ?_
    refine o_yield rfl rfl rfl (y_val tok rfl) ?_
    refine o_end [0, 1, 2, 3, 10, 11, 22] rfl ?_
    refine x_then ?_
    refine c_cond rfl (fun h => ?_) (fun h => ?_)
    ·
      simp only [Bool.and_eq_true, Bool.or_eq_true, Bool.not_eq_true', Bool.or_eq_false_iff, Bool.and_eq_false_iff, decide_eq_true_eq, decide_eq_false_iff_not, beq_iff_eq, bne_iff_ne, Bool.not_eq_false', beq_eq_false_iff_ne, bne_eq_false_iff_eq, ne_eq, Decidable.not_not, Int.not_lt, Int.not_le] at h
      refine c_skip ?_
      refine x_then ?_
      refine c_seq ?_
      refine c_block ?_
      refine c_seq ?_
      refine c_heldR mixed rfl (by repeat (first | exact SubO.nil | refine SubO.cons rfl ?_)) (by first | rfl | simp [okCels, allOk_plain]) ?_
      refine t_take 0 rfl (by kernel_rfl) rfl rfl rfl (y_val tok rfl) rfl ?_
      refine t_take 1 rfl (by kernel_rfl) rfl rfl rfl (y_val tok rfl) rfl ?_
      refine t_take 2 rfl (by kernel_rfl) rfl rfl rfl (y_val tok rfl) rfl ?_
      obtain ⟨n, h_n⟩ := hns'.at (k := i) (by omega)
      obtain ⟨k, h_k⟩ := hks'.at (k := i) (by omega)
      have hpi := hsz i
      have hps := hsz (i + 1)
      have hlt_k := lt_of_at h_k
      refine t_take 3 rfl (by kernel_rfl) rfl rfl rfl (y_idx tok rfl (fun hg => hks'.sl) (fun hg => ⟨by omega, by omega⟩)) rfl ?_
      refine t_take 4 rfl (by kernel_rfl) rfl rfl rfl (y_lel tok (i) 0 (k) rfl (fun hg => hks') (fun hg => h_k) rfl rfl) rfl ?_
      refine t_take 5 rfl (by kernel_rfl) rfl rfl rfl (y_val tok rfl) rfl ?_
      refine t_take 6 rfl (by kernel_rfl) rfl rfl rfl (y_val tok rfl) rfl ?_
      have hlt_n := lt_of_at h_n
      refine t_take 7 rfl (by kernel_rfl) rfl rfl rfl (y_idx tok rfl (fun hg => hns'.sl) (fun hg => ⟨by omega, by omega⟩)) rfl ?_
      refine t_take 8 rfl (by kernel_rfl) rfl rfl rfl (y_lel tok (i) 0 (n) rfl (fun hg => hns') (fun hg => h_n) rfl rfl) rfl ?_
      refine t_go ?_
      refine h_one 9 (by kernel_rfl) ?_
      refine h_to 9 rfl rfl rfl rfl rfl rfl (s_bs tok 1 rfl rfl rfl) (.inr fun _ _ => ⟨(by repeat (first | exact SubO.nil | refine SubO.cons rfl ?_)), rfl, (by first | exact Vw.le.refl _ | assumption)⟩) (fun _ _ => ?_)
      refine h_one 10 (by kernel_rfl) ?_
      have hpp : putL (packL (ks.take i) (ns.take i)) k [n] = packL (ks.take (i + 1)) (ns.take (i + 1)) := by rw [putL_one, ← packL_succ h_k h_n]
      refine h_to 10 rfl rfl rfl rfl rfl rfl (s_refPut (packL (ks.take i) (ns.take i)) k [n] rfl (hfit i k n h_k h_n) (by omega) (by simp) (fun E w hm => ⟨_, _, rfl, hm.rowOf (enc := encByte) 0 rfl (fun _ => rfl), hm.rowOf (enc := encI64) (L := [n]) 1 rfl (fun _ => rfl)⟩)) (.inr fun _ _ => ⟨(by repeat (first | exact SubO.nil | refine SubO.cons rfl ?_)), rfl, (by first | exact Vw.le.refl _ | assumption)⟩) (fun _ _ => ?_)
      refine h_one 11 (by kernel_rfl) ?_
      refine h_yield 11 rfl rfl rfl rfl (y_val tok rfl) ?_
      refine h_take 12 rfl (by kernel_rfl) rfl rfl rfl rfl (y_val tok rfl) rfl ?_
      refine h_take 13 rfl (by kernel_rfl) rfl rfl rfl rfl (y_val tok rfl) rfl ?_
      refine h_one 14 (by kernel_rfl) ?_
      refine h_yield 14 rfl rfl rfl rfl (y_val tok rfl) ?_
      refine h_one 15 (by kernel_rfl) ?_
      refine h_yield 15 rfl rfl rfl rfl (y_val tok rfl) ?_
      refine h_done [0, 1, 2, 3, 11, 12, 13] (by kernel_rfl) rfl ?_
      refine x_then ?_
      refine c_seq ?_
      refine c_seq ?_
      refine c_region ?_
      refine o_yield rfl rfl rfl (y_val tok rfl) ?_
      refine o_yield rfl rfl rfl (y_val tok rfl) ?_
      refine o_end [0, 1, 2, 3, 11, 12, 40] rfl ?_
      refine x_then ?_
      refine c_cond rfl (fun h => ?_) (fun h => ?_)
      ·
        simp only [Bool.and_eq_true, Bool.or_eq_true, Bool.not_eq_true', Bool.or_eq_false_iff, Bool.and_eq_false_iff, decide_eq_true_eq, decide_eq_false_iff_not, beq_iff_eq, bne_iff_ne, Bool.not_eq_false', beq_eq_false_iff_ne, bne_eq_false_iff_eq, ne_eq, Decidable.not_not, Int.not_lt, Int.not_le] at h
        refine c_seq ?_
        refine c_region ?_
        refine o_yield rfl rfl rfl (y_val tok rfl) ?_
        refine o_yield rfl rfl rfl (y_val tok rfl) ?_
        refine o_end [8, 9] rfl ?_
        refine x_then ?_
        refine c_ret ?_
        refine x_then_ret ?_
        refine x_block_ret ?_
        refine x_then_ret ?_
        refine x_then_ret ?_
        refine x_block_ret ?_
        refine x_then_ret ?_
        refine b_ret tok rfl ?_
        contradiction
      ·
        simp only [Bool.and_eq_true, Bool.or_eq_true, Bool.not_eq_true', Bool.or_eq_false_iff, Bool.and_eq_false_iff, decide_eq_true_eq, decide_eq_false_iff_not, beq_iff_eq, bne_iff_ne, Bool.not_eq_false', beq_eq_false_iff_ne, bne_eq_false_iff_eq, ne_eq, Decidable.not_not, Int.not_lt, Int.not_le] at h
        clear h
        rw [hpp]
        refine c_skip ?_
        refine x_then ?_
        refine c_seq ?_
        refine c_region ?_
        refine o_yield rfl rfl rfl (y_val tok rfl) ?_
        refine o_yield rfl rfl rfl (y_val tok rfl) ?_
        refine o_end [0, 1, 2, 3, 10, 11] rfl ?_
        refine x_then ?_
        refine c_seq ?_
        refine c_region ?_
        refine o_yield rfl rfl rfl (y_val tok rfl) ?_
        refine o_yield rfl rfl rfl (y_val tok rfl) ?_
        refine o_yield rfl rfl rfl (y_val tok rfl) ?_
        refine o_end [0, 1, 2, 3, 10, 11, 44] rfl ?_
        refine x_then ?_
        refine c_cond rfl (fun h => ?_) (fun h => ?_)
        ·
          simp only [Bool.and_eq_true, Bool.or_eq_true, Bool.not_eq_true', Bool.or_eq_false_iff, Bool.and_eq_false_iff, decide_eq_true_eq, decide_eq_false_iff_not, beq_iff_eq, bne_iff_ne, Bool.not_eq_false', beq_eq_false_iff_ne, bne_eq_false_iff_eq, ne_eq, Decidable.not_not, Int.not_lt, Int.not_le] at h
          refine c_seq ?_
          refine c_region ?_
          refine o_yield rfl rfl rfl (y_val tok rfl) ?_
          refine o_yield rfl rfl rfl (y_val tok rfl) ?_
          refine o_end [8, 9] rfl ?_
          refine x_then ?_
          refine c_ret ?_
          refine x_block_ret ?_
          refine x_then_ret ?_
          refine x_then_ret ?_
          refine x_block_ret ?_
          refine x_then_ret ?_
          refine b_ret tok rfl ?_
          omega
        ·
          simp only [Bool.and_eq_true, Bool.or_eq_true, Bool.not_eq_true', Bool.or_eq_false_iff, Bool.and_eq_false_iff, decide_eq_true_eq, decide_eq_false_iff_not, beq_iff_eq, bne_iff_ne, Bool.not_eq_false', beq_eq_false_iff_ne, bne_eq_false_iff_eq, ne_eq, Decidable.not_not, Int.not_lt, Int.not_le] at h
          refine c_skip ?_
          refine x_block ?_
          refine x_then ?_
          refine c_region ?_
          refine o_yield rfl rfl rfl (y_val tok rfl) ?_
          refine o_yield rfl rfl rfl (y_val tok rfl) ?_
          refine o_yield rfl rfl rfl (y_val tok rfl) ?_
          refine o_end [0, 1, 2, 3, 10, 11] rfl ?_
          refine x_then ?_
          rw [wrapI (n := (i : Int) + 1) (by omega) (by omega)]
          refine k_swap 0 2 rfl ?_
          refine x_round (i + 1) (by omega) (by first | omega | (dsimp only; omega)) (by repeat (first | exact SubF.nil | refine SubF.cons rfl ?_)) (by repeat (first | exact SubO.nil | refine SubO.cons rfl ?_)) rfl (Vw.le.refl _)
    ·
      simp only [Bool.and_eq_true, Bool.or_eq_true, Bool.not_eq_true', Bool.or_eq_false_iff, Bool.and_eq_false_iff, decide_eq_true_eq, decide_eq_false_iff_not, beq_iff_eq, bne_iff_ne, Bool.not_eq_false', beq_eq_false_iff_ne, bne_eq_false_iff_eq, ne_eq, Decidable.not_not, Int.not_lt, Int.not_le] at h
      have hil : i = ns.length := by omega
      subst hil
      have hpi := hsz ns.length
      rw [List.take_length, show ks.take ns.length = ks by rw [← hlen, List.take_length]] at hpi ⊢
      refine c_exit ?_
      refine x_then_exit ?_
      refine x_then_exit ?_
      refine x_block_hit ?_
      refine x_then ?_
      refine c_seq ?_
      refine c_region ?_
      refine o_yield rfl rfl rfl (y_val tok rfl) ?_
      refine o_yield rfl rfl rfl (y_val tok rfl) ?_
      refine o_yield rfl rfl rfl (y_own (s := .a (.v (.string (strOf (packL ks ns))))) 0 rfl rfl (fun v V' hs => y_b2s tok _ rfl (fun hg => hs))) ?_
      refine o_yield rfl rfl rfl (y_val tok rfl) ?_
      have hst := strOf_size (packL ks ns)
      have hcs : (strOf (packL ks ns) ++ t).size = (packL ks ns).length + t.size := by rw [ByteArray.size_append, hst]
      refine o_yield rfl rfl rfl (y_cat rfl (fun hg => by omega)) ?_
      refine o_call (.a (.v _)) rfl rfl fnok63 rfl rfl rfl (fun hg E w1 hm => by exact refSeal_c kind hk (strOf (packL ks ns) ++ t) (by simp only [maxLen]; omega) _) ?_
      refine o_yield rfl rfl rfl (y_val tok rfl) ?_
      refine o_yield rfl rfl rfl (y_val tok rfl) ?_
      refine o_yield rfl rfl rfl (y_val tok rfl) ?_
      refine o_yield rfl rfl rfl (y_val tok rfl) ?_
      refine o_end [8, 9] rfl ?_
      refine x_then ?_
      refine c_ret ?_
      refine b_ret tok rfl ?_
      intro E w' hm _
      refine ⟨?_, hm.below (Vw.le.refl _)⟩
      rfl

end Go.Proofs.Ytipmgnhbcaniiaa

/- Superblocks and headers: the program's. -/
set_option linter.unusedVariables false
set_option linter.unusedSimpArgs false
set_option maxRecDepth 100000
namespace Go.Proofs.Ytipmgnhbcaniiaa
open Go Go.Eng Go.RowKit

abbrev gW : List Int := [2, 2, 2, 2, 2, 2, 4, 4]
abbrev gNums (g : Geo) : List Int := [g.nodes, g.slots, g.blocks, g.per, g.journal, g.log, g.lease, g.wait]

abbrev encP (b : Nat) (k : Nat) : List Value := [.pointer (some ⟨b, k, none⟩)]

def gbV (g : Geo) : ByteArray := if geoB g = true then strOf (sealL 1 (packL gW (gNums g))) else ByteArray.empty
def gbE (g : Geo) : Int := if geoB g = true then 0 else 40

theorem gnums_fit {g : Geo} (h : geoB g = true) : ∀ (i : Nat) (k n : Int), gW[i]? = some k → (gNums g)[i]? = some n → fitsB n k = true := by
  have m2 : mostN (2 : Int).toNat = 65535 := by decide
  have m4 : mostN (4 : Int).toNat = 4294967295 := by decide
  have hf := geo_facts h
  intro i k n hk hn
  match i with
  | 0 => cases hk; cases hn; rw [fitsB, m2]; simp [widthB]; omega
  | 1 => cases hk; cases hn; rw [fitsB, m2]; simp [widthB]; omega
  | 2 => cases hk; cases hn; rw [fitsB, m2]; simp [widthB]; omega
  | 3 => cases hk; cases hn; rw [fitsB, m2]; simp [widthB]; omega
  | 4 => cases hk; cases hn; rw [fitsB, m2]; simp [widthB]; omega
  | 5 => cases hk; cases hn; rw [fitsB, m2]; simp [widthB]; omega
  | 6 => cases hk; cases hn; rw [fitsB, m4]; simp [widthB]; omega
  | 7 => cases hk; cases hn; rw [fitsB, m4]; simp [widthB]; omega
  | i + 8 => simp [gW] at hk

theorem gpack_take (g : Geo) (i : Nat) : (packL (gW.take i) ((gNums g).take i)).length ≤ 505 := by
  have h1 := pack_len (gW.take i) ((gNums g).take i)
  have h2 : ((gW.take i).map Int.toNat).sum ≤ 20 := by
    match i with
    | 0 => decide
    | 1 => decide
    | 2 => decide
    | 3 => decide
    | 4 => decide
    | 5 => decide
    | 6 => decide
    | 7 => decide
    | i + 8 => rw [List.take_of_length_le (by simp [gW])]; decide
  omega

theorem gseal (g : Geo) : sealS 1 (strOf (packL gW (gNums g)) ++ ByteArray.empty) = (strOf (sealL 1 (packL gW (gNums g))), 0) := by
  have h20 : (packL gW (gNums g)).length = 20 := by simp [packL, gW, gNums, leB, leTake_len]
  rw [sealS, if_neg (by rw [ByteArray.size_append, strOf_size]; simp; omega)]
  congr 2

/-- What a superblock's numbers say. -/
def geoOf : List Int → Geo
  | [a, b, c, d, e, f, g, h] => ⟨a, b, c, d, e, f, g, h⟩
  | _ => ⟨0, 0, 0, 0, 0, 0, 0, 0⟩
abbrev geo0 : Geo := ⟨0, 0, 0, 0, 0, 0, 0, 0⟩

/-- What a superblock is read as. -/
def srOk (s : ByteArray) : Option Geo := match fieldsR 1 s gW with
  | some (l, r) => if r.size = 0 ∧ geoB (geoOf l) = true then some (geoOf l) else none
  | none => none
def srV (s : ByteArray) : Geo := (srOk s).getD geo0
def srE (s : ByteArray) : Int := if (srOk s).isSome then 0 else 50

theorem eight {l : List Int} (h : l.length = 8) : ∃ a b c d e f g i, l = [a, b, c, d, e, f, g, i] := by
  match l, h with
  | [a, b, c, d, e, f, g, i], _ => exact ⟨a, b, c, d, e, f, g, i, rfl⟩

/-- The cells of a geometry of which the first numbers are known. -/
def geoC' (l : List Int) (i j : Nat) : A := .v (I (if j < i then l.getD j 0 else 0))
def geoTo (l : List Int) (i : Nat) : List A := [geoC' l i 0, geoC' l i 1, geoC' l i 2, geoC' l i 3, geoC' l i 4, geoC' l i 5, geoC' l i 6, geoC' l i 7]

end Go.Proofs.Ytipmgnhbcaniiaa

/- Headers: the program's; superblocks and headers: the document's. -/
set_option linter.unusedVariables false
set_option linter.unusedSimpArgs false
set_option maxRecDepth 100000
namespace Go.Proofs.Ytipmgnhbcaniiaa
open Go Go.Eng Go.RowKit

theorem refPut_no {bv lv : Value} {w : World} (bl : List UInt8) (k : Int) (ls : List Int) (hok : putOk k ls = false) (hbn : bl.length ≤ 1099511627776) (hln : ls.length ≤ 1099511627776) (hb : SlOf (vw w) encByte 1 bv bl) (hl : SlOf (vw w) encI64 1 lv ls) :
    Calls Try.prog 37 #[bv, I k, lv] w fun e w' => e = .returned (.tuple #[.slice none 0 0, I 2]) ∧ Below w.heap.size w w' := by
  refine (refPut_c (vw w) bv bl k lv ls w (Vw.le.refl _) hb hl hbn hln).mono ?_
  rintro e w' ⟨⟨h, _⟩ | ⟨_, he⟩, hbl⟩
  · rw [hok] at h; cases h
  · exact ⟨he, hbl⟩

def headS (n : Int) : ByteArray × Int := if fitsB n 6 = true then (strOf (sealL 2 (leB 6 n)), 0) else (ByteArray.empty, 2)

theorem putOk_one {n : Int} : putOk 6 [n] = fitsB n 6 := by simp [putOk, widthB]

theorem hseal {n : Int} (h : fitsB n 6 = true) : sealS 2 (strOf (packL [6] [n]) ++ ByteArray.empty) = headS n := by
  have h6 : (packL [6] [n]) = leB 6 n := by simp [packL]
  have hl : (leB 6 n).length = 6 := by simp [leB, leTake_len]
  rw [sealS, if_neg (by rw [ByteArray.size_append, strOf_size, h6]; simp; omega), headS, if_pos h, h6]
  congr 2

theorem refMake1No_c (kind : Int) (t : ByteArray) (V : Vw) (kv nv : Value) (n : Int) (w : World) (hV : V.le (vw w)) (hks : SlOf V encI64 1 kv [6]) (hns : SlOf V encI64 1 nv [n]) (hfit : fitsB n 6 = false) :
    Calls Try.prog 48 #[I8 kind, S t, kv, nv] w fun e w' => e = .returned (.tuple #[S ByteArray.empty, I 2]) ∧ Below w.heap.size w w' := by
  have hks' := hks.mono hV
  have hns' := hns.mono hV
  refine enter (E := E0) (O := []) (nl := 0) (V := vw w) [.a (.v (I8 kind)), .a (.v (S t)), .a (.v kv), .a (.v nv)] Try.func48 rfl rfl (mem0 E0 0 w) rfl rfl ?_
  refine c_seq ?_
  refine c_region ?_
  refine o_yield rfl rfl rfl (y_val tok rfl) ?_
  refine o_yield rfl rfl rfl (y_val tok rfl) ?_
  refine o_end [0, 1, 2, 3] rfl ?_
  refine x_then ?_
  refine c_seq ?_
  refine c_seq ?_
  refine c_region ?_
  refine o_yield rfl rfl rfl (y_val tok rfl) ?_
  refine o_yield rfl rfl rfl (y_len tok rfl (fun hg => hks'.sl)) ?_
  refine o_yield rfl rfl rfl (y_val tok rfl) ?_
  refine o_yield rfl rfl rfl (y_len tok rfl (fun hg => hns'.sl)) ?_
  refine o_yield rfl rfl rfl (y_val tok rfl) ?_
  refine o_end [0, 1, 2, 3, 18] rfl ?_
  refine x_then ?_
  refine c_cond rfl (fun h => ?_) (fun h => ?_)
  ·
    simp only [Bool.and_eq_true, Bool.or_eq_true, Bool.not_eq_true', Bool.or_eq_false_iff, Bool.and_eq_false_iff, decide_eq_true_eq, decide_eq_false_iff_not, beq_iff_eq, bne_iff_ne, Bool.not_eq_false', beq_eq_false_iff_ne, bne_eq_false_iff_eq, ne_eq, Decidable.not_not, Int.not_lt, Int.not_le] at h
    refine c_seq ?_
    refine c_region ?_
    refine o_yield rfl rfl rfl (y_val tok rfl) ?_
    refine o_yield rfl rfl rfl (y_val tok rfl) ?_
    refine o_end [8, 9] rfl ?_
    refine x_then ?_
    refine c_ret ?_
    refine x_then_ret ?_
    refine b_ret tok rfl ?_
    contradiction
  ·
    simp only [Bool.and_eq_true, Bool.or_eq_true, Bool.not_eq_true', Bool.or_eq_false_iff, Bool.and_eq_false_iff, decide_eq_true_eq, decide_eq_false_iff_not, beq_iff_eq, bne_iff_ne, Bool.not_eq_false', beq_eq_false_iff_ne, bne_eq_false_iff_eq, ne_eq, Decidable.not_not, Int.not_lt, Int.not_le] at h
    clear h
    refine c_skip ?_
    refine x_then ?_
    refine c_seq ?_
    refine c_region ?_
    refine o_yield rfl rfl rfl (y_val tok rfl) ?_
    refine o_end [0, 1, 2, 3, 10] rfl ?_
    refine x_then ?_
    refine c_seq ?_
    refine c_seq ?_
    refine c_region ?_
    refine o_yield rfl rfl rfl (y_val tok rfl) ?_
    refine o_end [0, 1, 2, 3, 10, 11] rfl ?_
    refine x_then ?_
    refine c_block ?_
    refine k_nil 10 5 1 rfl rfl ?_
    refine c_loopK [0, 1, 2, 3] [0] rfl rfl (σ := Nat) (fun i => [(10, .a (.row 0)), (11, .a (.v (I i)))]) (fun i => [(0, .row 5 1 0 [])]) (fun i => i = 0) (fun i => 1 - i) (0) (rfl) (by repeat (first | exact SubF.nil | refine SubF.cons rfl ?_)) (by repeat (first | exact SubO.nil | refine SubO.cons rfl ?_)) rfl ?_
    rintro i rfl
    refine c_seq ?_
    refine c_seq ?_
    refine c_region ?_
    refine o_yield rfl rfl rfl (y_val tok rfl) ?_
    refine o_yield rfl rfl rfl (y_val tok rfl) ?_
    refine o_yield rfl rfl rfl (y_len tok rfl (fun hg => hns'.sl)) ?_
    refine o_yield rfl rfl rfl (y_val tok rfl) ?_
    refine o_end [0, 1, 2, 3, 10, 11, 22] rfl ?_
    refine x_then ?_
    refine c_cond rfl (fun h => ?_) (fun h => ?_)
    ·
      simp only [Bool.and_eq_true, Bool.or_eq_true, Bool.not_eq_true', Bool.or_eq_false_iff, Bool.and_eq_false_iff, decide_eq_true_eq, decide_eq_false_iff_not, beq_iff_eq, bne_iff_ne, Bool.not_eq_false', beq_eq_false_iff_ne, bne_eq_false_iff_eq, ne_eq, Decidable.not_not, Int.not_lt, Int.not_le] at h
      refine c_skip ?_
      refine x_then ?_
      refine c_seq ?_
      refine c_block ?_
      refine c_seq ?_
      refine c_heldR mixed rfl (by repeat (first | exact SubO.nil | refine SubO.cons rfl ?_)) (by first | rfl | simp [okCels, allOk_plain]) ?_
      refine t_take 0 rfl (by kernel_rfl) rfl rfl rfl (y_val tok rfl) rfl ?_
      refine t_take 1 rfl (by kernel_rfl) rfl rfl rfl (y_val tok rfl) rfl ?_
      refine t_take 2 rfl (by kernel_rfl) rfl rfl rfl (y_val tok rfl) rfl ?_
      have e1 : ([n] : List Int)[0]? = some n := rfl
      have e2 : ([6] : List Int)[0]? = some 6 := rfl
      have hlt__6___Int_ := lt_of_at e2
      refine t_take 3 rfl (by kernel_rfl) rfl rfl rfl (y_idx tok rfl (fun hg => hks'.sl) (fun hg => ⟨by omega, by omega⟩)) rfl ?_
      refine t_take 4 rfl (by kernel_rfl) rfl rfl rfl (y_lel tok (0) 0 ((6 : Int)) rfl (fun hg => hks') (fun hg => e2) rfl rfl) rfl ?_
      refine t_take 5 rfl (by kernel_rfl) rfl rfl rfl (y_val tok rfl) rfl ?_
      refine t_take 6 rfl (by kernel_rfl) rfl rfl rfl (y_val tok rfl) rfl ?_
      have hlt_n := lt_of_at e1
      refine t_take 7 rfl (by kernel_rfl) rfl rfl rfl (y_idx tok rfl (fun hg => hns'.sl) (fun hg => ⟨by omega, by omega⟩)) rfl ?_
      refine t_take 8 rfl (by kernel_rfl) rfl rfl rfl (y_lel tok (0) 0 (n) rfl (fun hg => hns') (fun hg => e1) rfl rfl) rfl ?_
      refine t_go ?_
      refine h_one 9 (by kernel_rfl) ?_
      refine h_to 9 rfl rfl rfl rfl rfl rfl (s_bs tok 1 rfl rfl rfl) (.inr fun _ _ => ⟨(by repeat (first | exact SubO.nil | refine SubO.cons rfl ?_)), rfl, (by first | exact Vw.le.refl _ | assumption)⟩) (fun _ _ => ?_)
      refine h_one 10 (by kernel_rfl) ?_
      refine h_call 10 (.a (.v _)) rfl rfl rfl fnok37 rfl rfl rfl (fun hg E w1 hm => by exact refPut_no [] 6 [n] (by rw [putOk_one, hfit]) (by simp) (by simp) (hm.rowOf (enc := encByte) (L := []) 0 rfl (fun _ => rfl)) (hm.rowOf (enc := encI64) (L := [n]) 1 rfl (fun _ => rfl))) ?_
      refine h_one 11 (by kernel_rfl) ?_
      refine h_yield 11 rfl rfl rfl rfl (y_val tok rfl) ?_
      refine h_take 12 rfl (by kernel_rfl) rfl rfl rfl rfl (y_val tok rfl) rfl ?_
      refine h_take 13 rfl (by kernel_rfl) rfl rfl rfl rfl (y_val tok rfl) rfl ?_
      refine h_one 14 (by kernel_rfl) ?_
      refine h_yield 14 rfl rfl rfl rfl (y_val tok rfl) ?_
      refine h_one 15 (by kernel_rfl) ?_
      refine h_yield 15 rfl rfl rfl rfl (y_val tok rfl) ?_
      refine h_done [0, 1, 2, 3, 11, 12, 13] (by kernel_rfl) rfl ?_
      refine x_then ?_
      refine c_seq ?_
      refine c_seq ?_
      refine c_region ?_
      refine o_yield rfl rfl rfl (y_val tok rfl) ?_
      refine o_yield rfl rfl rfl (y_val tok rfl) ?_
      refine o_end [0, 1, 2, 3, 11, 12, 40] rfl ?_
      refine x_then ?_
      refine c_cond rfl (fun h => ?_) (fun h => ?_)
      ·
        refine c_seq ?_
        refine c_region ?_
        refine o_yield rfl rfl rfl (y_val tok rfl) ?_
        refine o_yield rfl rfl rfl (y_val tok rfl) ?_
        refine o_end [8, 9] rfl ?_
        refine x_then ?_
        refine c_ret ?_
        refine x_then_ret ?_
        refine x_block_ret ?_
        refine x_then_ret ?_
        refine x_then_ret ?_
        refine x_block_ret ?_
        refine x_then_ret ?_
        refine b_ret tok rfl ?_
        intro E w' hm _
        refine ⟨?_, hm.below (Vw.le.refl _)⟩
        rfl
      ·
        exact absurd h (by decide)
    ·
      simp only [Bool.and_eq_true, Bool.or_eq_true, Bool.not_eq_true', Bool.or_eq_false_iff, Bool.and_eq_false_iff, decide_eq_true_eq, decide_eq_false_iff_not, beq_iff_eq, bne_iff_ne, Bool.not_eq_false', beq_eq_false_iff_ne, bne_eq_false_iff_eq, ne_eq, Decidable.not_not, Int.not_lt, Int.not_le] at h
      exact absurd h (by simp)

theorem refHeadS_c (n : Int) (w : World) : Calls Try.prog 23 #[I n] w fun e w' => e = .returned (.tuple #[S (headS n).1, I (headS n).2]) ∧ Below w.heap.size w w' := by
  refine enter (E := E0) (O := []) (nl := 0) (V := vw w) [.a (.v (I n))] Try.func23 rfl rfl (mem0 E0 0 w) rfl rfl ?_
  refine c_seq ?_
  refine c_region ?_
  refine o_yield rfl rfl rfl (y_val tok rfl) ?_
  refine o_yield rfl rfl rfl (y_val tok rfl) ?_
  refine o_end [0] rfl ?_
  refine x_then ?_
  refine c_seq ?_
  refine c_region ?_
  refine o_bs tok rfl rfl rfl rfl (fun b1 V1 hle1 hb1 => ?_)
  refine o_yield rfl rfl rfl (y_val tok rfl) ?_
  refine o_bs tok rfl rfl rfl rfl (fun b2 V2 hle2 hb2 => ?_)
  have h1 := SlOf.ofBlock (enc := encI64) (sz := 1) (l := [6]) (hle2.get _ _ (hb1 rfl)) rfl (fun _ => rfl) (Nat.le_refl _)
  have h2 := SlOf.ofBlock (enc := encI64) (sz := 1) (l := [n]) (hb2 rfl) rfl (fun _ => rfl) (Nat.le_refl _)
  have key : ∀ w1, V2.le (vw w1) → Calls Try.prog 48 #[I8 2, S ByteArray.empty, .slice (some ⟨b1, 0, none⟩) 1 1, .slice (some ⟨b2, 0, none⟩) 1 1] w1 fun e w' => e = .returned (.tuple #[S (headS n).1, I (headS n).2]) ∧ Below w1.heap.size w1 w' := fun w1 hV => by
    cases hf : fitsB n 6 with
    | true =>
      have := refMake_c 2 (by unfold R8; omega) ByteArray.empty V2 _ _ [6] [n] w1 (by simp) hV h1 h2 rfl (by simp) (fun i k m hk hn => by
        cases i with
        | zero => cases hk; cases hn; rw [putOk_one, hf]
        | succ i => simp at hk) (fun i => by
        have h := pack_len ([6].take i) ([n].take i)
        have : (([6].take i).map Int.toNat).sum ≤ 6 := by
          match i with
          | 0 => decide
          | i + 1 => rw [List.take_of_length_le (by simp)]; decide
        omega)
      rw [hseal hf] at this
      exact this
    | false =>
      have := refMake1No_c 2 ByteArray.empty V2 _ _ n w1 hV h1 h2 hf
      rw [headS, if_neg (by simp [hf])]
      exact this
  refine o_call (.a (.v _)) rfl rfl fnok48 rfl rfl rfl (fun hg E w1 hm => by exact key _ hm.leV) ?_
  refine o_yield rfl rfl rfl (y_val tok rfl) ?_
  refine o_yield rfl rfl rfl (y_val tok rfl) ?_
  refine o_yield rfl rfl rfl (y_val tok rfl) ?_
  refine o_yield rfl rfl rfl (y_val tok rfl) ?_
  refine o_end [2, 3] rfl ?_
  refine x_then ?_
  refine c_ret ?_
  refine b_ret tok rfl ?_
  intro E w' hm _
  refine ⟨?_, hm.below ((hle1.trans hle2))⟩
  rfl

/-- A header's tail. -/
def tailOk (s : ByteArray) : Option Int := match fieldsR 2 s [6] with
  | some (l, r) => if r.size = 0 then l[0]? else none
  | none => none
def tailV (s : ByteArray) : Int := (tailOk s).getD 0
def tailE (s : ByteArray) : Int := if (tailOk s).isSome then 0 else 50

end Go.Proofs.Ytipmgnhbcaniiaa

/- The law SuperTells from what comes in. -/
set_option linter.unusedVariables false
set_option linter.unusedSimpArgs false
set_option maxRecDepth 100000
namespace Go.Proofs.Ytipmgnhbcaniiaa
open Go Go.Eng Go.RowKit

theorem rwidths_c (w : World) : Calls Try.prog 49 #[] w fun e w' => ∃ v, e = .returned v ∧ w'.ownsRow w.heap.size 3 1 v gW.length (gW.flatMap encI64) ∧ Below w.heap.size w w' := by
  refine enter (E := E0) (O := []) (nl := 0) (V := vw w) [] Try.func49 rfl rfl (mem0 E0 0 w) rfl rfl ?_
  refine c_seq ?_
  refine c_region ?_
  refine o_yield rfl rfl rfl (y_val tok rfl) ?_
  refine o_end [] rfl ?_
  refine x_then ?_
  refine c_seq ?_
  refine c_region ?_
  refine o_step rfl rfl rfl rfl rfl (s_bs tok 1 rfl rfl rfl) (fun _ _ => ?_)
  refine o_yield rfl rfl rfl (y_val tok rfl) ?_
  refine o_end [0] rfl ?_
  refine x_then ?_
  refine c_ret ?_
  refine b_ret tok rfl ?_
  intro E w' hm _
  exact ⟨E.κ 0, rfl, hm.rowFresh (Vw.le.refl _) (l := 0) rfl, hm.below (Vw.le.refl _)⟩

def gMk (g : Geo) : ByteArray × Int := sealS 1 (strOf (packL gW (gNums g)) ++ ByteArray.empty)

theorem rsbytes_c (g : Geo) (ok : g.Ok) (w : World) : Calls Try.prog 22 #[g.val] w fun e w' => e = .returned (.tuple #[S (gbV g), I (gbE g)]) ∧ Below w.heap.size w w' := by
  refine enter (E := E0) (O := []) (nl := 0) (V := vw w) [.a (.v g.val)] Try.func22 rfl rfl (mem0 E0 0 w) rfl rfl ?_
  refine c_seq ?_
  refine c_region ?_
  refine o_new tok rfl rfl rfl rfl ?_
  refine o_yield rfl rfl rfl (y_val tok rfl) ?_
  refine o_yield rfl rfl rfl (y_val tok rfl) ?_
  refine o_end [1] rfl ?_
  refine x_then ?_
  refine c_seq ?_
  refine c_seq ?_
  refine c_region ?_
  refine o_yield rfl rfl rfl (y_val tok rfl) ?_
  refine o_call (.a (.v _)) rfl rfl fnok18 rfl rfl rfl (fun hg E w1 hm => by exact refMay_c g ok _) ?_
  refine o_yield rfl rfl rfl (y_val tok rfl) ?_
  refine o_end [1, 6] rfl ?_
  refine x_then ?_
  refine c_cond rfl (fun h => ?_) (fun h => ?_)
  ·
    simp only [Bool.and_eq_true, Bool.or_eq_true, Bool.not_eq_true', Bool.or_eq_false_iff, Bool.and_eq_false_iff, decide_eq_true_eq, decide_eq_false_iff_not, beq_iff_eq, bne_iff_ne, Bool.not_eq_false', beq_eq_false_iff_ne, bne_eq_false_iff_eq, ne_eq, Decidable.not_not, Int.not_lt, Int.not_le] at h
    refine c_seq ?_
    refine c_region ?_
    refine o_yield rfl rfl rfl (y_val tok rfl) ?_
    refine o_yield rfl rfl rfl (y_val tok rfl) ?_
    refine o_end [2, 3] rfl ?_
    refine x_then ?_
    refine c_ret ?_
    refine x_then_ret ?_
    refine b_ret tok rfl ?_
    intro E w' hm _
    refine ⟨?_, hm.below (Vw.le.refl _)⟩
    rw [gbV, gbE, if_neg (by simp [h]), if_neg (by simp [h])]; rfl
  ·
    simp only [Bool.and_eq_true, Bool.or_eq_true, Bool.not_eq_true', Bool.or_eq_false_iff, Bool.and_eq_false_iff, decide_eq_true_eq, decide_eq_false_iff_not, beq_iff_eq, bne_iff_ne, Bool.not_eq_false', beq_eq_false_iff_ne, bne_eq_false_iff_eq, ne_eq, Decidable.not_not, Int.not_lt, Int.not_le] at h
    refine c_skip ?_
    refine x_then ?_
    refine c_seq ?_
    have hgg := h
    clear h
    refine c_heldM (σ := Unit) (fun _ => [(2, .a (.v (S (gMk g).1))), (3, .a (.v (I (gMk g).2)))]) (fun _ => []) (1) (fun _ => vw w) (fun _ => True) mixed ?_ ?_
    ·
      refine t_take 1 rfl (by kernel_rfl) rfl rfl rfl (y_val tok rfl) rfl ?_
      refine t_take 2 rfl (by kernel_rfl) rfl rfl rfl (y_val tok rfl) rfl ?_
      refine t_take 3 rfl (by kernel_rfl) rfl rfl rfl (y_val tok rfl) rfl ?_
      refine t_take 4 rfl (by kernel_rfl) rfl rfl rfl (y_val tok rfl) rfl ?_
      refine t_take 5 rfl (by kernel_rfl) rfl rfl rfl (y_val tok rfl) rfl ?_
      refine t_take 6 rfl (by kernel_rfl) rfl rfl rfl (y_val tok rfl) rfl ?_
      refine t_take 7 rfl (by kernel_rfl) rfl rfl rfl (y_val tok rfl) rfl ?_
      refine t_take 8 rfl (by kernel_rfl) rfl rfl rfl (y_val tok rfl) rfl ?_
      refine t_take 9 rfl (by kernel_rfl) rfl rfl rfl (y_val tok rfl) rfl ?_
      refine t_take 10 rfl (by kernel_rfl) rfl rfl rfl (y_val tok rfl) rfl ?_
      refine t_take 11 rfl (by kernel_rfl) rfl rfl rfl (y_val tok rfl) rfl ?_
      refine t_take 12 rfl (by kernel_rfl) rfl rfl rfl (y_val tok rfl) rfl ?_
      refine t_take 13 rfl (by kernel_rfl) rfl rfl rfl (y_val tok rfl) rfl ?_
      refine t_take 14 rfl (by kernel_rfl) rfl rfl rfl (y_val tok rfl) rfl ?_
      refine t_take 15 rfl (by kernel_rfl) rfl rfl rfl (y_val tok rfl) rfl ?_
      refine t_take 16 rfl (by kernel_rfl) rfl rfl rfl (y_val tok rfl) rfl ?_
      refine t_go ?_
      refine h_two 0 17 (by kernel_rfl) ?_ ?_
      ·
        refine h_to 0 rfl rfl rfl rfl rfl rfl (s_callRow 3 1 gW.length (gW.flatMap encI64) rfl fnok49 (fun E w1 hm => rwidths_c w1)) (.inr fun _ _ => ⟨(by repeat (first | exact SubO.nil | refine SubO.cons rfl ?_)), rfl, (by first | exact Vw.le.refl _ | assumption)⟩) (fun _ _ => ?_)
        refine h_one 17 (by kernel_rfl) ?_
        refine h_to 17 rfl rfl rfl rfl rfl rfl (s_bs tok 1 rfl rfl rfl) (.inr fun _ _ => ⟨(by repeat (first | exact SubO.nil | refine SubO.cons rfl ?_)), rfl, (by first | exact Vw.le.refl _ | assumption)⟩) (fun _ _ => ?_)
        refine h_one 18 (by kernel_rfl) ?_
        refine h_call 18 (.tup [.v (S (gMk g).1), .v (I (gMk g).2)]) rfl rfl rfl fnok48 rfl rfl rfl (fun hg E w1 hm => by first|exact refMake_c 1 (by unfold R8; omega) ByteArray.empty (vw w1) _ _ gW (gNums g) w1 (by simp) (Vw.le.refl _) (hm.rowOf 1 rfl (fun _ => rfl)) (hm.rowOf (enc := encI64) (L := gNums g) 2 rfl (fun _ => rfl)) rfl (by simp) (fun i k n hk hn => putOk_of (gnums_fit hgg i k n hk hn)) (gpack_take g)|exact refMake_c 1 (by unfold R8; omega) ByteArray.empty (vw w1) _ _ gW (gNums g) w1 (by simp) (Vw.le.refl _) (hm.rowOf 2 rfl (fun _ => rfl)) (hm.rowOf (enc := encI64) (L := gNums g) 1 rfl (fun _ => rfl)) rfl (by simp) (fun i k n hk hn => putOk_of (gnums_fit hgg i k n hk hn)) (gpack_take g)) ?_
        refine h_two 19 20 (by kernel_rfl) ?_ ?_
        ·
          refine h_yield 19 rfl rfl rfl rfl (y_val tok rfl) ?_
          refine h_one 20 (by kernel_rfl) ?_
          refine h_yield 20 rfl rfl rfl rfl (y_val tok rfl) ?_
          refine h_one 21 (by kernel_rfl) ?_
          refine h_yield 21 rfl rfl rfl rfl (y_val tok rfl) ?_
          refine h_one 22 (by kernel_rfl) ?_
          refine h_yield 22 rfl rfl rfl rfl (y_val tok rfl) ?_
          refine h_done [2, 3] (by kernel_rfl) rfl ?_
          exact x_meet () trivial (by repeat (first | exact SubF.nil | refine SubF.cons rfl ?_)) (by repeat (first | exact SubO.nil | refine SubO.cons rfl ?_)) rfl (Vw.le.refl _)
        ·
          refine h_yield 20 rfl rfl rfl rfl (y_val tok rfl) ?_
          refine h_one 19 (by kernel_rfl) ?_
          refine h_yield 19 rfl rfl rfl rfl (y_val tok rfl) ?_
          refine h_one 21 (by kernel_rfl) ?_
          refine h_yield 21 rfl rfl rfl rfl (y_val tok rfl) ?_
          refine h_one 22 (by kernel_rfl) ?_
          refine h_yield 22 rfl rfl rfl rfl (y_val tok rfl) ?_
          refine h_done [2, 3] (by kernel_rfl) rfl ?_
          exact x_meet () trivial (by repeat (first | exact SubF.nil | refine SubF.cons rfl ?_)) (by repeat (first | exact SubO.nil | refine SubO.cons rfl ?_)) rfl (Vw.le.refl _)
      ·
        refine h_to 17 rfl rfl rfl rfl rfl rfl (s_bs tok 1 rfl rfl rfl) (.inr fun _ _ => ⟨(by repeat (first | exact SubO.nil | refine SubO.cons rfl ?_)), rfl, (by first | exact Vw.le.refl _ | assumption)⟩) (fun _ _ => ?_)
        refine h_one 0 (by kernel_rfl) ?_
        refine h_to 0 rfl rfl rfl rfl rfl rfl (s_callRow 3 1 gW.length (gW.flatMap encI64) rfl fnok49 (fun E w1 hm => rwidths_c w1)) (.inr fun _ _ => ⟨(by repeat (first | exact SubO.nil | refine SubO.cons rfl ?_)), rfl, (by first | exact Vw.le.refl _ | assumption)⟩) (fun _ _ => ?_)
        refine h_one 18 (by kernel_rfl) ?_
        refine h_call 18 (.tup [.v (S (gMk g).1), .v (I (gMk g).2)]) rfl rfl rfl fnok48 rfl rfl rfl (fun hg E w1 hm => by first|exact refMake_c 1 (by unfold R8; omega) ByteArray.empty (vw w1) _ _ gW (gNums g) w1 (by simp) (Vw.le.refl _) (hm.rowOf 1 rfl (fun _ => rfl)) (hm.rowOf (enc := encI64) (L := gNums g) 2 rfl (fun _ => rfl)) rfl (by simp) (fun i k n hk hn => putOk_of (gnums_fit hgg i k n hk hn)) (gpack_take g)|exact refMake_c 1 (by unfold R8; omega) ByteArray.empty (vw w1) _ _ gW (gNums g) w1 (by simp) (Vw.le.refl _) (hm.rowOf 2 rfl (fun _ => rfl)) (hm.rowOf (enc := encI64) (L := gNums g) 1 rfl (fun _ => rfl)) rfl (by simp) (fun i k n hk hn => putOk_of (gnums_fit hgg i k n hk hn)) (gpack_take g)) ?_
        refine h_two 19 20 (by kernel_rfl) ?_ ?_
        ·
          refine h_yield 19 rfl rfl rfl rfl (y_val tok rfl) ?_
          refine h_one 20 (by kernel_rfl) ?_
          refine h_yield 20 rfl rfl rfl rfl (y_val tok rfl) ?_
          refine h_one 21 (by kernel_rfl) ?_
          refine h_yield 21 rfl rfl rfl rfl (y_val tok rfl) ?_
          refine h_one 22 (by kernel_rfl) ?_
          refine h_yield 22 rfl rfl rfl rfl (y_val tok rfl) ?_
          refine h_done [2, 3] (by kernel_rfl) rfl ?_
          exact x_meet () trivial (by repeat (first | exact SubF.nil | refine SubF.cons rfl ?_)) (by repeat (first | exact SubO.nil | refine SubO.cons rfl ?_)) rfl (Vw.le.refl _)
        ·
          refine h_yield 20 rfl rfl rfl rfl (y_val tok rfl) ?_
          refine h_one 19 (by kernel_rfl) ?_
          refine h_yield 19 rfl rfl rfl rfl (y_val tok rfl) ?_
          refine h_one 21 (by kernel_rfl) ?_
          refine h_yield 21 rfl rfl rfl rfl (y_val tok rfl) ?_
          refine h_one 22 (by kernel_rfl) ?_
          refine h_yield 22 rfl rfl rfl rfl (y_val tok rfl) ?_
          refine h_done [2, 3] (by kernel_rfl) rfl ?_
          exact x_meet () trivial (by repeat (first | exact SubF.nil | refine SubF.cons rfl ?_)) (by repeat (first | exact SubO.nil | refine SubO.cons rfl ?_)) rfl (Vw.le.refl _)
    rintro ⟨⟩ -
    refine x_then ?_
    refine c_ret ?_
    refine b_ret tok rfl ?_
    intro E w' hm _
    refine ⟨?_, hm.below (Vw.le.refl _)⟩
    rw [gbV, gbE, if_pos hgg, if_pos hgg, gMk, gseal]; rfl

def Geo.eqB (a b : Geo) : Bool := a.nodes == b.nodes && (a.slots == b.slots && (a.blocks == b.blocks && (a.per == b.per && (a.journal == b.journal && (a.log == b.log && (a.lease == b.lease && a.wait == b.wait))))))

end Go.Proofs.Ytipmgnhbcaniiaa

/- A device's first sectors: the document's. -/
set_option linter.unusedVariables false
set_option linter.unusedSimpArgs false
set_option maxRecDepth 100000
namespace Go.Proofs.Ytipmgnhbcaniiaa
open Go Go.Eng Go.RowKit

def fmtTo (g : Geo) (top hd : ByteArray) : Nat → List ByteArray
  | 0 => (List.replicate (totV g).toNat ByteArray.empty).set 0 top
  | i + 1 => (fmtTo g top hd i).set (headV g (i : Int)).toNat hd

theorem fmtTo_len (g : Geo) (top hd : ByteArray) : ∀ i, (fmtTo g top hd i).length = (totV g).toNat
  | 0 => by simp [fmtTo]
  | i + 1 => by rw [fmtTo, List.length_set, fmtTo_len g top hd i]

theorem head_in {g : Geo} (hg : geoB g = true) {i : Nat} (hi : (i : Int) < g.slots) : ∃ q : Nat, headV g (i : Int) = (q : Int) ∧ (q : Int) < totV g := by
  have hf := geo_facts hg
  have hh : headV g (i : Int) = 1 + 2 * g.nodes + g.log + (i : Int) * (1 + g.journal) := by rw [headV, if_pos ⟨hg, by omega, hi⟩]
  have ht : totV g = dataAt g + g.blocks * g.per := by rw [totV, if_pos hg]
  have hd : dataAt g = 1 + 2 * g.nodes + g.log + g.slots * (1 + g.journal) := rfl
  have h1 : 0 ≤ (i : Int) * (1 + g.journal) := Int.mul_nonneg (by omega) (by omega)
  have h2 : ((i : Int) + 1) * (1 + g.journal) ≤ g.slots * (1 + g.journal) := Int.mul_le_mul_of_nonneg_right (by omega) (by omega)
  have h3 : 0 ≤ g.blocks * g.per := Int.mul_nonneg (by omega) (by omega)
  rw [Int.add_mul] at h2
  exact ⟨(headV g (i : Int)).toNat, by omega, by omega⟩

theorem rformat_c (g : Geo) (ok : g.Ok) (hd : ByteArray) (hh : ∀ w : World, Calls Try.prog 23 #[I 0] w fun e w' => e = .returned (.tuple #[S hd, I 0]) ∧ Below w.heap.size w w') (w : World) :
    Calls Try.prog 7 #[g.val] w fun e w' => ((geoB g = true ∧ ∃ v, e = .returned (.tuple #[v, I 0]) ∧ w'.ownsRow w.heap.size 9 1 v (totV g).toNat ((fmtTo g (gbV g) hd g.slots.toNat).flatMap encS)) ∨
      (geoB g = false ∧ e = .returned (.tuple #[.slice none 0 0, I 40]))) ∧ Below w.heap.size w w' := by
  refine enter (E := E0) (O := []) (nl := 0) (V := vw w) [.a (.v g.val)] Try.func7 rfl rfl (mem0 E0 0 w) rfl rfl ?_
  refine c_seq ?_
  refine c_region ?_
  refine o_new tok rfl rfl rfl rfl ?_
  refine o_yield rfl rfl rfl (y_val tok rfl) ?_
  refine o_yield rfl rfl rfl (y_val tok rfl) ?_
  refine o_end [1] rfl ?_
  refine x_then ?_
  refine c_seq ?_
  refine c_region ?_
  refine o_yield rfl rfl rfl (y_val tok rfl) ?_
  refine o_call (.a (.v _)) rfl rfl fnok22 rfl rfl rfl (fun hg E w1 hm => by exact rsbytes_c g ok _) ?_
  refine o_yield rfl rfl rfl (y_val tok rfl) ?_
  refine o_yield rfl rfl rfl (y_val tok rfl) ?_
  refine o_yield rfl rfl rfl (y_val tok rfl) ?_
  refine o_yield rfl rfl rfl (y_val tok rfl) ?_
  refine o_yield rfl rfl rfl (y_val tok rfl) ?_
  refine o_end [1, 4, 5] rfl ?_
  refine x_then ?_
  refine c_seq ?_
  refine c_seq ?_
  refine c_region ?_
  refine o_yield rfl rfl rfl (y_val tok rfl) ?_
  refine o_yield rfl rfl rfl (y_val tok rfl) ?_
  refine o_end [1, 4, 5, 16] rfl ?_
  refine x_then ?_
  refine c_cond rfl (fun h => ?_) (fun h => ?_)
  ·
    simp only [Bool.and_eq_true, Bool.or_eq_true, Bool.not_eq_true', Bool.or_eq_false_iff, Bool.and_eq_false_iff, decide_eq_true_eq, decide_eq_false_iff_not, beq_iff_eq, bne_iff_ne, Bool.not_eq_false', beq_eq_false_iff_ne, bne_eq_false_iff_eq, ne_eq, Decidable.not_not, Int.not_lt, Int.not_le] at h
    refine c_seq ?_
    refine c_region ?_
    refine o_yield rfl rfl rfl (y_val tok rfl) ?_
    refine o_yield rfl rfl rfl (y_val tok rfl) ?_
    refine o_yield rfl rfl rfl (y_val tok rfl) ?_
    refine o_end [2, 3] rfl ?_
    refine x_then ?_
    refine c_ret ?_
    refine x_then_ret ?_
    refine b_ret tok rfl ?_
    intro E w' hm _
    have hg : geoB g = false := by
      cases hq : geoB g with
      | false => rfl
      | true => rw [gbE, if_pos hq] at h; exact absurd rfl h
    refine ⟨.inr ⟨hg, ?_⟩, hm.below (Vw.le.refl _)⟩
    rw [gbE, hg]
    rfl
  ·
    simp only [Bool.and_eq_true, Bool.or_eq_true, Bool.not_eq_true', Bool.or_eq_false_iff, Bool.and_eq_false_iff, decide_eq_true_eq, decide_eq_false_iff_not, beq_iff_eq, bne_iff_ne, Bool.not_eq_false', beq_eq_false_iff_ne, bne_eq_false_iff_eq, ne_eq, Decidable.not_not, Int.not_lt, Int.not_le] at h
    have hg : geoB g = true := by
      cases hq : geoB g with
      | true => rfl
      | false => rw [gbE, hq] at h; simp at h
    clear h
    have hf := geo_facts hg
    have hs := geo_sizes hg
    have htt : totV g = dataAt g + g.blocks * g.per := by rw [totV, if_pos hg]
    obtain ⟨tot, htot⟩ : ∃ t : Nat, totV g = (t : Int) := ⟨(totV g).toNat, by omega⟩
    have htn : (totV g).toNat = tot := by omega
    refine c_skip ?_
    refine x_then ?_
    refine c_seq ?_
    refine c_region ?_
    refine o_call (.a (.v _)) rfl rfl fnok23 rfl rfl rfl (fun hg E w1 hm => by exact hh _) ?_
    refine o_yield rfl rfl rfl (y_val tok rfl) ?_
    refine o_yield rfl rfl rfl (y_val tok rfl) ?_
    refine o_yield rfl rfl rfl (y_val tok rfl) ?_
    refine o_yield rfl rfl rfl (y_val tok rfl) ?_
    refine o_yield rfl rfl rfl (y_val tok rfl) ?_
    refine o_end [1, 4, 6] rfl ?_
    refine x_then ?_
    refine c_seq ?_
    refine c_region ?_
    refine o_yield rfl rfl rfl (y_val tok rfl) ?_
    refine o_call (.a (.v _)) rfl rfl fnok24 rfl rfl rfl (fun hg E w1 hm => by exact refTotal_c g ok _) ?_
    rw [htot]
    have hpos : 0 < tot := by omega
    have htb : tot ≤ 4000 := by omega
    obtain ⟨sl, hsl⟩ : ∃ sl : Nat, g.slots = sl := ⟨g.slots.toNat, by omega⟩
    have hsn : g.slots.toNat = sl := by omega
    refine o_step rfl rfl rfl rfl rfl (s_mk tok tot tot rfl rfl rfl (Nat.le_refl _) (by dsimp only; omega) (by simp only [maxLen]; omega)) (fun _ _ => ?_)
    refine o_yield rfl rfl rfl (y_val tok rfl) ?_
    refine o_end [1, 4, 6, 8] rfl ?_
    refine x_then ?_
    refine c_seq ?_
    refine c_region ?_
    refine o_yield rfl rfl rfl (y_val tok rfl) ?_
    refine o_yield rfl rfl rfl (y_val tok rfl) ?_
    rw [show (repZ tot _ : List Value) = _ from repZ_flat (enc := encS) ByteArray.empty tot]
    refine o_yield rfl rfl rfl (y_own (s := .a (.rel 1 0)) 1 rfl rfl (fun v V' hv => y_idxK tok 0 rfl (by simp) (fun hg => hv) (fun hg => by omega))) ?_
    refine o_stepN rfl rfl rfl rfl (s_rst tok rfl rfl (by intro u hu; simp only [List.mem_singleton] at hu; subst hu; rfl) (by simp only [List.length_singleton]; omega) (by omega)) (fun _ _ => ?_)
    refine o_end [1, 6, 8] rfl ?_
    refine x_then ?_
    refine c_seq ?_
    refine c_seq ?_
    refine c_region ?_
    refine o_yield rfl rfl rfl (y_val tok rfl) ?_
    refine o_end [1, 6, 8, 9] rfl ?_
    refine x_then ?_
    refine c_block ?_
    have hset := overL_set (enc := encS) (sz := 1) (fun _ => rfl) (List.replicate tot ByteArray.empty) 0 (gbV g) (by simpa using hpos)
    have hf0 : (List.replicate tot ByteArray.empty).set 0 (gbV g) = fmtTo g (gbV g) hd 0 := by rw [fmtTo, htn]
    rw [Nat.zero_mul] at hset
    rw [show overL 0 [Value.string _] _ = _ from hset, hf0]
    refine c_loopK [1, 6, 8] [1, 0] rfl rfl (σ := Nat) (fun i => [(9, .a (.v (I i)))]) (fun i => [(1, .row 9 1 tot ((fmtTo g (gbV g) hd i).flatMap encS)), (0, .lit (g.cells.map .v) 23)]) (fun i => i ≤ sl) (fun i => sl - i) (0) (by omega) (by repeat (first | exact SubF.nil | refine SubF.cons rfl ?_)) (by repeat (first | exact SubO.nil | refine SubO.cons rfl ?_)) rfl ?_
    rintro i hi
    refine c_seq ?_
    refine c_seq ?_
    refine c_region ?_
    refine o_yield rfl rfl rfl (y_val tok rfl) ?_
    refine o_yield rfl rfl rfl (y_val tok rfl) ?_
    refine o_yield rfl rfl rfl (y_val tok rfl) ?_
    refine o_yield rfl rfl rfl (y_val tok rfl) ?_
    refine o_end [1, 6, 8, 9, 31] rfl ?_
    refine x_then ?_
    refine c_cond rfl (fun h => ?_) (fun h => ?_)
    ·
      simp only [Bool.and_eq_true, Bool.or_eq_true, Bool.not_eq_true', Bool.or_eq_false_iff, Bool.and_eq_false_iff, decide_eq_true_eq, decide_eq_false_iff_not, beq_iff_eq, bne_iff_ne, Bool.not_eq_false', beq_eq_false_iff_ne, bne_eq_false_iff_eq, ne_eq, Decidable.not_not, Int.not_lt, Int.not_le] at h
      refine c_skip ?_
      refine x_then ?_
      refine c_seq ?_
      refine c_block ?_
      refine c_region ?_
      refine o_yield rfl rfl rfl (y_val tok rfl) ?_
      refine o_yield rfl rfl rfl (y_val tok rfl) ?_
      refine o_yield rfl rfl rfl (y_val tok rfl) ?_
      obtain ⟨q, hq, hqt⟩ := head_in hg (i := i) (by omega)
      have hfl := fmtTo_len g (gbV g) hd i
      refine o_call (.a (.v _)) rfl rfl fnok25 rfl rfl rfl (fun hg E w1 hm => by exact refHead_c g ok i _) ?_
      refine o_yield rfl rfl rfl (y_val tok rfl) ?_
      rw [hq]
      refine o_yield rfl rfl rfl (y_own (s := .a (.rel 1 q)) 1 rfl rfl (fun v V' hv => y_idxK tok q rfl (by simp) (fun hg => hv) (fun hg => by omega))) ?_
      refine o_stepN rfl rfl rfl rfl (s_rst tok rfl rfl (by intro u hu; simp only [List.mem_singleton] at hu; subst hu; rfl) (by simp only [List.length_singleton]; omega) (by omega)) (fun _ _ => ?_)
      refine o_end [1, 6, 8, 9] rfl ?_
      refine x_block ?_
      refine x_then ?_
      refine c_region ?_
      refine o_yield rfl rfl rfl (y_val tok rfl) ?_
      refine o_yield rfl rfl rfl (y_val tok rfl) ?_
      refine o_yield rfl rfl rfl (y_val tok rfl) ?_
      refine o_end [1, 6, 8, 9] rfl ?_
      refine x_then ?_
      have hset := overL_set (enc := encS) (sz := 1) (fun _ => rfl) (fmtTo g (gbV g) hd i) q hd (by rw [hfl]; omega)
      have hfs : (fmtTo g (gbV g) hd i).set q hd = fmtTo g (gbV g) hd (i + 1) := by rw [fmtTo, hq]; simp
      rw [Nat.mul_one, hfs] at hset
      rw [show overL q [Value.string _] _ = _ from hset, wrapI (n := (i : Int) + 1) (by omega) (by omega)]
      refine x_round (i + 1) (by omega) (by first | omega | (dsimp only; omega)) (by repeat (first | exact SubF.nil | refine SubF.cons rfl ?_)) (by repeat (first | exact SubO.nil | refine SubO.cons rfl ?_)) rfl (Vw.le.refl _)
    ·
      simp only [Bool.and_eq_true, Bool.or_eq_true, Bool.not_eq_true', Bool.or_eq_false_iff, Bool.and_eq_false_iff, decide_eq_true_eq, decide_eq_false_iff_not, beq_iff_eq, bne_iff_ne, Bool.not_eq_false', beq_eq_false_iff_ne, bne_eq_false_iff_eq, ne_eq, Decidable.not_not, Int.not_lt, Int.not_le] at h
      refine c_exit ?_
      refine x_then_exit ?_
      refine x_then_exit ?_
      refine x_block_hit ?_
      refine x_then ?_
      refine c_seq ?_
      refine c_region ?_
      refine o_yield rfl rfl rfl (y_val tok rfl) ?_
      refine o_yield rfl rfl rfl (y_val tok rfl) ?_
      refine o_yield rfl rfl rfl (y_val tok rfl) ?_
      refine o_end [2, 3] rfl ?_
      refine x_then ?_
      refine c_ret ?_
      refine b_ret tok rfl ?_
      have his : i = sl := by omega
      subst his
      intro E w' hm _
      refine ⟨.inl ⟨hg, E.κ 1, rfl, ?_⟩, hm.below (Vw.le.refl _)⟩
      rw [Int.toNat_natCast, hsn]
      exact hm.rowFresh (Vw.le.refl _) (l := 1) rfl
end Go.Proofs.Ytipmgnhbcaniiaa

/- Texts put together. -/
set_option linter.unusedVariables false
set_option linter.unusedSimpArgs false
set_option maxRecDepth 100000
namespace Go.Proofs.Ytipmgnhbcaniiaa
open Go Go.Eng Go.RowKit

/-- Texts one behind the other. -/
def catL (l : List ByteArray) : List UInt8 := l.flatMap fun s => s.data.toList
def catS (l : List ByteArray) : ByteArray := strOf (catL l)

theorem join_plain (l : List ByteArray) : Lib.join (l.map (·.data.toList)) (ByteArray.empty).data.toList = catL l := by
  cases l with
  | nil => rfl
  | cons x r =>
    rw [List.map_cons, Lib.join_cons]
    simp only [Lib.joinTail, catL, List.flatMap_cons]
    congr 1
    induction r with
    | nil => rfl
    | cons y r ih => simp at ih ⊢; rw [← ih]

theorem flat_strs : ∀ l : List ByteArray, l.flatMap encS = l.map Value.string
  | [] => rfl
  | x :: r => by rw [List.flatMap_cons, flat_strs r]; rfl

theorem join_c (V : Vw) (sv : Value) (l : List ByteArray) (w : World) (hV : V.le (vw w)) (hs : SlOf V encS 1 sv l) (hn : l.length ≤ 140737488355328) (hc : (catL l).length ≤ 140737488355328) :
    Calls Try.prog 45 #[sv, S ByteArray.empty] w fun e w' => e = .returned (S (catS l)) ∧ Below w.heap.size w w' := by
  rcases hs.sl.2 with ⟨a, c, rfl, h0⟩ | ⟨b, off, cap, cs, e, fz, rfl, hb, hle, hx, hcap⟩
  · have : l = [] := List.eq_nil_of_length_eq_zero h0
    subst this
    exact (Try.strings_Join_none a c ByteArray.empty w).mono fun e w' ⟨he, hw⟩ => ⟨he, hw ▸ Below.refl _ _⟩
  · have hbw := hV.get _ _ hb
    have hlt : b < w.heap.size := (Array.getElem?_eq_some_iff.1 hbw).1
    have key := Try.strings_Join b off cap l ByteArray.empty w (fun j x hj => by
      have h1 := block_cell (w := w) (b := b) (off := off) (e := e) (fz := fz) (cs := cs) (k := l.length * 1) (xs := l.flatMap encS) hbw hx j (.string x) (by
        rw [flat_strs, List.getElem?_map, hj]; rfl)
      rwa [Addr.add_lit] at h1) hlt hn hcap (by rw [join_plain]; exact hc)
    rw [join_plain] at key
    exact key
end Go.Proofs.Ytipmgnhbcaniiaa

/- The way of a fetching: the program's. -/
set_option linter.unusedVariables false
set_option linter.unusedSimpArgs false
set_option maxRecDepth 100000
namespace Go.Proofs.Ytipmgnhbcaniiaa
open Go Go.Eng Go.RowKit

abbrev wayC (f : Fetching) (g : Geo) : List Value := f.cells ++ g.cells

theorem wend_c (f : Fetching) (g : Geo) (b : Nat) (w : World) (hb : w.heap[b]? = some (.cells (wayC f g).toArray 91 (0, 0))) :
    Calls Try.prog 40 #[.pointer (some ⟨b, 0, none⟩)] w fun e w' => e = .returned (.bool (decide (g.per ≤ f.k))) ∧ Below w.heap.size w w' := by
  refine enter1 [.a (.ptr 0 0)] hb Try.func40 rfl rfl rfl rfl ?_
  refine c_seq ?_
  refine c_region ?_
  refine o_yield rfl rfl rfl (y_val tok rfl) ?_
  refine o_end [0] rfl ?_
  refine x_then ?_
  refine c_seq ?_
  refine c_draw mixed (by kernel_rfl) ?_
  refine d_yield rfl rfl rfl (y_val tok rfl) rfl ?_
  refine d_yield rfl rfl rfl (y_val tok rfl) rfl ?_
  refine d_yield rfl rfl rfl (y_val tok rfl) rfl ?_
  refine d_yield rfl rfl rfl (y_val tok rfl) rfl ?_
  refine d_yield rfl rfl rfl (y_val tok rfl) rfl ?_
  refine d_yield rfl rfl rfl (y_val tok rfl) rfl ?_
  refine d_yield rfl rfl rfl (y_val tok rfl) rfl ?_
  refine d_yield rfl rfl rfl (y_val tok rfl) rfl ?_
  refine d_yield rfl rfl rfl (y_val tok rfl) rfl ?_
  refine d_yield rfl rfl rfl (y_val tok rfl) rfl ?_
  refine d_yield rfl rfl rfl (y_val tok rfl) rfl ?_
  refine d_yield rfl rfl rfl (y_val tok rfl) rfl ?_
  refine d_end [2] rfl ?_
  refine x_then ?_
  refine c_ret ?_
  refine b_ret tok rfl ?_
  intro E w' hm _
  exact ⟨rfl, below1 hb hm (Vw.le.refl _) rfl rfl rfl⟩
end Go.Proofs.Ytipmgnhbcaniiaa

/- Fetching a block: the program's. -/
set_option linter.unusedVariables false
set_option linter.unusedSimpArgs false
set_option maxRecDepth 100000
namespace Go.Proofs.Ytipmgnhbcaniiaa
open Go Go.Eng Go.RowKit

theorem sl_shape' {V : Vw} {v : Value} {sz m : Nat} {xs : List Value} (h : IsSl V v sz m xs) : ∃ a c, v = .slice a m c ∧ m ≤ c ∧ IsSl V (.slice a m m) sz m xs := by
  rcases h with ⟨h0, ⟨a, c, rfl, rfl⟩ | ⟨b, off, cap, cs, e, f, rfl, hg, hle, hx, hc⟩⟩
  · exact ⟨a, c, rfl, Nat.zero_le _, h0, .inl ⟨a, 0, rfl, rfl⟩⟩
  · exact ⟨_, cap, rfl, hc, h0, .inr ⟨b, off, m, cs, e, f, rfl, hg, hle, hx, Nat.le_refl _⟩⟩

def nextV (f : Fetching) (g : Geo) : Int := if g.per ≤ f.k then -1 else dataV g f.block f.k

theorem wnext_c (f : Fetching) (g : Geo) (ok : g.Ok) (b : Nat) (w : World) (hb : w.heap[b]? = some (.cells (wayC f g).toArray 91 (0, 0))) :
    Calls Try.prog 39 #[.pointer (some ⟨b, 0, none⟩)] w fun e w' => e = .returned (I (nextV f g)) ∧ Below w.heap.size w w' := by
  refine enter1 [.a (.ptr 0 0)] hb Try.func39 rfl rfl rfl rfl ?_
  refine c_seq ?_
  refine c_region ?_
  refine o_yield rfl rfl rfl (y_val tok rfl) ?_
  refine o_end [0] rfl ?_
  refine x_then ?_
  refine c_seq ?_
  refine c_seq ?_
  refine c_region ?_
  refine o_yield rfl rfl rfl (y_val tok rfl) ?_
  refine o_call (.a (.v _)) rfl rfl fnok40 rfl rfl rfl (fun hg E w1 hm => by exact wend_c f g _ _ (hm.lit 0 _ _ rfl)) ?_
  refine o_end [0, 4] rfl ?_
  refine x_then ?_
  refine c_cond rfl (fun h => ?_) (fun h => ?_)
  ·
    simp only [Bool.and_eq_true, Bool.or_eq_true, Bool.not_eq_true', Bool.or_eq_false_iff, Bool.and_eq_false_iff, decide_eq_true_eq, decide_eq_false_iff_not, beq_iff_eq, bne_iff_ne, Bool.not_eq_false', beq_eq_false_iff_ne, bne_eq_false_iff_eq, ne_eq, Decidable.not_not, Int.not_lt, Int.not_le] at h
    refine c_seq ?_
    refine c_region ?_
    refine o_yield rfl rfl rfl (y_val tok rfl) ?_
    refine o_end [2] rfl ?_
    refine x_then ?_
    refine c_ret ?_
    refine x_then_ret ?_
    refine b_ret tok rfl ?_
    intro E w' hm _
    refine ⟨?_, below1 hb hm (Vw.le.refl _) rfl rfl rfl⟩
    rw [nextV, if_pos h]; rfl
  ·
    simp only [Bool.and_eq_true, Bool.or_eq_true, Bool.not_eq_true', Bool.or_eq_false_iff, Bool.and_eq_false_iff, decide_eq_true_eq, decide_eq_false_iff_not, beq_iff_eq, bne_iff_ne, Bool.not_eq_false', beq_eq_false_iff_ne, bne_eq_false_iff_eq, ne_eq, Decidable.not_not, Int.not_lt, Int.not_le] at h
    refine c_skip ?_
    refine x_then ?_
    refine c_seq ?_
    refine c_draw mixed (by kernel_rfl) ?_
    refine d_yield rfl rfl rfl (y_val tok rfl) rfl ?_
    refine d_yield rfl rfl rfl (y_val tok rfl) rfl ?_
    refine d_yield rfl rfl rfl (y_val tok rfl) rfl ?_
    refine d_yield rfl rfl rfl (y_val tok rfl) rfl ?_
    refine d_yield rfl rfl rfl (y_val tok rfl) rfl ?_
    refine d_yield rfl rfl rfl (y_val tok rfl) rfl ?_
    refine d_yield rfl rfl rfl (y_val tok rfl) rfl ?_
    refine d_yield rfl rfl rfl (y_val tok rfl) rfl ?_
    refine d_yield rfl rfl rfl (y_val tok rfl) rfl ?_
    refine d_yield rfl rfl rfl (y_val tok rfl) rfl ?_
    refine d_yield rfl rfl rfl (y_val tok rfl) rfl ?_
    refine d_yield rfl rfl rfl (y_val tok rfl) rfl ?_
    refine d_yield rfl rfl rfl (y_val tok rfl) rfl ?_
    refine d_yield rfl rfl rfl (y_val tok rfl) rfl ?_
    refine d_call (.a (.v _)) rfl rfl fnok38 rfl rfl rfl (fun hg E w1 hm => by exact data_c g ok _ _ _) ?_
    refine d_yield rfl rfl rfl (y_val tok rfl) rfl ?_
    refine d_end [2] rfl ?_
    refine x_then ?_
    refine c_ret ?_
    refine b_ret tok rfl ?_
    intro E w' hm _
    refine ⟨?_, below1 hb hm (Vw.le.refl _) rfl rfl rfl⟩
    rw [nextV, if_neg (by omega)]; rfl

theorem wput_c (bk k : Int) (g : Geo) (v lv : Value) (L : List ByteArray) (got : ByteArray) (b : Nat) (w : World) (hb : w.heap[b]? = some (.cells (wayC ⟨bk, k, ⟨v, L⟩⟩ g).toArray 91 (0, 0)))
    (hs0 : SlOf ((vw w).del b) encS 1 v L) (hl0 : SlOf ((vw w).del b) encS 1 lv [got]) (hn : L.length ≤ 1099511627776) :
    Calls Try.prog 41 #[.pointer (some ⟨b, 0, none⟩), lv] w fun e w' => e = .returned (.tuple #[]) ∧ ∃ v', Go.Eng.Touch (· = b) w w' ∧ w'.ownsRow w.heap.size 9 1 v' (L ++ [got]).length ((L ++ [got]).flatMap encS) ∧
      w'.heap[b]? = some (.cells (wayC ⟨bk, IntKind.i64.wrap (k + 1), ⟨v', []⟩⟩ g).toArray 91 (0, 0)) := by
  obtain ⟨a, c, rfl, hlc, hcut⟩ := sl_shape' hs0.sl
  have hw : IntKind.i64.wrap (((L.length : Nat) : Int)) = (L.length : Int) := wrapI (by omega) (by omega)
  refine enter1 [.a (.ptr 0 0), .a (.v lv)] hb Try.func41 rfl rfl rfl rfl ?_
  refine c_seq ?_
  refine c_heldS [24] mixed rfl (by repeat (first | exact SubO.nil | refine SubO.cons rfl ?_)) (by first | rfl | simp [okCels, allOk_plain]) ?_
  refine t_takeD 0 rfl (by kernel_rfl) rfl rfl rfl (y_val tok rfl) rfl ?_
  refine t_takeD 1 rfl (by kernel_rfl) rfl rfl rfl (y_val tok rfl) rfl ?_
  refine t_takeD 2 rfl (by kernel_rfl) rfl rfl rfl (y_val tok rfl) rfl ?_
  refine t_takeD 3 rfl (by kernel_rfl) rfl rfl rfl (y_val tok rfl) rfl ?_
  refine t_takeD 4 rfl (by kernel_rfl) rfl rfl rfl (y_val tok rfl) rfl ?_
  refine t_takeD 5 rfl (by kernel_rfl) rfl rfl rfl (y_val tok rfl) rfl ?_
  refine t_takeD 6 rfl (by kernel_rfl) rfl rfl rfl (y_val tok rfl) rfl ?_
  refine t_takeD 7 rfl (by kernel_rfl) rfl rfl rfl (y_val tok rfl) rfl ?_
  refine t_takeD 8 rfl (by kernel_rfl) rfl rfl rfl (y_val tok rfl) rfl ?_
  refine t_takeD 9 rfl (by kernel_rfl) rfl rfl rfl (y_val tok rfl) rfl ?_
  refine t_takeD 10 rfl (by kernel_rfl) rfl rfl rfl (y_val tok rfl) rfl ?_
  have hs := hs0
  have hl := hl0
  refine t_takeD 11 rfl (by kernel_rfl) rfl rfl rfl (y_len tok rfl (fun hg => hs.sl)) rfl ?_
  refine t_takeD 12 rfl (by kernel_rfl) rfl rfl rfl (y_val tok rfl) rfl ?_
  refine t_takeD 13 rfl (by kernel_rfl) rfl rfl rfl (y_val tok rfl) rfl ?_
  refine t_takeD 14 rfl (by kernel_rfl) rfl rfl rfl (y_val tok rfl) rfl ?_
  refine t_takeD 15 rfl (by kernel_rfl) rfl rfl rfl (y_val tok rfl) rfl ?_
  refine t_takeD 16 rfl (by kernel_rfl) rfl rfl rfl (y_val tok rfl) rfl ?_
  refine t_takeD 17 rfl (by kernel_rfl) rfl rfl rfl (y_len tok rfl (fun hg => hs.sl)) rfl ?_
  refine t_takeD 18 rfl (by kernel_rfl) rfl rfl rfl (y_sl3 tok rfl (fun hg => ⟨by omega, by omega, by omega⟩)) rfl ?_
  refine t_takeD 19 rfl (by kernel_rfl) rfl rfl rfl (y_val tok rfl) rfl ?_
  refine t_go ?_
  refine h_one 20 (by kernel_rfl) ?_
  rw [Int.toNat_natCast]
  refine h_to 20 rfl rfl rfl rfl rfl rfl (s_appV tok ([got].flatMap encS) rfl hcut (fun E w1 hm => hl.sl.src hm.get) (by simp) (by dsimp only; simp only [List.length_singleton]; omega)) (.inr fun _ _ => ⟨(by repeat (first | exact SubO.nil | refine SubO.cons rfl ?_)), rfl, (by first | exact Vw.le.refl _ | assumption)⟩) (fun _ _ => ?_)
  refine h_one 21 (by kernel_rfl) ?_
  refine h_yield 21 rfl rfl rfl rfl (y_val tok rfl) ?_
  refine h_one 22 (by kernel_rfl) ?_
  refine h_yield 22 rfl rfl rfl rfl (y_val tok rfl) ?_
  refine h_one 23 (by kernel_rfl) ?_
  refine h_yield 23 rfl rfl rfl rfl (y_val tok rfl) ?_
  refine h_one 24 (by kernel_rfl) ?_
  refine h_store 24 tok rfl rfl rfl rfl (by first | exact ⟨trivial, trivial⟩ | (repeat' first | exact trivial | exact rfl | apply And.intro); done | simp [onesP, oneP, lk, Value.oneCell']) (.inl rfl) ?_
  refine h_done [0, 1] (by kernel_rfl) rfl ?_
  refine x_then ?_
  refine c_region ?_
  refine o_yield rfl rfl rfl (y_val tok rfl) ?_
  refine o_yield rfl rfl rfl (y_val tok rfl) ?_
  refine o_yield rfl rfl rfl (y_val tok rfl) ?_
  refine o_yield rfl rfl rfl (y_val tok rfl) ?_
  refine o_yield rfl rfl rfl (y_val tok rfl) ?_
  refine o_yield rfl rfl rfl (y_val tok rfl) ?_
  refine o_yield rfl rfl rfl (y_len tok rfl (fun hg => hl.sl)) ?_
  refine o_yield rfl rfl rfl (y_val tok rfl) ?_
  refine o_yield rfl rfl rfl (y_val tok rfl) ?_
  refine o_yield rfl rfl rfl (y_val tok rfl) ?_
  refine o_yield rfl rfl rfl (y_val tok rfl) ?_
  refine o_store tok rfl rfl rfl (by first | exact ⟨trivial, trivial⟩ | (repeat' first | exact trivial | exact rfl | apply And.intro); done | simp [onesP, oneP, lk, Value.oneCell']) ?_
  refine o_end [] rfl ?_
  refine b_end tok rfl ?_
  intro E w' hm _
  obtain ⟨h1, h2⟩ := back1 hm (Vw.le.refl _) rfl rfl rfl
  refine ⟨rfl, E.κ 3, h1, ?_, ?_⟩
  · have hrow := hm.rowFreshD (Vw.le.refl _) (l0 := 0) rfl (hm.pin 1 0 _ rfl).1 (l := 3) rfl
    rw [List.length_append, List.flatMap_append]
    exact hrow
  · rw [h2]
    rfl

section
open Go.Eng
variable {o : Oper} {n : Nat} {F : Frame0} {C : List Nat} {O : Go.Eng.Own} {nl : Nat} {V : Vw}

/-- What was fetched put behind what a way holds. -/
theorem s_wput {p : List (Nat × Bool)} (l r : Nat) (bk k : Int) (g : Geo) (v : Value) (L : List ByteArray) (got : ByteArray) (hv : evalC F p o.op = some (41, [.a (.ptr l 0), .a (.row r)]))
    (hl : lk O l = some (.lit ((wayC ⟨bk, k, ⟨v, L⟩⟩ g).map .v) 91)) (hr : lk O r = some (.row 9 1 [got].length ([got].flatMap encS))) (hs0 : SlOf V encS 1 v L) (hn : L.length ≤ 1099511627776)
    (hx : ∀ E w, Mem E O nl V w → SlOf ((vw w).del (E.ρ l)) encS 1 v L) :
    StepTo Try.prog o p n F C O nl V (σ := Unit) (fun _ => True) (fun _ => .tup []) (fun _ => (l, .lit (.v (I bk) :: .v (I (IntKind.i64.wrap (k + 1))) :: .row nl :: g.cells.map .v) 91) :: (nl, .row 9 1 (L ++ [got]).length ((L ++ [got]).flatMap encS)) :: O) (nl + 1) (fun _ => V) := by
  refine s_callWR (fun _ => True) (fun _ => .tup []) l 91 9 1 (fun _ => (L ++ [got]).length) (fun _ => (L ++ [got]).flatMap encS) (fun _ => .v (I bk) :: .v (I (IntKind.i64.wrap (k + 1))) :: .row nl :: g.cells.map .v) hv fnok41 hl
    (fun _ => by simp only [allOk, A.ok, blt_iff, Bool.and_eq_true, Bool.true_and]; exact ⟨by omega, (den_plain E0 _).2 _⟩) (fun _ => rfl) ?_
  intro E w hm hb
  refine (wput_c bk k g v (E.κ r) L got (E.ρ l) w (by rw [hb, (den_plain E _).1]) (hx E w hm) (hm.rowOfDel (enc := encS) (L := [got]) r hl hr (fun _ => rfl)) hn).mono ?_
  rintro e w' ⟨rfl, v', ht, hown, hv'⟩
  refine ⟨(), v', rfl, ht, hown, ?_, trivial⟩
  rw [hv']
  simp only [List.map_cons, (den_plain _ g.cells).1]
  simp [A.den, Env.setκ, wayC, Fetching.cells]
end

/-- What taking comes to. -/
def FRes (f : Fetching) (g : Geo) (got : ByteArray) (V' : Vw) (x : Value) : Prop :=
  (256 < got.size ∧ x = .tuple #[f.val, I 50]) ∨ (got.size ≤ 256 ∧ g.per ≤ f.k ∧ x = .tuple #[f.val, I 0]) ∨
  (got.size ≤ 256 ∧ f.k < g.per ∧ ∃ a n c, x = .tuple #[.agg #[I f.block, I (IntKind.i64.wrap (f.k + 1)), .slice a n c], I 0] ∧ SlOf V' encS 1 (.slice a n c) (f.parts.l ++ [got]))

theorem ftake_c (V : Vw) (f : Fetching) (g : Geo) (got : ByteArray) (w : World) (hV : V.le (vw w)) (hs0 : SlOf V encS 1 f.parts.v f.parts.l) (hn : f.parts.l.length ≤ 1099511627776) :
    Calls Try.prog 14 #[g.val, f.val, S got] w fun e w' => ∃ x V', e = .returned x ∧ Below w.heap.size w w' ∧ Vext w.heap.size V V' w' ∧ FRes f g got V' x := by
  obtain ⟨bk, k, ⟨v, L⟩⟩ := f
  simp only at hs0 hn
  obtain ⟨a, n, c, rfl⟩ := sl_shape hs0.sl
  have hs := hs0.mono hV
  refine enter (E := E0) (O := []) (nl := 0) (V := vw w) [.a (.v g.val), .a (.v (⟨bk, k, ⟨.slice a n c, L⟩⟩ : Fetching).val), .a (.v (S got))] Try.func14 rfl rfl (mem0 E0 0 w) rfl rfl ?_
  refine c_seq ?_
  refine c_region ?_
  refine o_new tok rfl rfl rfl rfl ?_
  refine o_new tok rfl rfl rfl rfl ?_
  refine o_new tok rfl rfl rfl rfl ?_
  refine o_yield rfl rfl rfl (y_val tok rfl) ?_
  refine o_end [2, 3, 4, 6] rfl ?_
  refine x_then ?_
  refine c_seq ?_
  refine c_region ?_
  refine o_yield rfl rfl rfl (y_val tok rfl) ?_
  refine o_yield rfl rfl rfl (y_val tok rfl) ?_
  refine o_yield rfl rfl rfl (y_val tok rfl) ?_
  refine o_new tok rfl rfl rfl rfl ?_
  refine o_yield rfl rfl rfl (y_val tok rfl) ?_
  refine o_end [2, 4, 6, 8] rfl ?_
  refine x_then ?_
  refine c_seq ?_
  refine c_block ?_
  refine c_seq ?_
  refine c_region ?_
  refine o_yield rfl rfl rfl (y_val tok rfl) ?_
  refine o_yield rfl rfl rfl (y_val tok rfl) ?_
  refine o_yield rfl rfl rfl (y_val tok rfl) ?_
  refine o_yield rfl rfl rfl (y_val tok rfl) ?_
  refine o_end [2, 4, 6, 8, 13] rfl ?_
  refine x_then ?_
  refine c_cond rfl (fun h => ?_) (fun h => ?_)
  ·
    simp only [Bool.and_eq_true, Bool.or_eq_true, Bool.not_eq_true', Bool.or_eq_false_iff, Bool.and_eq_false_iff, decide_eq_true_eq, decide_eq_false_iff_not, beq_iff_eq, bne_iff_ne, Bool.not_eq_false', beq_eq_false_iff_ne, bne_eq_false_iff_eq, ne_eq, Decidable.not_not, Int.not_lt, Int.not_le] at h
    refine c_seq ?_
    refine c_region ?_
    refine o_yield rfl rfl rfl (y_val tok rfl) ?_
    refine o_store tok rfl rfl rfl (by first | exact ⟨trivial, trivial⟩ | (repeat' first | exact trivial | exact rfl | apply And.intro); done | simp [onesP, oneP, lk, Value.oneCell']) ?_
    refine o_yield rfl rfl rfl (y_val tok rfl) ?_
    refine o_end [6, 7] rfl ?_
    refine x_then ?_
    refine c_ret ?_
    refine x_block_ret ?_
    refine x_then_ret ?_
    refine b_ret tok rfl ?_
    intro E w' hm _
    have hb := hm.below (Vw.le.refl _)
    exact ⟨_, V, rfl, hb, Vext.same hV hb, .inl ⟨by omega, rfl⟩⟩
  ·
    simp only [Bool.and_eq_true, Bool.or_eq_true, Bool.not_eq_true', Bool.or_eq_false_iff, Bool.and_eq_false_iff, decide_eq_true_eq, decide_eq_false_iff_not, beq_iff_eq, bne_iff_ne, Bool.not_eq_false', beq_eq_false_iff_ne, bne_eq_false_iff_eq, ne_eq, Decidable.not_not, Int.not_lt, Int.not_le] at h
    have hgt := h
    clear h
    refine c_seq ?_
    refine c_region ?_
    refine o_yield rfl rfl rfl (y_val tok rfl) ?_
    refine o_call (.a (.v _)) rfl rfl fnok40 rfl rfl rfl (fun hg E w1 hm => by exact wend_c ⟨bk, k, ⟨.slice a n c, L⟩⟩ g _ _ (hm.lit 3 _ _ rfl)) ?_
    refine o_yield rfl rfl rfl (y_val tok rfl) ?_
    refine o_yield rfl rfl rfl (y_val tok rfl) ?_
    refine o_end [2, 6, 8, 18] rfl ?_
    refine x_then ?_
    refine c_cond rfl (fun h => ?_) (fun h => ?_)
    ·
      simp only [Bool.and_eq_true, Bool.or_eq_true, Bool.not_eq_true', Bool.or_eq_false_iff, Bool.and_eq_false_iff, decide_eq_true_eq, decide_eq_false_iff_not, beq_iff_eq, bne_iff_ne, Bool.not_eq_false', beq_eq_false_iff_ne, bne_eq_false_iff_eq, ne_eq, Decidable.not_not, Int.not_lt, Int.not_le] at h
      refine c_region ?_
      refine o_yield rfl rfl rfl (y_val tok rfl) ?_
      refine o_yield rfl rfl rfl (y_val tok rfl) ?_
      refine o_step rfl rfl rfl rfl rfl (s_bs tok 1 rfl rfl rfl) (fun _ _ => ?_)
      refine o_step rfl rfl rfl rfl rfl (s_wput 3 4 bk k g (.slice a n c) L got rfl rfl rfl hs hn (fun E w1 hm => hs.mono (hm.leDel (l := 3) rfl))) (fun _ _ => ?_)
      refine o_end [6, 8] rfl ?_
      refine x_block ?_
      refine x_then ?_
      refine c_seq ?_
      refine c_region ?_
      refine o_yield rfl rfl rfl (y_val tok rfl) ?_
      refine o_yield rfl rfl rfl (y_val tok rfl) ?_
      refine o_yield rfl rfl rfl (y_val tok rfl) ?_
      refine o_yield rfl rfl rfl (y_val tok rfl) ?_
      refine o_store tok rfl rfl rfl (by first | exact ⟨trivial, trivial⟩ | (repeat' first | exact trivial | exact rfl | apply And.intro); done | simp [onesP, oneP, lk, Value.oneCell']) ?_
      refine o_yield rfl rfl rfl (y_val tok rfl) ?_
      refine o_end [6, 7] rfl ?_
      refine x_then ?_
      refine c_ret ?_
      refine b_ret tok rfl ?_
      intro E w' hm _
      have hb := hm.below (Vw.le.refl _)
      have hrow := hm.rowFresh (Vw.le.refl _) (l := 5) rfl
      obtain ⟨V', hx, hsl⟩ := ownsRow_vext hV hb hrow
      obtain ⟨a', n', c', hv⟩ := sl_shape hsl
      rw [hv] at hsl
      refine ⟨_, V', rfl, hb, hx, .inr (.inr ⟨by omega, by omega, a', n', c', ?_, hsl, fun _ => rfl⟩)⟩
      rw [← hv]
      rfl
    ·
      simp only [Bool.and_eq_true, Bool.or_eq_true, Bool.not_eq_true', Bool.or_eq_false_iff, Bool.and_eq_false_iff, decide_eq_true_eq, decide_eq_false_iff_not, beq_iff_eq, bne_iff_ne, Bool.not_eq_false', beq_eq_false_iff_ne, bne_eq_false_iff_eq, ne_eq, Decidable.not_not, Int.not_lt, Int.not_le] at h
      refine c_skip ?_
      refine x_block ?_
      refine x_then ?_
      refine c_seq ?_
      refine c_region ?_
      refine o_yield rfl rfl rfl (y_val tok rfl) ?_
      refine o_yield rfl rfl rfl (y_val tok rfl) ?_
      refine o_yield rfl rfl rfl (y_val tok rfl) ?_
      refine o_yield rfl rfl rfl (y_val tok rfl) ?_
      refine o_store tok rfl rfl rfl (by first | exact ⟨trivial, trivial⟩ | (repeat' first | exact trivial | exact rfl | apply And.intro); done | simp [onesP, oneP, lk, Value.oneCell']) ?_
      refine o_yield rfl rfl rfl (y_val tok rfl) ?_
      refine o_end [6, 7] rfl ?_
      refine x_then ?_
      refine c_ret ?_
      refine b_ret tok rfl ?_
      intro E w' hm _
      have hb := hm.below (Vw.le.refl _)
      exact ⟨_, V, rfl, hb, Vext.same hV hb, .inr (.inl ⟨by omega, by omega, rfl⟩)⟩

theorem fover_c (f : Fetching) (g : Geo) (a : Option Addr) (n c : Nat) (hv : f.parts.v = .slice a n c) (w : World) : Calls Try.prog 13 #[g.val, f.val] w fun e w' => e = .returned (.bool (decide (g.per ≤ f.k))) ∧ Below w.heap.size w w' := by
  obtain ⟨bk, k, ⟨v, L⟩⟩ := f
  simp only at hv
  subst hv
  refine enter (E := E0) (O := []) (nl := 0) (V := vw w) [.a (.v g.val), .a (.v (⟨bk, k, ⟨.slice a n c, L⟩⟩ : Fetching).val)] Try.func13 rfl rfl (mem0 E0 0 w) rfl rfl ?_
  refine c_seq ?_
  refine c_region ?_
  refine o_new tok rfl rfl rfl rfl ?_
  refine o_new tok rfl rfl rfl rfl ?_
  refine o_yield rfl rfl rfl (y_val tok rfl) ?_
  refine o_end [2, 3] rfl ?_
  refine x_then ?_
  refine c_seq ?_
  refine c_region ?_
  refine o_yield rfl rfl rfl (y_val tok rfl) ?_
  refine o_yield rfl rfl rfl (y_val tok rfl) ?_
  refine o_yield rfl rfl rfl (y_val tok rfl) ?_
  refine o_new tok rfl rfl rfl rfl ?_
  refine o_call (.a (.v _)) rfl rfl fnok40 rfl rfl rfl (fun hg E w1 hm => by exact wend_c ⟨bk, k, ⟨.slice a n c, L⟩⟩ g _ _ (hm.lit 2 _ _ rfl)) ?_
  refine o_yield rfl rfl rfl (y_val tok rfl) ?_
  refine o_end [4] rfl ?_
  refine x_then ?_
  refine c_ret ?_
  refine b_ret tok rfl ?_
  intro E w' hm _
  refine ⟨?_, hm.below (Vw.le.refl _)⟩
  rfl

def fwantV (f : Fetching) (g : Geo) : ActV := if 0 ≤ nextV f g then ⟨1, nextV f g, ByteArray.empty, 0⟩ else act0

theorem fwant_c (f : Fetching) (g : Geo) (ok : g.Ok) (a : Option Addr) (n c : Nat) (hv : f.parts.v = .slice a n c) (w : World) : Calls Try.prog 12 #[g.val, f.val] w fun e w' => e = .returned (fwantV f g).val ∧ Below w.heap.size w w' := by
  obtain ⟨bk, k, ⟨v, L⟩⟩ := f
  simp only at hv
  subst hv
  refine enter (E := E0) (O := []) (nl := 0) (V := vw w) [.a (.v g.val), .a (.v (⟨bk, k, ⟨.slice a n c, L⟩⟩ : Fetching).val)] Try.func12 rfl rfl (mem0 E0 0 w) rfl rfl ?_
  refine c_seq ?_
  refine c_region ?_
  refine o_new tok rfl rfl rfl rfl ?_
  refine o_new tok rfl rfl rfl rfl ?_
  refine o_new tok rfl rfl rfl rfl ?_
  refine o_end [2, 3, 4] rfl ?_
  refine x_then ?_
  refine c_seq ?_
  refine c_seq ?_
  refine c_region ?_
  refine o_yield rfl rfl rfl (y_val tok rfl) ?_
  refine o_yield rfl rfl rfl (y_val tok rfl) ?_
  refine o_yield rfl rfl rfl (y_val tok rfl) ?_
  refine o_new tok rfl rfl rfl rfl ?_
  refine o_call (.a (.v _)) rfl rfl fnok39 rfl rfl rfl (fun hg E w1 hm => by exact wnext_c ⟨bk, k, ⟨.slice a n c, L⟩⟩ g ok _ _ (hm.lit 3 _ _ rfl)) ?_
  refine o_yield rfl rfl rfl (y_val tok rfl) ?_
  refine o_end [4, 5] rfl ?_
  refine x_then ?_
  refine c_seq ?_
  refine c_region ?_
  refine o_yield rfl rfl rfl (y_val tok rfl) ?_
  refine o_yield rfl rfl rfl (y_val tok rfl) ?_
  refine o_end [4, 5, 12] rfl ?_
  refine x_then ?_
  refine c_cond rfl (fun h => ?_) (fun h => ?_)
  ·
    simp only [Bool.and_eq_true, Bool.or_eq_true, Bool.not_eq_true', Bool.or_eq_false_iff, Bool.and_eq_false_iff, decide_eq_true_eq, decide_eq_false_iff_not, beq_iff_eq, bne_iff_ne, Bool.not_eq_false', beq_eq_false_iff_ne, bne_eq_false_iff_eq, ne_eq, Decidable.not_not, Int.not_lt, Int.not_le] at h
    refine c_region ?_
    refine o_yield rfl rfl rfl (y_val tok rfl) ?_
    refine o_yield rfl rfl rfl (y_val tok rfl) ?_
    refine o_store tok rfl rfl rfl (by first | exact ⟨trivial, trivial⟩ | (repeat' first | exact trivial | exact rfl | apply And.intro); done | simp [onesP, oneP, lk, Value.oneCell']) ?_
    refine o_yield rfl rfl rfl (y_val tok rfl) ?_
    refine o_store tok rfl rfl rfl (by first | exact ⟨trivial, trivial⟩ | (repeat' first | exact trivial | exact rfl | apply And.intro); done | simp [onesP, oneP, lk, Value.oneCell']) ?_
    refine o_end [4] rfl ?_
    refine x_then ?_
    refine c_seq ?_
    refine c_region ?_
    refine o_yield rfl rfl rfl (y_val tok rfl) ?_
    refine o_store tok rfl rfl rfl (by first | exact ⟨trivial, trivial⟩ | (repeat' first | exact trivial | exact rfl | apply And.intro); done | simp [onesP, oneP, lk, Value.oneCell']) ?_
    refine o_end [4] rfl ?_
    refine x_then ?_
    refine c_ret ?_
    refine b_ret tok rfl ?_
    intro E w' hm _
    refine ⟨?_, hm.below (Vw.le.refl _)⟩
    rw [fwantV, if_pos h]; rfl
  ·
    simp only [Bool.and_eq_true, Bool.or_eq_true, Bool.not_eq_true', Bool.or_eq_false_iff, Bool.and_eq_false_iff, decide_eq_true_eq, decide_eq_false_iff_not, beq_iff_eq, bne_iff_ne, Bool.not_eq_false', beq_eq_false_iff_ne, bne_eq_false_iff_eq, ne_eq, Decidable.not_not, Int.not_lt, Int.not_le] at h
    refine c_skip ?_
    refine x_then ?_
    refine c_seq ?_
    refine c_region ?_
    refine o_yield rfl rfl rfl (y_val tok rfl) ?_
    refine o_store tok rfl rfl rfl (by first | exact ⟨trivial, trivial⟩ | (repeat' first | exact trivial | exact rfl | apply And.intro); done | simp [onesP, oneP, lk, Value.oneCell']) ?_
    refine o_end [4] rfl ?_
    refine x_then ?_
    refine c_ret ?_
    refine b_ret tok rfl ?_
    intro E w' hm _
    refine ⟨?_, hm.below (Vw.le.refl _)⟩
    rw [fwantV, if_neg (by omega)]; rfl

theorem ftext_c (V : Vw) (f : Fetching) (w : World) (hV : V.le (vw w)) (hs0 : SlOf V encS 1 f.parts.v f.parts.l) (hn : f.parts.l.length ≤ 140737488355328) (hc : (catL f.parts.l).length ≤ 140737488355328) :
    Calls Try.prog 17 #[f.val] w fun e w' => e = .returned (S (catS f.parts.l)) ∧ Below w.heap.size w w' := by
  obtain ⟨bk, k, ⟨v, L⟩⟩ := f
  simp only at hs0 hn hc
  obtain ⟨a, n, c, rfl⟩ := sl_shape hs0.sl
  have hs := hs0.mono hV
  refine enter (E := E0) (O := []) (nl := 0) (V := vw w) [.a (.v (⟨bk, k, ⟨.slice a n c, L⟩⟩ : Fetching).val)] Try.func17 rfl rfl (mem0 E0 0 w) rfl rfl ?_
  refine c_seq ?_
  refine c_region ?_
  refine o_new tok rfl rfl rfl rfl ?_
  refine o_yield rfl rfl rfl (y_val tok rfl) ?_
  refine o_end [1] rfl ?_
  refine x_then ?_
  refine c_seq ?_
  refine c_region ?_
  refine o_yield rfl rfl rfl (y_val tok rfl) ?_
  refine o_yield rfl rfl rfl (y_val tok rfl) ?_
  refine o_call (.a (.v _)) rfl rfl fnok45 rfl rfl rfl (fun hg E w1 hm => by exact join_c (vw w) _ L _ hm.leV hs hn hc) ?_
  refine o_yield rfl rfl rfl (y_val tok rfl) ?_
  refine o_end [2] rfl ?_
  refine x_then ?_
  refine c_ret ?_
  refine b_ret tok rfl ?_
  intro E w' hm _
  refine ⟨?_, hm.below (Vw.le.refl _)⟩
  rfl

theorem fbegin_c (g : Geo) (ok : g.Ok) (bk : Int) (w : World) : Calls Try.prog 11 #[g.val, I bk] w fun e w' => e = .returned (.tuple #[(⟨if 0 ≤ dataV g bk 0 then bk else 0, 0, ⟨.slice none 0 0, []⟩⟩ : Fetching).val, I (if 0 ≤ dataV g bk 0 then 0 else 2)]) ∧ Below w.heap.size w w' := by
  refine enter (E := E0) (O := []) (nl := 0) (V := vw w) [.a (.v g.val), .a (.v (I bk))] Try.func11 rfl rfl (mem0 E0 0 w) rfl rfl ?_
  refine c_seq ?_
  refine c_region ?_
  refine o_new tok rfl rfl rfl rfl ?_
  refine o_new tok rfl rfl rfl rfl ?_
  refine o_yield rfl rfl rfl (y_val tok rfl) ?_
  refine o_end [1, 2, 4] rfl ?_
  refine x_then ?_
  refine c_seq ?_
  refine c_seq ?_
  refine c_region ?_
  refine o_yield rfl rfl rfl (y_val tok rfl) ?_
  refine o_yield rfl rfl rfl (y_val tok rfl) ?_
  refine o_call (.a (.v _)) rfl rfl fnok38 rfl rfl rfl (fun hg E w1 hm => by exact data_c g ok _ _ _) ?_
  refine o_yield rfl rfl rfl (y_val tok rfl) ?_
  refine o_end [1, 4, 9] rfl ?_
  refine x_then ?_
  refine c_cond rfl (fun h => ?_) (fun h => ?_)
  ·
    simp only [Bool.and_eq_true, Bool.or_eq_true, Bool.not_eq_true', Bool.or_eq_false_iff, Bool.and_eq_false_iff, decide_eq_true_eq, decide_eq_false_iff_not, beq_iff_eq, bne_iff_ne, Bool.not_eq_false', beq_eq_false_iff_ne, bne_eq_false_iff_eq, ne_eq, Decidable.not_not, Int.not_lt, Int.not_le] at h
    refine c_seq ?_
    refine c_region ?_
    refine o_yield rfl rfl rfl (y_val tok rfl) ?_
    refine o_store tok rfl rfl rfl (by first | exact ⟨trivial, trivial⟩ | (repeat' first | exact trivial | exact rfl | apply And.intro); done | simp [onesP, oneP, lk, Value.oneCell']) ?_
    refine o_yield rfl rfl rfl (y_val tok rfl) ?_
    refine o_end [4, 5] rfl ?_
    refine x_then ?_
    refine c_ret ?_
    refine x_then_ret ?_
    refine b_ret tok rfl ?_
    intro E w' hm _
    refine ⟨?_, hm.below (Vw.le.refl _)⟩
    rw [if_neg (by omega), if_neg (by omega)]; rfl
  ·
    simp only [Bool.and_eq_true, Bool.or_eq_true, Bool.not_eq_true', Bool.or_eq_false_iff, Bool.and_eq_false_iff, decide_eq_true_eq, decide_eq_false_iff_not, beq_iff_eq, bne_iff_ne, Bool.not_eq_false', beq_eq_false_iff_ne, bne_eq_false_iff_eq, ne_eq, Decidable.not_not, Int.not_lt, Int.not_le] at h
    refine c_skip ?_
    refine x_then ?_
    refine c_seq ?_
    refine c_region ?_
    refine o_yield rfl rfl rfl (y_val tok rfl) ?_
    refine o_yield rfl rfl rfl (y_val tok rfl) ?_
    refine o_store tok rfl rfl rfl (by first | exact ⟨trivial, trivial⟩ | (repeat' first | exact trivial | exact rfl | apply And.intro); done | simp [onesP, oneP, lk, Value.oneCell']) ?_
    refine o_end [4] rfl ?_
    refine x_then ?_
    refine c_seq ?_
    refine c_region ?_
    refine o_yield rfl rfl rfl (y_val tok rfl) ?_
    refine o_store tok rfl rfl rfl (by first | exact ⟨trivial, trivial⟩ | (repeat' first | exact trivial | exact rfl | apply And.intro); done | simp [onesP, oneP, lk, Value.oneCell']) ?_
    refine o_yield rfl rfl rfl (y_val tok rfl) ?_
    refine o_end [4, 5] rfl ?_
    refine x_then ?_
    refine c_ret ?_
    refine b_ret tok rfl ?_
    intro E w' hm _
    refine ⟨?_, hm.below (Vw.le.refl _)⟩
    rw [if_pos (by omega), if_pos (by omega)]; rfl
end Go.Proofs.Ytipmgnhbcaniiaa

/- What the document says of some records. -/
set_option linter.unusedVariables false
set_option linter.unusedSimpArgs false
set_option maxRecDepth 100000
namespace Go.Proofs.Ytipmgnhbcaniiaa
open Go Go.Eng Go.RowKit

abbrev geoX : Geo := ⟨1, 1, 2, 2, 9, 8, 1, 2⟩
def abS : ByteArray := ⟨#[97, 98]⟩

end Go.Proofs.Ytipmgnhbcaniiaa

/- What a commit asks of the device. -/
set_option linter.unusedVariables false
set_option linter.unusedSimpArgs false
set_option maxRecDepth 100000
namespace Go.Proofs.Ytipmgnhbcaniiaa
open Go Go.Eng Go.RowKit

/-- A function value that tells where an lsn stands. -/
def TellsJ (V : Vw) (fv : Value) (pl : Int → Int) : Prop :=
  ∀ (lsn : Int) w', V.le (vw w') → CallsFn Try.prog fv [I lsn] w' fun e w'' => e = .returned (I (pl lsn)) ∧ Below w'.heap.size w' w''

abbrev geoC : Geo := ⟨1, 1, 2, 1, 4, 8, 1, 2⟩
def aS : ByteArray := ⟨#[97]⟩
abbrev ActV.cells (a : ActV) : List Value := [I8 a.kind, I a.sector, S a.b, I a.key]
end Go.Proofs.Ytipmgnhbcaniiaa
