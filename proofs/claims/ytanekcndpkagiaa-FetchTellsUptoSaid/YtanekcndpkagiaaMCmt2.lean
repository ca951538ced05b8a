import Derived.Test.YtanekcndpkagiaaMBackL
import Derived.Test.YtanekcndpkagiaaEng29
/- What a commit asks of the device. -/
set_option linter.unusedVariables false
set_option linter.unusedSimpArgs false
set_option maxRecDepth 100000
namespace Go.Proofs.Ytanekcndpkagiaa
open Go Go.Eng Go.RowKit

theorem wantFn_c (g : Geo) (ok : g.Ok) (slot lsn : Int) (b1 b2 : Nat) (w : World) (h1 : w.heap[b1]? = some (.cells g.cells.toArray 29 (0, 0))) (h2 : w.heap[b2]? = some (.cells [I slot].toArray 3 (0, 0))) :
    Calls Try.prog 101 #[I lsn, Ptr b1, Ptr b2] w fun e w' => e = .returned (I (jourV g slot lsn)) ∧ Below w.heap.size w w' := by
  refine enter (E := E0) (O := []) (nl := 0) (V := vw w) [.a (.v (I lsn)), .a (.v (Ptr b1)), .a (.v (Ptr b2))] Try.func101 rfl rfl (mem0 E0 0 w) rfl rfl ?_
  refine c_seq ?_
  refine c_region ?_
  refine o_yield rfl rfl rfl (y_val tok rfl) ?_
  refine o_end [0, 1, 2] rfl ?_
  refine x_then ?_
  refine c_seq ?_
  refine c_region ?_
  refine o_yield rfl rfl rfl (y_ldp tok rfl (fun hg => h1) rfl) ?_
  refine o_yield rfl rfl rfl (y_ldp tok rfl (fun hg => h2) rfl) ?_
  refine o_yield rfl rfl rfl (y_val tok rfl) ?_
  refine o_call (.a (.v _)) rfl rfl fnok102 rfl rfl rfl (fun hg E w1 hm => by exact jour_c g ok slot lsn _) ?_
  refine o_yield rfl rfl rfl (y_val tok rfl) ?_
  refine o_end [4] rfl ?_
  refine x_then ?_
  refine c_ret ?_
  refine b_ret tok rfl ?_
  intro E w' hm _
  refine ⟨?_, hm.below (Vw.le.refl _)⟩
  rfl

/-- A function value that tells where an lsn stands. -/
def TellsJ (V : Vw) (fv : Value) (pl : Int → Int) : Prop :=
  ∀ (lsn : Int) w', V.le (vw w') → CallsFn Try.prog fv [I lsn] w' fun e w'' => e = .returned (I (pl lsn)) ∧ Below w'.heap.size w' w''

def wantV (pl : Int → Int) (L : List Record) (i : Int) : ActV :=
  if (0 ≤ i ∧ i < L.length) ∧ bytesE (nextR L i) = 0 ∧ 0 ≤ pl (nextR L i).lsn then ⟨2, pl (nextR L i).lsn, bytesV (nextR L i), 0⟩ else act0

theorem act_c (V : Vw) (v : Value) (L : List Record) (i : Int) (f : Nat) (cs : Array Value) (pl : Int → Int) (w : World) (hV : V.le (vw w)) (hs0 : SlOf V Record.cells 6 v L) (hf : TellsJ V (.func (.func f) #[] cs) pl) :
    Calls Try.prog 103 #[.agg #[v, I i, .func (.func f) #[] cs]] w fun e w' => e = .returned (wantV pl L i).val ∧ Below w.heap.size w w' := by
  obtain ⟨a, n, c, rfl⟩ := sl_shape hs0.sl
  have hs := hs0.mono hV
  refine enter (E := E0) (O := []) (nl := 0) (V := vw w) [.a (.v (.agg #[.slice a n c, I i, .func (.func f) #[] cs]))] Try.func103 rfl rfl (mem0 E0 0 w) rfl rfl ?_
  refine c_seq ?_
  refine c_region ?_
  refine o_new tok rfl rfl rfl rfl ?_
  refine o_new tok rfl rfl rfl rfl ?_
  refine o_end [1, 2] rfl ?_
  refine x_then ?_
  refine c_seq ?_
  refine c_region ?_
  refine o_yield rfl rfl rfl (y_val tok rfl) ?_
  refine o_yield rfl rfl rfl (y_val tok rfl) ?_
  refine o_call (.a (.v _)) rfl rfl fnok158 rfl rfl rfl (fun hg E w1 hm => by exact next_c (vw w) _ L i _ hm.leV hs) ?_
  refine o_yield rfl rfl rfl (y_val tok rfl) ?_
  refine o_yield rfl rfl rfl (y_val tok rfl) ?_
  refine o_yield rfl rfl rfl (y_val tok rfl) ?_
  refine o_new tok rfl rfl rfl rfl ?_
  refine o_store tok rfl rfl rfl (by first | exact ⟨trivial, trivial⟩ | simp [onesP, oneP, lk, Value.oneCell']) ?_
  refine o_yield rfl rfl rfl (y_val tok rfl) ?_
  refine o_end [1, 2, 3, 4] rfl ?_
  refine x_then ?_
  refine c_seq ?_
  refine c_region ?_
  refine o_yield rfl rfl rfl (y_val tok rfl) ?_
  refine o_call (.a (.v _)) rfl rfl fnok159 rfl rfl rfl (fun hg E w1 hm => by exact recBytes_c (nextR L i) _) ?_
  refine o_yield rfl rfl rfl (y_val tok rfl) ?_
  refine o_yield rfl rfl rfl (y_val tok rfl) ?_
  refine o_yield rfl rfl rfl (y_val tok rfl) ?_
  refine o_yield rfl rfl rfl (y_val tok rfl) ?_
  refine o_yield rfl rfl rfl (y_val tok rfl) ?_
  refine o_end [1, 2, 3, 4, 5, 6] rfl ?_
  refine x_then ?_
  refine c_seq ?_
  refine c_seq ?_
  refine c_region ?_
  refine o_yield rfl rfl rfl (y_val tok rfl) ?_
  refine o_yield rfl rfl rfl (y_val tok rfl) ?_
  refine o_yield rfl rfl rfl (y_val tok rfl) ?_
  refine o_yield rfl rfl rfl (y_val tok rfl) ?_
  refine o_callF (.a (.v _)) rfl rfl rfl rfl rfl (fun hg E w1 hm => by exact hf (nextR L i).lsn w1 (hV.trans hm.leV)) ?_
  refine o_yield rfl rfl rfl (y_val tok rfl) ?_
  refine o_end [2, 4, 5, 6, 7] rfl ?_
  refine x_then ?_
  refine c_seq ?_
  refine c_region ?_
  refine o_yield rfl rfl rfl (y_val tok rfl) ?_
  refine o_yield rfl rfl rfl (y_val tok rfl) ?_
  refine o_yield rfl rfl rfl (y_val tok rfl) ?_
  refine o_yield rfl rfl rfl (y_val tok rfl) ?_
  refine o_yield rfl rfl rfl (y_val tok rfl) ?_
  refine o_yield rfl rfl rfl (y_val tok rfl) ?_
  refine o_yield rfl rfl rfl (y_val tok rfl) ?_
  refine o_yield rfl rfl rfl (y_val tok rfl) ?_
  refine o_yield rfl rfl rfl (y_val tok rfl) ?_
  refine o_end [2, 5, 7, 32] rfl ?_
  refine x_then ?_
  refine c_cond rfl (fun h => ?_) (fun h => ?_)
  ·
    simp only [Bool.and_eq_true, Bool.or_eq_true, Bool.not_eq_true', Bool.or_eq_false_iff, Bool.and_eq_false_iff, decide_eq_true_eq, decide_eq_false_iff_not, beq_iff_eq, bne_iff_ne, Bool.not_eq_false', beq_eq_false_iff_ne, bne_eq_false_iff_eq, ne_eq, Decidable.not_not, Int.not_lt, Int.not_le] at h
    refine c_seq ?_
    refine c_region ?_
    refine o_yield rfl rfl rfl (y_val tok rfl) ?_
    refine o_yield rfl rfl rfl (y_val tok rfl) ?_
    refine o_yield rfl rfl rfl (y_val tok rfl) ?_
    refine o_store tok rfl rfl rfl (by first | exact ⟨trivial, trivial⟩ | simp [onesP, oneP, lk, Value.oneCell']) ?_
    refine o_end [2] rfl ?_
    refine x_then ?_
    refine c_ret ?_
    refine x_then_ret ?_
    refine b_ret tok rfl ?_
    intro E w' hm _
    refine ⟨?_, hm.below (Vw.le.refl _)⟩
    rw [wantV, if_pos (by omega)]; rfl
  ·
    simp only [Bool.and_eq_true, Bool.or_eq_true, Bool.not_eq_true', Bool.or_eq_false_iff, Bool.and_eq_false_iff, decide_eq_true_eq, decide_eq_false_iff_not, beq_iff_eq, bne_iff_ne, Bool.not_eq_false', beq_eq_false_iff_ne, bne_eq_false_iff_eq, ne_eq, Decidable.not_not, Int.not_lt, Int.not_le] at h
    refine c_skip ?_
    refine x_then ?_
    refine c_seq ?_
    refine c_region ?_
    refine o_yield rfl rfl rfl (y_val tok rfl) ?_
    refine o_store tok rfl rfl rfl (by first | exact ⟨trivial, trivial⟩ | simp [onesP, oneP, lk, Value.oneCell']) ?_
    refine o_end [2] rfl ?_
    refine x_then ?_
    refine c_ret ?_
    refine b_ret tok rfl ?_
    intro E w' hm _
    refine ⟨?_, hm.below (Vw.le.refl _)⟩
    rw [wantV, if_neg (by omega)]; rfl

theorem want_c (V : Vw) (g : Geo) (ok : g.Ok) (v : Value) (L : List Record) (i slot : Int) (w : World) (hV : V.le (vw w)) (hs0 : SlOf V Record.cells 6 v L) :
    Calls Try.prog 43 #[g.val, putV v i, I slot] w fun e w' => e = .returned (wantV (jourV g slot) L i).val ∧ Below w.heap.size w w' := by
  obtain ⟨a, n, c, rfl⟩ := sl_shape hs0.sl
  have hs := hs0.mono hV
  refine enter (E := E0) (O := []) (nl := 0) (V := vw w) [.a (.v g.val), .a (.v (putV (.slice a n c) i)), .a (.v (I slot))] Try.func43 rfl rfl (mem0 E0 0 w) rfl rfl ?_
  refine c_seq ?_
  refine c_region ?_
  refine o_new tok rfl rfl rfl rfl ?_
  refine o_new tok rfl rfl rfl rfl ?_
  refine o_new tok rfl rfl rfl rfl ?_
  refine o_new tok rfl rfl rfl rfl ?_
  refine o_end [3, 4, 5, 6] rfl ?_
  refine x_then ?_
  refine c_seq ?_
  refine c_region ?_
  refine o_yield rfl rfl rfl (y_val tok rfl) ?_
  refine o_yield rfl rfl rfl (y_val tok rfl) ?_
  refine o_yield rfl rfl rfl (y_val tok rfl) ?_
  refine o_yield rfl rfl rfl (y_val tok rfl) ?_
  refine o_call (.a (.v _)) rfl rfl fnok103 rfl rfl rfl (fun hg E w1 hm => by exact act_c (vw w1) _ L i 101 _ (jourV g slot) _ (Vw.le.refl _) (hs.mono hm.leV) (fun lsn w' hle => ⟨101, _, rfl, fnok101, wantFn_c g ok slot lsn _ _ w' (hle.get _ _ (hm.lit 0 _ _ rfl)) (hle.get _ _ (hm.lit 2 _ _ rfl))⟩)) ?_
  refine o_store tok rfl rfl rfl (by first | exact ⟨trivial, trivial⟩ | simp [onesP, oneP, lk, Value.oneCell']) ?_
  refine o_end [6] rfl ?_
  refine x_then ?_
  refine c_ret ?_
  refine b_ret tok rfl ?_
  intro E w' hm _
  refine ⟨?_, hm.below (Vw.le.refl _)⟩
  rfl

theorem geo19_c (w : World) : Calls Try.prog 95 #[] w fun e w' => e = .returned (⟨1, 1, 2, 1, 4, 8, 1, 2⟩ : Geo).val ∧ Below w.heap.size w w' := by
  refine enter (E := E0) (O := []) (nl := 0) (V := vw w) [] Try.func95 rfl rfl (mem0 E0 0 w) rfl rfl ?_
  refine c_seq ?_
  refine c_region ?_
  refine o_new tok rfl rfl rfl rfl ?_
  refine o_end [0] rfl ?_
  refine x_then ?_
  refine c_seq ?_
  refine c_region ?_
  refine o_yield rfl rfl rfl (y_val tok rfl) ?_
  refine o_store tok rfl rfl rfl (by first | exact ⟨trivial, trivial⟩ | simp [onesP, oneP, lk, Value.oneCell']) ?_
  refine o_end [0] rfl ?_
  refine x_then ?_
  refine c_ret ?_
  refine b_ret tok rfl ?_
  intro E w' hm _
  refine ⟨?_, hm.below (Vw.le.refl _)⟩
  rfl

abbrev geoC : Geo := ⟨1, 1, 2, 1, 4, 8, 1, 2⟩
theorem geoC_ok : geoC.Ok := by constructor <;> simp [R64]
def aS : ByteArray := ⟨#[97]⟩
theorem ofC : OfOk geoC 16 3 [⟨1, aS⟩] := by
  refine ⟨by decide, by simp, by decide, by decide, ?_, ?_, by decide⟩
  · intro i b hb
    cases i with
    | zero => simp at hb; subst hb; exact ⟨by decide, by decide, by decide⟩
    | succ i => simp at hb
  · intro j hj
    have : j = 0 := by simp at hj; omega
    subst this; decide
abbrev recsC : List Record := [⟨16, 3, 1, 0, aS, 0⟩, ⟨16, 4, 0, 0, ByteArray.empty, 1⟩]
theorem allC : allRecs geoC 16 3 [⟨1, aS⟩] = recsC := by rfl
theorem begC {L : List Record} {ec : Int} (h : BegRes geoC 16 3 3 [⟨1, aS⟩] L ec) : L = recsC ∧ ec = 0 := by
  rcases h with ⟨h, _⟩ | ⟨_, ⟨_, h2, h3⟩ | ⟨h1, _⟩⟩
  · exact absurd (by decide) h
  · exact ⟨h2.trans allC, h3⟩
  · exact absurd ofC h1

abbrev ActV.cells (a : ActV) : List Value := [I8 a.kind, I a.sector, S a.b, I a.key]
abbrev actC0 : ActV := ⟨2, 15, bytesV ⟨16, 3, 1, 0, aS, 0⟩, 0⟩
abbrev actC1 : ActV := ⟨2, 12, bytesV ⟨16, 4, 0, 0, ByteArray.empty, 1⟩, 0⟩
theorem recC0 : recB ⟨16, 3, 1, 0, aS, 0⟩ = true := by decide
theorem recC1 : recB ⟨16, 4, 0, 0, ByteArray.empty, 1⟩ = true := by decide
theorem wantC0 : wantV (jourV geoC 0) recsC 0 = actC0 := by
  have e : nextR recsC 0 = ⟨16, 3, 1, 0, aS, 0⟩ := rfl
  rw [wantV, e, bytesE, if_pos recC0, if_pos (by decide)]; rfl
theorem wantC1 : wantV (jourV geoC 0) recsC 1 = actC1 := by
  have e : nextR recsC 1 = ⟨16, 4, 0, 0, ByteArray.empty, 1⟩ := rfl
  rw [wantV, e, bytesE, if_pos recC1, if_pos (by decide)]; rfl

theorem wantC0_c (V : Vw) (v : Value) (w : World) (hV : V.le (vw w)) (hs : SlOf V Record.cells 6 v recsC) :
    Calls Try.prog 43 #[geoC.val, putV v 0, I 0] w fun e w' => e = .returned actC0.val ∧ Below w.heap.size w w' := by
  have := want_c V geoC geoC_ok v recsC 0 0 w hV hs
  rwa [wantC0] at this
theorem wantC1_c (V : Vw) (v : Value) (w : World) (hV : V.le (vw w)) (hs : SlOf V Record.cells 6 v recsC) :
    Calls Try.prog 43 #[geoC.val, putV v 1, I 0] w fun e w' => e = .returned actC1.val ∧ Below w.heap.size w w' := by
  have := want_c V geoC geoC_ok v recsC 1 0 w hV hs
  rwa [wantC1] at this
theorem takeC0_c (V : Vw) (v : Value) (w : World) (hV : V.le (vw w)) (hs : SlOf V Record.cells 6 v recsC) :
    Calls Try.prog 45 #[putV v 0] w fun e w' => e = .returned (putV v 1) ∧ Below w.heap.size w w' := take_c V v recsC 0 w hV hs

theorem wakes19_c (w : World) : Calls Try.prog 33 #[] w fun e w' => e = .returned (.bool true) ∧ Below w.heap.size w w' := by
  refine enter (E := E0) (O := []) (nl := 0) (V := vw w) [] Try.func33 rfl rfl (mem0 E0 0 w) rfl rfl ?_
  refine c_seq ?_
  refine c_region ?_
  refine o_yield rfl rfl rfl (y_val tok rfl) ?_
  refine o_end [] rfl ?_
  refine x_then ?_
  refine c_seq ?_
  refine c_region ?_
  refine o_call (.a (.v _)) rfl rfl fnok95 rfl rfl rfl (fun hg E w1 hm => by exact geo19_c _) ?_
  refine o_yield rfl rfl rfl (y_val tok rfl) ?_
  refine o_bs tok rfl rfl rfl rfl (fun b1 V1 hle1 hb1 => ?_)
  refine o_callV (fun x V' => ∃ a n c L ec, x = .tuple #[putV (.slice a n c) 0, I ec] ∧ SlOf V' Record.cells 6 (.slice a n c) L ∧ BegRes geoC 16 3 3 [⟨1, aS⟩] L ec) rfl rfl fnok34 rfl rfl (fun hg E w1 hm => by exact cbegin_cV V1 geoC geoC_ok 16 3 3 _ [⟨1, aS⟩] _ hm.leV (SlOf.ofBlock (enc := Block.cells) (sz := 2) (l := [⟨1, aS⟩]) (hb1 rfl) rfl (fun _ => rfl) (Nat.le_refl _)) (by simp [lim])) ?_
  rintro x V2 hle2 hx
  obtain ⟨a, n, c, L, ec, rfl, hs, hr⟩ := hx rfl
  obtain ⟨rfl, rfl⟩ := begC hr
  refine o_yield rfl rfl rfl (y_val tok rfl) ?_
  refine o_yield rfl rfl rfl (y_val tok rfl) ?_
  refine o_yield rfl rfl rfl (y_val tok rfl) ?_
  refine o_new tok rfl rfl rfl rfl ?_
  refine o_store tok rfl rfl rfl (by first | exact ⟨trivial, trivial⟩ | simp [onesP, oneP, lk, Value.oneCell']) ?_
  refine o_yield rfl rfl rfl (y_val tok rfl) ?_
  refine o_end [1, 2] rfl ?_
  refine x_then ?_
  refine c_seq ?_
  refine k_trim [1, 2] [] 1 rfl rfl (by repeat (first | exact SubF.nil | refine SubF.cons rfl ?_)) (by repeat (first | exact SubO.nil | refine SubO.cons rfl ?_)) rfl ?_
  refine c_heldM (σ := Unit) (fun _ => [(1, .a (.ptr 0 0)), (2, .a (.v (I 0))), (3, .a (.ptr 1 0))]) (fun _ => [(0, .lit [.v (.slice a n c), .v (I 0)] 55), (1, .lit (actC0.cells.map .v) 64)]) (2) (fun _ => V2) (fun _ => True) mixed ?_ ?_
  ·
    refine t_take 1 rfl (by kernel_rfl) rfl rfl rfl (y_val tok rfl) rfl ?_
    refine t_go ?_
    refine h_two 0 3 (by kernel_rfl) ?_ ?_
    ·
      refine h_call 0 (.a (.v (⟨1, 1, 2, 1, 4, 8, 1, 2⟩ : Geo).val)) rfl rfl rfl fnok95 rfl rfl rfl (fun hg E w1 hm => by exact geo19_c _) ?_
      refine h_two 2 3 (by kernel_rfl) ?_ ?_
      ·
        refine h_call 2 (.a (.v actC0.val)) rfl rfl rfl fnok43 rfl rfl rfl (fun hg E w1 hm => by exact wantC0_c _ _ _ hm.leV hs) ?_
        refine h_one 3 (by kernel_rfl) ?_
        refine h_new 3 tok rfl rfl rfl rfl rfl rfl ?_
        refine h_one 4 (by kernel_rfl) ?_
        refine h_store 4 tok rfl rfl rfl rfl (by first | exact ⟨trivial, trivial⟩ | simp [onesP, oneP, lk, Value.oneCell']) (.inr ⟨(by repeat (first | exact SubO.nil | refine SubO.cons rfl ?_)), rfl, Vw.le.refl _⟩) ?_
        refine h_done [1, 2, 3] (by kernel_rfl) rfl ?_
        exact x_meet () trivial (by repeat (first | exact SubF.nil | refine SubF.cons rfl ?_)) (by repeat (first | exact SubO.nil | refine SubO.cons rfl ?_)) rfl (Vw.le.refl _)
      ·
        refine h_new 3 tok rfl rfl rfl rfl rfl rfl ?_
        refine h_one 2 (by kernel_rfl) ?_
        refine h_call 2 (.a (.v actC0.val)) rfl rfl rfl fnok43 rfl rfl rfl (fun hg E w1 hm => by exact wantC0_c _ _ _ hm.leV hs) ?_
        refine h_one 4 (by kernel_rfl) ?_
        refine h_store 4 tok rfl rfl rfl rfl (by first | exact ⟨trivial, trivial⟩ | simp [onesP, oneP, lk, Value.oneCell']) (.inr ⟨(by repeat (first | exact SubO.nil | refine SubO.cons rfl ?_)), rfl, Vw.le.refl _⟩) ?_
        refine h_done [1, 2, 3] (by kernel_rfl) rfl ?_
        exact x_meet () trivial (by repeat (first | exact SubF.nil | refine SubF.cons rfl ?_)) (by repeat (first | exact SubO.nil | refine SubO.cons rfl ?_)) rfl (Vw.le.refl _)
    ·
      refine h_new 3 tok rfl rfl rfl rfl rfl rfl ?_
      refine h_one 0 (by kernel_rfl) ?_
      refine h_call 0 (.a (.v (⟨1, 1, 2, 1, 4, 8, 1, 2⟩ : Geo).val)) rfl rfl rfl fnok95 rfl rfl rfl (fun hg E w1 hm => by exact geo19_c _) ?_
      refine h_one 2 (by kernel_rfl) ?_
      refine h_call 2 (.a (.v actC0.val)) rfl rfl rfl fnok43 rfl rfl rfl (fun hg E w1 hm => by exact wantC0_c _ _ _ hm.leV hs) ?_
      refine h_one 4 (by kernel_rfl) ?_
      refine h_store 4 tok rfl rfl rfl rfl (by first | exact ⟨trivial, trivial⟩ | simp [onesP, oneP, lk, Value.oneCell']) (.inr ⟨(by repeat (first | exact SubO.nil | refine SubO.cons rfl ?_)), rfl, Vw.le.refl _⟩) ?_
      refine h_done [1, 2, 3] (by kernel_rfl) rfl ?_
      exact x_meet () trivial (by repeat (first | exact SubF.nil | refine SubF.cons rfl ?_)) (by repeat (first | exact SubO.nil | refine SubO.cons rfl ?_)) rfl (Vw.le.refl _)
  rintro ⟨⟩ -
  refine x_then ?_
  refine c_seq ?_
  refine c_heldM (σ := Unit) (fun _ => [(1, .a (.ptr 0 0)), (2, .a (.v (I 0))), (3, .a (.ptr 1 0)), (4, .a (.ptr 2 0))]) (fun _ => [(0, .lit [.v (.slice a n c), .v (I 0)] 55), (1, .lit (actC0.cells.map .v) 64), (2, .lit (actC1.cells.map .v) 64)]) (3) (fun _ => V2) (fun _ => True) mixed ?_ ?_
  ·
    refine t_take 1 rfl (by kernel_rfl) rfl rfl rfl (y_val tok rfl) rfl ?_
    refine t_go ?_
    refine h_two 0 4 (by kernel_rfl) ?_ ?_
    ·
      refine h_call 0 (.a (.v (⟨1, 1, 2, 1, 4, 8, 1, 2⟩ : Geo).val)) rfl rfl rfl fnok95 rfl rfl rfl (fun hg E w1 hm => by exact geo19_c _) ?_
      refine h_two 2 4 (by kernel_rfl) ?_ ?_
      ·
        refine h_call 2 (.a (.v (putV (.slice a n c) 1))) rfl rfl rfl fnok45 rfl rfl rfl (fun hg E w1 hm => by exact takeC0_c _ _ _ hm.leV hs) ?_
        refine h_two 3 4 (by kernel_rfl) ?_ ?_
        ·
          refine h_call 3 (.a (.v actC1.val)) rfl rfl rfl fnok43 rfl rfl rfl (fun hg E w1 hm => by exact wantC1_c _ _ _ hm.leV hs) ?_
          refine h_one 4 (by kernel_rfl) ?_
          refine h_new 4 tok rfl rfl rfl rfl rfl rfl ?_
          refine h_one 5 (by kernel_rfl) ?_
          refine h_store 5 tok rfl rfl rfl rfl (by first | exact ⟨trivial, trivial⟩ | simp [onesP, oneP, lk, Value.oneCell']) (.inr ⟨(by repeat (first | exact SubO.nil | refine SubO.cons rfl ?_)), rfl, Vw.le.refl _⟩) ?_
          refine h_done [1, 2, 3, 4] (by kernel_rfl) rfl ?_
          exact x_meet () trivial (by repeat (first | exact SubF.nil | refine SubF.cons rfl ?_)) (by repeat (first | exact SubO.nil | refine SubO.cons rfl ?_)) rfl (Vw.le.refl _)
        ·
          refine h_new 4 tok rfl rfl rfl rfl rfl rfl ?_
          refine h_one 3 (by kernel_rfl) ?_
          refine h_call 3 (.a (.v actC1.val)) rfl rfl rfl fnok43 rfl rfl rfl (fun hg E w1 hm => by exact wantC1_c _ _ _ hm.leV hs) ?_
          refine h_one 5 (by kernel_rfl) ?_
          refine h_store 5 tok rfl rfl rfl rfl (by first | exact ⟨trivial, trivial⟩ | simp [onesP, oneP, lk, Value.oneCell']) (.inr ⟨(by repeat (first | exact SubO.nil | refine SubO.cons rfl ?_)), rfl, Vw.le.refl _⟩) ?_
          refine h_done [1, 2, 3, 4] (by kernel_rfl) rfl ?_
          exact x_meet () trivial (by repeat (first | exact SubF.nil | refine SubF.cons rfl ?_)) (by repeat (first | exact SubO.nil | refine SubO.cons rfl ?_)) rfl (Vw.le.refl _)
      ·
        refine h_new 4 tok rfl rfl rfl rfl rfl rfl ?_
        refine h_one 2 (by kernel_rfl) ?_
        refine h_call 2 (.a (.v (putV (.slice a n c) 1))) rfl rfl rfl fnok45 rfl rfl rfl (fun hg E w1 hm => by exact takeC0_c _ _ _ hm.leV hs) ?_
        refine h_one 3 (by kernel_rfl) ?_
        refine h_call 3 (.a (.v actC1.val)) rfl rfl rfl fnok43 rfl rfl rfl (fun hg E w1 hm => by exact wantC1_c _ _ _ hm.leV hs) ?_
        refine h_one 5 (by kernel_rfl) ?_
        refine h_store 5 tok rfl rfl rfl rfl (by first | exact ⟨trivial, trivial⟩ | simp [onesP, oneP, lk, Value.oneCell']) (.inr ⟨(by repeat (first | exact SubO.nil | refine SubO.cons rfl ?_)), rfl, Vw.le.refl _⟩) ?_
        refine h_done [1, 2, 3, 4] (by kernel_rfl) rfl ?_
        exact x_meet () trivial (by repeat (first | exact SubF.nil | refine SubF.cons rfl ?_)) (by repeat (first | exact SubO.nil | refine SubO.cons rfl ?_)) rfl (Vw.le.refl _)
    ·
      refine h_new 4 tok rfl rfl rfl rfl rfl rfl ?_
      refine h_one 0 (by kernel_rfl) ?_
      refine h_call 0 (.a (.v (⟨1, 1, 2, 1, 4, 8, 1, 2⟩ : Geo).val)) rfl rfl rfl fnok95 rfl rfl rfl (fun hg E w1 hm => by exact geo19_c _) ?_
      refine h_one 2 (by kernel_rfl) ?_
      refine h_call 2 (.a (.v (putV (.slice a n c) 1))) rfl rfl rfl fnok45 rfl rfl rfl (fun hg E w1 hm => by exact takeC0_c _ _ _ hm.leV hs) ?_
      refine h_one 3 (by kernel_rfl) ?_
      refine h_call 3 (.a (.v actC1.val)) rfl rfl rfl fnok43 rfl rfl rfl (fun hg E w1 hm => by exact wantC1_c _ _ _ hm.leV hs) ?_
      refine h_one 5 (by kernel_rfl) ?_
      refine h_store 5 tok rfl rfl rfl rfl (by first | exact ⟨trivial, trivial⟩ | simp [onesP, oneP, lk, Value.oneCell']) (.inr ⟨(by repeat (first | exact SubO.nil | refine SubO.cons rfl ?_)), rfl, Vw.le.refl _⟩) ?_
      refine h_done [1, 2, 3, 4] (by kernel_rfl) rfl ?_
      exact x_meet () trivial (by repeat (first | exact SubF.nil | refine SubF.cons rfl ?_)) (by repeat (first | exact SubO.nil | refine SubO.cons rfl ?_)) rfl (Vw.le.refl _)
  rintro ⟨⟩ -
  refine x_then ?_
  refine c_seq ?_
  refine c_draw mixed (by kernel_rfl) ?_
  refine d_yield rfl rfl rfl (y_val tok rfl) rfl ?_
  refine d_yield rfl rfl rfl (y_val tok rfl) rfl ?_
  refine d_yield rfl rfl rfl (y_val tok rfl) rfl ?_
  refine d_yield rfl rfl rfl (y_val tok rfl) rfl ?_
  refine d_call (.a (.v _)) rfl rfl fnok39 rfl rfl rfl (fun hg E w1 hm => by exact left_c V2 _ recsC 0 (by simp [R64]) _ hm.leV hs (by simp [lim])) ?_
  refine d_yield rfl rfl rfl (y_val tok rfl) rfl ?_
  refine d_yield rfl rfl rfl (y_val tok rfl) rfl ?_
  refine d_yield rfl rfl rfl (y_val tok rfl) rfl ?_
  refine d_yield rfl rfl rfl (y_val tok rfl) rfl ?_
  refine d_call (.a (.v _)) rfl rfl fnok41 rfl rfl rfl (fun hg E w1 hm => by exact chead_c V2 _ recsC 0 3 _ hm.leV hs) ?_
  refine d_yield rfl rfl rfl (y_val tok rfl) rfl ?_
  refine d_yield rfl rfl rfl (y_val tok rfl) rfl ?_
  refine d_yield rfl rfl rfl (y_val tok rfl) rfl ?_
  refine d_yield rfl rfl rfl (y_val tok rfl) rfl ?_
  refine d_yield rfl rfl rfl (y_val tok rfl) rfl ?_
  refine d_yield rfl rfl rfl (y_val tok rfl) rfl ?_
  refine d_yield rfl rfl rfl (y_val tok rfl) rfl ?_
  refine d_yield rfl rfl rfl (y_val tok rfl) rfl ?_
  refine d_yield rfl rfl rfl (y_val tok rfl) rfl ?_
  refine d_yield rfl rfl rfl (y_val tok rfl) rfl ?_
  refine d_call (.a (.v _)) rfl rfl fnok95 rfl rfl rfl (fun hg E w1 hm => by exact geo19_c _) ?_
  refine d_call (.a (.v _)) rfl rfl fnok49 rfl rfl rfl (fun hg E w1 hm => by exact refJour_c geoC geoC_ok 0 3 _) ?_
  refine d_yield rfl rfl rfl (y_val tok rfl) rfl ?_
  refine d_yield rfl rfl rfl (y_val tok rfl) rfl ?_
  refine d_yield rfl rfl rfl (y_val tok rfl) rfl ?_
  refine d_yield rfl rfl rfl (y_val tok rfl) rfl ?_
  refine d_yield rfl rfl rfl (y_val tok rfl) rfl ?_
  refine d_call (.a (.v _)) rfl rfl fnok95 rfl rfl rfl (fun hg E w1 hm => by exact geo19_c _) ?_
  refine d_call (.a (.v _)) rfl rfl fnok49 rfl rfl rfl (fun hg E w1 hm => by exact refJour_c geoC geoC_ok 0 4 _) ?_
  refine d_yield rfl rfl rfl (y_val tok rfl) rfl ?_
  refine d_yield rfl rfl rfl (y_val tok rfl) rfl ?_
  refine d_yield rfl rfl rfl (y_val tok rfl) rfl ?_
  refine d_yield rfl rfl rfl (y_val tok rfl) rfl ?_
  refine d_call (.a (.v _)) rfl rfl fnok45 rfl rfl rfl (fun hg E w1 hm => by exact takeC0_c V2 _ _ hm.leV hs) ?_
  refine d_call (.a (.v _)) rfl rfl fnok45 rfl rfl rfl (fun hg E w1 hm => by exact take_c V2 _ recsC 1 _ hm.leV hs) ?_
  refine d_call (.a (.v _)) rfl rfl fnok37 rfl rfl rfl (fun hg E w1 hm => by exact over_c V2 _ recsC _ _ hm.leV hs) ?_
  refine d_yield rfl rfl rfl (y_val tok rfl) rfl ?_
  refine d_yield rfl rfl rfl (y_val tok rfl) rfl ?_
  refine d_end [0] rfl ?_
  refine x_then ?_
  refine c_ret ?_
  refine b_ret tok rfl ?_
  intro E w' hm _
  refine ⟨?_, hm.below ((hle1.trans hle2))⟩
  rfl
end Go.Proofs.Ytanekcndpkagiaa

/- The law CommitFits from what comes in. -/
set_option linter.unusedVariables false
set_option linter.unusedSimpArgs false
set_option maxRecDepth 100000
namespace Go.Proofs.Ytanekcndpkagiaa
open Go Go.Eng Go.RowKit

theorem commitFits_law (w : World) {v0 v1 v2 v3 v4 : Value} (R0 : ∃ g : Geo, v0 = g.val ∧ g.Ok) (R1 : ∃ n : Int, v1 = I n ∧ R64 n) (R2 : ∃ n : Int, v2 = I n ∧ R64 n) (R3 : ∃ n : Int, v3 = I n ∧ R64 n)
    (R4 : ∃ l : List Block, SlOf (vw w) Block.cells 2 v4 l ∧ l.length ≤ maxLen ∧ ∀ a ∈ l, a.Ok) : Calls Try.prog 9 #[v0, v1, v2, v3, v4] w fun e w' => e = .returned (.bool true) ∧ Below w.heap.size w w' := by
  obtain ⟨g, rfl, ok⟩ := R0
  obtain ⟨key, rfl, _⟩ := R1
  obtain ⟨head, rfl, _⟩ := R2
  obtain ⟨tail, rfl, _⟩ := R3
  obtain ⟨l, hs, hmax, _⟩ := R4
  refine enter (E := E0) (O := []) (nl := 0) (V := vw w) [.a (.v g.val), .a (.v (I key)), .a (.v (I head)), .a (.v (I tail)), .a (.v v4)] Try.func9 rfl rfl (mem0 E0 0 w) rfl rfl ?_
  refine c_seq ?_
  refine c_region ?_
  refine o_new tok rfl rfl rfl rfl ?_
  refine o_yield rfl rfl rfl (y_val tok rfl) ?_
  refine o_end [1, 2, 3, 4, 5] rfl ?_
  refine x_then ?_
  refine c_seq ?_
  refine c_seq ?_
  refine c_region ?_
  refine o_yield rfl rfl rfl (y_val tok rfl) ?_
  refine o_call (.a (.v _)) rfl rfl fnok47 rfl rfl rfl (fun hg E w1 hm => by exact refMay_c g ok _) ?_
  refine o_yield rfl rfl rfl (y_val tok rfl) ?_
  refine o_yield rfl rfl rfl (y_val tok rfl) ?_
  refine o_yield rfl rfl rfl (y_val tok rfl) ?_
  refine o_yield rfl rfl rfl (y_val tok rfl) ?_
  refine o_call (.a (.v _)) rfl rfl fnok20 rfl rfl rfl (fun hg E w1 hm => by exact refBMay_c (vw w) g ok _ l _ hm.leV hs hmax) ?_
  refine o_yield rfl rfl rfl (y_val tok rfl) ?_
  refine o_yield rfl rfl rfl (y_val tok rfl) ?_
  refine o_yield rfl rfl rfl (y_val tok rfl) ?_
  refine o_yield rfl rfl rfl (y_val tok rfl) ?_
  refine o_yield rfl rfl rfl (y_len tok rfl (fun hg => hs.sl)) ?_
  refine o_yield rfl rfl rfl (y_val tok rfl) ?_
  refine o_yield rfl rfl rfl (y_val tok rfl) ?_
  refine o_yield rfl rfl rfl (y_val tok rfl) ?_
  refine o_yield rfl rfl rfl (y_val tok rfl) ?_
  refine o_yield rfl rfl rfl (y_val tok rfl) ?_
  refine o_yield rfl rfl rfl (y_val tok rfl) ?_
  refine o_yield rfl rfl rfl (y_val tok rfl) ?_
  refine o_yield rfl rfl rfl (y_val tok rfl) ?_
  refine o_yield rfl rfl rfl (y_val tok rfl) ?_
  refine o_yield rfl rfl rfl (y_val tok rfl) ?_
  refine o_yield rfl rfl rfl (y_val tok rfl) ?_
  refine o_yield rfl rfl rfl (y_val tok rfl) ?_
  refine o_yield rfl rfl rfl (y_val tok rfl) ?_
  refine o_yield rfl rfl rfl (y_val tok rfl) ?_
  refine o_yield rfl rfl rfl (y_val tok rfl) ?_
  refine o_yield rfl rfl rfl (y_val tok rfl) ?_
  refine o_yield rfl rfl rfl (y_val tok rfl) ?_
  refine o_yield rfl rfl rfl (y_val tok rfl) ?_
  refine o_yield rfl rfl rfl (y_val tok rfl) ?_
  refine o_yield rfl rfl rfl (y_val tok rfl) ?_
  refine o_yield rfl rfl rfl (y_val tok rfl) ?_
  refine o_yield rfl rfl rfl (y_val tok rfl) ?_
  refine o_yield rfl rfl rfl (y_val tok rfl) ?_
  refine o_end [1, 2, 3, 4, 5, 48] rfl ?_
  refine x_then ?_
  refine c_cond rfl (fun h => ?_) (fun h => ?_)
  ·
    refine c_seq ?_
    refine c_region ?_
    refine o_call (.a (.v _)) rfl rfl fnok33 rfl rfl rfl (fun hg E w1 hm => by exact wakes19_c _) ?_
    refine o_yield rfl rfl rfl (y_val tok rfl) ?_
    refine o_end [10] rfl ?_
    refine x_then ?_
    refine c_ret ?_
    refine x_then_ret ?_
    refine b_ret tok rfl ?_
    intro E w' hm _
    refine ⟨?_, hm.below (Vw.le.refl _)⟩
    rfl
  ·
    simp only [Bool.and_eq_true, Bool.or_eq_true, Bool.not_eq_true', Bool.or_eq_false_iff, Bool.and_eq_false_iff, decide_eq_true_eq, decide_eq_false_iff_not, beq_iff_eq, bne_iff_ne, Bool.not_eq_false', beq_eq_false_iff_ne, bne_eq_false_iff_eq, ne_eq, Decidable.not_not, Int.not_lt, Int.not_le] at h
    have hml : mayL g l = true := by
      cases hq : mayL g l with
      | true => rfl
      | false => simp [hq] at h
    have hgg : geoB g = true := by rw [mayL, Bool.and_eq_true] at hml; exact hml.1
    have hlen := mayL_len hml
    have hf := geo_facts hgg
    have hk : l.length ≠ 0 ∧ 16 ≤ key ∧ key ≤ 1073741824 ∧ 0 ≤ tail ∧ tail ≤ head ∧ head ≤ 1073741824 := by
      rw [hml, hgg] at h
      simp only [Bool.true_eq_false, false_or] at h
      omega
    clear h
    obtain ⟨h1, h2, h3, h4, h5, h6⟩ := hk
    obtain ⟨per, hper⟩ : ∃ per : Nat, g.per = per := ⟨g.per.toNat, by omega⟩
    have hpn : g.per.toNat = per := by omega
    have hlp : l.length * per ≤ 512 := by
      have : l.length * per ≤ 64 * per := Nat.mul_le_mul_right _ (by omega)
      omega
    have hcast : (per : Int) * (l.length : Int) = ((l.length * per : Nat) : Int) := by rw [Int.mul_comm, ← Int.natCast_mul]
    have hmany : manyOf g l.length = ((l.length * per + 1 : Nat) : Int) := by
      rw [manyOf, if_pos ⟨hgg, by omega⟩, hper, show min (l.length : Int) 1099511627776 = l.length by omega, hcast]
      omega
    have hw0 : IntKind.i64.wrap (head - tail) = head - tail := wrapI (by omega) (by omega)
    refine c_skip ?_
    refine x_then ?_
    refine c_seq ?_
    refine c_region ?_
    refine o_yield rfl rfl rfl (y_val tok rfl) ?_
    refine o_yield rfl rfl rfl (y_val tok rfl) ?_
    refine o_yield rfl rfl rfl (y_val tok rfl) ?_
    refine o_yield rfl rfl rfl (y_val tok rfl) ?_
    refine o_yield rfl rfl rfl (y_val tok rfl) ?_
    refine o_callV (fun x V' => ∃ a n c L ec, x = .tuple #[putV (.slice a n c) 0, I ec] ∧ SlOf V' Record.cells 6 (.slice a n c) L ∧ BegRes g key head tail l L ec) rfl rfl fnok34 rfl rfl (fun hg E w1 hm => by exact cbegin_cV (vw w) g ok key head tail _ l _ hm.leV hs (by simp only [lim]; omega)) ?_
    rintro x V1 hle1 hx
    obtain ⟨a, n, c, L, ec, rfl, hL, hr⟩ := hx rfl
    clear hx
    rw [BegRes, hw0] at hr
    have hs1 := hs.mono hle1
    have hwn : IntKind.i64.wrap (IntKind.i64.wrap (g.per * (l.length : Int)) + 1) = ((l.length * per + 1 : Nat) : Int) := by
      rw [hper, hcast, wrapI (n := ((l.length * per : Nat) : Int)) (by omega) (by omega), wrapI (by omega) (by omega)]; omega
    have hfit : fitsV g (head - tail) l.length = if g.journal < head - tail then 2 else if g.journal < manyOf g l.length then 180 else if g.journal < manyOf g l.length + (head - tail) then 190 else 0 := by
      unfold fitsV
      by_cases hc : g.journal < head - tail
      · rw [if_pos (.inr (.inr (.inl hc))), if_pos hc]
      · rw [if_neg (by rw [hgg]; simp only [Bool.true_eq_false, false_or]; omega), if_neg hc]
    rw [hmany] at hfit
    have hec : fitsV g (head - tail) l.length ≠ 0 → ec = fitsV g (head - tail) l.length := fun h => by
      rcases hr with ⟨_, _, h3⟩ | ⟨h3, _⟩
      · exact h3
      · exact absurd h3 h
    refine o_yield rfl rfl rfl (y_val tok rfl) ?_
    refine o_yield rfl rfl rfl (y_val tok rfl) ?_
    refine o_yield rfl rfl rfl (y_val tok rfl) ?_
    refine o_new tok rfl rfl rfl rfl ?_
    refine o_store tok rfl rfl rfl (by first | exact ⟨trivial, trivial⟩ | simp [onesP, oneP, lk, Value.oneCell']) ?_
    refine o_yield rfl rfl rfl (y_val tok rfl) ?_
    refine o_end [2, 3, 4, 5, 11, 12] rfl ?_
    refine x_then ?_
    refine c_seq ?_
    refine c_region ?_
    refine o_yield rfl rfl rfl (y_val tok rfl) ?_
    refine o_yield rfl rfl rfl (y_val tok rfl) ?_
    refine o_yield rfl rfl rfl (y_val tok rfl) ?_
    refine o_yield rfl rfl rfl (y_len tok rfl (fun hg => hs1.sl)) ?_
    refine o_yield rfl rfl rfl (y_val tok rfl) ?_
    refine o_yield rfl rfl rfl (y_val tok rfl) ?_
    refine o_yield rfl rfl rfl (y_val tok rfl) ?_
    refine o_end [2, 3, 5, 11, 12, 13] rfl ?_
    refine x_then ?_
    refine c_seq ?_
    refine c_block ?_
    refine c_seq ?_
    refine c_region ?_
    refine o_yield rfl rfl rfl (y_val tok rfl) ?_
    refine o_yield rfl rfl rfl (y_val tok rfl) ?_
    refine o_yield rfl rfl rfl (y_val tok rfl) ?_
    refine o_yield rfl rfl rfl (y_val tok rfl) ?_
    refine o_yield rfl rfl rfl (y_val tok rfl) ?_
    refine o_yield rfl rfl rfl (y_val tok rfl) ?_
    refine o_yield rfl rfl rfl (y_val tok rfl) ?_
    refine o_end [2, 3, 5, 11, 12, 13, 65] rfl ?_
    refine x_then ?_
    refine c_cond rfl (fun h => ?_) (fun h => ?_)
    ·
      simp only [Bool.and_eq_true, Bool.or_eq_true, Bool.not_eq_true', Bool.or_eq_false_iff, Bool.and_eq_false_iff, decide_eq_true_eq, decide_eq_false_iff_not, beq_iff_eq, bne_iff_ne, Bool.not_eq_false', beq_eq_false_iff_ne, bne_eq_false_iff_eq, ne_eq, Decidable.not_not, Int.not_lt, Int.not_le] at h
      refine c_seq ?_
      refine c_region ?_
      refine o_yield rfl rfl rfl (y_val tok rfl) ?_
      refine o_yield rfl rfl rfl (y_val tok rfl) ?_
      refine o_yield rfl rfl rfl (y_val tok rfl) ?_
      rw [hw0] at h
      rw [if_pos h] at hfit
      have h2' := hec (by omega)
      rw [hfit] at h2'
      subst h2'
      refine o_call (.a (.v _)) rfl rfl fnok33 rfl rfl rfl (fun hg E w1 hm => by exact wakes19_c _) ?_
      refine o_yield rfl rfl rfl (y_val tok rfl) ?_
      refine o_yield rfl rfl rfl (y_val tok rfl) ?_
      refine o_end [10] rfl ?_
      refine x_then ?_
      refine c_ret ?_
      refine x_block_ret ?_
      refine x_then_ret ?_
      refine b_ret tok rfl ?_
      intro E w' hm _
      refine ⟨?_, hm.below (hle1)⟩
      rfl
    ·
      simp only [Bool.and_eq_true, Bool.or_eq_true, Bool.not_eq_true', Bool.or_eq_false_iff, Bool.and_eq_false_iff, decide_eq_true_eq, decide_eq_false_iff_not, beq_iff_eq, bne_iff_ne, Bool.not_eq_false', beq_eq_false_iff_ne, bne_eq_false_iff_eq, ne_eq, Decidable.not_not, Int.not_lt, Int.not_le] at h
      rw [hw0] at h
      have hj1 := h
      clear h
      refine c_seq ?_
      refine c_region ?_
      refine o_yield rfl rfl rfl (y_val tok rfl) ?_
      refine o_yield rfl rfl rfl (y_val tok rfl) ?_
      refine o_yield rfl rfl rfl (y_val tok rfl) ?_
      refine o_yield rfl rfl rfl (y_val tok rfl) ?_
      refine o_yield rfl rfl rfl (y_val tok rfl) ?_
      refine o_end [2, 3, 5, 11, 12, 13, 77] rfl ?_
      refine x_then ?_
      refine c_cond rfl (fun h => ?_) (fun h => ?_)
      ·
        simp only [Bool.and_eq_true, Bool.or_eq_true, Bool.not_eq_true', Bool.or_eq_false_iff, Bool.and_eq_false_iff, decide_eq_true_eq, decide_eq_false_iff_not, beq_iff_eq, bne_iff_ne, Bool.not_eq_false', beq_eq_false_iff_ne, bne_eq_false_iff_eq, ne_eq, Decidable.not_not, Int.not_lt, Int.not_le] at h
        refine c_seq ?_
        refine c_region ?_
        refine o_yield rfl rfl rfl (y_val tok rfl) ?_
        refine o_yield rfl rfl rfl (y_val tok rfl) ?_
        refine o_yield rfl rfl rfl (y_val tok rfl) ?_
        rw [hwn] at h
        rw [if_neg (by omega), if_pos h] at hfit
        have h2' := hec (by omega)
        rw [hfit] at h2'
        subst h2'
        refine o_call (.a (.v _)) rfl rfl fnok33 rfl rfl rfl (fun hg E w1 hm => by exact wakes19_c _) ?_
        refine o_yield rfl rfl rfl (y_val tok rfl) ?_
        refine o_yield rfl rfl rfl (y_val tok rfl) ?_
        refine o_end [10] rfl ?_
        refine x_then ?_
        refine c_ret ?_
        refine x_block_ret ?_
        refine x_then_ret ?_
        refine b_ret tok rfl ?_
        intro E w' hm _
        refine ⟨?_, hm.below (hle1)⟩
        rfl
      ·
        simp only [Bool.and_eq_true, Bool.or_eq_true, Bool.not_eq_true', Bool.or_eq_false_iff, Bool.and_eq_false_iff, decide_eq_true_eq, decide_eq_false_iff_not, beq_iff_eq, bne_iff_ne, Bool.not_eq_false', beq_eq_false_iff_ne, bne_eq_false_iff_eq, ne_eq, Decidable.not_not, Int.not_lt, Int.not_le] at h
        rw [hwn] at h
        have hj2 := h
        clear h
        have hwj : IntKind.i64.wrap (g.journal - IntKind.i64.wrap (head - tail)) = g.journal - (head - tail) := by rw [hw0, wrapI (by omega) (by omega)]
        refine c_seq ?_
        refine c_region ?_
        refine o_yield rfl rfl rfl (y_val tok rfl) ?_
        refine o_yield rfl rfl rfl (y_val tok rfl) ?_
        refine o_yield rfl rfl rfl (y_val tok rfl) ?_
        refine o_yield rfl rfl rfl (y_val tok rfl) ?_
        refine o_yield rfl rfl rfl (y_val tok rfl) ?_
        refine o_yield rfl rfl rfl (y_val tok rfl) ?_
        refine o_yield rfl rfl rfl (y_val tok rfl) ?_
        refine o_yield rfl rfl rfl (y_val tok rfl) ?_
        refine o_yield rfl rfl rfl (y_val tok rfl) ?_
        refine o_end [2, 11, 12, 13, 87] rfl ?_
        refine x_then ?_
        refine c_cond rfl (fun h => ?_) (fun h => ?_)
        ·
          simp only [Bool.and_eq_true, Bool.or_eq_true, Bool.not_eq_true', Bool.or_eq_false_iff, Bool.and_eq_false_iff, decide_eq_true_eq, decide_eq_false_iff_not, beq_iff_eq, bne_iff_ne, Bool.not_eq_false', beq_eq_false_iff_ne, bne_eq_false_iff_eq, ne_eq, Decidable.not_not, Int.not_lt, Int.not_le] at h
          refine c_seq ?_
          refine c_region ?_
          refine o_yield rfl rfl rfl (y_val tok rfl) ?_
          refine o_yield rfl rfl rfl (y_val tok rfl) ?_
          refine o_yield rfl rfl rfl (y_val tok rfl) ?_
          rw [hwn, hwj] at h
          rw [if_neg (by omega), if_neg (by omega), if_pos (by omega)] at hfit
          have h2' := hec (by omega)
          rw [hfit] at h2'
          subst h2'
          refine o_call (.a (.v _)) rfl rfl fnok33 rfl rfl rfl (fun hg E w1 hm => by exact wakes19_c _) ?_
          refine o_yield rfl rfl rfl (y_val tok rfl) ?_
          refine o_yield rfl rfl rfl (y_val tok rfl) ?_
          refine o_end [10] rfl ?_
          refine x_then ?_
          refine c_ret ?_
          refine x_block_ret ?_
          refine x_then_ret ?_
          refine b_ret tok rfl ?_
          intro E w' hm _
          refine ⟨?_, hm.below (hle1)⟩
          rfl
        ·
          simp only [Bool.and_eq_true, Bool.or_eq_true, Bool.not_eq_true', Bool.or_eq_false_iff, Bool.and_eq_false_iff, decide_eq_true_eq, decide_eq_false_iff_not, beq_iff_eq, bne_iff_ne, Bool.not_eq_false', beq_eq_false_iff_ne, bne_eq_false_iff_eq, ne_eq, Decidable.not_not, Int.not_lt, Int.not_le] at h
          rw [hwn, hwj] at h
          rw [if_neg (by omega), if_neg (by omega), if_neg (by omega)] at hfit
          have hne : l ≠ [] := fun hc => h1 (by rw [hc]; rfl)
          have hokk : OfOk g key head l := of_ok hml hne (by simp only [keyB, Bool.and_eq_true, decide_eq_true_eq]; omega) (by omega) (by rw [hpn]; omega) (by rw [hpn]; omega)
          have hLe : L = allRecs g key head l ∧ ec = 0 := by
            rcases hr with ⟨h3, _⟩ | ⟨_, ⟨_, h4, h5⟩ | ⟨h4, _⟩⟩
            · exact absurd hfit h3
            · exact ⟨h4, h5⟩
            · exact absurd hokk h4
          obtain ⟨hLL, rfl⟩ := hLe
          have hall := all_len g key head l
          rw [hpn, ← hLL] at hall
          clear h
          have hlast : L[l.length * per]? = some (commitOf key head (l.length * per)) := by
            have := all_last (g := g) (key := key) (lsn := head) (l := l)
            rwa [hpn, ← hLL] at this
          have hw1 : IntKind.i64.wrap (IntKind.i64.wrap (IntKind.i64.wrap (g.per * (l.length : Int)) + 1) - 1) = ((l.length * per : Nat) : Int) := by rw [hwn, wrapI (by omega) (by omega)]; omega
          have h0 : 0 < l.length * per := Nat.mul_pos (by omega) (by omega)
          have hfirst : L[0]? = some (recAt key head per l 0) := by
            have := all_at (g := g) (key := key) (lsn := head) (l := l) (j := 0) (by rw [hpn]; exact h0)
            rwa [hpn, ← hLL] at this
          refine c_skip ?_
          refine x_block ?_
          refine x_then ?_
          refine c_seq ?_
          refine c_region ?_
          refine o_yield rfl rfl rfl (y_val tok rfl) ?_
          refine o_yield rfl rfl rfl (y_val tok rfl) ?_
          refine o_yield rfl rfl rfl (y_val tok rfl) ?_
          refine o_yield rfl rfl rfl (y_val tok rfl) ?_
          refine o_yield rfl rfl rfl (y_val tok rfl) ?_
          refine o_yield rfl rfl rfl (y_len tok rfl (fun hg => hL.sl)) ?_
          refine o_yield rfl rfl rfl (y_val tok rfl) ?_
          refine o_yield rfl rfl rfl (y_val tok rfl) ?_
          refine o_yield rfl rfl rfl (y_val tok rfl) ?_
          refine o_yield rfl rfl rfl (y_val tok rfl) ?_
          refine o_yield rfl rfl rfl (y_val tok rfl) ?_
          refine o_yield rfl rfl rfl (y_val tok rfl) ?_
          refine o_yield rfl rfl rfl (y_val tok rfl) ?_
          refine o_yield rfl rfl rfl (y_val tok rfl) ?_
          refine o_yield rfl rfl rfl (y_val tok rfl) ?_
          refine o_yield rfl rfl rfl (y_val tok rfl) ?_
          refine o_call (.a (.v _)) rfl rfl fnok39 rfl rfl rfl (fun hg E w1 hm => by exact left_c V1 _ L 0 (by simp [R64]) _ hm.leV hL (by simp only [lim]; omega)) ?_
          refine o_yield rfl rfl rfl (y_val tok rfl) ?_
          refine o_yield rfl rfl rfl (y_val tok rfl) ?_
          refine o_yield rfl rfl rfl (y_val tok rfl) ?_
          refine o_yield rfl rfl rfl (y_val tok rfl) ?_
          refine o_yield rfl rfl rfl (y_val tok rfl) ?_
          refine o_yield rfl rfl rfl (y_val tok rfl) ?_
          refine o_yield rfl rfl rfl (y_val tok rfl) ?_
          refine o_yield rfl rfl rfl (y_val tok rfl) ?_
          refine o_yield rfl rfl rfl (y_idxK tok (l.length * per * 6) rfl (by rw [hw1, Int.toNat_natCast]) (fun hg => hL.sl) (fun hg => by rw [hw1]; omega)) ?_
          refine o_yield rfl rfl rfl (y_fel tok rfl (fun hg => hL.sl) (fun hg => by omega)) ?_
          refine o_yield rfl rfl rfl (y_lel tok (l.length * per) 5 (commitOf key head (l.length * per)) rfl (fun hg => hL) (fun hg => hlast) rfl rfl) ?_
          refine o_yield rfl rfl rfl (y_val tok rfl) ?_
          refine o_yield rfl rfl rfl (y_val tok rfl) ?_
          refine o_yield rfl rfl rfl (y_val tok rfl) ?_
          refine o_yield rfl rfl rfl (y_val tok rfl) ?_
          refine o_yield rfl rfl rfl (y_val tok rfl) ?_
          refine o_yield rfl rfl rfl (y_val tok rfl) ?_
          refine o_yield rfl rfl rfl (y_val tok rfl) ?_
          have hlt_recAt_key_head_per_l_0 := lt_of_at hfirst
          refine o_yield rfl rfl rfl (y_idx tok rfl (fun hg => hL.sl) (fun hg => ⟨by omega, by omega⟩)) ?_
          refine o_yield rfl rfl rfl (y_fel tok rfl (fun hg => hL.sl) (fun hg => by omega)) ?_
          refine o_yield rfl rfl rfl (y_lel tok (0) 1 (recAt key head per l 0) rfl (fun hg => hL) (fun hg => hfirst) rfl rfl) ?_
          refine o_yield rfl rfl rfl (y_val tok rfl) ?_
          refine o_yield rfl rfl rfl (y_val tok rfl) ?_
          refine o_yield rfl rfl rfl (y_val tok rfl) ?_
          refine o_yield rfl rfl rfl (y_val tok rfl) ?_
          refine o_call (.a (.v _)) rfl rfl fnok33 rfl rfl rfl (fun hg E w1 hm => by exact wakes19_c _) ?_
          refine o_yield rfl rfl rfl (y_val tok rfl) ?_
          refine o_yield rfl rfl rfl (y_val tok rfl) ?_
          refine o_end [10] rfl ?_
          refine x_then ?_
          refine c_ret ?_
          refine b_ret tok rfl ?_
          intro E w' hm _
          refine ⟨?_, hm.below (hle1)⟩
          show Ending.returned (.bool _) = _
          rw [hw1, hwn, hall]
          congr 2
          have e1 : leftV ((l.length * per + 1 : Nat) : Int) 0 = ((l.length * per + 1 : Nat) : Int) := by unfold leftV; omega
          rw [e1]
          simp [commitOf, recAt]
end Go.Proofs.Ytanekcndpkagiaa

/- The law CommitActs from what comes in. -/
set_option linter.unusedVariables false
set_option linter.unusedSimpArgs false
set_option maxRecDepth 100000
namespace Go.Proofs.Ytanekcndpkagiaa
open Go Go.Eng Go.RowKit

def ActV.eqB (a b : ActV) : Bool := a.kind == b.kind && (a.sector == b.sector && (a.b.toList == b.b.toList && a.key == b.key))

theorem actEq {op : BinOp} {ox oy : Operand} (a b : ActV) (w : World) (hop : op = .eql ∨ op = .neq) :
    (do eqGuard op 64 ox oy a.val b.val; binOp op 64 a.val b.val : Sem Value).run Try.prog w = .ok (.bool (if op = .eql then a.eqB b else !(a.eqB b))) w := by
  have hS : Try.prog.underlying 64 = some (.struct (Try.prog.fieldsOf 64)) := by kernel_rfl
  have hp : Try.prog.stoodInHeld 64 = false := by kernel_rfl
  have hg : Try.prog.eqGuardType Try.prog.depth 64 = false := by kernel_rfl
  have key : (Op.equalIn 10000 64 a.val b.val).run Try.prog w = .ok (a.eqB b) w := by
    have u3 := Try.underlying3
    have a3 := Try.isAgg3
    have z3 := Try.sizeOf3
    have u8 := Try.underlying62
    have a8 := Try.isAgg62
    have z8 := Try.sizeOf62
    have u9 := Try.underlying9
    have a9 := Try.isAgg9
    have z9 := Try.sizeOf9
    rw [show (10000 : Nat) = 9999 + 1 from rfl, run_equalIn_agg w 9999 64 _ _ hS hp]
    simp only [Program.fieldsOf, Try.underlying64]
    go_simp
    unfold ActV.eqB
    by_cases h1 : a.kind = b.kind <;> by_cases h2 : a.sector = b.sector <;> by_cases h3 : a.b.toList = b.b.toList <;> by_cases h4 : a.key = b.key <;> simp [h1, h2, h3, h4]
  rw [Sem.run_bind, run_eqGuard_agg w _ _ _ _ _ _ hg]
  rcases hop with rfl | rfl
  · simp only [Result.andThen_ok, run_eql_struct, key]; rfl
  · simp only [Result.andThen_ok, run_neq_struct, key]; rfl

theorem ActV.eqB_refl (a : ActV) : a.eqB a = true := by simp [ActV.eqB]

theorem all_recB {g : Geo} {key lsn : Int} {l : List Block} (h : OfOk g key lsn l) {i : Nat} {r : Record} (hr : (allRecs g key lsn l)[i]? = some r) : recB r = true := by
  have hlt := (List.getElem?_eq_some_iff.1 hr).1
  rw [all_len] at hlt
  by_cases hi : i < l.length * g.per.toNat
  · rw [all_at hi] at hr
    cases hr
    exact h.recsB i hi
  · have : i = l.length * g.per.toNat := by omega
    subst this
    rw [all_last] at hr
    cases hr
    exact h.commitB

theorem jour_some {g : Geo} {slot lsn : Int} (hg : geoB g = true) (h0 : 0 ≤ slot) (h1 : slot < g.slots) (h2 : 0 ≤ lsn) : 0 ≤ jourV g slot lsn := by
  have hf := geo_facts hg
  have hh : headV g slot = 1 + 2 * g.nodes + g.log + slot * (1 + g.journal) := by rw [headV, if_pos ⟨hg, h0, h1⟩]
  have hm : 0 ≤ slot * (1 + g.journal) := Int.mul_nonneg h0 (by omega)
  have he : 0 ≤ lsn % g.journal := Int.emod_nonneg _ (by omega)
  rw [jourV, if_neg (by omega)]
  omega

theorem next_at {L : List Record} {i : Nat} {r : Record} (h : L[i]? = some r) : nextR L i = r := by
  rw [nextR, if_neg (by omega), Int.toNat_natCast, h]; rfl

theorem want_at {pl : Int → Int} {L : List Record} {i : Nat} {r : Record} (h : L[i]? = some r) (hr : recB r = true) (hp : 0 ≤ pl r.lsn) : wantV pl L i = ⟨2, pl r.lsn, recBytes r, 0⟩ := by
  have hlt := (List.getElem?_eq_some_iff.1 h).1
  rw [wantV, next_at h, bytesE, if_pos hr, bytesV, if_pos hr, if_pos ⟨⟨by omega, by omega⟩, rfl, hp⟩]

theorem want_end {pl : Int → Int} {L : List Record} : wantV pl L L.length = act0 := by
  rw [wantV, if_neg (by omega)]

theorem commitActs_law (w : World) {v0 v1 v2 v3 v4 v5 : Value} (R0 : ∃ g : Geo, v0 = g.val ∧ g.Ok) (R1 : ∃ n : Int, v1 = I n ∧ R64 n) (R2 : ∃ n : Int, v2 = I n ∧ R64 n) (R3 : ∃ n : Int, v3 = I n ∧ R64 n) (R4 : ∃ n : Int, v4 = I n ∧ R64 n)
    (R5 : ∃ l : List Block, SlOf (vw w) Block.cells 2 v5 l ∧ l.length ≤ maxLen ∧ ∀ a ∈ l, a.Ok) : Calls Try.prog 10 #[v0, v1, v2, v3, v4, v5] w fun e w' => e = .returned (.bool true) ∧ Below w.heap.size w w' := by
  obtain ⟨g, rfl, ok⟩ := R0
  obtain ⟨key, rfl, _⟩ := R1
  obtain ⟨head, rfl, _⟩ := R2
  obtain ⟨tail, rfl, _⟩ := R3
  obtain ⟨slot, rfl, _⟩ := R4
  obtain ⟨l, hs, hmax, _⟩ := R5
  refine enter (E := E0) (O := []) (nl := 0) (V := vw w) [.a (.v g.val), .a (.v (I key)), .a (.v (I head)), .a (.v (I tail)), .a (.v (I slot)), .a (.v v5)] Try.func10 rfl rfl (mem0 E0 0 w) rfl rfl ?_
  refine c_seq ?_
  refine c_region ?_
  refine o_new tok rfl rfl rfl rfl ?_
  refine o_yield rfl rfl rfl (y_val tok rfl) ?_
  refine o_end [1, 2, 3, 4, 5, 6] rfl ?_
  refine x_then ?_
  refine c_seq ?_
  refine c_seq ?_
  refine c_region ?_
  refine o_yield rfl rfl rfl (y_val tok rfl) ?_
  refine o_call (.a (.v _)) rfl rfl fnok15 rfl rfl rfl (fun hg E w1 hm => by exact great_c (vw w) _ l _ hm.leV hs hmax) ?_
  refine o_yield rfl rfl rfl (y_val tok rfl) ?_
  refine o_yield rfl rfl rfl (y_val tok rfl) ?_
  refine o_yield rfl rfl rfl (y_val tok rfl) ?_
  refine o_yield rfl rfl rfl (y_val tok rfl) ?_
  refine o_yield rfl rfl rfl (y_val tok rfl) ?_
  refine o_yield rfl rfl rfl (y_val tok rfl) ?_
  refine o_yield rfl rfl rfl (y_val tok rfl) ?_
  refine o_yield rfl rfl rfl (y_val tok rfl) ?_
  refine o_yield rfl rfl rfl (y_val tok rfl) ?_
  refine o_yield rfl rfl rfl (y_val tok rfl) ?_
  refine o_yield rfl rfl rfl (y_val tok rfl) ?_
  refine o_yield rfl rfl rfl (y_val tok rfl) ?_
  refine o_yield rfl rfl rfl (y_val tok rfl) ?_
  refine o_yield rfl rfl rfl (y_val tok rfl) ?_
  refine o_yield rfl rfl rfl (y_val tok rfl) ?_
  refine o_yield rfl rfl rfl (y_val tok rfl) ?_
  refine o_yield rfl rfl rfl (y_val tok rfl) ?_
  refine o_yield rfl rfl rfl (y_val tok rfl) ?_
  refine o_yield rfl rfl rfl (y_val tok rfl) ?_
  refine o_yield rfl rfl rfl (y_val tok rfl) ?_
  refine o_yield rfl rfl rfl (y_val tok rfl) ?_
  refine o_yield rfl rfl rfl (y_val tok rfl) ?_
  refine o_yield rfl rfl rfl (y_val tok rfl) ?_
  refine o_yield rfl rfl rfl (y_val tok rfl) ?_
  refine o_yield rfl rfl rfl (y_val tok rfl) ?_
  refine o_yield rfl rfl rfl (y_val tok rfl) ?_
  refine o_yield rfl rfl rfl (y_val tok rfl) ?_
  refine o_end [1, 2, 3, 4, 5, 6, 48] rfl ?_
  refine x_then ?_
  refine c_cond rfl (fun h => ?_) (fun h => ?_)
  ·
    refine c_seq ?_
    refine c_region ?_
    refine o_call (.a (.v _)) rfl rfl fnok33 rfl rfl rfl (fun hg E w1 hm => by exact wakes19_c _) ?_
    refine o_yield rfl rfl rfl (y_val tok rfl) ?_
    refine o_end [12] rfl ?_
    refine x_then ?_
    refine c_ret ?_
    refine x_then_ret ?_
    refine b_ret tok rfl ?_
    intro E w' hm _
    refine ⟨?_, hm.below (Vw.le.refl _)⟩
    rfl
  ·
    simp only [Bool.and_eq_true, Bool.or_eq_true, Bool.not_eq_true', Bool.or_eq_false_iff, Bool.and_eq_false_iff, decide_eq_true_eq, decide_eq_false_iff_not, beq_iff_eq, bne_iff_ne, Bool.not_eq_false', beq_eq_false_iff_ne, bne_eq_false_iff_eq, ne_eq, Decidable.not_not, Int.not_lt, Int.not_le] at h
    have hgr : greatB l = false := by
      cases hq : greatB l with
      | false => rfl
      | true => simp [hq] at h
    have hlen := great_no hgr
    have hk : 0 ≤ head ∧ head ≤ 1073741824 ∧ 0 ≤ tail ∧ tail ≤ head ∧ 0 ≤ slot ∧ slot < g.slots := by
      rw [hgr] at h
      simp only [Bool.false_eq_true, false_or] at h
      omega
    clear h
    obtain ⟨h1, h2, h3, h4, h5, h6⟩ := hk
    have hw0 : IntKind.i64.wrap (head - tail) = head - tail := wrapI (by omega) (by omega)
    refine c_skip ?_
    refine x_then ?_
    refine c_seq ?_
    refine c_region ?_
    refine o_yield rfl rfl rfl (y_val tok rfl) ?_
    refine o_yield rfl rfl rfl (y_val tok rfl) ?_
    refine o_yield rfl rfl rfl (y_val tok rfl) ?_
    refine o_yield rfl rfl rfl (y_val tok rfl) ?_
    refine o_yield rfl rfl rfl (y_val tok rfl) ?_
    refine o_callV (fun x V' => ∃ a n c L ec, x = .tuple #[putV (.slice a n c) 0, I ec] ∧ SlOf V' Record.cells 6 (.slice a n c) L ∧ BegRes g key head tail l L ec) rfl rfl fnok34 rfl rfl (fun hg E w1 hm => by exact cbegin_cV (vw w) g ok key head tail _ l _ hm.leV hs (by simp only [lim]; omega)) ?_
    rintro x V1 hle1 hx
    obtain ⟨a, n, c, L, ec, rfl, hL, hr⟩ := hx rfl
    clear hx
    rw [BegRes, hw0] at hr
    refine o_yield rfl rfl rfl (y_val tok rfl) ?_
    refine o_yield rfl rfl rfl (y_val tok rfl) ?_
    refine o_yield rfl rfl rfl (y_val tok rfl) ?_
    refine o_new tok rfl rfl rfl rfl ?_
    refine o_store tok rfl rfl rfl (by first | exact ⟨trivial, trivial⟩ | simp [onesP, oneP, lk, Value.oneCell']) ?_
    refine o_yield rfl rfl rfl (y_val tok rfl) ?_
    refine o_end [1, 2, 4, 6, 13, 14] rfl ?_
    refine x_then ?_
    refine c_seq ?_
    refine c_seq ?_
    refine c_region ?_
    refine o_yield rfl rfl rfl (y_val tok rfl) ?_
    refine o_yield rfl rfl rfl (y_val tok rfl) ?_
    refine o_end [1, 2, 4, 6, 13, 60] rfl ?_
    refine x_then ?_
    refine c_cond rfl (fun h => ?_) (fun h => ?_)
    ·
      simp only [Bool.and_eq_true, Bool.or_eq_true, Bool.not_eq_true', Bool.or_eq_false_iff, Bool.and_eq_false_iff, decide_eq_true_eq, decide_eq_false_iff_not, beq_iff_eq, bne_iff_ne, Bool.not_eq_false', beq_eq_false_iff_ne, bne_eq_false_iff_eq, ne_eq, Decidable.not_not, Int.not_lt, Int.not_le] at h
      refine c_seq ?_
      refine c_region ?_
      refine o_yield rfl rfl rfl (y_val tok rfl) ?_
      refine o_yield rfl rfl rfl (y_val tok rfl) ?_
      have hL0 : L = [] := by
        rcases hr with ⟨_, h', _⟩ | ⟨_, ⟨_, _, h'⟩ | ⟨_, h', _⟩⟩
        · exact h'
        · exact absurd h' h
        · exact h'
      subst hL0
      refine o_yield rfl rfl rfl (y_len tok rfl (fun hg => hL.sl)) ?_
      refine o_yield rfl rfl rfl (y_val tok rfl) ?_
      refine o_yield rfl rfl rfl (y_val tok rfl) ?_
      refine o_call (.a (.v _)) rfl rfl fnok33 rfl rfl rfl (fun hg E w1 hm => by exact wakes19_c _) ?_
      refine o_yield rfl rfl rfl (y_val tok rfl) ?_
      refine o_yield rfl rfl rfl (y_val tok rfl) ?_
      refine o_end [12] rfl ?_
      refine x_then ?_
      refine c_ret ?_
      refine x_then_ret ?_
      refine b_ret tok rfl ?_
      intro E w' hm _
      refine ⟨?_, hm.below (hle1)⟩
      rfl
    ·
      simp only [Bool.and_eq_true, Bool.or_eq_true, Bool.not_eq_true', Bool.or_eq_false_iff, Bool.and_eq_false_iff, decide_eq_true_eq, decide_eq_false_iff_not, beq_iff_eq, bne_iff_ne, Bool.not_eq_false', beq_eq_false_iff_ne, bne_eq_false_iff_eq, ne_eq, Decidable.not_not, Int.not_lt, Int.not_le] at h
      subst h
      obtain ⟨hfit, hok, hLL⟩ : fitsV g (head - tail) l.length = 0 ∧ OfOk g key head l ∧ L = allRecs g key head l := by
        rcases hr with ⟨h', _, h''⟩ | ⟨h', ⟨h'', h3, _⟩ | ⟨_, _, h'''⟩⟩
        · exact absurd h''.symm h'
        · exact ⟨h', h'', h3⟩
        · exact absurd h''' (by simp)
      obtain ⟨hgg, _, _, _, hmj⟩ := fits_low hfit
      have hf := geo_facts hgg
      obtain ⟨per, hper⟩ : ∃ per : Nat, g.per = per := ⟨g.per.toNat, by omega⟩
      have hpn : g.per.toNat = per := by omega
      have hne : l.length ≠ 0 := fun hc => hok.some_ (List.eq_nil_of_length_eq_zero hc)
      have hcast : (per : Int) * (l.length : Int) = ((l.length * per : Nat) : Int) := by rw [Int.mul_comm, ← Int.natCast_mul]
      have hmany : manyOf g l.length = ((l.length * per + 1 : Nat) : Int) := by
        rw [manyOf, if_pos ⟨hgg, by omega⟩, hper, show min (l.length : Int) 1099511627776 = l.length by omega, hcast]
        omega
      rw [hmany] at hmj
      have hall := all_len g key head l
      rw [hpn, ← hLL] at hall
      have hleft : leftV L.length 0 = L.length := by unfold leftV; omega
      have hm1 : 1 ≤ l.length * g.per.toNat := Nat.mul_pos (by omega) (by omega)
      refine c_skip ?_
      refine x_then ?_
      refine c_seq ?_
      refine c_region ?_
      refine o_yield rfl rfl rfl (y_val tok rfl) ?_
      refine o_call (.a (.v _)) rfl rfl fnok39 rfl rfl rfl (fun hg E w1 hm => by exact left_c V1 _ L 0 (by simp [R64]) _ hm.leV hL (by simp only [lim]; omega)) ?_
      refine o_yield rfl rfl rfl (y_val tok rfl) ?_
      refine o_end [1, 2, 4, 6, 13, 15] rfl ?_
      refine x_then ?_
      refine c_seq ?_
      refine c_seq ?_
      refine c_region ?_
      refine o_yield rfl rfl rfl (y_val tok rfl) ?_
      refine o_yield rfl rfl rfl (y_val tok rfl) ?_
      refine o_yield rfl rfl rfl (y_val tok rfl) ?_
      refine o_yield rfl rfl rfl (y_val tok rfl) ?_
      refine o_yield rfl rfl rfl (y_val tok rfl) ?_
      refine o_yield rfl rfl rfl (y_val tok rfl) ?_
      refine o_yield rfl rfl rfl (y_val tok rfl) ?_
      refine o_yield rfl rfl rfl (y_val tok rfl) ?_
      rw [hleft]
      refine o_yield rfl rfl rfl (y_len tok rfl (fun hg => hL.sl)) ?_
      refine o_yield rfl rfl rfl (y_val tok rfl) ?_
      refine o_yield rfl rfl rfl (y_val tok rfl) ?_
      refine o_end [1, 2, 4, 6, 13, 15, 80] rfl ?_
      refine x_then ?_
      refine c_cond rfl (fun h => ?_) (fun h => ?_)
      ·
        simp only [Bool.and_eq_true, Bool.or_eq_true, Bool.not_eq_true', Bool.or_eq_false_iff, Bool.and_eq_false_iff, decide_eq_true_eq, decide_eq_false_iff_not, beq_iff_eq, bne_iff_ne, Bool.not_eq_false', beq_eq_false_iff_ne, bne_eq_false_iff_eq, ne_eq, Decidable.not_not, Int.not_lt, Int.not_le] at h
        refine c_seq ?_
        refine c_region ?_
        refine o_yield rfl rfl rfl (y_val tok rfl) ?_
        refine o_end [12] rfl ?_
        refine x_then ?_
        refine c_ret ?_
        refine x_then_ret ?_
        refine b_ret tok rfl ?_
        exfalso
        simp only [not_true_eq_false, or_false] at h
        omega
      ·
        simp only [Bool.and_eq_true, Bool.or_eq_true, Bool.not_eq_true', Bool.or_eq_false_iff, Bool.and_eq_false_iff, decide_eq_true_eq, decide_eq_false_iff_not, beq_iff_eq, bne_iff_ne, Bool.not_eq_false', beq_eq_false_iff_ne, bne_eq_false_iff_eq, ne_eq, Decidable.not_not, Int.not_lt, Int.not_le] at h
        clear h
        refine c_skip ?_
        refine x_then ?_
        refine c_seq ?_
        refine c_seq ?_
        refine c_region ?_
        refine o_yield rfl rfl rfl (y_val tok rfl) ?_
        refine o_end [1, 2, 4, 6, 13, 15, 16] rfl ?_
        refine x_then ?_
        refine c_block ?_
        refine c_loopK [1, 2, 4, 6, 13, 15] [1] rfl rfl (σ := Nat) (fun i => [(16, .a (.v (I i)))]) (fun i => [(1, .lit [.v (.slice a n c), .v (I i)] 55)]) (fun i => i ≤ L.length) (fun i => L.length - i) (0) (by omega) (by repeat (first | exact SubF.nil | refine SubF.cons rfl ?_)) (by repeat (first | exact SubO.nil | refine SubO.cons rfl ?_)) rfl ?_
        rintro i hi
        refine c_seq ?_
        refine c_seq ?_
        refine c_region ?_
        refine o_yield rfl rfl rfl (y_val tok rfl) ?_
        refine o_yield rfl rfl rfl (y_val tok rfl) ?_
        refine o_yield rfl rfl rfl (y_val tok rfl) ?_
        refine o_end [1, 2, 4, 6, 13, 15, 16, 83] rfl ?_
        refine x_then ?_
        refine c_cond rfl (fun h => ?_) (fun h => ?_)
        ·
          simp only [Bool.and_eq_true, Bool.or_eq_true, Bool.not_eq_true', Bool.or_eq_false_iff, Bool.and_eq_false_iff, decide_eq_true_eq, decide_eq_false_iff_not, beq_iff_eq, bne_iff_ne, Bool.not_eq_false', beq_eq_false_iff_ne, bne_eq_false_iff_eq, ne_eq, Decidable.not_not, Int.not_lt, Int.not_le] at h
          refine c_skip ?_
          refine x_then ?_
          refine c_seq ?_
          refine c_block ?_
          refine c_seq ?_
          refine c_region ?_
          refine o_yield rfl rfl rfl (y_val tok rfl) ?_
          refine o_yield rfl rfl rfl (y_val tok rfl) ?_
          refine o_yield rfl rfl rfl (y_val tok rfl) ?_
          obtain ⟨r, hrr⟩ := hL.at (k := i) (by omega)
          have hrr' := hrr
          rw [hLL] at hrr'
          have hrb := all_recB hok hrr'
          obtain ⟨f1, f2, f3⟩ := all_facts hm1 hrr'
          have hj := jour_some (lsn := head + i) hgg h5 h6 (by omega)
          have hw := want_at (pl := jourV g slot) hrr hrb (by rw [f1]; exact hj)
          rw [f1] at hw
          have hwc := fun w1 (hV : V1.le (vw w1)) => want_c V1 g ok _ L i slot w1 hV hL
          rw [hw] at hwc
          have hsz := recBytes_size (recOk hrb)
          have hrt := (recOk hrb).text
          have his : isB (recBytes r) key (head + i) = true := by rw [is_rec hrb, f2, f1, decide_eq_true rfl, decide_eq_true rfl]; rfl
          have hiv : isV (recBytes r) key (head + i) = r := by rw [isV, if_pos his]; exact (read_rec hrb).2.1
          have hwi : IntKind.i64.wrap (head + (i : Int)) = head + i := wrapI (by omega) (by omega)
          have hwl : IntKind.i64.wrap ((L.length : Int) - 1) = (L.length : Int) - 1 := wrapI (by omega) (by omega)
          have hcnt : decide (0 < r.count) = ((i : Int) == (L.length : Int) - 1) := by
            have hc0 := (recOk hrb).count
            rw [Bool.eq_iff_iff, decide_eq_true_eq, beq_iff_eq]
            rw [hpn] at f3
            by_cases hi2 : i < l.length * per
            · rw [decide_eq_true hi2, beq_iff_eq] at f3
              omega
            · rw [decide_eq_false hi2, beq_eq_false_iff_ne] at f3
              omega
          refine o_call (.a (.v _)) rfl rfl fnok43 rfl rfl rfl (fun hg E w1 hm => by exact hwc _ hm.leV) ?_
          refine o_new tok rfl rfl rfl rfl ?_
          refine o_store tok rfl rfl rfl (by first | exact ⟨trivial, trivial⟩ | simp [onesP, oneP, lk, Value.oneCell']) ?_
          refine o_end [1, 2, 4, 6, 13, 15, 16, 17] rfl ?_
          refine x_then ?_
          refine c_seq ?_
          refine c_region ?_
          refine o_yield rfl rfl rfl (y_val tok rfl) ?_
          refine o_yield rfl rfl rfl (y_val tok rfl) ?_
          refine o_yield rfl rfl rfl (y_val tok rfl) ?_
          refine o_yield rfl rfl rfl (y_val tok rfl) ?_
          refine o_yield rfl rfl rfl (y_val tok rfl) ?_
          refine o_yield rfl rfl rfl (y_val tok rfl) ?_
          rw [hwi]
          refine o_call (.a (.v _)) rfl rfl fnok48 rfl rfl rfl (fun hg E w1 hm => by exact refIs_c (recBytes r) key (head + i) (by simp only [maxLen]; omega) _) ?_
          refine o_yield rfl rfl rfl (y_val tok rfl) ?_
          refine o_yield rfl rfl rfl (y_val tok rfl) ?_
          refine o_yield rfl rfl rfl (y_val tok rfl) ?_
          refine o_new tok rfl rfl rfl rfl ?_
          refine o_store tok rfl rfl rfl (by first | exact ⟨trivial, trivial⟩ | simp [onesP, oneP, lk, Value.oneCell']) ?_
          refine o_yield rfl rfl rfl (y_val tok rfl) ?_
          refine o_end [1, 2, 4, 6, 13, 15, 16, 17, 18, 19] rfl ?_
          refine x_then ?_
          refine c_seq ?_
          refine c_seq ?_
          refine c_draw mixed (by kernel_rfl) ?_
          refine d_yield rfl rfl rfl (y_val tok rfl) rfl ?_
          rw [hiv, his]
          refine d_call (.a (.v _)) rfl rfl fnok37 rfl rfl rfl (fun hg E w1 hm => by exact over_c V1 _ L i _ hm.leV hL) ?_
          refine d_yield rfl rfl rfl (y_val tok rfl) rfl ?_
          refine d_yield rfl rfl rfl (y_val tok rfl) rfl ?_
          refine d_yield rfl rfl rfl (y_val tok rfl) rfl ?_
          refine d_yield rfl rfl rfl (y_val tok rfl) rfl ?_
          refine d_yield rfl rfl rfl (y_val tok rfl) rfl ?_
          refine d_yield rfl rfl rfl (y_val tok rfl) rfl ?_
          refine d_yield rfl rfl rfl (y_val tok rfl) rfl ?_
          refine d_yield rfl rfl rfl (y_val tok rfl) rfl ?_
          refine d_yield rfl rfl rfl (y_val tok rfl) rfl ?_
          refine d_yield rfl rfl rfl (y_val tok rfl) rfl ?_
          refine d_yield rfl rfl rfl (y_val tok rfl) rfl ?_
          refine d_yield rfl rfl rfl (y_val tok rfl) rfl ?_
          refine d_yield rfl rfl rfl (y_val tok rfl) rfl ?_
          refine d_call (.a (.v _)) rfl rfl fnok49 rfl rfl rfl (fun hg E w1 hm => by exact refJour_c g ok slot _ _) ?_
          refine d_yield rfl rfl rfl (y_val tok rfl) rfl ?_
          refine d_yield rfl rfl rfl (y_val tok rfl) rfl ?_
          refine d_yield rfl rfl rfl (y_val tok rfl) rfl ?_
          refine d_yield rfl rfl rfl (y_val tok rfl) rfl ?_
          refine d_yield rfl rfl rfl (y_val tok rfl) rfl ?_
          refine d_yield rfl rfl rfl (y_val tok rfl) rfl ?_
          refine d_yield rfl rfl rfl (y_val tok rfl) rfl ?_
          refine d_yield rfl rfl rfl (y_val tok rfl) rfl ?_
          refine d_yield rfl rfl rfl (y_val tok rfl) rfl ?_
          refine d_yield rfl rfl rfl (y_val tok rfl) rfl ?_
          refine d_yield rfl rfl rfl (y_val tok rfl) rfl ?_
          refine d_yield rfl rfl rfl (y_val tok rfl) rfl ?_
          refine d_yield rfl rfl rfl (y_val tok rfl) rfl ?_
          refine d_yield rfl rfl rfl (y_val tok rfl) rfl ?_
          refine d_yield rfl rfl rfl (y_val tok rfl) rfl ?_
          refine d_yield rfl rfl rfl (y_val tok rfl) rfl ?_
          refine d_end [1, 2, 4, 6, 13, 15, 16, 131] rfl ?_
          refine x_then ?_
          refine c_cond rfl (fun h => ?_) (fun h => ?_)
          ·
            refine c_seq ?_
            refine c_region ?_
            refine o_yield rfl rfl rfl (y_val tok rfl) ?_
            refine o_end [12] rfl ?_
            refine x_then ?_
            refine c_ret ?_
            refine x_then_ret ?_
            refine x_block_ret ?_
            refine x_then_ret ?_
            refine x_then_ret ?_
            refine x_block_ret ?_
            refine x_then_ret ?_
            refine b_ret tok rfl ?_
            exfalso
            rw [hwi, hwl, hcnt] at h
            simp at h
            omega
          ·
            refine c_skip ?_
            refine x_then ?_
            refine c_region ?_
            refine o_yield rfl rfl rfl (y_val tok rfl) ?_
            clear h
            refine o_call (.a (.v _)) rfl rfl fnok45 rfl rfl rfl (fun hg E w1 hm => by exact take_c V1 _ L i _ hm.leV hL) ?_
            refine o_store tok rfl rfl rfl (by first | exact ⟨trivial, trivial⟩ | simp [onesP, oneP, lk, Value.oneCell']) ?_
            refine o_end [1, 2, 4, 6, 13, 15, 16] rfl ?_
            refine x_block ?_
            refine x_then ?_
            refine c_region ?_
            refine o_yield rfl rfl rfl (y_val tok rfl) ?_
            refine o_yield rfl rfl rfl (y_val tok rfl) ?_
            refine o_yield rfl rfl rfl (y_val tok rfl) ?_
            refine o_end [1, 2, 4, 6, 13, 15, 16] rfl ?_
            refine x_then ?_
            rw [show takeI (L.length : Int) (i : Int) = ((i + 1 : Nat) : Int) by rw [takeI, if_neg (by omega), wrapI (by omega) (by omega)]; omega]
            rw [wrapI (n := (i : Int) + 1) (by omega) (by omega)]
            refine x_round (i + 1) (by omega) (by first | omega | (dsimp only; omega)) (by repeat (first | exact SubF.nil | refine SubF.cons rfl ?_)) (by repeat (first | exact SubO.nil | refine SubO.cons rfl ?_)) rfl (Vw.le.refl _)
        ·
          simp only [Bool.and_eq_true, Bool.or_eq_true, Bool.not_eq_true', Bool.or_eq_false_iff, Bool.and_eq_false_iff, decide_eq_true_eq, decide_eq_false_iff_not, beq_iff_eq, bne_iff_ne, Bool.not_eq_false', beq_eq_false_iff_ne, bne_eq_false_iff_eq, ne_eq, Decidable.not_not, Int.not_lt, Int.not_le] at h
          have hil : i = L.length := by omega
          subst hil
          have hwc := fun w1 (hV : V1.le (vw w1)) => want_c V1 g ok _ L L.length slot w1 hV hL
          rw [want_end] at hwc
          have hl0 : leftV L.length L.length = 0 := by unfold leftV; omega
          refine c_exit ?_
          refine x_then_exit ?_
          refine x_then_exit ?_
          refine x_block_hit ?_
          refine x_then ?_
          refine c_seq ?_
          refine c_region ?_
          refine o_yield rfl rfl rfl (y_val tok rfl) ?_
          refine o_call (.a (.v _)) rfl rfl fnok37 rfl rfl rfl (fun hg E w1 hm => by exact over_c V1 _ L _ _ hm.leV hL) ?_
          refine o_yield rfl rfl rfl (y_val tok rfl) ?_
          refine o_yield rfl rfl rfl (y_val tok rfl) ?_
          refine o_yield rfl rfl rfl (y_val tok rfl) ?_
          refine o_yield rfl rfl rfl (y_val tok rfl) ?_
          refine o_call (.a (.v _)) rfl rfl fnok43 rfl rfl rfl (fun hg E w1 hm => by exact hwc _ hm.leV) ?_
          refine o_yield rfl rfl rfl (y_val tok rfl) ?_
          refine o_yield rfl rfl rfl (y_seq (.bool (act0.eqB act0)) rfl (fun E w => actEq act0 act0 w (.inl rfl))) ?_
          refine o_yield rfl rfl rfl (y_val tok rfl) ?_
          refine o_yield rfl rfl rfl (y_val tok rfl) ?_
          refine o_yield rfl rfl rfl (y_val tok rfl) ?_
          refine o_call (.a (.v _)) rfl rfl fnok39 rfl rfl rfl (fun hg E w1 hm => by exact left_c V1 _ L _ (by unfold R64; omega) _ hm.leV hL (by simp only [lim]; omega)) ?_
          refine o_yield rfl rfl rfl (y_val tok rfl) ?_
          refine o_yield rfl rfl rfl (y_val tok rfl) ?_
          refine o_yield rfl rfl rfl (y_val tok rfl) ?_
          refine o_yield rfl rfl rfl (y_val tok rfl) ?_
          refine o_yield rfl rfl rfl (y_val tok rfl) ?_
          refine o_call (.a (.v _)) rfl rfl fnok41 rfl rfl rfl (fun hg E w1 hm => by exact chead_c V1 _ L _ head _ hm.leV hL) ?_
          refine o_yield rfl rfl rfl (y_val tok rfl) ?_
          refine o_yield rfl rfl rfl (y_val tok rfl) ?_
          refine o_yield rfl rfl rfl (y_val tok rfl) ?_
          refine o_yield rfl rfl rfl (y_val tok rfl) ?_
          refine o_yield rfl rfl rfl (y_val tok rfl) ?_
          refine o_yield rfl rfl rfl (y_val tok rfl) ?_
          refine o_call (.a (.v _)) rfl rfl fnok33 rfl rfl rfl (fun hg E w1 hm => by exact wakes19_c _) ?_
          refine o_yield rfl rfl rfl (y_val tok rfl) ?_
          refine o_yield rfl rfl rfl (y_val tok rfl) ?_
          refine o_end [12] rfl ?_
          refine x_then ?_
          refine c_ret ?_
          refine b_ret tok rfl ?_
          intro E w' hm _
          refine ⟨?_, hm.below (hle1)⟩
          rw [hl0, ActV.eqB_refl]
          simp
          rfl
end Go.Proofs.Ytanekcndpkagiaa

/- Sectors that are made of numbers: the document's. -/
set_option linter.unusedVariables false
set_option linter.unusedSimpArgs false
set_option maxRecDepth 100000
namespace Go.Proofs.Ytanekcndpkagiaa
open Go Go.Eng Go.RowKit

theorem refMake_c (kind : Int) (hk : R8 kind) (t : ByteArray) (V : Vw) (kv nv : Value) (ks ns : List Int) (w : World) (ht : t.size ≤ 1099511627776) (hV : V.le (vw w)) (hks : SlOf V encI64 1 kv ks) (hns : SlOf V encI64 1 nv ns)
    (hlen : ks.length = ns.length) (hn : ns.length ≤ 1000) (hfit : ∀ (i : Nat) (k n : Int), ks[i]? = some k → ns[i]? = some n → putOk k [n] = true) (hsz : ∀ i : Nat, (packL (ks.take i) (ns.take i)).length ≤ 505) :
    Calls Try.prog 106 #[I8 kind, S t, kv, nv] w fun e w' => e = .returned (.tuple #[S (sealS kind (strOf (packL ks ns) ++ t)).1, I (sealS kind (strOf (packL ks ns) ++ t)).2]) ∧ Below w.heap.size w w' := by
  have hks' := hks.mono hV
  have hns' := hns.mono hV
  refine enter (E := E0) (O := []) (nl := 0) (V := vw w) [.a (.v (I8 kind)), .a (.v (S t)), .a (.v kv), .a (.v nv)] Try.func106 rfl rfl (mem0 E0 0 w) rfl rfl ?_
  refine c_seq ?_
  refine c_region ?_
  refine o_yield rfl rfl rfl (y_val tok rfl) ?_
  refine o_yield rfl rfl rfl (y_val tok rfl) ?_
  refine o_end [0, 1, 2, 3] rfl ?_
  refine x_then ?_
  refine c_seq ?_
  refine c_seq ?_
  refine c_region ?_
  refine o_yield rfl rfl rfl (y_val tok rfl) ?_
  refine o_yield rfl rfl rfl (y_len tok rfl (fun hg => hks'.sl)) ?_
  refine o_yield rfl rfl rfl (y_val tok rfl) ?_
  refine o_yield rfl rfl rfl (y_len tok rfl (fun hg => hns'.sl)) ?_
  refine o_yield rfl rfl rfl (y_val tok rfl) ?_
  refine o_end [0, 1, 2, 3, 18] rfl ?_
  refine x_then ?_
  refine c_cond rfl (fun h => ?_) (fun h => ?_)
  ·
    simp only [Bool.and_eq_true, Bool.or_eq_true, Bool.not_eq_true', Bool.or_eq_false_iff, Bool.and_eq_false_iff, decide_eq_true_eq, decide_eq_false_iff_not, beq_iff_eq, bne_iff_ne, Bool.not_eq_false', beq_eq_false_iff_ne, bne_eq_false_iff_eq, ne_eq, Decidable.not_not, Int.not_lt, Int.not_le] at h
    refine c_seq ?_
    refine c_region ?_
    refine o_yield rfl rfl rfl (y_val tok rfl) ?_
    refine o_yield rfl rfl rfl (y_val tok rfl) ?_
    refine o_end [8, 9] rfl ?_
    refine x_then ?_
    refine c_ret ?_
    refine x_then_ret ?_
    refine b_ret tok rfl ?_
    omega
  ·
    simp only [Bool.and_eq_true, Bool.or_eq_true, Bool.not_eq_true', Bool.or_eq_false_iff, Bool.and_eq_false_iff, decide_eq_true_eq, decide_eq_false_iff_not, beq_iff_eq, bne_iff_ne, Bool.not_eq_false', beq_eq_false_iff_ne, bne_eq_false_iff_eq, ne_eq, Decidable.not_not, Int.not_lt, Int.not_le] at h
    clear h
    refine c_skip ?_
    refine x_then ?_
    refine c_seq ?_
    refine c_region ?_
    refine o_yield rfl rfl rfl (y_val tok rfl) ?_
    refine o_end [0, 1, 2, 3, 10] rfl ?_
    refine x_then ?_
    refine c_seq ?_
    refine c_seq ?_
    refine c_region ?_
    refine o_yield rfl rfl rfl (y_val tok rfl) ?_
    refine o_end [0, 1, 2, 3, 10, 11] rfl ?_
    refine x_then ?_
    refine c_block ?_
    refine k_nil 10 5 1 rfl rfl ?_
    refine c_loopK [0, 1, 2, 3] [0] rfl rfl (σ := Nat) (fun i => [(10, .a (.row 0)), (11, .a (.v (I i)))]) (fun i => [(0, .row 5 1 (packL (ks.take i) (ns.take i)).length ((packL (ks.take i) (ns.take i)).flatMap encByte))]) (fun i => i ≤ ns.length) (fun i => ns.length - i) (0) (by omega) (by repeat (first | exact SubF.nil | refine SubF.cons rfl ?_)) (by repeat (first | exact SubO.nil | refine SubO.cons rfl ?_)) rfl ?_
    rintro i hi
    refine c_seq ?_
    refine c_seq ?_
    refine c_region ?_
    refine o_yield rfl rfl rfl (y_val tok rfl) ?_
    refine o_yield rfl rfl rfl (y_val tok rfl) ?_
    refine o_yield rfl rfl rfl (y_len tok rfl (fun hg => hns'.sl)) ?_
    refine o_yield rfl rfl rfl (y_val tok rfl) ?_
    refine o_end [0, 1, 2, 3, 10, 11, 22] rfl ?_
    refine x_then ?_
    refine c_cond rfl (fun h => ?_) (fun h => ?_)
    ·
      simp only [Bool.and_eq_true, Bool.or_eq_true, Bool.not_eq_true', Bool.or_eq_false_iff, Bool.and_eq_false_iff, decide_eq_true_eq, decide_eq_false_iff_not, beq_iff_eq, bne_iff_ne, Bool.not_eq_false', beq_eq_false_iff_ne, bne_eq_false_iff_eq, ne_eq, Decidable.not_not, Int.not_lt, Int.not_le] at h
      refine c_skip ?_
      refine x_then ?_
      refine c_seq ?_
      refine c_block ?_
      refine c_seq ?_
      refine c_heldR mixed rfl (by repeat (first | exact SubO.nil | refine SubO.cons rfl ?_)) rfl ?_
      refine t_take 0 rfl (by kernel_rfl) rfl rfl rfl (y_val tok rfl) rfl ?_
      refine t_take 1 rfl (by kernel_rfl) rfl rfl rfl (y_val tok rfl) rfl ?_
      refine t_take 2 rfl (by kernel_rfl) rfl rfl rfl (y_val tok rfl) rfl ?_
      obtain ⟨n, h_n⟩ := hns'.at (k := i) (by omega)
      obtain ⟨k, h_k⟩ := hks'.at (k := i) (by omega)
      have hpi := hsz i
      have hps := hsz (i + 1)
      have hlt_k := lt_of_at h_k
      refine t_take 3 rfl (by kernel_rfl) rfl rfl rfl (y_idx tok rfl (fun hg => hks'.sl) (fun hg => ⟨by omega, by omega⟩)) rfl ?_
      refine t_take 4 rfl (by kernel_rfl) rfl rfl rfl (y_lel tok (i) 0 (k) rfl (fun hg => hks') (fun hg => h_k) rfl rfl) rfl ?_
      refine t_take 5 rfl (by kernel_rfl) rfl rfl rfl (y_val tok rfl) rfl ?_
      refine t_take 6 rfl (by kernel_rfl) rfl rfl rfl (y_val tok rfl) rfl ?_
      have hlt_n := lt_of_at h_n
      refine t_take 7 rfl (by kernel_rfl) rfl rfl rfl (y_idx tok rfl (fun hg => hns'.sl) (fun hg => ⟨by omega, by omega⟩)) rfl ?_
      refine t_take 8 rfl (by kernel_rfl) rfl rfl rfl (y_lel tok (i) 0 (n) rfl (fun hg => hns') (fun hg => h_n) rfl rfl) rfl ?_
      refine t_go ?_
      refine h_one 9 (by kernel_rfl) ?_
      refine h_to 9 rfl rfl rfl rfl rfl rfl (s_bs tok 1 rfl rfl rfl) (.inr fun _ _ => ⟨(by repeat (first | exact SubO.nil | refine SubO.cons rfl ?_)), rfl, Vw.le.refl _⟩) (fun _ _ => ?_)
      refine h_one 10 (by kernel_rfl) ?_
      have hpp : putL (packL (ks.take i) (ns.take i)) k [n] = packL (ks.take (i + 1)) (ns.take (i + 1)) := by rw [putL_one, ← packL_succ h_k h_n]
      refine h_to 10 rfl rfl rfl rfl rfl rfl (s_refPut (packL (ks.take i) (ns.take i)) k [n] rfl (hfit i k n h_k h_n) (by omega) (by simp) (fun E w hm => ⟨_, _, rfl, hm.rowOf (enc := encByte) 0 rfl (fun _ => rfl), hm.rowOf (enc := encI64) (L := [n]) 1 rfl (fun _ => rfl)⟩)) (.inr fun _ _ => ⟨(by repeat (first | exact SubO.nil | refine SubO.cons rfl ?_)), rfl, Vw.le.refl _⟩) (fun _ _ => ?_)
      refine h_one 11 (by kernel_rfl) ?_
      refine h_yield 11 rfl rfl rfl rfl (y_val tok rfl) ?_
      refine h_take 12 rfl (by kernel_rfl) rfl rfl rfl rfl (y_val tok rfl) rfl ?_
      refine h_take 13 rfl (by kernel_rfl) rfl rfl rfl rfl (y_val tok rfl) rfl ?_
      refine h_one 14 (by kernel_rfl) ?_
      refine h_yield 14 rfl rfl rfl rfl (y_val tok rfl) ?_
      refine h_one 15 (by kernel_rfl) ?_
      refine h_yield 15 rfl rfl rfl rfl (y_val tok rfl) ?_
      refine h_done [0, 1, 2, 3, 11, 12, 13] (by kernel_rfl) rfl ?_
      refine x_then ?_
      refine c_seq ?_
      refine c_seq ?_
      refine c_region ?_
      refine o_yield rfl rfl rfl (y_val tok rfl) ?_
      refine o_yield rfl rfl rfl (y_val tok rfl) ?_
      refine o_end [0, 1, 2, 3, 11, 12, 40] rfl ?_
      refine x_then ?_
      refine c_cond rfl (fun h => ?_) (fun h => ?_)
      ·
        simp only [Bool.and_eq_true, Bool.or_eq_true, Bool.not_eq_true', Bool.or_eq_false_iff, Bool.and_eq_false_iff, decide_eq_true_eq, decide_eq_false_iff_not, beq_iff_eq, bne_iff_ne, Bool.not_eq_false', beq_eq_false_iff_ne, bne_eq_false_iff_eq, ne_eq, Decidable.not_not, Int.not_lt, Int.not_le] at h
        refine c_seq ?_
        refine c_region ?_
        refine o_yield rfl rfl rfl (y_val tok rfl) ?_
        refine o_yield rfl rfl rfl (y_val tok rfl) ?_
        refine o_end [8, 9] rfl ?_
        refine x_then ?_
        refine c_ret ?_
        refine x_then_ret ?_
        refine x_block_ret ?_
        refine x_then_ret ?_
        refine x_then_ret ?_
        refine x_block_ret ?_
        refine x_then_ret ?_
        refine b_ret tok rfl ?_
        contradiction
      ·
        simp only [Bool.and_eq_true, Bool.or_eq_true, Bool.not_eq_true', Bool.or_eq_false_iff, Bool.and_eq_false_iff, decide_eq_true_eq, decide_eq_false_iff_not, beq_iff_eq, bne_iff_ne, Bool.not_eq_false', beq_eq_false_iff_ne, bne_eq_false_iff_eq, ne_eq, Decidable.not_not, Int.not_lt, Int.not_le] at h
        clear h
        rw [hpp]
        refine c_skip ?_
        refine x_then ?_
        refine c_seq ?_
        refine c_region ?_
        refine o_yield rfl rfl rfl (y_val tok rfl) ?_
        refine o_yield rfl rfl rfl (y_val tok rfl) ?_
        refine o_end [0, 1, 2, 3, 10, 11] rfl ?_
        refine x_then ?_
        refine c_seq ?_
        refine c_region ?_
        refine o_yield rfl rfl rfl (y_val tok rfl) ?_
        refine o_yield rfl rfl rfl (y_val tok rfl) ?_
        refine o_yield rfl rfl rfl (y_val tok rfl) ?_
        refine o_end [0, 1, 2, 3, 10, 11, 44] rfl ?_
        refine x_then ?_
        refine c_cond rfl (fun h => ?_) (fun h => ?_)
        ·
          simp only [Bool.and_eq_true, Bool.or_eq_true, Bool.not_eq_true', Bool.or_eq_false_iff, Bool.and_eq_false_iff, decide_eq_true_eq, decide_eq_false_iff_not, beq_iff_eq, bne_iff_ne, Bool.not_eq_false', beq_eq_false_iff_ne, bne_eq_false_iff_eq, ne_eq, Decidable.not_not, Int.not_lt, Int.not_le] at h
          refine c_seq ?_
          refine c_region ?_
          refine o_yield rfl rfl rfl (y_val tok rfl) ?_
          refine o_yield rfl rfl rfl (y_val tok rfl) ?_
          refine o_end [8, 9] rfl ?_
          refine x_then ?_
          refine c_ret ?_
          refine x_block_ret ?_
          refine x_then_ret ?_
          refine x_then_ret ?_
          refine x_block_ret ?_
          refine x_then_ret ?_
          refine b_ret tok rfl ?_
          omega
        ·
          simp only [Bool.and_eq_true, Bool.or_eq_true, Bool.not_eq_true', Bool.or_eq_false_iff, Bool.and_eq_false_iff, decide_eq_true_eq, decide_eq_false_iff_not, beq_iff_eq, bne_iff_ne, Bool.not_eq_false', beq_eq_false_iff_ne, bne_eq_false_iff_eq, ne_eq, Decidable.not_not, Int.not_lt, Int.not_le] at h
          refine c_skip ?_
          refine x_block ?_
          refine x_then ?_
          refine c_region ?_
          refine o_yield rfl rfl rfl (y_val tok rfl) ?_
          refine o_yield rfl rfl rfl (y_val tok rfl) ?_
          refine o_yield rfl rfl rfl (y_val tok rfl) ?_
          refine o_end [0, 1, 2, 3, 10, 11] rfl ?_
          refine x_then ?_
          rw [wrapI (n := (i : Int) + 1) (by omega) (by omega)]
          refine k_swap 0 2 rfl ?_
          refine x_round (i + 1) (by omega) (by first | omega | (dsimp only; omega)) (by repeat (first | exact SubF.nil | refine SubF.cons rfl ?_)) (by repeat (first | exact SubO.nil | refine SubO.cons rfl ?_)) rfl (Vw.le.refl _)
    ·
      simp only [Bool.and_eq_true, Bool.or_eq_true, Bool.not_eq_true', Bool.or_eq_false_iff, Bool.and_eq_false_iff, decide_eq_true_eq, decide_eq_false_iff_not, beq_iff_eq, bne_iff_ne, Bool.not_eq_false', beq_eq_false_iff_ne, bne_eq_false_iff_eq, ne_eq, Decidable.not_not, Int.not_lt, Int.not_le] at h
      have hil : i = ns.length := by omega
      subst hil
      have hpi := hsz ns.length
      rw [List.take_length, show ks.take ns.length = ks by rw [← hlen, List.take_length]] at hpi ⊢
      refine c_exit ?_
      refine x_then_exit ?_
      refine x_then_exit ?_
      refine x_block_hit ?_
      refine x_then ?_
      refine c_seq ?_
      refine c_region ?_
      refine o_yield rfl rfl rfl (y_val tok rfl) ?_
      refine o_yield rfl rfl rfl (y_val tok rfl) ?_
      refine o_yield rfl rfl rfl (y_own (s := .a (.v (.string (strOf (packL ks ns))))) 0 rfl rfl (fun v V' hs => y_b2s tok _ rfl (fun hg => hs))) ?_
      refine o_yield rfl rfl rfl (y_val tok rfl) ?_
      have hst := strOf_size (packL ks ns)
      have hcs : (strOf (packL ks ns) ++ t).size = (packL ks ns).length + t.size := by rw [ByteArray.size_append, hst]
      refine o_yield rfl rfl rfl (y_cat rfl (fun hg => by omega)) ?_
      refine o_call (.a (.v _)) rfl rfl fnok160 rfl rfl rfl (fun hg E w1 hm => by exact refSeal_c kind hk (strOf (packL ks ns) ++ t) (by simp only [maxLen]; omega) _) ?_
      refine o_yield rfl rfl rfl (y_val tok rfl) ?_
      refine o_yield rfl rfl rfl (y_val tok rfl) ?_
      refine o_yield rfl rfl rfl (y_val tok rfl) ?_
      refine o_yield rfl rfl rfl (y_val tok rfl) ?_
      refine o_end [8, 9] rfl ?_
      refine x_then ?_
      refine c_ret ?_
      refine b_ret tok rfl ?_
      intro E w' hm _
      refine ⟨?_, hm.below (Vw.le.refl _)⟩
      rfl

theorem rec_pack_take (r : Record) (i : Nat) : (packL (rWidths.take i) ((rNums r).take i)).length ≤ 505 := by
  have h1 := pack_len (rWidths.take i) ((rNums r).take i)
  have h2 : ((rWidths.take i).map Int.toNat).sum ≤ 17 := by
    match i with
    | 0 => decide
    | 1 => decide
    | 2 => decide
    | 3 => decide
    | 4 => decide
    | i + 5 => rw [List.take_of_length_le (by simp [rWidths])]; decide
  omega

theorem refBytes_c (r : Record) (w : World) : Calls Try.prog 104 #[r.val] w fun e w' => e = .returned (.tuple #[S (bytesV r), I (bytesE r)]) ∧ Below w.heap.size w w' := by
  refine enter (E := E0) (O := []) (nl := 0) (V := vw w) [.a (.v r.val)] Try.func104 rfl rfl (mem0 E0 0 w) rfl rfl ?_
  refine c_seq ?_
  refine c_region ?_
  refine o_new tok rfl rfl rfl rfl ?_
  refine o_yield rfl rfl rfl (y_val tok rfl) ?_
  refine o_yield rfl rfl rfl (y_val tok rfl) ?_
  refine o_end [1] rfl ?_
  refine x_then ?_
  refine c_seq ?_
  refine c_seq ?_
  refine c_region ?_
  refine o_yield rfl rfl rfl (y_val tok rfl) ?_
  refine o_call (.a (.v _)) rfl rfl fnok156 rfl rfl rfl (fun hg E w1 hm => by exact refRecMay_c r _) ?_
  refine o_yield rfl rfl rfl (y_val tok rfl) ?_
  refine o_end [1, 6] rfl ?_
  refine x_then ?_
  refine c_cond rfl (fun h => ?_) (fun h => ?_)
  ·
    simp only [Bool.and_eq_true, Bool.or_eq_true, Bool.not_eq_true', Bool.or_eq_false_iff, Bool.and_eq_false_iff, decide_eq_true_eq, decide_eq_false_iff_not, beq_iff_eq, bne_iff_ne, Bool.not_eq_false', beq_eq_false_iff_ne, bne_eq_false_iff_eq, ne_eq, Decidable.not_not, Int.not_lt, Int.not_le] at h
    refine c_seq ?_
    refine c_region ?_
    refine o_yield rfl rfl rfl (y_val tok rfl) ?_
    refine o_yield rfl rfl rfl (y_val tok rfl) ?_
    refine o_end [2, 3] rfl ?_
    refine x_then ?_
    refine c_ret ?_
    refine x_then_ret ?_
    refine b_ret tok rfl ?_
    intro E w' hm _
    refine ⟨?_, hm.below (Vw.le.refl _)⟩
    rw [bytesV, bytesE, if_neg (by simp [h]), if_neg (by simp [h])]
    rfl
  ·
    simp only [Bool.and_eq_true, Bool.or_eq_true, Bool.not_eq_true', Bool.or_eq_false_iff, Bool.and_eq_false_iff, decide_eq_true_eq, decide_eq_false_iff_not, beq_iff_eq, bne_iff_ne, Bool.not_eq_false', beq_eq_false_iff_ne, bne_eq_false_iff_eq, ne_eq, Decidable.not_not, Int.not_lt, Int.not_le] at h
    have hr := h
    have ok := recOk hr
    have hrt := ok.text
    clear h
    refine c_skip ?_
    refine x_then ?_
    refine c_seq ?_
    refine c_region ?_
    refine o_yield rfl rfl rfl (y_val tok rfl) ?_
    refine o_yield rfl rfl rfl (y_val tok rfl) ?_
    refine o_bs tok rfl rfl rfl rfl (fun b1 V1 hle1 hb1 => ?_)
    refine o_yield rfl rfl rfl (y_val tok rfl) ?_
    refine o_yield rfl rfl rfl (y_val tok rfl) ?_
    refine o_yield rfl rfl rfl (y_val tok rfl) ?_
    refine o_yield rfl rfl rfl (y_val tok rfl) ?_
    refine o_yield rfl rfl rfl (y_val tok rfl) ?_
    refine o_yield rfl rfl rfl (y_val tok rfl) ?_
    refine o_yield rfl rfl rfl (y_val tok rfl) ?_
    refine o_yield rfl rfl rfl (y_val tok rfl) ?_
    refine o_yield rfl rfl rfl (y_val tok rfl) ?_
    refine o_yield rfl rfl rfl (y_val tok rfl) ?_
    refine o_bs tok rfl rfl rfl rfl (fun b2 V2 hle2 hb2 => ?_)
    have h1 := SlOf.ofBlock (enc := encI64) (sz := 1) (l := rWidths) (hle2.get _ _ (hb1 rfl)) rfl (fun _ => rfl) (Nat.le_refl _)
    have h2 := SlOf.ofBlock (enc := encI64) (sz := 1) (l := rNums r) (hb2 rfl) rfl (fun _ => rfl) (Nat.le_refl _)
    have hpk : ∀ i : Nat, (packL (rWidths.take i) ((rNums r).take i)).length ≤ 505 := rec_pack_take r
    refine o_call (.a (.v _)) rfl rfl fnok106 rfl rfl rfl (fun hg E w1 hm => by exact refMake_c 6 (by unfold R8; omega) r.text V2 _ _ rWidths (rNums r) _ (by omega) hm.leV h1 h2 rfl (by simp [rNums]) (fun i k n hk hn => putOk_of (rec_fits ok i k n hk hn)) hpk) ?_
    refine o_yield rfl rfl rfl (y_val tok rfl) ?_
    refine o_yield rfl rfl rfl (y_val tok rfl) ?_
    refine o_yield rfl rfl rfl (y_val tok rfl) ?_
    refine o_yield rfl rfl rfl (y_val tok rfl) ?_
    refine o_end [2, 3] rfl ?_
    refine x_then ?_
    refine c_ret ?_
    refine b_ret tok rfl ?_
    rw [seal_rec ok]
    intro E w' hm _
    refine ⟨?_, hm.below ((hle1.trans hle2))⟩
    rw [bytesV, bytesE, if_pos hr, if_pos hr]
    rfl
end Go.Proofs.Ytanekcndpkagiaa

/- A transaction's records: the document's. -/
set_option linter.unusedVariables false
set_option linter.unusedSimpArgs false
set_option maxRecDepth 100000
namespace Go.Proofs.Ytanekcndpkagiaa
open Go Go.Eng Go.RowKit

theorem refMany_c (g : Geo) (ok : g.Ok) (n : Int) (w : World) : Calls Try.prog 155 #[g.val, I n] w fun e w' => e = .returned (I (manyOf g n)) ∧ Below w.heap.size w w' := by
  refine enter (E := E0) (O := []) (nl := 0) (V := vw w) [.a (.v g.val), .a (.v (I n))] Try.func155 rfl rfl (mem0 E0 0 w) rfl rfl ?_
  refine c_seq ?_
  refine c_region ?_
  refine o_new tok rfl rfl rfl rfl ?_
  refine o_yield rfl rfl rfl (y_val tok rfl) ?_
  refine o_end [1, 2] rfl ?_
  refine x_then ?_
  refine c_seq ?_
  refine c_seq ?_
  refine c_region ?_
  refine o_yield rfl rfl rfl (y_val tok rfl) ?_
  refine o_call (.a (.v _)) rfl rfl fnok47 rfl rfl rfl (fun hg E w1 hm => by exact refMay_c g ok _) ?_
  refine o_yield rfl rfl rfl (y_val tok rfl) ?_
  refine o_yield rfl rfl rfl (y_val tok rfl) ?_
  refine o_yield rfl rfl rfl (y_val tok rfl) ?_
  refine o_yield rfl rfl rfl (y_val tok rfl) ?_
  refine o_yield rfl rfl rfl (y_val tok rfl) ?_
  refine o_end [1, 2, 11] rfl ?_
  refine x_then ?_
  refine c_cond rfl (fun h => ?_) (fun h => ?_)
  ·
    refine c_seq ?_
    refine c_region ?_
    refine o_yield rfl rfl rfl (y_val tok rfl) ?_
    refine o_end [4] rfl ?_
    refine x_then ?_
    refine c_ret ?_
    refine x_then_ret ?_
    refine b_ret tok rfl ?_
    intro E w' hm _
    refine ⟨?_, hm.below (Vw.le.refl _)⟩
    have : manyOf g n = 0 := by
      unfold manyOf
      rw [if_neg]
      intro hc
      simp [hc.1] at h
      omega
    rw [this]; rfl
  ·
    refine c_skip ?_
    refine x_then ?_
    refine c_seq ?_
    refine c_region ?_
    refine o_yield rfl rfl rfl (y_val tok rfl) ?_
    refine o_yield rfl rfl rfl (y_val tok rfl) ?_
    refine o_yield rfl rfl rfl (y_val tok rfl) ?_
    refine o_yield rfl rfl rfl (y_mm rfl) ?_
    refine o_yield rfl rfl rfl (y_val tok rfl) ?_
    refine o_yield rfl rfl rfl (y_val tok rfl) ?_
    refine o_yield rfl rfl rfl (y_val tok rfl) ?_
    refine o_end [4] rfl ?_
    refine x_then ?_
    refine c_ret ?_
    refine b_ret tok rfl ?_
    intro E w' hm _
    refine ⟨?_, hm.below (Vw.le.refl _)⟩
    simp only [Bool.or_eq_false_iff, Bool.not_eq_false', decide_eq_false_iff_not] at h
    have hg := h.1
    have hf := geo_facts hg
    have hm1 : (bif false then max n 1099511627776 else min n 1099511627776) = min n 1099511627776 := rfl
    have h1 := prod_bound (a := g.per) (b := min n 1099511627776) (A := 8) (B := 1099511627776) (by omega) (by omega) (by omega) (by omega)
    show Ending.returned (I (IntKind.i64.wrap (IntKind.i64.wrap (g.per * (bif false then max n 1099511627776 else min n 1099511627776)) + 1))) = _
    rw [hm1, wrapI (n := g.per * min n 1099511627776) (by omega) (by omega), wrapI (by omega) (by omega)]
    unfold manyOf
    rw [if_pos ⟨h.1, by omega⟩]

theorem refBFits_c (g : Geo) (ok : g.Ok) (used n : Int) (w : World) : Calls Try.prog 97 #[g.val, I used, I n] w fun e w' => e = .returned (I (fitsV g used n)) ∧ Below w.heap.size w w' := by
  have hm := many_bound g n
  refine enter (E := E0) (O := []) (nl := 0) (V := vw w) [.a (.v g.val), .a (.v (I used)), .a (.v (I n))] Try.func97 rfl rfl (mem0 E0 0 w) rfl rfl ?_
  refine c_seq ?_
  refine c_region ?_
  refine o_new tok rfl rfl rfl rfl ?_
  refine o_yield rfl rfl rfl (y_val tok rfl) ?_
  refine o_end [1, 2, 3] rfl ?_
  refine x_then ?_
  refine c_seq ?_
  refine c_seq ?_
  refine c_region ?_
  refine o_yield rfl rfl rfl (y_val tok rfl) ?_
  refine o_call (.a (.v _)) rfl rfl fnok47 rfl rfl rfl (fun hg E w1 hm => by exact refMay_c g ok _) ?_
  refine o_yield rfl rfl rfl (y_val tok rfl) ?_
  refine o_yield rfl rfl rfl (y_val tok rfl) ?_
  refine o_yield rfl rfl rfl (y_val tok rfl) ?_
  refine o_yield rfl rfl rfl (y_val tok rfl) ?_
  refine o_yield rfl rfl rfl (y_val tok rfl) ?_
  refine o_yield rfl rfl rfl (y_val tok rfl) ?_
  refine o_yield rfl rfl rfl (y_val tok rfl) ?_
  refine o_yield rfl rfl rfl (y_val tok rfl) ?_
  refine o_yield rfl rfl rfl (y_val tok rfl) ?_
  refine o_yield rfl rfl rfl (y_val tok rfl) ?_
  refine o_yield rfl rfl rfl (y_val tok rfl) ?_
  refine o_yield rfl rfl rfl (y_val tok rfl) ?_
  refine o_yield rfl rfl rfl (y_val tok rfl) ?_
  refine o_yield rfl rfl rfl (y_val tok rfl) ?_
  refine o_yield rfl rfl rfl (y_val tok rfl) ?_
  refine o_end [1, 2, 3, 24] rfl ?_
  refine x_then ?_
  refine c_cond rfl (fun h => ?_) (fun h => ?_)
  ·
    simp only [Bool.and_eq_true, Bool.or_eq_true, Bool.not_eq_true', Bool.or_eq_false_iff, Bool.and_eq_false_iff, decide_eq_true_eq, decide_eq_false_iff_not, beq_iff_eq, bne_iff_ne, Bool.not_eq_false', beq_eq_false_iff_ne, bne_eq_false_iff_eq, ne_eq, Decidable.not_not, Int.not_lt, Int.not_le] at h
    refine c_seq ?_
    refine c_region ?_
    refine o_yield rfl rfl rfl (y_val tok rfl) ?_
    refine o_end [6] rfl ?_
    refine x_then ?_
    refine c_ret ?_
    refine x_then_ret ?_
    refine b_ret tok rfl ?_
    intro E w' hm _
    refine ⟨?_, hm.below (Vw.le.refl _)⟩
    rw [fitsV, if_pos]
    · rfl
    · cases hgg : geoB g with
      | false => exact .inl rfl
      | true =>
        rw [hgg] at h
        simp only [Bool.true_eq_false, false_or] at h
        exact .inr (by omega)
  ·
    simp only [Bool.and_eq_true, Bool.or_eq_true, Bool.not_eq_true', Bool.or_eq_false_iff, Bool.and_eq_false_iff, decide_eq_true_eq, decide_eq_false_iff_not, beq_iff_eq, bne_iff_ne, Bool.not_eq_false', beq_eq_false_iff_ne, bne_eq_false_iff_eq, ne_eq, Decidable.not_not, Int.not_lt, Int.not_le] at h
    have h1 := h
    have hgg : geoB g = true := by cases hq : geoB g <;> simp [hq] at h1 ⊢
    have hf := geo_facts hgg
    have hu : 0 ≤ used ∧ used ≤ g.journal ∧ 0 ≤ n := by omega
    clear h h1
    have hpre : ¬ (geoB g = false ∨ used < 0 ∨ g.journal < used ∨ n < 0) := by rw [hgg]; simp; omega
    refine c_skip ?_
    refine x_then ?_
    refine c_seq ?_
    refine c_region ?_
    refine o_yield rfl rfl rfl (y_val tok rfl) ?_
    refine o_yield rfl rfl rfl (y_val tok rfl) ?_
    refine o_call (.a (.v _)) rfl rfl fnok155 rfl rfl rfl (fun hg E w1 hm => by exact refMany_c g ok n _) ?_
    refine o_yield rfl rfl rfl (y_val tok rfl) ?_
    refine o_end [1, 3, 7] rfl ?_
    refine x_then ?_
    refine c_seq ?_
    refine c_seq ?_
    refine c_region ?_
    refine o_yield rfl rfl rfl (y_val tok rfl) ?_
    refine o_yield rfl rfl rfl (y_val tok rfl) ?_
    refine o_yield rfl rfl rfl (y_val tok rfl) ?_
    refine o_yield rfl rfl rfl (y_val tok rfl) ?_
    refine o_end [1, 3, 7, 31] rfl ?_
    refine x_then ?_
    refine c_cond rfl (fun h => ?_) (fun h => ?_)
    ·
      simp only [Bool.and_eq_true, Bool.or_eq_true, Bool.not_eq_true', Bool.or_eq_false_iff, Bool.and_eq_false_iff, decide_eq_true_eq, decide_eq_false_iff_not, beq_iff_eq, bne_iff_ne, Bool.not_eq_false', beq_eq_false_iff_ne, bne_eq_false_iff_eq, ne_eq, Decidable.not_not, Int.not_lt, Int.not_le] at h
      refine c_seq ?_
      refine c_region ?_
      refine o_yield rfl rfl rfl (y_val tok rfl) ?_
      refine o_end [6] rfl ?_
      refine x_then ?_
      refine c_ret ?_
      refine x_then_ret ?_
      refine b_ret tok rfl ?_
      intro E w' hm _
      refine ⟨?_, hm.below (Vw.le.refl _)⟩
      rw [fitsV, if_neg hpre, if_pos h]; rfl
    ·
      simp only [Bool.and_eq_true, Bool.or_eq_true, Bool.not_eq_true', Bool.or_eq_false_iff, Bool.and_eq_false_iff, decide_eq_true_eq, decide_eq_false_iff_not, beq_iff_eq, bne_iff_ne, Bool.not_eq_false', beq_eq_false_iff_ne, bne_eq_false_iff_eq, ne_eq, Decidable.not_not, Int.not_lt, Int.not_le] at h
      have h2 := h
      clear h
      refine c_skip ?_
      refine x_then ?_
      refine c_seq ?_
      refine c_seq ?_
      refine c_region ?_
      refine o_yield rfl rfl rfl (y_val tok rfl) ?_
      refine o_yield rfl rfl rfl (y_val tok rfl) ?_
      refine o_yield rfl rfl rfl (y_val tok rfl) ?_
      refine o_yield rfl rfl rfl (y_val tok rfl) ?_
      refine o_yield rfl rfl rfl (y_val tok rfl) ?_
      refine o_yield rfl rfl rfl (y_val tok rfl) ?_
      refine o_end [37] rfl ?_
      refine x_then ?_
      refine c_cond rfl (fun h => ?_) (fun h => ?_)
      ·
        simp only [Bool.and_eq_true, Bool.or_eq_true, Bool.not_eq_true', Bool.or_eq_false_iff, Bool.and_eq_false_iff, decide_eq_true_eq, decide_eq_false_iff_not, beq_iff_eq, bne_iff_ne, Bool.not_eq_false', beq_eq_false_iff_ne, bne_eq_false_iff_eq, ne_eq, Decidable.not_not, Int.not_lt, Int.not_le] at h
        refine c_seq ?_
        refine c_region ?_
        refine o_yield rfl rfl rfl (y_val tok rfl) ?_
        refine o_end [6] rfl ?_
        refine x_then ?_
        refine c_ret ?_
        refine x_then_ret ?_
        refine b_ret tok rfl ?_
        rw [wrapI (by omega) (by omega)] at h
        intro E w' hm _
        refine ⟨?_, hm.below (Vw.le.refl _)⟩
        rw [fitsV, if_neg hpre, if_neg (by omega), if_pos (by omega)]; rfl
      ·
        simp only [Bool.and_eq_true, Bool.or_eq_true, Bool.not_eq_true', Bool.or_eq_false_iff, Bool.and_eq_false_iff, decide_eq_true_eq, decide_eq_false_iff_not, beq_iff_eq, bne_iff_ne, Bool.not_eq_false', beq_eq_false_iff_ne, bne_eq_false_iff_eq, ne_eq, Decidable.not_not, Int.not_lt, Int.not_le] at h
        refine c_skip ?_
        refine x_then ?_
        refine c_seq ?_
        refine c_region ?_
        refine o_yield rfl rfl rfl (y_val tok rfl) ?_
        refine o_end [6] rfl ?_
        refine x_then ?_
        refine c_ret ?_
        refine b_ret tok rfl ?_
        rw [wrapI (by omega) (by omega)] at h
        intro E w' hm _
        refine ⟨?_, hm.below (Vw.le.refl _)⟩
        rw [fitsV, if_neg hpre, if_neg (by omega), if_neg (by omega)]; rfl

theorem rest_list (t : ByteArray) : ∀ k, (restAt t k).data.toList = t.data.toList.drop (256 * k)
  | 0 => by simp [restAt]
  | k + 1 => by
    have hz := size_list (restAt t k)
    rw [restAt, tailOf, ByteArray.data_extract, Array.toList_extract, List.extract_eq_take_drop]
    rw [List.take_of_length_le (by rw [List.length_drop]; omega), ← hz]
    have hr := rest_list t k
    by_cases h : (restAt t k).data.toList.length ≤ 256
    · rw [Nat.min_eq_left h, List.drop_length]
      rw [hr, List.length_drop] at h
      rw [List.drop_of_length_le (by omega)]
    · rw [Nat.min_eq_right (by omega), hr, List.drop_drop]
      congr 1

theorem piece_list (t : ByteArray) (k : Nat) : (pieceAt t k).data.toList = (t.data.toList.drop (256 * k)).take 256 := by
  have hz := size_list (restAt t k)
  rw [pieceAt, headOf, ByteArray.data_extract, Array.toList_extract, List.extract_eq_take_drop, List.drop_zero, Nat.sub_zero, ← rest_list, ← hz]
  by_cases h : (restAt t k).data.toList.length ≤ 256
  · rw [Nat.min_eq_left h, List.take_of_length_le (Nat.le_refl _), List.take_of_length_le h]
  · rw [Nat.min_eq_right (by omega)]

theorem refPiece_c (t : ByteArray) (k : Nat) (hk : k ≤ 100) (ht : t.size ≤ maxLen) (w : World) : Calls Try.prog 91 #[S t, I k] w fun e w' => e = .returned (S (pieceAt t k)) ∧ Below w.heap.size w w' := by
  simp only [maxLen] at ht
  have hz := size_list t
  refine enter (E := E0) (O := []) (nl := 0) (V := vw w) [.a (.v (S t)), .a (.v (I k))] Try.func91 rfl rfl (mem0 E0 0 w) rfl rfl ?_
  refine c_seq ?_
  refine c_region ?_
  refine o_yield rfl rfl rfl (y_val tok rfl) ?_
  refine o_end [0, 1] rfl ?_
  refine x_then ?_
  refine c_seq ?_
  refine c_region ?_
  refine o_yield rfl rfl rfl (y_val tok rfl) ?_
  refine o_yield rfl rfl rfl (y_val tok rfl) ?_
  refine o_yield rfl rfl rfl (y_val tok rfl) ?_
  refine o_yield rfl rfl rfl (y_val tok rfl) ?_
  refine o_yield rfl rfl rfl (y_mm rfl) ?_
  refine o_yield rfl rfl rfl (y_val tok rfl) ?_
  refine o_yield rfl rfl rfl (y_val tok rfl) ?_
  refine o_yield rfl rfl rfl (y_val tok rfl) ?_
  refine o_yield rfl rfl rfl (y_val tok rfl) ?_
  refine o_yield rfl rfl rfl (y_val tok rfl) ?_
  refine o_yield rfl rfl rfl (y_mm rfl) ?_
  refine o_yield rfl rfl rfl (y_val tok rfl) ?_
  refine o_yield rfl rfl rfl (y_val tok rfl) ?_
  refine o_end [0, 5, 6] rfl ?_
  refine x_then ?_
  refine c_seq ?_
  refine c_region ?_
  refine o_yield rfl rfl rfl (y_val tok rfl) ?_
  refine o_yield rfl rfl rfl (y_val tok rfl) ?_
  refine o_yield rfl rfl rfl (y_val tok rfl) ?_
  rw [wrapI (n := (k : Int) * 256) (by omega) (by omega), wrapI (n := (k : Int) + 1) (by omega) (by omega), wrapI (n := ((k : Int) + 1) * 256) (by omega) (by omega)]
  refine o_yield rfl rfl rfl (y_ss tok rfl (fun hg => by simp only [Option.getD, cond_false]; omega)) ?_
  refine o_yield rfl rfl rfl (y_val tok rfl) ?_
  refine o_end [4] rfl ?_
  refine x_then ?_
  refine c_ret ?_
  refine b_ret tok rfl ?_
  intro E w' hm _
  refine ⟨?_, hm.below (Vw.le.refl _)⟩
  show Ending.returned (S (t.extract (min ((k : Int) * 256) (t.size : Int)).toNat (min (((k : Int) + 1) * 256) (t.size : Int)).toNat)) = _
  congr 2
  apply str_ext
  rw [piece_list, ByteArray.data_extract, Array.toList_extract, List.extract_eq_take_drop]
  by_cases h : t.size ≤ 256 * k
  · rw [List.drop_of_length_le (l := t.data.toList) (i := 256 * k) (by omega), List.drop_of_length_le (by omega)]
    simp
  · rw [show (min ((k : Int) * 256) (t.size : Int)).toNat = 256 * k by omega]
    by_cases h2 : t.size ≤ 256 * (k + 1)
    · rw [show (min (((k : Int) + 1) * 256) (t.size : Int)).toNat = t.size by omega, List.take_of_length_le (by rw [List.length_drop]; omega), List.take_of_length_le (by rw [List.length_drop]; omega)]
    · rw [show (min (((k : Int) + 1) * 256) (t.size : Int)).toNat = 256 * k + 256 by omega, Nat.add_sub_cancel_left]

theorem ahead_succ' {α : Type} {l : List α} {k : Nat} {R : Nat → α → Prop} {x : α} (hx : l[k]? = some x) (h : ∀ j y, j < k → l[j]? = some y → R j y) (hr : R k x) : ∀ j y, j < k + 1 → l[j]? = some y → R j y := by
  intro j y hj hy
  by_cases hjk : j = k
  · subst hjk; rw [hx] at hy; cases hy; exact hr
  · exact h j y (by omega) hy

theorem rOf_c (V : Vw) (g : Geo) (ok : g.Ok) (key lsn : Int) (sv : Value) (l : List Block) (w : World) (hV : V.le (vw w)) (hs0 : SlOf V Block.cells 2 sv l) (hn : l.length ≤ lim) :
    Calls Try.prog 98 #[g.val, I key, I lsn, sv] w (OfPost g key lsn l w) := by
  have hs := hs0.mono hV
  simp only [lim] at hn
  refine enter (E := E0) (O := []) (nl := 0) (V := vw w) [.a (.v g.val), .a (.v (I key)), .a (.v (I lsn)), .a (.v sv)] Try.func98 rfl rfl (mem0 E0 0 w) rfl rfl ?_
  refine c_seq ?_
  refine c_region ?_
  refine o_new tok rfl rfl rfl rfl ?_
  refine o_yield rfl rfl rfl (y_val tok rfl) ?_
  refine o_yield rfl rfl rfl (y_val tok rfl) ?_
  refine o_end [1, 2, 3, 4] rfl ?_
  refine x_then ?_
  refine c_seq ?_
  refine c_seq ?_
  refine c_region ?_
  refine o_yield rfl rfl rfl (y_val tok rfl) ?_
  refine o_call (.a (.v _)) rfl rfl fnok47 rfl rfl rfl (fun hg E w1 hm => by exact refMay_c g ok _) ?_
  refine o_yield rfl rfl rfl (y_val tok rfl) ?_
  refine o_yield rfl rfl rfl (y_val tok rfl) ?_
  refine o_yield rfl rfl rfl (y_val tok rfl) ?_
  refine o_yield rfl rfl rfl (y_len tok rfl (fun hg => hs.sl)) ?_
  refine o_yield rfl rfl rfl (y_val tok rfl) ?_
  refine o_yield rfl rfl rfl (y_val tok rfl) ?_
  refine o_yield rfl rfl rfl (y_val tok rfl) ?_
  refine o_yield rfl rfl rfl (y_val tok rfl) ?_
  refine o_yield rfl rfl rfl (y_len tok rfl (fun hg => hs.sl)) ?_
  refine o_yield rfl rfl rfl (y_val tok rfl) ?_
  refine o_yield rfl rfl rfl (y_val tok rfl) ?_
  refine o_yield rfl rfl rfl (y_val tok rfl) ?_
  refine o_yield rfl rfl rfl (y_val tok rfl) ?_
  refine o_yield rfl rfl rfl (y_val tok rfl) ?_
  refine o_yield rfl rfl rfl (y_val tok rfl) ?_
  refine o_yield rfl rfl rfl (y_val tok rfl) ?_
  refine o_yield rfl rfl rfl (y_val tok rfl) ?_
  refine o_yield rfl rfl rfl (y_val tok rfl) ?_
  refine o_yield rfl rfl rfl (y_val tok rfl) ?_
  refine o_yield rfl rfl rfl (y_val tok rfl) ?_
  refine o_yield rfl rfl rfl (y_val tok rfl) ?_
  refine o_end [1, 2, 3, 4, 36] rfl ?_
  refine x_then ?_
  refine c_cond rfl (fun h => ?_) (fun h => ?_)
  ·
    refine c_seq ?_
    refine c_region ?_
    refine o_yield rfl rfl rfl (y_val tok rfl) ?_
    refine o_yield rfl rfl rfl (y_val tok rfl) ?_
    refine o_end [8, 9] rfl ?_
    refine x_then ?_
    refine c_ret ?_
    refine x_then_ret ?_
    refine b_ret tok rfl ?_
    intro E w' hm _
    refine ⟨.inr ⟨fun hok => ?_, rfl⟩, hm.below (Vw.le.refl _)⟩
    have h1 := hok.geo
    have h2 := hok.some_
    have h3 := hok.few
    have h4 := hok.lsnB
    have h5 : l.length ≠ 0 := fun h => h2 (List.eq_nil_of_length_eq_zero h)
    simp only [belowB, Bool.and_eq_true, decide_eq_true_eq] at h4
    simp only [h1, Bool.not_true, Bool.false_or, Bool.or_eq_true, decide_eq_true_eq, beq_iff_eq] at h
    omega
  ·
    simp only [Bool.or_eq_false_iff, Bool.not_eq_false', decide_eq_false_iff_not, beq_eq_false_iff_ne] at h
    obtain ⟨⟨⟨⟨hgg, hne⟩, hfew⟩, hl0⟩, hl1⟩ := h
    have hf := geo_facts hgg
    obtain ⟨per, hper⟩ : ∃ per : Nat, g.per = per := ⟨g.per.toNat, by omega⟩
    have hpn : g.per.toNat = per := by omega
    have hlen : l.length ≤ 64 := by omega
    refine c_skip ?_
    refine x_then ?_
    refine c_seq ?_
    refine c_region ?_
    refine o_yield rfl rfl rfl (y_val tok rfl) ?_
    refine o_end [1, 2, 3, 4, 10] rfl ?_
    refine x_then ?_
    refine c_seq ?_
    refine c_seq ?_
    refine c_region ?_
    refine o_yield rfl rfl rfl (y_val tok rfl) ?_
    refine o_end [1, 2, 3, 4, 10, 11] rfl ?_
    refine x_then ?_
    refine c_block ?_
    refine k_nil 10 70 6 rfl rfl ?_
    have e0 : recs key lsn per l (0 * per) = [] := by simp [recs]
    refine c_loopK [1, 2, 3, 4] [1] rfl rfl (σ := Nat) (fun i => [(10, .a (.row 1)), (11, .a (.v (I i)))]) (fun i => [(1, .row 70 6 (recs key lsn per l (i * per)).length ((recs key lsn per l (i * per)).flatMap Record.cells))]) (fun i => i ≤ l.length ∧ (∀ i' b, i' < i → l[i']? = some b → BlkOk g l i' b) ∧ -1 ≤ lastN l i) (fun i => l.length - i) (0) (⟨by omega, by omega, by simp [lastN]⟩) (by repeat (first | exact SubF.nil | refine SubF.cons rfl ?_ | refine SubF.cons (by simp only [e0]; first | done | rfl) ?_)) (by repeat (first | exact SubO.nil | refine SubO.cons rfl ?_ | refine SubO.cons (by simp only [e0]; first | done | rfl) ?_)) rfl ?_
    rintro i ⟨hi, hblk, hlast⟩
    have hlc : (i = 0 ∧ lastN l i = -1) ∨ (0 < i ∧ lastN l i = (blkAt l (i - 1)).n) := by
      cases i with
      | zero => exact .inl ⟨rfl, rfl⟩
      | succ j => exact .inr ⟨by omega, rfl⟩
    have hip : i * per ≤ 512 := by
      have : i * per ≤ 64 * per := Nat.mul_le_mul_right _ (by omega)
      omega
    refine c_seq ?_
    refine c_seq ?_
    refine c_region ?_
    refine o_yield rfl rfl rfl (y_val tok rfl) ?_
    refine o_yield rfl rfl rfl (y_val tok rfl) ?_
    refine o_yield rfl rfl rfl (y_len tok rfl (fun hg => hs.sl)) ?_
    refine o_yield rfl rfl rfl (y_val tok rfl) ?_
    refine o_end [1, 2, 3, 4, 10, 11, 40] rfl ?_
    refine x_then ?_
    refine c_cond rfl (fun h => ?_) (fun h => ?_)
    ·
      simp only [Bool.and_eq_true, Bool.or_eq_true, Bool.not_eq_true', Bool.or_eq_false_iff, Bool.and_eq_false_iff, decide_eq_true_eq, decide_eq_false_iff_not, beq_iff_eq, bne_iff_ne, Bool.not_eq_false', beq_eq_false_iff_ne, bne_eq_false_iff_eq, ne_eq, Decidable.not_not, Int.not_lt, Int.not_le] at h
      refine c_skip ?_
      refine x_then ?_
      refine c_seq ?_
      refine c_block ?_
      refine c_seq ?_
      refine c_seq ?_
      refine c_draw mixed (by kernel_rfl) ?_
      refine d_yield rfl rfl rfl (y_val tok rfl) rfl ?_
      refine d_yield rfl rfl rfl (y_val tok rfl) rfl ?_
      obtain ⟨x, h_x⟩ := hs.at (k := i) (by omega)
      have hwp : IntKind.i64.wrap (g.per * 256) = g.per * 256 := wrapI (by omega) (by omega)
      have hlt_x := lt_of_at h_x
      refine d_yield rfl rfl rfl (y_idx tok rfl (fun hg => hs.sl) (fun hg => ⟨by omega, by omega⟩)) rfl ?_
      refine d_yield rfl rfl rfl (y_fel tok rfl (fun hg => hs.sl) (fun hg => by omega)) rfl ?_
      refine d_yield rfl rfl rfl (y_lel tok (i) 0 (x) rfl (fun hg => hs) (fun hg => h_x) rfl rfl) rfl ?_
      refine d_yield rfl rfl rfl (y_val tok rfl) rfl ?_
      refine d_yield rfl rfl rfl (y_val tok rfl) rfl ?_
      refine d_yield rfl rfl rfl (y_val tok rfl) rfl ?_
      refine d_yield rfl rfl rfl (y_val tok rfl) rfl ?_
      have hlt_x := lt_of_at h_x
      refine d_yield rfl rfl rfl (y_idx tok rfl (fun hg => hs.sl) (fun hg => ⟨by omega, by omega⟩)) rfl ?_
      refine d_yield rfl rfl rfl (y_fel tok rfl (fun hg => hs.sl) (fun hg => by omega)) rfl ?_
      refine d_yield rfl rfl rfl (y_lel tok (i) 0 (x) rfl (fun hg => hs) (fun hg => h_x) rfl rfl) rfl ?_
      refine d_yield rfl rfl rfl (y_val tok rfl) rfl ?_
      refine d_yield rfl rfl rfl (y_val tok rfl) rfl ?_
      refine d_yield rfl rfl rfl (y_val tok rfl) rfl ?_
      refine d_yield rfl rfl rfl (y_val tok rfl) rfl ?_
      refine d_yield rfl rfl rfl (y_val tok rfl) rfl ?_
      refine d_yield rfl rfl rfl (y_val tok rfl) rfl ?_
      refine d_yield rfl rfl rfl (y_val tok rfl) rfl ?_
      refine d_yield rfl rfl rfl (y_val tok rfl) rfl ?_
      refine d_yield rfl rfl rfl (y_val tok rfl) rfl ?_
      refine d_yield rfl rfl rfl (y_val tok rfl) rfl ?_
      have hlt_x := lt_of_at h_x
      refine d_yield rfl rfl rfl (y_idx tok rfl (fun hg => hs.sl) (fun hg => ⟨by omega, by omega⟩)) rfl ?_
      refine d_yield rfl rfl rfl (y_fel tok rfl (fun hg => hs.sl) (fun hg => by omega)) rfl ?_
      refine d_yield rfl rfl rfl (y_lel tok (i) 0 (x) rfl (fun hg => hs) (fun hg => h_x) rfl rfl) rfl ?_
      refine d_yield rfl rfl rfl (y_val tok rfl) rfl ?_
      refine d_yield rfl rfl rfl (y_val tok rfl) rfl ?_
      refine d_yield rfl rfl rfl (y_val tok rfl) rfl ?_
      refine d_yield rfl rfl rfl (y_idxK tok ((i - 1) * 2) rfl (by rw [wrapI (by omega) (by omega)]; dsimp only; omega) (fun hg => hs.sl) (fun hg => by simp at hg; rw [wrapI (by omega) (by omega)]; omega)) rfl ?_
      refine d_yield rfl rfl rfl (y_fel tok rfl (fun hg => hs.sl) (fun hg => by omega)) rfl ?_
      refine d_yield rfl rfl rfl (y_lel tok (i - 1) 0 (blkAt l (i - 1)) rfl (fun hg => hs) (fun hg => by rw [blkAt, List.getD, List.getElem?_eq_getElem (by omega)]; rfl) rfl rfl) rfl ?_
      refine d_yield rfl rfl rfl (y_val tok rfl) rfl ?_
      refine d_yield rfl rfl rfl (y_val tok rfl) rfl ?_
      refine d_yield rfl rfl rfl (y_val tok rfl) rfl ?_
      refine d_yield rfl rfl rfl (y_val tok rfl) rfl ?_
      refine d_yield rfl rfl rfl (y_val tok rfl) rfl ?_
      refine d_yield rfl rfl rfl (y_val tok rfl) rfl ?_
      have hlt_x := lt_of_at h_x
      refine d_yield rfl rfl rfl (y_idx tok rfl (fun hg => hs.sl) (fun hg => ⟨by omega, by omega⟩)) rfl ?_
      refine d_yield rfl rfl rfl (y_fel tok rfl (fun hg => hs.sl) (fun hg => by omega)) rfl ?_
      refine d_yield rfl rfl rfl (y_lel tok (i) 1 (x) rfl (fun hg => hs) (fun hg => h_x) rfl rfl) rfl ?_
      refine d_yield rfl rfl rfl (y_val tok rfl) rfl ?_
      refine d_yield rfl rfl rfl (y_val tok rfl) rfl ?_
      refine d_yield rfl rfl rfl (y_val tok rfl) rfl ?_
      refine d_yield rfl rfl rfl (y_val tok rfl) rfl ?_
      refine d_yield rfl rfl rfl (y_val tok rfl) rfl ?_
      refine d_yield rfl rfl rfl (y_val tok rfl) rfl ?_
      refine d_end [1, 2, 3, 4, 10, 11, 88] rfl ?_
      refine x_then ?_
      refine c_cond rfl (fun h => ?_) (fun h => ?_)
      ·
        simp only [Bool.and_eq_true, Bool.or_eq_true, Bool.not_eq_true', Bool.or_eq_false_iff, Bool.and_eq_false_iff, decide_eq_true_eq, decide_eq_false_iff_not, beq_iff_eq, bne_iff_ne, Bool.not_eq_false', beq_eq_false_iff_ne, bne_eq_false_iff_eq, ne_eq, Decidable.not_not, Int.not_lt, Int.not_le] at h
        refine c_seq ?_
        refine c_region ?_
        refine o_yield rfl rfl rfl (y_val tok rfl) ?_
        refine o_yield rfl rfl rfl (y_val tok rfl) ?_
        refine o_end [8, 9] rfl ?_
        refine x_then ?_
        refine c_ret ?_
        refine x_then_ret ?_
        refine x_block_ret ?_
        refine x_then_ret ?_
        refine x_then_ret ?_
        refine x_block_ret ?_
        refine x_then_ret ?_
        refine b_ret tok rfl ?_
        intro E w' hm _
        refine ⟨.inr ⟨fun hok => ?_, rfl⟩, hm.below (Vw.le.refl _)⟩
        obtain ⟨k1, k2, k3⟩ := hok.blks i x h_x
        omega
      ·
        simp only [Bool.and_eq_true, Bool.or_eq_true, Bool.not_eq_true', Bool.or_eq_false_iff, Bool.and_eq_false_iff, decide_eq_true_eq, decide_eq_false_iff_not, beq_iff_eq, bne_iff_ne, Bool.not_eq_false', beq_eq_false_iff_ne, bne_eq_false_iff_eq, ne_eq, Decidable.not_not, Int.not_lt, Int.not_le] at h
        have hbo : BlkOk g l i x := ⟨by omega, by omega, by omega⟩
        have hx0 : 0 ≤ x.n := by omega
        clear h
        refine c_skip ?_
        refine x_then ?_
        refine c_seq ?_
        refine c_region ?_
        refine o_yield rfl rfl rfl (y_val tok rfl) ?_
        refine o_end [1, 2, 3, 4, 10, 11, 12] rfl ?_
        refine x_then ?_
        refine c_block ?_
        rw [hper]
        refine c_loopK [1, 2, 3, 4, 11] [1] rfl rfl (σ := Nat) (fun k => [(10, .a (.row 1)), (12, .a (.v (I k)))]) (fun k => [(1, .row 70 6 (recs key lsn per l (i * per + k)).length ((recs key lsn per l (i * per + k)).flatMap Record.cells))]) (fun k => k ≤ per) (fun k => per - k) (0) (by omega) (by repeat (first | exact SubF.nil | refine SubF.cons rfl ?_)) (by repeat (first | exact SubO.nil | refine SubO.cons rfl ?_)) rfl ?_
        rintro k hk
        refine c_seq ?_
        refine c_seq ?_
        refine c_region ?_
        refine o_yield rfl rfl rfl (y_val tok rfl) ?_
        refine o_yield rfl rfl rfl (y_val tok rfl) ?_
        refine o_yield rfl rfl rfl (y_val tok rfl) ?_
        refine o_yield rfl rfl rfl (y_val tok rfl) ?_
        refine o_end [1, 2, 3, 4, 10, 11, 12, 92] rfl ?_
        refine x_then ?_
        refine c_cond rfl (fun h => ?_) (fun h => ?_)
        ·
          simp only [Bool.and_eq_true, Bool.or_eq_true, Bool.not_eq_true', Bool.or_eq_false_iff, Bool.and_eq_false_iff, decide_eq_true_eq, decide_eq_false_iff_not, beq_iff_eq, bne_iff_ne, Bool.not_eq_false', beq_eq_false_iff_ne, bne_eq_false_iff_eq, ne_eq, Decidable.not_not, Int.not_lt, Int.not_le] at h
          refine c_skip ?_
          refine x_then ?_
          refine c_seq ?_
          refine c_block ?_
          refine c_heldS [21] mixed rfl (by repeat (first | exact SubO.nil | refine SubO.cons rfl ?_)) rfl ?_
          refine t_takeD 0 rfl (by kernel_rfl) rfl rfl rfl (y_val tok rfl) rfl ?_
          refine t_takeD 1 rfl (by kernel_rfl) rfl rfl rfl (y_val tok rfl) rfl ?_
          refine t_takeD 2 rfl (by kernel_rfl) rfl rfl rfl (y_val tok rfl) rfl ?_
          refine t_takeD 3 rfl (by kernel_rfl) rfl rfl rfl (y_val tok rfl) rfl ?_
          have hklt : k < per := by omega
          have hrat := recAt_at key lsn per l h_x hklt
          have hwr : IntKind.i64.wrap (lsn + ((recs key lsn per l (i * per + k)).length : Int)) = lsn + (i * per + k : Nat) := by
            rw [recs_len, wrapI (by omega) (by omega)]
          have hl1 : (recs key lsn per l (i * per + k)).length + 1 = (recs key lsn per l (i * per + (k + 1))).length := by rw [recs_len, recs_len]; omega
          refine t_takeD 4 rfl (by kernel_rfl) rfl rfl rfl (y_val tok rfl) rfl ?_
          refine t_takeD 5 rfl (by kernel_rfl) rfl rfl rfl (y_val tok rfl) rfl ?_
          refine t_takeD 6 rfl (by kernel_rfl) rfl rfl rfl (y_val tok rfl) rfl ?_
          refine t_takeD 7 rfl (by kernel_rfl) rfl rfl rfl (y_val tok rfl) rfl ?_
          have hlt_x := lt_of_at h_x
          refine t_takeD 8 rfl (by kernel_rfl) rfl rfl rfl (y_idx tok rfl (fun hg => hs.sl) (fun hg => ⟨by omega, by omega⟩)) rfl ?_
          refine t_takeD 9 rfl (by kernel_rfl) rfl rfl rfl (y_fel tok rfl (fun hg => hs.sl) (fun hg => by omega)) rfl ?_
          refine t_takeD 10 rfl (by kernel_rfl) rfl rfl rfl (y_lel tok (i) 0 (x) rfl (fun hg => hs) (fun hg => h_x) rfl rfl) rfl ?_
          refine t_takeD 11 rfl (by kernel_rfl) rfl rfl rfl (y_val tok rfl) rfl ?_
          refine t_takeD 12 rfl (by kernel_rfl) rfl rfl rfl (y_val tok rfl) rfl ?_
          refine t_takeD 13 rfl (by kernel_rfl) rfl rfl rfl (y_val tok rfl) rfl ?_
          have hlt_x := lt_of_at h_x
          refine t_takeD 14 rfl (by kernel_rfl) rfl rfl rfl (y_idx tok rfl (fun hg => hs.sl) (fun hg => ⟨by omega, by omega⟩)) rfl ?_
          refine t_takeD 15 rfl (by kernel_rfl) rfl rfl rfl (y_fel tok rfl (fun hg => hs.sl) (fun hg => by omega)) rfl ?_
          refine t_takeD 16 rfl (by kernel_rfl) rfl rfl rfl (y_lel tok (i) 1 (x) rfl (fun hg => hs) (fun hg => h_x) rfl rfl) rfl ?_
          refine t_takeD 17 rfl (by kernel_rfl) rfl rfl rfl (y_val tok rfl) rfl ?_
          refine t_go ?_
          refine h_one 18 (by kernel_rfl) ?_
          have htx := hbo.size
          refine h_call 18 (.a (.v _)) rfl rfl rfl fnok91 rfl rfl rfl (fun hg E w1 hm => by exact refPiece_c x.text k (by omega) (by simp only [maxLen]; omega) _) ?_
          refine h_one 19 (by kernel_rfl) ?_
          refine h_yield 19 rfl rfl rfl rfl (y_val tok rfl) ?_
          refine h_one 20 (by kernel_rfl) ?_
          rw [hwr]
          refine h_to 20 rfl rfl rfl rfl rfl rfl (s_bs tok 6 rfl rfl rfl) (.inr fun _ _ => ⟨(by repeat (first | exact SubO.nil | refine SubO.cons rfl ?_)), rfl, Vw.le.refl _⟩) (fun _ _ => ?_)
          refine h_one 21 (by kernel_rfl) ?_
          refine h_to 21 rfl rfl rfl rfl rfl rfl (s_app tok (recAt key lsn per l (i * per + k)).cells rfl (fun E w hm => by rw [hrat]; exact ownsRow_src (hm.row _ _ _ _ _ rfl)) (fun _ _ _ => by simpa using rec_ones [recAt key lsn per l (i * per + k)]) (by dsimp only; rw [recs_len]; omega)) (.inl rfl) (fun _ _ => ?_)
          refine h_one 22 (by kernel_rfl) ?_
          refine h_yield 22 rfl rfl rfl rfl (y_val tok rfl) ?_
          refine h_done [1, 2, 3, 4, 10, 11, 12] (by kernel_rfl) rfl ?_
          refine x_block ?_
          refine x_then ?_
          refine c_region ?_
          refine o_yield rfl rfl rfl (y_val tok rfl) ?_
          refine o_yield rfl rfl rfl (y_val tok rfl) ?_
          refine o_yield rfl rfl rfl (y_val tok rfl) ?_
          refine o_end [1, 2, 3, 4, 10, 11, 12] rfl ?_
          refine x_then ?_
          rw [hl1, show (recs key lsn per l (i * per + k)).flatMap Record.cells ++ (recAt key lsn per l (i * per + k)).cells = (recs key lsn per l (i * per + (k + 1))).flatMap Record.cells by rw [← Nat.add_assoc, recs_succ]; simp]
          rw [wrapI (n := (k : Int) + 1) (by omega) (by omega)]
          refine k_swap 1 3 rfl ?_
          refine x_round (k + 1) (by omega) (by first | omega | (dsimp only; omega)) (by repeat (first | exact SubF.nil | refine SubF.cons rfl ?_)) (by repeat (first | exact SubO.nil | refine SubO.cons rfl ?_)) rfl (Vw.le.refl _)
        ·
          simp only [Bool.and_eq_true, Bool.or_eq_true, Bool.not_eq_true', Bool.or_eq_false_iff, Bool.and_eq_false_iff, decide_eq_true_eq, decide_eq_false_iff_not, beq_iff_eq, bne_iff_ne, Bool.not_eq_false', beq_eq_false_iff_ne, bne_eq_false_iff_eq, ne_eq, Decidable.not_not, Int.not_lt, Int.not_le] at h
          refine c_exit ?_
          refine x_then_exit ?_
          refine x_then_exit ?_
          refine x_block_hit ?_
          refine x_block ?_
          refine x_then ?_
          refine c_region ?_
          refine o_yield rfl rfl rfl (y_val tok rfl) ?_
          refine o_yield rfl rfl rfl (y_val tok rfl) ?_
          refine o_yield rfl rfl rfl (y_val tok rfl) ?_
          refine o_end [1, 2, 3, 4, 10, 11] rfl ?_
          refine x_then ?_
          have hkp : k = per := by omega
          subst hkp
          rw [wrapI (n := (i : Int) + 1) (by omega) (by omega), show i * k + k = (i + 1) * k by rw [Nat.add_mul, Nat.one_mul]]
          refine x_round (i + 1) (⟨by omega, ahead_succ' h_x hblk hbo, by rw [lastN_succ h_x]; omega⟩) (by first | omega | (dsimp only; omega)) (by repeat (first | exact SubF.nil | refine SubF.cons rfl ?_)) (by repeat (first | exact SubO.nil | refine SubO.cons rfl ?_)) rfl (Vw.le.refl _)
    ·
      simp only [Bool.and_eq_true, Bool.or_eq_true, Bool.not_eq_true', Bool.or_eq_false_iff, Bool.and_eq_false_iff, decide_eq_true_eq, decide_eq_false_iff_not, beq_iff_eq, bne_iff_ne, Bool.not_eq_false', beq_eq_false_iff_ne, bne_eq_false_iff_eq, ne_eq, Decidable.not_not, Int.not_lt, Int.not_le] at h
      have hil : i = l.length := by omega
      subst hil
      have hwr : IntKind.i64.wrap (lsn + ((recs key lsn per l (l.length * per)).length : Int)) = lsn + (l.length * per : Nat) := by
        rw [recs_len, wrapI (by omega) (by omega)]
      have hl1 : (recs key lsn per l (l.length * per)).length + 1 = (allRecs g key lsn l).length := by rw [recs_len, all_len, hpn]
      have hcm : commitOf key lsn (l.length * per) = ⟨key, lsn + (l.length * per : Nat), 0, 0, ByteArray.empty, ((recs key lsn per l (l.length * per)).length : Int)⟩ := by simp [commitOf, recs_len]
      have hall : (recs key lsn per l (l.length * per)).flatMap Record.cells ++ (commitOf key lsn (l.length * per)).cells = (allRecs g key lsn l).flatMap Record.cells := by
        rw [allRecs, hpn]; simp
      have hal := all_len g key lsn l
      rw [hpn] at hal
      refine c_exit ?_
      refine x_then_exit ?_
      refine x_then_exit ?_
      refine x_block_hit ?_
      refine x_then ?_
      refine c_seq ?_
      refine c_region ?_
      refine o_yield rfl rfl rfl (y_val tok rfl) ?_
      refine o_yield rfl rfl rfl (y_val tok rfl) ?_
      refine o_yield rfl rfl rfl (y_val tok rfl) ?_
      refine o_yield rfl rfl rfl (y_val tok rfl) ?_
      refine o_yield rfl rfl rfl (y_val tok rfl) ?_
      refine o_yield rfl rfl rfl (y_val tok rfl) ?_
      refine o_yield rfl rfl rfl (y_val tok rfl) ?_
      refine o_yield rfl rfl rfl (y_val tok rfl) ?_
      refine o_yield rfl rfl rfl (y_val tok rfl) ?_
      rw [hwr]
      refine o_step rfl rfl rfl rfl rfl (s_bs tok 6 rfl rfl rfl) (fun _ _ => ?_)
      refine o_step rfl rfl rfl rfl rfl (s_app tok (commitOf key lsn (l.length * per)).cells rfl (fun E w hm => by rw [hcm]; exact ownsRow_src (hm.row _ _ _ _ _ rfl)) (fun _ _ _ => by simpa using rec_ones [commitOf key lsn (l.length * per)]) (by dsimp only; rw [recs_len]; omega)) (fun _ _ => ?_)
      refine o_yield rfl rfl rfl (y_val tok rfl) ?_
      refine o_end [10] rfl ?_
      refine x_then ?_
      refine c_seq ?_
      refine c_seq ?_
      refine c_region ?_
      refine o_yield rfl rfl rfl (y_val tok rfl) ?_
      refine o_end [10, 13] rfl ?_
      refine x_then ?_
      refine c_block ?_
      rw [hl1, hall]
      refine c_loopK [10] [] rfl rfl (σ := Nat) (fun j => [(13, .a (.v (I j)))]) (fun j => []) (fun j => j ≤ (allRecs g key lsn l).length ∧ ∀ i r, i < j → (allRecs g key lsn l)[i]? = some r → recB r = true) (fun j => (allRecs g key lsn l).length - j) (0) (⟨by omega, by omega⟩) (by repeat (first | exact SubF.nil | refine SubF.cons rfl ?_)) (by repeat (first | exact SubO.nil | refine SubO.cons rfl ?_)) rfl ?_
      rintro j ⟨hj, hrec⟩
      refine c_seq ?_
      refine c_seq ?_
      refine c_region ?_
      refine o_yield rfl rfl rfl (y_val tok rfl) ?_
      refine o_yield rfl rfl rfl (y_val tok rfl) ?_
      refine o_yield rfl rfl rfl (y_val tok rfl) ?_
      refine o_yield rfl rfl rfl (y_val tok rfl) ?_
      refine o_end [10, 13, 131] rfl ?_
      refine x_then ?_
      refine c_cond rfl (fun h => ?_) (fun h => ?_)
      ·
        simp only [Bool.and_eq_true, Bool.or_eq_true, Bool.not_eq_true', Bool.or_eq_false_iff, Bool.and_eq_false_iff, decide_eq_true_eq, decide_eq_false_iff_not, beq_iff_eq, bne_iff_ne, Bool.not_eq_false', beq_eq_false_iff_ne, bne_eq_false_iff_eq, ne_eq, Decidable.not_not, Int.not_lt, Int.not_le] at h
        refine c_skip ?_
        refine x_then ?_
        refine c_seq ?_
        refine c_block ?_
        refine c_seq ?_
        refine c_region ?_
        refine o_yield rfl rfl rfl (y_val tok rfl) ?_
        refine o_yield rfl rfl rfl (y_val tok rfl) ?_
        obtain ⟨r, hr⟩ : ∃ r, (allRecs g key lsn l)[j]? = some r := ⟨(allRecs g key lsn l)[j]'(by omega), by simp⟩
        refine o_yield rfl rfl rfl (y_own (s := .a (.rel 3 (j * 6))) 3 rfl rfl (fun v V' hv => y_idxK tok (j * 6) rfl (by simp) (fun hg => hv) (fun hg => by omega))) ?_
        refine o_yield rfl rfl rfl (y_own (s := .agg (r.cells.map .v)) 3 rfl rfl (fun v V' hv => y_lel tok j 0 r rfl (fun hg => ⟨hv, fun _ => rfl⟩) (fun hg => hr) rfl rfl)) ?_
        refine o_call (.a (.v _)) rfl rfl fnok156 rfl rfl rfl (fun hg E w1 hm => by exact refRecMay_c r _) ?_
        refine o_yield rfl rfl rfl (y_val tok rfl) ?_
        refine o_end [10, 13, 139] rfl ?_
        refine x_then ?_
        refine c_cond rfl (fun h => ?_) (fun h => ?_)
        ·
          simp only [Bool.and_eq_true, Bool.or_eq_true, Bool.not_eq_true', Bool.or_eq_false_iff, Bool.and_eq_false_iff, decide_eq_true_eq, decide_eq_false_iff_not, beq_iff_eq, bne_iff_ne, Bool.not_eq_false', beq_eq_false_iff_ne, bne_eq_false_iff_eq, ne_eq, Decidable.not_not, Int.not_lt, Int.not_le] at h
          refine c_seq ?_
          refine c_region ?_
          refine o_yield rfl rfl rfl (y_val tok rfl) ?_
          refine o_yield rfl rfl rfl (y_val tok rfl) ?_
          refine o_end [8, 9] rfl ?_
          refine x_then ?_
          refine c_ret ?_
          refine x_block_ret ?_
          refine x_then_ret ?_
          refine x_then_ret ?_
          refine x_block_ret ?_
          refine x_then_ret ?_
          refine b_ret tok rfl ?_
          intro E w' hm _
          refine ⟨.inr ⟨fun hok => ?_, rfl⟩, hm.below (Vw.le.refl _)⟩
          have := all_recB hok hr
          rw [this] at h
          cases h
        ·
          simp only [Bool.and_eq_true, Bool.or_eq_true, Bool.not_eq_true', Bool.or_eq_false_iff, Bool.and_eq_false_iff, decide_eq_true_eq, decide_eq_false_iff_not, beq_iff_eq, bne_iff_ne, Bool.not_eq_false', beq_eq_false_iff_ne, bne_eq_false_iff_eq, ne_eq, Decidable.not_not, Int.not_lt, Int.not_le] at h
          refine c_skip ?_
          refine x_block ?_
          refine x_then ?_
          refine c_region ?_
          refine o_yield rfl rfl rfl (y_val tok rfl) ?_
          refine o_yield rfl rfl rfl (y_val tok rfl) ?_
          refine o_yield rfl rfl rfl (y_val tok rfl) ?_
          refine o_end [10, 13] rfl ?_
          refine x_then ?_
          rw [wrapI (n := (j : Int) + 1) (by omega) (by omega)]
          refine x_round (j + 1) (⟨by omega, ahead_succ' hr hrec h⟩) (by first | omega | (dsimp only; omega)) (by repeat (first | exact SubF.nil | refine SubF.cons rfl ?_)) (by repeat (first | exact SubO.nil | refine SubO.cons rfl ?_)) rfl (Vw.le.refl _)
      ·
        simp only [Bool.and_eq_true, Bool.or_eq_true, Bool.not_eq_true', Bool.or_eq_false_iff, Bool.and_eq_false_iff, decide_eq_true_eq, decide_eq_false_iff_not, beq_iff_eq, bne_iff_ne, Bool.not_eq_false', beq_eq_false_iff_ne, bne_eq_false_iff_eq, ne_eq, Decidable.not_not, Int.not_lt, Int.not_le] at h
        refine c_exit ?_
        refine x_then_exit ?_
        refine x_then_exit ?_
        refine x_block_hit ?_
        refine x_then ?_
        refine c_seq ?_
        refine c_region ?_
        refine o_yield rfl rfl rfl (y_val tok rfl) ?_
        refine o_yield rfl rfl rfl (y_val tok rfl) ?_
        refine o_yield rfl rfl rfl (y_val tok rfl) ?_
        refine o_end [8, 9] rfl ?_
        refine x_then ?_
        refine c_ret ?_
        refine b_ret tok rfl ?_
        have hjl : j = (allRecs g key lsn l).length := by omega
        subst hjl
        intro E w' hm _
        have hok : OfOk g key lsn l := by
          refine ⟨hgg, fun hc => hne (by rw [hc]; rfl), by omega, by simp only [belowB, Bool.and_eq_true, decide_eq_true_eq]; omega, fun i b hb => hblk i b (List.getElem?_eq_some_iff.1 hb).1 hb, fun j hj => ?_, ?_⟩
          · exact hrec j _ (by rw [hal, ← hpn]; omega) (all_at hj)
          · exact hrec (l.length * g.per.toNat) _ (by rw [hal, hpn]; omega) all_last
        exact ⟨.inl ⟨hok, E.κ 3, rfl, hm.rowFresh (Vw.le.refl _) (l := 3) rfl⟩, hm.below (Vw.le.refl _)⟩
end Go.Proofs.Ytanekcndpkagiaa

/- Texts put together. -/
set_option linter.unusedVariables false
set_option linter.unusedSimpArgs false
set_option maxRecDepth 100000
namespace Go.Proofs.Ytanekcndpkagiaa
open Go Go.Eng Go.RowKit

/-- Texts one behind the other. -/
def catL (l : List ByteArray) : List UInt8 := l.flatMap fun s => s.data.toList
def catS (l : List ByteArray) : ByteArray := strOf (catL l)

theorem catS_size (l : List ByteArray) : (catS l).size = (catL l).length := strOf_size _

theorem join_plain (l : List ByteArray) : Lib.join (l.map (·.data.toList)) (ByteArray.empty).data.toList = catL l := by
  cases l with
  | nil => rfl
  | cons x r =>
    rw [List.map_cons, Lib.join_cons]
    simp only [Lib.joinTail, catL, List.flatMap_cons]
    congr 1
    induction r with
    | nil => rfl
    | cons y r ih => simp at ih ⊢; rw [← ih]

theorem flat_strs : ∀ l : List ByteArray, l.flatMap encS = l.map Value.string
  | [] => rfl
  | x :: r => by rw [List.flatMap_cons, flat_strs r]; rfl

theorem join_c (V : Vw) (sv : Value) (l : List ByteArray) (w : World) (hV : V.le (vw w)) (hs : SlOf V encS 1 sv l) (hn : l.length ≤ 140737488355328) (hc : (catL l).length ≤ 140737488355328) :
    Calls Try.prog 92 #[sv, S ByteArray.empty] w fun e w' => e = .returned (S (catS l)) ∧ Below w.heap.size w w' := by
  rcases hs.sl.2 with ⟨a, c, rfl, h0⟩ | ⟨b, off, cap, cs, e, fz, rfl, hb, hle, hx, hcap⟩
  · have : l = [] := List.eq_nil_of_length_eq_zero h0
    subst this
    exact (Try.strings_Join_none a c ByteArray.empty w).mono fun e w' ⟨he, hw⟩ => ⟨he, hw ▸ Below.refl _ _⟩
  · have hbw := hV.get _ _ hb
    have hlt : b < w.heap.size := (Array.getElem?_eq_some_iff.1 hbw).1
    have key := Try.strings_Join b off cap l ByteArray.empty w (fun j x hj => by
      have h1 := block_cell (w := w) (b := b) (off := off) (e := e) (fz := fz) (cs := cs) (k := l.length * 1) (xs := l.flatMap encS) hbw hx j (.string x) (by
        rw [flat_strs, List.getElem?_map, hj]; rfl)
      rwa [Addr.add_lit] at h1) hlt hn hcap (by rw [join_plain]; exact hc)
    rw [join_plain] at key
    exact key
end Go.Proofs.Ytanekcndpkagiaa

/- The way of a fetching: the program's. -/
set_option linter.unusedVariables false
set_option linter.unusedSimpArgs false
set_option maxRecDepth 100000
namespace Go.Proofs.Ytanekcndpkagiaa
open Go Go.Eng Go.RowKit

abbrev wayC (f : Fetching) (g : Geo) : List Value := f.cells ++ g.cells

theorem wend_c (f : Fetching) (g : Geo) (b : Nat) (w : World) (hb : w.heap[b]? = some (.cells (wayC f g).toArray 149 (0, 0))) :
    Calls Try.prog 116 #[.pointer (some ⟨b, 0, none⟩)] w fun e w' => e = .returned (.bool (decide (g.per ≤ f.k))) ∧ Below w.heap.size w w' := by
  refine enter1 [.a (.ptr 0 0)] hb Try.func116 rfl rfl rfl rfl ?_
  refine c_seq ?_
  refine c_region ?_
  refine o_yield rfl rfl rfl (y_val tok rfl) ?_
  refine o_end [0] rfl ?_
  refine x_then ?_
  refine c_seq ?_
  refine c_draw mixed (by kernel_rfl) ?_
  refine d_yield rfl rfl rfl (y_val tok rfl) rfl ?_
  refine d_yield rfl rfl rfl (y_val tok rfl) rfl ?_
  refine d_yield rfl rfl rfl (y_val tok rfl) rfl ?_
  refine d_yield rfl rfl rfl (y_val tok rfl) rfl ?_
  refine d_yield rfl rfl rfl (y_val tok rfl) rfl ?_
  refine d_yield rfl rfl rfl (y_val tok rfl) rfl ?_
  refine d_yield rfl rfl rfl (y_val tok rfl) rfl ?_
  refine d_yield rfl rfl rfl (y_val tok rfl) rfl ?_
  refine d_yield rfl rfl rfl (y_val tok rfl) rfl ?_
  refine d_yield rfl rfl rfl (y_val tok rfl) rfl ?_
  refine d_yield rfl rfl rfl (y_val tok rfl) rfl ?_
  refine d_yield rfl rfl rfl (y_val tok rfl) rfl ?_
  refine d_end [2] rfl ?_
  refine x_then ?_
  refine c_ret ?_
  refine b_ret tok rfl ?_
  intro E w' hm _
  exact ⟨rfl, below1 hb hm (Vw.le.refl _) rfl rfl rfl⟩
end Go.Proofs.Ytanekcndpkagiaa

/- Fetching a block: the program's. -/
set_option linter.unusedVariables false
set_option linter.unusedSimpArgs false
set_option maxRecDepth 100000
namespace Go.Proofs.Ytanekcndpkagiaa
open Go Go.Eng Go.RowKit

theorem sl_shape' {V : Vw} {v : Value} {sz m : Nat} {xs : List Value} (h : IsSl V v sz m xs) : ∃ a c, v = .slice a m c ∧ m ≤ c ∧ IsSl V (.slice a m m) sz m xs := by
  rcases h with ⟨h0, ⟨a, c, rfl, rfl⟩ | ⟨b, off, cap, cs, e, f, rfl, hg, hle, hx, hc⟩⟩
  · exact ⟨a, c, rfl, Nat.zero_le _, h0, .inl ⟨a, 0, rfl, rfl⟩⟩
  · exact ⟨_, cap, rfl, hc, h0, .inr ⟨b, off, m, cs, e, f, rfl, hg, hle, hx, Nat.le_refl _⟩⟩

def nextV (f : Fetching) (g : Geo) : Int := if g.per ≤ f.k then -1 else dataV g f.block f.k

theorem wnext_c (f : Fetching) (g : Geo) (ok : g.Ok) (b : Nat) (w : World) (hb : w.heap[b]? = some (.cells (wayC f g).toArray 149 (0, 0))) :
    Calls Try.prog 117 #[.pointer (some ⟨b, 0, none⟩)] w fun e w' => e = .returned (I (nextV f g)) ∧ Below w.heap.size w w' := by
  refine enter1 [.a (.ptr 0 0)] hb Try.func117 rfl rfl rfl rfl ?_
  refine c_seq ?_
  refine c_region ?_
  refine o_yield rfl rfl rfl (y_val tok rfl) ?_
  refine o_end [0] rfl ?_
  refine x_then ?_
  refine c_seq ?_
  refine c_seq ?_
  refine c_region ?_
  refine o_yield rfl rfl rfl (y_val tok rfl) ?_
  refine o_call (.a (.v _)) rfl rfl fnok116 rfl rfl rfl (fun hg E w1 hm => by exact wend_c f g _ _ (hm.lit 0 _ _ rfl)) ?_
  refine o_end [0, 4] rfl ?_
  refine x_then ?_
  refine c_cond rfl (fun h => ?_) (fun h => ?_)
  ·
    simp only [Bool.and_eq_true, Bool.or_eq_true, Bool.not_eq_true', Bool.or_eq_false_iff, Bool.and_eq_false_iff, decide_eq_true_eq, decide_eq_false_iff_not, beq_iff_eq, bne_iff_ne, Bool.not_eq_false', beq_eq_false_iff_ne, bne_eq_false_iff_eq, ne_eq, Decidable.not_not, Int.not_lt, Int.not_le] at h
    refine c_seq ?_
    refine c_region ?_
    refine o_yield rfl rfl rfl (y_val tok rfl) ?_
    refine o_end [2] rfl ?_
    refine x_then ?_
    refine c_ret ?_
    refine x_then_ret ?_
    refine b_ret tok rfl ?_
    intro E w' hm _
    refine ⟨?_, below1 hb hm (Vw.le.refl _) rfl rfl rfl⟩
    rw [nextV, if_pos h]; rfl
  ·
    simp only [Bool.and_eq_true, Bool.or_eq_true, Bool.not_eq_true', Bool.or_eq_false_iff, Bool.and_eq_false_iff, decide_eq_true_eq, decide_eq_false_iff_not, beq_iff_eq, bne_iff_ne, Bool.not_eq_false', beq_eq_false_iff_ne, bne_eq_false_iff_eq, ne_eq, Decidable.not_not, Int.not_lt, Int.not_le] at h
    refine c_skip ?_
    refine x_then ?_
    refine c_seq ?_
    refine c_draw mixed (by kernel_rfl) ?_
    refine d_yield rfl rfl rfl (y_val tok rfl) rfl ?_
    refine d_yield rfl rfl rfl (y_val tok rfl) rfl ?_
    refine d_yield rfl rfl rfl (y_val tok rfl) rfl ?_
    refine d_yield rfl rfl rfl (y_val tok rfl) rfl ?_
    refine d_yield rfl rfl rfl (y_val tok rfl) rfl ?_
    refine d_yield rfl rfl rfl (y_val tok rfl) rfl ?_
    refine d_yield rfl rfl rfl (y_val tok rfl) rfl ?_
    refine d_yield rfl rfl rfl (y_val tok rfl) rfl ?_
    refine d_yield rfl rfl rfl (y_val tok rfl) rfl ?_
    refine d_yield rfl rfl rfl (y_val tok rfl) rfl ?_
    refine d_yield rfl rfl rfl (y_val tok rfl) rfl ?_
    refine d_yield rfl rfl rfl (y_val tok rfl) rfl ?_
    refine d_yield rfl rfl rfl (y_val tok rfl) rfl ?_
    refine d_yield rfl rfl rfl (y_val tok rfl) rfl ?_
    refine d_call (.a (.v _)) rfl rfl fnok93 rfl rfl rfl (fun hg E w1 hm => by exact data_c g ok _ _ _) ?_
    refine d_yield rfl rfl rfl (y_val tok rfl) rfl ?_
    refine d_end [2] rfl ?_
    refine x_then ?_
    refine c_ret ?_
    refine b_ret tok rfl ?_
    intro E w' hm _
    refine ⟨?_, below1 hb hm (Vw.le.refl _) rfl rfl rfl⟩
    rw [nextV, if_neg (by omega)]; rfl

theorem wput_c (bk k : Int) (g : Geo) (v lv : Value) (L : List ByteArray) (got : ByteArray) (b : Nat) (w : World) (hb : w.heap[b]? = some (.cells (wayC ⟨bk, k, ⟨v, L⟩⟩ g).toArray 149 (0, 0)))
    (hs0 : SlOf ((vw w).del b) encS 1 v L) (hl0 : SlOf ((vw w).del b) encS 1 lv [got]) (hn : L.length ≤ 1099511627776) :
    Calls Try.prog 119 #[.pointer (some ⟨b, 0, none⟩), lv] w fun e w' => e = .returned (.tuple #[]) ∧ ∃ v', Go.Eng.Touch (· = b) w w' ∧ w'.ownsRow w.heap.size 9 1 v' (L ++ [got]).length ((L ++ [got]).flatMap encS) ∧
      w'.heap[b]? = some (.cells (wayC ⟨bk, IntKind.i64.wrap (k + 1), ⟨v', []⟩⟩ g).toArray 149 (0, 0)) := by
  obtain ⟨a, c, rfl, hlc, hcut⟩ := sl_shape' hs0.sl
  have hw : IntKind.i64.wrap (((L.length : Nat) : Int)) = (L.length : Int) := wrapI (by omega) (by omega)
  refine enter1 [.a (.ptr 0 0), .a (.v lv)] hb Try.func119 rfl rfl rfl rfl ?_
  refine c_seq ?_
  refine c_heldS [24] mixed rfl (by repeat (first | exact SubO.nil | refine SubO.cons rfl ?_)) rfl ?_
  refine t_takeD 0 rfl (by kernel_rfl) rfl rfl rfl (y_val tok rfl) rfl ?_
  refine t_takeD 1 rfl (by kernel_rfl) rfl rfl rfl (y_val tok rfl) rfl ?_
  refine t_takeD 2 rfl (by kernel_rfl) rfl rfl rfl (y_val tok rfl) rfl ?_
  refine t_takeD 3 rfl (by kernel_rfl) rfl rfl rfl (y_val tok rfl) rfl ?_
  refine t_takeD 4 rfl (by kernel_rfl) rfl rfl rfl (y_val tok rfl) rfl ?_
  refine t_takeD 5 rfl (by kernel_rfl) rfl rfl rfl (y_val tok rfl) rfl ?_
  refine t_takeD 6 rfl (by kernel_rfl) rfl rfl rfl (y_val tok rfl) rfl ?_
  refine t_takeD 7 rfl (by kernel_rfl) rfl rfl rfl (y_val tok rfl) rfl ?_
  refine t_takeD 8 rfl (by kernel_rfl) rfl rfl rfl (y_val tok rfl) rfl ?_
  refine t_takeD 9 rfl (by kernel_rfl) rfl rfl rfl (y_val tok rfl) rfl ?_
  refine t_takeD 10 rfl (by kernel_rfl) rfl rfl rfl (y_val tok rfl) rfl ?_
  have hs := hs0
  have hl := hl0
  refine t_takeD 11 rfl (by kernel_rfl) rfl rfl rfl (y_len tok rfl (fun hg => hs.sl)) rfl ?_
  refine t_takeD 12 rfl (by kernel_rfl) rfl rfl rfl (y_val tok rfl) rfl ?_
  refine t_takeD 13 rfl (by kernel_rfl) rfl rfl rfl (y_val tok rfl) rfl ?_
  refine t_takeD 14 rfl (by kernel_rfl) rfl rfl rfl (y_val tok rfl) rfl ?_
  refine t_takeD 15 rfl (by kernel_rfl) rfl rfl rfl (y_val tok rfl) rfl ?_
  refine t_takeD 16 rfl (by kernel_rfl) rfl rfl rfl (y_val tok rfl) rfl ?_
  refine t_takeD 17 rfl (by kernel_rfl) rfl rfl rfl (y_len tok rfl (fun hg => hs.sl)) rfl ?_
  refine t_takeD 18 rfl (by kernel_rfl) rfl rfl rfl (y_sl3 tok rfl (fun hg => ⟨by omega, by omega, by omega⟩)) rfl ?_
  refine t_takeD 19 rfl (by kernel_rfl) rfl rfl rfl (y_val tok rfl) rfl ?_
  refine t_go ?_
  refine h_one 20 (by kernel_rfl) ?_
  rw [Int.toNat_natCast]
  refine h_to 20 rfl rfl rfl rfl rfl rfl (s_appV tok ([got].flatMap encS) rfl hcut (fun E w1 hm => hl.sl.src hm.get) (by simp) (by dsimp only; simp only [List.length_singleton]; omega)) (.inr fun _ _ => ⟨(by repeat (first | exact SubO.nil | refine SubO.cons rfl ?_)), rfl, Vw.le.refl _⟩) (fun _ _ => ?_)
  refine h_one 21 (by kernel_rfl) ?_
  refine h_yield 21 rfl rfl rfl rfl (y_val tok rfl) ?_
  refine h_one 22 (by kernel_rfl) ?_
  refine h_yield 22 rfl rfl rfl rfl (y_val tok rfl) ?_
  refine h_one 23 (by kernel_rfl) ?_
  refine h_yield 23 rfl rfl rfl rfl (y_val tok rfl) ?_
  refine h_one 24 (by kernel_rfl) ?_
  refine h_store 24 tok rfl rfl rfl rfl (by first | exact ⟨trivial, trivial⟩ | (repeat' first | exact trivial | exact rfl | apply And.intro); done | simp [onesP, oneP, lk, Value.oneCell']) (.inl rfl) ?_
  refine h_done [0, 1] (by kernel_rfl) rfl ?_
  refine x_then ?_
  refine c_region ?_
  refine o_yield rfl rfl rfl (y_val tok rfl) ?_
  refine o_yield rfl rfl rfl (y_val tok rfl) ?_
  refine o_yield rfl rfl rfl (y_val tok rfl) ?_
  refine o_yield rfl rfl rfl (y_val tok rfl) ?_
  refine o_yield rfl rfl rfl (y_val tok rfl) ?_
  refine o_yield rfl rfl rfl (y_val tok rfl) ?_
  refine o_yield rfl rfl rfl (y_len tok rfl (fun hg => hl.sl)) ?_
  refine o_yield rfl rfl rfl (y_val tok rfl) ?_
  refine o_yield rfl rfl rfl (y_val tok rfl) ?_
  refine o_yield rfl rfl rfl (y_val tok rfl) ?_
  refine o_yield rfl rfl rfl (y_val tok rfl) ?_
  refine o_store tok rfl rfl rfl (by first | exact ⟨trivial, trivial⟩ | (repeat' first | exact trivial | exact rfl | apply And.intro); done | simp [onesP, oneP, lk, Value.oneCell']) ?_
  refine o_end [] rfl ?_
  refine b_end tok rfl ?_
  intro E w' hm _
  obtain ⟨h1, h2⟩ := back1 hm (Vw.le.refl _) rfl rfl rfl
  refine ⟨rfl, E.κ 3, h1, ?_, ?_⟩
  · have hrow := hm.rowFreshD (Vw.le.refl _) (l0 := 0) rfl (hm.pin 1 0 _ rfl).1 (l := 3) rfl
    rw [List.length_append, List.flatMap_append]
    exact hrow
  · rw [h2]
    rfl

section
open Go.Eng
variable {o : Oper} {n : Nat} {F : Frame0} {C : List Nat} {O : Own} {nl : Nat} {V : Vw}

/-- What was fetched put behind what a way holds. -/
theorem s_wput {p : List (Nat × Bool)} (l r : Nat) (bk k : Int) (g : Geo) (v : Value) (L : List ByteArray) (got : ByteArray) (hv : evalC F p o.op = some (119, [.a (.ptr l 0), .a (.row r)]))
    (hl : lk O l = some (.lit ((wayC ⟨bk, k, ⟨v, L⟩⟩ g).map .v) 149)) (hr : lk O r = some (.row 9 1 [got].length ([got].flatMap encS))) (hs0 : SlOf V encS 1 v L) (hn : L.length ≤ 1099511627776)
    (hx : ∀ E w, Mem E O nl V w → SlOf ((vw w).del (E.ρ l)) encS 1 v L) :
    StepTo Try.prog o p n F C O nl V (σ := Unit) (fun _ => True) (fun _ => .tup []) (fun _ => (l, .lit (.v (I bk) :: .v (I (IntKind.i64.wrap (k + 1))) :: .row nl :: g.cells.map .v) 149) :: (nl, .row 9 1 (L ++ [got]).length ((L ++ [got]).flatMap encS)) :: O) (nl + 1) (fun _ => V) := by
  refine s_callWR (fun _ => True) (fun _ => .tup []) l 149 9 1 (fun _ => (L ++ [got]).length) (fun _ => (L ++ [got]).flatMap encS) (fun _ => .v (I bk) :: .v (I (IntKind.i64.wrap (k + 1))) :: .row nl :: g.cells.map .v) hv fnok119 hl
    (fun _ => by simp only [allOk, A.ok, blt_iff, Bool.and_eq_true, Bool.true_and]; exact ⟨by omega, (den_plain E0 _).2 _⟩) (fun _ => rfl) ?_
  intro E w hm hb
  refine (wput_c bk k g v (E.κ r) L got (E.ρ l) w (by rw [hb, (den_plain E _).1]) (hx E w hm) (hm.rowOfDel (enc := encS) (L := [got]) r hl hr (fun _ => rfl)) hn).mono ?_
  rintro e w' ⟨rfl, v', ht, hown, hv'⟩
  refine ⟨(), v', rfl, ht, hown, ?_, trivial⟩
  rw [hv']
  simp only [List.map_cons, (den_plain _ g.cells).1]
  simp [A.den, Env.setκ, wayC, Fetching.cells]
end

/-- What taking comes to. -/
def FRes (f : Fetching) (g : Geo) (got : ByteArray) (V' : Vw) (x : Value) : Prop :=
  (256 < got.size ∧ x = .tuple #[f.val, I 50]) ∨ (got.size ≤ 256 ∧ g.per ≤ f.k ∧ x = .tuple #[f.val, I 0]) ∨
  (got.size ≤ 256 ∧ f.k < g.per ∧ ∃ a n c, x = .tuple #[.agg #[I f.block, I (IntKind.i64.wrap (f.k + 1)), .slice a n c], I 0] ∧ SlOf V' encS 1 (.slice a n c) (f.parts.l ++ [got]))

theorem ftake_c (V : Vw) (f : Fetching) (g : Geo) (got : ByteArray) (w : World) (hV : V.le (vw w)) (hs0 : SlOf V encS 1 f.parts.v f.parts.l) (hn : f.parts.l.length ≤ 1099511627776) :
    Calls Try.prog 67 #[g.val, f.val, S got] w fun e w' => ∃ x V', e = .returned x ∧ Below w.heap.size w w' ∧ Vext w.heap.size V V' w' ∧ FRes f g got V' x := by
  obtain ⟨bk, k, ⟨v, L⟩⟩ := f
  simp only at hs0 hn
  obtain ⟨a, n, c, rfl⟩ := sl_shape hs0.sl
  have hs := hs0.mono hV
  refine enter (E := E0) (O := []) (nl := 0) (V := vw w) [.a (.v g.val), .a (.v (⟨bk, k, ⟨.slice a n c, L⟩⟩ : Fetching).val), .a (.v (S got))] Try.func67 rfl rfl (mem0 E0 0 w) rfl rfl ?_
  refine c_seq ?_
  refine c_region ?_
  refine o_new tok rfl rfl rfl rfl ?_
  refine o_new tok rfl rfl rfl rfl ?_
  refine o_new tok rfl rfl rfl rfl ?_
  refine o_yield rfl rfl rfl (y_val tok rfl) ?_
  refine o_end [2, 3, 4, 6] rfl ?_
  refine x_then ?_
  refine c_seq ?_
  refine c_region ?_
  refine o_yield rfl rfl rfl (y_val tok rfl) ?_
  refine o_yield rfl rfl rfl (y_val tok rfl) ?_
  refine o_yield rfl rfl rfl (y_val tok rfl) ?_
  refine o_new tok rfl rfl rfl rfl ?_
  refine o_yield rfl rfl rfl (y_val tok rfl) ?_
  refine o_end [2, 4, 6, 8] rfl ?_
  refine x_then ?_
  refine c_seq ?_
  refine c_block ?_
  refine c_seq ?_
  refine c_region ?_
  refine o_yield rfl rfl rfl (y_val tok rfl) ?_
  refine o_yield rfl rfl rfl (y_val tok rfl) ?_
  refine o_yield rfl rfl rfl (y_val tok rfl) ?_
  refine o_yield rfl rfl rfl (y_val tok rfl) ?_
  refine o_end [2, 4, 6, 8, 13] rfl ?_
  refine x_then ?_
  refine c_cond rfl (fun h => ?_) (fun h => ?_)
  ·
    simp only [Bool.and_eq_true, Bool.or_eq_true, Bool.not_eq_true', Bool.or_eq_false_iff, Bool.and_eq_false_iff, decide_eq_true_eq, decide_eq_false_iff_not, beq_iff_eq, bne_iff_ne, Bool.not_eq_false', beq_eq_false_iff_ne, bne_eq_false_iff_eq, ne_eq, Decidable.not_not, Int.not_lt, Int.not_le] at h
    refine c_seq ?_
    refine c_region ?_
    refine o_yield rfl rfl rfl (y_val tok rfl) ?_
    refine o_store tok rfl rfl rfl (by first | exact ⟨trivial, trivial⟩ | (repeat' first | exact trivial | exact rfl | apply And.intro); done | simp [onesP, oneP, lk, Value.oneCell']) ?_
    refine o_yield rfl rfl rfl (y_val tok rfl) ?_
    refine o_end [6, 7] rfl ?_
    refine x_then ?_
    refine c_ret ?_
    refine x_block_ret ?_
    refine x_then_ret ?_
    refine b_ret tok rfl ?_
    intro E w' hm _
    have hb := hm.below (Vw.le.refl _)
    exact ⟨_, V, rfl, hb, Vext.same hV hb, .inl ⟨by omega, rfl⟩⟩
  ·
    simp only [Bool.and_eq_true, Bool.or_eq_true, Bool.not_eq_true', Bool.or_eq_false_iff, Bool.and_eq_false_iff, decide_eq_true_eq, decide_eq_false_iff_not, beq_iff_eq, bne_iff_ne, Bool.not_eq_false', beq_eq_false_iff_ne, bne_eq_false_iff_eq, ne_eq, Decidable.not_not, Int.not_lt, Int.not_le] at h
    have hgt := h
    clear h
    refine c_seq ?_
    refine c_region ?_
    refine o_yield rfl rfl rfl (y_val tok rfl) ?_
    refine o_call (.a (.v _)) rfl rfl fnok116 rfl rfl rfl (fun hg E w1 hm => by exact wend_c ⟨bk, k, ⟨.slice a n c, L⟩⟩ g _ _ (hm.lit 3 _ _ rfl)) ?_
    refine o_yield rfl rfl rfl (y_val tok rfl) ?_
    refine o_yield rfl rfl rfl (y_val tok rfl) ?_
    refine o_end [2, 6, 8, 18] rfl ?_
    refine x_then ?_
    refine c_cond rfl (fun h => ?_) (fun h => ?_)
    ·
      simp only [Bool.and_eq_true, Bool.or_eq_true, Bool.not_eq_true', Bool.or_eq_false_iff, Bool.and_eq_false_iff, decide_eq_true_eq, decide_eq_false_iff_not, beq_iff_eq, bne_iff_ne, Bool.not_eq_false', beq_eq_false_iff_ne, bne_eq_false_iff_eq, ne_eq, Decidable.not_not, Int.not_lt, Int.not_le] at h
      refine c_region ?_
      refine o_yield rfl rfl rfl (y_val tok rfl) ?_
      refine o_yield rfl rfl rfl (y_val tok rfl) ?_
      refine o_step rfl rfl rfl rfl rfl (s_bs tok 1 rfl rfl rfl) (fun _ _ => ?_)
      refine o_step rfl rfl rfl rfl rfl (s_wput 3 4 bk k g (.slice a n c) L got rfl rfl rfl hs hn (fun E w1 hm => hs.mono (hm.leDel (l := 3) rfl))) (fun _ _ => ?_)
      refine o_end [6, 8] rfl ?_
      refine x_block ?_
      refine x_then ?_
      refine c_seq ?_
      refine c_region ?_
      refine o_yield rfl rfl rfl (y_val tok rfl) ?_
      refine o_yield rfl rfl rfl (y_val tok rfl) ?_
      refine o_yield rfl rfl rfl (y_val tok rfl) ?_
      refine o_yield rfl rfl rfl (y_val tok rfl) ?_
      refine o_store tok rfl rfl rfl (by first | exact ⟨trivial, trivial⟩ | (repeat' first | exact trivial | exact rfl | apply And.intro); done | simp [onesP, oneP, lk, Value.oneCell']) ?_
      refine o_yield rfl rfl rfl (y_val tok rfl) ?_
      refine o_end [6, 7] rfl ?_
      refine x_then ?_
      refine c_ret ?_
      refine b_ret tok rfl ?_
      intro E w' hm _
      have hb := hm.below (Vw.le.refl _)
      have hrow := hm.rowFresh (Vw.le.refl _) (l := 5) rfl
      obtain ⟨V', hx, hsl⟩ := ownsRow_vext hV hb hrow
      obtain ⟨a', n', c', hv⟩ := sl_shape hsl
      rw [hv] at hsl
      refine ⟨_, V', rfl, hb, hx, .inr (.inr ⟨by omega, by omega, a', n', c', ?_, hsl, fun _ => rfl⟩)⟩
      rw [← hv]
      rfl
    ·
      simp only [Bool.and_eq_true, Bool.or_eq_true, Bool.not_eq_true', Bool.or_eq_false_iff, Bool.and_eq_false_iff, decide_eq_true_eq, decide_eq_false_iff_not, beq_iff_eq, bne_iff_ne, Bool.not_eq_false', beq_eq_false_iff_ne, bne_eq_false_iff_eq, ne_eq, Decidable.not_not, Int.not_lt, Int.not_le] at h
      refine c_skip ?_
      refine x_block ?_
      refine x_then ?_
      refine c_seq ?_
      refine c_region ?_
      refine o_yield rfl rfl rfl (y_val tok rfl) ?_
      refine o_yield rfl rfl rfl (y_val tok rfl) ?_
      refine o_yield rfl rfl rfl (y_val tok rfl) ?_
      refine o_yield rfl rfl rfl (y_val tok rfl) ?_
      refine o_store tok rfl rfl rfl (by first | exact ⟨trivial, trivial⟩ | (repeat' first | exact trivial | exact rfl | apply And.intro); done | simp [onesP, oneP, lk, Value.oneCell']) ?_
      refine o_yield rfl rfl rfl (y_val tok rfl) ?_
      refine o_end [6, 7] rfl ?_
      refine x_then ?_
      refine c_ret ?_
      refine b_ret tok rfl ?_
      intro E w' hm _
      have hb := hm.below (Vw.le.refl _)
      exact ⟨_, V, rfl, hb, Vext.same hV hb, .inr (.inl ⟨by omega, by omega, rfl⟩)⟩

theorem fover_c (f : Fetching) (g : Geo) (a : Option Addr) (n c : Nat) (hv : f.parts.v = .slice a n c) (w : World) : Calls Try.prog 61 #[g.val, f.val] w fun e w' => e = .returned (.bool (decide (g.per ≤ f.k))) ∧ Below w.heap.size w w' := by
  obtain ⟨bk, k, ⟨v, L⟩⟩ := f
  simp only at hv
  subst hv
  refine enter (E := E0) (O := []) (nl := 0) (V := vw w) [.a (.v g.val), .a (.v (⟨bk, k, ⟨.slice a n c, L⟩⟩ : Fetching).val)] Try.func61 rfl rfl (mem0 E0 0 w) rfl rfl ?_
  refine c_seq ?_
  refine c_region ?_
  refine o_new tok rfl rfl rfl rfl ?_
  refine o_new tok rfl rfl rfl rfl ?_
  refine o_yield rfl rfl rfl (y_val tok rfl) ?_
  refine o_end [2, 3] rfl ?_
  refine x_then ?_
  refine c_seq ?_
  refine c_region ?_
  refine o_yield rfl rfl rfl (y_val tok rfl) ?_
  refine o_yield rfl rfl rfl (y_val tok rfl) ?_
  refine o_yield rfl rfl rfl (y_val tok rfl) ?_
  refine o_new tok rfl rfl rfl rfl ?_
  refine o_call (.a (.v _)) rfl rfl fnok116 rfl rfl rfl (fun hg E w1 hm => by exact wend_c ⟨bk, k, ⟨.slice a n c, L⟩⟩ g _ _ (hm.lit 2 _ _ rfl)) ?_
  refine o_yield rfl rfl rfl (y_val tok rfl) ?_
  refine o_end [4] rfl ?_
  refine x_then ?_
  refine c_ret ?_
  refine b_ret tok rfl ?_
  intro E w' hm _
  refine ⟨?_, hm.below (Vw.le.refl _)⟩
  rfl

def fwantV (f : Fetching) (g : Geo) : ActV := if 0 ≤ nextV f g then ⟨1, nextV f g, ByteArray.empty, 0⟩ else act0

theorem fwant_c (f : Fetching) (g : Geo) (ok : g.Ok) (a : Option Addr) (n c : Nat) (hv : f.parts.v = .slice a n c) (w : World) : Calls Try.prog 63 #[g.val, f.val] w fun e w' => e = .returned (fwantV f g).val ∧ Below w.heap.size w w' := by
  obtain ⟨bk, k, ⟨v, L⟩⟩ := f
  simp only at hv
  subst hv
  refine enter (E := E0) (O := []) (nl := 0) (V := vw w) [.a (.v g.val), .a (.v (⟨bk, k, ⟨.slice a n c, L⟩⟩ : Fetching).val)] Try.func63 rfl rfl (mem0 E0 0 w) rfl rfl ?_
  refine c_seq ?_
  refine c_region ?_
  refine o_new tok rfl rfl rfl rfl ?_
  refine o_new tok rfl rfl rfl rfl ?_
  refine o_new tok rfl rfl rfl rfl ?_
  refine o_end [2, 3, 4] rfl ?_
  refine x_then ?_
  refine c_seq ?_
  refine c_seq ?_
  refine c_region ?_
  refine o_yield rfl rfl rfl (y_val tok rfl) ?_
  refine o_yield rfl rfl rfl (y_val tok rfl) ?_
  refine o_yield rfl rfl rfl (y_val tok rfl) ?_
  refine o_new tok rfl rfl rfl rfl ?_
  refine o_call (.a (.v _)) rfl rfl fnok117 rfl rfl rfl (fun hg E w1 hm => by exact wnext_c ⟨bk, k, ⟨.slice a n c, L⟩⟩ g ok _ _ (hm.lit 3 _ _ rfl)) ?_
  refine o_yield rfl rfl rfl (y_val tok rfl) ?_
  refine o_end [4, 5] rfl ?_
  refine x_then ?_
  refine c_seq ?_
  refine c_region ?_
  refine o_yield rfl rfl rfl (y_val tok rfl) ?_
  refine o_yield rfl rfl rfl (y_val tok rfl) ?_
  refine o_end [4, 5, 12] rfl ?_
  refine x_then ?_
  refine c_cond rfl (fun h => ?_) (fun h => ?_)
  ·
    simp only [Bool.and_eq_true, Bool.or_eq_true, Bool.not_eq_true', Bool.or_eq_false_iff, Bool.and_eq_false_iff, decide_eq_true_eq, decide_eq_false_iff_not, beq_iff_eq, bne_iff_ne, Bool.not_eq_false', beq_eq_false_iff_ne, bne_eq_false_iff_eq, ne_eq, Decidable.not_not, Int.not_lt, Int.not_le] at h
    refine c_region ?_
    refine o_yield rfl rfl rfl (y_val tok rfl) ?_
    refine o_yield rfl rfl rfl (y_val tok rfl) ?_
    refine o_store tok rfl rfl rfl (by first | exact ⟨trivial, trivial⟩ | (repeat' first | exact trivial | exact rfl | apply And.intro); done | simp [onesP, oneP, lk, Value.oneCell']) ?_
    refine o_yield rfl rfl rfl (y_val tok rfl) ?_
    refine o_store tok rfl rfl rfl (by first | exact ⟨trivial, trivial⟩ | (repeat' first | exact trivial | exact rfl | apply And.intro); done | simp [onesP, oneP, lk, Value.oneCell']) ?_
    refine o_end [4] rfl ?_
    refine x_then ?_
    refine c_seq ?_
    refine c_region ?_
    refine o_yield rfl rfl rfl (y_val tok rfl) ?_
    refine o_store tok rfl rfl rfl (by first | exact ⟨trivial, trivial⟩ | (repeat' first | exact trivial | exact rfl | apply And.intro); done | simp [onesP, oneP, lk, Value.oneCell']) ?_
    refine o_end [4] rfl ?_
    refine x_then ?_
    refine c_ret ?_
    refine b_ret tok rfl ?_
    intro E w' hm _
    refine ⟨?_, hm.below (Vw.le.refl _)⟩
    rw [fwantV, if_pos h]; rfl
  ·
    simp only [Bool.and_eq_true, Bool.or_eq_true, Bool.not_eq_true', Bool.or_eq_false_iff, Bool.and_eq_false_iff, decide_eq_true_eq, decide_eq_false_iff_not, beq_iff_eq, bne_iff_ne, Bool.not_eq_false', beq_eq_false_iff_ne, bne_eq_false_iff_eq, ne_eq, Decidable.not_not, Int.not_lt, Int.not_le] at h
    refine c_skip ?_
    refine x_then ?_
    refine c_seq ?_
    refine c_region ?_
    refine o_yield rfl rfl rfl (y_val tok rfl) ?_
    refine o_store tok rfl rfl rfl (by first | exact ⟨trivial, trivial⟩ | (repeat' first | exact trivial | exact rfl | apply And.intro); done | simp [onesP, oneP, lk, Value.oneCell']) ?_
    refine o_end [4] rfl ?_
    refine x_then ?_
    refine c_ret ?_
    refine b_ret tok rfl ?_
    intro E w' hm _
    refine ⟨?_, hm.below (Vw.le.refl _)⟩
    rw [fwantV, if_neg (by omega)]; rfl

theorem ftext_c (V : Vw) (f : Fetching) (w : World) (hV : V.le (vw w)) (hs0 : SlOf V encS 1 f.parts.v f.parts.l) (hn : f.parts.l.length ≤ 140737488355328) (hc : (catL f.parts.l).length ≤ 140737488355328) :
    Calls Try.prog 65 #[f.val] w fun e w' => e = .returned (S (catS f.parts.l)) ∧ Below w.heap.size w w' := by
  obtain ⟨bk, k, ⟨v, L⟩⟩ := f
  simp only at hs0 hn hc
  obtain ⟨a, n, c, rfl⟩ := sl_shape hs0.sl
  have hs := hs0.mono hV
  refine enter (E := E0) (O := []) (nl := 0) (V := vw w) [.a (.v (⟨bk, k, ⟨.slice a n c, L⟩⟩ : Fetching).val)] Try.func65 rfl rfl (mem0 E0 0 w) rfl rfl ?_
  refine c_seq ?_
  refine c_region ?_
  refine o_new tok rfl rfl rfl rfl ?_
  refine o_yield rfl rfl rfl (y_val tok rfl) ?_
  refine o_end [1] rfl ?_
  refine x_then ?_
  refine c_seq ?_
  refine c_region ?_
  refine o_yield rfl rfl rfl (y_val tok rfl) ?_
  refine o_yield rfl rfl rfl (y_val tok rfl) ?_
  refine o_call (.a (.v _)) rfl rfl fnok92 rfl rfl rfl (fun hg E w1 hm => by exact join_c (vw w) _ L _ hm.leV hs hn hc) ?_
  refine o_yield rfl rfl rfl (y_val tok rfl) ?_
  refine o_end [2] rfl ?_
  refine x_then ?_
  refine c_ret ?_
  refine b_ret tok rfl ?_
  intro E w' hm _
  refine ⟨?_, hm.below (Vw.le.refl _)⟩
  rfl

theorem fbegin_c (g : Geo) (ok : g.Ok) (bk : Int) (w : World) : Calls Try.prog 58 #[g.val, I bk] w fun e w' => e = .returned (.tuple #[(⟨if 0 ≤ dataV g bk 0 then bk else 0, 0, ⟨.slice none 0 0, []⟩⟩ : Fetching).val, I (if 0 ≤ dataV g bk 0 then 0 else 2)]) ∧ Below w.heap.size w w' := by
  refine enter (E := E0) (O := []) (nl := 0) (V := vw w) [.a (.v g.val), .a (.v (I bk))] Try.func58 rfl rfl (mem0 E0 0 w) rfl rfl ?_
  refine c_seq ?_
  refine c_region ?_
  refine o_new tok rfl rfl rfl rfl ?_
  refine o_new tok rfl rfl rfl rfl ?_
  refine o_yield rfl rfl rfl (y_val tok rfl) ?_
  refine o_end [1, 2, 4] rfl ?_
  refine x_then ?_
  refine c_seq ?_
  refine c_seq ?_
  refine c_region ?_
  refine o_yield rfl rfl rfl (y_val tok rfl) ?_
  refine o_yield rfl rfl rfl (y_val tok rfl) ?_
  refine o_call (.a (.v _)) rfl rfl fnok93 rfl rfl rfl (fun hg E w1 hm => by exact data_c g ok _ _ _) ?_
  refine o_yield rfl rfl rfl (y_val tok rfl) ?_
  refine o_end [1, 4, 9] rfl ?_
  refine x_then ?_
  refine c_cond rfl (fun h => ?_) (fun h => ?_)
  ·
    simp only [Bool.and_eq_true, Bool.or_eq_true, Bool.not_eq_true', Bool.or_eq_false_iff, Bool.and_eq_false_iff, decide_eq_true_eq, decide_eq_false_iff_not, beq_iff_eq, bne_iff_ne, Bool.not_eq_false', beq_eq_false_iff_ne, bne_eq_false_iff_eq, ne_eq, Decidable.not_not, Int.not_lt, Int.not_le] at h
    refine c_seq ?_
    refine c_region ?_
    refine o_yield rfl rfl rfl (y_val tok rfl) ?_
    refine o_store tok rfl rfl rfl (by first | exact ⟨trivial, trivial⟩ | (repeat' first | exact trivial | exact rfl | apply And.intro); done | simp [onesP, oneP, lk, Value.oneCell']) ?_
    refine o_yield rfl rfl rfl (y_val tok rfl) ?_
    refine o_end [4, 5] rfl ?_
    refine x_then ?_
    refine c_ret ?_
    refine x_then_ret ?_
    refine b_ret tok rfl ?_
    intro E w' hm _
    refine ⟨?_, hm.below (Vw.le.refl _)⟩
    rw [if_neg (by omega), if_neg (by omega)]; rfl
  ·
    simp only [Bool.and_eq_true, Bool.or_eq_true, Bool.not_eq_true', Bool.or_eq_false_iff, Bool.and_eq_false_iff, decide_eq_true_eq, decide_eq_false_iff_not, beq_iff_eq, bne_iff_ne, Bool.not_eq_false', beq_eq_false_iff_ne, bne_eq_false_iff_eq, ne_eq, Decidable.not_not, Int.not_lt, Int.not_le] at h
    refine c_skip ?_
    refine x_then ?_
    refine c_seq ?_
    refine c_region ?_
    refine o_yield rfl rfl rfl (y_val tok rfl) ?_
    refine o_yield rfl rfl rfl (y_val tok rfl) ?_
    refine o_store tok rfl rfl rfl (by first | exact ⟨trivial, trivial⟩ | (repeat' first | exact trivial | exact rfl | apply And.intro); done | simp [onesP, oneP, lk, Value.oneCell']) ?_
    refine o_end [4] rfl ?_
    refine x_then ?_
    refine c_seq ?_
    refine c_region ?_
    refine o_yield rfl rfl rfl (y_val tok rfl) ?_
    refine o_store tok rfl rfl rfl (by first | exact ⟨trivial, trivial⟩ | (repeat' first | exact trivial | exact rfl | apply And.intro); done | simp [onesP, oneP, lk, Value.oneCell']) ?_
    refine o_yield rfl rfl rfl (y_val tok rfl) ?_
    refine o_end [4, 5] rfl ?_
    refine x_then ?_
    refine c_ret ?_
    refine b_ret tok rfl ?_
    intro E w' hm _
    refine ⟨?_, hm.below (Vw.le.refl _)⟩
    rw [if_pos (by omega), if_pos (by omega)]; rfl
end Go.Proofs.Ytanekcndpkagiaa
