import Derived.Test.YthmejhpfhkddiaaMLkS
import Derived.Test.YthmejhpfhkddiaaEng38
/- Learning: members and old keys. -/
set_option linter.unusedVariables false
set_option linter.unusedSimpArgs false
set_option maxRecDepth 100000
namespace Go.Proofs.Ythmejhpfhkddiaa
open Go Go.Eng Go.RowKit

def seatOf (n : Int) : Int := if keyB n = true then n.tmod 16 else -1

/-- A function value that tells pr of numbers. -/
def TellsN (V : Vw) (fv : Value) (pr : Int → Bool) : Prop :=
  ∀ (x : Int) w', V.le (vw w') → CallsB Try.prog fv [I x] w' fun e w'' => e = .returned (.bool (pr x)) ∧ Below w'.heap.size w' w''

/-- Keys of slots of which pr is told. -/
def keysL (pr : Int → Bool) (S : List Slot) : List Int := (S.filter fun x => !(x.key == 0) && pr x.key).map (·.key)

theorem keysL_step {S : List Slot} {k : Nat} {x : Slot} (pr : Int → Bool) (h : S[k]? = some x) : keysL pr (S.take (k + 1)) = keysL pr (S.take k) ++ (if (!(x.key == 0) && pr x.key) = true then [x.key] else []) := by
  rw [keysL, take_succ_at' h, List.filter_append, List.map_append, keysL]
  cases hq : (!(x.key == 0) && pr x.key) <;> simp [hq]

theorem keysL_len (pr : Int → Bool) (S : List Slot) (k : Nat) : (keysL pr (S.take k)).length ≤ k := by
  rw [keysL, List.length_map]
  exact Nat.le_trans (List.length_filter_le _ _) (by rw [List.length_take]; omega)

theorem lmembers_c (V : Vw) (tv fv : Value) (t : Tb) (pr : Int → Bool) (w : World) (ht : t.Fit) (hV : V.le (vw w)) (h : TbIs V tv t) (hf : TellsN V fv pr) :
    Calls Try.prog 21 #[tv, fv] w (IRow (keysL pr t.S) w) := by
  obtain ⟨a, n, c, a2, n2, c2, a3, n3, c3, rfl, h1, h2, h3⟩ := h
  have hss := ht.s
  have hs := h1.mono hV
  generalize t.S = S at *
  refine enter (E := E0) (O := []) (nl := 0) (V := vw w) [.a (.v (.agg #[.slice a n c, .slice a2 n2 c2, .slice a3 n3 c3])), .a (.v fv)] Try.func21 rfl rfl (mem0 E0 0 w) rfl rfl ?_
  refine c_seq ?_
  refine c_region ?_
  refine o_new tok rfl rfl rfl rfl ?_
  refine o_yield rfl rfl rfl (y_val tok rfl) ?_
  refine o_end [1, 2, 4] rfl ?_
  refine x_then ?_
  refine c_seq ?_
  refine c_seq ?_
  refine c_region ?_
  refine o_yield rfl rfl rfl (y_val tok rfl) ?_
  refine o_yield rfl rfl rfl (y_val tok rfl) ?_
  refine o_yield rfl rfl rfl (y_len tok rfl (fun hg => hs.sl)) ?_
  refine o_yield rfl rfl rfl (y_val tok rfl) ?_
  refine o_end [1, 4, 8, 9, 10] rfl ?_
  refine x_then ?_
  refine c_block ?_
  refine k_nil 4 3 1 rfl rfl ?_
  refine c_loopK [1, 8, 9] [1] rfl rfl (σ := Nat) (fun i => [(4, .a (.row 1)), (10, .a (.v (I i)))]) (fun i => [(1, .row 3 1 (keysL pr (S.take i)).length ((keysL pr (S.take i)).flatMap encI64))]) (fun i => i ≤ S.length) (fun i => S.length - i) (0) (by omega) (by repeat (first | exact SubF.nil | refine SubF.cons rfl ?_)) (by repeat (first | exact SubO.nil | refine SubO.cons rfl ?_)) rfl ?_
  rintro i hi
  refine c_seq ?_
  refine c_region ?_
  refine o_yield rfl rfl rfl (y_val tok rfl) ?_
  refine o_end [1, 4, 8, 9, 10, 11] rfl ?_
  refine x_then ?_
  refine c_seq ?_
  refine c_cond rfl (fun h => ?_) (fun h => ?_)
  ·
    simp only [Bool.and_eq_true, Bool.or_eq_true, Bool.not_eq_true', Bool.or_eq_false_iff, Bool.and_eq_false_iff, decide_eq_true_eq, decide_eq_false_iff_not, beq_iff_eq, bne_iff_ne, Bool.not_eq_false', beq_eq_false_iff_ne, bne_eq_false_iff_eq, ne_eq, Decidable.not_not, Int.not_lt, Int.not_le] at h
    obtain ⟨x, h_x⟩ : ∃ x, S[i]? = some x := ⟨_, List.getElem?_eq_getElem (by omega)⟩
    have hwi : IntKind.i64.wrap ((i : Int) + 1) = ((i + 1 : Nat) : Int) := wrapI (by omega) (by omega)
    have hfl := keysL_len pr S i
    have hft := keysL_step pr h_x
    refine c_skip ?_
    refine x_then ?_
    refine c_seq ?_
    refine c_block ?_
    refine c_seq ?_
    refine c_region ?_
    have hlt_x := lt_of_at h_x
    refine o_yield rfl rfl rfl (y_idx tok rfl (fun hg => hs.sl) (fun hg => ⟨by omega, by omega⟩)) ?_
    refine o_yield rfl rfl rfl (y_lel tok (i) 0 (x) rfl (fun hg => hs) (fun hg => h_x) rfl rfl) ?_
    refine o_new tok rfl rfl rfl rfl ?_
    refine o_store tok rfl rfl rfl (by first | exact ⟨trivial, trivial⟩ | (repeat' first | exact trivial | exact rfl | apply And.intro); done | simp [onesP, oneP, lk, Value.oneCell']) ?_
    refine o_end [1, 4, 6, 8, 9, 10] rfl ?_
    refine x_then ?_
    refine c_seq ?_
    refine c_region ?_
    refine o_yield rfl rfl rfl (y_val tok rfl) ?_
    refine o_yield rfl rfl rfl (y_val tok rfl) ?_
    refine o_yield rfl rfl rfl (y_val tok rfl) ?_
    refine o_yield rfl rfl rfl (y_val tok rfl) ?_
    refine o_yield rfl rfl rfl (y_val tok rfl) ?_
    refine o_yield rfl rfl rfl (y_val tok rfl) ?_
    refine o_yield rfl rfl rfl (y_val tok rfl) ?_
    refine o_callB (.a (.v (.bool (pr x.key)))) rfl rfl rfl rfl rfl (fun hg E w1 hm => hf x.key w1 (hV.trans hm.leV)) ?_
    refine o_yield rfl rfl rfl (y_val tok rfl) ?_
    refine o_end [1, 4, 6, 8, 9, 10, 22] rfl ?_
    refine x_then ?_
    refine c_cond rfl (fun h => ?_) (fun h => ?_)
    ·
      refine c_region ?_
      refine o_yield rfl rfl rfl (y_val tok rfl) ?_
      refine o_yield rfl rfl rfl (y_val tok rfl) ?_
      refine o_yield rfl rfl rfl (y_val tok rfl) ?_
      have h' : (!(x.key == 0) && pr x.key) = true := by simpa [bne] using h
      rw [if_pos h'] at hft
      refine o_step rfl rfl rfl rfl rfl (s_bs tok 1 rfl rfl rfl) (fun _ _ => ?_)
      refine o_step rfl rfl rfl rfl rfl (s_app tok [I x.key] rfl (fun E w hm => ownsRow_src (hm.row _ _ _ _ _ rfl)) (fun _ _ _ => by intro u hu; simp only [List.mem_singleton] at hu; subst hu; rfl) (by dsimp only; omega)) (fun _ _ => ?_)
      refine o_yield rfl rfl rfl (y_val tok rfl) ?_
      refine o_end [1, 4, 8, 9, 10] rfl ?_
      refine x_block ?_
      refine x_then ?_
      refine c_region ?_
      refine o_yield rfl rfl rfl (y_val tok rfl) ?_
      refine o_yield rfl rfl rfl (y_val tok rfl) ?_
      refine o_end [1, 4, 8, 9, 10] rfl ?_
      refine x_then ?_
      rw [(mint_snoc _ x.key).1, (mint_snoc _ x.key).2, ← hft, hwi]
      refine k_swap 1 4 rfl ?_
      refine x_round (i + 1) (by omega) (by first | omega | (dsimp only; omega)) (by repeat (first | exact SubF.nil | refine SubF.cons rfl ?_)) (by repeat (first | exact SubO.nil | refine SubO.cons rfl ?_)) rfl (Vw.le.refl _)
    ·
      refine c_skip ?_
      refine x_block ?_
      refine x_then ?_
      refine c_region ?_
      refine o_yield rfl rfl rfl (y_val tok rfl) ?_
      refine o_yield rfl rfl rfl (y_val tok rfl) ?_
      refine o_end [1, 4, 8, 9, 10] rfl ?_
      refine x_then ?_
      have h' : ¬ (!(x.key == 0) && pr x.key) = true := by simpa [bne] using h
      rw [if_neg h', List.append_nil] at hft
      rw [← hft, hwi]
      refine x_round (i + 1) (by omega) (by first | omega | (dsimp only; omega)) (by repeat (first | exact SubF.nil | refine SubF.cons rfl ?_)) (by repeat (first | exact SubO.nil | refine SubO.cons rfl ?_)) rfl (Vw.le.refl _)
  ·
    simp only [Bool.and_eq_true, Bool.or_eq_true, Bool.not_eq_true', Bool.or_eq_false_iff, Bool.and_eq_false_iff, decide_eq_true_eq, decide_eq_false_iff_not, beq_iff_eq, bne_iff_ne, Bool.not_eq_false', beq_eq_false_iff_ne, bne_eq_false_iff_eq, ne_eq, Decidable.not_not, Int.not_lt, Int.not_le] at h
    refine c_exit ?_
    refine x_then_exit ?_
    refine x_then_exit ?_
    refine x_block_hit ?_
    refine x_then ?_
    refine c_seq ?_
    refine c_region ?_
    refine o_yield rfl rfl rfl (y_val tok rfl) ?_
    refine o_yield rfl rfl rfl (y_val tok rfl) ?_
    refine o_end [4] rfl ?_
    refine x_then ?_
    refine c_ret ?_
    refine b_ret tok rfl ?_
    have hil : i = S.length := by omega
    subst hil
    rw [List.take_length]
    intro E' w' hm _
    exact ⟨_, rfl, hm.rowFresh (Vw.le.refl _) (l := 1) rfl, hm.below (Vw.le.refl _)⟩

theorem keysL_all (S : List Slot) : keysL (fun _ => true) S = memL S := by
  rw [keysL, memL]; simp

theorem lmemFn_c (x : Int) (w : World) : Calls Try.prog 22 #[I x] w fun e w' => e = .returned (.bool true) ∧ Below w.heap.size w w' := by
  refine enter (E := E0) (O := []) (nl := 0) (V := vw w) [.a (.v (I x))] Try.func22 rfl rfl (mem0 E0 0 w) rfl rfl ?_
  refine c_seq ?_
  refine c_region ?_
  refine o_yield rfl rfl rfl (y_val tok rfl) ?_
  refine o_end [] rfl ?_
  refine x_then ?_
  refine c_seq ?_
  refine c_region ?_
  refine o_yield rfl rfl rfl (y_val tok rfl) ?_
  refine o_end [2] rfl ?_
  refine x_then ?_
  refine c_ret ?_
  refine b_ret tok rfl ?_
  intro E w' hm _
  refine ⟨?_, hm.below (Vw.le.refl _)⟩
  rfl

theorem lMembers_c (V : Vw) (tv : Value) (t : Tb) (w : World) (ht : t.Fit) (hV : V.le (vw w)) (h : TbIs V tv t) :
    Calls Try.prog 11 #[tv] w (IRow (memL t.S) w) := by
  have h0 := h
  obtain ⟨a, n, c, a2, n2, c2, a3, n3, c3, rfl, h1, h2, h3⟩ := h
  refine enter (E := E0) (O := []) (nl := 0) (V := vw w) [.a (.v (.agg #[.slice a n c, .slice a2 n2 c2, .slice a3 n3 c3]))] Try.func11 rfl rfl (mem0 E0 0 w) rfl rfl ?_
  refine c_seq ?_
  refine c_region ?_
  refine o_new tok rfl rfl rfl rfl ?_
  refine o_yield rfl rfl rfl (y_val tok rfl) ?_
  refine o_end [1] rfl ?_
  refine x_then ?_
  refine c_seq ?_
  refine c_region ?_
  refine o_yield rfl rfl rfl (y_val tok rfl) ?_
  refine o_step rfl rfl rfl rfl rfl (s_callRow 3 1 (memL t.S).length ((memL t.S).flatMap encI64) rfl fnok21 (fun E w1 hm => by rw [← keysL_all]; exact lmembers_c V _ _ t (fun _ => true) w1 ht (hV.trans hm.leV) h0 (fun x w' hle => ⟨22, #[], #[], rfl, fnok22, lmemFn_c x w'⟩))) (fun _ _ => ?_)
  refine o_yield rfl rfl rfl (y_val tok rfl) ?_
  refine o_end [2] rfl ?_
  refine x_then ?_
  refine c_ret ?_
  refine b_ret tok rfl ?_
  intro E' w' hm _
  exact ⟨_, rfl, hm.rowFresh (Vw.le.refl _) (l := 1) rfl, hm.below (Vw.le.refl _)⟩

def oldB (key m : Int) : Bool := (keyB key && decide (m < key)) && (seatOf m == seatOf key)

end Go.Proofs.Ythmejhpfhkddiaa

/- Learning: the table behind commands. -/
set_option linter.unusedVariables false
set_option linter.unusedSimpArgs false
set_option maxRecDepth 100000
namespace Go.Proofs.Ythmejhpfhkddiaa
open Go Go.Eng Go.RowKit

def behind (blocks : Int) (t : Tb) (l : List Cmd) : Tb := l.foldl (fun t c => t.apply blocks c) t

theorem behind_c (V : Vw) (g : Geo) (lv : Value) (l : List Cmd) (w : World) (hV : V.le (vw w)) (hs0 : SlOf V Cmd.cells 8 lv l) (hl : l.length ≤ 100) (hcm : ∀ c ∈ l, cmdB c = true) :
    Calls Try.prog 5 #[g.val, lv] w (TbOut V (behind g.blocks (newT g.slots) l) w) := by
  obtain ⟨a0, n0, c0, rfl⟩ := sl_shape hs0.sl
  have hs := hs0.mono hV
  refine enter (E := E0) (O := []) (nl := 0) (V := vw w) [.a (.v g.val), .a (.v (.slice a0 n0 c0))] Try.func5 rfl rfl (mem0 E0 0 w) rfl rfl ?_
  refine c_seq ?_
  refine c_region ?_
  refine o_new tok rfl rfl rfl rfl ?_
  refine o_new tok rfl rfl rfl rfl ?_
  refine o_end [1, 2, 4] rfl ?_
  refine x_then ?_
  refine c_seq ?_
  refine c_held [] ([(0, .lit (g.cells.map .v) 23)]) mixed (by repeat (first | exact SubO.nil | refine SubO.cons rfl ?_)) (by first | rfl | simp [okCels, allOk_plain]) ?_
  refine t_take 0 rfl (by kernel_rfl) rfl rfl rfl (y_val tok rfl) rfl ?_
  refine t_take 2 rfl (by kernel_rfl) rfl rfl rfl (y_val tok rfl) rfl ?_
  refine t_take 5 rfl (by kernel_rfl) rfl rfl rfl (y_val tok rfl) rfl ?_
  refine t_go ?_
  refine h_one 1 (by kernel_rfl) ?_
  refine h_callV 1 (fun v V' => ∃ V2 : Vw, V2.le V' ∧ V.le V2 ∧ (∀ k o, V2.get k = some o → V.get k = some o ∨ w.heap.size ≤ k) ∧ TbIs V2 v (newT g.slots)) rfl rfl rfl fnok13 rfl rfl (fun hg E w1 hm => by exact (new_c V g _ (hV.trans hm.leV)).mono fun e w' h => small_view (hm.below (Vw.le.refl _)).size hV hm.leV h) ?_
  rintro v1 W0 hle0 hv0
  obtain ⟨W1, hW10, hle1, hget1, hT1⟩ := hv0 rfl
  obtain ⟨d1, m1, e1, d2, m2, e2, d3, m3, e3, rfl, _⟩ := id hT1
  refine h_one 3 (by kernel_rfl) ?_
  refine h_yield 3 rfl rfl rfl rfl (y_val tok rfl) ?_
  refine h_one 4 (by kernel_rfl) ?_
  refine h_new 4 tok rfl rfl rfl rfl rfl rfl ?_
  refine h_one 6 (by kernel_rfl) ?_
  refine h_inl 6 rfl rfl rfl rfl rfl rfl rfl fnok14 Try.func14 rfl rfl rfl (fun E => ?_)
  refine c_seq ?_
  refine c_region ?_
  refine o_yield rfl rfl rfl (y_val tok rfl) ?_
  refine o_end [0, 1] rfl ?_
  refine x_then ?_
  refine c_seq ?_
  refine c_seq ?_
  refine c_region ?_
  refine o_yield rfl rfl rfl (y_val tok rfl) ?_
  refine o_yield rfl rfl rfl (y_len tok rfl (fun hg => (hs0.mono hV |>.mono hle0).sl)) ?_
  refine o_yield rfl rfl rfl (y_val tok rfl) ?_
  refine o_end [0, 7, 8, 9] rfl ?_
  refine x_then ?_
  refine c_block ?_
  refine c_loopV [0, 7, 8] [2] rfl rfl (σ := Nat × Value × Value × Value × Tb × Vw × Vw) (fun (i, s, u, q, t, W, Z) => [(9, .a (.v (I i)))]) (fun (i, s, u, q, t, W, Z) => [(2, .lit ([.v s, .v u, .v q] ++ g.cells.map .v ++ [.v (I i)]) 51)]) (fun (i, s, u, q, t, W, Z) => W) (fun (i, s, u, q, t, W, Z) => (i ≤ l.length ∧ t.H.length + t.Q.length ≤ i ∧ t = behind g.blocks (newT g.slots) (l.take i)) ∧ ((vw w).le W ∧ Z.le W) ∧ V.le Z ∧ TbIs Z (.agg #[s, u, q]) t ∧ TbOk (newN g.slots) g.blocks t ∧ ∀ k o, Z.get k = some o → V.get k = some o ∨ w.heap.size ≤ k) (fun (i, s, u, q, t, W, Z) => l.length - i) ((0, _, _, _, newT g.slots, W0, W1)) (⟨⟨by omega, Nat.le_refl _, rfl⟩, ⟨hle0, hW10⟩, hle1, hT1, TbOk.new _ _, hget1⟩) (by repeat (first | exact SubF.nil | refine SubF.cons rfl ?_)) (by repeat (first | exact SubO.nil | refine SubO.cons rfl ?_)) rfl (Vw.le.refl _) ?_
  rintro ⟨i, s, u, q, t, W, Z⟩ ⟨⟨hi, hsum, hbe⟩, ⟨hwW, hZW⟩, hle, hT, hok, hgt⟩
  dsimp only at hi hsum hbe hwW hZW hle hT hok hgt ⊢
  have hn16 : ((newN g.slots : Nat) : Int) ≤ 16 := by rw [newN]; omega
  have hs' := (hs0.mono hle).mono hZW
  have hfit := hok.fitS hn16 (by omega)
  refine c_seq ?_
  refine c_region ?_
  refine o_yield rfl rfl rfl (y_val tok rfl) ?_
  refine o_end [0, 7, 8, 9, 10] rfl ?_
  refine x_then ?_
  refine c_seq ?_
  refine c_cond rfl (fun h => ?_) (fun h => ?_)
  ·
    simp only [Bool.and_eq_true, Bool.or_eq_true, Bool.not_eq_true', Bool.or_eq_false_iff, Bool.and_eq_false_iff, decide_eq_true_eq, decide_eq_false_iff_not, beq_iff_eq, bne_iff_ne, Bool.not_eq_false', beq_eq_false_iff_ne, bne_eq_false_iff_eq, ne_eq, Decidable.not_not, Int.not_lt, Int.not_le] at h
    refine c_skip ?_
    refine x_then ?_
    refine c_seq ?_
    refine c_block ?_
    refine c_seq ?_
    refine c_region ?_
    obtain ⟨c, h_c⟩ := hs'.at (k := i) (by omega)
    have hlt_c := lt_of_at h_c
    refine o_yield rfl rfl rfl (y_idx tok rfl (fun hg => hs'.sl) (fun hg => ⟨by omega, by omega⟩)) ?_
    refine o_yield rfl rfl rfl (y_lel tok (i) 0 (c) rfl (fun hg => hs') (fun hg => h_c) rfl rfl) ?_
    refine o_new tok rfl rfl rfl rfl ?_
    refine o_store tok rfl rfl rfl (by first | exact ⟨trivial, trivial⟩ | (repeat' first | exact trivial | exact rfl | apply And.intro); done | simp [onesP, oneP, lk, Value.oneCell']) ?_
    refine o_end [0, 6, 7, 8, 9] rfl ?_
    refine x_then ?_
    refine c_seq ?_
    refine c_heldS [13] mixed rfl (by repeat (first | exact SubO.nil | refine SubO.cons rfl ?_)) (by first | rfl | simp [okCels, allOk_plain]) ?_
    refine t_takeD 0 rfl (by kernel_rfl) rfl rfl rfl (y_val tok rfl) rfl ?_
    refine t_takeD 1 rfl (by kernel_rfl) rfl rfl rfl (y_val tok rfl) rfl ?_
    refine t_takeD 2 rfl (by kernel_rfl) rfl rfl rfl (y_val tok rfl) rfl ?_
    refine t_takeD 3 rfl (by kernel_rfl) rfl rfl rfl (y_val tok rfl) rfl ?_
    refine t_takeD 4 rfl (by kernel_rfl) rfl rfl rfl (y_val tok rfl) rfl ?_
    refine t_takeD 5 rfl (by kernel_rfl) rfl rfl rfl (y_val tok rfl) rfl ?_
    refine t_takeD 6 rfl (by kernel_rfl) rfl rfl rfl (y_val tok rfl) rfl ?_
    refine t_takeD 7 rfl (by kernel_rfl) rfl rfl rfl (y_val tok rfl) rfl ?_
    refine t_takeD 8 rfl (by kernel_rfl) rfl rfl rfl (y_val tok rfl) rfl ?_
    refine t_takeD 9 rfl (by kernel_rfl) rfl rfl rfl (y_val tok rfl) rfl ?_
    refine t_go ?_
    refine h_one 10 (by kernel_rfl) ?_
    have hcB := hcm c (List.mem_of_getElem? h_c)
    have hck : -128 ≤ c.kind ∧ c.kind ≤ 127 := by have := (cmdOk hcB).kind; omega
    have hok2 := hok.apply (c := c) (cmdB_key hcB)
    have hsum2 := apply_sum g.blocks t c
    have hwi : IntKind.i64.wrap ((i : Int) + 1) = ((i + 1 : Nat) : Int) := wrapI (by omega) (by omega)
    have hbe2 : t.apply g.blocks c = behind g.blocks (newT g.slots) (l.take (i + 1)) := by
      rw [take_succ_at' h_c, behind, List.foldl_append, hbe]; rfl
    refine h_callV 10 (fun v V' => ∃ V2 : Vw, V2.le V' ∧ Z.le V2 ∧ (∀ k o, V2.get k = some o → Z.get k = some o ∨ w.heap.size ≤ k) ∧ TbIs V2 v (t.apply g.blocks c)) rfl rfl rfl fnok24 rfl rfl (fun hg E w1 hm => by exact (apply_c Z g _ t hfit.1 hfit.2 c hck _ (hZW.trans hm.leV) hT).mono fun e w' h => small_view (hm.below hwW).size hZW hm.leV h) ?_
    rintro v2 W2 hle2 hv2
    obtain ⟨Z2, hZ2, hZZ, hgt2, hT2⟩ := hv2 rfl
    obtain ⟨x1, y1, z1, x2, y2, z2, x3, y3, z3, rfl, _⟩ := id hT2
    refine h_one 11 (by kernel_rfl) ?_
    refine h_yield 11 rfl rfl rfl rfl (y_val tok rfl) ?_
    refine h_one 12 (by kernel_rfl) ?_
    refine h_yield 12 rfl rfl rfl rfl (y_val tok rfl) ?_
    refine h_one 13 (by kernel_rfl) ?_
    refine h_store 13 tok rfl rfl rfl rfl (by first | exact ⟨trivial, trivial⟩ | (repeat' first | exact trivial | exact rfl | apply And.intro); done | simp [onesP, oneP, lk, Value.oneCell']) (.inl rfl) ?_
    refine h_done [0, 7, 8, 9] (by kernel_rfl) rfl ?_
    refine x_then ?_
    refine c_region ?_
    refine o_yield rfl rfl rfl (y_val tok rfl) ?_
    refine o_yield rfl rfl rfl (y_val tok rfl) ?_
    refine o_yield rfl rfl rfl (y_val tok rfl) ?_
    refine o_yield rfl rfl rfl (y_val tok rfl) ?_
    refine o_yield rfl rfl rfl (y_val tok rfl) ?_
    refine o_yield rfl rfl rfl (y_val tok rfl) ?_
    refine o_yield rfl rfl rfl (y_val tok rfl) ?_
    refine o_store tok rfl rfl rfl (by first | exact ⟨trivial, trivial⟩ | (repeat' first | exact trivial | exact rfl | apply And.intro); done | simp [onesP, oneP, lk, Value.oneCell']) ?_
    refine o_end [0, 7, 8, 9] rfl ?_
    refine x_block ?_
    refine x_then ?_
    refine c_region ?_
    refine o_yield rfl rfl rfl (y_val tok rfl) ?_
    refine o_yield rfl rfl rfl (y_val tok rfl) ?_
    refine o_end [0, 7, 8, 9] rfl ?_
    refine x_then ?_
    rw [hwi]
    refine x_round ((i + 1, _, _, _, t.apply g.blocks c, W2, Z2)) (⟨⟨by dsimp only; omega, by dsimp only; omega, hbe2⟩, ⟨hwW.trans hle2, hZ2⟩, hle.trans hZZ, hT2, hok2, fun k o hk => (hgt2 k o hk).elim (hgt k o) .inr⟩) (by first | omega | (dsimp only; omega)) (by repeat (first | exact SubF.nil | refine SubF.cons rfl ?_)) (by repeat (first | exact SubO.nil | refine SubO.cons rfl ?_)) rfl (Vw.le.refl _)
  ·
    simp only [Bool.and_eq_true, Bool.or_eq_true, Bool.not_eq_true', Bool.or_eq_false_iff, Bool.and_eq_false_iff, decide_eq_true_eq, decide_eq_false_iff_not, beq_iff_eq, bne_iff_ne, Bool.not_eq_false', beq_eq_false_iff_ne, bne_eq_false_iff_eq, ne_eq, Decidable.not_not, Int.not_lt, Int.not_le] at h
    have hil : i = l.length := by simp at h; omega
    clear h
    subst hil
    rw [List.take_length] at hbe
    obtain ⟨x1, y1, z1, x2, y2, z2, x3, y3, z3, hv, _⟩ := id hT
    simp only [Value.agg.injEq, Array.mk.injEq, List.cons.injEq, and_true] at hv
    obtain ⟨rfl, rfl, rfl⟩ := hv
    refine c_exit ?_
    refine x_then_exit ?_
    refine x_then_exit ?_
    refine x_block_hit ?_
    refine x_then ?_
    refine c_seq ?_
    refine c_region ?_
    refine o_yield rfl rfl rfl (y_val tok rfl) ?_
    refine o_yield rfl rfl rfl (y_val tok rfl) ?_
    refine o_end [4] rfl ?_
    refine x_then ?_
    refine c_ret ?_
    refine b_ret tok rfl ?_
    intro E1 w1 hm1 hok1
    refine inl_end (E := E) hm1 hok1 rfl rfl (by repeat (first | exact KeepsIn.zero | refine KeepsIn.succ rfl ?_)) rfl (by repeat (first | exact SubO.nil | refine SubO.cons rfl ?_)) rfl ?_
    clear hm1 hok1 w1 E1 E
    refine ⟨.inr ⟨(by repeat (first | exact SubO.nil | refine SubO.cons rfl ?_)), rfl, by first | exact Vw.le.refl _ | assumption⟩, ?_⟩
    refine h_one 7 (by kernel_rfl) ?_
    refine h_yield 7 rfl rfl rfl rfl (y_val tok rfl) ?_
    refine h_one 8 (by kernel_rfl) ?_
    refine h_yield 8 rfl rfl rfl rfl (y_val tok rfl) ?_
    refine h_one 9 (by kernel_rfl) ?_
    refine h_yield 9 rfl rfl rfl rfl (y_val tok rfl) ?_
    refine h_one 10 (by kernel_rfl) ?_
    refine h_store 10 tok rfl rfl rfl rfl (by first | exact ⟨trivial, trivial⟩ | (repeat' first | exact trivial | exact rfl | apply And.intro); done | simp [onesP, oneP, lk, Value.oneCell']) (.inr ⟨(by repeat (first | exact SubO.nil | refine SubO.cons rfl ?_)), rfl, (by first | exact Vw.le.refl _ | assumption)⟩) ?_
    refine h_done [4] (by kernel_rfl) rfl ?_
    refine x_then ?_
    refine c_ret ?_
    refine b_ret tok rfl ?_
    intro E' w' hm _
    exact ⟨_, Z, rfl, hm.below hwW, ⟨hle, fun k o hk => ⟨(hZW.trans hm.leV).get k o hk, hgt k o hk⟩⟩, hbe ▸ hT⟩
end Go.Proofs.Ythmejhpfhkddiaa

/- LearnOld: the example, and the law. -/
set_option linter.unusedVariables false
set_option linter.unusedSimpArgs false
set_option maxRecDepth 100000
namespace Go.Proofs.Ythmejhpfhkddiaa
open Go Go.Eng Go.RowKit

abbrev gS14 : Geo := ⟨2, 2, 1, 1, 3, 16, 1, 2⟩

theorem small14_c (w : World) : Calls Try.prog 10 #[] w fun e w' => e = .returned gS14.val ∧ Below w.heap.size w w' := by
  refine enter (E := E0) (O := []) (nl := 0) (V := vw w) [] Try.func10 rfl rfl (mem0 E0 0 w) rfl rfl ?_
  refine c_seq ?_
  refine c_region ?_
  refine o_new tok rfl rfl rfl rfl ?_
  refine o_end [0] rfl ?_
  refine x_then ?_
  refine c_seq ?_
  refine c_region ?_
  refine o_yield rfl rfl rfl (y_val tok rfl) ?_
  refine o_store tok rfl rfl rfl (by first | exact ⟨trivial, trivial⟩ | (repeat' first | exact trivial | exact rfl | apply And.intro); done | simp [onesP, oneP, lk, Value.oneCell']) ?_
  refine o_end [0] rfl ?_
  refine x_then ?_
  refine c_ret ?_
  refine b_ret tok rfl ?_
  intro E w' hm _
  refine ⟨?_, hm.below (Vw.le.refl _)⟩
  rfl

theorem ok14 : gS14.Ok := ⟨⟨by decide, by decide⟩, ⟨by decide, by decide⟩, ⟨by decide, by decide⟩, ⟨by decide, by decide⟩, ⟨by decide, by decide⟩, ⟨by decide, by decide⟩, ⟨by decide, by decide⟩, ⟨by decide, by decide⟩⟩
theorem geoB14 : geoB gS14 = true := by decide

theorem log14_c (i v : Int) (hv : v = if i < 0 ∨ 16 ≤ i then -1 else 5 + i) (w : World) : Calls Try.prog 23 #[gS14.val, I i] w fun e w' => e = .returned (I v) ∧ Below w.heap.size w w' := by
  have hr : findR 4 (regL gS14) = ⟨5, 16, 4, 1⟩ := by rw [regL, if_pos geoB14]; rfl
  refine enter (E := E0) (O := []) (nl := 0) (V := vw w) [.a (.v gS14.val), .a (.v (I i))] Try.func23 rfl rfl (mem0 E0 0 w) rfl rfl ?_
  refine c_seq ?_
  refine c_region ?_
  refine o_new tok rfl rfl rfl rfl ?_
  refine o_yield rfl rfl rfl (y_val tok rfl) ?_
  refine o_end [1, 2] rfl ?_
  refine x_then ?_
  refine c_seq ?_
  refine c_region ?_
  refine o_yield rfl rfl rfl (y_val tok rfl) ?_
  refine o_yield rfl rfl rfl (y_val tok rfl) ?_
  refine o_call (.a (.v _)) rfl rfl fnok32 rfl rfl rfl (fun hg E w1 hm => by exact of_c' gS14 ok14 4 i 0 _ hr 16 (by omega) (by dsimp only; omega) (by dsimp only; omega) (by dsimp only; omega) (by dsimp only; omega) (by dsimp only; omega) v (by rw [hv]; dsimp only; split <;> split <;> omega) _) ?_
  refine o_yield rfl rfl rfl (y_val tok rfl) ?_
  refine o_end [4] rfl ?_
  refine x_then ?_
  refine c_ret ?_
  refine b_ret tok rfl ?_
  intro E w' hm _
  refine ⟨?_, hm.below (Vw.le.refl _)⟩
  rfl

theorem want0_c (w : World) : Calls Try.prog 12 #[gS14.val, I 0] w fun e w' => e = .returned (.agg #[I8 1, I 5, .string ByteArray.empty, I 0]) ∧ Below w.heap.size w w' := by
  refine enter (E := E0) (O := []) (nl := 0) (V := vw w) [.a (.v gS14.val), .a (.v (I 0))] Try.func12 rfl rfl (mem0 E0 0 w) rfl rfl ?_
  refine c_seq ?_
  refine c_region ?_
  refine o_new tok rfl rfl rfl rfl ?_
  refine o_new tok rfl rfl rfl rfl ?_
  refine o_end [1, 2, 4] rfl ?_
  refine x_then ?_
  refine c_seq ?_
  refine c_seq ?_
  refine c_region ?_
  refine o_yield rfl rfl rfl (y_val tok rfl) ?_
  refine o_yield rfl rfl rfl (y_val tok rfl) ?_
  refine o_call (.a (.v _)) rfl rfl fnok23 rfl rfl rfl (fun hg E w1 hm => by exact log14_c 0 5 (by decide) _) ?_
  refine o_yield rfl rfl rfl (y_val tok rfl) ?_
  refine o_end [4, 5] rfl ?_
  refine x_then ?_
  refine c_seq ?_
  refine c_region ?_
  refine o_yield rfl rfl rfl (y_val tok rfl) ?_
  refine o_yield rfl rfl rfl (y_val tok rfl) ?_
  refine o_end [4, 5, 10] rfl ?_
  refine x_then ?_
  refine c_cond rfl (fun h => ?_) (fun h => ?_)
  ·
    refine c_region ?_
    refine o_yield rfl rfl rfl (y_val tok rfl) ?_
    refine o_yield rfl rfl rfl (y_val tok rfl) ?_
    refine o_store tok rfl rfl rfl (by first | exact ⟨trivial, trivial⟩ | (repeat' first | exact trivial | exact rfl | apply And.intro); done | simp [onesP, oneP, lk, Value.oneCell']) ?_
    refine o_yield rfl rfl rfl (y_val tok rfl) ?_
    refine o_store tok rfl rfl rfl (by first | exact ⟨trivial, trivial⟩ | (repeat' first | exact trivial | exact rfl | apply And.intro); done | simp [onesP, oneP, lk, Value.oneCell']) ?_
    refine o_end [4] rfl ?_
    refine x_then ?_
    refine c_seq ?_
    refine c_region ?_
    refine o_yield rfl rfl rfl (y_val tok rfl) ?_
    refine o_store tok rfl rfl rfl (by first | exact ⟨trivial, trivial⟩ | (repeat' first | exact trivial | exact rfl | apply And.intro); done | simp [onesP, oneP, lk, Value.oneCell']) ?_
    refine o_end [4] rfl ?_
    refine x_then ?_
    refine c_ret ?_
    refine b_ret tok rfl ?_
    intro E w' hm _
    refine ⟨?_, hm.below (Vw.le.refl _)⟩
    rfl
  ·
    cases h

theorem want16_c (w : World) : Calls Try.prog 12 #[gS14.val, I 16] w fun e w' => e = .returned (.agg #[I8 0, I 0, .string ByteArray.empty, I 0]) ∧ Below w.heap.size w w' := by
  refine enter (E := E0) (O := []) (nl := 0) (V := vw w) [.a (.v gS14.val), .a (.v (I 16))] Try.func12 rfl rfl (mem0 E0 0 w) rfl rfl ?_
  refine c_seq ?_
  refine c_region ?_
  refine o_new tok rfl rfl rfl rfl ?_
  refine o_new tok rfl rfl rfl rfl ?_
  refine o_end [1, 2, 4] rfl ?_
  refine x_then ?_
  refine c_seq ?_
  refine c_seq ?_
  refine c_region ?_
  refine o_yield rfl rfl rfl (y_val tok rfl) ?_
  refine o_yield rfl rfl rfl (y_val tok rfl) ?_
  refine o_call (.a (.v _)) rfl rfl fnok23 rfl rfl rfl (fun hg E w1 hm => by exact log14_c 16 (-1) (by decide) _) ?_
  refine o_yield rfl rfl rfl (y_val tok rfl) ?_
  refine o_end [4, 5] rfl ?_
  refine x_then ?_
  refine c_seq ?_
  refine c_region ?_
  refine o_yield rfl rfl rfl (y_val tok rfl) ?_
  refine o_yield rfl rfl rfl (y_val tok rfl) ?_
  refine o_end [4, 5, 10] rfl ?_
  refine x_then ?_
  refine c_cond rfl (fun h => ?_) (fun h => ?_)
  ·
    cases h
  ·
    refine c_skip ?_
    refine x_then ?_
    refine c_seq ?_
    refine c_region ?_
    refine o_yield rfl rfl rfl (y_val tok rfl) ?_
    refine o_store tok rfl rfl rfl (by first | exact ⟨trivial, trivial⟩ | (repeat' first | exact trivial | exact rfl | apply And.intro); done | simp [onesP, oneP, lk, Value.oneCell']) ?_
    refine o_end [4] rfl ?_
    refine x_then ?_
    refine c_ret ?_
    refine b_ret tok rfl ?_
    intro E w' hm _
    refine ⟨?_, hm.below (Vw.le.refl _)⟩
    rfl

abbrev l14 : List Cmd := [⟨0, 16, 1, 0, 0, 0, 0, 0⟩, ⟨0, 33, 1, 0, 0, 0, 0, 0⟩, ⟨1, 16, 2, 0, 0, 0, 0, 0⟩]
theorem mem14 : memL (behind 1 (newT 2) l14).S = [33] := rfl
theorem cmd14 : ∀ c ∈ l14, cmdB c = true := by decide

theorem wakes14_c (w : World) : Calls Try.prog 4 #[] w fun e w' => e = .returned (.bool true) ∧ Below w.heap.size w w' := by
  refine enter (E := E0) (O := []) (nl := 0) (V := vw w) [] Try.func4 rfl rfl (mem0 E0 0 w) rfl rfl ?_
  refine c_seq ?_
  refine c_region ?_
  refine o_yield rfl rfl rfl (y_val tok rfl) ?_
  refine o_end [] rfl ?_
  refine x_then ?_
  refine c_seq ?_
  refine c_region ?_
  refine o_call (.agg [.v (I 2), .v (I 2), .v (I 1), .v (I 1), .v (I 3), .v (I 16), .v (I 1), .v (I 2)]) rfl rfl fnok10 rfl rfl rfl (fun hg E w1 hm => by exact small14_c _) ?_
  refine o_yield rfl rfl rfl (y_val tok rfl) ?_
  refine o_yield rfl rfl rfl (y_val tok rfl) ?_
  refine o_yield rfl rfl rfl (y_val tok rfl) ?_
  refine o_bs tok rfl rfl rfl rfl (fun b1 W1 hlw1 hb1 => ?_)
  have hL : SlOf W1 Cmd.cells 8 (.slice (some ⟨b1, 0, none⟩) 3 3) l14 := SlOf.ofBlock (enc := Cmd.cells) (sz := 8) (l := l14) (hb1 rfl) rfl (fun _ => rfl) (Nat.le_refl _)
  obtain ⟨T, hT⟩ : ∃ T, T = behind 1 (newT 2) l14 := ⟨_, rfl⟩
  refine o_callV (fun v V' => TbIs V' v T) rfl rfl fnok5 rfl rfl (fun hg E w1 hm => by exact (by have h := behind_c W1 gS14 _ l14 w1 hm.leV hL (by decide) cmd14; rw [hT]; exact h)) ?_
  rintro v2 W2 hlw2 hv2
  have hv2' := hv2 rfl
  obtain ⟨x1, y1, z1, x2, y2, z2, x3, y3, z3, rfl, _⟩ := id hv2'
  have hfit : T.Fit := by rw [hT]; exact ⟨by decide, by decide, by decide⟩
  refine o_new tok rfl rfl rfl rfl ?_
  refine o_store tok rfl rfl rfl (by first | exact ⟨trivial, trivial⟩ | (repeat' first | exact trivial | exact rfl | apply And.intro); done | simp [onesP, oneP, lk, Value.oneCell']) ?_
  refine o_end [1] rfl ?_
  refine x_then ?_
  refine c_seq ?_
  refine c_region ?_
  refine o_yield rfl rfl rfl (y_val tok rfl) ?_
  refine o_callV (fun v V' => SlOf V' encI64 1 v [33]) rfl rfl fnok11 rfl rfl (fun hg E w1 hm => by exact (lMembers_c W2 _ T _ hfit hm.leV hv2').mono fun e w' h => IRow.out (l := [33]) (by rw [hT, mem14] at h; exact h) hm.leV) ?_
  rintro v3 W3 hlw3 hv3
  have hs3 := hv3 rfl
  obtain ⟨a3, n3, c3, rfl⟩ := sl_shape hs3.sl
  refine o_yield rfl rfl rfl (y_val tok rfl) ?_
  refine o_end [2] rfl ?_
  refine x_then ?_
  refine c_seq ?_
  refine c_region ?_
  refine o_call (.agg [.v (I 2), .v (I 2), .v (I 1), .v (I 1), .v (I 3), .v (I 16), .v (I 1), .v (I 2)]) rfl rfl fnok10 rfl rfl rfl (fun hg E w1 hm => by exact small14_c _) ?_
  refine o_call (.agg [.v (I8 1), .v (I 5), .v (.string ByteArray.empty), .v (I 0)]) rfl rfl fnok12 rfl rfl rfl (fun hg E w1 hm => by exact want0_c _) ?_
  refine o_new tok rfl rfl rfl rfl ?_
  refine o_store tok rfl rfl rfl (by first | exact ⟨trivial, trivial⟩ | (repeat' first | exact trivial | exact rfl | apply And.intro); done | simp [onesP, oneP, lk, Value.oneCell']) ?_
  refine o_end [2, 3] rfl ?_
  refine x_then ?_
  refine c_seq ?_
  refine c_region ?_
  refine o_yield rfl rfl rfl (y_val tok rfl) ?_
  have h33 : ([33] : List Int)[0]? = some 33 := rfl
  refine o_yield rfl rfl rfl (y_len tok rfl (fun hg => hs3.sl)) ?_
  refine o_yield rfl rfl rfl (y_val tok rfl) ?_
  refine o_yield rfl rfl rfl (y_val tok rfl) ?_
  refine o_yield rfl rfl rfl (y_val tok rfl) ?_
  have hlt__33___Int_ := lt_of_at h33
  refine o_yield rfl rfl rfl (y_idx tok rfl (fun hg => hs3.sl) (fun hg => ⟨by decide, by decide⟩)) ?_
  refine o_yield rfl rfl rfl (y_lel tok (0) 0 ((33 : Int)) rfl (fun hg => hs3) (fun hg => h33) rfl rfl) ?_
  refine o_yield rfl rfl rfl (y_val tok rfl) ?_
  refine o_yield rfl rfl rfl (y_val tok rfl) ?_
  refine o_yield rfl rfl rfl (y_val tok rfl) ?_
  refine o_yield rfl rfl rfl (y_val tok rfl) ?_
  refine o_yield rfl rfl rfl (y_val tok rfl) ?_
  refine o_yield rfl rfl rfl (y_val tok rfl) ?_
  refine o_yield rfl rfl rfl (y_val tok rfl) ?_
  refine o_yield rfl rfl rfl (y_val tok rfl) ?_
  refine o_yield rfl rfl rfl (y_val tok rfl) ?_
  refine o_yield rfl rfl rfl (y_val tok rfl) ?_
  refine o_yield rfl rfl rfl (y_val tok rfl) ?_
  refine o_yield rfl rfl rfl (y_val tok rfl) ?_
  refine o_yield rfl rfl rfl (y_val tok rfl) ?_
  refine o_call (.agg [.v (I 2), .v (I 2), .v (I 1), .v (I 1), .v (I 3), .v (I 16), .v (I 1), .v (I 2)]) rfl rfl fnok10 rfl rfl rfl (fun hg E w1 hm => by exact small14_c _) ?_
  refine o_call (.agg [.v (I8 0), .v (I 0), .v (.string ByteArray.empty), .v (I 0)]) rfl rfl fnok12 rfl rfl rfl (fun hg E w1 hm => by exact want16_c _) ?_
  refine o_yield rfl rfl rfl (y_val tok rfl) ?_
  refine o_yield rfl rfl rfl (y_val tok rfl) ?_
  refine o_yield rfl rfl rfl (y_val tok rfl) ?_
  refine o_yield rfl rfl rfl (y_val tok rfl) ?_
  refine o_end [0] rfl ?_
  refine x_then ?_
  refine c_ret ?_
  refine b_ret tok rfl ?_
  intro E w' hm _
  refine ⟨?_, hm.below (by repeat (first | exact Vw.le.refl _ | assumption | (refine Vw.le.trans ?_ (by assumption))))⟩
  rfl
end Go.Proofs.Ythmejhpfhkddiaa

/- LearnOld: plain facts, and what is among numbers. -/
set_option linter.unusedVariables false
set_option linter.unusedSimpArgs false
set_option maxRecDepth 100000
namespace Go.Proofs.Ythmejhpfhkddiaa
open Go Go.Eng Go.RowKit

/-- Keys of slots may be. -/
def KeysB (S : List Slot) : Prop := ∀ x ∈ S, x.key = 0 ∨ keyB x.key = true

theorem KeysB.set {S : List Slot} (h : KeysB S) (k : Nat) (a : Slot) (ha : a.key = 0 ∨ keyB a.key = true) : KeysB (S.set k a) := by
  intro x hx
  rcases mem_set_cases hx with rfl | ⟨j, _, hj⟩
  · exact ha
  · exact h x (List.mem_of_getElem? hj)

theorem KeysB.clear {t : Tb} (h : KeysB t.S) (k : Nat) : KeysB (t.clear k).S := KeysB.set h k ⟨0, 0⟩ (.inl rfl)

theorem KeysB.apply {t : Tb} (h : KeysB t.S) (blocks : Int) {c : Cmd} (hc : keyB c.by_ = true) : KeysB (t.apply blocks c).S := by
  unfold Tb.apply
  split
  · unfold Tb.mount
    split
    · exact h
    · split
      · exact h
      · exact h.set _ _ (.inr hc)
  · split
    · unfold Tb.leave
      split
      · exact h.clear _
      · exact h
    · split
      · unfold Tb.ask
        split
        · exact h
        · exact h
      · split
        · unfold Tb.free
          split
          · exact h
          · split <;> exact h
        · split
          · unfold Tb.claim
            split
            · rename_i k hk
              split
              · obtain ⟨_, x, hx, he⟩ := slot_some hk
                refine h.set _ _ ?_
                dsimp only
                rw [slotKey_at hx]
                exact h x (List.mem_of_getElem? hx)
              · exact h
            · exact h
          · split
            · unfold Tb.purge
              split
              · split
                · exact h.clear _
                · exact h
              · exact h
            · exact h

theorem cmdB_keyB {c : Cmd} (h : cmdB c = true) : keyB c.by_ = true := by
  simp only [cmdB, Bool.and_eq_true] at h
  exact h.1.1.1

theorem behind_ok (blocks : Int) : ∀ (l : List Cmd) (n : Int) (t : Tb), (∀ c ∈ l, cmdB c = true) → TbOk n blocks t → KeysB t.S →
    TbOk n blocks (behind blocks t l) ∧ KeysB (behind blocks t l).S ∧ (behind blocks t l).H.length + (behind blocks t l).Q.length ≤ t.H.length + t.Q.length + l.length
  | [], n, t, _, h1, h2 => ⟨h1, h2, Nat.le_refl _⟩
  | c :: l, n, t, hc, h1, h2 => by
    have hcB := hc c List.mem_cons_self
    have ih := behind_ok blocks l n (t.apply blocks c) (fun d hd => hc d (List.mem_cons_of_mem _ hd)) (h1.apply (cmdB_key hcB)) (h2.apply blocks (cmdB_keyB hcB))
    have hs := apply_sum blocks t c
    refine ⟨ih.1, ih.2.1, Nat.le_trans ih.2.2 ?_⟩
    rw [List.length_cons]; omega

end Go.Proofs.Ythmejhpfhkddiaa

/- LearnOn: tables that are the same; learn.Take. -/
set_option linter.unusedVariables false
set_option linter.unusedSimpArgs false
set_option maxRecDepth 100000
namespace Go.Proofs.Ythmejhpfhkddiaa
open Go Go.Eng Go.RowKit

theorem slotEq {op : BinOp} {ox oy : Operand} (a b c d : Int) (w : World) (hop : op = .eql ∨ op = .neq) :
    (do eqGuard op 67 ox oy (.agg #[I a, I b]) (.agg #[I c, I d]); binOp op 67 (.agg #[I a, I b]) (.agg #[I c, I d]) : Sem Value).run Try.prog w = .ok (.bool (if op = .eql then (a == c && b == d) else !(a == c && b == d))) w := by
  have hS : Try.prog.underlying 67 = some (.struct (Try.prog.fieldsOf 67)) := by kernel_rfl
  have hp : Try.prog.stoodInHeld 67 = false := by kernel_rfl
  have hg : Try.prog.eqGuardType Try.prog.depth 67 = false := by kernel_rfl
  have key : (Op.equalIn 10000 67 (.agg #[I a, I b]) (.agg #[I c, I d])).run Try.prog w = .ok (a == c && b == d) w := by
    have u3 := Try.underlying3
    have a3 := Try.isAgg3
    have z3 := Try.sizeOf3
    rw [show (10000 : Nat) = 9999 + 1 from rfl, run_equalIn_agg w 9999 67 _ _ hS hp]
    simp only [Program.fieldsOf, Try.underlying67]
    go_simp
    by_cases h1 : a = c <;> by_cases h2 : b = d <;> simp [h1, h2]
  rw [Sem.run_bind, run_eqGuard_agg w _ _ _ _ _ _ hg]
  rcases hop with rfl | rfl
  · simp only [Result.andThen_ok, run_eql_struct, key]; rfl
  · simp only [Result.andThen_ok, run_neq_struct, key]; rfl

theorem rSame_c (V : Vw) (av bv : Value) (t : Tb) (w : World) (ht : t.Fit) (hV : V.le (vw w)) (ha : TbIs V av t) (hb : TbIs V bv t) :
    Calls Try.prog 9 #[av, bv] w fun e w' => e = .returned (.bool true) ∧ Below w.heap.size w w' := by
  obtain ⟨a, n, c, a2, n2, c2, a3, n3, c3, rfl, a1', a2', a3'⟩ := ha
  obtain ⟨b, m, d, b2, m2, d2, b3, m3, d3, rfl, b1', b2', b3'⟩ := hb
  have hss := ht.s
  have hh := ht.h
  have hq := ht.q
  have hlim : lim = 4398046511104 := rfl
  have hs := a1'.mono hV
  have hr := b1'.mono hV
  refine enter (E := E0) (O := []) (nl := 0) (V := vw w) [.a (.v (.agg #[.slice a n c, .slice a2 n2 c2, .slice a3 n3 c3])), .a (.v (.agg #[.slice b m d, .slice b2 m2 d2, .slice b3 m3 d3]))] Try.func9 rfl rfl (mem0 E0 0 w) rfl rfl ?_
  refine c_seq ?_
  refine c_region ?_
  refine o_new tok rfl rfl rfl rfl ?_
  refine o_new tok rfl rfl rfl rfl ?_
  refine o_yield rfl rfl rfl (y_val tok rfl) ?_
  refine o_end [2, 3] rfl ?_
  refine x_then ?_
  refine c_seq ?_
  refine c_seq ?_
  refine c_region ?_
  refine o_yield rfl rfl rfl (y_val tok rfl) ?_
  refine o_yield rfl rfl rfl (y_val tok rfl) ?_
  refine o_yield rfl rfl rfl (y_len tok rfl (fun hg => hs.sl)) ?_
  refine o_yield rfl rfl rfl (y_val tok rfl) ?_
  refine o_yield rfl rfl rfl (y_val tok rfl) ?_
  refine o_yield rfl rfl rfl (y_len tok rfl (fun hg => hr.sl)) ?_
  refine o_yield rfl rfl rfl (y_val tok rfl) ?_
  refine o_yield rfl rfl rfl (y_val tok rfl) ?_
  refine o_yield rfl rfl rfl (y_val tok rfl) ?_
  refine o_yield rfl rfl rfl (y_val tok rfl) ?_
  refine o_yield rfl rfl rfl (y_val tok rfl) ?_
  refine o_yield rfl rfl rfl (y_val tok rfl) ?_
  refine o_call (.a (.v _)) rfl rfl fnok20 rfl rfl rfl (fun hg E w1 hm => by exact sameHolds_c V _ _ t.H _ (hV.trans hm.leV) a2' b2' (by omega)) ?_
  refine o_yield rfl rfl rfl (y_val tok rfl) ?_
  refine o_yield rfl rfl rfl (y_val tok rfl) ?_
  refine o_yield rfl rfl rfl (y_val tok rfl) ?_
  refine o_yield rfl rfl rfl (y_val tok rfl) ?_
  refine o_yield rfl rfl rfl (y_val tok rfl) ?_
  refine o_yield rfl rfl rfl (y_val tok rfl) ?_
  refine o_yield rfl rfl rfl (y_val tok rfl) ?_
  refine o_call (.a (.v _)) rfl rfl fnok20 rfl rfl rfl (fun hg E w1 hm => by exact sameHolds_c V _ _ t.Q _ (hV.trans hm.leV) a3' b3' (by omega)) ?_
  refine o_yield rfl rfl rfl (y_val tok rfl) ?_
  refine o_yield rfl rfl rfl (y_val tok rfl) ?_
  refine o_end [2, 3, 28] rfl ?_
  refine x_then ?_
  refine c_cond rfl (fun h => ?_) (fun h => ?_)
  ·
    refine c_seq ?_
    refine c_region ?_
    refine o_yield rfl rfl rfl (y_val tok rfl) ?_
    refine o_end [4] rfl ?_
    refine x_then ?_
    refine c_ret ?_
    refine x_then_ret ?_
    refine b_ret tok rfl ?_
    simp at h
  ·
    refine c_skip ?_
    refine x_then ?_
    refine c_seq ?_
    refine c_seq ?_
    refine c_region ?_
    refine o_yield rfl rfl rfl (y_val tok rfl) ?_
    refine o_end [2, 3, 5] rfl ?_
    refine x_then ?_
    refine c_block ?_
    refine c_loopK [2, 3] [] rfl rfl (σ := Nat) (fun i => [(5, .a (.v (I i)))]) (fun i => []) (fun i => i ≤ t.S.length) (fun i => t.S.length - i) (0) (by omega) (by repeat (first | exact SubF.nil | refine SubF.cons rfl ?_)) (by repeat (first | exact SubO.nil | refine SubO.cons rfl ?_)) rfl ?_
    rintro i hi
    refine c_seq ?_
    refine c_seq ?_
    refine c_region ?_
    refine o_yield rfl rfl rfl (y_val tok rfl) ?_
    refine o_yield rfl rfl rfl (y_val tok rfl) ?_
    refine o_yield rfl rfl rfl (y_val tok rfl) ?_
    refine o_yield rfl rfl rfl (y_len tok rfl (fun hg => hs.sl)) ?_
    refine o_yield rfl rfl rfl (y_val tok rfl) ?_
    refine o_end [2, 3, 5, 33] rfl ?_
    refine x_then ?_
    refine c_cond rfl (fun h => ?_) (fun h => ?_)
    ·
      simp only [Bool.and_eq_true, Bool.or_eq_true, Bool.not_eq_true', Bool.or_eq_false_iff, Bool.and_eq_false_iff, decide_eq_true_eq, decide_eq_false_iff_not, beq_iff_eq, bne_iff_ne, Bool.not_eq_false', beq_eq_false_iff_ne, bne_eq_false_iff_eq, ne_eq, Decidable.not_not, Int.not_lt, Int.not_le] at h
      refine c_skip ?_
      refine x_then ?_
      refine c_seq ?_
      refine c_block ?_
      refine c_seq ?_
      refine c_draw mixed (by kernel_rfl) ?_
      refine d_yield rfl rfl rfl (y_val tok rfl) rfl ?_
      refine d_yield rfl rfl rfl (y_val tok rfl) rfl ?_
      refine d_yield rfl rfl rfl (y_val tok rfl) rfl ?_
      obtain ⟨x, h_x⟩ := hs.at (k := i) (by omega)
      have hlt_x := lt_of_at h_x
      refine d_yield rfl rfl rfl (y_idx tok rfl (fun hg => hs.sl) (fun hg => ⟨by omega, by omega⟩)) rfl ?_
      refine d_yield rfl rfl rfl (y_lel tok (i) 0 (x) rfl (fun hg => hs) (fun hg => h_x) rfl rfl) rfl ?_
      refine d_yield rfl rfl rfl (y_val tok rfl) rfl ?_
      refine d_yield rfl rfl rfl (y_val tok rfl) rfl ?_
      refine d_yield rfl rfl rfl (y_val tok rfl) rfl ?_
      have hlt_x := lt_of_at h_x
      refine d_yield rfl rfl rfl (y_idx tok rfl (fun hg => hr.sl) (fun hg => ⟨by omega, by omega⟩)) rfl ?_
      refine d_yield rfl rfl rfl (y_lel tok (i) 0 (x) rfl (fun hg => hr) (fun hg => h_x) rfl rfl) rfl ?_
      refine d_yield rfl rfl rfl (y_seq (.bool (!(x.key == x.key && x.claim == x.claim))) rfl (fun E w => slotEq x.key x.claim x.key x.claim w (.inr rfl))) rfl ?_
      refine d_end [2, 3, 5, 46] rfl ?_
      refine x_then ?_
      refine c_cond rfl (fun h => ?_) (fun h => ?_)
      ·
        refine c_seq ?_
        refine c_region ?_
        refine o_yield rfl rfl rfl (y_val tok rfl) ?_
        refine o_end [4] rfl ?_
        refine x_then ?_
        refine c_ret ?_
        refine x_block_ret ?_
        refine x_then_ret ?_
        refine x_then_ret ?_
        refine x_block_ret ?_
        refine x_then_ret ?_
        refine b_ret tok rfl ?_
        simp at h
      ·
        refine c_skip ?_
        refine x_block ?_
        refine x_then ?_
        refine c_region ?_
        refine o_yield rfl rfl rfl (y_val tok rfl) ?_
        refine o_yield rfl rfl rfl (y_val tok rfl) ?_
        refine o_yield rfl rfl rfl (y_val tok rfl) ?_
        refine o_end [2, 3, 5] rfl ?_
        refine x_then ?_
        rw [wrapI (by omega) (by omega)]
        refine x_round (i + 1) (by omega) (by first | omega | (dsimp only; omega)) (by repeat (first | exact SubF.nil | refine SubF.cons rfl ?_)) (by repeat (first | exact SubO.nil | refine SubO.cons rfl ?_)) rfl (Vw.le.refl _)
    ·
      simp only [Bool.and_eq_true, Bool.or_eq_true, Bool.not_eq_true', Bool.or_eq_false_iff, Bool.and_eq_false_iff, decide_eq_true_eq, decide_eq_false_iff_not, beq_iff_eq, bne_iff_ne, Bool.not_eq_false', beq_eq_false_iff_ne, bne_eq_false_iff_eq, ne_eq, Decidable.not_not, Int.not_lt, Int.not_le] at h
      refine c_exit ?_
      refine x_then_exit ?_
      refine x_then_exit ?_
      refine x_block_hit ?_
      refine x_then ?_
      refine c_seq ?_
      refine c_region ?_
      refine o_yield rfl rfl rfl (y_val tok rfl) ?_
      refine o_end [4] rfl ?_
      refine x_then ?_
      refine c_ret ?_
      refine b_ret tok rfl ?_
      intro E w' hm _
      refine ⟨?_, hm.below (Vw.le.refl _)⟩
      rfl

theorem none_read : drB ByteArray.empty = false ∧ drC ByteArray.empty = cmd0 ∧ drE ByteArray.empty = 0 := by
  have hb : drB ByteArray.empty = false := by rw [drB, beq_self_eq_true]; rfl
  refine ⟨hb, ?_, ?_⟩
  · rw [drC, hb]; rfl
  · rw [drE, if_pos (.inl (beq_self_eq_true _))]

theorem takeN_c (V : Vw) (g : Geo) (tv : Value) (t : Tb) (done : Int) (w : World) (hV : V.le (vw w)) (h : TbIs V tv t) :
    Calls Try.prog 8 #[g.val, tv, I done, S ByteArray.empty] w fun e w' => e = .returned (.tuple #[tv, I done, cmd0.val, .bool false, I 0]) ∧ Below w.heap.size w w' := by
  obtain ⟨a, n, c, a2, n2, c2, a3, n3, c3, rfl, h1, h2, h3⟩ := h
  obtain ⟨e1, e2, e3⟩ := none_read
  refine enter (E := E0) (O := []) (nl := 0) (V := vw w) [.a (.v g.val), .a (.v (.agg #[.slice a n c, .slice a2 n2 c2, .slice a3 n3 c3])), .a (.v (I done)), .a (.v (S ByteArray.empty))] Try.func8 rfl rfl (mem0 E0 0 w) rfl rfl ?_
  refine c_seq ?_
  refine c_region ?_
  refine o_new tok rfl rfl rfl rfl ?_
  refine o_new tok rfl rfl rfl rfl ?_
  refine o_new tok rfl rfl rfl rfl ?_
  refine o_yield rfl rfl rfl (y_val tok rfl) ?_
  refine o_new tok rfl rfl rfl rfl ?_
  refine o_yield rfl rfl rfl (y_val tok rfl) ?_
  refine o_yield rfl rfl rfl (y_val tok rfl) ?_
  refine o_end [2, 3, 4, 5, 8, 10, 11] rfl ?_
  refine x_then ?_
  refine c_seq ?_
  refine c_region ?_
  refine o_yield rfl rfl rfl (y_val tok rfl) ?_
  refine o_call (.a (.v _)) rfl rfl fnok19 rfl rfl rfl (fun hg E w1 hm => by exact (by have h := decRead_c ByteArray.empty (by decide) w1; rw [e1, e2, e3] at h; exact h)) ?_
  refine o_yield rfl rfl rfl (y_val tok rfl) ?_
  refine o_yield rfl rfl rfl (y_val tok rfl) ?_
  refine o_yield rfl rfl rfl (y_val tok rfl) ?_
  refine o_yield rfl rfl rfl (y_val tok rfl) ?_
  refine o_yield rfl rfl rfl (y_val tok rfl) ?_
  refine o_store tok rfl rfl rfl (by first | exact ⟨trivial, trivial⟩ | (repeat' first | exact trivial | exact rfl | apply And.intro); done | simp [onesP, oneP, lk, Value.oneCell']) ?_
  refine o_yield rfl rfl rfl (y_val tok rfl) ?_
  refine o_yield rfl rfl rfl (y_val tok rfl) ?_
  refine o_yield rfl rfl rfl (y_val tok rfl) ?_
  refine o_end [2, 4, 5, 8, 10, 11, 12, 14] rfl ?_
  refine x_then ?_
  refine c_seq ?_
  refine c_region ?_
  refine o_yield rfl rfl rfl (y_val tok rfl) ?_
  refine o_yield rfl rfl rfl (y_val tok rfl) ?_
  refine o_yield rfl rfl rfl (y_val tok rfl) ?_
  refine o_yield rfl rfl rfl (y_val tok rfl) ?_
  refine o_new tok rfl rfl rfl rfl ?_
  refine o_yield rfl rfl rfl (y_val tok rfl) ?_
  refine o_end [8, 10, 11, 12, 14, 15] rfl ?_
  refine x_then ?_
  refine c_seq ?_
  refine c_seq ?_
  refine c_region ?_
  refine o_yield rfl rfl rfl (y_val tok rfl) ?_
  refine o_yield rfl rfl rfl (y_val tok rfl) ?_
  refine o_yield rfl rfl rfl (y_val tok rfl) ?_
  refine o_yield rfl rfl rfl (y_val tok rfl) ?_
  refine o_yield rfl rfl rfl (y_val tok rfl) ?_
  refine o_end [8, 10, 11, 12, 15, 32] rfl ?_
  refine x_then ?_
  refine c_cond rfl (fun h => ?_) (fun h => ?_)
  ·
    cases h
  ·
    refine c_skip ?_
    refine x_then ?_
    refine c_seq ?_
    refine c_held [] ([(3, .lit (cmd0.cells.map .v) 38), (4, .lit ([.v (.slice a n c), .v (.slice a2 n2 c2), .v (.slice a3 n3 c3)] ++ g.cells.map .v ++ [.v (I done)]) 51)]) mixed (by repeat (first | exact SubO.nil | refine SubO.cons rfl ?_)) (by first | rfl | simp [okCels, allOk_plain]) ?_
    refine t_take 0 rfl (by kernel_rfl) rfl rfl rfl (y_val tok rfl) rfl ?_
    refine t_take 1 rfl (by kernel_rfl) rfl rfl rfl (y_val tok rfl) rfl ?_
    refine t_take 2 rfl (by kernel_rfl) rfl rfl rfl (y_val tok rfl) rfl ?_
    refine t_take 3 rfl (by kernel_rfl) rfl rfl rfl (y_val tok rfl) rfl ?_
    refine t_take 4 rfl (by kernel_rfl) rfl rfl rfl (y_val tok rfl) rfl ?_
    refine t_take 5 rfl (by kernel_rfl) rfl rfl rfl (y_val tok rfl) rfl ?_
    refine t_take 6 rfl (by kernel_rfl) rfl rfl rfl (y_val tok rfl) rfl ?_
    refine t_take 7 rfl (by kernel_rfl) rfl rfl rfl (y_val tok rfl) rfl ?_
    refine t_take 8 rfl (by kernel_rfl) rfl rfl rfl (y_val tok rfl) rfl ?_
    refine t_take 9 rfl (by kernel_rfl) rfl rfl rfl (y_val tok rfl) rfl ?_
    refine t_take 10 rfl (by kernel_rfl) rfl rfl rfl (y_val tok rfl) rfl ?_
    refine t_go ?_
    refine h_one 11 (by kernel_rfl) ?_
    refine h_store 11 tok rfl rfl rfl rfl (by first | exact ⟨trivial, trivial⟩ | (repeat' first | exact trivial | exact rfl | apply And.intro); done | simp [onesP, oneP, lk, Value.oneCell']) (.inr ⟨(by repeat (first | exact SubO.nil | refine SubO.cons rfl ?_)), rfl, (by first | exact Vw.le.refl _ | assumption)⟩) ?_
    refine h_one 12 (by kernel_rfl) ?_
    refine h_yield 12 rfl rfl rfl rfl (y_val tok rfl) ?_
    refine h_one 13 (by kernel_rfl) ?_
    refine h_store 13 tok rfl rfl rfl rfl (by first | exact ⟨trivial, trivial⟩ | (repeat' first | exact trivial | exact rfl | apply And.intro); done | simp [onesP, oneP, lk, Value.oneCell']) (.inr ⟨(by repeat (first | exact SubO.nil | refine SubO.cons rfl ?_)), rfl, (by first | exact Vw.le.refl _ | assumption)⟩) ?_
    refine h_one 14 (by kernel_rfl) ?_
    refine h_yield 14 rfl rfl rfl rfl (y_val tok rfl) ?_
    refine h_one 15 (by kernel_rfl) ?_
    refine h_yield 15 rfl rfl rfl rfl (y_val tok rfl) ?_
    refine h_done [8, 9, 10, 11, 12] (by kernel_rfl) rfl ?_
    refine x_then ?_
    refine c_ret ?_
    refine b_ret tok rfl ?_
    intro E w' hm _
    refine ⟨?_, hm.below (Vw.le.refl _)⟩
    rfl
end Go.Proofs.Ythmejhpfhkddiaa

/- LearnOn: learn.Take of a command; the law. -/
set_option linter.unusedVariables false
set_option linter.unusedSimpArgs false
set_option maxRecDepth 100000
namespace Go.Proofs.Ythmejhpfhkddiaa
open Go Go.Eng Go.RowKit

theorem takeC_c (V : Vw) (g : Geo) (tv : Value) (t : Tb) (c : Cmd) (hcB : cmdB c = true) (done : Nat) (hd : done ≤ 1000) (w : World) (ht : t.Fit) (hq : t.Q.length + 1 ≤ 100000) (hV : V.le (vw w)) (hT : TbIs V tv t) :
    Calls Try.prog 8 #[g.val, tv, I done, S (decS c)] w fun e w' => ∃ v V', e = .returned v ∧ Below w.heap.size w w' ∧ Vext w.heap.size V V' w' ∧ ∃ o, v = .tuple #[o, I ((done + 1 : Nat) : Int), c.val, .bool true, I 0] ∧ TbIs V' o (t.apply g.blocks c) := by
  obtain ⟨a, n, c0, a2, n2, c2, a3, n3, c3, rfl, _⟩ := id hT
  obtain ⟨_, _, e1, e2, _, e3, esz⟩ := dec_back hcB
  have hlen := cmdL_len c
  have hck : -128 ≤ c.kind ∧ c.kind ≤ 127 := by have := (cmdOk hcB).kind; omega
  have hwd : IntKind.i64.wrap ((done : Int) + 1) = ((done + 1 : Nat) : Int) := wrapI (by omega) (by omega)
  have happ := fun w1 hw1 => apply_c V g _ t ht hq c hck w1 hw1 hT
  refine enter (E := E0) (O := []) (nl := 0) (V := vw w) [.a (.v g.val), .a (.v (.agg #[.slice a n c0, .slice a2 n2 c2, .slice a3 n3 c3])), .a (.v (I done)), .a (.v (S (decS c)))] Try.func8 rfl rfl (mem0 E0 0 w) rfl rfl ?_
  refine c_seq ?_
  refine c_region ?_
  refine o_new tok rfl rfl rfl rfl ?_
  refine o_new tok rfl rfl rfl rfl ?_
  refine o_new tok rfl rfl rfl rfl ?_
  refine o_yield rfl rfl rfl (y_val tok rfl) ?_
  refine o_new tok rfl rfl rfl rfl ?_
  refine o_yield rfl rfl rfl (y_val tok rfl) ?_
  refine o_yield rfl rfl rfl (y_val tok rfl) ?_
  refine o_end [2, 3, 4, 5, 8, 10, 11] rfl ?_
  refine x_then ?_
  refine c_seq ?_
  refine c_region ?_
  refine o_yield rfl rfl rfl (y_val tok rfl) ?_
  refine o_call (.a (.v _)) rfl rfl fnok19 rfl rfl rfl (fun hg E w1 hm => by exact (by have h := decRead_c (decS c) (by rw [esz]; simp only [maxLen]; omega) w1; rw [e1, e2, e3] at h; exact h)) ?_
  refine o_yield rfl rfl rfl (y_val tok rfl) ?_
  refine o_yield rfl rfl rfl (y_val tok rfl) ?_
  refine o_yield rfl rfl rfl (y_val tok rfl) ?_
  refine o_yield rfl rfl rfl (y_val tok rfl) ?_
  refine o_yield rfl rfl rfl (y_val tok rfl) ?_
  refine o_store tok rfl rfl rfl (by first | exact ⟨trivial, trivial⟩ | (repeat' first | exact trivial | exact rfl | apply And.intro); done | simp [onesP, oneP, lk, Value.oneCell']) ?_
  refine o_yield rfl rfl rfl (y_val tok rfl) ?_
  refine o_yield rfl rfl rfl (y_val tok rfl) ?_
  refine o_yield rfl rfl rfl (y_val tok rfl) ?_
  refine o_end [2, 4, 5, 8, 10, 11, 12, 14] rfl ?_
  refine x_then ?_
  refine c_seq ?_
  refine c_region ?_
  refine o_yield rfl rfl rfl (y_val tok rfl) ?_
  refine o_yield rfl rfl rfl (y_val tok rfl) ?_
  refine o_yield rfl rfl rfl (y_val tok rfl) ?_
  refine o_yield rfl rfl rfl (y_val tok rfl) ?_
  refine o_new tok rfl rfl rfl rfl ?_
  refine o_yield rfl rfl rfl (y_val tok rfl) ?_
  refine o_end [8, 10, 11, 12, 14, 15] rfl ?_
  refine x_then ?_
  refine c_seq ?_
  refine c_seq ?_
  refine c_region ?_
  refine o_yield rfl rfl rfl (y_val tok rfl) ?_
  refine o_yield rfl rfl rfl (y_val tok rfl) ?_
  refine o_yield rfl rfl rfl (y_val tok rfl) ?_
  refine o_yield rfl rfl rfl (y_val tok rfl) ?_
  refine o_yield rfl rfl rfl (y_val tok rfl) ?_
  refine o_end [8, 10, 11, 12, 15, 32] rfl ?_
  refine x_then ?_
  refine c_cond rfl (fun h => ?_) (fun h => ?_)
  ·
    clear h
    refine c_seq ?_
    refine c_region ?_
    refine o_yield rfl rfl rfl (y_val tok rfl) ?_
    refine o_yield rfl rfl rfl (y_val tok rfl) ?_
    refine o_step rfl rfl rfl rfl rfl (s_bs tok 8 rfl rfl rfl) (fun _ _ => ?_)
    refine k_freeze 5 rfl (fun lv W1 hle1 hsl1 _ => ?_)
    have hs1 : SlOf W1 Cmd.cells 8 lv [c] := ⟨hsl1, fun _ => rfl⟩
    obtain ⟨b1, m1, d1, rfl⟩ := sl_shape hs1.sl
    refine o_inl rfl rfl rfl rfl rfl fnok14 Try.func14 rfl rfl rfl (fun E => ?_)
    refine c_seq ?_
    refine c_region ?_
    refine o_yield rfl rfl rfl (y_val tok rfl) ?_
    refine o_end [0, 1] rfl ?_
    refine x_then ?_
    refine c_seq ?_
    refine c_seq ?_
    refine c_region ?_
    refine o_yield rfl rfl rfl (y_val tok rfl) ?_
    refine o_yield rfl rfl rfl (y_len tok rfl (fun hg => hs1.sl)) ?_
    refine o_yield rfl rfl rfl (y_val tok rfl) ?_
    refine o_end [0, 7, 8, 9] rfl ?_
    refine x_then ?_
    refine c_block ?_
    refine c_loopV [0, 7, 8] [4] rfl rfl (σ := Nat × Value × Value × Value × Int × Tb × Vw × Vw) (fun (i, s, u, q, d, T, W, Z) => [(9, .a (.v (I i)))]) (fun (i, s, u, q, d, T, W, Z) => [(4, .lit ([.v s, .v u, .v q] ++ g.cells.map .v ++ [.v (I d)]) 51)]) (fun (i, s, u, q, d, T, W, Z) => W) (fun (i, s, u, q, d, T, W, Z) => i ≤ 1 ∧ ((vw w).le W ∧ Z.le W ∧ W1.le W) ∧ V.le Z ∧ TbIs Z (.agg #[s, u, q]) T ∧ (∀ k o, Z.get k = some o → V.get k = some o ∨ w.heap.size ≤ k) ∧ ((i = 0 ∧ T = t ∧ d = done) ∨ (i = 1 ∧ T = t.apply g.blocks c ∧ d = ((done + 1 : Nat) : Int)))) (fun (i, s, u, q, d, T, W, Z) => 1 - i) ((0, _, _, _, (done : Int), t, W1, V)) (⟨by omega, ⟨hle1, hV.trans hle1, Vw.le.refl _⟩, Vw.le.refl _, hT, fun k o hk => .inl hk, .inl ⟨rfl, rfl, rfl⟩⟩) (by repeat (first | exact SubF.nil | refine SubF.cons rfl ?_)) (by repeat (first | exact SubO.nil | refine SubO.cons rfl ?_)) rfl (Vw.le.refl _) ?_
    rintro ⟨i, s, u, q, d, T, W, Z⟩ ⟨hi, ⟨hwW, hZW, h1W⟩, hle, hTT, hgt, hst⟩
    dsimp only at hi hwW hZW h1W hle hTT hgt hst ⊢
    have hs' := hs1.mono h1W
    refine c_seq ?_
    refine c_region ?_
    refine o_yield rfl rfl rfl (y_val tok rfl) ?_
    refine o_end [0, 7, 8, 9, 10] rfl ?_
    refine x_then ?_
    refine c_seq ?_
    refine c_cond rfl (fun h => ?_) (fun h => ?_)
    ·
      simp only [Bool.and_eq_true, Bool.or_eq_true, Bool.not_eq_true', Bool.or_eq_false_iff, Bool.and_eq_false_iff, decide_eq_true_eq, decide_eq_false_iff_not, beq_iff_eq, bne_iff_ne, Bool.not_eq_false', beq_eq_false_iff_ne, bne_eq_false_iff_eq, ne_eq, Decidable.not_not, Int.not_lt, Int.not_le] at h
      have hi0 : i = 0 := by simp at h; omega
      subst hi0
      obtain ⟨_, rfl, rfl⟩ := hst.resolve_right (fun hh => absurd hh.1 (by decide))
      have hx0 : ([c] : List Cmd)[0]? = some c := rfl
      clear h
      refine c_skip ?_
      refine x_then ?_
      refine c_seq ?_
      refine c_block ?_
      refine c_seq ?_
      refine c_region ?_
      have hlt_c := lt_of_at hx0
      refine o_yield rfl rfl rfl (y_idx tok rfl (fun hg => hs'.sl) (fun hg => ⟨by omega, by omega⟩)) ?_
      refine o_yield rfl rfl rfl (y_lel tok (0) 0 (c) rfl (fun hg => hs') (fun hg => hx0) rfl rfl) ?_
      refine o_new tok rfl rfl rfl rfl ?_
      refine o_store tok rfl rfl rfl (by first | exact ⟨trivial, trivial⟩ | (repeat' first | exact trivial | exact rfl | apply And.intro); done | simp [onesP, oneP, lk, Value.oneCell']) ?_
      refine o_end [0, 6, 7, 8, 9] rfl ?_
      refine x_then ?_
      refine c_seq ?_
      refine c_heldS [13] mixed rfl (by repeat (first | exact SubO.nil | refine SubO.cons rfl ?_)) (by first | rfl | simp [okCels, allOk_plain]) ?_
      refine t_takeD 0 rfl (by kernel_rfl) rfl rfl rfl (y_val tok rfl) rfl ?_
      refine t_takeD 1 rfl (by kernel_rfl) rfl rfl rfl (y_val tok rfl) rfl ?_
      refine t_takeD 2 rfl (by kernel_rfl) rfl rfl rfl (y_val tok rfl) rfl ?_
      refine t_takeD 3 rfl (by kernel_rfl) rfl rfl rfl (y_val tok rfl) rfl ?_
      refine t_takeD 4 rfl (by kernel_rfl) rfl rfl rfl (y_val tok rfl) rfl ?_
      refine t_takeD 5 rfl (by kernel_rfl) rfl rfl rfl (y_val tok rfl) rfl ?_
      refine t_takeD 6 rfl (by kernel_rfl) rfl rfl rfl (y_val tok rfl) rfl ?_
      refine t_takeD 7 rfl (by kernel_rfl) rfl rfl rfl (y_val tok rfl) rfl ?_
      refine t_takeD 8 rfl (by kernel_rfl) rfl rfl rfl (y_val tok rfl) rfl ?_
      refine t_takeD 9 rfl (by kernel_rfl) rfl rfl rfl (y_val tok rfl) rfl ?_
      refine t_go ?_
      refine h_one 10 (by kernel_rfl) ?_
      refine h_callV 10 (fun v V' => ∃ V2 : Vw, V2.le V' ∧ Z.le V2 ∧ (∀ k o, V2.get k = some o → Z.get k = some o ∨ w.heap.size ≤ k) ∧ TbIs V2 v (T.apply g.blocks c)) rfl rfl rfl fnok24 rfl rfl (fun hg E w1 hm => by exact (apply_c Z g _ T ht hq c hck _ (hZW.trans hm.leV) hTT).mono fun e w' h => small_view (hm.below hwW).size hZW hm.leV h) ?_
      rintro v2 W2 hle2 hv2
      obtain ⟨Z2, hZ2, hZZ, hgt2, hT2⟩ := hv2 rfl
      obtain ⟨x1, y1, z1, x2, y2, z2, x3, y3, z3, rfl, _⟩ := id hT2
      refine h_one 11 (by kernel_rfl) ?_
      refine h_yield 11 rfl rfl rfl rfl (y_val tok rfl) ?_
      refine h_one 12 (by kernel_rfl) ?_
      refine h_yield 12 rfl rfl rfl rfl (y_val tok rfl) ?_
      refine h_one 13 (by kernel_rfl) ?_
      refine h_store 13 tok rfl rfl rfl rfl (by first | exact ⟨trivial, trivial⟩ | (repeat' first | exact trivial | exact rfl | apply And.intro); done | simp [onesP, oneP, lk, Value.oneCell']) (.inl rfl) ?_
      refine h_done [0, 7, 8, 9] (by kernel_rfl) rfl ?_
      refine x_then ?_
      refine c_region ?_
      refine o_yield rfl rfl rfl (y_val tok rfl) ?_
      refine o_yield rfl rfl rfl (y_val tok rfl) ?_
      refine o_yield rfl rfl rfl (y_val tok rfl) ?_
      refine o_yield rfl rfl rfl (y_val tok rfl) ?_
      refine o_yield rfl rfl rfl (y_val tok rfl) ?_
      refine o_yield rfl rfl rfl (y_val tok rfl) ?_
      refine o_yield rfl rfl rfl (y_val tok rfl) ?_
      refine o_store tok rfl rfl rfl (by first | exact ⟨trivial, trivial⟩ | (repeat' first | exact trivial | exact rfl | apply And.intro); done | simp [onesP, oneP, lk, Value.oneCell']) ?_
      refine o_end [0, 7, 8, 9] rfl ?_
      refine x_block ?_
      refine x_then ?_
      refine c_region ?_
      refine o_yield rfl rfl rfl (y_val tok rfl) ?_
      refine o_yield rfl rfl rfl (y_val tok rfl) ?_
      refine o_end [0, 7, 8, 9] rfl ?_
      refine x_then ?_
      rw [hwd, show IntKind.i64.wrap (((0 : Nat) : Int) + 1) = ((1 : Nat) : Int) by decide]
      refine x_round ((1, _, _, _, _, T.apply g.blocks c, W2, Z2)) (⟨by dsimp only; omega, ⟨hwW.trans hle2, hZ2, h1W.trans hle2⟩, hle.trans hZZ, hT2, fun k o hk => (hgt2 k o hk).elim (hgt k o) .inr, .inr ⟨rfl, rfl, rfl⟩⟩) (by first | omega | (dsimp only; omega)) (by repeat (first | exact SubF.nil | refine SubF.cons rfl ?_)) (by repeat (first | exact SubO.nil | refine SubO.cons rfl ?_)) rfl (Vw.le.refl _)
    ·
      simp only [Bool.and_eq_true, Bool.or_eq_true, Bool.not_eq_true', Bool.or_eq_false_iff, Bool.and_eq_false_iff, decide_eq_true_eq, decide_eq_false_iff_not, beq_iff_eq, bne_iff_ne, Bool.not_eq_false', beq_eq_false_iff_ne, bne_eq_false_iff_eq, ne_eq, Decidable.not_not, Int.not_lt, Int.not_le] at h
      have hi1 : i = 1 := by simp at h; omega
      subst hi1
      obtain ⟨_, rfl, rfl⟩ := hst.resolve_left (fun hh => absurd hh.1 (by decide))
      clear h
      obtain ⟨x1, y1, z1, x2, y2, z2, x3, y3, z3, hv, _⟩ := id hTT
      simp only [Value.agg.injEq, Array.mk.injEq, List.cons.injEq, and_true] at hv
      obtain ⟨rfl, rfl, rfl⟩ := hv
      refine c_exit ?_
      refine x_then_exit ?_
      refine x_then_exit ?_
      refine x_block_hit ?_
      refine x_then ?_
      refine c_seq ?_
      refine c_region ?_
      refine o_yield rfl rfl rfl (y_val tok rfl) ?_
      refine o_yield rfl rfl rfl (y_val tok rfl) ?_
      refine o_end [4] rfl ?_
      refine x_then ?_
      refine c_ret ?_
      refine b_ret tok rfl ?_
      intro E1 w1 hm1 hok1
      refine inl_end (E := E) hm1 hok1 rfl rfl (by repeat (first | exact KeepsIn.zero | refine KeepsIn.succ rfl ?_)) rfl (by repeat (first | exact SubO.nil | refine SubO.cons rfl ?_)) rfl ?_
      clear hm1 hok1 w1 E1 E
      refine o_end [8, 10, 12, 15] rfl ?_
      refine x_then ?_
      refine c_region ?_
      refine o_yield rfl rfl rfl (y_val tok rfl) ?_
      refine o_end [8, 10, 11, 12, 15] rfl ?_
      refine x_then ?_
      refine c_seq ?_
      refine c_held [] ([(3, .lit (c.cells.map .v) 38), (4, .lit ([.v (.slice x1 y1 z1), .v (.slice x2 y2 z2), .v (.slice x3 y3 z3)] ++ g.cells.map .v ++ [.v (I ((done + 1 : Nat) : Int))]) 51)]) mixed (by repeat (first | exact SubO.nil | refine SubO.cons rfl ?_)) (by first | rfl | simp [okCels, allOk_plain]) ?_
      refine t_take 0 rfl (by kernel_rfl) rfl rfl rfl (y_val tok rfl) rfl ?_
      refine t_take 1 rfl (by kernel_rfl) rfl rfl rfl (y_val tok rfl) rfl ?_
      refine t_take 2 rfl (by kernel_rfl) rfl rfl rfl (y_val tok rfl) rfl ?_
      refine t_take 3 rfl (by kernel_rfl) rfl rfl rfl (y_val tok rfl) rfl ?_
      refine t_take 4 rfl (by kernel_rfl) rfl rfl rfl (y_val tok rfl) rfl ?_
      refine t_take 5 rfl (by kernel_rfl) rfl rfl rfl (y_val tok rfl) rfl ?_
      refine t_take 6 rfl (by kernel_rfl) rfl rfl rfl (y_val tok rfl) rfl ?_
      refine t_take 7 rfl (by kernel_rfl) rfl rfl rfl (y_val tok rfl) rfl ?_
      refine t_take 8 rfl (by kernel_rfl) rfl rfl rfl (y_val tok rfl) rfl ?_
      refine t_take 9 rfl (by kernel_rfl) rfl rfl rfl (y_val tok rfl) rfl ?_
      refine t_take 10 rfl (by kernel_rfl) rfl rfl rfl (y_val tok rfl) rfl ?_
      refine t_go ?_
      refine h_one 11 (by kernel_rfl) ?_
      refine h_store 11 tok rfl rfl rfl rfl (by first | exact ⟨trivial, trivial⟩ | (repeat' first | exact trivial | exact rfl | apply And.intro); done | simp [onesP, oneP, lk, Value.oneCell']) (.inr ⟨(by repeat (first | exact SubO.nil | refine SubO.cons rfl ?_)), rfl, (by first | exact Vw.le.refl _ | assumption)⟩) ?_
      refine h_one 12 (by kernel_rfl) ?_
      refine h_yield 12 rfl rfl rfl rfl (y_val tok rfl) ?_
      refine h_one 13 (by kernel_rfl) ?_
      refine h_store 13 tok rfl rfl rfl rfl (by first | exact ⟨trivial, trivial⟩ | (repeat' first | exact trivial | exact rfl | apply And.intro); done | simp [onesP, oneP, lk, Value.oneCell']) (.inr ⟨(by repeat (first | exact SubO.nil | refine SubO.cons rfl ?_)), rfl, (by first | exact Vw.le.refl _ | assumption)⟩) ?_
      refine h_one 14 (by kernel_rfl) ?_
      refine h_yield 14 rfl rfl rfl rfl (y_val tok rfl) ?_
      refine h_one 15 (by kernel_rfl) ?_
      refine h_yield 15 rfl rfl rfl rfl (y_val tok rfl) ?_
      refine h_done [8, 9, 10, 11, 12] (by kernel_rfl) rfl ?_
      refine x_then ?_
      refine c_ret ?_
      refine b_ret tok rfl ?_
      intro E' w' hm _
      exact ⟨_, Z, rfl, hm.below hwW, ⟨hle, fun k o hk => ⟨(hZW.trans hm.leV).get k o hk, hgt k o hk⟩⟩, _, rfl, hTT⟩
  ·
    cases h
end Go.Proofs.Ythmejhpfhkddiaa

/- THE LAW LearnOn. -/
set_option linter.unusedVariables false
set_option linter.unusedSimpArgs false
set_option maxRecDepth 100000
namespace Go.Proofs.Ythmejhpfhkddiaa
open Go Go.Eng Go.RowKit

theorem takeN0_c (V : Vw) (g : Geo) (tv : Value) (t : Tb) (done : Int) (w : World) (hV : V.le (vw w)) (h : TbIs V tv t) :
    Calls Try.prog 8 #[g.val, tv, I done, .string ⟨#[]⟩] w fun e w' => e = .returned (.tuple #[tv, I done, cmd0.val, .bool false, I 0]) ∧ Below w.heap.size w w' := by
  have e : (⟨#[]⟩ : ByteArray) = ByteArray.empty := rfl
  rw [e]
  exact takeN_c V g tv t done w hV h

theorem learnOn_law (w : World) {v0 v1 v2 : Value} (R0 : ∃ g : Geo, v0 = g.val ∧ g.Ok) (R1 : ∃ l : List Cmd, SlOf (vw w) Cmd.cells 8 v1 l ∧ l.length ≤ maxLen ∧ ∀ a ∈ l, Cmd.Ok a) (R2 : ∃ n : Int, v2 = I n ∧ R64 n) :
    Calls Try.prog 3 #[v0, v1, v2] w fun e w' => e = .returned (.bool true) ∧ Below w.heap.size w w' := by
  obtain ⟨g, rfl, _⟩ := R0
  obtain ⟨l, hs, hlm, _⟩ := R1
  obtain ⟨stop, rfl, _⟩ := R2
  obtain ⟨a0, n0, c0, rfl⟩ := sl_shape hs.sl
  simp only [maxLen] at hlm
  refine enter (E := E0) (O := []) (nl := 0) (V := vw w) [.a (.v g.val), .a (.v (.slice a0 n0 c0)), .a (.v (I stop))] Try.func3 rfl rfl (mem0 E0 0 w) rfl rfl ?_
  refine c_seq ?_
  refine c_region ?_
  refine o_new tok rfl rfl rfl rfl ?_
  refine o_yield rfl rfl rfl (y_val tok rfl) ?_
  refine o_end [1, 2, 3] rfl ?_
  refine x_then ?_
  refine c_seq ?_
  refine c_seq ?_
  refine c_region ?_
  refine o_yield rfl rfl rfl (y_val tok rfl) ?_
  refine o_yield rfl rfl rfl (y_len tok rfl (fun hg => hs.sl)) ?_
  refine o_yield rfl rfl rfl (y_val tok rfl) ?_
  refine o_end [1, 2, 3, 27] rfl ?_
  refine x_then ?_
  refine c_cond rfl (fun h => ?_) (fun h => ?_)
  ·
    simp only [Bool.and_eq_true, Bool.or_eq_true, Bool.not_eq_true', Bool.or_eq_false_iff, Bool.and_eq_false_iff, decide_eq_true_eq, decide_eq_false_iff_not, beq_iff_eq, bne_iff_ne, Bool.not_eq_false', beq_eq_false_iff_ne, bne_eq_false_iff_eq, ne_eq, Decidable.not_not, Int.not_lt, Int.not_le] at h
    refine c_seq ?_
    refine c_region ?_
    refine o_call (.a (.v _)) rfl rfl fnok4 rfl rfl rfl (fun hg E w1 hm => by exact wakes14_c _) ?_
    refine o_yield rfl rfl rfl (y_val tok rfl) ?_
    refine o_end [6] rfl ?_
    refine x_then ?_
    refine c_ret ?_
    refine x_then_ret ?_
    refine b_ret tok rfl ?_
    intro E w' hm _
    refine ⟨?_, hm.below (Vw.le.refl _)⟩
    rfl
  ·
    simp only [Bool.and_eq_true, Bool.or_eq_true, Bool.not_eq_true', Bool.or_eq_false_iff, Bool.and_eq_false_iff, decide_eq_true_eq, decide_eq_false_iff_not, beq_iff_eq, bne_iff_ne, Bool.not_eq_false', beq_eq_false_iff_ne, bne_eq_false_iff_eq, ne_eq, Decidable.not_not, Int.not_lt, Int.not_le] at h
    have hl60 : l.length ≤ 60 := by omega
    clear h
    refine c_skip ?_
    refine x_then ?_
    refine c_seq ?_
    refine c_region ?_
    refine o_yield rfl rfl rfl (y_val tok rfl) ?_
    refine o_callV (fun v V' => TbIs V' v (newT g.slots)) rfl rfl fnok5 rfl rfl (fun hg E w1 hm => by exact behind_c (vw w) g (.slice none 0 0) [] _ hm.leV (slNil _ _ _ _ (fun _ => rfl)) (by simp) (by simp)) ?_
    rintro v1 W1 hle1 hv1
    have hT1 := hv1 rfl
    obtain ⟨y1, y2, y3, y4, y5, y6, y7, y8, y9, rfl, _⟩ := id hT1
    refine o_new tok rfl rfl rfl rfl ?_
    refine o_store tok rfl rfl rfl (by first | exact ⟨trivial, trivial⟩ | (repeat' first | exact trivial | exact rfl | apply And.intro); done | simp [onesP, oneP, lk, Value.oneCell']) ?_
    refine o_end [1, 2, 3, 7] rfl ?_
    refine x_then ?_
    refine c_seq ?_
    refine c_region ?_
    refine o_yield rfl rfl rfl (y_val tok rfl) ?_
    refine o_end [1, 2, 3, 7, 8] rfl ?_
    refine x_then ?_
    refine c_seq ?_
    refine c_seq ?_
    refine c_region ?_
    refine o_yield rfl rfl rfl (y_val tok rfl) ?_
    refine o_end [1, 2, 3, 7, 8, 9] rfl ?_
    refine x_then ?_
    refine c_block ?_
    refine c_loopV [1, 2, 3, 7] [1] rfl rfl (σ := Nat × Nat × Value × Value × Value × Tb × Vw) (fun (i, d, s, u, q, t, W) => [(8, .a (.v (I d))), (9, .a (.v (I i)))]) (fun (i, d, s, u, q, t, W) => [(1, .lit [.v s, .v u, .v q] 29)]) (fun (i, d, s, u, q, t, W) => W) (fun (i, d, s, u, q, t, W) => (i ≤ l.length + 1 ∧ d = min i l.length) ∧ (vw w).le W ∧ TbIs W (.agg #[s, u, q]) t ∧ t = behind g.blocks (newT g.slots) (l.take i) ∧ ∀ c ∈ l.take i, cmdB c = true) (fun (i, d, s, u, q, t, W) => l.length + 1 - i) ((0, 0, _, _, _, newT g.slots, W1)) (⟨⟨by omega, by omega⟩, hle1, hT1, rfl, by simp⟩) (by repeat (first | exact SubF.nil | refine SubF.cons rfl ?_)) (by repeat (first | exact SubO.nil | refine SubO.cons rfl ?_)) rfl (Vw.le.refl _) ?_
    rintro ⟨i, d, s, u, q, t, W⟩ ⟨⟨hi, hd⟩, hle, hT, hbe, hcm⟩
    dsimp only at hi hd hle hT hbe hcm ⊢
    have hsW := hs.mono hle
    have hwi : IntKind.i64.wrap ((i : Int) + 1) = ((i + 1 : Nat) : Int) := wrapI (by omega) (by omega)
    have hn16 : ((newN g.slots : Nat) : Int) ≤ 16 := by rw [newN]; omega
    have h00 : (newT g.slots).H.length + (newT g.slots).Q.length = 0 := rfl
    obtain ⟨hok, _, hsum⟩ := behind_ok g.blocks (l.take i) (newN g.slots) (newT g.slots) hcm (TbOk.new _ _) (fun x hx => by rw [(List.mem_replicate.1 hx).2]; exact .inl rfl)
    rw [← hbe] at hok hsum
    have htl : (l.take i).length ≤ 60 := by rw [List.length_take]; omega
    have hfit := hok.fitS hn16 (by omega)
    obtain ⟨x1, x2, x3, x4, x5, x6, x7, x8, x9, hv, _⟩ := id hT
    simp only [Value.agg.injEq, Array.mk.injEq, List.cons.injEq, and_true] at hv
    obtain ⟨rfl, rfl, rfl⟩ := hv
    refine c_seq ?_
    refine c_seq ?_
    refine c_region ?_
    refine o_yield rfl rfl rfl (y_val tok rfl) ?_
    refine o_yield rfl rfl rfl (y_val tok rfl) ?_
    refine o_yield rfl rfl rfl (y_len tok rfl (fun hg => hsW.sl)) ?_
    refine o_yield rfl rfl rfl (y_val tok rfl) ?_
    refine o_end [1, 2, 3, 7, 8, 9, 34] rfl ?_
    refine x_then ?_
    refine c_cond rfl (fun h => ?_) (fun h => ?_)
    ·
      simp only [Bool.and_eq_true, Bool.or_eq_true, Bool.not_eq_true', Bool.or_eq_false_iff, Bool.and_eq_false_iff, decide_eq_true_eq, decide_eq_false_iff_not, beq_iff_eq, bne_iff_ne, Bool.not_eq_false', beq_eq_false_iff_ne, bne_eq_false_iff_eq, ne_eq, Decidable.not_not, Int.not_lt, Int.not_le] at h
      have hil : i ≤ l.length := by omega
      clear h
      refine c_skip ?_
      refine x_then ?_
      refine c_seq ?_
      refine c_block ?_
      refine c_seq ?_
      refine c_region ?_
      refine o_yield rfl rfl rfl (y_val tok rfl) ?_
      refine o_end [1, 2, 3, 7, 8, 9, 10] rfl ?_
      refine x_then ?_
      refine c_seq ?_
      refine c_seq ?_
      refine c_region ?_
      refine o_yield rfl rfl rfl (y_val tok rfl) ?_
      refine o_yield rfl rfl rfl (y_val tok rfl) ?_
      refine o_yield rfl rfl rfl (y_len tok rfl (fun hg => hsW.sl)) ?_
      refine o_yield rfl rfl rfl (y_val tok rfl) ?_
      refine o_end [1, 2, 3, 7, 8, 9, 10, 40] rfl ?_
      refine x_then ?_
      refine c_cond rfl (fun h => ?_) (fun h => ?_)
      ·
        simp only [Bool.and_eq_true, Bool.or_eq_true, Bool.not_eq_true', Bool.or_eq_false_iff, Bool.and_eq_false_iff, decide_eq_true_eq, decide_eq_false_iff_not, beq_iff_eq, bne_iff_ne, Bool.not_eq_false', beq_eq_false_iff_ne, bne_eq_false_iff_eq, ne_eq, Decidable.not_not, Int.not_lt, Int.not_le] at h
        have hlt : i < l.length := by omega
        have hdi : d = i := by omega
        subst hdi
        clear h
        refine c_seq ?_
        refine c_region ?_
        refine o_yield rfl rfl rfl (y_val tok rfl) ?_
        refine o_yield rfl rfl rfl (y_val tok rfl) ?_
        obtain ⟨c, h_c⟩ := hsW.at (k := d) (by omega)
        have hlt_c := lt_of_at h_c
        refine o_yield rfl rfl rfl (y_idx tok rfl (fun hg => hsW.sl) (fun hg => ⟨by omega, by omega⟩)) ?_
        refine o_yield rfl rfl rfl (y_lel tok (d) 0 (c) rfl (fun hg => hsW) (fun hg => h_c) rfl rfl) ?_
        have hbe2 : t.apply g.blocks c = behind g.blocks (newT g.slots) (l.take (d + 1)) := by
          rw [take_succ_at' h_c, behind, List.foldl_append, hbe]; rfl
        by_cases hcB : cmdB c = true
        · obtain ⟨p1, p2⟩ := cbV_pos hcB
          obtain ⟨q1, q2, _, _, _, _, qsz⟩ := dec_back hcB
          have hlen := cmdL_len c
          have hcm2 : ∀ c ∈ l.take (d + 1), cmdB c = true := by
            intro z hz
            rw [take_succ_at' h_c, List.mem_append, List.mem_singleton] at hz
            rcases hz with hz | rfl
            · exact hcm z hz
            · exact hcB
          obtain ⟨hok2, _, hsum2⟩ := behind_ok g.blocks (l.take (d + 1)) (newN g.slots) (newT g.slots) hcm2 (TbOk.new _ _) (fun x hx => by rw [(List.mem_replicate.1 hx).2]; exact .inl rfl)
          have htl2 : (l.take (d + 1)).length ≤ 61 := by rw [List.length_take]; omega
          have hfit2 := hok2.fitS hn16 (by omega)
          refine o_call (.a (.v _)) rfl rfl fnok6 rfl rfl rfl (fun hg E w1 hm => by exact (by have h := cmdBytes_c c w1; rw [p1, p2] at h; exact h)) ?_
          refine o_yield rfl rfl rfl (y_val tok rfl) ?_
          refine o_yield rfl rfl rfl (y_val tok rfl) ?_
          refine o_yield rfl rfl rfl (y_val tok rfl) ?_
          refine o_yield rfl rfl rfl (y_val tok rfl) ?_
          refine o_yield rfl rfl rfl (y_val tok rfl) ?_
          refine o_end [1, 2, 3, 7, 8, 9, 11, 12] rfl ?_
          refine x_then ?_
          refine c_seq ?_
          refine c_region ?_
          refine o_yield rfl rfl rfl (y_val tok rfl) ?_
          refine o_call (.a (.v _)) rfl rfl fnok7 rfl rfl rfl (fun hg E w1 hm => by exact (by have h := decBytes_c (strOf (cmdL c)) (by rw [strOf_size]; simp only [maxLen]; omega) w1; rw [q1, q2] at h; exact h)) ?_
          refine o_yield rfl rfl rfl (y_val tok rfl) ?_
          refine o_yield rfl rfl rfl (y_val tok rfl) ?_
          refine o_yield rfl rfl rfl (y_val tok rfl) ?_
          refine o_yield rfl rfl rfl (y_val tok rfl) ?_
          refine o_yield rfl rfl rfl (y_val tok rfl) ?_
          refine o_end [1, 2, 3, 7, 8, 9, 12, 13, 14] rfl ?_
          refine x_then ?_
          refine c_seq ?_
          refine c_seq ?_
          refine c_region ?_
          refine o_yield rfl rfl rfl (y_val tok rfl) ?_
          refine o_yield rfl rfl rfl (y_val tok rfl) ?_
          refine o_yield rfl rfl rfl (y_val tok rfl) ?_
          refine o_yield rfl rfl rfl (y_val tok rfl) ?_
          refine o_yield rfl rfl rfl (y_val tok rfl) ?_
          refine o_yield rfl rfl rfl (y_val tok rfl) ?_
          refine o_end [1, 2, 3, 7, 8, 9, 13, 59] rfl ?_
          refine x_then ?_
          refine c_cond rfl (fun h => ?_) (fun h => ?_)
          ·
            simp at h
          ·
            clear h
            refine c_skip ?_
            refine x_then ?_
            refine c_region ?_
            refine o_yield rfl rfl rfl (y_val tok rfl) ?_
            refine o_yield rfl rfl rfl (y_val tok rfl) ?_
            refine o_end [1, 2, 3, 7, 8, 9, 10] rfl ?_
            refine x_then ?_
            refine c_seq ?_
            refine c_seq ?_
            refine c_region ?_
            refine o_yield rfl rfl rfl (y_val tok rfl) ?_
            refine o_yield rfl rfl rfl (y_val tok rfl) ?_
            refine o_yield rfl rfl rfl (y_val tok rfl) ?_
            refine o_end [1, 2, 3, 7, 8, 9, 10, 64] rfl ?_
            refine x_then ?_
            refine c_cond rfl (fun h => ?_) (fun h => ?_)
            ·
              clear h
              refine c_seq ?_
              refine c_region ?_
              refine o_yield rfl rfl rfl (y_val tok rfl) ?_
              refine o_yield rfl rfl rfl (y_val tok rfl) ?_
              refine o_yield rfl rfl rfl (y_val tok rfl) ?_
              refine o_call (.tup [.v (.agg #[.slice x1 x2 x3, .slice x4 x5 x6, .slice x7 x8 x9]), .v (I d), .v (.agg #[I8 0, I 0, I 0, I 0, I 0, I 0, I 0, I8 0]), .v (.bool false), .v (I 0)]) rfl rfl fnok8 rfl rfl rfl (fun hg E w1 hm => by exact takeN0_c W g _ t d _ hm.leV hT) ?_
              refine o_yield rfl rfl rfl (y_val tok rfl) ?_
              refine o_yield rfl rfl rfl (y_val tok rfl) ?_
              refine o_yield rfl rfl rfl (y_val tok rfl) ?_
              refine o_yield rfl rfl rfl (y_val tok rfl) ?_
              refine o_yield rfl rfl rfl (y_val tok rfl) ?_
              refine o_yield rfl rfl rfl (y_val tok rfl) ?_
              refine o_new tok rfl rfl rfl rfl ?_
              refine o_new tok rfl rfl rfl rfl ?_
              refine o_store tok rfl rfl rfl (by first | exact ⟨trivial, trivial⟩ | (repeat' first | exact trivial | exact rfl | apply And.intro); done | simp [onesP, oneP, lk, Value.oneCell']) ?_
              refine o_yield rfl rfl rfl (y_val tok rfl) ?_
              refine o_store tok rfl rfl rfl (by first | exact ⟨trivial, trivial⟩ | (repeat' first | exact trivial | exact rfl | apply And.intro); done | simp [onesP, oneP, lk, Value.oneCell']) ?_
              refine o_yield rfl rfl rfl (y_val tok rfl) ?_
              refine o_yield rfl rfl rfl (y_val tok rfl) ?_
              refine o_end [1, 2, 3, 7, 8, 9, 10, 15, 16, 18, 19] rfl ?_
              refine x_then ?_
              refine c_seq ?_
              refine c_region ?_
              refine o_yield rfl rfl rfl (y_val tok rfl) ?_
              refine o_yield rfl rfl rfl (y_val tok rfl) ?_
              refine o_yield rfl rfl rfl (y_val tok rfl) ?_
              refine o_yield rfl rfl rfl (y_val tok rfl) ?_
              refine o_yield rfl rfl rfl (y_val tok rfl) ?_
              refine o_yield rfl rfl rfl (y_val tok rfl) ?_
              refine o_yield rfl rfl rfl (y_val tok rfl) ?_
              refine o_yield rfl rfl rfl (y_val tok rfl) ?_
              refine o_yield rfl rfl rfl (y_val tok rfl) ?_
              refine o_yield rfl rfl rfl (y_val tok rfl) ?_
              refine o_yield rfl rfl rfl (y_val tok rfl) ?_
              refine o_yield rfl rfl rfl (y_val tok rfl) ?_
              refine o_yield rfl rfl rfl (y_val tok rfl) ?_
              refine o_call (.a (.v _)) rfl rfl fnok9 rfl rfl rfl (fun hg E w1 hm => by exact rSame_c W _ _ t _ hfit.1 hm.leV hT hT) ?_
              refine o_yield rfl rfl rfl (y_val tok rfl) ?_
              refine o_yield rfl rfl rfl (y_val tok rfl) ?_
              refine o_end [1, 2, 3, 7, 8, 9, 10, 90] rfl ?_
              refine x_then ?_
              refine c_cond rfl (fun h => ?_) (fun h => ?_)
              ·
                simp at h
              ·
                clear h
                refine c_skip ?_
                refine x_then ?_
                refine c_seq ?_
                refine c_region ?_
                refine o_yield rfl rfl rfl (y_val tok rfl) ?_
                refine o_yield rfl rfl rfl (y_val tok rfl) ?_
                refine o_yield rfl rfl rfl (y_val tok rfl) ?_
                refine o_yield rfl rfl rfl (y_val tok rfl) ?_
                refine o_callV (fun v V' => ∃ o, v = .tuple #[o, I ((d + 1 : Nat) : Int), c.val, .bool true, I 0] ∧ TbIs V' o (t.apply g.blocks c)) rfl rfl fnok8 rfl rfl (fun hg E w1 hm => by exact takeC_c W g _ t c hcB d (by omega) _ hfit.1 hfit.2 hm.leV hT) ?_
                rintro v7 W7 hle7 hv7
                obtain ⟨o, rfl, hTo⟩ := hv7 rfl
                obtain ⟨z1, z2, z3, z4, z5, z6, z7, z8, z9, rfl, _⟩ := id hTo
                have hs7 := hsW.mono hle7
                have hcut := hs7.cut (lo := 0) (hi := d + 1) (by omega) (by omega)
                simp only [List.drop_zero, Nat.sub_zero] at hcut
                refine o_yield rfl rfl rfl (y_val tok rfl) ?_
                refine o_yield rfl rfl rfl (y_val tok rfl) ?_
                refine o_yield rfl rfl rfl (y_val tok rfl) ?_
                refine o_yield rfl rfl rfl (y_val tok rfl) ?_
                refine o_yield rfl rfl rfl (y_val tok rfl) ?_
                refine o_yield rfl rfl rfl (y_val tok rfl) ?_
                refine o_new tok rfl rfl rfl rfl ?_
                refine o_new tok rfl rfl rfl rfl ?_
                refine o_store tok rfl rfl rfl (by first | exact ⟨trivial, trivial⟩ | (repeat' first | exact trivial | exact rfl | apply And.intro); done | simp [onesP, oneP, lk, Value.oneCell']) ?_
                refine o_yield rfl rfl rfl (y_val tok rfl) ?_
                refine o_store tok rfl rfl rfl (by first | exact ⟨trivial, trivial⟩ | (repeat' first | exact trivial | exact rfl | apply And.intro); done | simp [onesP, oneP, lk, Value.oneCell']) ?_
                refine o_yield rfl rfl rfl (y_val tok rfl) ?_
                refine o_yield rfl rfl rfl (y_val tok rfl) ?_
                refine o_end [1, 2, 3, 7, 8, 9, 20, 21, 22, 23, 24] rfl ?_
                refine x_then ?_
                refine c_seq ?_
                refine c_seq ?_
                refine c_draw mixed (by kernel_rfl) ?_
                refine d_yield rfl rfl rfl (y_val tok rfl) rfl ?_
                refine d_yield rfl rfl rfl (y_val tok rfl) rfl ?_
                refine d_yield rfl rfl rfl (y_val tok rfl) rfl ?_
                refine d_yield rfl rfl rfl (y_val tok rfl) rfl ?_
                refine d_yield rfl rfl rfl (y_val tok rfl) rfl ?_
                refine d_yield rfl rfl rfl (y_val tok rfl) rfl ?_
                refine d_yield rfl rfl rfl (y_len tok rfl (fun hg => hs7.sl)) rfl ?_
                refine d_yield rfl rfl rfl (y_val tok rfl) rfl ?_
                refine d_yield rfl rfl rfl (y_val tok rfl) rfl ?_
                refine d_yield rfl rfl rfl (y_val tok rfl) rfl ?_
                refine d_yield rfl rfl rfl (y_val tok rfl) rfl ?_
                refine d_yield rfl rfl rfl (y_val tok rfl) rfl ?_
                refine d_yield rfl rfl rfl (y_val tok rfl) rfl ?_
                refine d_yield rfl rfl rfl (y_len tok rfl (fun hg => hs7.sl)) rfl ?_
                refine d_yield rfl rfl rfl (y_val tok rfl) rfl ?_
                refine d_yield rfl rfl rfl (y_val tok rfl) rfl ?_
                refine d_yield rfl rfl rfl (y_val tok rfl) rfl ?_
                refine d_yield rfl rfl rfl (y_val tok rfl) rfl ?_
                refine d_yield rfl rfl rfl (y_val tok rfl) rfl ?_
                have hlt_c := lt_of_at h_c
                refine d_yield rfl rfl rfl (y_idx tok rfl (fun hg => hs7.sl) (fun hg => ⟨by omega, by omega⟩)) rfl ?_
                refine d_yield rfl rfl rfl (y_lel tok (d) 0 (c) rfl (fun hg => hs7) (fun hg => h_c) rfl rfl) rfl ?_
                refine d_yield rfl rfl rfl (y_seq (.bool (!(c.eqB c))) rfl (fun E w => cmdEq c c w (.inr rfl))) rfl ?_
                refine d_yield rfl rfl rfl (y_val tok rfl) rfl ?_
                refine d_yield rfl rfl rfl (y_val tok rfl) rfl ?_
                refine d_yield rfl rfl rfl (y_val tok rfl) rfl ?_
                refine d_yield rfl rfl rfl (y_val tok rfl) rfl ?_
                refine d_yield rfl rfl rfl (y_val tok rfl) rfl ?_
                refine d_yield rfl rfl rfl (y_val tok rfl) rfl ?_
                refine d_yield rfl rfl rfl (y_val tok rfl) rfl ?_
                refine d_yield rfl rfl rfl (y_val tok rfl) rfl ?_
                refine d_yield rfl rfl rfl (y_val tok rfl) rfl ?_
                refine d_yield rfl rfl rfl (y_val tok rfl) rfl ?_
                refine d_yield rfl rfl rfl (y_val tok rfl) rfl ?_
                refine d_yield rfl rfl rfl (y_len tok rfl (fun hg => hs7.sl)) rfl ?_
                refine d_yield rfl rfl rfl (y_val tok rfl) rfl ?_
                refine d_yield rfl rfl rfl (y_val tok rfl) rfl ?_
                refine d_yield rfl rfl rfl (y_val tok rfl) rfl ?_
                refine d_yield rfl rfl rfl (y_val tok rfl) rfl ?_
                refine d_yield rfl rfl rfl (y_val tok rfl) rfl ?_
                refine d_yield rfl rfl rfl (y_val tok rfl) rfl ?_
                refine d_yield rfl rfl rfl (y_val tok rfl) rfl ?_
                refine d_end [1, 2, 3, 7, 9, 20, 21, 142] rfl ?_
                refine x_then ?_
                refine c_cond rfl (fun h => ?_) (fun h => ?_)
                ·
                  exfalso
                  rw [(Cmd.eqB_iff c c).2 rfl, hwi, decide_eq_true (by omega : (d : Int) < l.length)] at h
                  simp at h
                  omega
                ·
                  clear h
                  refine c_skip ?_
                  refine x_then ?_
                  refine c_seq ?_
                  refine c_region ?_
                  refine o_yield rfl rfl rfl (y_val tok rfl) ?_
                  refine o_yield rfl rfl rfl (y_val tok rfl) ?_
                  refine o_store tok rfl rfl rfl (by first | exact ⟨trivial, trivial⟩ | (repeat' first | exact trivial | exact rfl | apply And.intro); done | simp [onesP, oneP, lk, Value.oneCell']) ?_
                  refine o_yield rfl rfl rfl (y_val tok rfl) ?_
                  refine o_end [1, 2, 3, 7, 8, 9] rfl ?_
                  refine x_then ?_
                  refine c_seq ?_
                  refine c_heldR mixed rfl (by repeat (first | exact SubO.nil | refine SubO.cons rfl ?_)) (by first | rfl | simp [okCels, allOk_plain]) ?_
                  refine t_take 0 rfl (by kernel_rfl) rfl rfl rfl (y_val tok rfl) rfl ?_
                  refine t_take 1 rfl (by kernel_rfl) rfl rfl rfl (y_val tok rfl) rfl ?_
                  refine t_take 2 rfl (by kernel_rfl) rfl rfl rfl (y_val tok rfl) rfl ?_
                  refine t_take 3 rfl (by kernel_rfl) rfl rfl rfl (y_val tok rfl) rfl ?_
                  refine t_take 4 rfl (by kernel_rfl) rfl rfl rfl (y_val tok rfl) rfl ?_
                  refine t_take 5 rfl (by kernel_rfl) rfl rfl rfl (y_val tok rfl) rfl ?_
                  refine t_take 6 rfl (by kernel_rfl) rfl rfl rfl (y_len tok rfl (fun hg => hs7.sl)) rfl ?_
                  refine t_take 7 rfl (by kernel_rfl) rfl rfl rfl (y_mm rfl) rfl ?_
                  rw [hwi, show (bif false then max (((d + 1 : Nat) : Int)) (l.length : Int) else min (((d + 1 : Nat) : Int)) (l.length : Int)) = ((d + 1 : Nat) : Int) by show min _ _ = _; omega]
                  refine t_take 8 rfl (by kernel_rfl) rfl rfl rfl (y_sl tok rfl (fun hg => hs7.sl) (fun hg => ⟨by dsimp only [Option.getD]; omega, by dsimp only [Option.getD]; omega, by dsimp only [Option.getD]; omega⟩)) rfl ?_
                  refine t_go ?_
                  refine h_one 9 (by kernel_rfl) ?_
                  refine h_callV 9 (fun v V' => TbIs V' v (t.apply g.blocks c)) rfl rfl rfl fnok5 rfl rfl (fun hg E w1 hm => by exact (by rw [hbe2]; exact behind_c W7 g _ (l.take (d + 1)) _ hm.leV hcut (by omega) hcm2)) ?_
                  rintro v8 W8 hle8 hv8
                  refine h_one 10 (by kernel_rfl) ?_
                  refine h_call 10 (.a (.v _)) rfl rfl rfl fnok9 rfl rfl rfl (fun hg E w1 hm => by exact rSame_c W8 _ _ (t.apply g.blocks c) _ (by rw [hbe2]; exact hfit2.1) hm.leV (hTo.mono hle8) (hv8 rfl)) ?_
                  refine h_one 11 (by kernel_rfl) ?_
                  refine h_yield 11 rfl rfl rfl rfl (y_val tok rfl) ?_
                  refine h_done [1, 2, 3, 7, 8, 9, 156] (by kernel_rfl) rfl ?_
                  refine x_then ?_
                  refine c_cond rfl (fun h => ?_) (fun h => ?_)
                  ·
                    simp at h
                  ·
                    refine c_skip ?_
                    refine x_block ?_
                    refine x_then ?_
                    refine c_region ?_
                    refine o_yield rfl rfl rfl (y_val tok rfl) ?_
                    refine o_yield rfl rfl rfl (y_val tok rfl) ?_
                    refine o_yield rfl rfl rfl (y_val tok rfl) ?_
                    refine o_end [1, 2, 3, 7, 8, 9] rfl ?_
                    refine x_then ?_
                    rw [hwi]
                    refine x_round ((d + 1, d + 1, _, _, _, t.apply g.blocks c, W8)) (⟨⟨by dsimp only; omega, by dsimp only; omega⟩, hle.trans (hle7.trans hle8), hTo.mono hle8, hbe2, hcm2⟩) (by first | omega | (dsimp only; omega)) (by repeat (first | exact SubF.nil | refine SubF.cons rfl ?_)) (by repeat (first | exact SubO.nil | refine SubO.cons rfl ?_)) rfl (Vw.le.refl _)
            ·
              clear h
              refine c_skip ?_
              refine x_then ?_
              refine c_seq ?_
              refine c_region ?_
              refine o_yield rfl rfl rfl (y_val tok rfl) ?_
              refine o_yield rfl rfl rfl (y_val tok rfl) ?_
              refine o_yield rfl rfl rfl (y_val tok rfl) ?_
              refine o_yield rfl rfl rfl (y_val tok rfl) ?_
              refine o_callV (fun v V' => ∃ o, v = .tuple #[o, I ((d + 1 : Nat) : Int), c.val, .bool true, I 0] ∧ TbIs V' o (t.apply g.blocks c)) rfl rfl fnok8 rfl rfl (fun hg E w1 hm => by exact takeC_c W g _ t c hcB d (by omega) _ hfit.1 hfit.2 hm.leV hT) ?_
              rintro v7 W7 hle7 hv7
              obtain ⟨o, rfl, hTo⟩ := hv7 rfl
              obtain ⟨z1, z2, z3, z4, z5, z6, z7, z8, z9, rfl, _⟩ := id hTo
              have hs7 := hsW.mono hle7
              have hcut := hs7.cut (lo := 0) (hi := d + 1) (by omega) (by omega)
              simp only [List.drop_zero, Nat.sub_zero] at hcut
              refine o_yield rfl rfl rfl (y_val tok rfl) ?_
              refine o_yield rfl rfl rfl (y_val tok rfl) ?_
              refine o_yield rfl rfl rfl (y_val tok rfl) ?_
              refine o_yield rfl rfl rfl (y_val tok rfl) ?_
              refine o_yield rfl rfl rfl (y_val tok rfl) ?_
              refine o_yield rfl rfl rfl (y_val tok rfl) ?_
              refine o_new tok rfl rfl rfl rfl ?_
              refine o_new tok rfl rfl rfl rfl ?_
              refine o_store tok rfl rfl rfl (by first | exact ⟨trivial, trivial⟩ | (repeat' first | exact trivial | exact rfl | apply And.intro); done | simp [onesP, oneP, lk, Value.oneCell']) ?_
              refine o_yield rfl rfl rfl (y_val tok rfl) ?_
              refine o_store tok rfl rfl rfl (by first | exact ⟨trivial, trivial⟩ | (repeat' first | exact trivial | exact rfl | apply And.intro); done | simp [onesP, oneP, lk, Value.oneCell']) ?_
              refine o_yield rfl rfl rfl (y_val tok rfl) ?_
              refine o_yield rfl rfl rfl (y_val tok rfl) ?_
              refine o_end [1, 2, 3, 7, 8, 9, 20, 21, 22, 23, 24] rfl ?_
              refine x_then ?_
              refine c_seq ?_
              refine c_seq ?_
              refine c_draw mixed (by kernel_rfl) ?_
              refine d_yield rfl rfl rfl (y_val tok rfl) rfl ?_
              refine d_yield rfl rfl rfl (y_val tok rfl) rfl ?_
              refine d_yield rfl rfl rfl (y_val tok rfl) rfl ?_
              refine d_yield rfl rfl rfl (y_val tok rfl) rfl ?_
              refine d_yield rfl rfl rfl (y_val tok rfl) rfl ?_
              refine d_yield rfl rfl rfl (y_val tok rfl) rfl ?_
              refine d_yield rfl rfl rfl (y_len tok rfl (fun hg => hs7.sl)) rfl ?_
              refine d_yield rfl rfl rfl (y_val tok rfl) rfl ?_
              refine d_yield rfl rfl rfl (y_val tok rfl) rfl ?_
              refine d_yield rfl rfl rfl (y_val tok rfl) rfl ?_
              refine d_yield rfl rfl rfl (y_val tok rfl) rfl ?_
              refine d_yield rfl rfl rfl (y_val tok rfl) rfl ?_
              refine d_yield rfl rfl rfl (y_val tok rfl) rfl ?_
              refine d_yield rfl rfl rfl (y_len tok rfl (fun hg => hs7.sl)) rfl ?_
              refine d_yield rfl rfl rfl (y_val tok rfl) rfl ?_
              refine d_yield rfl rfl rfl (y_val tok rfl) rfl ?_
              refine d_yield rfl rfl rfl (y_val tok rfl) rfl ?_
              refine d_yield rfl rfl rfl (y_val tok rfl) rfl ?_
              refine d_yield rfl rfl rfl (y_val tok rfl) rfl ?_
              have hlt_c := lt_of_at h_c
              refine d_yield rfl rfl rfl (y_idx tok rfl (fun hg => hs7.sl) (fun hg => ⟨by omega, by omega⟩)) rfl ?_
              refine d_yield rfl rfl rfl (y_lel tok (d) 0 (c) rfl (fun hg => hs7) (fun hg => h_c) rfl rfl) rfl ?_
              refine d_yield rfl rfl rfl (y_seq (.bool (!(c.eqB c))) rfl (fun E w => cmdEq c c w (.inr rfl))) rfl ?_
              refine d_yield rfl rfl rfl (y_val tok rfl) rfl ?_
              refine d_yield rfl rfl rfl (y_val tok rfl) rfl ?_
              refine d_yield rfl rfl rfl (y_val tok rfl) rfl ?_
              refine d_yield rfl rfl rfl (y_val tok rfl) rfl ?_
              refine d_yield rfl rfl rfl (y_val tok rfl) rfl ?_
              refine d_yield rfl rfl rfl (y_val tok rfl) rfl ?_
              refine d_yield rfl rfl rfl (y_val tok rfl) rfl ?_
              refine d_yield rfl rfl rfl (y_val tok rfl) rfl ?_
              refine d_yield rfl rfl rfl (y_val tok rfl) rfl ?_
              refine d_yield rfl rfl rfl (y_val tok rfl) rfl ?_
              refine d_yield rfl rfl rfl (y_val tok rfl) rfl ?_
              refine d_yield rfl rfl rfl (y_len tok rfl (fun hg => hs7.sl)) rfl ?_
              refine d_yield rfl rfl rfl (y_val tok rfl) rfl ?_
              refine d_yield rfl rfl rfl (y_val tok rfl) rfl ?_
              refine d_yield rfl rfl rfl (y_val tok rfl) rfl ?_
              refine d_yield rfl rfl rfl (y_val tok rfl) rfl ?_
              refine d_yield rfl rfl rfl (y_val tok rfl) rfl ?_
              refine d_yield rfl rfl rfl (y_val tok rfl) rfl ?_
              refine d_yield rfl rfl rfl (y_val tok rfl) rfl ?_
              refine d_end [1, 2, 3, 7, 9, 20, 21, 142] rfl ?_
              refine x_then ?_
              refine c_cond rfl (fun h => ?_) (fun h => ?_)
              ·
                exfalso
                rw [(Cmd.eqB_iff c c).2 rfl, hwi, decide_eq_true (by omega : (d : Int) < l.length)] at h
                simp at h
                omega
              ·
                clear h
                refine c_skip ?_
                refine x_then ?_
                refine c_seq ?_
                refine c_region ?_
                refine o_yield rfl rfl rfl (y_val tok rfl) ?_
                refine o_yield rfl rfl rfl (y_val tok rfl) ?_
                refine o_store tok rfl rfl rfl (by first | exact ⟨trivial, trivial⟩ | (repeat' first | exact trivial | exact rfl | apply And.intro); done | simp [onesP, oneP, lk, Value.oneCell']) ?_
                refine o_yield rfl rfl rfl (y_val tok rfl) ?_
                refine o_end [1, 2, 3, 7, 8, 9] rfl ?_
                refine x_then ?_
                refine c_seq ?_
                refine c_heldR mixed rfl (by repeat (first | exact SubO.nil | refine SubO.cons rfl ?_)) (by first | rfl | simp [okCels, allOk_plain]) ?_
                refine t_take 0 rfl (by kernel_rfl) rfl rfl rfl (y_val tok rfl) rfl ?_
                refine t_take 1 rfl (by kernel_rfl) rfl rfl rfl (y_val tok rfl) rfl ?_
                refine t_take 2 rfl (by kernel_rfl) rfl rfl rfl (y_val tok rfl) rfl ?_
                refine t_take 3 rfl (by kernel_rfl) rfl rfl rfl (y_val tok rfl) rfl ?_
                refine t_take 4 rfl (by kernel_rfl) rfl rfl rfl (y_val tok rfl) rfl ?_
                refine t_take 5 rfl (by kernel_rfl) rfl rfl rfl (y_val tok rfl) rfl ?_
                refine t_take 6 rfl (by kernel_rfl) rfl rfl rfl (y_len tok rfl (fun hg => hs7.sl)) rfl ?_
                refine t_take 7 rfl (by kernel_rfl) rfl rfl rfl (y_mm rfl) rfl ?_
                rw [hwi, show (bif false then max (((d + 1 : Nat) : Int)) (l.length : Int) else min (((d + 1 : Nat) : Int)) (l.length : Int)) = ((d + 1 : Nat) : Int) by show min _ _ = _; omega]
                refine t_take 8 rfl (by kernel_rfl) rfl rfl rfl (y_sl tok rfl (fun hg => hs7.sl) (fun hg => ⟨by dsimp only [Option.getD]; omega, by dsimp only [Option.getD]; omega, by dsimp only [Option.getD]; omega⟩)) rfl ?_
                refine t_go ?_
                refine h_one 9 (by kernel_rfl) ?_
                refine h_callV 9 (fun v V' => TbIs V' v (t.apply g.blocks c)) rfl rfl rfl fnok5 rfl rfl (fun hg E w1 hm => by exact (by rw [hbe2]; exact behind_c W7 g _ (l.take (d + 1)) _ hm.leV hcut (by omega) hcm2)) ?_
                rintro v8 W8 hle8 hv8
                refine h_one 10 (by kernel_rfl) ?_
                refine h_call 10 (.a (.v _)) rfl rfl rfl fnok9 rfl rfl rfl (fun hg E w1 hm => by exact rSame_c W8 _ _ (t.apply g.blocks c) _ (by rw [hbe2]; exact hfit2.1) hm.leV (hTo.mono hle8) (hv8 rfl)) ?_
                refine h_one 11 (by kernel_rfl) ?_
                refine h_yield 11 rfl rfl rfl rfl (y_val tok rfl) ?_
                refine h_done [1, 2, 3, 7, 8, 9, 156] (by kernel_rfl) rfl ?_
                refine x_then ?_
                refine c_cond rfl (fun h => ?_) (fun h => ?_)
                ·
                  simp at h
                ·
                  refine c_skip ?_
                  refine x_block ?_
                  refine x_then ?_
                  refine c_region ?_
                  refine o_yield rfl rfl rfl (y_val tok rfl) ?_
                  refine o_yield rfl rfl rfl (y_val tok rfl) ?_
                  refine o_yield rfl rfl rfl (y_val tok rfl) ?_
                  refine o_end [1, 2, 3, 7, 8, 9] rfl ?_
                  refine x_then ?_
                  rw [hwi]
                  refine x_round ((d + 1, d + 1, _, _, _, t.apply g.blocks c, W8)) (⟨⟨by dsimp only; omega, by dsimp only; omega⟩, hle.trans (hle7.trans hle8), hTo.mono hle8, hbe2, hcm2⟩) (by first | omega | (dsimp only; omega)) (by repeat (first | exact SubF.nil | refine SubF.cons rfl ?_)) (by repeat (first | exact SubO.nil | refine SubO.cons rfl ?_)) rfl (Vw.le.refl _)
        · have p2 : cbE c = 2 := by rw [cbE, if_neg hcB]
          refine o_call (.a (.v _)) rfl rfl fnok6 rfl rfl rfl (fun hg E w1 hm => by exact (by have h := cmdBytes_c c w1; rw [p2] at h; exact h)) ?_
          refine o_yield rfl rfl rfl (y_val tok rfl) ?_
          refine o_yield rfl rfl rfl (y_val tok rfl) ?_
          refine o_yield rfl rfl rfl (y_val tok rfl) ?_
          refine o_yield rfl rfl rfl (y_val tok rfl) ?_
          refine o_yield rfl rfl rfl (y_val tok rfl) ?_
          refine o_end [1, 2, 3, 7, 8, 9, 11, 12] rfl ?_
          refine x_then ?_
          refine c_seq ?_
          refine c_region ?_
          refine o_yield rfl rfl rfl (y_val tok rfl) ?_
          refine o_call (.a (.v _)) rfl rfl fnok7 rfl rfl rfl (fun hg E w1 hm => by exact decBytes_c (cbV c) (by rw [cbV, if_neg hcB]; decide) _) ?_
          refine o_yield rfl rfl rfl (y_val tok rfl) ?_
          refine o_yield rfl rfl rfl (y_val tok rfl) ?_
          refine o_yield rfl rfl rfl (y_val tok rfl) ?_
          refine o_yield rfl rfl rfl (y_val tok rfl) ?_
          refine o_yield rfl rfl rfl (y_val tok rfl) ?_
          refine o_end [1, 2, 3, 7, 8, 9, 12, 13, 14] rfl ?_
          refine x_then ?_
          refine c_seq ?_
          refine c_seq ?_
          refine c_region ?_
          refine o_yield rfl rfl rfl (y_val tok rfl) ?_
          refine o_yield rfl rfl rfl (y_val tok rfl) ?_
          refine o_yield rfl rfl rfl (y_val tok rfl) ?_
          refine o_yield rfl rfl rfl (y_val tok rfl) ?_
          refine o_yield rfl rfl rfl (y_val tok rfl) ?_
          refine o_yield rfl rfl rfl (y_val tok rfl) ?_
          refine o_end [1, 2, 3, 7, 8, 9, 13, 59] rfl ?_
          refine x_then ?_
          refine c_cond rfl (fun h => ?_) (fun h => ?_)
          ·
            refine c_seq ?_
            refine c_region ?_
            refine o_call (.a (.v _)) rfl rfl fnok4 rfl rfl rfl (fun hg E w1 hm => by exact wakes14_c _) ?_
            refine o_yield rfl rfl rfl (y_val tok rfl) ?_
            refine o_end [6] rfl ?_
            refine x_then ?_
            refine c_ret ?_
            refine x_then_ret ?_
            refine x_then_ret ?_
            refine x_block_ret ?_
            refine x_then_ret ?_
            refine x_then_ret ?_
            refine x_block_ret ?_
            refine x_then_ret ?_
            refine b_ret tok rfl ?_
            intro E w' hm _
            refine ⟨?_, hm.below (hle)⟩
            rfl
          ·
            simp at h
      ·
        simp only [Bool.and_eq_true, Bool.or_eq_true, Bool.not_eq_true', Bool.or_eq_false_iff, Bool.and_eq_false_iff, decide_eq_true_eq, decide_eq_false_iff_not, beq_iff_eq, bne_iff_ne, Bool.not_eq_false', beq_eq_false_iff_ne, bne_eq_false_iff_eq, ne_eq, Decidable.not_not, Int.not_lt, Int.not_le] at h
        have hli : i = l.length := by omega
        have hdl : d = l.length := by omega
        subst hli hdl
        clear h
        refine c_skip ?_
        refine x_then ?_
        refine c_seq ?_
        refine c_seq ?_
        refine c_region ?_
        refine o_yield rfl rfl rfl (y_val tok rfl) ?_
        refine o_yield rfl rfl rfl (y_val tok rfl) ?_
        refine o_yield rfl rfl rfl (y_val tok rfl) ?_
        refine o_end [1, 2, 3, 7, 8, 9, 10, 64] rfl ?_
        refine x_then ?_
        refine c_cond rfl (fun h => ?_) (fun h => ?_)
        ·
          clear h
          refine c_seq ?_
          refine c_region ?_
          refine o_yield rfl rfl rfl (y_val tok rfl) ?_
          refine o_yield rfl rfl rfl (y_val tok rfl) ?_
          refine o_yield rfl rfl rfl (y_val tok rfl) ?_
          refine o_call (.tup [.v (.agg #[.slice x1 x2 x3, .slice x4 x5 x6, .slice x7 x8 x9]), .v (I l.length), .v (.agg #[I8 0, I 0, I 0, I 0, I 0, I 0, I 0, I8 0]), .v (.bool false), .v (I 0)]) rfl rfl fnok8 rfl rfl rfl (fun hg E w1 hm => by exact takeN0_c W g _ t l.length _ hm.leV hT) ?_
          refine o_yield rfl rfl rfl (y_val tok rfl) ?_
          refine o_yield rfl rfl rfl (y_val tok rfl) ?_
          refine o_yield rfl rfl rfl (y_val tok rfl) ?_
          refine o_yield rfl rfl rfl (y_val tok rfl) ?_
          refine o_yield rfl rfl rfl (y_val tok rfl) ?_
          refine o_yield rfl rfl rfl (y_val tok rfl) ?_
          refine o_new tok rfl rfl rfl rfl ?_
          refine o_new tok rfl rfl rfl rfl ?_
          refine o_store tok rfl rfl rfl (by first | exact ⟨trivial, trivial⟩ | (repeat' first | exact trivial | exact rfl | apply And.intro); done | simp [onesP, oneP, lk, Value.oneCell']) ?_
          refine o_yield rfl rfl rfl (y_val tok rfl) ?_
          refine o_store tok rfl rfl rfl (by first | exact ⟨trivial, trivial⟩ | (repeat' first | exact trivial | exact rfl | apply And.intro); done | simp [onesP, oneP, lk, Value.oneCell']) ?_
          refine o_yield rfl rfl rfl (y_val tok rfl) ?_
          refine o_yield rfl rfl rfl (y_val tok rfl) ?_
          refine o_end [1, 2, 3, 7, 8, 9, 10, 15, 16, 18, 19] rfl ?_
          refine x_then ?_
          refine c_seq ?_
          refine c_region ?_
          refine o_yield rfl rfl rfl (y_val tok rfl) ?_
          refine o_yield rfl rfl rfl (y_val tok rfl) ?_
          refine o_yield rfl rfl rfl (y_val tok rfl) ?_
          refine o_yield rfl rfl rfl (y_val tok rfl) ?_
          refine o_yield rfl rfl rfl (y_val tok rfl) ?_
          refine o_yield rfl rfl rfl (y_val tok rfl) ?_
          refine o_yield rfl rfl rfl (y_val tok rfl) ?_
          refine o_yield rfl rfl rfl (y_val tok rfl) ?_
          refine o_yield rfl rfl rfl (y_val tok rfl) ?_
          refine o_yield rfl rfl rfl (y_val tok rfl) ?_
          refine o_yield rfl rfl rfl (y_val tok rfl) ?_
          refine o_yield rfl rfl rfl (y_val tok rfl) ?_
          refine o_yield rfl rfl rfl (y_val tok rfl) ?_
          refine o_call (.a (.v _)) rfl rfl fnok9 rfl rfl rfl (fun hg E w1 hm => by exact rSame_c W _ _ t _ hfit.1 hm.leV hT hT) ?_
          refine o_yield rfl rfl rfl (y_val tok rfl) ?_
          refine o_yield rfl rfl rfl (y_val tok rfl) ?_
          refine o_end [1, 2, 3, 7, 8, 9, 10, 90] rfl ?_
          refine x_then ?_
          refine c_cond rfl (fun h => ?_) (fun h => ?_)
          ·
            simp at h
          ·
            clear h
            refine c_skip ?_
            refine x_then ?_
            refine c_seq ?_
            refine c_region ?_
            refine o_yield rfl rfl rfl (y_val tok rfl) ?_
            refine o_yield rfl rfl rfl (y_val tok rfl) ?_
            refine o_yield rfl rfl rfl (y_val tok rfl) ?_
            refine o_yield rfl rfl rfl (y_val tok rfl) ?_
            refine o_call (.tup [.v (.agg #[.slice x1 x2 x3, .slice x4 x5 x6, .slice x7 x8 x9]), .v (I l.length), .v (.agg #[I8 0, I 0, I 0, I 0, I 0, I 0, I 0, I8 0]), .v (.bool false), .v (I 0)]) rfl rfl fnok8 rfl rfl rfl (fun hg E w1 hm => by exact takeN0_c W g _ t l.length _ hm.leV hT) ?_
            refine o_yield rfl rfl rfl (y_val tok rfl) ?_
            refine o_yield rfl rfl rfl (y_val tok rfl) ?_
            refine o_yield rfl rfl rfl (y_val tok rfl) ?_
            refine o_yield rfl rfl rfl (y_val tok rfl) ?_
            refine o_yield rfl rfl rfl (y_val tok rfl) ?_
            refine o_yield rfl rfl rfl (y_val tok rfl) ?_
            refine o_new tok rfl rfl rfl rfl ?_
            refine o_new tok rfl rfl rfl rfl ?_
            refine o_store tok rfl rfl rfl (by first | exact ⟨trivial, trivial⟩ | (repeat' first | exact trivial | exact rfl | apply And.intro); done | simp [onesP, oneP, lk, Value.oneCell']) ?_
            refine o_yield rfl rfl rfl (y_val tok rfl) ?_
            refine o_store tok rfl rfl rfl (by first | exact ⟨trivial, trivial⟩ | (repeat' first | exact trivial | exact rfl | apply And.intro); done | simp [onesP, oneP, lk, Value.oneCell']) ?_
            refine o_yield rfl rfl rfl (y_val tok rfl) ?_
            refine o_yield rfl rfl rfl (y_val tok rfl) ?_
            refine o_end [1, 2, 3, 7, 8, 9, 20, 21, 22, 23, 24] rfl ?_
            refine x_then ?_
            refine c_seq ?_
            refine c_seq ?_
            refine c_draw mixed (by kernel_rfl) ?_
            refine d_yield rfl rfl rfl (y_val tok rfl) rfl ?_
            refine d_yield rfl rfl rfl (y_val tok rfl) rfl ?_
            refine d_yield rfl rfl rfl (y_val tok rfl) rfl ?_
            refine d_yield rfl rfl rfl (y_val tok rfl) rfl ?_
            refine d_yield rfl rfl rfl (y_val tok rfl) rfl ?_
            refine d_yield rfl rfl rfl (y_val tok rfl) rfl ?_
            have hcut := hsW.cut (lo := 0) (hi := l.length) (by omega) (by omega)
            simp only [List.drop_zero, Nat.sub_zero] at hcut
            refine d_yield rfl rfl rfl (y_len tok rfl (fun hg => hsW.sl)) rfl ?_
            refine d_yield rfl rfl rfl (y_val tok rfl) rfl ?_
            refine d_yield rfl rfl rfl (y_val tok rfl) rfl ?_
            refine d_yield rfl rfl rfl (y_val tok rfl) rfl ?_
            refine d_yield rfl rfl rfl (y_val tok rfl) rfl ?_
            refine d_yield rfl rfl rfl (y_val tok rfl) rfl ?_
            refine d_yield rfl rfl rfl (y_val tok rfl) rfl ?_
            refine d_yield rfl rfl rfl (y_len tok rfl (fun hg => hsW.sl)) rfl ?_
            refine d_yield rfl rfl rfl (y_val tok rfl) rfl ?_
            refine d_yield rfl rfl rfl (y_val tok rfl) rfl ?_
            refine d_yield rfl rfl rfl (y_val tok rfl) rfl ?_
            refine d_yield rfl rfl rfl (y_val tok rfl) rfl ?_
            refine d_yield rfl rfl rfl (y_val tok rfl) rfl ?_
            refine d_yield rfl rfl rfl (y_idx tok rfl (fun hg => hsW.sl) (fun hg => by simp at hg)) rfl ?_
            refine d_yield rfl rfl rfl ((show Yld _ _ _ _ _ _ _ _ _ _ (.a (.v cmd0.val)) from fun hgt => by simp at hgt)) rfl ?_
            refine d_yield rfl rfl rfl (y_seq (.bool (!(cmd0.eqB cmd0))) rfl (fun E w => cmdEq cmd0 cmd0 w (.inr rfl))) rfl ?_
            refine d_yield rfl rfl rfl (y_val tok rfl) rfl ?_
            refine d_yield rfl rfl rfl (y_val tok rfl) rfl ?_
            refine d_yield rfl rfl rfl (y_val tok rfl) rfl ?_
            refine d_yield rfl rfl rfl (y_val tok rfl) rfl ?_
            refine d_yield rfl rfl rfl (y_val tok rfl) rfl ?_
            refine d_yield rfl rfl rfl (y_val tok rfl) rfl ?_
            refine d_yield rfl rfl rfl (y_val tok rfl) rfl ?_
            refine d_yield rfl rfl rfl (y_val tok rfl) rfl ?_
            refine d_yield rfl rfl rfl (y_val tok rfl) rfl ?_
            refine d_yield rfl rfl rfl (y_val tok rfl) rfl ?_
            refine d_yield rfl rfl rfl (y_val tok rfl) rfl ?_
            refine d_yield rfl rfl rfl (y_len tok rfl (fun hg => hsW.sl)) rfl ?_
            refine d_yield rfl rfl rfl (y_val tok rfl) rfl ?_
            refine d_yield rfl rfl rfl (y_val tok rfl) rfl ?_
            refine d_yield rfl rfl rfl (y_val tok rfl) rfl ?_
            refine d_yield rfl rfl rfl (y_val tok rfl) rfl ?_
            refine d_yield rfl rfl rfl (y_val tok rfl) rfl ?_
            refine d_yield rfl rfl rfl (y_val tok rfl) rfl ?_
            refine d_yield rfl rfl rfl (y_val tok rfl) rfl ?_
            refine d_end [1, 2, 3, 7, 9, 20, 21, 142] rfl ?_
            refine x_then ?_
            refine c_cond rfl (fun h => ?_) (fun h => ?_)
            ·
              exfalso
              simp at h
            ·
              clear h
              refine c_skip ?_
              refine x_then ?_
              refine c_seq ?_
              refine c_region ?_
              refine o_yield rfl rfl rfl (y_val tok rfl) ?_
              refine o_yield rfl rfl rfl (y_val tok rfl) ?_
              refine o_store tok rfl rfl rfl (by first | exact ⟨trivial, trivial⟩ | (repeat' first | exact trivial | exact rfl | apply And.intro); done | simp [onesP, oneP, lk, Value.oneCell']) ?_
              refine o_yield rfl rfl rfl (y_val tok rfl) ?_
              refine o_end [1, 2, 3, 7, 8, 9] rfl ?_
              refine x_then ?_
              refine c_seq ?_
              refine c_heldR mixed rfl (by repeat (first | exact SubO.nil | refine SubO.cons rfl ?_)) (by first | rfl | simp [okCels, allOk_plain]) ?_
              refine t_take 0 rfl (by kernel_rfl) rfl rfl rfl (y_val tok rfl) rfl ?_
              refine t_take 1 rfl (by kernel_rfl) rfl rfl rfl (y_val tok rfl) rfl ?_
              refine t_take 2 rfl (by kernel_rfl) rfl rfl rfl (y_val tok rfl) rfl ?_
              refine t_take 3 rfl (by kernel_rfl) rfl rfl rfl (y_val tok rfl) rfl ?_
              refine t_take 4 rfl (by kernel_rfl) rfl rfl rfl (y_val tok rfl) rfl ?_
              refine t_take 5 rfl (by kernel_rfl) rfl rfl rfl (y_val tok rfl) rfl ?_
              refine t_take 6 rfl (by kernel_rfl) rfl rfl rfl (y_len tok rfl (fun hg => hsW.sl)) rfl ?_
              refine t_take 7 rfl (by kernel_rfl) rfl rfl rfl (y_mm rfl) rfl ?_
              rw [hwi, show (bif false then max (((l.length + 1 : Nat) : Int)) (l.length : Int) else min (((l.length + 1 : Nat) : Int)) (l.length : Int)) = ((l.length : Nat) : Int) by show min _ _ = _; omega]
              refine t_take 8 rfl (by kernel_rfl) rfl rfl rfl (y_sl tok rfl (fun hg => hsW.sl) (fun hg => ⟨by dsimp only [Option.getD]; omega, by dsimp only [Option.getD]; omega, by dsimp only [Option.getD]; omega⟩)) rfl ?_
              refine t_go ?_
              refine h_one 9 (by kernel_rfl) ?_
              refine h_callV 9 (fun v V' => TbIs V' v t) rfl rfl rfl fnok5 rfl rfl (fun hg E w1 hm => by exact (by rw [hbe]; exact behind_c W g _ (l.take l.length) _ hm.leV hcut (by omega) hcm)) ?_
              rintro v8 W8 hle8 hv8
              refine h_one 10 (by kernel_rfl) ?_
              refine h_call 10 (.a (.v _)) rfl rfl rfl fnok9 rfl rfl rfl (fun hg E w1 hm => by exact rSame_c W8 _ _ t _ hfit.1 hm.leV (hT.mono hle8) (hv8 rfl)) ?_
              refine h_one 11 (by kernel_rfl) ?_
              refine h_yield 11 rfl rfl rfl rfl (y_val tok rfl) ?_
              refine h_done [1, 2, 3, 7, 8, 9, 156] (by kernel_rfl) rfl ?_
              refine x_then ?_
              refine c_cond rfl (fun h => ?_) (fun h => ?_)
              ·
                simp at h
              ·
                refine c_skip ?_
                refine x_block ?_
                refine x_then ?_
                refine c_region ?_
                refine o_yield rfl rfl rfl (y_val tok rfl) ?_
                refine o_yield rfl rfl rfl (y_val tok rfl) ?_
                refine o_yield rfl rfl rfl (y_val tok rfl) ?_
                refine o_end [1, 2, 3, 7, 8, 9] rfl ?_
                refine x_then ?_
                rw [hwi]
                refine x_round ((l.length + 1, l.length, _, _, _, t, W8)) (⟨⟨by dsimp only; omega, by dsimp only; omega⟩, hle.trans hle8, hT.mono hle8, by rw [hbe, List.take_length, List.take_of_length_le (by omega)], by rw [List.take_of_length_le (by omega)]; rwa [List.take_length] at hcm⟩) (by first | omega | (dsimp only; omega)) (by repeat (first | exact SubF.nil | refine SubF.cons rfl ?_)) (by repeat (first | exact SubO.nil | refine SubO.cons rfl ?_)) rfl (Vw.le.refl _)
        ·
          clear h
          refine c_skip ?_
          refine x_then ?_
          refine c_seq ?_
          refine c_region ?_
          refine o_yield rfl rfl rfl (y_val tok rfl) ?_
          refine o_yield rfl rfl rfl (y_val tok rfl) ?_
          refine o_yield rfl rfl rfl (y_val tok rfl) ?_
          refine o_yield rfl rfl rfl (y_val tok rfl) ?_
          refine o_call (.tup [.v (.agg #[.slice x1 x2 x3, .slice x4 x5 x6, .slice x7 x8 x9]), .v (I l.length), .v (.agg #[I8 0, I 0, I 0, I 0, I 0, I 0, I 0, I8 0]), .v (.bool false), .v (I 0)]) rfl rfl fnok8 rfl rfl rfl (fun hg E w1 hm => by exact takeN0_c W g _ t l.length _ hm.leV hT) ?_
          refine o_yield rfl rfl rfl (y_val tok rfl) ?_
          refine o_yield rfl rfl rfl (y_val tok rfl) ?_
          refine o_yield rfl rfl rfl (y_val tok rfl) ?_
          refine o_yield rfl rfl rfl (y_val tok rfl) ?_
          refine o_yield rfl rfl rfl (y_val tok rfl) ?_
          refine o_yield rfl rfl rfl (y_val tok rfl) ?_
          refine o_new tok rfl rfl rfl rfl ?_
          refine o_new tok rfl rfl rfl rfl ?_
          refine o_store tok rfl rfl rfl (by first | exact ⟨trivial, trivial⟩ | (repeat' first | exact trivial | exact rfl | apply And.intro); done | simp [onesP, oneP, lk, Value.oneCell']) ?_
          refine o_yield rfl rfl rfl (y_val tok rfl) ?_
          refine o_store tok rfl rfl rfl (by first | exact ⟨trivial, trivial⟩ | (repeat' first | exact trivial | exact rfl | apply And.intro); done | simp [onesP, oneP, lk, Value.oneCell']) ?_
          refine o_yield rfl rfl rfl (y_val tok rfl) ?_
          refine o_yield rfl rfl rfl (y_val tok rfl) ?_
          refine o_end [1, 2, 3, 7, 8, 9, 20, 21, 22, 23, 24] rfl ?_
          refine x_then ?_
          refine c_seq ?_
          refine c_seq ?_
          refine c_draw mixed (by kernel_rfl) ?_
          refine d_yield rfl rfl rfl (y_val tok rfl) rfl ?_
          refine d_yield rfl rfl rfl (y_val tok rfl) rfl ?_
          refine d_yield rfl rfl rfl (y_val tok rfl) rfl ?_
          refine d_yield rfl rfl rfl (y_val tok rfl) rfl ?_
          refine d_yield rfl rfl rfl (y_val tok rfl) rfl ?_
          refine d_yield rfl rfl rfl (y_val tok rfl) rfl ?_
          have hcut := hsW.cut (lo := 0) (hi := l.length) (by omega) (by omega)
          simp only [List.drop_zero, Nat.sub_zero] at hcut
          refine d_yield rfl rfl rfl (y_len tok rfl (fun hg => hsW.sl)) rfl ?_
          refine d_yield rfl rfl rfl (y_val tok rfl) rfl ?_
          refine d_yield rfl rfl rfl (y_val tok rfl) rfl ?_
          refine d_yield rfl rfl rfl (y_val tok rfl) rfl ?_
          refine d_yield rfl rfl rfl (y_val tok rfl) rfl ?_
          refine d_yield rfl rfl rfl (y_val tok rfl) rfl ?_
          refine d_yield rfl rfl rfl (y_val tok rfl) rfl ?_
          refine d_yield rfl rfl rfl (y_len tok rfl (fun hg => hsW.sl)) rfl ?_
          refine d_yield rfl rfl rfl (y_val tok rfl) rfl ?_
          refine d_yield rfl rfl rfl (y_val tok rfl) rfl ?_
          refine d_yield rfl rfl rfl (y_val tok rfl) rfl ?_
          refine d_yield rfl rfl rfl (y_val tok rfl) rfl ?_
          refine d_yield rfl rfl rfl (y_val tok rfl) rfl ?_
          refine d_yield rfl rfl rfl (y_idx tok rfl (fun hg => hsW.sl) (fun hg => by simp at hg)) rfl ?_
          refine d_yield rfl rfl rfl ((show Yld _ _ _ _ _ _ _ _ _ _ (.a (.v cmd0.val)) from fun hgt => by simp at hgt)) rfl ?_
          refine d_yield rfl rfl rfl (y_seq (.bool (!(cmd0.eqB cmd0))) rfl (fun E w => cmdEq cmd0 cmd0 w (.inr rfl))) rfl ?_
          refine d_yield rfl rfl rfl (y_val tok rfl) rfl ?_
          refine d_yield rfl rfl rfl (y_val tok rfl) rfl ?_
          refine d_yield rfl rfl rfl (y_val tok rfl) rfl ?_
          refine d_yield rfl rfl rfl (y_val tok rfl) rfl ?_
          refine d_yield rfl rfl rfl (y_val tok rfl) rfl ?_
          refine d_yield rfl rfl rfl (y_val tok rfl) rfl ?_
          refine d_yield rfl rfl rfl (y_val tok rfl) rfl ?_
          refine d_yield rfl rfl rfl (y_val tok rfl) rfl ?_
          refine d_yield rfl rfl rfl (y_val tok rfl) rfl ?_
          refine d_yield rfl rfl rfl (y_val tok rfl) rfl ?_
          refine d_yield rfl rfl rfl (y_val tok rfl) rfl ?_
          refine d_yield rfl rfl rfl (y_len tok rfl (fun hg => hsW.sl)) rfl ?_
          refine d_yield rfl rfl rfl (y_val tok rfl) rfl ?_
          refine d_yield rfl rfl rfl (y_val tok rfl) rfl ?_
          refine d_yield rfl rfl rfl (y_val tok rfl) rfl ?_
          refine d_yield rfl rfl rfl (y_val tok rfl) rfl ?_
          refine d_yield rfl rfl rfl (y_val tok rfl) rfl ?_
          refine d_yield rfl rfl rfl (y_val tok rfl) rfl ?_
          refine d_yield rfl rfl rfl (y_val tok rfl) rfl ?_
          refine d_end [1, 2, 3, 7, 9, 20, 21, 142] rfl ?_
          refine x_then ?_
          refine c_cond rfl (fun h => ?_) (fun h => ?_)
          ·
            exfalso
            simp at h
          ·
            clear h
            refine c_skip ?_
            refine x_then ?_
            refine c_seq ?_
            refine c_region ?_
            refine o_yield rfl rfl rfl (y_val tok rfl) ?_
            refine o_yield rfl rfl rfl (y_val tok rfl) ?_
            refine o_store tok rfl rfl rfl (by first | exact ⟨trivial, trivial⟩ | (repeat' first | exact trivial | exact rfl | apply And.intro); done | simp [onesP, oneP, lk, Value.oneCell']) ?_
            refine o_yield rfl rfl rfl (y_val tok rfl) ?_
            refine o_end [1, 2, 3, 7, 8, 9] rfl ?_
            refine x_then ?_
            refine c_seq ?_
            refine c_heldR mixed rfl (by repeat (first | exact SubO.nil | refine SubO.cons rfl ?_)) (by first | rfl | simp [okCels, allOk_plain]) ?_
            refine t_take 0 rfl (by kernel_rfl) rfl rfl rfl (y_val tok rfl) rfl ?_
            refine t_take 1 rfl (by kernel_rfl) rfl rfl rfl (y_val tok rfl) rfl ?_
            refine t_take 2 rfl (by kernel_rfl) rfl rfl rfl (y_val tok rfl) rfl ?_
            refine t_take 3 rfl (by kernel_rfl) rfl rfl rfl (y_val tok rfl) rfl ?_
            refine t_take 4 rfl (by kernel_rfl) rfl rfl rfl (y_val tok rfl) rfl ?_
            refine t_take 5 rfl (by kernel_rfl) rfl rfl rfl (y_val tok rfl) rfl ?_
            refine t_take 6 rfl (by kernel_rfl) rfl rfl rfl (y_len tok rfl (fun hg => hsW.sl)) rfl ?_
            refine t_take 7 rfl (by kernel_rfl) rfl rfl rfl (y_mm rfl) rfl ?_
            rw [hwi, show (bif false then max (((l.length + 1 : Nat) : Int)) (l.length : Int) else min (((l.length + 1 : Nat) : Int)) (l.length : Int)) = ((l.length : Nat) : Int) by show min _ _ = _; omega]
            refine t_take 8 rfl (by kernel_rfl) rfl rfl rfl (y_sl tok rfl (fun hg => hsW.sl) (fun hg => ⟨by dsimp only [Option.getD]; omega, by dsimp only [Option.getD]; omega, by dsimp only [Option.getD]; omega⟩)) rfl ?_
            refine t_go ?_
            refine h_one 9 (by kernel_rfl) ?_
            refine h_callV 9 (fun v V' => TbIs V' v t) rfl rfl rfl fnok5 rfl rfl (fun hg E w1 hm => by exact (by rw [hbe]; exact behind_c W g _ (l.take l.length) _ hm.leV hcut (by omega) hcm)) ?_
            rintro v8 W8 hle8 hv8
            refine h_one 10 (by kernel_rfl) ?_
            refine h_call 10 (.a (.v _)) rfl rfl rfl fnok9 rfl rfl rfl (fun hg E w1 hm => by exact rSame_c W8 _ _ t _ hfit.1 hm.leV (hT.mono hle8) (hv8 rfl)) ?_
            refine h_one 11 (by kernel_rfl) ?_
            refine h_yield 11 rfl rfl rfl rfl (y_val tok rfl) ?_
            refine h_done [1, 2, 3, 7, 8, 9, 156] (by kernel_rfl) rfl ?_
            refine x_then ?_
            refine c_cond rfl (fun h => ?_) (fun h => ?_)
            ·
              simp at h
            ·
              refine c_skip ?_
              refine x_block ?_
              refine x_then ?_
              refine c_region ?_
              refine o_yield rfl rfl rfl (y_val tok rfl) ?_
              refine o_yield rfl rfl rfl (y_val tok rfl) ?_
              refine o_yield rfl rfl rfl (y_val tok rfl) ?_
              refine o_end [1, 2, 3, 7, 8, 9] rfl ?_
              refine x_then ?_
              rw [hwi]
              refine x_round ((l.length + 1, l.length, _, _, _, t, W8)) (⟨⟨by dsimp only; omega, by dsimp only; omega⟩, hle.trans hle8, hT.mono hle8, by rw [hbe, List.take_length, List.take_of_length_le (by omega)], by rw [List.take_of_length_le (by omega)]; rwa [List.take_length] at hcm⟩) (by first | omega | (dsimp only; omega)) (by repeat (first | exact SubF.nil | refine SubF.cons rfl ?_)) (by repeat (first | exact SubO.nil | refine SubO.cons rfl ?_)) rfl (Vw.le.refl _)
    ·
      simp only [Bool.and_eq_true, Bool.or_eq_true, Bool.not_eq_true', Bool.or_eq_false_iff, Bool.and_eq_false_iff, decide_eq_true_eq, decide_eq_false_iff_not, beq_iff_eq, bne_iff_ne, Bool.not_eq_false', beq_eq_false_iff_ne, bne_eq_false_iff_eq, ne_eq, Decidable.not_not, Int.not_lt, Int.not_le] at h
      have hdl : d = l.length := by omega
      subst hdl
      clear h
      refine c_exit ?_
      refine x_then_exit ?_
      refine x_then_exit ?_
      refine x_block_hit ?_
      refine x_then ?_
      refine c_seq ?_
      refine c_region ?_
      refine o_yield rfl rfl rfl (y_val tok rfl) ?_
      refine o_yield rfl rfl rfl (y_val tok rfl) ?_
      refine o_yield rfl rfl rfl (y_len tok rfl (fun hg => hsW.sl)) ?_
      refine o_yield rfl rfl rfl (y_val tok rfl) ?_
      refine o_yield rfl rfl rfl (y_val tok rfl) ?_
      refine o_call (.a (.v _)) rfl rfl fnok4 rfl rfl rfl (fun hg E w1 hm => by exact wakes14_c _) ?_
      refine o_yield rfl rfl rfl (y_val tok rfl) ?_
      refine o_yield rfl rfl rfl (y_val tok rfl) ?_
      refine o_end [6] rfl ?_
      refine x_then ?_
      refine c_ret ?_
      refine b_ret tok rfl ?_
      intro E w' hm _
      refine ⟨?_, hm.below (hle)⟩
      simp; rfl
end Go.Proofs.Ythmejhpfhkddiaa
