import Derived.Test.YthmejhpfhkddiaaMTSl
/- Holds asked for: rows of rows put together, and the method. -/
set_option linter.unusedVariables false
set_option linter.unusedSimpArgs false
set_option maxRecDepth 100000
namespace Go.Proofs.Ythmejhpfhkddiaa
open Go Go.Eng Go.RowKit

theorem growH_c (k : Nat) (hk : k ≤ 1048576) (w : World) :
    Calls Try.prog 78 #[.slice none 0 0, I k] w fun e w' => ∃ v', e = .returned v' ∧ w'.ownsRow w.heap.size 92 4 v' 0 [] ∧ Below w.heap.size w w' := by
  refine enter (E := E0) (O := []) (nl := 0) (V := vw w) [.a (.v (.slice none 0 0)), .a (.v (I k))] Try.func78 rfl rfl (mem0 E0 0 w) rfl rfl ?_
  refine c_seq ?_
  refine c_region ?_
  refine o_yield rfl rfl rfl (y_val tok rfl) ?_
  refine o_end [0, 1] rfl ?_
  refine x_then ?_
  refine c_seq ?_
  refine c_seq ?_
  refine c_region ?_
  refine o_yield rfl rfl rfl (y_val tok rfl) ?_
  refine o_yield rfl rfl rfl (y_val tok rfl) ?_
  refine o_end [0, 1, 6] rfl ?_
  refine x_then ?_
  refine c_cond rfl (fun h => ?_) (fun h => ?_)
  ·
    refine c_region ?_
    exfalso
    simp at h; omega
  ·
    clear h
    refine c_skip ?_
    refine x_then ?_
    refine c_seq ?_
    refine c_seq ?_
    refine c_region ?_
    refine o_yield rfl rfl rfl (y_val tok rfl) ?_
    refine o_yield rfl rfl rfl (y_val tok rfl) ?_
    refine o_yield rfl rfl rfl (y_cap tok rfl) ?_
    refine o_yield rfl rfl rfl (y_val tok rfl) ?_
    refine o_yield rfl rfl rfl (y_lenP tok rfl) ?_
    refine o_yield rfl rfl rfl (y_val tok rfl) ?_
    refine o_yield rfl rfl rfl (y_val tok rfl) ?_
    refine o_yield rfl rfl rfl (y_val tok rfl) ?_
    refine o_end [0, 1] rfl ?_
    refine x_then ?_
    refine c_seq ?_
    rw [show IntKind.i64.wrap ((k : Int) - IntKind.i64.wrap (((0 : Nat) : Int) - ((0 : Nat) : Int))) = k from by rw [show IntKind.i64.wrap (((0 : Nat) : Int) - ((0 : Nat) : Int)) = 0 from rfl, Int.sub_zero]; exact wrapI (by omega) (by omega)]
    refine c_region ?_
    refine o_yield rfl rfl rfl (y_val tok rfl) ?_
    refine o_yield rfl rfl rfl (y_val tok rfl) ?_
    refine o_end [0, 1, 16] rfl ?_
    refine x_then ?_
    refine c_cond rfl (fun h => ?_) (fun h => ?_)
    ·
      refine c_region ?_
      refine o_yield rfl rfl rfl (y_val tok rfl) ?_
      refine o_yield rfl rfl rfl (y_val tok rfl) ?_
      have hk0 : 0 < k := by simp at h; omega
      clear h
      refine o_yield rfl rfl rfl (y_cap tok rfl) ?_
      refine o_yield rfl rfl rfl (y_slP tok (.slice none 0 0) rfl (fun _ => by decide) (fun _ => rfl)) ?_
      refine o_yield rfl rfl rfl (y_val tok rfl) ?_
      refine o_step rfl rfl rfl rfl rfl (s_azN (k := k) tok rfl rfl rfl Try.underlying3 hk0 (by decide) (by show k * 32 ≤ _; omega) (by simp only [maxLen]; omega)) (fun zs hz => ?_)
      refine o_yield rfl rfl rfl (y_val tok rfl) ?_
      refine o_yield rfl rfl rfl (y_lenP tok rfl) ?_
      refine o_step rfl rfl rfl rfl rfl (s_cut (l := 0) (i := 0) rfl (Nat.zero_le _) (fun v V' hv => y_sl (lo := none) (hi := some ((0 : Nat) : Int)) tok rfl (fun hg => hv) (fun hg => by dsimp only [Option.getD]; omega))) (fun _ _ => ?_)
      refine o_yield rfl rfl rfl (y_val tok rfl) ?_
      refine o_end [0] rfl ?_
      refine x_then ?_
      refine c_seq ?_
      refine c_region ?_
      refine o_yield rfl rfl rfl (y_val tok rfl) ?_
      refine o_yield rfl rfl rfl (y_val tok rfl) ?_
      refine o_end [4] rfl ?_
      refine x_then ?_
      refine c_ret ?_
      refine b_ret tok rfl ?_
      intro E w' hm _
      exact ⟨_, rfl, by have := hm.rowFresh (Vw.le.refl _) (l := 1) rfl; rw [Nat.zero_mul, List.take_zero] at this; exact this, hm.below (Vw.le.refl _)⟩
    ·
      refine c_skip ?_
      refine x_then ?_
      refine c_seq ?_
      refine c_region ?_
      refine o_yield rfl rfl rfl (y_val tok rfl) ?_
      refine o_yield rfl rfl rfl (y_val tok rfl) ?_
      refine o_end [4] rfl ?_
      refine x_then ?_
      refine c_ret ?_
      refine b_ret tok rfl ?_
      intro E w' hm _
      exact ⟨_, rfl, World.ownsRow_nil w' w.heap.size _ _, hm.below (Vw.le.refl _)⟩

abbrev catL (L : List (Sl Hold)) : List Hold := L.flatMap (·.l)

theorem catL_take {L : List (Sl Hold)} {k : Nat} {s : Sl Hold} (h : L[k]? = some s) : catL (L.take (k + 1)) = catL (L.take k) ++ s.l := by
  rw [take_succ_at' h, catL, List.flatMap_append]; simp

theorem catL_le (L : List (Sl Hold)) (k : Nat) : (catL (L.take k)).length ≤ (catL L).length := by
  have := congrArg (fun q : List (Sl Hold) => (catL q).length) (List.take_append_drop k L)
  simp only [catL, List.flatMap_append, List.length_append] at this ⊢
  omega

theorem concat_c (V : Vw) (sv : Value) (L : List (Sl Hold)) (w : World) (hV : V.le (vw w)) (hs0 : SlOf V Sl.enc 1 sv L) (hL : ∀ s ∈ L, SlOf V Hold.cells 4 s.v s.l) (hn : L.length ≤ 1000) (hc : (catL L).length ≤ 1048576) :
    Calls Try.prog 60 #[sv] w fun e w' => ∃ v', e = .returned v' ∧ w'.ownsRow w.heap.size 92 4 v' (catL L).length ((catL L).flatMap Hold.cells) ∧ Below w.heap.size w w' := by
  have hs := hs0.mono hV
  have hle := catL_le L
  refine enter (E := E0) (O := []) (nl := 0) (V := vw w) [.a (.v sv)] Try.func60 rfl rfl (mem0 E0 0 w) rfl rfl ?_
  refine c_seq ?_
  refine c_region ?_
  refine o_yield rfl rfl rfl (y_val tok rfl) ?_
  refine o_end [0] rfl ?_
  refine x_then ?_
  refine c_seq ?_
  refine c_region ?_
  refine o_yield rfl rfl rfl (y_val tok rfl) ?_
  refine o_end [0, 3] rfl ?_
  refine x_then ?_
  refine c_seq ?_
  refine c_seq ?_
  refine c_region ?_
  refine o_yield rfl rfl rfl (y_val tok rfl) ?_
  refine o_yield rfl rfl rfl (y_len tok rfl (fun hg => hs.sl)) ?_
  refine o_yield rfl rfl rfl (y_val tok rfl) ?_
  refine o_end [0, 3, 9, 10, 11] rfl ?_
  refine x_then ?_
  refine c_block ?_
  refine c_loopK [0, 9, 10] [] rfl rfl (σ := Nat) (fun k => [(3, .a (.v (I (catL (L.take k)).length))), (11, .a (.v (I k)))]) (fun k => []) (fun k => k ≤ L.length) (fun k => L.length - k) (0) (by omega) (by repeat (first | exact SubF.nil | refine SubF.cons rfl ?_)) (by repeat (first | exact SubO.nil | refine SubO.cons rfl ?_)) rfl ?_
  rintro k hk
  refine c_seq ?_
  refine c_region ?_
  refine o_yield rfl rfl rfl (y_val tok rfl) ?_
  refine o_end [0, 3, 9, 10, 11, 12] rfl ?_
  refine x_then ?_
  refine c_seq ?_
  refine c_cond rfl (fun h => ?_) (fun h => ?_)
  ·
    simp only [Bool.and_eq_true, Bool.or_eq_true, Bool.not_eq_true', Bool.or_eq_false_iff, Bool.and_eq_false_iff, decide_eq_true_eq, decide_eq_false_iff_not, beq_iff_eq, bne_iff_ne, Bool.not_eq_false', beq_eq_false_iff_ne, bne_eq_false_iff_eq, ne_eq, Decidable.not_not, Int.not_lt, Int.not_le] at h
    refine c_skip ?_
    refine x_then ?_
    refine c_seq ?_
    refine c_block ?_
    refine c_seq ?_
    refine c_region ?_
    have hk1 := hle (k + 1)
    have hk0 := hle k
    obtain ⟨s, h_s⟩ := hs.at (k := k) (by omega)
    have hlt_s := lt_of_at h_s
    refine o_yield rfl rfl rfl (y_idx tok rfl (fun hg => hs.sl) (fun hg => ⟨by omega, by omega⟩)) ?_
    refine o_yield rfl rfl rfl (y_lel tok (k) 0 (s) rfl (fun hg => hs) (fun hg => h_s) rfl rfl) ?_
    refine o_yield rfl rfl rfl (y_val tok rfl) ?_
    refine o_end [0, 3, 5, 9, 10, 11] rfl ?_
    refine x_then ?_
    refine c_seq ?_
    refine c_region ?_
    refine o_yield rfl rfl rfl (y_val tok rfl) ?_
    refine o_yield rfl rfl rfl (y_val tok rfl) ?_
    have hsl := (hL s (List.mem_of_getElem? h_s)).mono hV
    have hcs := catL_take h_s
    have hl1 : (catL (L.take (k + 1))).length = (catL (L.take k)).length + s.l.length := by rw [hcs, List.length_append]
    have hws : IntKind.i64.wrap (((catL (L.take k)).length : Int) + (s.l.length : Int)) = ((catL (L.take (k + 1))).length : Int) := by rw [hl1, wrapI (by omega) (by omega)]; omega
    have hwk : IntKind.i64.wrap ((k : Int) + 1) = ((k + 1 : Nat) : Int) := wrapI (by omega) (by omega)
    refine o_yield rfl rfl rfl (y_len tok rfl (fun hg => hsl.sl)) ?_
    refine o_yield rfl rfl rfl (y_val tok rfl) ?_
    refine o_yield rfl rfl rfl (y_val tok rfl) ?_
    refine o_end [0, 3, 9, 10, 11] rfl ?_
    refine x_then ?_
    refine c_seq ?_
    refine c_region ?_
    refine o_yield rfl rfl rfl (y_val tok rfl) ?_
    refine o_yield rfl rfl rfl (y_val tok rfl) ?_
    refine o_end [0, 3, 9, 10, 11, 20] rfl ?_
    refine x_then ?_
    refine c_cond rfl (fun h => ?_) (fun h => ?_)
    ·
      refine c_region ?_
      exfalso
      rw [hws] at h; simp at h; omega
    ·
      refine c_skip ?_
      refine x_block ?_
      refine x_then ?_
      refine c_region ?_
      refine o_yield rfl rfl rfl (y_val tok rfl) ?_
      refine o_yield rfl rfl rfl (y_val tok rfl) ?_
      refine o_end [0, 3, 9, 10, 11] rfl ?_
      refine x_then ?_
      rw [hws, hwk]
      refine x_round (k + 1) (by omega) (by first | omega | (dsimp only; omega)) (by repeat (first | exact SubF.nil | refine SubF.cons rfl ?_)) (by repeat (first | exact SubO.nil | refine SubO.cons rfl ?_)) rfl (Vw.le.refl _)
  ·
    simp only [Bool.and_eq_true, Bool.or_eq_true, Bool.not_eq_true', Bool.or_eq_false_iff, Bool.and_eq_false_iff, decide_eq_true_eq, decide_eq_false_iff_not, beq_iff_eq, bne_iff_ne, Bool.not_eq_false', beq_eq_false_iff_ne, bne_eq_false_iff_eq, ne_eq, Decidable.not_not, Int.not_lt, Int.not_le] at h
    have hkL : k = L.length := by omega
    subst hkL
    rw [List.take_length]
    clear h
    refine c_exit ?_
    refine x_then_exit ?_
    refine x_then_exit ?_
    refine x_block_hit ?_
    refine x_then ?_
    refine c_seq ?_
    refine c_region ?_
    refine o_yield rfl rfl rfl (y_val tok rfl) ?_
    refine o_step rfl rfl rfl rfl rfl (s_callRow 92 4 0 [] rfl fnok78 (fun E w1 hm => growH_c _ hc w1)) (fun _ _ => ?_)
    refine o_yield rfl rfl rfl (y_val tok rfl) ?_
    refine o_end [0, 6] rfl ?_
    refine x_then ?_
    refine c_seq ?_
    refine c_seq ?_
    refine c_region ?_
    refine o_yield rfl rfl rfl (y_val tok rfl) ?_
    refine o_yield rfl rfl rfl (y_len tok rfl (fun hg => hs.sl)) ?_
    refine o_yield rfl rfl rfl (y_val tok rfl) ?_
    refine o_end [6, 25, 26, 27] rfl ?_
    refine x_then ?_
    refine c_block ?_
    refine c_loopK [25, 26] [0] rfl rfl (σ := Nat) (fun k => [(6, .a (.row 0)), (27, .a (.v (I k)))]) (fun k => [(0, .row 92 4 (catL (L.take k)).length ((catL (L.take k)).flatMap Hold.cells))]) (fun k => k ≤ L.length) (fun k => L.length - k) (0) (by omega) (by repeat (first | exact SubF.nil | refine SubF.cons rfl ?_)) (by repeat (first | exact SubO.nil | refine SubO.cons rfl ?_)) rfl ?_
    rintro k hk
    refine c_seq ?_
    refine c_region ?_
    refine o_yield rfl rfl rfl (y_val tok rfl) ?_
    refine o_end [6, 25, 26, 27, 28] rfl ?_
    refine x_then ?_
    refine c_seq ?_
    refine c_cond rfl (fun h => ?_) (fun h => ?_)
    ·
      simp only [Bool.and_eq_true, Bool.or_eq_true, Bool.not_eq_true', Bool.or_eq_false_iff, Bool.and_eq_false_iff, decide_eq_true_eq, decide_eq_false_iff_not, beq_iff_eq, bne_iff_ne, Bool.not_eq_false', beq_eq_false_iff_ne, bne_eq_false_iff_eq, ne_eq, Decidable.not_not, Int.not_lt, Int.not_le] at h
      refine c_skip ?_
      refine x_then ?_
      refine c_seq ?_
      refine c_block ?_
      refine c_seq ?_
      refine c_region ?_
      have hk1 := hle (k + 1)
      obtain ⟨s, h_s⟩ := hs.at (k := k) (by omega)
      have hlt_s := lt_of_at h_s
      refine o_yield rfl rfl rfl (y_idx tok rfl (fun hg => hs.sl) (fun hg => ⟨by omega, by omega⟩)) ?_
      refine o_yield rfl rfl rfl (y_lel tok (k) 0 (s) rfl (fun hg => hs) (fun hg => h_s) rfl rfl) ?_
      refine o_yield rfl rfl rfl (y_val tok rfl) ?_
      refine o_end [6, 8, 25, 26, 27] rfl ?_
      refine x_then ?_
      refine c_region ?_
      refine o_yield rfl rfl rfl (y_val tok rfl) ?_
      refine o_yield rfl rfl rfl (y_val tok rfl) ?_
      have hsl := (hL s (List.mem_of_getElem? h_s)).mono hV
      have hcs := catL_take h_s
      have hl1 : (catL (L.take (k + 1))).length = (catL (L.take k)).length + s.l.length := by rw [hcs, List.length_append]
      have hwk : IntKind.i64.wrap ((k : Int) + 1) = ((k + 1 : Nat) : Int) := wrapI (by omega) (by omega)
      refine o_step rfl rfl rfl rfl rfl (s_app tok (s.l.flatMap Hold.cells) rfl (fun E w1 hm => hsl.sl.src hm.get) (fun _ _ _ => hold_ones s.l) (by dsimp only; omega)) (fun _ _ => ?_)
      refine o_yield rfl rfl rfl (y_val tok rfl) ?_
      refine o_end [6, 25, 26, 27] rfl ?_
      refine x_block ?_
      refine x_then ?_
      refine c_region ?_
      refine o_yield rfl rfl rfl (y_val tok rfl) ?_
      refine o_yield rfl rfl rfl (y_val tok rfl) ?_
      refine o_end [6, 25, 26, 27] rfl ?_
      refine x_then ?_
      rw [← hl1, ← List.flatMap_append, ← hcs, hwk]
      refine k_swap 0 1 rfl ?_
      refine x_round (k + 1) (by omega) (by first | omega | (dsimp only; omega)) (by repeat (first | exact SubF.nil | refine SubF.cons rfl ?_)) (by repeat (first | exact SubO.nil | refine SubO.cons rfl ?_)) rfl (Vw.le.refl _)
    ·
      simp only [Bool.and_eq_true, Bool.or_eq_true, Bool.not_eq_true', Bool.or_eq_false_iff, Bool.and_eq_false_iff, decide_eq_true_eq, decide_eq_false_iff_not, beq_iff_eq, bne_iff_ne, Bool.not_eq_false', beq_eq_false_iff_ne, bne_eq_false_iff_eq, ne_eq, Decidable.not_not, Int.not_lt, Int.not_le] at h
      have hkL : k = L.length := by omega
      subst hkL
      rw [List.take_length]
      clear h
      refine c_exit ?_
      refine x_then_exit ?_
      refine x_then_exit ?_
      refine x_block_hit ?_
      refine x_then ?_
      refine c_seq ?_
      refine c_region ?_
      refine o_yield rfl rfl rfl (y_val tok rfl) ?_
      refine o_yield rfl rfl rfl (y_val tok rfl) ?_
      refine o_end [2] rfl ?_
      refine x_then ?_
      refine c_ret ?_
      refine b_ret tok rfl ?_
      intro E w' hm _
      exact ⟨_, rfl, hm.rowFresh (Vw.le.refl _) (l := 0) rfl, hm.below (Vw.le.refl _)⟩

theorem ownN_take {l : List Hold} {k : Nat} {x : Hold} (key : Int) (h : l[k]? = some x) : ownN (l.take (k + 1)) key = ownN (l.take k) key + (if (x.key == key) = true then 1 else 0) := by
  rw [take_succ_at' h, ownN_append]
  cases hq : (x.key == key) <;> simp [ownN, hq]

theorem ownN_le (l : List Hold) (key : Int) : ownN l key ≤ l.length := List.length_filter_le _ _

theorem catL_two (a b : Sl Hold) : catL [a, b] = a.l ++ b.l := by simp [catL]

theorem concat2_c (xb : Nat) (v1 v2 : Value) (H Q : List Hold) (w : World) (hb : (vw w).get xb = some (.cells [v1, v2].toArray 27 (0, 0))) (h1 : SlOf (vw w) Hold.cells 4 v1 H) (h2 : SlOf (vw w) Hold.cells 4 v2 Q) (hn : (H ++ Q).length ≤ 1048576) :
    Calls Try.prog 60 #[.slice (some ⟨xb, 0, none⟩) 2 2] w fun e w' => ∃ v', e = .returned v' ∧ w'.ownsRow w.heap.size 92 4 v' (H ++ Q).length ((H ++ Q).flatMap Hold.cells) ∧ Below w.heap.size w w' := by
  have h := concat_c (vw w) (.slice (some ⟨xb, 0, none⟩) 2 2) [⟨v1, H⟩, ⟨v2, Q⟩] w (Vw.le.refl _) (SlOf.ofBlock (enc := Sl.enc) (l := [⟨v1, H⟩, ⟨v2, Q⟩]) hb rfl (fun _ => rfl) (Nat.le_refl _)) (by intro s hs; simp only [List.mem_cons, List.not_mem_nil, or_false] at hs; rcases hs with rfl | rfl <;> first | exact h1 | exact h2) (by simp) (by rw [catL_two]; exact hn)
  rw [catL_two] at h
  exact h

theorem hoR_snoc (L : List Hold) (x : Hold) : (⟨92, 4, L.length + 1, L.flatMap Hold.cells ++ x.cells⟩ : Rw) = hoR (L ++ [x]) := by simp [hoR]

theorem slot_isSome (t : Tb) (key : Int) : (t.slot key).isSome = decide (0 ≤ slotI t.S key) := by
  rcases slotI_slot t key with ⟨h1, h2⟩ | ⟨k, h1, h2, _⟩
  · rw [h1, h2]; rfl
  · rw [h1, h2, decide_eq_true (by omega)]; rfl

/-- What a command asks for. -/
abbrev askH (c : Cmd) : Hold := ⟨c.by_, c.lo, c.hi, c.mode⟩

theorem ask_c (g : Geo) (t : Tb) (ht : t.Fit) (hq1 : t.Q.length + 1 ≤ 100000) (c : Cmd) (E : Env) (V : Vw) (w : World) (hm0 : Mem E (tbO g t) 4 V w) :
    Calls Try.prog 46 #[.pointer (some ⟨E.ρ 0, 0, none⟩), c.val] w (TbLeft E g (t.ask g.blocks (askH c)) V w) := by
  have hsl := ht.s
  have hh := ht.h
  have hq := ht.q
  have hlim : lim = 4398046511104 := rfl
  have hm1 := bookPin hm0
  have hal : (t.H ++ t.Q).length ≤ 200000 := by rw [List.length_append]; omega
  refine enter [.a (.ptr 0 0), .a (.v c.val)] Try.func46 rfl rfl (hm1) rfl rfl ?_
  refine c_seq ?_
  refine c_region ?_
  refine o_new tok rfl rfl rfl rfl ?_
  refine o_end [0, 3] rfl ?_
  refine x_then ?_
  refine c_seq ?_
  refine c_region ?_
  refine o_yield rfl rfl rfl (y_val tok rfl) ?_
  refine o_yield rfl rfl rfl (y_val tok rfl) ?_
  refine o_yield rfl rfl rfl (y_val tok rfl) ?_
  refine o_call (.a (.v _)) rfl rfl fnok56 rfl rfl rfl (fun hg E w1 hm => by exact bSlot_c (vw w1) (E.ρ 0) (E.κ 1) (E.κ 2) (E.κ 3) g t.S c.by_ _ (Vw.le.refl _) (hm.lit 0 _ _ rfl) (hm.rowOf 1 rfl (fun _ => rfl)) (by omega)) ?_
  refine o_yield rfl rfl rfl (y_val tok rfl) ?_
  refine o_yield rfl rfl rfl (y_val tok rfl) ?_
  refine o_yield rfl rfl rfl (y_val tok rfl) ?_
  refine o_yield rfl rfl rfl (y_val tok rfl) ?_
  refine o_yield rfl rfl rfl (y_val tok rfl) ?_
  refine o_end [0, 3, 5] rfl ?_
  refine x_then ?_
  refine c_seq ?_
  refine c_region ?_
  refine o_yield rfl rfl rfl (y_val tok rfl) ?_
  refine o_yield rfl rfl rfl (y_val tok rfl) ?_
  refine o_yield rfl rfl rfl (y_val tok rfl) ?_
  refine o_yield rfl rfl rfl (y_val tok rfl) ?_
  refine o_yield rfl rfl rfl (y_val tok rfl) ?_
  refine o_yield rfl rfl rfl (y_val tok rfl) ?_
  refine o_yield rfl rfl rfl (y_val tok rfl) ?_
  refine o_new tok rfl rfl rfl rfl ?_
  refine o_store tok rfl rfl rfl (by first | exact ⟨trivial, trivial⟩ | (repeat' first | exact trivial | exact rfl | apply And.intro); done | simp [onesP, oneP, lk, Value.oneCell']) ?_
  refine o_end [0, 3, 5, 6] rfl ?_
  refine x_then ?_
  refine c_seq ?_
  refine c_heldR mixed rfl (by repeat (first | exact SubO.nil | refine SubO.cons rfl ?_)) (by first | rfl | simp [okCels, allOk_plain]) ?_
  refine t_take 0 rfl (by kernel_rfl) rfl rfl rfl (y_val tok rfl) rfl ?_
  refine t_take 1 rfl (by kernel_rfl) rfl rfl rfl (y_val tok rfl) rfl ?_
  refine t_take 2 rfl (by kernel_rfl) rfl rfl rfl (y_val tok rfl) rfl ?_
  refine t_take 3 rfl (by kernel_rfl) rfl rfl rfl (y_val tok rfl) rfl ?_
  refine t_take 4 rfl (by kernel_rfl) rfl rfl rfl (y_val tok rfl) rfl ?_
  refine t_take 5 rfl (by kernel_rfl) rfl rfl rfl (y_val tok rfl) rfl ?_
  refine t_take 6 rfl (by kernel_rfl) rfl rfl rfl (y_val tok rfl) rfl ?_
  refine t_take 7 rfl (by kernel_rfl) rfl rfl rfl (y_val tok rfl) rfl ?_
  refine t_take 8 rfl (by kernel_rfl) rfl rfl rfl (y_val tok rfl) rfl ?_
  refine t_take 9 rfl (by kernel_rfl) rfl rfl rfl (y_val tok rfl) rfl ?_
  refine t_go ?_
  refine h_one 10 (by kernel_rfl) ?_
  refine h_to 10 rfl rfl rfl rfl rfl rfl (s_bsA tok rfl) (.inr fun x hx => ⟨(by repeat (first | exact SubO.nil | refine SubO.cons rfl ?_)), rfl, (by first | exact Vw.le.refl _ | exact hx.1)⟩) (fun xb hxb => ?_)
  refine h_one 11 (by kernel_rfl) ?_
  refine h_to 11 rfl rfl rfl rfl rfl rfl (s_callRow 92 4 (t.H ++ t.Q).length ((t.H ++ t.Q).flatMap Hold.cells) rfl fnok60 (fun E w1 hm => concat2_c xb (E.κ 2) (E.κ 3) t.H t.Q w1 (by rw [← (hm.pin 9 8 xb rfl).1]; exact hm.lit 8 _ _ rfl) (hm.rowOf 2 rfl (fun _ => rfl)) (hm.rowOf 3 rfl (fun _ => rfl)) (by omega))) (.inr fun _ _ => ⟨(by repeat (first | exact SubO.nil | refine SubO.cons rfl ?_)), rfl, (by first | exact Vw.le.refl _ | assumption)⟩) (fun _ _ => ?_)
  refine h_one 12 (by kernel_rfl) ?_
  refine h_yield 12 rfl rfl rfl rfl (y_val tok rfl) ?_
  refine h_done [0, 3, 5, 6, 7] (by kernel_rfl) rfl ?_
  refine x_then ?_
  refine c_seq ?_
  obtain ⟨L, hL⟩ : ∃ L, L = t.H ++ t.Q := ⟨_, rfl⟩
  rw [← hL] at hal ⊢
  refine c_region ?_
  refine o_yield rfl rfl rfl (y_val tok rfl) ?_
  refine o_end [0, 3, 5, 6, 7, 8] rfl ?_
  refine x_then ?_
  refine c_seq ?_
  refine c_seq ?_
  refine c_region ?_
  refine o_yield rfl rfl rfl (y_val tok rfl) ?_
  refine o_yield rfl rfl rfl (y_own (s := .a (.v (I L.length))) 10 rfl rfl (fun v V' hv => y_len tok rfl (fun hg => hv))) ?_
  refine o_yield rfl rfl rfl (y_val tok rfl) ?_
  refine o_end [0, 3, 5, 6, 7, 8, 37, 38, 39] rfl ?_
  refine x_then ?_
  refine c_block ?_
  refine c_loopK [0, 3, 5, 6, 7, 37, 38] [] rfl rfl (σ := Nat) (fun k => [(8, .a (.v (I (ownN (L.take k) c.by_)))), (39, .a (.v (I k)))]) (fun k => []) (fun k => k ≤ L.length) (fun k => L.length - k) (0) (by omega) (by repeat (first | exact SubF.nil | refine SubF.cons rfl ?_)) (by repeat (first | exact SubO.nil | refine SubO.cons rfl ?_)) rfl ?_
  rintro k hk
  refine c_seq ?_
  refine c_region ?_
  refine o_yield rfl rfl rfl (y_val tok rfl) ?_
  refine o_end [0, 3, 5, 6, 7, 8, 37, 38, 39, 40] rfl ?_
  refine x_then ?_
  refine c_seq ?_
  refine c_cond rfl (fun h => ?_) (fun h => ?_)
  ·
    simp only [Bool.and_eq_true, Bool.or_eq_true, Bool.not_eq_true', Bool.or_eq_false_iff, Bool.and_eq_false_iff, decide_eq_true_eq, decide_eq_false_iff_not, beq_iff_eq, bne_iff_ne, Bool.not_eq_false', beq_eq_false_iff_ne, bne_eq_false_iff_eq, ne_eq, Decidable.not_not, Int.not_lt, Int.not_le] at h
    refine c_skip ?_
    refine x_then ?_
    refine c_seq ?_
    refine c_block ?_
    refine c_seq ?_
    refine c_region ?_
    obtain ⟨x, hx⟩ : ∃ x, L[k]? = some x := ⟨_, List.getElem?_eq_getElem (by omega)⟩
    have hwk : IntKind.i64.wrap ((k : Int) + 1) = ((k + 1 : Nat) : Int) := wrapI (by omega) (by omega)
    have hown := ownN_take c.by_ hx
    have hole : ownN (L.take k) c.by_ ≤ k := Nat.le_trans (ownN_le _ _) (by rw [List.length_take]; omega)
    refine o_yield rfl rfl rfl (y_own (s := .a (.rel 10 (k * 4))) 10 rfl rfl (fun v V' hv => y_idxK tok (k * 4) rfl (by simp) (fun hg => hv) (fun hg => by omega))) ?_
    refine o_yield rfl rfl rfl (y_own (s := .agg (x.cells.map .v)) 10 rfl rfl (fun v V' hv => y_lel (enc := Hold.cells) (l := L) tok k 0 x rfl (fun hg => ⟨hv, fun _ => rfl⟩) (fun hg => hx) rfl rfl)) ?_
    refine o_new tok rfl rfl rfl rfl ?_
    refine o_store tok rfl rfl rfl (by first | exact ⟨trivial, trivial⟩ | (repeat' first | exact trivial | exact rfl | apply And.intro); done | simp [onesP, oneP, lk, Value.oneCell']) ?_
    refine o_end [0, 3, 5, 6, 7, 8, 10, 37, 38, 39] rfl ?_
    refine x_then ?_
    refine c_seq ?_
    refine c_region ?_
    refine o_yield rfl rfl rfl (y_val tok rfl) ?_
    refine o_yield rfl rfl rfl (y_val tok rfl) ?_
    refine o_yield rfl rfl rfl (y_val tok rfl) ?_
    refine o_yield rfl rfl rfl (y_val tok rfl) ?_
    refine o_yield rfl rfl rfl (y_val tok rfl) ?_
    refine o_end [0, 3, 5, 6, 7, 8, 37, 38, 39, 47] rfl ?_
    refine x_then ?_
    refine c_cond rfl (fun h => ?_) (fun h => ?_)
    ·
      refine c_region ?_
      refine o_yield rfl rfl rfl (y_val tok rfl) ?_
      refine o_yield rfl rfl rfl (y_val tok rfl) ?_
      refine o_yield rfl rfl rfl (y_val tok rfl) ?_
      refine o_end [0, 3, 5, 6, 7, 8, 37, 38, 39] rfl ?_
      refine x_block ?_
      refine x_then ?_
      refine c_region ?_
      refine o_yield rfl rfl rfl (y_val tok rfl) ?_
      refine o_yield rfl rfl rfl (y_val tok rfl) ?_
      refine o_end [0, 3, 5, 6, 7, 8, 37, 38, 39] rfl ?_
      refine x_then ?_
      rw [if_pos h] at hown
      have hwo : IntKind.i64.wrap ((ownN (L.take k) c.by_ : Int) + 1) = (ownN (L.take (k + 1)) c.by_ : Int) := by rw [hown, wrapI (by omega) (by omega)]; omega
      rw [hwo, hwk]
      refine x_round (k + 1) (by omega) (by first | omega | (dsimp only; omega)) (by repeat (first | exact SubF.nil | refine SubF.cons rfl ?_)) (by repeat (first | exact SubO.nil | refine SubO.cons rfl ?_)) rfl (Vw.le.refl _)
    ·
      refine c_skip ?_
      refine x_block ?_
      refine x_then ?_
      refine c_region ?_
      refine o_yield rfl rfl rfl (y_val tok rfl) ?_
      refine o_yield rfl rfl rfl (y_val tok rfl) ?_
      refine o_end [0, 3, 5, 6, 7, 8, 37, 38, 39] rfl ?_
      refine x_then ?_
      rw [if_neg (by rw [h]; simp)] at hown
      rw [show ownN (L.take k) c.by_ = ownN (L.take (k + 1)) c.by_ by omega, hwk]
      refine x_round (k + 1) (by omega) (by first | omega | (dsimp only; omega)) (by repeat (first | exact SubF.nil | refine SubF.cons rfl ?_)) (by repeat (first | exact SubO.nil | refine SubO.cons rfl ?_)) rfl (Vw.le.refl _)
  ·
    simp only [Bool.and_eq_true, Bool.or_eq_true, Bool.not_eq_true', Bool.or_eq_false_iff, Bool.and_eq_false_iff, decide_eq_true_eq, decide_eq_false_iff_not, beq_iff_eq, bne_iff_ne, Bool.not_eq_false', beq_eq_false_iff_ne, bne_eq_false_iff_eq, ne_eq, Decidable.not_not, Int.not_lt, Int.not_le] at h
    have hkl : k = L.length := by omega
    subst hkl
    rw [List.take_length]
    clear h
    refine c_exit ?_
    refine x_then_exit ?_
    refine x_then_exit ?_
    refine x_block_hit ?_
    refine x_then ?_
    refine c_seq ?_
    refine c_draw mixed (by kernel_rfl) ?_
    refine d_yield rfl rfl rfl (y_val tok rfl) rfl ?_
    refine d_yield rfl rfl rfl (y_val tok rfl) rfl ?_
    refine d_yield rfl rfl rfl (y_val tok rfl) rfl ?_
    refine d_yield rfl rfl rfl (y_val tok rfl) rfl ?_
    refine d_yield rfl rfl rfl (y_val tok rfl) rfl ?_
    refine d_yield rfl rfl rfl (y_val tok rfl) rfl ?_
    refine d_yield rfl rfl rfl (y_val tok rfl) rfl ?_
    have hasks : t.asks g.blocks (askH c) = (((decide (0 ≤ slotI t.S c.by_) && holdB g.blocks (askH c)) && !touches L c.by_ c.lo c.hi) && decide ((ownN L c.by_ : Int) < 64)) := by
      rw [Tb.asks, slot_isSome, hL, show decide (ownN (t.H ++ t.Q) c.by_ < 64) = decide (((ownN (t.H ++ t.Q) c.by_ : Nat) : Int) < 64) by rw [decide_eq_decide]; omega]
    refine d_call (.a (.v _)) rfl rfl fnok61 rfl rfl rfl (fun hg E w1 hm => by exact spHold_c g (askH c) _) ?_
    refine d_yield rfl rfl rfl (y_val tok rfl) rfl ?_
    refine d_yield rfl rfl rfl (y_val tok rfl) rfl ?_
    refine d_yield rfl rfl rfl (y_val tok rfl) rfl ?_
    refine d_yield rfl rfl rfl (y_val tok rfl) rfl ?_
    refine d_yield rfl rfl rfl (y_val tok rfl) rfl ?_
    refine d_yield rfl rfl rfl (y_val tok rfl) rfl ?_
    refine d_yield rfl rfl rfl (y_val tok rfl) rfl ?_
    refine d_call (.a (.v _)) rfl rfl fnok62 rfl rfl rfl (fun hg E w1 hm => by exact spTouches_c (vw w1) (E.κ 10) L c.by_ c.lo c.hi _ (Vw.le.refl _) (hm.rowOf 10 rfl (fun _ => rfl)) (by omega)) ?_
    refine d_yield rfl rfl rfl (y_val tok rfl) rfl ?_
    refine d_yield rfl rfl rfl (y_val tok rfl) rfl ?_
    refine d_yield rfl rfl rfl (y_val tok rfl) rfl ?_
    refine d_yield rfl rfl rfl (y_val tok rfl) rfl ?_
    refine d_yield rfl rfl rfl (y_val tok rfl) rfl ?_
    refine d_yield rfl rfl rfl (y_val tok rfl) rfl ?_
    refine d_end [0, 6, 72] rfl ?_
    refine x_then ?_
    refine c_cond rfl (fun h => ?_) (fun h => ?_)
    ·
      rw [Tb.ask, hasks, if_pos h]
      clear h
      refine c_seq ?_
      refine c_heldS [8, 12] mixed rfl (by repeat (first | exact SubO.nil | refine SubO.cons rfl ?_)) (by first | rfl | simp [okCels, allOk_plain]) ?_
      refine t_takeR 0 rfl (by kernel_rfl) rfl rfl rfl (fun _ => y_val tok rfl) rfl ?_
      refine t_takeD 1 rfl (by kernel_rfl) rfl rfl rfl (y_val tok rfl) rfl ?_
      refine t_takeD 2 rfl (by kernel_rfl) rfl rfl rfl (y_val tok rfl) rfl ?_
      refine t_takeD 3 rfl (by kernel_rfl) rfl rfl rfl (y_val tok rfl) rfl ?_
      refine t_takeD 4 rfl (by kernel_rfl) rfl rfl rfl (y_val tok rfl) rfl ?_
      refine t_takeD 5 rfl (by kernel_rfl) rfl rfl rfl (y_val tok rfl) rfl ?_
      refine t_takeD 6 rfl (by kernel_rfl) rfl rfl rfl (y_val tok rfl) rfl ?_
      refine t_go ?_
      refine h_one 7 (by kernel_rfl) ?_
      refine h_to 7 rfl rfl rfl rfl rfl rfl (s_bs tok 4 rfl rfl rfl) (.inr fun _ _ => ⟨(by repeat (first | exact SubO.nil | refine SubO.cons rfl ?_)), rfl, (by first | exact Vw.le.refl _ | assumption)⟩) (fun _ _ => ?_)
      refine h_one 8 (by kernel_rfl) ?_
      refine h_to 8 rfl rfl rfl rfl rfl rfl (s_app tok (Hold.cells (askH c)) rfl (fun E w hm => ownsRow_src (hm.row _ _ _ _ _ rfl)) (fun _ _ _ => by simpa using hold_ones [(askH c)]) (by dsimp only [hoR]; omega)) (.inl rfl) (fun _ _ => ?_)
      refine h_one 9 (by kernel_rfl) ?_
      refine h_yield 9 rfl rfl rfl rfl (y_val tok rfl) ?_
      refine h_one 10 (by kernel_rfl) ?_
      refine h_yield 10 rfl rfl rfl rfl (y_val tok rfl) ?_
      refine h_one 11 (by kernel_rfl) ?_
      refine h_yield 11 rfl rfl rfl rfl (y_val tok rfl) ?_
      refine h_one 12 (by kernel_rfl) ?_
      refine h_store 12 tok rfl rfl rfl rfl (by first | exact ⟨trivial, trivial⟩ | (repeat' first | exact trivial | exact rfl | apply And.intro); done | simp [onesP, oneP, lk, Value.oneCell']) (.inl rfl) ?_
      refine h_done [0] (by kernel_rfl) rfl ?_
      refine x_then ?_
      refine c_region ?_
      refine o_yield rfl rfl rfl (y_val tok rfl) ?_
      refine o_step rfl rfl rfl rfl rfl (s_bookW (lo := 0) (a := 1) (b := 2) (c := 12) (R1 := slR t.S) (R2 := hoR t.H) (R3 := hoR (t.Q ++ [(askH c)])) (fun _ => True) (slR t.S) (hoR (Tb.grant ⟨t.S, t.H, t.Q ++ [(askH c)]⟩).H) (hoR (Tb.grant ⟨t.S, t.H, t.Q ++ [(askH c)]⟩).Q) rfl fnok63 rfl rfl rfl (by rw [← hoR_snoc]; rfl) ⟨⟨by decide, by decide⟩, by decide⟩ (fun E w hm hin hle => grant_c g ⟨t.S, t.H, t.Q ++ [(askH c)]⟩ ⟨by dsimp only; omega, by dsimp only; omega, by dsimp only; rw [List.length_append]; dsimp only [List.length]; omega⟩ (bkE E 0 1 2 12) _ w hin)) (fun _ _ => ?_)
      refine o_end [] rfl ?_
      refine b_end tok rfl ?_
      intro E' w' hm _
      exact ⟨_, rfl, trivial, bookEnd hm (by repeat (first | exact Vw.le.refl _ | assumption | (refine Vw.le.trans ?_ (by assumption)))) (a := 13) (b := 14) (c := 15) rfl rfl rfl rfl ⟨⟨by decide, by decide⟩, by decide⟩ rfl rfl⟩
    ·
      refine c_skip ?_
      refine b_end tok rfl ?_
      rw [Tb.ask, hasks, if_neg (by rw [h]; simp)]
      intro E' w' hm _
      exact ⟨_, rfl, trivial, bookEnd hm (by repeat (first | exact Vw.le.refl _ | assumption | (refine Vw.le.trans ?_ (by assumption)))) (a := 1) (b := 2) (c := 3) rfl rfl rfl rfl ⟨⟨by decide, by decide⟩, by decide⟩ rfl rfl⟩
end Go.Proofs.Ythmejhpfhkddiaa

/- Tables: opened, applied to, new. -/
set_option linter.unusedVariables false
set_option linter.unusedSimpArgs false
set_option maxRecDepth 100000
namespace Go.Proofs.Ythmejhpfhkddiaa
open Go Go.Eng Go.RowKit

/-- A table's value, read. -/
def TbIs (V : Vw) (v : Value) (t : Tb) : Prop := ∃ a n c a2 n2 c2 a3 n3 c3, v = .agg #[.slice a n c, .slice a2 n2 c2, .slice a3 n3 c3] ∧ SlOf V Slot.cells 2 (.slice a n c) t.S ∧ SlOf V Hold.cells 4 (.slice a2 n2 c2) t.H ∧ SlOf V Hold.cells 4 (.slice a3 n3 c3) t.Q

theorem TbIs.mono {V V' : Vw} {v : Value} {t : Tb} (h : TbIs V v t) (hle : V.le V') : TbIs V' v t := by
  obtain ⟨a, n, c, a2, n2, c2, a3, n3, c3, rfl, h1, h2, h3⟩ := h
  exact ⟨a, n, c, a2, n2, c2, a3, n3, c3, rfl, h1.mono hle, h2.mono hle, h3.mono hle⟩

/-- What answers a table in memory that nobody writes any more. -/
def TbOut (V : Vw) (t : Tb) (w : World) (e : Ending) (w' : World) : Prop := ∃ v V', e = .returned v ∧ Below w.heap.size w w' ∧ Vext w.heap.size V V' w' ∧ TbIs V' v t

theorem TbIs.out {V : Vw} {w w' : World} (hV : V.le (vw w)) (hb : Below w.heap.size w w') {v1 v2 v3 : Value} {t : Tb} (h1 : w'.ownsRow w.heap.size 67 2 v1 t.S.length (t.S.flatMap Slot.cells)) (h2 : w'.ownsRow w.heap.size 92 4 v2 t.H.length (t.H.flatMap Hold.cells)) (h3 : w'.ownsRow w.heap.size 92 4 v3 t.Q.length (t.Q.flatMap Hold.cells)) :
    TbOut V t w (.returned (.agg #[v1, v2, v3])) w' := by
  have s1 := SlOf.grown (enc := Slot.cells) V h1 (fun _ => rfl)
  have s2 := SlOf.grown (enc := Hold.cells) V h2 (fun _ => rfl)
  have s3 := SlOf.grown (enc := Hold.cells) V h3 (fun _ => rfl)
  obtain ⟨a, n, c, rfl⟩ := sl_shape s1.sl
  obtain ⟨a2, n2, c2, rfl⟩ := sl_shape s2.sl
  obtain ⟨a3, n3, c3, rfl⟩ := sl_shape s3.sl
  exact ⟨_, _, rfl, hb, Vext.grown hV hb, _, _, _, _, _, _, _, _, _, rfl, s1, s2, s3⟩

theorem TbIs.same {V : Vw} {w w' : World} (hV : V.le (vw w)) (hb : Below w.heap.size w w') {v : Value} {t : Tb} (h : TbIs V v t) : TbOut V t w (.returned v) w' := ⟨_, _, rfl, hb, Vext.grown hV hb, h.mono (Vext.grown hV hb).le⟩

/-- What answers holds in memory that nobody writes any more. -/
def HOut (V : Vw) (l : List Hold) (w : World) (e : Ending) (w' : World) : Prop := ∃ v V', e = .returned v ∧ Below w.heap.size w w' ∧ Vext w.heap.size V V' w' ∧ SlOf V' Hold.cells 4 v l

theorem HOut.out {V : Vw} {w w' : World} (hV : V.le (vw w)) (hb : Below w.heap.size w w') {v : Value} {l : List Hold} (h : w'.ownsRow w.heap.size 92 4 v l.length (l.flatMap Hold.cells)) : HOut V l w (.returned v) w' :=
  ⟨v, _, rfl, hb, Vext.grown hV hb, SlOf.grown (enc := Hold.cells) V h (fun _ => rfl)⟩

/-- What answers a row of holds of one's own. -/
def HRow (l : List Hold) (w : World) (e : Ending) (w' : World) : Prop := ∃ v', e = .returned v' ∧ w'.ownsRow w.heap.size 92 4 v' l.length (l.flatMap Hold.cells) ∧ Below w.heap.size w w'

theorem HRow.out {V : Vw} {l : List Hold} {w : World} {e : Ending} {w' : World} (h : HRow l w e w') (hV : V.le (vw w)) : HOut V l w e w' := by
  obtain ⟨v, rfl, h1, h2⟩ := h
  exact HOut.out hV h2 h1

theorem topen_c (V : Vw) (g : Geo) (tv : Value) (t : Tb) (ht : t.Fit) (w : World) (hV : V.le (vw w)) (h : TbIs V tv t) :
    Calls Try.prog 34 #[g.val, tv] w fun ex w' => ∃ E', ex = .returned (.pointer (some ⟨E'.ρ 0, 0, none⟩)) ∧ w.heap.size ≤ w'.heap.size ∧ Mem E' (tbO g t) 4 (vw w) w' := by
  obtain ⟨a, n, c, a2, n2, c2, a3, n3, c3, rfl, h1, h2, h3⟩ := h
  have hs := ht.s
  have hh := ht.h
  have hq := ht.q
  have hm1 := (mem0 E0 0 w).addSize
  refine enter [.a (.v g.val), .a (.v (.agg #[.slice a n c, .slice a2 n2 c2, .slice a3 n3 c3]))] Try.func34 rfl rfl (hm1) rfl rfl ?_
  refine c_seq ?_
  refine c_region ?_
  refine o_new tok rfl rfl rfl rfl ?_
  refine o_new tok rfl rfl rfl rfl ?_
  refine o_yield rfl rfl rfl (y_val tok rfl) ?_
  refine o_end [2, 3] rfl ?_
  refine x_then ?_
  refine c_seq ?_
  refine c_heldR mixed rfl (by repeat (first | exact SubO.nil | refine SubO.cons rfl ?_)) (by first | rfl | simp [okCels, allOk_plain]) ?_
  refine t_take 0 rfl (by kernel_rfl) rfl rfl rfl (y_val tok rfl) rfl ?_
  refine t_take 1 rfl (by kernel_rfl) rfl rfl rfl (y_val tok rfl) rfl ?_
  refine t_take 3 rfl (by kernel_rfl) rfl rfl rfl (y_val tok rfl) rfl ?_
  refine t_take 4 rfl (by kernel_rfl) rfl rfl rfl (y_val tok rfl) rfl ?_
  refine t_take 6 rfl (by kernel_rfl) rfl rfl rfl (y_val tok rfl) rfl ?_
  refine t_take 7 rfl (by kernel_rfl) rfl rfl rfl (y_val tok rfl) rfl ?_
  refine t_take 10 rfl (by kernel_rfl) rfl rfl rfl (y_val tok rfl) rfl ?_
  refine t_go ?_
  refine h_one 2 (by kernel_rfl) ?_
  refine h_to 2 rfl rfl rfl rfl rfl rfl (s_callRow 67 2 t.S.length (t.S.flatMap Slot.cells) rfl fnok50 (fun E w1 hm => (cloneT_c V _ t.S w1 (hV.trans hm.leV) h1 (by omega)).mono (fun e w' h => h))) (.inr fun _ _ => ⟨(by repeat (first | exact SubO.nil | refine SubO.cons rfl ?_)), rfl, (by first | exact Vw.le.refl _ | assumption)⟩) (fun _ _ => ?_)
  refine h_one 5 (by kernel_rfl) ?_
  refine h_to 5 rfl rfl rfl rfl rfl rfl (s_callRow 92 4 t.H.length (t.H.flatMap Hold.cells) rfl fnok51 (fun E w1 hm => (cloneH_c V _ t.H w1 (hV.trans hm.leV) h2 (by omega)).mono (fun e w' h => h))) (.inr fun _ _ => ⟨(by repeat (first | exact SubO.nil | refine SubO.cons rfl ?_)), rfl, (by first | exact Vw.le.refl _ | assumption)⟩) (fun _ _ => ?_)
  refine h_one 8 (by kernel_rfl) ?_
  refine h_to 8 rfl rfl rfl rfl rfl rfl (s_callRow 92 4 t.Q.length (t.Q.flatMap Hold.cells) rfl fnok51 (fun E w1 hm => (cloneH_c V _ t.Q w1 (hV.trans hm.leV) h3 (by omega)).mono (fun e w' h => h))) (.inr fun _ _ => ⟨(by repeat (first | exact SubO.nil | refine SubO.cons rfl ?_)), rfl, (by first | exact Vw.le.refl _ | assumption)⟩) (fun _ _ => ?_)
  refine h_one 9 (by kernel_rfl) ?_
  refine h_yield 9 rfl rfl rfl rfl (y_val tok rfl) ?_
  refine h_one 11 (by kernel_rfl) ?_
  refine h_yield 11 rfl rfl rfl rfl (y_val tok rfl) ?_
  refine h_one 12 (by kernel_rfl) ?_
  refine h_new 12 tok rfl rfl rfl rfl rfl rfl ?_
  refine h_one 13 (by kernel_rfl) ?_
  refine h_yield 13 rfl rfl rfl rfl (y_val tok rfl) ?_
  refine h_done [4] (by kernel_rfl) rfl ?_
  refine x_then ?_
  refine c_ret ?_
  refine b_ret tok rfl ?_
  intro E' w' hm _
  exact ⟨bkE E' 6 3 4 5, rfl, hm.big 0 _ rfl, bookOut hm rfl rfl rfl rfl (by decide) (by decide) (by decide)⟩

theorem ways_c (w : World) : Calls Try.prog 33 #[] w fun e w' => e = .returned (.agg #[.func (.func 44) #[] #[], .func (.func 45) #[] #[], .func (.func 46) #[] #[], .func (.func 47) #[] #[], .func (.func 48) #[] #[], .func (.func 49) #[] #[]]) ∧ Below w.heap.size w w' := by
  refine enter (E := E0) (O := []) (nl := 0) (V := vw w) [] Try.func33 rfl rfl (mem0 E0 0 w) rfl rfl ?_
  refine c_seq ?_
  refine c_region ?_
  refine o_new tok rfl rfl rfl rfl ?_
  refine o_end [0] rfl ?_
  refine x_then ?_
  refine c_seq ?_
  refine c_region ?_
  refine o_yield rfl rfl rfl (y_bar tok rfl) ?_
  refine o_store tok rfl rfl rfl (by first | exact ⟨trivial, trivial⟩ | (repeat' first | exact trivial | exact rfl | apply And.intro); done | simp [onesP, oneP, lk, Value.oneCell']) ?_
  refine o_end [0] rfl ?_
  refine x_then ?_
  refine c_ret ?_
  refine b_ret tok rfl ?_
  intro E w' hm _
  refine ⟨?_, hm.below (Vw.le.refl _)⟩
  rfl

theorem apply0_c (V : Vw) (g : Geo) (tv : Value) (t : Tb) (ht : t.Fit) (hq1 : t.Q.length + 1 ≤ 100000) (c : Cmd) (hk : c.kind = 0) (w : World) (hV : V.le (vw w)) (h : TbIs V tv t) :
    Calls Try.prog 24 #[g.val, tv, c.val] w (TbOut V (t.apply g.blocks c) w) := by
  obtain ⟨a, n, c0, a2, n2, c2, a3, n3, c3, rfl, h1, h2, h3⟩ := id h
  have hres : t.apply g.blocks c = t.mount c.by_ := by rw [Tb.apply, hk]; rfl
  rw [hres]
  have hmc := fun E V w hm => mount_c g t ht c E V w hm
  clear hres
  generalize t.mount c.by_ = r at hmc ⊢
  have hw : IntKind.i64.wrap c.kind = c.kind := wrapI (by omega) (by omega)
  refine enter (E := E0) (O := []) (nl := 0) (V := vw w) [.a (.v g.val), .a (.v (.agg #[.slice a n c0, .slice a2 n2 c2, .slice a3 n3 c3])), .a (.v c.val)] Try.func24 rfl rfl (mem0 E0 0 w) rfl rfl ?_
  refine c_seq ?_
  refine c_region ?_
  refine o_new tok rfl rfl rfl rfl ?_
  refine o_new tok rfl rfl rfl rfl ?_
  refine o_new tok rfl rfl rfl rfl ?_
  refine o_new tok rfl rfl rfl rfl ?_
  refine o_end [3, 4, 5, 6] rfl ?_
  refine x_then ?_
  refine c_seq ?_
  refine c_region ?_
  refine o_call (.agg [.fn 44 [], .fn 45 [], .fn 46 [], .fn 47 [], .fn 48 [], .fn 49 []]) rfl rfl fnok33 rfl rfl rfl (fun hg E w1 hm => by exact ways_c _) ?_
  refine o_new tok rfl rfl rfl rfl ?_
  refine o_store tok rfl rfl rfl (by first | exact ⟨trivial, trivial⟩ | (repeat' first | exact trivial | exact rfl | apply And.intro); done | simp [onesP, oneP, lk, Value.oneCell']) ?_
  refine o_end [3, 4, 5, 6, 7] rfl ?_
  refine x_then ?_
  refine c_seq ?_
  refine c_seq ?_
  refine c_region ?_
  refine o_yield rfl rfl rfl (y_val tok rfl) ?_
  refine o_yield rfl rfl rfl (y_val tok rfl) ?_
  refine o_yield rfl rfl rfl (y_val tok rfl) ?_
  refine o_yield rfl rfl rfl (y_val tok rfl) ?_
  refine o_yield rfl rfl rfl (y_val tok rfl) ?_
  refine o_yield rfl rfl rfl (y_val tok rfl) ?_
  refine o_yield rfl rfl rfl (y_val tok rfl) ?_
  refine o_yield rfl rfl rfl (y_val tok rfl) ?_
  refine o_yield rfl rfl rfl (y_val tok rfl) ?_
  refine o_end [3, 4, 5, 6, 7, 18] rfl ?_
  refine x_then ?_
  refine c_cond rfl (fun h => ?_) (fun h => ?_)
  ·
    rw [hw, hk] at h
    exact absurd h (by decide)
  ·
    clear h
    refine c_skip ?_
    refine x_then ?_
    refine c_seq ?_
    refine c_region ?_
    refine o_yield rfl rfl rfl (y_val tok rfl) ?_
    refine o_yield rfl rfl rfl (y_val tok rfl) ?_
    refine o_step rfl rfl rfl rfl rfl (s_bookNew (e0 := 100) (gs := g.cells) (R1 := slR t.S) (R2 := hoR t.H) (R3 := hoR t.Q) rfl fnok34 (fun E w1 hm => topen_c V g _ t ht w1 (hV.trans hm.leV) (by assumption))) (fun _ _ => ?_)
    refine o_yield rfl rfl rfl (y_val tok rfl) ?_
    refine o_end [5, 6, 7, 8] rfl ?_
    refine x_then ?_
    refine c_seq ?_
    refine c_heldS [6] mixed rfl (by repeat (first | exact SubO.nil | refine SubO.cons rfl ?_)) (by first | rfl | simp [okCels, allOk_plain]) ?_
    refine t_takeD 0 rfl (by kernel_rfl) rfl rfl rfl (y_val tok rfl) rfl ?_
    refine t_takeD 1 rfl (by kernel_rfl) rfl rfl rfl (y_val tok rfl) rfl ?_
    refine t_takeD 2 rfl (by kernel_rfl) rfl rfl rfl (y_aidx tok 0 rfl (by rw [hk]; rfl) (fun hg => by rw [hk]; decide)) rfl ?_
    refine t_takeD 3 rfl (by kernel_rfl) rfl rfl rfl (y_ald tok (x := .fn 44 []) rfl rfl (fun _ => rfl)) rfl ?_
    refine t_takeD 4 rfl (by kernel_rfl) rfl rfl rfl (y_val tok rfl) rfl ?_
    refine t_takeD 5 rfl (by kernel_rfl) rfl rfl rfl (y_val tok rfl) rfl ?_
    refine t_go ?_
    refine h_one 6 (by kernel_rfl) ?_
    refine h_to 6 rfl rfl rfl rfl rfl rfl (s_bookW (lo := 5) (a := 6) (b := 7) (c := 8) (fun _ => True) (slR r.S) (hoR r.H) (hoR r.Q) rfl fnok44 rfl rfl rfl rfl ⟨⟨by decide, by decide⟩, by decide⟩ (fun E w hm hin hle => hmc (bkE E 5 6 7 8) _ w hin)) (.inl rfl) (fun _ _ => ?_)
    refine h_done [6, 8] (by kernel_rfl) rfl ?_
    refine x_then ?_
    refine c_seq ?_
    refine c_region ?_
    refine o_yield rfl rfl rfl (y_val tok rfl) ?_
    refine o_yield rfl rfl rfl (y_val tok rfl) ?_
    refine o_yield rfl rfl rfl (y_val tok rfl) ?_
    refine o_yield rfl rfl rfl (y_val tok rfl) ?_
    refine o_store tok rfl rfl rfl (by first | exact ⟨trivial, trivial⟩ | (repeat' first | exact trivial | exact rfl | apply And.intro); done | simp [onesP, oneP, lk, Value.oneCell']) ?_
    refine o_end [6] rfl ?_
    refine x_then ?_
    refine c_ret ?_
    refine b_ret tok rfl ?_
    intro E' w' hm _
    exact TbIs.out hV (hm.below (Vw.le.refl _)) (hm.rowFresh (Vw.le.refl _) (l := 9) rfl) (hm.rowFresh (Vw.le.refl _) (l := 10) rfl) (hm.rowFresh (Vw.le.refl _) (l := 11) rfl)

theorem apply1_c (V : Vw) (g : Geo) (tv : Value) (t : Tb) (ht : t.Fit) (hq1 : t.Q.length + 1 ≤ 100000) (c : Cmd) (hk : c.kind = 1) (w : World) (hV : V.le (vw w)) (h : TbIs V tv t) :
    Calls Try.prog 24 #[g.val, tv, c.val] w (TbOut V (t.apply g.blocks c) w) := by
  obtain ⟨a, n, c0, a2, n2, c2, a3, n3, c3, rfl, h1, h2, h3⟩ := id h
  have hres : t.apply g.blocks c = t.leave c.by_ := by rw [Tb.apply, hk]; rfl
  rw [hres]
  have hmc := fun E V w hm => leave_c g t ht c E V w hm
  clear hres
  generalize t.leave c.by_ = r at hmc ⊢
  have hw : IntKind.i64.wrap c.kind = c.kind := wrapI (by omega) (by omega)
  refine enter (E := E0) (O := []) (nl := 0) (V := vw w) [.a (.v g.val), .a (.v (.agg #[.slice a n c0, .slice a2 n2 c2, .slice a3 n3 c3])), .a (.v c.val)] Try.func24 rfl rfl (mem0 E0 0 w) rfl rfl ?_
  refine c_seq ?_
  refine c_region ?_
  refine o_new tok rfl rfl rfl rfl ?_
  refine o_new tok rfl rfl rfl rfl ?_
  refine o_new tok rfl rfl rfl rfl ?_
  refine o_new tok rfl rfl rfl rfl ?_
  refine o_end [3, 4, 5, 6] rfl ?_
  refine x_then ?_
  refine c_seq ?_
  refine c_region ?_
  refine o_call (.agg [.fn 44 [], .fn 45 [], .fn 46 [], .fn 47 [], .fn 48 [], .fn 49 []]) rfl rfl fnok33 rfl rfl rfl (fun hg E w1 hm => by exact ways_c _) ?_
  refine o_new tok rfl rfl rfl rfl ?_
  refine o_store tok rfl rfl rfl (by first | exact ⟨trivial, trivial⟩ | (repeat' first | exact trivial | exact rfl | apply And.intro); done | simp [onesP, oneP, lk, Value.oneCell']) ?_
  refine o_end [3, 4, 5, 6, 7] rfl ?_
  refine x_then ?_
  refine c_seq ?_
  refine c_seq ?_
  refine c_region ?_
  refine o_yield rfl rfl rfl (y_val tok rfl) ?_
  refine o_yield rfl rfl rfl (y_val tok rfl) ?_
  refine o_yield rfl rfl rfl (y_val tok rfl) ?_
  refine o_yield rfl rfl rfl (y_val tok rfl) ?_
  refine o_yield rfl rfl rfl (y_val tok rfl) ?_
  refine o_yield rfl rfl rfl (y_val tok rfl) ?_
  refine o_yield rfl rfl rfl (y_val tok rfl) ?_
  refine o_yield rfl rfl rfl (y_val tok rfl) ?_
  refine o_yield rfl rfl rfl (y_val tok rfl) ?_
  refine o_end [3, 4, 5, 6, 7, 18] rfl ?_
  refine x_then ?_
  refine c_cond rfl (fun h => ?_) (fun h => ?_)
  ·
    rw [hw, hk] at h
    exact absurd h (by decide)
  ·
    clear h
    refine c_skip ?_
    refine x_then ?_
    refine c_seq ?_
    refine c_region ?_
    refine o_yield rfl rfl rfl (y_val tok rfl) ?_
    refine o_yield rfl rfl rfl (y_val tok rfl) ?_
    refine o_step rfl rfl rfl rfl rfl (s_bookNew (e0 := 100) (gs := g.cells) (R1 := slR t.S) (R2 := hoR t.H) (R3 := hoR t.Q) rfl fnok34 (fun E w1 hm => topen_c V g _ t ht w1 (hV.trans hm.leV) (by assumption))) (fun _ _ => ?_)
    refine o_yield rfl rfl rfl (y_val tok rfl) ?_
    refine o_end [5, 6, 7, 8] rfl ?_
    refine x_then ?_
    refine c_seq ?_
    refine c_heldS [6] mixed rfl (by repeat (first | exact SubO.nil | refine SubO.cons rfl ?_)) (by first | rfl | simp [okCels, allOk_plain]) ?_
    refine t_takeD 0 rfl (by kernel_rfl) rfl rfl rfl (y_val tok rfl) rfl ?_
    refine t_takeD 1 rfl (by kernel_rfl) rfl rfl rfl (y_val tok rfl) rfl ?_
    refine t_takeD 2 rfl (by kernel_rfl) rfl rfl rfl (y_aidx tok 1 rfl (by rw [hk]; rfl) (fun hg => by rw [hk]; decide)) rfl ?_
    refine t_takeD 3 rfl (by kernel_rfl) rfl rfl rfl (y_ald tok (x := .fn 45 []) rfl rfl (fun _ => rfl)) rfl ?_
    refine t_takeD 4 rfl (by kernel_rfl) rfl rfl rfl (y_val tok rfl) rfl ?_
    refine t_takeD 5 rfl (by kernel_rfl) rfl rfl rfl (y_val tok rfl) rfl ?_
    refine t_go ?_
    refine h_one 6 (by kernel_rfl) ?_
    refine h_to 6 rfl rfl rfl rfl rfl rfl (s_bookW (lo := 5) (a := 6) (b := 7) (c := 8) (fun _ => True) (slR r.S) (hoR r.H) (hoR r.Q) rfl fnok45 rfl rfl rfl rfl ⟨⟨by decide, by decide⟩, by decide⟩ (fun E w hm hin hle => hmc (bkE E 5 6 7 8) _ w hin)) (.inl rfl) (fun _ _ => ?_)
    refine h_done [6, 8] (by kernel_rfl) rfl ?_
    refine x_then ?_
    refine c_seq ?_
    refine c_region ?_
    refine o_yield rfl rfl rfl (y_val tok rfl) ?_
    refine o_yield rfl rfl rfl (y_val tok rfl) ?_
    refine o_yield rfl rfl rfl (y_val tok rfl) ?_
    refine o_yield rfl rfl rfl (y_val tok rfl) ?_
    refine o_store tok rfl rfl rfl (by first | exact ⟨trivial, trivial⟩ | (repeat' first | exact trivial | exact rfl | apply And.intro); done | simp [onesP, oneP, lk, Value.oneCell']) ?_
    refine o_end [6] rfl ?_
    refine x_then ?_
    refine c_ret ?_
    refine b_ret tok rfl ?_
    intro E' w' hm _
    exact TbIs.out hV (hm.below (Vw.le.refl _)) (hm.rowFresh (Vw.le.refl _) (l := 9) rfl) (hm.rowFresh (Vw.le.refl _) (l := 10) rfl) (hm.rowFresh (Vw.le.refl _) (l := 11) rfl)

theorem apply2_c (V : Vw) (g : Geo) (tv : Value) (t : Tb) (ht : t.Fit) (hq1 : t.Q.length + 1 ≤ 100000) (c : Cmd) (hk : c.kind = 2) (w : World) (hV : V.le (vw w)) (h : TbIs V tv t) :
    Calls Try.prog 24 #[g.val, tv, c.val] w (TbOut V (t.apply g.blocks c) w) := by
  obtain ⟨a, n, c0, a2, n2, c2, a3, n3, c3, rfl, h1, h2, h3⟩ := id h
  have hres : t.apply g.blocks c = t.ask g.blocks (askH c) := by rw [Tb.apply, hk]; rfl
  rw [hres]
  have hmc := fun E V w hm => ask_c g t ht hq1 c E V w hm
  clear hres
  generalize t.ask g.blocks (askH c) = r at hmc ⊢
  have hw : IntKind.i64.wrap c.kind = c.kind := wrapI (by omega) (by omega)
  refine enter (E := E0) (O := []) (nl := 0) (V := vw w) [.a (.v g.val), .a (.v (.agg #[.slice a n c0, .slice a2 n2 c2, .slice a3 n3 c3])), .a (.v c.val)] Try.func24 rfl rfl (mem0 E0 0 w) rfl rfl ?_
  refine c_seq ?_
  refine c_region ?_
  refine o_new tok rfl rfl rfl rfl ?_
  refine o_new tok rfl rfl rfl rfl ?_
  refine o_new tok rfl rfl rfl rfl ?_
  refine o_new tok rfl rfl rfl rfl ?_
  refine o_end [3, 4, 5, 6] rfl ?_
  refine x_then ?_
  refine c_seq ?_
  refine c_region ?_
  refine o_call (.agg [.fn 44 [], .fn 45 [], .fn 46 [], .fn 47 [], .fn 48 [], .fn 49 []]) rfl rfl fnok33 rfl rfl rfl (fun hg E w1 hm => by exact ways_c _) ?_
  refine o_new tok rfl rfl rfl rfl ?_
  refine o_store tok rfl rfl rfl (by first | exact ⟨trivial, trivial⟩ | (repeat' first | exact trivial | exact rfl | apply And.intro); done | simp [onesP, oneP, lk, Value.oneCell']) ?_
  refine o_end [3, 4, 5, 6, 7] rfl ?_
  refine x_then ?_
  refine c_seq ?_
  refine c_seq ?_
  refine c_region ?_
  refine o_yield rfl rfl rfl (y_val tok rfl) ?_
  refine o_yield rfl rfl rfl (y_val tok rfl) ?_
  refine o_yield rfl rfl rfl (y_val tok rfl) ?_
  refine o_yield rfl rfl rfl (y_val tok rfl) ?_
  refine o_yield rfl rfl rfl (y_val tok rfl) ?_
  refine o_yield rfl rfl rfl (y_val tok rfl) ?_
  refine o_yield rfl rfl rfl (y_val tok rfl) ?_
  refine o_yield rfl rfl rfl (y_val tok rfl) ?_
  refine o_yield rfl rfl rfl (y_val tok rfl) ?_
  refine o_end [3, 4, 5, 6, 7, 18] rfl ?_
  refine x_then ?_
  refine c_cond rfl (fun h => ?_) (fun h => ?_)
  ·
    rw [hw, hk] at h
    exact absurd h (by decide)
  ·
    clear h
    refine c_skip ?_
    refine x_then ?_
    refine c_seq ?_
    refine c_region ?_
    refine o_yield rfl rfl rfl (y_val tok rfl) ?_
    refine o_yield rfl rfl rfl (y_val tok rfl) ?_
    refine o_step rfl rfl rfl rfl rfl (s_bookNew (e0 := 100) (gs := g.cells) (R1 := slR t.S) (R2 := hoR t.H) (R3 := hoR t.Q) rfl fnok34 (fun E w1 hm => topen_c V g _ t ht w1 (hV.trans hm.leV) (by assumption))) (fun _ _ => ?_)
    refine o_yield rfl rfl rfl (y_val tok rfl) ?_
    refine o_end [5, 6, 7, 8] rfl ?_
    refine x_then ?_
    refine c_seq ?_
    refine c_heldS [6] mixed rfl (by repeat (first | exact SubO.nil | refine SubO.cons rfl ?_)) (by first | rfl | simp [okCels, allOk_plain]) ?_
    refine t_takeD 0 rfl (by kernel_rfl) rfl rfl rfl (y_val tok rfl) rfl ?_
    refine t_takeD 1 rfl (by kernel_rfl) rfl rfl rfl (y_val tok rfl) rfl ?_
    refine t_takeD 2 rfl (by kernel_rfl) rfl rfl rfl (y_aidx tok 2 rfl (by rw [hk]; rfl) (fun hg => by rw [hk]; decide)) rfl ?_
    refine t_takeD 3 rfl (by kernel_rfl) rfl rfl rfl (y_ald tok (x := .fn 46 []) rfl rfl (fun _ => rfl)) rfl ?_
    refine t_takeD 4 rfl (by kernel_rfl) rfl rfl rfl (y_val tok rfl) rfl ?_
    refine t_takeD 5 rfl (by kernel_rfl) rfl rfl rfl (y_val tok rfl) rfl ?_
    refine t_go ?_
    refine h_one 6 (by kernel_rfl) ?_
    refine h_to 6 rfl rfl rfl rfl rfl rfl (s_bookW (lo := 5) (a := 6) (b := 7) (c := 8) (fun _ => True) (slR r.S) (hoR r.H) (hoR r.Q) rfl fnok46 rfl rfl rfl rfl ⟨⟨by decide, by decide⟩, by decide⟩ (fun E w hm hin hle => hmc (bkE E 5 6 7 8) _ w hin)) (.inl rfl) (fun _ _ => ?_)
    refine h_done [6, 8] (by kernel_rfl) rfl ?_
    refine x_then ?_
    refine c_seq ?_
    refine c_region ?_
    refine o_yield rfl rfl rfl (y_val tok rfl) ?_
    refine o_yield rfl rfl rfl (y_val tok rfl) ?_
    refine o_yield rfl rfl rfl (y_val tok rfl) ?_
    refine o_yield rfl rfl rfl (y_val tok rfl) ?_
    refine o_store tok rfl rfl rfl (by first | exact ⟨trivial, trivial⟩ | (repeat' first | exact trivial | exact rfl | apply And.intro); done | simp [onesP, oneP, lk, Value.oneCell']) ?_
    refine o_end [6] rfl ?_
    refine x_then ?_
    refine c_ret ?_
    refine b_ret tok rfl ?_
    intro E' w' hm _
    exact TbIs.out hV (hm.below (Vw.le.refl _)) (hm.rowFresh (Vw.le.refl _) (l := 9) rfl) (hm.rowFresh (Vw.le.refl _) (l := 10) rfl) (hm.rowFresh (Vw.le.refl _) (l := 11) rfl)

theorem apply3_c (V : Vw) (g : Geo) (tv : Value) (t : Tb) (ht : t.Fit) (hq1 : t.Q.length + 1 ≤ 100000) (c : Cmd) (hk : c.kind = 3) (w : World) (hV : V.le (vw w)) (h : TbIs V tv t) :
    Calls Try.prog 24 #[g.val, tv, c.val] w (TbOut V (t.apply g.blocks c) w) := by
  obtain ⟨a, n, c0, a2, n2, c2, a3, n3, c3, rfl, h1, h2, h3⟩ := id h
  have hres : t.apply g.blocks c = t.free c.by_ c.lo c.hi := by rw [Tb.apply, hk]; rfl
  rw [hres]
  have hmc := fun E V w hm => free_c g t ht c E V w hm
  clear hres
  generalize t.free c.by_ c.lo c.hi = r at hmc ⊢
  have hw : IntKind.i64.wrap c.kind = c.kind := wrapI (by omega) (by omega)
  refine enter (E := E0) (O := []) (nl := 0) (V := vw w) [.a (.v g.val), .a (.v (.agg #[.slice a n c0, .slice a2 n2 c2, .slice a3 n3 c3])), .a (.v c.val)] Try.func24 rfl rfl (mem0 E0 0 w) rfl rfl ?_
  refine c_seq ?_
  refine c_region ?_
  refine o_new tok rfl rfl rfl rfl ?_
  refine o_new tok rfl rfl rfl rfl ?_
  refine o_new tok rfl rfl rfl rfl ?_
  refine o_new tok rfl rfl rfl rfl ?_
  refine o_end [3, 4, 5, 6] rfl ?_
  refine x_then ?_
  refine c_seq ?_
  refine c_region ?_
  refine o_call (.agg [.fn 44 [], .fn 45 [], .fn 46 [], .fn 47 [], .fn 48 [], .fn 49 []]) rfl rfl fnok33 rfl rfl rfl (fun hg E w1 hm => by exact ways_c _) ?_
  refine o_new tok rfl rfl rfl rfl ?_
  refine o_store tok rfl rfl rfl (by first | exact ⟨trivial, trivial⟩ | (repeat' first | exact trivial | exact rfl | apply And.intro); done | simp [onesP, oneP, lk, Value.oneCell']) ?_
  refine o_end [3, 4, 5, 6, 7] rfl ?_
  refine x_then ?_
  refine c_seq ?_
  refine c_seq ?_
  refine c_region ?_
  refine o_yield rfl rfl rfl (y_val tok rfl) ?_
  refine o_yield rfl rfl rfl (y_val tok rfl) ?_
  refine o_yield rfl rfl rfl (y_val tok rfl) ?_
  refine o_yield rfl rfl rfl (y_val tok rfl) ?_
  refine o_yield rfl rfl rfl (y_val tok rfl) ?_
  refine o_yield rfl rfl rfl (y_val tok rfl) ?_
  refine o_yield rfl rfl rfl (y_val tok rfl) ?_
  refine o_yield rfl rfl rfl (y_val tok rfl) ?_
  refine o_yield rfl rfl rfl (y_val tok rfl) ?_
  refine o_end [3, 4, 5, 6, 7, 18] rfl ?_
  refine x_then ?_
  refine c_cond rfl (fun h => ?_) (fun h => ?_)
  ·
    rw [hw, hk] at h
    exact absurd h (by decide)
  ·
    clear h
    refine c_skip ?_
    refine x_then ?_
    refine c_seq ?_
    refine c_region ?_
    refine o_yield rfl rfl rfl (y_val tok rfl) ?_
    refine o_yield rfl rfl rfl (y_val tok rfl) ?_
    refine o_step rfl rfl rfl rfl rfl (s_bookNew (e0 := 100) (gs := g.cells) (R1 := slR t.S) (R2 := hoR t.H) (R3 := hoR t.Q) rfl fnok34 (fun E w1 hm => topen_c V g _ t ht w1 (hV.trans hm.leV) (by assumption))) (fun _ _ => ?_)
    refine o_yield rfl rfl rfl (y_val tok rfl) ?_
    refine o_end [5, 6, 7, 8] rfl ?_
    refine x_then ?_
    refine c_seq ?_
    refine c_heldS [6] mixed rfl (by repeat (first | exact SubO.nil | refine SubO.cons rfl ?_)) (by first | rfl | simp [okCels, allOk_plain]) ?_
    refine t_takeD 0 rfl (by kernel_rfl) rfl rfl rfl (y_val tok rfl) rfl ?_
    refine t_takeD 1 rfl (by kernel_rfl) rfl rfl rfl (y_val tok rfl) rfl ?_
    refine t_takeD 2 rfl (by kernel_rfl) rfl rfl rfl (y_aidx tok 3 rfl (by rw [hk]; rfl) (fun hg => by rw [hk]; decide)) rfl ?_
    refine t_takeD 3 rfl (by kernel_rfl) rfl rfl rfl (y_ald tok (x := .fn 47 []) rfl rfl (fun _ => rfl)) rfl ?_
    refine t_takeD 4 rfl (by kernel_rfl) rfl rfl rfl (y_val tok rfl) rfl ?_
    refine t_takeD 5 rfl (by kernel_rfl) rfl rfl rfl (y_val tok rfl) rfl ?_
    refine t_go ?_
    refine h_one 6 (by kernel_rfl) ?_
    refine h_to 6 rfl rfl rfl rfl rfl rfl (s_bookW (lo := 5) (a := 6) (b := 7) (c := 8) (fun _ => True) (slR r.S) (hoR r.H) (hoR r.Q) rfl fnok47 rfl rfl rfl rfl ⟨⟨by decide, by decide⟩, by decide⟩ (fun E w hm hin hle => hmc (bkE E 5 6 7 8) _ w hin)) (.inl rfl) (fun _ _ => ?_)
    refine h_done [6, 8] (by kernel_rfl) rfl ?_
    refine x_then ?_
    refine c_seq ?_
    refine c_region ?_
    refine o_yield rfl rfl rfl (y_val tok rfl) ?_
    refine o_yield rfl rfl rfl (y_val tok rfl) ?_
    refine o_yield rfl rfl rfl (y_val tok rfl) ?_
    refine o_yield rfl rfl rfl (y_val tok rfl) ?_
    refine o_store tok rfl rfl rfl (by first | exact ⟨trivial, trivial⟩ | (repeat' first | exact trivial | exact rfl | apply And.intro); done | simp [onesP, oneP, lk, Value.oneCell']) ?_
    refine o_end [6] rfl ?_
    refine x_then ?_
    refine c_ret ?_
    refine b_ret tok rfl ?_
    intro E' w' hm _
    exact TbIs.out hV (hm.below (Vw.le.refl _)) (hm.rowFresh (Vw.le.refl _) (l := 9) rfl) (hm.rowFresh (Vw.le.refl _) (l := 10) rfl) (hm.rowFresh (Vw.le.refl _) (l := 11) rfl)

theorem apply4_c (V : Vw) (g : Geo) (tv : Value) (t : Tb) (ht : t.Fit) (hq1 : t.Q.length + 1 ≤ 100000) (c : Cmd) (hk : c.kind = 4) (w : World) (hV : V.le (vw w)) (h : TbIs V tv t) :
    Calls Try.prog 24 #[g.val, tv, c.val] w (TbOut V (t.apply g.blocks c) w) := by
  obtain ⟨a, n, c0, a2, n2, c2, a3, n3, c3, rfl, h1, h2, h3⟩ := id h
  have hres : t.apply g.blocks c = t.claim c.by_ c.dead c.was := by rw [Tb.apply, hk]; rfl
  rw [hres]
  have hmc := fun E V w hm => claim_c g t ht c E V w hm
  clear hres
  generalize t.claim c.by_ c.dead c.was = r at hmc ⊢
  have hw : IntKind.i64.wrap c.kind = c.kind := wrapI (by omega) (by omega)
  refine enter (E := E0) (O := []) (nl := 0) (V := vw w) [.a (.v g.val), .a (.v (.agg #[.slice a n c0, .slice a2 n2 c2, .slice a3 n3 c3])), .a (.v c.val)] Try.func24 rfl rfl (mem0 E0 0 w) rfl rfl ?_
  refine c_seq ?_
  refine c_region ?_
  refine o_new tok rfl rfl rfl rfl ?_
  refine o_new tok rfl rfl rfl rfl ?_
  refine o_new tok rfl rfl rfl rfl ?_
  refine o_new tok rfl rfl rfl rfl ?_
  refine o_end [3, 4, 5, 6] rfl ?_
  refine x_then ?_
  refine c_seq ?_
  refine c_region ?_
  refine o_call (.agg [.fn 44 [], .fn 45 [], .fn 46 [], .fn 47 [], .fn 48 [], .fn 49 []]) rfl rfl fnok33 rfl rfl rfl (fun hg E w1 hm => by exact ways_c _) ?_
  refine o_new tok rfl rfl rfl rfl ?_
  refine o_store tok rfl rfl rfl (by first | exact ⟨trivial, trivial⟩ | (repeat' first | exact trivial | exact rfl | apply And.intro); done | simp [onesP, oneP, lk, Value.oneCell']) ?_
  refine o_end [3, 4, 5, 6, 7] rfl ?_
  refine x_then ?_
  refine c_seq ?_
  refine c_seq ?_
  refine c_region ?_
  refine o_yield rfl rfl rfl (y_val tok rfl) ?_
  refine o_yield rfl rfl rfl (y_val tok rfl) ?_
  refine o_yield rfl rfl rfl (y_val tok rfl) ?_
  refine o_yield rfl rfl rfl (y_val tok rfl) ?_
  refine o_yield rfl rfl rfl (y_val tok rfl) ?_
  refine o_yield rfl rfl rfl (y_val tok rfl) ?_
  refine o_yield rfl rfl rfl (y_val tok rfl) ?_
  refine o_yield rfl rfl rfl (y_val tok rfl) ?_
  refine o_yield rfl rfl rfl (y_val tok rfl) ?_
  refine o_end [3, 4, 5, 6, 7, 18] rfl ?_
  refine x_then ?_
  refine c_cond rfl (fun h => ?_) (fun h => ?_)
  ·
    rw [hw, hk] at h
    exact absurd h (by decide)
  ·
    clear h
    refine c_skip ?_
    refine x_then ?_
    refine c_seq ?_
    refine c_region ?_
    refine o_yield rfl rfl rfl (y_val tok rfl) ?_
    refine o_yield rfl rfl rfl (y_val tok rfl) ?_
    refine o_step rfl rfl rfl rfl rfl (s_bookNew (e0 := 100) (gs := g.cells) (R1 := slR t.S) (R2 := hoR t.H) (R3 := hoR t.Q) rfl fnok34 (fun E w1 hm => topen_c V g _ t ht w1 (hV.trans hm.leV) (by assumption))) (fun _ _ => ?_)
    refine o_yield rfl rfl rfl (y_val tok rfl) ?_
    refine o_end [5, 6, 7, 8] rfl ?_
    refine x_then ?_
    refine c_seq ?_
    refine c_heldS [6] mixed rfl (by repeat (first | exact SubO.nil | refine SubO.cons rfl ?_)) (by first | rfl | simp [okCels, allOk_plain]) ?_
    refine t_takeD 0 rfl (by kernel_rfl) rfl rfl rfl (y_val tok rfl) rfl ?_
    refine t_takeD 1 rfl (by kernel_rfl) rfl rfl rfl (y_val tok rfl) rfl ?_
    refine t_takeD 2 rfl (by kernel_rfl) rfl rfl rfl (y_aidx tok 4 rfl (by rw [hk]; rfl) (fun hg => by rw [hk]; decide)) rfl ?_
    refine t_takeD 3 rfl (by kernel_rfl) rfl rfl rfl (y_ald tok (x := .fn 48 []) rfl rfl (fun _ => rfl)) rfl ?_
    refine t_takeD 4 rfl (by kernel_rfl) rfl rfl rfl (y_val tok rfl) rfl ?_
    refine t_takeD 5 rfl (by kernel_rfl) rfl rfl rfl (y_val tok rfl) rfl ?_
    refine t_go ?_
    refine h_one 6 (by kernel_rfl) ?_
    refine h_to 6 rfl rfl rfl rfl rfl rfl (s_bookW (lo := 5) (a := 6) (b := 7) (c := 8) (fun _ => True) (slR r.S) (hoR r.H) (hoR r.Q) rfl fnok48 rfl rfl rfl rfl ⟨⟨by decide, by decide⟩, by decide⟩ (fun E w hm hin hle => hmc (bkE E 5 6 7 8) _ w hin)) (.inl rfl) (fun _ _ => ?_)
    refine h_done [6, 8] (by kernel_rfl) rfl ?_
    refine x_then ?_
    refine c_seq ?_
    refine c_region ?_
    refine o_yield rfl rfl rfl (y_val tok rfl) ?_
    refine o_yield rfl rfl rfl (y_val tok rfl) ?_
    refine o_yield rfl rfl rfl (y_val tok rfl) ?_
    refine o_yield rfl rfl rfl (y_val tok rfl) ?_
    refine o_store tok rfl rfl rfl (by first | exact ⟨trivial, trivial⟩ | (repeat' first | exact trivial | exact rfl | apply And.intro); done | simp [onesP, oneP, lk, Value.oneCell']) ?_
    refine o_end [6] rfl ?_
    refine x_then ?_
    refine c_ret ?_
    refine b_ret tok rfl ?_
    intro E' w' hm _
    exact TbIs.out hV (hm.below (Vw.le.refl _)) (hm.rowFresh (Vw.le.refl _) (l := 9) rfl) (hm.rowFresh (Vw.le.refl _) (l := 10) rfl) (hm.rowFresh (Vw.le.refl _) (l := 11) rfl)

theorem apply5_c (V : Vw) (g : Geo) (tv : Value) (t : Tb) (ht : t.Fit) (hq1 : t.Q.length + 1 ≤ 100000) (c : Cmd) (hk : c.kind = 5) (w : World) (hV : V.le (vw w)) (h : TbIs V tv t) :
    Calls Try.prog 24 #[g.val, tv, c.val] w (TbOut V (t.apply g.blocks c) w) := by
  obtain ⟨a, n, c0, a2, n2, c2, a3, n3, c3, rfl, h1, h2, h3⟩ := id h
  have hres : t.apply g.blocks c = t.purge c.by_ c.dead := by rw [Tb.apply, hk]; rfl
  rw [hres]
  have hmc := fun E V w hm => purge_c g t ht c E V w hm
  clear hres
  generalize t.purge c.by_ c.dead = r at hmc ⊢
  have hw : IntKind.i64.wrap c.kind = c.kind := wrapI (by omega) (by omega)
  refine enter (E := E0) (O := []) (nl := 0) (V := vw w) [.a (.v g.val), .a (.v (.agg #[.slice a n c0, .slice a2 n2 c2, .slice a3 n3 c3])), .a (.v c.val)] Try.func24 rfl rfl (mem0 E0 0 w) rfl rfl ?_
  refine c_seq ?_
  refine c_region ?_
  refine o_new tok rfl rfl rfl rfl ?_
  refine o_new tok rfl rfl rfl rfl ?_
  refine o_new tok rfl rfl rfl rfl ?_
  refine o_new tok rfl rfl rfl rfl ?_
  refine o_end [3, 4, 5, 6] rfl ?_
  refine x_then ?_
  refine c_seq ?_
  refine c_region ?_
  refine o_call (.agg [.fn 44 [], .fn 45 [], .fn 46 [], .fn 47 [], .fn 48 [], .fn 49 []]) rfl rfl fnok33 rfl rfl rfl (fun hg E w1 hm => by exact ways_c _) ?_
  refine o_new tok rfl rfl rfl rfl ?_
  refine o_store tok rfl rfl rfl (by first | exact ⟨trivial, trivial⟩ | (repeat' first | exact trivial | exact rfl | apply And.intro); done | simp [onesP, oneP, lk, Value.oneCell']) ?_
  refine o_end [3, 4, 5, 6, 7] rfl ?_
  refine x_then ?_
  refine c_seq ?_
  refine c_seq ?_
  refine c_region ?_
  refine o_yield rfl rfl rfl (y_val tok rfl) ?_
  refine o_yield rfl rfl rfl (y_val tok rfl) ?_
  refine o_yield rfl rfl rfl (y_val tok rfl) ?_
  refine o_yield rfl rfl rfl (y_val tok rfl) ?_
  refine o_yield rfl rfl rfl (y_val tok rfl) ?_
  refine o_yield rfl rfl rfl (y_val tok rfl) ?_
  refine o_yield rfl rfl rfl (y_val tok rfl) ?_
  refine o_yield rfl rfl rfl (y_val tok rfl) ?_
  refine o_yield rfl rfl rfl (y_val tok rfl) ?_
  refine o_end [3, 4, 5, 6, 7, 18] rfl ?_
  refine x_then ?_
  refine c_cond rfl (fun h => ?_) (fun h => ?_)
  ·
    rw [hw, hk] at h
    exact absurd h (by decide)
  ·
    clear h
    refine c_skip ?_
    refine x_then ?_
    refine c_seq ?_
    refine c_region ?_
    refine o_yield rfl rfl rfl (y_val tok rfl) ?_
    refine o_yield rfl rfl rfl (y_val tok rfl) ?_
    refine o_step rfl rfl rfl rfl rfl (s_bookNew (e0 := 100) (gs := g.cells) (R1 := slR t.S) (R2 := hoR t.H) (R3 := hoR t.Q) rfl fnok34 (fun E w1 hm => topen_c V g _ t ht w1 (hV.trans hm.leV) (by assumption))) (fun _ _ => ?_)
    refine o_yield rfl rfl rfl (y_val tok rfl) ?_
    refine o_end [5, 6, 7, 8] rfl ?_
    refine x_then ?_
    refine c_seq ?_
    refine c_heldS [6] mixed rfl (by repeat (first | exact SubO.nil | refine SubO.cons rfl ?_)) (by first | rfl | simp [okCels, allOk_plain]) ?_
    refine t_takeD 0 rfl (by kernel_rfl) rfl rfl rfl (y_val tok rfl) rfl ?_
    refine t_takeD 1 rfl (by kernel_rfl) rfl rfl rfl (y_val tok rfl) rfl ?_
    refine t_takeD 2 rfl (by kernel_rfl) rfl rfl rfl (y_aidx tok 5 rfl (by rw [hk]; rfl) (fun hg => by rw [hk]; decide)) rfl ?_
    refine t_takeD 3 rfl (by kernel_rfl) rfl rfl rfl (y_ald tok (x := .fn 49 []) rfl rfl (fun _ => rfl)) rfl ?_
    refine t_takeD 4 rfl (by kernel_rfl) rfl rfl rfl (y_val tok rfl) rfl ?_
    refine t_takeD 5 rfl (by kernel_rfl) rfl rfl rfl (y_val tok rfl) rfl ?_
    refine t_go ?_
    refine h_one 6 (by kernel_rfl) ?_
    refine h_to 6 rfl rfl rfl rfl rfl rfl (s_bookW (lo := 5) (a := 6) (b := 7) (c := 8) (fun _ => True) (slR r.S) (hoR r.H) (hoR r.Q) rfl fnok49 rfl rfl rfl rfl ⟨⟨by decide, by decide⟩, by decide⟩ (fun E w hm hin hle => hmc (bkE E 5 6 7 8) _ w hin)) (.inl rfl) (fun _ _ => ?_)
    refine h_done [6, 8] (by kernel_rfl) rfl ?_
    refine x_then ?_
    refine c_seq ?_
    refine c_region ?_
    refine o_yield rfl rfl rfl (y_val tok rfl) ?_
    refine o_yield rfl rfl rfl (y_val tok rfl) ?_
    refine o_yield rfl rfl rfl (y_val tok rfl) ?_
    refine o_yield rfl rfl rfl (y_val tok rfl) ?_
    refine o_store tok rfl rfl rfl (by first | exact ⟨trivial, trivial⟩ | (repeat' first | exact trivial | exact rfl | apply And.intro); done | simp [onesP, oneP, lk, Value.oneCell']) ?_
    refine o_end [6] rfl ?_
    refine x_then ?_
    refine c_ret ?_
    refine b_ret tok rfl ?_
    intro E' w' hm _
    exact TbIs.out hV (hm.below (Vw.le.refl _)) (hm.rowFresh (Vw.le.refl _) (l := 9) rfl) (hm.rowFresh (Vw.le.refl _) (l := 10) rfl) (hm.rowFresh (Vw.le.refl _) (l := 11) rfl)

theorem applyN_c (V : Vw) (g : Geo) (tv : Value) (t : Tb) (c : Cmd) (hk : c.kind < 0 ∨ 6 ≤ c.kind) (hck : -128 ≤ c.kind ∧ c.kind ≤ 127) (w : World) (hV : V.le (vw w)) (h : TbIs V tv t) :
    Calls Try.prog 24 #[g.val, tv, c.val] w (TbOut V (t.apply g.blocks c) w) := by
  obtain ⟨a, n, c0, a2, n2, c2, a3, n3, c3, rfl, h1, h2, h3⟩ := id h
  have hres : t.apply g.blocks c = t := by rw [Tb.apply, if_neg (by omega), if_neg (by omega), if_neg (by omega), if_neg (by omega), if_neg (by omega), if_neg (by omega)]
  rw [hres]
  have hw : IntKind.i64.wrap c.kind = c.kind := wrapI (by omega) (by omega)
  refine enter (E := E0) (O := []) (nl := 0) (V := vw w) [.a (.v g.val), .a (.v (.agg #[.slice a n c0, .slice a2 n2 c2, .slice a3 n3 c3])), .a (.v c.val)] Try.func24 rfl rfl (mem0 E0 0 w) rfl rfl ?_
  refine c_seq ?_
  refine c_region ?_
  refine o_new tok rfl rfl rfl rfl ?_
  refine o_new tok rfl rfl rfl rfl ?_
  refine o_new tok rfl rfl rfl rfl ?_
  refine o_new tok rfl rfl rfl rfl ?_
  refine o_end [3, 4, 5, 6] rfl ?_
  refine x_then ?_
  refine c_seq ?_
  refine c_region ?_
  refine o_call (.agg [.fn 44 [], .fn 45 [], .fn 46 [], .fn 47 [], .fn 48 [], .fn 49 []]) rfl rfl fnok33 rfl rfl rfl (fun hg E w1 hm => by exact ways_c _) ?_
  refine o_new tok rfl rfl rfl rfl ?_
  refine o_store tok rfl rfl rfl (by first | exact ⟨trivial, trivial⟩ | (repeat' first | exact trivial | exact rfl | apply And.intro); done | simp [onesP, oneP, lk, Value.oneCell']) ?_
  refine o_end [3, 4, 5, 6, 7] rfl ?_
  refine x_then ?_
  refine c_seq ?_
  refine c_seq ?_
  refine c_region ?_
  refine o_yield rfl rfl rfl (y_val tok rfl) ?_
  refine o_yield rfl rfl rfl (y_val tok rfl) ?_
  refine o_yield rfl rfl rfl (y_val tok rfl) ?_
  refine o_yield rfl rfl rfl (y_val tok rfl) ?_
  refine o_yield rfl rfl rfl (y_val tok rfl) ?_
  refine o_yield rfl rfl rfl (y_val tok rfl) ?_
  refine o_yield rfl rfl rfl (y_val tok rfl) ?_
  refine o_yield rfl rfl rfl (y_val tok rfl) ?_
  refine o_yield rfl rfl rfl (y_val tok rfl) ?_
  refine o_end [3, 4, 5, 6, 7, 18] rfl ?_
  refine x_then ?_
  refine c_cond rfl (fun h => ?_) (fun h => ?_)
  ·
    refine c_seq ?_
    refine c_region ?_
    refine o_yield rfl rfl rfl (y_val tok rfl) ?_
    refine o_store tok rfl rfl rfl (by first | exact ⟨trivial, trivial⟩ | (repeat' first | exact trivial | exact rfl | apply And.intro); done | simp [onesP, oneP, lk, Value.oneCell']) ?_
    refine o_end [6] rfl ?_
    refine x_then ?_
    refine c_ret ?_
    refine x_then_ret ?_
    refine b_ret tok rfl ?_
    intro E' w' hm _
    exact TbIs.same hV (hm.below (Vw.le.refl _)) (by assumption)
  ·
    rw [hw] at h
    simp only [Bool.or_eq_false_iff, decide_eq_false_iff_not] at h
    omega

theorem apply_c (V : Vw) (g : Geo) (tv : Value) (t : Tb) (ht : t.Fit) (hq1 : t.Q.length + 1 ≤ 100000) (c : Cmd) (hck : -128 ≤ c.kind ∧ c.kind ≤ 127) (w : World) (hV : V.le (vw w)) (h : TbIs V tv t) :
    Calls Try.prog 24 #[g.val, tv, c.val] w (TbOut V (t.apply g.blocks c) w) := by
  rcases (by omega : (c.kind < 0 ∨ 6 ≤ c.kind) ∨ c.kind = 0 ∨ c.kind = 1 ∨ c.kind = 2 ∨ c.kind = 3 ∨ c.kind = 4 ∨ c.kind = 5) with hk | hk | hk | hk | hk | hk | hk
  · exact applyN_c V g tv t c hk hck w hV h
  · exact apply0_c V g tv t ht hq1 c hk w hV h
  · exact apply1_c V g tv t ht hq1 c hk w hV h
  · exact apply2_c V g tv t ht hq1 c hk w hV h
  · exact apply3_c V g tv t ht hq1 c hk w hV h
  · exact apply4_c V g tv t ht hq1 c hk w hV h
  · exact apply5_c V g tv t ht hq1 c hk w hV h
end Go.Proofs.Ythmejhpfhkddiaa
