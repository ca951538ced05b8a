import Derived.Test.YtiapfhcimekdkaaMLkS
/- Locks: rows of holds that are exclusive; the document's commands. -/
set_option linter.unusedVariables false
set_option linter.unusedSimpArgs false
set_option maxRecDepth 100000
namespace Go.Proofs.Ytiapfhcimekdkaa
open Go Go.Eng Go.RowKit

def exP (L : List (Sl Hold)) : Prop := ∀ (i : Nat) (s : Sl Hold), L[i]? = some s → ∀ h ∈ s.l, fits h (catL (L.take i)) = true

theorem exFn_c (x : Hold) (ov : Value) (H : List Hold) (b : Nat) (V : Vw) (hb : V.get b = some (.cells [ov].toArray 27 (0, 0))) (hs : SlOf V Hold.cells 4 ov H) (hn : H.length ≤ lim) (w : World) (hV : V.le (vw w)) :
    Calls Try.prog 92 #[x.val, .pointer (some ⟨b, 0, none⟩)] w fun e w' => e = .returned (.bool (!fits x H)) ∧ Below w.heap.size w w' := by
  obtain ⟨a, n, c, rfl⟩ := sl_shape hs.sl
  refine enter (E := E0) (O := []) (nl := 0) (V := vw w) [.a (.v x.val), .a (.v (.pointer (some ⟨b, 0, none⟩)))] Try.func92 rfl rfl (mem0 E0 0 w) rfl rfl ?_
  refine c_seq ?_
  refine c_region ?_
  refine o_new tok rfl rfl rfl rfl ?_
  refine o_yield rfl rfl rfl (y_val tok rfl) ?_
  refine o_end [1, 2] rfl ?_
  refine x_then ?_
  refine c_seq ?_
  refine c_region ?_
  refine o_yield rfl rfl rfl (y_val tok rfl) ?_
  refine o_yield rfl rfl rfl (y_ldp (cs := [.slice a n c]) tok rfl (fun hg => hV.get _ _ hb) rfl) ?_
  refine o_call (.a (.v _)) rfl rfl fnok77 rfl rfl rfl (fun hg E w1 hm => by exact spFits_c V x _ H _ (hV.trans hm.leV) hs hn) ?_
  refine o_yield rfl rfl rfl (y_val tok rfl) ?_
  refine o_yield rfl rfl rfl (y_val tok rfl) ?_
  refine o_end [3] rfl ?_
  refine x_then ?_
  refine c_ret ?_
  refine b_ret tok rfl ?_
  intro E w' hm _
  refine ⟨?_, hm.below (Vw.le.refl _)⟩
  rfl

theorem lkEx_c (V : Vw) (sv : Value) (L : List (Sl Hold)) (w : World) (hV : V.le (vw w)) (hs0 : SlOf V Sl.enc 1 sv L) (hL : ∀ s ∈ L, SlOf V Hold.cells 4 s.v s.l) (hn : L.length ≤ 1000) (hc : (catL L).length ≤ 1048576) :
    Calls Try.prog 42 #[sv] w fun e w' => e = .returned (.bool (cdec (exP L))) ∧ Below w.heap.size w w' := by
  have hs := hs0.mono hV
  have hle := catL_le L
  have hlim : lim = 4398046511104 := rfl
  refine enter (E := E0) (O := []) (nl := 0) (V := vw w) [.a (.v sv)] Try.func42 rfl rfl (mem0 E0 0 w) rfl rfl ?_
  refine c_seq ?_
  refine c_region ?_
  refine o_yield rfl rfl rfl (y_val tok rfl) ?_
  refine o_end [0] rfl ?_
  refine x_then ?_
  refine c_seq ?_
  refine c_seq ?_
  refine c_region ?_
  refine o_yield rfl rfl rfl (y_val tok rfl) ?_
  refine o_yield rfl rfl rfl (y_len tok rfl (fun hg => hs.sl)) ?_
  refine o_yield rfl rfl rfl (y_val tok rfl) ?_
  refine o_end [0, 6, 7, 8] rfl ?_
  refine x_then ?_
  refine c_block ?_
  refine c_loopK [0, 6, 7] [] rfl rfl (σ := Nat) (fun k => [(8, .a (.v (I k)))]) (fun k => []) (fun k => k ≤ L.length ∧ ∀ (j : Nat) (s : Sl Hold), j < k → L[j]? = some s → ∀ h ∈ s.l, fits h (catL (L.take j)) = true) (fun k => L.length - k) (0) (⟨by omega, fun j s hj => by omega⟩) (by repeat (first | exact SubF.nil | refine SubF.cons rfl ?_)) (by repeat (first | exact SubO.nil | refine SubO.cons rfl ?_)) rfl ?_
  rintro k ⟨hk, hall⟩
  refine c_seq ?_
  refine c_region ?_
  refine o_yield rfl rfl rfl (y_val tok rfl) ?_
  refine o_end [0, 6, 7, 8, 9] rfl ?_
  refine x_then ?_
  refine c_seq ?_
  refine c_cond rfl (fun h => ?_) (fun h => ?_)
  ·
    simp only [Bool.and_eq_true, Bool.or_eq_true, Bool.not_eq_true', Bool.or_eq_false_iff, Bool.and_eq_false_iff, decide_eq_true_eq, decide_eq_false_iff_not, beq_iff_eq, bne_iff_ne, Bool.not_eq_false', beq_eq_false_iff_ne, bne_eq_false_iff_eq, ne_eq, Decidable.not_not, Int.not_lt, Int.not_le] at h
    refine c_skip ?_
    refine x_then ?_
    refine c_seq ?_
    refine c_block ?_
    refine c_seq ?_
    refine c_region ?_
    refine o_yield rfl rfl rfl (y_val tok rfl) ?_
    have hlk := hle k
    have hwk : IntKind.i64.wrap ((k : Int) + 1) = ((k + 1 : Nat) : Int) := wrapI (by omega) (by omega)
    obtain ⟨s, h_s⟩ := hs.at (k := k) (by omega)
    have hlt_s := lt_of_at h_s
    refine o_yield rfl rfl rfl (y_idx tok rfl (fun hg => hs.sl) (fun hg => ⟨by omega, by omega⟩)) ?_
    refine o_yield rfl rfl rfl (y_lel tok (k) 0 (s) rfl (fun hg => hs) (fun hg => h_s) rfl rfl) ?_
    refine o_yield rfl rfl rfl (y_val tok rfl) ?_
    refine o_yield rfl rfl rfl (y_val tok rfl) ?_
    refine o_end [0, 3, 4, 6, 7, 8] rfl ?_
    refine x_then ?_
    refine c_seq ?_
    refine c_region ?_
    refine o_yield rfl rfl rfl (y_val tok rfl) ?_
    refine o_yield rfl rfl rfl (y_val tok rfl) ?_
    have hsl := hL s (List.mem_of_getElem? h_s)
    have hel : s.l.length ≤ (catL L).length := by
      have h1 := hle (k + 1)
      have h2 := congrArg List.length (catL_take h_s)
      rw [List.length_append] at h2
      omega
    have hcut := hs.cut (lo := 0) (hi := k) (by omega) hk
    simp only [List.drop_zero, Nat.sub_zero] at hcut
    refine o_yield rfl rfl rfl (y_sl tok rfl (fun hg => hs.sl) (fun hg => ⟨by dsimp only [Option.getD]; omega, by dsimp only [Option.getD]; omega, by dsimp only [Option.getD]; omega⟩)) ?_
    refine o_step rfl rfl rfl rfl rfl (s_callRow 43 4 (catL (L.take k)).length ((catL (L.take k)).flatMap Hold.cells) rfl fnok62 (fun E w1 hm => concat_c (vw w) _ (L.take k) w1 hm.leV hcut (fun s hs => (hL s ((List.take_sublist _ _).subset hs)).mono hV) (by rw [List.length_take]; omega) (by omega))) (fun _ _ => ?_)
    refine o_new tok rfl rfl rfl rfl ?_
    refine o_store tok rfl rfl rfl (by first | exact ⟨trivial, trivial⟩ | (repeat' first | exact trivial | exact rfl | apply And.intro); done | simp [onesP, oneP, lk, Value.oneCell']) ?_
    refine o_end [0, 4, 5, 6, 7, 8] rfl ?_
    refine x_then ?_
    refine c_seq ?_
    refine c_region ?_
    refine o_yield rfl rfl rfl (y_val tok rfl) ?_
    refine o_yield rfl rfl rfl (y_val tok rfl) ?_
    refine o_call (.a (.v _)) rfl rfl fnok90 rfl rfl rfl (fun hg E w1 hm => by exact spContainsFunc_c (vw w1) _ s.v (fun h => !fits h (catL (L.take k))) s.l _ (Vw.le.refl _) (hsl.mono (hV.trans hm.leV)) (by omega) (fun x w' hle => ⟨92, _, rfl, fnok92, exFn_c x _ (catL (L.take k)) _ (vw w1) (hm.lit 1 _ _ rfl) (hm.rowOf 0 rfl (fun _ => rfl)) (by omega) w' hle⟩)) ?_
    refine o_end [0, 6, 7, 8, 19] rfl ?_
    refine x_then ?_
    refine c_cond rfl (fun h => ?_) (fun h => ?_)
    ·
      refine c_seq ?_
      refine c_region ?_
      refine o_yield rfl rfl rfl (y_val tok rfl) ?_
      refine o_end [2] rfl ?_
      refine x_then ?_
      refine c_ret ?_
      refine x_block_ret ?_
      refine x_then_ret ?_
      refine x_then_ret ?_
      refine x_block_ret ?_
      refine x_then_ret ?_
      refine b_ret tok rfl ?_
      have hno : ¬ exP L := by
        intro hx
        rw [List.any_eq_true] at h
        obtain ⟨y, hy, hf⟩ := h
        rw [hx k s h_s y hy] at hf
        simp at hf
      intro E w' hm _
      refine ⟨?_, hm.below (Vw.le.refl _)⟩
      rw [cdec_false hno]; rfl
    ·
      refine c_skip ?_
      refine x_block ?_
      refine x_then ?_
      refine c_region ?_
      refine o_yield rfl rfl rfl (y_val tok rfl) ?_
      refine o_yield rfl rfl rfl (y_val tok rfl) ?_
      refine o_end [0, 6, 7, 8] rfl ?_
      refine x_then ?_
      have hg : ∀ h ∈ s.l, fits h (catL (L.take k)) = true := by
        rw [List.any_eq_false] at h
        intro y hy
        simpa using h y hy
      have hall2 : ∀ (j : Nat) (s : Sl Hold), j < k + 1 → L[j]? = some s → ∀ h ∈ s.l, fits h (catL (L.take j)) = true := by
        intro j u hj hu
        rcases Nat.lt_or_ge j k with hlt | hge
        · exact hall j u hlt hu
        · have e : j = k := by omega
          subst e
          rw [h_s] at hu
          cases hu
          exact hg
      rw [hwk]
      refine x_round (k + 1) (⟨by omega, hall2⟩) (by first | omega | (dsimp only; omega)) (by repeat (first | exact SubF.nil | refine SubF.cons rfl ?_)) (by repeat (first | exact SubO.nil | refine SubO.cons rfl ?_)) rfl (Vw.le.refl _)
  ·
    simp only [Bool.and_eq_true, Bool.or_eq_true, Bool.not_eq_true', Bool.or_eq_false_iff, Bool.and_eq_false_iff, decide_eq_true_eq, decide_eq_false_iff_not, beq_iff_eq, bne_iff_ne, Bool.not_eq_false', beq_eq_false_iff_ne, bne_eq_false_iff_eq, ne_eq, Decidable.not_not, Int.not_lt, Int.not_le] at h
    refine c_exit ?_
    refine x_then_exit ?_
    refine x_then_exit ?_
    refine x_block_hit ?_
    refine x_then ?_
    refine c_seq ?_
    refine c_region ?_
    refine o_yield rfl rfl rfl (y_val tok rfl) ?_
    refine o_end [2] rfl ?_
    refine x_then ?_
    refine c_ret ?_
    refine b_ret tok rfl ?_
    have hx : exP L := fun j s hj => hall j s (by have := lt_of_at hj; omega) hj
    intro E w' hm _
    refine ⟨?_, hm.below (Vw.le.refl _)⟩
    rw [cdec_true hx]; rfl

theorem catL_mem {L : List (Sl Hold)} {i k : Nat} {s : Sl Hold} (hk : k < i) (hs : L[k]? = some s) {x : Hold} (hx : x ∈ s.l) : x ∈ catL (L.take i) := by
  rw [catL, List.mem_flatMap]
  exact ⟨s, List.mem_iff_getElem?.2 ⟨k, by rw [List.getElem?_take, if_pos hk]; exact hs⟩, hx⟩

theorem rEx_c (V : Vw) (sv : Value) (L : List (Sl Hold)) (w : World) (hV : V.le (vw w)) (hs0 : SlOf V Sl.enc 1 sv L) (hL0 : ∀ s ∈ L, SlOf V Hold.cells 4 s.v s.l) (hn : L.length ≤ 1000) (hc : ∀ s ∈ L, s.l.length ≤ 1000) :
    Calls Try.prog 46 #[sv] w fun e w' => e = .returned (.bool (cdec (exP L))) ∧ Below w.heap.size w w' := by
  have hs := hs0.mono hV
  have hL := fun s hs => (hL0 s hs).mono hV
  have hlim : lim = 4398046511104 := rfl
  refine enter (E := E0) (O := []) (nl := 0) (V := vw w) [.a (.v sv)] Try.func46 rfl rfl (mem0 E0 0 w) rfl rfl ?_
  refine c_seq ?_
  refine c_region ?_
  refine o_yield rfl rfl rfl (y_val tok rfl) ?_
  refine o_end [0] rfl ?_
  refine x_then ?_
  refine c_seq ?_
  refine c_seq ?_
  refine c_region ?_
  refine o_yield rfl rfl rfl (y_val tok rfl) ?_
  refine o_end [0, 3] rfl ?_
  refine x_then ?_
  refine c_block ?_
  refine c_loopK [0] [] rfl rfl (σ := Nat) (fun i => [(3, .a (.v (I i)))]) (fun i => []) (fun i => i ≤ L.length ∧ ∀ (j k : Nat) (s u : Sl Hold), j < i → k < j → L[j]? = some s → L[k]? = some u → ∀ h ∈ s.l, fits h u.l = true) (fun i => L.length - i) (0) (⟨by omega, fun j k s u hj => by omega⟩) (by repeat (first | exact SubF.nil | refine SubF.cons rfl ?_)) (by repeat (first | exact SubO.nil | refine SubO.cons rfl ?_)) rfl ?_
  rintro i ⟨hi, hall⟩
  refine c_seq ?_
  refine c_seq ?_
  refine c_region ?_
  refine o_yield rfl rfl rfl (y_val tok rfl) ?_
  refine o_yield rfl rfl rfl (y_val tok rfl) ?_
  refine o_yield rfl rfl rfl (y_len tok rfl (fun hg => hs.sl)) ?_
  refine o_yield rfl rfl rfl (y_val tok rfl) ?_
  refine o_end [0, 3, 9] rfl ?_
  refine x_then ?_
  refine c_cond rfl (fun h => ?_) (fun h => ?_)
  ·
    simp only [Bool.and_eq_true, Bool.or_eq_true, Bool.not_eq_true', Bool.or_eq_false_iff, Bool.and_eq_false_iff, decide_eq_true_eq, decide_eq_false_iff_not, beq_iff_eq, bne_iff_ne, Bool.not_eq_false', beq_eq_false_iff_ne, bne_eq_false_iff_eq, ne_eq, Decidable.not_not, Int.not_lt, Int.not_le] at h
    obtain ⟨s, h_s⟩ : ∃ s, L[i]? = some s := ⟨_, List.getElem?_eq_getElem (by omega)⟩
    have hsl := hL s (List.mem_of_getElem? h_s)
    have hsc := hc s (List.mem_of_getElem? h_s)
    refine c_skip ?_
    refine x_then ?_
    refine c_seq ?_
    refine c_block ?_
    refine c_seq ?_
    refine c_region ?_
    refine o_yield rfl rfl rfl (y_val tok rfl) ?_
    refine o_end [0, 3, 4] rfl ?_
    refine x_then ?_
    refine c_block ?_
    refine c_loopK [0, 3] [] rfl rfl (σ := Nat) (fun k => [(4, .a (.v (I k)))]) (fun k => []) (fun k => k ≤ i ∧ ∀ (q : Nat) (u : Sl Hold), q < k → L[q]? = some u → ∀ h ∈ s.l, fits h u.l = true) (fun k => i - k) (0) (⟨by omega, fun q u hq => by omega⟩) (by repeat (first | exact SubF.nil | refine SubF.cons rfl ?_)) (by repeat (first | exact SubO.nil | refine SubO.cons rfl ?_)) rfl ?_
    rintro k ⟨hk, hall2⟩
    refine c_seq ?_
    refine c_seq ?_
    refine c_region ?_
    refine o_yield rfl rfl rfl (y_val tok rfl) ?_
    refine o_yield rfl rfl rfl (y_val tok rfl) ?_
    refine o_yield rfl rfl rfl (y_val tok rfl) ?_
    refine o_end [0, 3, 4, 14] rfl ?_
    refine x_then ?_
    refine c_cond rfl (fun h => ?_) (fun h => ?_)
    ·
      simp only [Bool.and_eq_true, Bool.or_eq_true, Bool.not_eq_true', Bool.or_eq_false_iff, Bool.and_eq_false_iff, decide_eq_true_eq, decide_eq_false_iff_not, beq_iff_eq, bne_iff_ne, Bool.not_eq_false', beq_eq_false_iff_ne, bne_eq_false_iff_eq, ne_eq, Decidable.not_not, Int.not_lt, Int.not_le] at h
      obtain ⟨u, h_u⟩ : ∃ u, L[k]? = some u := ⟨_, List.getElem?_eq_getElem (by omega)⟩
      have hul := hL u (List.mem_of_getElem? h_u)
      have huc := hc u (List.mem_of_getElem? h_u)
      refine c_skip ?_
      refine x_then ?_
      refine c_seq ?_
      refine c_block ?_
      refine c_seq ?_
      refine c_region ?_
      refine o_yield rfl rfl rfl (y_val tok rfl) ?_
      refine o_end [0, 3, 4, 5] rfl ?_
      refine x_then ?_
      refine c_block ?_
      refine c_loopK [0, 3, 4] [] rfl rfl (σ := Nat) (fun q => [(5, .a (.v (I q)))]) (fun q => []) (fun q => q ≤ s.l.length ∧ ∀ (p : Nat) (x : Hold), p < q → s.l[p]? = some x → fits x u.l = true) (fun q => s.l.length - q) (0) (⟨by omega, fun p x hp => by omega⟩) (by repeat (first | exact SubF.nil | refine SubF.cons rfl ?_)) (by repeat (first | exact SubO.nil | refine SubO.cons rfl ?_)) rfl ?_
      rintro q ⟨hq, hall3⟩
      refine c_seq ?_
      refine c_seq ?_
      refine c_region ?_
      refine o_yield rfl rfl rfl (y_val tok rfl) ?_
      refine o_yield rfl rfl rfl (y_val tok rfl) ?_
      refine o_yield rfl rfl rfl (y_val tok rfl) ?_
      have hlt_s := lt_of_at h_s
      refine o_yield rfl rfl rfl (y_idx tok rfl (fun hg => hs.sl) (fun hg => ⟨by omega, by omega⟩)) ?_
      refine o_yield rfl rfl rfl (y_lel tok (i) 0 (s) rfl (fun hg => hs) (fun hg => h_s) rfl rfl) ?_
      refine o_yield rfl rfl rfl (y_len tok rfl (fun hg => hsl.sl)) ?_
      refine o_yield rfl rfl rfl (y_val tok rfl) ?_
      refine o_end [0, 3, 4, 5, 23] rfl ?_
      refine x_then ?_
      refine c_cond rfl (fun h => ?_) (fun h => ?_)
      ·
        simp only [Bool.and_eq_true, Bool.or_eq_true, Bool.not_eq_true', Bool.or_eq_false_iff, Bool.and_eq_false_iff, decide_eq_true_eq, decide_eq_false_iff_not, beq_iff_eq, bne_iff_ne, Bool.not_eq_false', beq_eq_false_iff_ne, bne_eq_false_iff_eq, ne_eq, Decidable.not_not, Int.not_lt, Int.not_le] at h
        refine c_skip ?_
        refine x_then ?_
        refine c_seq ?_
        refine c_block ?_
        refine c_seq ?_
        refine c_draw mixed (by kernel_rfl) ?_
        refine d_yield rfl rfl rfl (y_val tok rfl) rfl ?_
        refine d_yield rfl rfl rfl (y_val tok rfl) rfl ?_
        have hlt_s := lt_of_at h_s
        refine d_yield rfl rfl rfl (y_idx tok rfl (fun hg => hs.sl) (fun hg => ⟨by omega, by omega⟩)) rfl ?_
        refine d_yield rfl rfl rfl (y_lel tok (i) 0 (s) rfl (fun hg => hs) (fun hg => h_s) rfl rfl) rfl ?_
        refine d_yield rfl rfl rfl (y_val tok rfl) rfl ?_
        obtain ⟨x, h_x⟩ := hsl.at (k := q) (by omega)
        have hlt_x := lt_of_at h_x
        refine d_yield rfl rfl rfl (y_idx tok rfl (fun hg => hsl.sl) (fun hg => ⟨by omega, by omega⟩)) rfl ?_
        refine d_yield rfl rfl rfl (y_lel tok (q) 0 (x) rfl (fun hg => hsl) (fun hg => h_x) rfl rfl) rfl ?_
        refine d_yield rfl rfl rfl (y_val tok rfl) rfl ?_
        refine d_yield rfl rfl rfl (y_val tok rfl) rfl ?_
        have hlt_u := lt_of_at h_u
        refine d_yield rfl rfl rfl (y_idx tok rfl (fun hg => hs.sl) (fun hg => ⟨by omega, by omega⟩)) rfl ?_
        refine d_yield rfl rfl rfl (y_lel tok (k) 0 (u) rfl (fun hg => hs) (fun hg => h_u) rfl rfl) rfl ?_
        refine d_call (.a (.v _)) rfl rfl fnok78 rfl rfl rfl (fun hg E w1 hm => by exact spRfits_c (vw w1) x _ u.l _ (Vw.le.refl _) (hul.mono hm.leV) (by omega)) ?_
        refine d_yield rfl rfl rfl (y_val tok rfl) rfl ?_
        refine d_end [0, 3, 4, 5, 38] rfl ?_
        refine x_then ?_
        refine c_cond rfl (fun h => ?_) (fun h => ?_)
        ·
          refine c_seq ?_
          refine c_region ?_
          refine o_yield rfl rfl rfl (y_val tok rfl) ?_
          refine o_end [2] rfl ?_
          refine x_then ?_
          refine c_ret ?_
          refine x_block_ret ?_
          refine x_then_ret ?_
          refine x_then_ret ?_
          refine x_block_ret ?_
          refine x_block_ret ?_
          refine x_then_ret ?_
          refine x_then_ret ?_
          refine x_block_ret ?_
          refine x_block_ret ?_
          refine x_then_ret ?_
          refine x_then_ret ?_
          refine x_block_ret ?_
          refine x_then_ret ?_
          refine b_ret tok rfl ?_
          have hno : ¬ exP L := by
            intro hx
            have h1 := hx i s h_s x (List.mem_of_getElem? h_x)
            have h2 := fits_sub (a := u.l) (fun y hy => catL_mem (by omega) h_u hy) h1
            rw [h2] at h
            simp at h
          intro E w' hm _
          refine ⟨?_, hm.below (Vw.le.refl _)⟩
          rw [cdec_false hno]; rfl
        ·
          refine c_skip ?_
          refine x_block ?_
          refine x_then ?_
          refine c_region ?_
          refine o_yield rfl rfl rfl (y_val tok rfl) ?_
          refine o_yield rfl rfl rfl (y_val tok rfl) ?_
          refine o_yield rfl rfl rfl (y_val tok rfl) ?_
          refine o_end [0, 3, 4, 5] rfl ?_
          refine x_then ?_
          have hgx : fits x u.l = true := by simpa using h
          rw [wrapI (by omega) (by omega)]
          refine x_round (q + 1) (⟨by omega, ahead_succ h_x hall3 hgx⟩) (by first | omega | (dsimp only; omega)) (by repeat (first | exact SubF.nil | refine SubF.cons rfl ?_)) (by repeat (first | exact SubO.nil | refine SubO.cons rfl ?_)) rfl (Vw.le.refl _)
      ·
        simp only [Bool.and_eq_true, Bool.or_eq_true, Bool.not_eq_true', Bool.or_eq_false_iff, Bool.and_eq_false_iff, decide_eq_true_eq, decide_eq_false_iff_not, beq_iff_eq, bne_iff_ne, Bool.not_eq_false', beq_eq_false_iff_ne, bne_eq_false_iff_eq, ne_eq, Decidable.not_not, Int.not_lt, Int.not_le] at h
        refine c_exit ?_
        refine x_then_exit ?_
        refine x_then_exit ?_
        refine x_block_hit ?_
        refine x_block ?_
        refine x_then ?_
        refine c_region ?_
        refine o_yield rfl rfl rfl (y_val tok rfl) ?_
        refine o_yield rfl rfl rfl (y_val tok rfl) ?_
        refine o_yield rfl rfl rfl (y_val tok rfl) ?_
        refine o_end [0, 3, 4] rfl ?_
        refine x_then ?_
        have hqs : q = s.l.length := by omega
        have hall4 : ∀ (p : Nat) (v : Sl Hold), p < k + 1 → L[p]? = some v → ∀ h ∈ s.l, fits h v.l = true := by
          intro p v hp hv z hz
          rcases Nat.lt_or_ge p k with hlt | hge
          · exact hall2 p v hlt hv z hz
          · have e : p = k := by omega
            subst e
            rw [h_u] at hv
            cases hv
            obtain ⟨j, hj⟩ := List.mem_iff_getElem?.1 hz
            exact hall3 j z (by rw [hqs]; exact lt_of_at hj) hj
        rw [wrapI (by omega) (by omega)]
        refine x_round (k + 1) (⟨by omega, hall4⟩) (by first | omega | (dsimp only; omega)) (by repeat (first | exact SubF.nil | refine SubF.cons rfl ?_)) (by repeat (first | exact SubO.nil | refine SubO.cons rfl ?_)) rfl (Vw.le.refl _)
    ·
      simp only [Bool.and_eq_true, Bool.or_eq_true, Bool.not_eq_true', Bool.or_eq_false_iff, Bool.and_eq_false_iff, decide_eq_true_eq, decide_eq_false_iff_not, beq_iff_eq, bne_iff_ne, Bool.not_eq_false', beq_eq_false_iff_ne, bne_eq_false_iff_eq, ne_eq, Decidable.not_not, Int.not_lt, Int.not_le] at h
      refine c_exit ?_
      refine x_then_exit ?_
      refine x_then_exit ?_
      refine x_block_hit ?_
      refine x_block ?_
      refine x_then ?_
      refine c_region ?_
      refine o_yield rfl rfl rfl (y_val tok rfl) ?_
      refine o_yield rfl rfl rfl (y_val tok rfl) ?_
      refine o_yield rfl rfl rfl (y_val tok rfl) ?_
      refine o_end [0, 3] rfl ?_
      refine x_then ?_
      have hki : k = i := by omega
      have hall5 : ∀ (j q : Nat) (v u : Sl Hold), j < i + 1 → q < j → L[j]? = some v → L[q]? = some u → ∀ h ∈ v.l, fits h u.l = true := by
        intro j q v u hj hqj hv hu
        rcases Nat.lt_or_ge j i with hlt | hge
        · exact hall j q v u hlt hqj hv hu
        · have e : j = i := by omega
          subst e
          rw [h_s] at hv
          cases hv
          exact hall2 q u (by omega) hu
      rw [wrapI (by omega) (by omega)]
      refine x_round (i + 1) (⟨by omega, hall5⟩) (by first | omega | (dsimp only; omega)) (by repeat (first | exact SubF.nil | refine SubF.cons rfl ?_)) (by repeat (first | exact SubO.nil | refine SubO.cons rfl ?_)) rfl (Vw.le.refl _)
  ·
    simp only [Bool.and_eq_true, Bool.or_eq_true, Bool.not_eq_true', Bool.or_eq_false_iff, Bool.and_eq_false_iff, decide_eq_true_eq, decide_eq_false_iff_not, beq_iff_eq, bne_iff_ne, Bool.not_eq_false', beq_eq_false_iff_ne, bne_eq_false_iff_eq, ne_eq, Decidable.not_not, Int.not_lt, Int.not_le] at h
    refine c_exit ?_
    refine x_then_exit ?_
    refine x_then_exit ?_
    refine x_block_hit ?_
    refine x_then ?_
    refine c_seq ?_
    refine c_region ?_
    refine o_yield rfl rfl rfl (y_val tok rfl) ?_
    refine o_end [2] rfl ?_
    refine x_then ?_
    refine c_ret ?_
    refine b_ret tok rfl ?_
    have hil : i = L.length := by omega
    have hx : exP L := by
      intro j s hj h hh
      rw [fits, List.all_eq_true]
      intro y hy
      rw [catL, List.mem_flatMap] at hy
      obtain ⟨u, hu, hyu⟩ := hy
      obtain ⟨q, hq⟩ := List.mem_iff_getElem?.1 hu
      rw [List.getElem?_take] at hq
      split at hq
      · have := hall j q s u (by rw [hil]; exact lt_of_at hj) (by assumption) hj hq h hh
        rw [fits, List.all_eq_true] at this
        exact this y hyu
      · cases hq
    intro E w' hm _
    refine ⟨?_, hm.below (Vw.le.refl _)⟩
    rw [cdec_true hx]; rfl
end Go.Proofs.Ytiapfhcimekdkaa

/- THE LAW LockAsks: commands, or why there is none; whether holds are exclusive. -/
set_option linter.unusedVariables false
set_option linter.unusedSimpArgs false
set_option maxRecDepth 100000
namespace Go.Proofs.Ytiapfhcimekdkaa
open Go Go.Eng Go.RowKit

theorem slotI_found {S : List Slot} {key : Int} {i : Nat} {x : Slot} (hk : 1 ≤ key) (hx : S[i]? = some x) (he : x.key = key) (hall : ∀ (j : Nat) (y : Slot), j < i → S[j]? = some y → (y.key == key) = false) : slotI S key = i := by
  rw [slotI, if_neg (by omega), idxOf, findIdx?_at hx (by simp [he]) hall]

theorem slotI_low {S : List Slot} {key : Int} (hk : ¬ 1 ≤ key) : slotI S key = -1 := by rw [slotI, if_pos (by omega)]

theorem slotI_no {S : List Slot} {key : Int} (hall : ∀ (j : Nat) (y : Slot), S[j]? = some y → (y.key == key) = false) : slotI S key = -1 := by
  rw [slotI]
  split
  · rfl
  · rw [idxOf, findIdx?_no (fun j y _ hy => hall j y hy)]

theorem rSlot_c (V : Vw) (a : Option Addr) (n c : Nat) (hv qv : Value) (S : List Slot) (key : Int) (w : World) (hV : V.le (vw w)) (hs0 : SlOf V Slot.cells 2 (.slice a n c) S) (hn : S.length ≤ lim) :
    Calls Try.prog 39 #[.agg #[.slice a n c, hv, qv], I key] w fun e w' => e = .returned (.tuple #[I (max (slotI S key) 0), .bool (decide (0 ≤ slotI S key))]) ∧ Below w.heap.size w w' := by
  unfold lim at hn
  have hs := hs0.mono hV
  refine enter (E := E0) (O := []) (nl := 0) (V := vw w) [.a (.v (.agg #[.slice a n c, hv, qv])), .a (.v (I key))] Try.func39 rfl rfl (mem0 E0 0 w) rfl rfl ?_
  refine c_seq ?_
  refine c_region ?_
  refine o_new tok rfl rfl rfl rfl ?_
  refine o_yield rfl rfl rfl (y_val tok rfl) ?_
  refine o_yield rfl rfl rfl (y_val tok rfl) ?_
  refine o_end [1, 2] rfl ?_
  refine x_then ?_
  refine c_seq ?_
  refine c_seq ?_
  refine c_region ?_
  refine o_yield rfl rfl rfl (y_val tok rfl) ?_
  refine o_end [1, 2, 6] rfl ?_
  refine x_then ?_
  refine c_block ?_
  refine c_loopK [1, 2] [] rfl rfl (σ := Nat) (fun i => [(6, .a (.v (I i)))]) (fun i => []) (fun i => i ≤ S.length ∧ (1 ≤ key → ∀ (j : Nat) (y : Slot), j < i → S[j]? = some y → (y.key == key) = false)) (fun i => S.length - i) (0) (⟨by omega, fun _ j x hj => by omega⟩) (by repeat (first | exact SubF.nil | refine SubF.cons rfl ?_)) (by repeat (first | exact SubO.nil | refine SubO.cons rfl ?_)) rfl ?_
  rintro i ⟨hi, hall⟩
  refine c_seq ?_
  refine c_seq ?_
  refine c_region ?_
  refine o_yield rfl rfl rfl (y_val tok rfl) ?_
  refine o_yield rfl rfl rfl (y_val tok rfl) ?_
  refine o_yield rfl rfl rfl (y_val tok rfl) ?_
  refine o_yield rfl rfl rfl (y_len tok rfl (fun hg => hs.sl)) ?_
  refine o_yield rfl rfl rfl (y_val tok rfl) ?_
  refine o_end [1, 2, 6, 11] rfl ?_
  refine x_then ?_
  refine c_cond rfl (fun h => ?_) (fun h => ?_)
  ·
    simp only [Bool.and_eq_true, Bool.or_eq_true, Bool.not_eq_true', Bool.or_eq_false_iff, Bool.and_eq_false_iff, decide_eq_true_eq, decide_eq_false_iff_not, beq_iff_eq, bne_iff_ne, Bool.not_eq_false', beq_eq_false_iff_ne, bne_eq_false_iff_eq, ne_eq, Decidable.not_not, Int.not_lt, Int.not_le] at h
    obtain ⟨x, hx⟩ : ∃ x, S[i]? = some x := ⟨_, List.getElem?_eq_getElem (by omega)⟩
    refine c_skip ?_
    refine x_then ?_
    refine c_seq ?_
    refine c_block ?_
    refine c_seq ?_
    refine c_region ?_
    refine o_yield rfl rfl rfl (y_val tok rfl) ?_
    refine o_yield rfl rfl rfl (y_val tok rfl) ?_
    refine o_yield rfl rfl rfl (y_val tok rfl) ?_
    refine o_yield rfl rfl rfl (y_val tok rfl) ?_
    refine o_yield rfl rfl rfl (y_val tok rfl) ?_
    refine o_yield rfl rfl rfl (y_val tok rfl) ?_
    refine o_yield rfl rfl rfl (y_idx tok rfl (fun hg => hs.sl) (fun hg => ⟨by omega, by omega⟩)) ?_
    refine o_yield rfl rfl rfl (y_fel tok rfl (fun hg => hs.sl) (fun hg => by omega)) ?_
    refine o_yield rfl rfl rfl (y_lel tok i 0 x rfl (fun hg => hs) (fun hg => hx) rfl rfl) ?_
    refine o_yield rfl rfl rfl (y_val tok rfl) ?_
    refine o_yield rfl rfl rfl (y_val tok rfl) ?_
    refine o_yield rfl rfl rfl (y_val tok rfl) ?_
    refine o_end [1, 2, 6, 25] rfl ?_
    refine x_then ?_
    refine c_cond rfl (fun h => ?_) (fun h => ?_)
    ·
      refine c_seq ?_
      refine c_region ?_
      refine o_yield rfl rfl rfl (y_val tok rfl) ?_
      refine o_yield rfl rfl rfl (y_val tok rfl) ?_
      refine o_yield rfl rfl rfl (y_val tok rfl) ?_
      refine o_end [4, 5] rfl ?_
      refine x_then ?_
      refine c_ret ?_
      refine x_block_ret ?_
      refine x_then_ret ?_
      refine x_then_ret ?_
      refine x_block_ret ?_
      refine x_then_ret ?_
      refine b_ret tok rfl ?_
      have h2 : 1 ≤ key ∧ x.key = key := by simpa using h
      have h3 := slotI_found h2.1 hx h2.2 (hall h2.1)
      intro E w' hm _
      refine ⟨?_, hm.below (Vw.le.refl _)⟩
      rw [h3, decide_eq_true (by omega), show max (i : Int) 0 = i by omega]; rfl
    ·
      refine c_skip ?_
      refine x_block ?_
      refine x_then ?_
      refine c_region ?_
      refine o_yield rfl rfl rfl (y_val tok rfl) ?_
      refine o_yield rfl rfl rfl (y_val tok rfl) ?_
      refine o_yield rfl rfl rfl (y_val tok rfl) ?_
      refine o_end [1, 2, 6] rfl ?_
      refine x_then ?_
      have h2 : 1 ≤ key → (x.key == key) = false := by
        intro hk
        have : decide (1 ≤ key) = true := by simpa using hk
        rw [this] at h
        simpa using h
      rw [wrapI (by omega) (by omega)]
      refine x_round (i + 1) (⟨by omega, fun hk => ahead_succ hx (hall hk) (h2 hk)⟩) (by first | omega | (dsimp only; omega)) (by repeat (first | exact SubF.nil | refine SubF.cons rfl ?_)) (by repeat (first | exact SubO.nil | refine SubO.cons rfl ?_)) rfl (Vw.le.refl _)
  ·
    simp only [Bool.and_eq_true, Bool.or_eq_true, Bool.not_eq_true', Bool.or_eq_false_iff, Bool.and_eq_false_iff, decide_eq_true_eq, decide_eq_false_iff_not, beq_iff_eq, bne_iff_ne, Bool.not_eq_false', beq_eq_false_iff_ne, bne_eq_false_iff_eq, ne_eq, Decidable.not_not, Int.not_lt, Int.not_le] at h
    refine c_exit ?_
    refine x_then_exit ?_
    refine x_then_exit ?_
    refine x_block_hit ?_
    refine x_then ?_
    refine c_seq ?_
    refine c_region ?_
    refine o_yield rfl rfl rfl (y_val tok rfl) ?_
    refine o_yield rfl rfl rfl (y_val tok rfl) ?_
    refine o_end [4, 5] rfl ?_
    refine x_then ?_
    refine c_ret ?_
    refine b_ret tok rfl ?_
    have hil : i = S.length := by omega
    have h3 : slotI S key = -1 := by
      by_cases hk : 1 ≤ key
      · exact slotI_no fun j y hy => hall hk j y (by rw [hil]; exact lt_of_at hy) hy
      · exact slotI_low hk
    intro E w' hm _
    refine ⟨?_, hm.below (Vw.le.refl _)⟩
    rw [h3]; rfl

theorem rtold_c (V : Vw) (tv : Value) (t : Tb) (c : Cmd) (w : World) (ht : t.Fit) (hV : V.le (vw w)) (h : TbIs V tv t) :
    Calls Try.prog 93 #[tv, c.val] w fun e w' => e = .returned (.tuple #[S (saysV c.by_ c.serial t c).1, I (saysV c.by_ c.serial t c).2]) ∧ Below w.heap.size w w' := by
  obtain ⟨a, n, c0, a2, n2, c2, a3, n3, c3, rfl, h1, h2, h3⟩ := id h
  have hs := ht.s
  have hlim : lim = 4398046511104 := rfl
  refine enter (E := E0) (O := []) (nl := 0) (V := vw w) [.a (.v (.agg #[.slice a n c0, .slice a2 n2 c2, .slice a3 n3 c3])), .a (.v c.val)] Try.func93 rfl rfl (mem0 E0 0 w) rfl rfl ?_
  refine c_seq ?_
  refine c_region ?_
  refine o_new tok rfl rfl rfl rfl ?_
  refine o_new tok rfl rfl rfl rfl ?_
  refine o_yield rfl rfl rfl (y_val tok rfl) ?_
  refine o_yield rfl rfl rfl (y_val tok rfl) ?_
  refine o_end [2, 3] rfl ?_
  refine x_then ?_
  refine c_seq ?_
  refine c_region ?_
  refine o_yield rfl rfl rfl (y_val tok rfl) ?_
  refine o_yield rfl rfl rfl (y_val tok rfl) ?_
  refine o_yield rfl rfl rfl (y_val tok rfl) ?_
  refine o_call (.a (.v _)) rfl rfl fnok39 rfl rfl rfl (fun hg E w1 hm => by exact rSlot_c V a n c0 _ _ t.S c.by_ _ (hV.trans hm.leV) h1 (by omega)) ?_
  refine o_yield rfl rfl rfl (y_val tok rfl) ?_
  refine o_yield rfl rfl rfl (y_val tok rfl) ?_
  refine o_yield rfl rfl rfl (y_val tok rfl) ?_
  refine o_yield rfl rfl rfl (y_val tok rfl) ?_
  refine o_yield rfl rfl rfl (y_val tok rfl) ?_
  refine o_end [3, 7] rfl ?_
  refine x_then ?_
  refine c_seq ?_
  refine c_region ?_
  refine o_yield rfl rfl rfl (y_val tok rfl) ?_
  refine o_call (.a (.v _)) rfl rfl fnok84 rfl rfl rfl (fun hg E w1 hm => by exact refCmdBytes_c c _) ?_
  refine o_yield rfl rfl rfl (y_val tok rfl) ?_
  refine o_yield rfl rfl rfl (y_val tok rfl) ?_
  refine o_yield rfl rfl rfl (y_val tok rfl) ?_
  refine o_yield rfl rfl rfl (y_val tok rfl) ?_
  refine o_yield rfl rfl rfl (y_val tok rfl) ?_
  refine o_end [7, 8, 9] rfl ?_
  refine x_then ?_
  refine c_seq ?_
  refine c_seq ?_
  refine c_region ?_
  refine o_yield rfl rfl rfl (y_val tok rfl) ?_
  refine o_yield rfl rfl rfl (y_val tok rfl) ?_
  refine o_yield rfl rfl rfl (y_val tok rfl) ?_
  refine o_yield rfl rfl rfl (y_val tok rfl) ?_
  refine o_yield rfl rfl rfl (y_val tok rfl) ?_
  refine o_yield rfl rfl rfl (y_val tok rfl) ?_
  refine o_end [8, 27] rfl ?_
  refine x_then ?_
  refine c_cond rfl (fun h => ?_) (fun h => ?_)
  ·
    refine c_seq ?_
    refine c_region ?_
    refine o_yield rfl rfl rfl (y_val tok rfl) ?_
    refine o_yield rfl rfl rfl (y_val tok rfl) ?_
    refine o_end [4, 5] rfl ?_
    refine x_then ?_
    refine c_ret ?_
    refine x_then_ret ?_
    refine b_ret tok rfl ?_
    intro E w' hm _
    refine ⟨?_, hm.below (Vw.le.refl _)⟩
    rw [saysV, if_neg]
    · rfl
    · intro hc
      rw [show ownC c.by_ c.serial c = c from rfl] at hc
      simp only [Bool.and_eq_true] at hc
      have h2 : cbE c = 0 := by simpa using hc.2
      rw [hc.1, h2] at h
      simp at h
  ·
    refine c_skip ?_
    refine x_then ?_
    refine c_seq ?_
    refine c_region ?_
    refine o_yield rfl rfl rfl (y_val tok rfl) ?_
    refine o_yield rfl rfl rfl (y_val tok rfl) ?_
    refine o_yield rfl rfl rfl (y_val tok rfl) ?_
    refine o_end [4, 5] rfl ?_
    refine x_then ?_
    refine c_ret ?_
    refine b_ret tok rfl ?_
    intro E w' hm _
    refine ⟨?_, hm.below (Vw.le.refl _)⟩
    rw [saysV, if_pos]
    · rfl
    · rw [show ownC c.by_ c.serial c = c from rfl]
      simp only [Bool.or_eq_false_iff, Bool.not_eq_false', bne_eq_false_iff_eq] at h
      simp [h.1, h.2]

theorem allL_parts (key : Int) (t : Tb) : hasL key false [] t.H ++ waitsL key t.Q = allL key t := by
  rw [allL, List.filter_append, hasL, waitsL]
  congr 2
  funext h
  simp [hasF, spIn]

theorem rAsk_c (V : Vw) (g : Geo) (tv : Value) (t : Tb) (key serial lo hi mode : Int) (w : World) (ht : t.Fit) (hV : V.le (vw w)) (h : TbIs V tv t) :
    Calls Try.prog 43 #[g.val, tv, I key, I serial, .agg #[I lo, I hi], I8 mode] w fun e w' => e = .returned (.tuple #[S (askV g t key serial lo hi mode).1, I (askV g t key serial lo hi mode).2]) ∧ Below w.heap.size w w' := by
  obtain ⟨a, n, c0, a2, n2, c2, a3, n3, c3, rfl, h1, h2, h3⟩ := id h
  have hh := ht.h
  have hq := ht.q
  have hlim : lim = 4398046511104 := rfl
  have hA : askV g t key serial lo hi mode = if (saysV key serial t ⟨2, 0, 0, 0, 0, lo, hi, mode⟩).2 ≠ 0 ∨ holdB g.blocks ⟨key, lo, hi, mode⟩ = false then (ByteArray.empty, 2)
    else if touches (allL key t) key lo hi = true then (ByteArray.empty, 251) else if 64 ≤ (allL key t).length then (ByteArray.empty, 252) else ((saysV key serial t ⟨2, 0, 0, 0, 0, lo, hi, mode⟩).1, 0) := rfl
  have hsay := fun w1 hw1 => rtold_c V _ t ⟨2, key, serial, 0, 0, lo, hi, mode⟩ w1 ht hw1 h
  rw [show saysV (Cmd.mk 2 key serial 0 0 lo hi mode).by_ (Cmd.mk 2 key serial 0 0 lo hi mode).serial t ⟨2, key, serial, 0, 0, lo, hi, mode⟩ = saysV key serial t ⟨2, 0, 0, 0, 0, lo, hi, mode⟩ from rfl] at hsay
  have hhas := fun w1 hw1 => rHas_c V _ (.slice none 0 0) t key false [] w1 ht hw1 h (slNil V Span.cells 2 0 (fun _ => rfl)) (by simp)
  have hwts := fun w1 hw1 => rWaits_c V _ t key w1 ht hw1 h
  have hpar := allL_parts key t
  have hHl : (hasL key false [] t.H).length ≤ t.H.length := List.length_filter_le _ _
  have hWl : (waitsL key t.Q).length ≤ t.Q.length := List.length_filter_le _ _
  generalize saysV key serial t ⟨2, 0, 0, 0, 0, lo, hi, mode⟩ = sv at hA hsay
  generalize hasL key false [] t.H = X at hhas hpar hHl
  generalize waitsL key t.Q = Y at hwts hpar hWl
  generalize allL key t = L at hA hpar
  have hLl : L.length = X.length + Y.length := by rw [← hpar, List.length_append]
  have hfl : L.flatMap Hold.cells = X.flatMap Hold.cells ++ Y.flatMap Hold.cells := by rw [← hpar, List.flatMap_append]
  rw [hA]
  refine enter (E := E0) (O := []) (nl := 0) (V := vw w) [.a (.v g.val), .a (.v (.agg #[.slice a n c0, .slice a2 n2 c2, .slice a3 n3 c3])), .a (.v (I key)), .a (.v (I serial)), .a (.v (.agg #[I lo, I hi])), .a (.v (I8 mode))] Try.func43 rfl rfl (mem0 E0 0 w) rfl rfl ?_
  refine c_seq ?_
  refine c_region ?_
  refine o_new tok rfl rfl rfl rfl ?_
  refine o_new tok rfl rfl rfl rfl ?_
  refine o_new tok rfl rfl rfl rfl ?_
  refine o_yield rfl rfl rfl (y_val tok rfl) ?_
  refine o_yield rfl rfl rfl (y_val tok rfl) ?_
  refine o_end [2, 3, 5, 6, 7, 10] rfl ?_
  refine x_then ?_
  refine c_seq ?_
  refine c_region ?_
  refine o_yield rfl rfl rfl (y_val tok rfl) ?_
  refine o_yield rfl rfl rfl (y_val tok rfl) ?_
  refine o_yield rfl rfl rfl (y_val tok rfl) ?_
  refine o_yield rfl rfl rfl (y_val tok rfl) ?_
  refine o_yield rfl rfl rfl (y_val tok rfl) ?_
  refine o_yield rfl rfl rfl (y_val tok rfl) ?_
  refine o_call (.tup [.v (S sv.1), .v (I sv.2)]) rfl rfl fnok93 rfl rfl rfl (fun hg E w1 hm => by exact hsay _ (hV.trans hm.leV)) ?_
  refine o_yield rfl rfl rfl (y_val tok rfl) ?_
  refine o_yield rfl rfl rfl (y_val tok rfl) ?_
  refine o_yield rfl rfl rfl (y_val tok rfl) ?_
  refine o_yield rfl rfl rfl (y_val tok rfl) ?_
  refine o_yield rfl rfl rfl (y_val tok rfl) ?_
  refine o_end [2, 5, 6, 7, 10, 14, 15] rfl ?_
  refine x_then ?_
  refine c_seq ?_
  refine c_seq ?_
  refine c_region ?_
  refine o_yield rfl rfl rfl (y_val tok rfl) ?_
  refine o_yield rfl rfl rfl (y_val tok rfl) ?_
  refine o_yield rfl rfl rfl (y_val tok rfl) ?_
  refine o_yield rfl rfl rfl (y_val tok rfl) ?_
  refine o_yield rfl rfl rfl (y_val tok rfl) ?_
  refine o_yield rfl rfl rfl (y_val tok rfl) ?_
  refine o_yield rfl rfl rfl (y_val tok rfl) ?_
  refine o_yield rfl rfl rfl (y_val tok rfl) ?_
  refine o_call (.a (.v _)) rfl rfl fnok58 rfl rfl rfl (fun hg E w1 hm => by exact spRhold_c g ⟨key, lo, hi, mode⟩ _) ?_
  refine o_yield rfl rfl rfl (y_val tok rfl) ?_
  refine o_yield rfl rfl rfl (y_val tok rfl) ?_
  refine o_end [2, 7, 10, 14, 37] rfl ?_
  refine x_then ?_
  refine c_cond rfl (fun h => ?_) (fun h => ?_)
  ·
    refine c_seq ?_
    refine c_region ?_
    refine o_yield rfl rfl rfl (y_val tok rfl) ?_
    refine o_yield rfl rfl rfl (y_val tok rfl) ?_
    refine o_end [12, 13] rfl ?_
    refine x_then ?_
    refine c_ret ?_
    refine x_then_ret ?_
    refine b_ret tok rfl ?_
    have hc : sv.2 ≠ 0 ∨ holdB g.blocks ⟨key, lo, hi, mode⟩ = false := by simpa using h
    intro E w' hm _
    refine ⟨?_, hm.below (Vw.le.refl _)⟩
    rw [if_pos hc]; rfl
  ·
    have hc : ¬ (sv.2 ≠ 0 ∨ holdB g.blocks ⟨key, lo, hi, mode⟩ = false) := by
      intro hc
      rcases hc with hc | hc <;> simp [hc] at h
    rw [if_neg hc]
    clear h
    refine c_skip ?_
    refine x_then ?_
    refine c_seq ?_
    refine c_heldR mixed rfl (by repeat (first | exact SubO.nil | refine SubO.cons rfl ?_)) (by first | rfl | simp [okCels, allOk_plain]) ?_
    refine t_take 0 rfl (by kernel_rfl) rfl rfl rfl (y_val tok rfl) rfl ?_
    refine t_take 1 rfl (by kernel_rfl) rfl rfl rfl (y_val tok rfl) rfl ?_
    refine t_take 3 rfl (by kernel_rfl) rfl rfl rfl (y_val tok rfl) rfl ?_
    refine t_take 4 rfl (by kernel_rfl) rfl rfl rfl (y_val tok rfl) rfl ?_
    refine t_go ?_
    refine h_one 2 (by kernel_rfl) ?_
    refine h_to 2 rfl rfl rfl rfl rfl rfl (s_callRow 43 4 X.length (X.flatMap Hold.cells) rfl fnok26 (fun E w1 hm => hhas w1 (hV.trans hm.leV))) (.inr fun _ _ => ⟨(by repeat (first | exact SubO.nil | refine SubO.cons rfl ?_)), rfl, (by first | exact Vw.le.refl _ | assumption)⟩) (fun _ _ => ?_)
    refine h_one 5 (by kernel_rfl) ?_
    refine h_to 5 rfl rfl rfl rfl rfl rfl (s_callRow 43 4 Y.length (Y.flatMap Hold.cells) rfl fnok28 (fun E w1 hm => hwts w1 (hV.trans hm.leV))) (.inr fun _ _ => ⟨(by repeat (first | exact SubO.nil | refine SubO.cons rfl ?_)), rfl, (by first | exact Vw.le.refl _ | assumption)⟩) (fun _ _ => ?_)
    refine h_one 6 (by kernel_rfl) ?_
    refine h_to 6 rfl rfl rfl rfl rfl rfl (s_app tok (Y.flatMap Hold.cells) rfl (fun E w hm => ownsRow_src (hm.row _ _ _ _ _ rfl)) (fun _ _ _ => hold_ones Y) (by dsimp only; omega)) (.inr fun _ _ => ⟨(by repeat (first | exact SubO.nil | refine SubO.cons rfl ?_)), rfl, (by first | exact Vw.le.refl _ | assumption)⟩) (fun _ _ => ?_)
    refine h_one 7 (by kernel_rfl) ?_
    refine h_yield 7 rfl rfl rfl rfl (y_val tok rfl) ?_
    refine h_done [2, 10, 14, 16] (by kernel_rfl) rfl ?_
    refine x_then ?_
    refine c_seq ?_
    refine c_seq ?_
    refine c_region ?_
    refine o_yield rfl rfl rfl (y_val tok rfl) ?_
    refine o_yield rfl rfl rfl (y_val tok rfl) ?_
    refine o_yield rfl rfl rfl (y_val tok rfl) ?_
    rw [← hLl, ← hfl]
    refine o_call (.a (.v _)) rfl rfl fnok59 rfl rfl rfl (fun hg E w1 hm => by exact spRtouches_c (vw w1) (E.κ 5) L key lo hi _ (Vw.le.refl _) (hm.rowOf 5 rfl (fun _ => rfl)) (by omega)) ?_
    refine o_end [14, 16, 48] rfl ?_
    refine x_then ?_
    refine c_cond rfl (fun h => ?_) (fun h => ?_)
    ·
      refine c_seq ?_
      refine c_region ?_
      refine o_yield rfl rfl rfl (y_val tok rfl) ?_
      refine o_yield rfl rfl rfl (y_val tok rfl) ?_
      refine o_end [12, 13] rfl ?_
      refine x_then ?_
      refine c_ret ?_
      refine x_then_ret ?_
      refine b_ret tok rfl ?_
      intro E w' hm _
      refine ⟨?_, hm.below (Vw.le.refl _)⟩
      rw [if_pos h]; rfl
    ·
      rw [if_neg (by rw [h]; simp)]
      clear h
      refine c_skip ?_
      refine x_then ?_
      refine c_seq ?_
      refine c_seq ?_
      refine c_region ?_
      refine o_yield rfl rfl rfl (y_val tok rfl) ?_
      refine o_yield rfl rfl rfl (y_own (s := .a (.v (I L.length))) 5 rfl rfl (fun v V' hv => y_len tok rfl (fun hg => hv))) ?_
      refine o_yield rfl rfl rfl (y_val tok rfl) ?_
      refine o_end [14, 51] rfl ?_
      refine x_then ?_
      refine c_cond rfl (fun h => ?_) (fun h => ?_)
      ·
        refine c_seq ?_
        refine c_region ?_
        refine o_yield rfl rfl rfl (y_val tok rfl) ?_
        refine o_yield rfl rfl rfl (y_val tok rfl) ?_
        refine o_end [12, 13] rfl ?_
        refine x_then ?_
        refine c_ret ?_
        refine x_then_ret ?_
        refine b_ret tok rfl ?_
        have hc : 64 ≤ L.length := by simp at h; omega
        intro E w' hm _
        refine ⟨?_, hm.below (Vw.le.refl _)⟩
        rw [if_pos hc]; rfl
      ·
        refine c_skip ?_
        refine x_then ?_
        refine c_seq ?_
        refine c_region ?_
        refine o_yield rfl rfl rfl (y_val tok rfl) ?_
        refine o_yield rfl rfl rfl (y_val tok rfl) ?_
        refine o_yield rfl rfl rfl (y_val tok rfl) ?_
        refine o_end [12, 13] rfl ?_
        refine x_then ?_
        refine c_ret ?_
        refine b_ret tok rfl ?_
        have hc : ¬ 64 ≤ L.length := by simp at h; omega
        intro E w' hm _
        refine ⟨?_, hm.below (Vw.le.refl _)⟩
        rw [if_neg hc]; rfl

theorem rFree_c (V : Vw) (g : Geo) (tv : Value) (t : Tb) (key serial lo hi : Int) (w : World) (ht : t.Fit) (hV : V.le (vw w)) (h : TbIs V tv t) :
    Calls Try.prog 44 #[g.val, tv, I key, I serial, .agg #[I lo, I hi]] w fun e w' => e = .returned (.tuple #[S (freeV g t key serial lo hi).1, I (freeV g t key serial lo hi).2]) ∧ Below w.heap.size w w' := by
  obtain ⟨a, n, c0, a2, n2, c2, a3, n3, c3, rfl, h1, h2, h3⟩ := id h
  have hh := ht.h
  have hq := ht.q
  have hlim : lim = 4398046511104 := rfl
  have hA : freeV g t key serial lo hi = if (saysV key serial t ⟨3, 0, 0, 0, 0, lo, hi, 0⟩).2 ≠ 0 ∨ may g.blocks lo hi = false then (ByteArray.empty, 2)
    else if (allL key t).any (spanF lo hi) = false then (ByteArray.empty, 250) else ((saysV key serial t ⟨3, 0, 0, 0, 0, lo, hi, 0⟩).1, 0) := rfl
  have hsay := fun w1 hw1 => rtold_c V _ t ⟨3, key, serial, 0, 0, lo, hi, 0⟩ w1 ht hw1 h
  rw [show saysV (Cmd.mk 3 key serial 0 0 lo hi 0).by_ (Cmd.mk 3 key serial 0 0 lo hi 0).serial t ⟨3, key, serial, 0, 0, lo, hi, 0⟩ = saysV key serial t ⟨3, 0, 0, 0, 0, lo, hi, 0⟩ from rfl] at hsay
  have hhas := fun w1 hw1 => rHas_c V _ (.slice none 0 0) t key false [] w1 ht hw1 h (slNil V Span.cells 2 0 (fun _ => rfl)) (by simp)
  have hwts := fun w1 hw1 => rWaits_c V _ t key w1 ht hw1 h
  have hpar := allL_parts key t
  have hHl : (hasL key false [] t.H).length ≤ t.H.length := List.length_filter_le _ _
  have hWl : (waitsL key t.Q).length ≤ t.Q.length := List.length_filter_le _ _
  generalize saysV key serial t ⟨3, 0, 0, 0, 0, lo, hi, 0⟩ = sv at hA hsay
  generalize hasL key false [] t.H = X at hhas hpar hHl
  generalize waitsL key t.Q = Y at hwts hpar hWl
  generalize allL key t = L at hA hpar
  have hLl : L.length = X.length + Y.length := by rw [← hpar, List.length_append]
  have hfl : L.flatMap Hold.cells = X.flatMap Hold.cells ++ Y.flatMap Hold.cells := by rw [← hpar, List.flatMap_append]
  rw [hA]
  refine enter (E := E0) (O := []) (nl := 0) (V := vw w) [.a (.v g.val), .a (.v (.agg #[.slice a n c0, .slice a2 n2 c2, .slice a3 n3 c3])), .a (.v (I key)), .a (.v (I serial)), .a (.v (.agg #[I lo, I hi]))] Try.func44 rfl rfl (mem0 E0 0 w) rfl rfl ?_
  refine c_seq ?_
  refine c_region ?_
  refine o_new tok rfl rfl rfl rfl ?_
  refine o_new tok rfl rfl rfl rfl ?_
  refine o_new tok rfl rfl rfl rfl ?_
  refine o_yield rfl rfl rfl (y_val tok rfl) ?_
  refine o_yield rfl rfl rfl (y_val tok rfl) ?_
  refine o_end [2, 3, 5, 6, 9] rfl ?_
  refine x_then ?_
  refine c_seq ?_
  refine c_region ?_
  refine o_yield rfl rfl rfl (y_val tok rfl) ?_
  refine o_yield rfl rfl rfl (y_val tok rfl) ?_
  refine o_yield rfl rfl rfl (y_val tok rfl) ?_
  refine o_yield rfl rfl rfl (y_val tok rfl) ?_
  refine o_yield rfl rfl rfl (y_val tok rfl) ?_
  refine o_call (.tup [.v (S sv.1), .v (I sv.2)]) rfl rfl fnok93 rfl rfl rfl (fun hg E w1 hm => by exact hsay _ (hV.trans hm.leV)) ?_
  refine o_yield rfl rfl rfl (y_val tok rfl) ?_
  refine o_yield rfl rfl rfl (y_val tok rfl) ?_
  refine o_yield rfl rfl rfl (y_val tok rfl) ?_
  refine o_yield rfl rfl rfl (y_val tok rfl) ?_
  refine o_yield rfl rfl rfl (y_val tok rfl) ?_
  refine o_end [2, 5, 6, 9, 12, 13] rfl ?_
  refine x_then ?_
  refine c_seq ?_
  refine c_seq ?_
  refine c_region ?_
  refine o_yield rfl rfl rfl (y_val tok rfl) ?_
  refine o_yield rfl rfl rfl (y_val tok rfl) ?_
  refine o_yield rfl rfl rfl (y_val tok rfl) ?_
  refine o_yield rfl rfl rfl (y_val tok rfl) ?_
  refine o_yield rfl rfl rfl (y_val tok rfl) ?_
  refine o_call (.a (.v _)) rfl rfl fnok94 rfl rfl rfl (fun hg E w1 hm => by exact spRmay_c g lo hi _) ?_
  refine o_yield rfl rfl rfl (y_val tok rfl) ?_
  refine o_yield rfl rfl rfl (y_val tok rfl) ?_
  refine o_end [2, 6, 9, 12, 32] rfl ?_
  refine x_then ?_
  refine c_cond rfl (fun h => ?_) (fun h => ?_)
  ·
    refine c_seq ?_
    refine c_region ?_
    refine o_yield rfl rfl rfl (y_val tok rfl) ?_
    refine o_yield rfl rfl rfl (y_val tok rfl) ?_
    refine o_end [10, 11] rfl ?_
    refine x_then ?_
    refine c_ret ?_
    refine x_then_ret ?_
    refine b_ret tok rfl ?_
    have hc : sv.2 ≠ 0 ∨ may g.blocks lo hi = false := by simpa using h
    intro E w' hm _
    refine ⟨?_, hm.below (Vw.le.refl _)⟩
    rw [if_pos hc]; rfl
  ·
    have hc : ¬ (sv.2 ≠ 0 ∨ may g.blocks lo hi = false) := by
      intro hc
      rcases hc with hc | hc <;> simp [hc] at h
    rw [if_neg hc]
    clear h
    refine c_skip ?_
    refine x_then ?_
    refine c_seq ?_
    refine c_heldR mixed rfl (by repeat (first | exact SubO.nil | refine SubO.cons rfl ?_)) (by first | rfl | simp [okCels, allOk_plain]) ?_
    refine t_take 0 rfl (by kernel_rfl) rfl rfl rfl (y_val tok rfl) rfl ?_
    refine t_take 1 rfl (by kernel_rfl) rfl rfl rfl (y_val tok rfl) rfl ?_
    refine t_take 3 rfl (by kernel_rfl) rfl rfl rfl (y_val tok rfl) rfl ?_
    refine t_take 4 rfl (by kernel_rfl) rfl rfl rfl (y_val tok rfl) rfl ?_
    refine t_go ?_
    refine h_one 2 (by kernel_rfl) ?_
    refine h_to 2 rfl rfl rfl rfl rfl rfl (s_callRow 43 4 X.length (X.flatMap Hold.cells) rfl fnok26 (fun E w1 hm => hhas w1 (hV.trans hm.leV))) (.inr fun _ _ => ⟨(by repeat (first | exact SubO.nil | refine SubO.cons rfl ?_)), rfl, (by first | exact Vw.le.refl _ | assumption)⟩) (fun _ _ => ?_)
    refine h_one 5 (by kernel_rfl) ?_
    refine h_to 5 rfl rfl rfl rfl rfl rfl (s_callRow 43 4 Y.length (Y.flatMap Hold.cells) rfl fnok28 (fun E w1 hm => hwts w1 (hV.trans hm.leV))) (.inr fun _ _ => ⟨(by repeat (first | exact SubO.nil | refine SubO.cons rfl ?_)), rfl, (by first | exact Vw.le.refl _ | assumption)⟩) (fun _ _ => ?_)
    refine h_one 6 (by kernel_rfl) ?_
    refine h_to 6 rfl rfl rfl rfl rfl rfl (s_app tok (Y.flatMap Hold.cells) rfl (fun E w hm => ownsRow_src (hm.row _ _ _ _ _ rfl)) (fun _ _ _ => hold_ones Y) (by dsimp only; omega)) (.inr fun _ _ => ⟨(by repeat (first | exact SubO.nil | refine SubO.cons rfl ?_)), rfl, (by first | exact Vw.le.refl _ | assumption)⟩) (fun _ _ => ?_)
    refine h_one 7 (by kernel_rfl) ?_
    refine h_yield 7 rfl rfl rfl rfl (y_val tok rfl) ?_
    refine h_done [9, 12, 14] (by kernel_rfl) rfl ?_
    refine x_then ?_
    refine c_seq ?_
    refine c_seq ?_
    refine c_region ?_
    refine o_yield rfl rfl rfl (y_val tok rfl) ?_
    refine o_end [9, 12, 14, 15] rfl ?_
    refine x_then ?_
    refine c_block ?_
    rw [← hLl, ← hfl]
    refine c_loopK [9, 12, 14] [] rfl rfl (σ := Nat) (fun i => [(15, .a (.v (I i)))]) (fun i => []) (fun i => i ≤ L.length ∧ ∀ (j : Nat) (x : Hold), j < i → L[j]? = some x → spanF lo hi x = false) (fun i => L.length - i) (0) (⟨by omega, by simp⟩) (by repeat (first | exact SubF.nil | refine SubF.cons rfl ?_)) (by repeat (first | exact SubO.nil | refine SubO.cons rfl ?_)) rfl ?_
    rintro i ⟨hi', hall⟩
    refine c_seq ?_
    refine c_seq ?_
    refine c_region ?_
    refine o_yield rfl rfl rfl (y_val tok rfl) ?_
    refine o_yield rfl rfl rfl (y_val tok rfl) ?_
    refine o_yield rfl rfl rfl (y_own (s := .a (.v (I L.length))) 5 rfl rfl (fun v V' hv => y_len tok rfl (fun hg => hv))) ?_
    refine o_yield rfl rfl rfl (y_val tok rfl) ?_
    refine o_end [9, 12, 14, 15, 43] rfl ?_
    refine x_then ?_
    refine c_cond rfl (fun h => ?_) (fun h => ?_)
    ·
      simp only [Bool.and_eq_true, Bool.or_eq_true, Bool.not_eq_true', Bool.or_eq_false_iff, Bool.and_eq_false_iff, decide_eq_true_eq, decide_eq_false_iff_not, beq_iff_eq, bne_iff_ne, Bool.not_eq_false', beq_eq_false_iff_ne, bne_eq_false_iff_eq, ne_eq, Decidable.not_not, Int.not_lt, Int.not_le] at h
      refine c_skip ?_
      refine x_then ?_
      refine c_seq ?_
      refine c_block ?_
      refine c_seq ?_
      refine c_draw mixed (by kernel_rfl) ?_
      refine d_yield rfl rfl rfl (y_val tok rfl) rfl ?_
      refine d_yield rfl rfl rfl (y_val tok rfl) rfl ?_
      obtain ⟨x, hx⟩ : ∃ x, L[i]? = some x := ⟨_, List.getElem?_eq_getElem (by omega)⟩
      refine d_yield rfl rfl rfl (y_own (s := .a (.rel 5 (i * 4))) 5 rfl rfl (fun v V' hv => y_idxK tok (i * 4) rfl (by simp) (fun hg => hv) (fun hg => by omega))) rfl ?_
      refine d_yield rfl rfl rfl (y_own (s := .a (.rel 5 (i * 4 + 1))) 5 rfl rfl (fun v V' hv => y_fel tok rfl (fun hg => hv) (fun hg => by omega))) rfl ?_
      refine d_yield rfl rfl rfl (y_own (s := .agg [.v (I x.lo), .v (I x.hi)]) 5 rfl rfl (fun v V' hv => y_lel (enc := Hold.cells) (l := L) tok i 1 x rfl (fun hg => ⟨hv, fun _ => rfl⟩) (fun hg => hx) rfl rfl)) rfl ?_
      refine d_yield rfl rfl rfl (y_val tok rfl) rfl ?_
      refine d_yield rfl rfl rfl (y_seq (.bool (x.lo == lo && x.hi == hi)) rfl (fun E w => spanEq x.lo x.hi lo hi w (.inl rfl))) rfl ?_
      refine d_end [9, 12, 14, 15, 52] rfl ?_
      refine x_then ?_
      refine c_cond rfl (fun h => ?_) (fun h => ?_)
      ·
        refine c_seq ?_
        refine c_region ?_
        refine o_yield rfl rfl rfl (y_val tok rfl) ?_
        refine o_yield rfl rfl rfl (y_val tok rfl) ?_
        refine o_yield rfl rfl rfl (y_val tok rfl) ?_
        refine o_end [10, 11] rfl ?_
        refine x_then ?_
        refine c_ret ?_
        refine x_block_ret ?_
        refine x_then_ret ?_
        refine x_then_ret ?_
        refine x_block_ret ?_
        refine x_then_ret ?_
        refine b_ret tok rfl ?_
        have hany : L.any (spanF lo hi) = true := List.any_eq_true.2 ⟨x, List.mem_of_getElem? hx, h⟩
        intro E w' hm _
        refine ⟨?_, hm.below (Vw.le.refl _)⟩
        rw [if_neg (by rw [hany]; simp)]; rfl
      ·
        refine c_skip ?_
        refine x_block ?_
        refine x_then ?_
        refine c_region ?_
        refine o_yield rfl rfl rfl (y_val tok rfl) ?_
        refine o_yield rfl rfl rfl (y_val tok rfl) ?_
        refine o_yield rfl rfl rfl (y_val tok rfl) ?_
        refine o_end [9, 12, 14, 15] rfl ?_
        refine x_then ?_
        rw [wrapI (by omega) (by omega)]
        refine x_round (i + 1) (⟨by omega, ahead_succ hx hall h⟩) (by first | omega | (dsimp only; omega)) (by repeat (first | exact SubF.nil | refine SubF.cons rfl ?_)) (by repeat (first | exact SubO.nil | refine SubO.cons rfl ?_)) rfl (Vw.le.refl _)
    ·
      simp only [Bool.and_eq_true, Bool.or_eq_true, Bool.not_eq_true', Bool.or_eq_false_iff, Bool.and_eq_false_iff, decide_eq_true_eq, decide_eq_false_iff_not, beq_iff_eq, bne_iff_ne, Bool.not_eq_false', beq_eq_false_iff_ne, bne_eq_false_iff_eq, ne_eq, Decidable.not_not, Int.not_lt, Int.not_le] at h
      refine c_exit ?_
      refine x_then_exit ?_
      refine x_then_exit ?_
      refine x_block_hit ?_
      refine x_then ?_
      refine c_seq ?_
      refine c_region ?_
      refine o_yield rfl rfl rfl (y_val tok rfl) ?_
      refine o_yield rfl rfl rfl (y_val tok rfl) ?_
      refine o_end [10, 11] rfl ?_
      refine x_then ?_
      refine c_ret ?_
      refine b_ret tok rfl ?_
      have hil : i = L.length := by omega
      have hno : L.any (spanF lo hi) = false := by
        rw [List.any_eq_false]
        intro x hx
        obtain ⟨j, hj⟩ := List.mem_iff_getElem?.1 hx
        rw [hall j x (by rw [hil]; exact lt_of_at hj) hj]; simp
      intro E w' hm _
      refine ⟨?_, hm.below (Vw.le.refl _)⟩
      rw [if_pos hno]; rfl

theorem rLeave_c (V : Vw) (tv : Value) (t : Tb) (key serial : Int) (w : World) (ht : t.Fit) (hV : V.le (vw w)) (h : TbIs V tv t) :
    Calls Try.prog 45 #[tv, I key, I serial] w fun e w' => e = .returned (.tuple #[S (saysV key serial t ⟨1, 0, 0, 0, 0, 0, 0, 0⟩).1, I (saysV key serial t ⟨1, 0, 0, 0, 0, 0, 0, 0⟩).2]) ∧ Below w.heap.size w w' := by
  obtain ⟨a, n, c0, a2, n2, c2, a3, n3, c3, rfl, h1, h2, h3⟩ := id h
  refine enter (E := E0) (O := []) (nl := 0) (V := vw w) [.a (.v (.agg #[.slice a n c0, .slice a2 n2 c2, .slice a3 n3 c3])), .a (.v (I key)), .a (.v (I serial))] Try.func45 rfl rfl (mem0 E0 0 w) rfl rfl ?_
  refine c_seq ?_
  refine c_region ?_
  refine o_new tok rfl rfl rfl rfl ?_
  refine o_yield rfl rfl rfl (y_val tok rfl) ?_
  refine o_yield rfl rfl rfl (y_val tok rfl) ?_
  refine o_end [1, 2, 3] rfl ?_
  refine x_then ?_
  refine c_seq ?_
  refine c_region ?_
  refine o_yield rfl rfl rfl (y_val tok rfl) ?_
  refine o_yield rfl rfl rfl (y_val tok rfl) ?_
  refine o_yield rfl rfl rfl (y_val tok rfl) ?_
  refine o_yield rfl rfl rfl (y_val tok rfl) ?_
  refine o_call (.tup [.v (S (saysV key serial t ⟨1, 0, 0, 0, 0, 0, 0, 0⟩).1), .v (I (saysV key serial t ⟨1, 0, 0, 0, 0, 0, 0, 0⟩).2)]) rfl rfl fnok93 rfl rfl rfl (fun hg E w1 hm => by exact rtold_c V _ t ⟨1, key, serial, 0, 0, 0, 0, 0⟩ _ ht (hV.trans hm.leV) h) ?_
  refine o_yield rfl rfl rfl (y_val tok rfl) ?_
  refine o_yield rfl rfl rfl (y_val tok rfl) ?_
  refine o_yield rfl rfl rfl (y_val tok rfl) ?_
  refine o_yield rfl rfl rfl (y_val tok rfl) ?_
  refine o_end [6, 7] rfl ?_
  refine x_then ?_
  refine c_ret ?_
  refine b_ret tok rfl ?_
  intro E w' hm _
  refine ⟨?_, hm.below (Vw.le.refl _)⟩
  rfl

theorem catL_bound : ∀ (L : List (Sl Hold)), (∀ s ∈ L, s.l.length ≤ 100) → (catL L).length ≤ L.length * 100
  | [], _ => by simp [catL]
  | s :: r, h => by
    have ih := catL_bound r (fun u hu => h u (List.mem_cons_of_mem _ hu))
    have h1 := h s (List.mem_cons_self ..)
    simp only [catL, List.flatMap_cons, List.length_append, List.length_cons] at ih ⊢
    omega

theorem lockAsks_law (w : World) {v0 v1 v2 v3 v4 v5 v6 : Value} (R0 : ∃ g : Geo, v0 = g.val ∧ g.Ok) (R1 : ∃ a : Table, v1 = a.val ∧ Table.Ok (vw w) a) (R2 : ∃ n : Int, v2 = I n ∧ R64 n) (R3 : ∃ n : Int, v3 = I n ∧ R64 n) (R4 : ∃ a : Span, v4 = a.val ∧ Span.Ok a) (R5 : ∃ n : Int, v5 = I8 n ∧ R8 n)
    (R6 : ∃ l : List (Sl Hold), SlOf (vw w) Sl.enc 1 v6 l ∧ l.length ≤ maxLen ∧ ∀ a ∈ l, SlGood (vw w) Hold.cells 4 (fun a => Hold.Ok a) a) :
    Calls Try.prog 9 #[v0, v1, v2, v3, v4, v5, v6] w fun e w' => e = .returned (.bool true) ∧ Below w.heap.size w w' := by
  obtain ⟨g, rfl, _⟩ := R0
  obtain ⟨ta, rfl, taok⟩ := R1
  obtain ⟨key, rfl, _⟩ := R2
  obtain ⟨serial, rfl, _⟩ := R3
  obtain ⟨⟨lo, hi⟩, rfl, _⟩ := R4
  obtain ⟨mode, rfl, _⟩ := R5
  obtain ⟨L, hLs, hLm, hLg⟩ := R6
  have hT := taok.is
  generalize ta.val = tv at hT ⊢
  generalize ta.tb = t at hT
  clear taok
  obtain ⟨a, n, c0, a2, n2, c2, a3, n3, c3, rfl, tS, tH, tQ⟩ := id hT
  have hlim : lim = 4398046511104 := rfl
  refine enter (E := E0) (O := []) (nl := 0) (V := vw w) [.a (.v g.val), .a (.v (.agg #[.slice a n c0, .slice a2 n2 c2, .slice a3 n3 c3])), .a (.v (I key)), .a (.v (I serial)), .a (.v (.agg #[I lo, I hi])), .a (.v (I8 mode)), .a (.v v6)] Try.func9 rfl rfl (mem0 E0 0 w) rfl rfl ?_
  refine c_seq ?_
  refine c_region ?_
  refine o_new tok rfl rfl rfl rfl ?_
  refine o_new tok rfl rfl rfl rfl ?_
  refine o_new tok rfl rfl rfl rfl ?_
  refine o_yield rfl rfl rfl (y_val tok rfl) ?_
  refine o_end [2, 3, 5, 6, 7, 8, 11] rfl ?_
  refine x_then ?_
  refine c_seq ?_
  refine c_seq ?_
  refine c_region ?_
  refine o_yield rfl rfl rfl (y_val tok rfl) ?_
  refine o_call (.a (.v _)) rfl rfl fnok20 rfl rfl rfl (fun hg E w1 hm => by exact great11_c (vw w) _ t _ hm.leV hT) ?_
  refine o_yield rfl rfl rfl (y_val tok rfl) ?_
  refine o_yield rfl rfl rfl (y_val tok rfl) ?_
  refine o_yield rfl rfl rfl (y_len tok rfl (fun hg => hLs.sl)) ?_
  refine o_yield rfl rfl rfl (y_val tok rfl) ?_
  refine o_yield rfl rfl rfl (y_val tok rfl) ?_
  refine o_end [2, 3, 5, 6, 7, 8, 11, 34] rfl ?_
  refine x_then ?_
  refine c_cond rfl (fun h => ?_) (fun h => ?_)
  ·
    simp only [Bool.and_eq_true, Bool.or_eq_true, Bool.not_eq_true', Bool.or_eq_false_iff, Bool.and_eq_false_iff, decide_eq_true_eq, decide_eq_false_iff_not, beq_iff_eq, bne_iff_ne, Bool.not_eq_false', beq_eq_false_iff_ne, bne_eq_false_iff_eq, ne_eq, Decidable.not_not, Int.not_lt, Int.not_le] at h
    refine c_seq ?_
    refine c_region ?_
    refine o_call (.a (.v _)) rfl rfl fnok21 rfl rfl rfl (fun hg E w1 hm => by exact wakes25_c _) ?_
    refine o_yield rfl rfl rfl (y_val tok rfl) ?_
    refine o_end [14] rfl ?_
    refine x_then ?_
    refine c_ret ?_
    refine x_then_ret ?_
    refine b_ret tok rfl ?_
    intro E w' hm _
    refine ⟨?_, hm.below (Vw.le.refl _)⟩
    rfl
  ·
    simp only [Bool.and_eq_true, Bool.or_eq_true, Bool.not_eq_true', Bool.or_eq_false_iff, Bool.and_eq_false_iff, decide_eq_true_eq, decide_eq_false_iff_not, beq_iff_eq, bne_iff_ne, Bool.not_eq_false', beq_eq_false_iff_ne, bne_eq_false_iff_eq, ne_eq, Decidable.not_not, Int.not_lt, Int.not_le] at h
    obtain ⟨e1, e2⟩ := h
    obtain ⟨hfit, hz1, hz2, hz3⟩ := great_fit e1
    refine c_skip ?_
    refine x_then ?_
    refine c_seq ?_
    refine c_seq ?_
    refine c_region ?_
    refine o_yield rfl rfl rfl (y_val tok rfl) ?_
    refine o_end [2, 3, 5, 6, 7, 8, 11, 15] rfl ?_
    refine x_then ?_
    refine c_block ?_
    refine c_loopK [2, 3, 5, 6, 7, 8, 11] [] rfl rfl (σ := Nat) (fun i => [(15, .a (.v (I i)))]) (fun i => []) (fun i => i ≤ L.length ∧ ∀ (j : Nat) (s : Sl Hold), j < i → L[j]? = some s → s.l.length ≤ 100) (fun i => L.length - i) (0) (⟨by omega, fun j s hj => by omega⟩) (by repeat (first | exact SubF.nil | refine SubF.cons rfl ?_)) (by repeat (first | exact SubO.nil | refine SubO.cons rfl ?_)) rfl ?_
    rintro i ⟨hil, hall⟩
    refine c_seq ?_
    refine c_seq ?_
    refine c_region ?_
    refine o_yield rfl rfl rfl (y_val tok rfl) ?_
    refine o_yield rfl rfl rfl (y_val tok rfl) ?_
    refine o_yield rfl rfl rfl (y_len tok rfl (fun hg => hLs.sl)) ?_
    refine o_yield rfl rfl rfl (y_val tok rfl) ?_
    refine o_end [2, 3, 5, 6, 7, 8, 11, 15, 39] rfl ?_
    refine x_then ?_
    refine c_cond rfl (fun h => ?_) (fun h => ?_)
    ·
      simp only [Bool.and_eq_true, Bool.or_eq_true, Bool.not_eq_true', Bool.or_eq_false_iff, Bool.and_eq_false_iff, decide_eq_true_eq, decide_eq_false_iff_not, beq_iff_eq, bne_iff_ne, Bool.not_eq_false', beq_eq_false_iff_ne, bne_eq_false_iff_eq, ne_eq, Decidable.not_not, Int.not_lt, Int.not_le] at h
      refine c_skip ?_
      refine x_then ?_
      refine c_seq ?_
      refine c_block ?_
      refine c_seq ?_
      refine c_region ?_
      refine o_yield rfl rfl rfl (y_val tok rfl) ?_
      refine o_yield rfl rfl rfl (y_val tok rfl) ?_
      obtain ⟨s, h_s⟩ := hLs.at (k := i) (by omega)
      have hlt_s := lt_of_at h_s
      refine o_yield rfl rfl rfl (y_idx tok rfl (fun hg => hLs.sl) (fun hg => ⟨by omega, by omega⟩)) ?_
      refine o_yield rfl rfl rfl (y_lel tok (i) 0 (s) rfl (fun hg => hLs) (fun hg => h_s) rfl rfl) ?_
      have hsl := (hLg s (List.mem_of_getElem? h_s)).sl
      refine o_yield rfl rfl rfl (y_len tok rfl (fun hg => hsl.sl)) ?_
      refine o_yield rfl rfl rfl (y_val tok rfl) ?_
      refine o_end [2, 3, 5, 6, 7, 8, 11, 15, 47] rfl ?_
      refine x_then ?_
      refine c_cond rfl (fun h => ?_) (fun h => ?_)
      ·
        refine c_seq ?_
        refine c_region ?_
        refine o_call (.a (.v _)) rfl rfl fnok21 rfl rfl rfl (fun hg E w1 hm => by exact wakes25_c _) ?_
        refine o_yield rfl rfl rfl (y_val tok rfl) ?_
        refine o_end [14] rfl ?_
        refine x_then ?_
        refine c_ret ?_
        refine x_block_ret ?_
        refine x_then_ret ?_
        refine x_then_ret ?_
        refine x_block_ret ?_
        refine x_then_ret ?_
        refine b_ret tok rfl ?_
        intro E w' hm _
        refine ⟨?_, hm.below (Vw.le.refl _)⟩
        rfl
      ·
        refine c_skip ?_
        refine x_block ?_
        refine x_then ?_
        refine c_region ?_
        refine o_yield rfl rfl rfl (y_val tok rfl) ?_
        refine o_yield rfl rfl rfl (y_val tok rfl) ?_
        refine o_yield rfl rfl rfl (y_val tok rfl) ?_
        refine o_end [2, 3, 5, 6, 7, 8, 11, 15] rfl ?_
        refine x_then ?_
        have h100 : s.l.length ≤ 100 := by simp at h; omega
        rw [wrapI (by omega) (by omega)]
        refine x_round (i + 1) (⟨by omega, ahead_succ h_s hall h100⟩) (by first | omega | (dsimp only; omega)) (by repeat (first | exact SubF.nil | refine SubF.cons rfl ?_)) (by repeat (first | exact SubO.nil | refine SubO.cons rfl ?_)) rfl (Vw.le.refl _)
    ·
      simp only [Bool.and_eq_true, Bool.or_eq_true, Bool.not_eq_true', Bool.or_eq_false_iff, Bool.and_eq_false_iff, decide_eq_true_eq, decide_eq_false_iff_not, beq_iff_eq, bne_iff_ne, Bool.not_eq_false', beq_eq_false_iff_ne, bne_eq_false_iff_eq, ne_eq, Decidable.not_not, Int.not_lt, Int.not_le] at h
      have hLl : i = L.length := by omega
      have h100 : ∀ s ∈ L, s.l.length ≤ 100 := by
        intro s hs
        obtain ⟨j, hj⟩ := List.mem_iff_getElem?.1 hs
        exact hall j s (by rw [hLl]; exact lt_of_at hj) hj
      have hcb := catL_bound L h100
      have hLsl : ∀ s ∈ L, SlOf (vw w) Hold.cells 4 s.v s.l := fun s hs => (hLg s hs).sl
      clear h
      obtain ⟨x1, y1⟩ : ∃ x y, askV g t key serial lo hi mode = (x, y) := ⟨_, _, rfl⟩
      obtain ⟨y1, hA⟩ := y1
      obtain ⟨x2, y2, hF⟩ : ∃ x y, freeV g t key serial lo hi = (x, y) := ⟨_, _, rfl⟩
      obtain ⟨x3, y3, hLv⟩ : ∃ x y, saysV key serial t ⟨1, 0, 0, 0, 0, 0, 0, 0⟩ = (x, y) := ⟨_, _, rfl⟩
      have c1 := fun w1 hw1 => lkAsk_c (vw w) g _ t key serial lo hi mode w1 hfit hw1 hT
      have c2 := fun w1 hw1 => rAsk_c (vw w) g _ t key serial lo hi mode w1 hfit hw1 hT
      have c3' := fun w1 hw1 => lkFree_c (vw w) g _ t key serial lo hi w1 hfit hw1 hT
      have c4 := fun w1 hw1 => rFree_c (vw w) g _ t key serial lo hi w1 hfit hw1 hT
      have c5 := fun w1 hw1 => lkLeave_c (vw w) _ t key serial w1 hfit hw1 hT
      have c6 := fun w1 hw1 => rLeave_c (vw w) _ t key serial w1 hfit hw1 hT
      rw [hA] at c1 c2
      rw [hF] at c3' c4
      rw [hLv] at c5 c6
      refine c_exit ?_
      refine x_then_exit ?_
      refine x_then_exit ?_
      refine x_block_hit ?_
      refine x_then ?_
      refine c_seq ?_
      refine c_region ?_
      refine o_yield rfl rfl rfl (y_val tok rfl) ?_
      refine o_yield rfl rfl rfl (y_val tok rfl) ?_
      refine o_yield rfl rfl rfl (y_val tok rfl) ?_
      refine o_yield rfl rfl rfl (y_val tok rfl) ?_
      refine o_yield rfl rfl rfl (y_val tok rfl) ?_
      refine o_yield rfl rfl rfl (y_val tok rfl) ?_
      refine o_call (.tup [.v (S x1), .v (I y1)]) rfl rfl fnok33 rfl rfl rfl (fun hg E w1 hm => by exact c1 _ hm.leV) ?_
      refine o_yield rfl rfl rfl (y_val tok rfl) ?_
      refine o_yield rfl rfl rfl (y_val tok rfl) ?_
      refine o_yield rfl rfl rfl (y_val tok rfl) ?_
      refine o_yield rfl rfl rfl (y_val tok rfl) ?_
      refine o_yield rfl rfl rfl (y_val tok rfl) ?_
      refine o_end [2, 3, 5, 6, 7, 8, 11, 16, 17] rfl ?_
      refine x_then ?_
      refine c_seq ?_
      refine c_region ?_
      refine o_yield rfl rfl rfl (y_val tok rfl) ?_
      refine o_yield rfl rfl rfl (y_val tok rfl) ?_
      refine o_yield rfl rfl rfl (y_val tok rfl) ?_
      refine o_yield rfl rfl rfl (y_val tok rfl) ?_
      refine o_yield rfl rfl rfl (y_val tok rfl) ?_
      refine o_yield rfl rfl rfl (y_val tok rfl) ?_
      refine o_call (.tup [.v (S x1), .v (I y1)]) rfl rfl fnok43 rfl rfl rfl (fun hg E w1 hm => by exact c2 _ hm.leV) ?_
      refine o_yield rfl rfl rfl (y_val tok rfl) ?_
      refine o_yield rfl rfl rfl (y_val tok rfl) ?_
      refine o_yield rfl rfl rfl (y_val tok rfl) ?_
      refine o_yield rfl rfl rfl (y_val tok rfl) ?_
      refine o_yield rfl rfl rfl (y_val tok rfl) ?_
      refine o_end [2, 3, 6, 7, 8, 11, 16, 17, 18, 19] rfl ?_
      refine x_then ?_
      refine c_seq ?_
      refine c_region ?_
      refine o_yield rfl rfl rfl (y_val tok rfl) ?_
      refine o_yield rfl rfl rfl (y_val tok rfl) ?_
      refine o_yield rfl rfl rfl (y_val tok rfl) ?_
      refine o_yield rfl rfl rfl (y_val tok rfl) ?_
      refine o_yield rfl rfl rfl (y_val tok rfl) ?_
      refine o_call (.tup [.v (S x2), .v (I y2)]) rfl rfl fnok37 rfl rfl rfl (fun hg E w1 hm => by exact c3' _ hm.leV) ?_
      refine o_yield rfl rfl rfl (y_val tok rfl) ?_
      refine o_yield rfl rfl rfl (y_val tok rfl) ?_
      refine o_yield rfl rfl rfl (y_val tok rfl) ?_
      refine o_yield rfl rfl rfl (y_val tok rfl) ?_
      refine o_yield rfl rfl rfl (y_val tok rfl) ?_
      refine o_end [2, 3, 6, 7, 8, 11, 16, 17, 18, 19, 20, 21] rfl ?_
      refine x_then ?_
      refine c_seq ?_
      refine c_region ?_
      refine o_yield rfl rfl rfl (y_val tok rfl) ?_
      refine o_yield rfl rfl rfl (y_val tok rfl) ?_
      refine o_yield rfl rfl rfl (y_val tok rfl) ?_
      refine o_yield rfl rfl rfl (y_val tok rfl) ?_
      refine o_yield rfl rfl rfl (y_val tok rfl) ?_
      refine o_call (.tup [.v (S x2), .v (I y2)]) rfl rfl fnok44 rfl rfl rfl (fun hg E w1 hm => by exact c4 _ hm.leV) ?_
      refine o_yield rfl rfl rfl (y_val tok rfl) ?_
      refine o_yield rfl rfl rfl (y_val tok rfl) ?_
      refine o_yield rfl rfl rfl (y_val tok rfl) ?_
      refine o_yield rfl rfl rfl (y_val tok rfl) ?_
      refine o_yield rfl rfl rfl (y_val tok rfl) ?_
      refine o_end [2, 3, 6, 8, 16, 17, 18, 19, 20, 21, 22, 23] rfl ?_
      refine x_then ?_
      refine c_seq ?_
      refine c_region ?_
      refine o_yield rfl rfl rfl (y_val tok rfl) ?_
      refine o_yield rfl rfl rfl (y_val tok rfl) ?_
      refine o_yield rfl rfl rfl (y_val tok rfl) ?_
      refine o_call (.tup [.v (S x3), .v (I y3)]) rfl rfl fnok38 rfl rfl rfl (fun hg E w1 hm => by exact c5 _ hm.leV) ?_
      refine o_yield rfl rfl rfl (y_val tok rfl) ?_
      refine o_yield rfl rfl rfl (y_val tok rfl) ?_
      refine o_yield rfl rfl rfl (y_val tok rfl) ?_
      refine o_yield rfl rfl rfl (y_val tok rfl) ?_
      refine o_yield rfl rfl rfl (y_val tok rfl) ?_
      refine o_end [2, 3, 6, 8, 16, 17, 18, 19, 20, 21, 22, 23, 24, 25] rfl ?_
      refine x_then ?_
      refine c_seq ?_
      refine c_region ?_
      refine o_yield rfl rfl rfl (y_val tok rfl) ?_
      refine o_yield rfl rfl rfl (y_val tok rfl) ?_
      refine o_yield rfl rfl rfl (y_val tok rfl) ?_
      refine o_call (.tup [.v (S x3), .v (I y3)]) rfl rfl fnok45 rfl rfl rfl (fun hg E w1 hm => by exact c6 _ hm.leV) ?_
      refine o_yield rfl rfl rfl (y_val tok rfl) ?_
      refine o_yield rfl rfl rfl (y_val tok rfl) ?_
      refine o_yield rfl rfl rfl (y_val tok rfl) ?_
      refine o_yield rfl rfl rfl (y_val tok rfl) ?_
      refine o_yield rfl rfl rfl (y_val tok rfl) ?_
      refine o_end [6, 16, 17, 18, 19, 20, 21, 22, 23, 24, 25, 26, 27] rfl ?_
      refine x_then ?_
      refine c_seq ?_
      refine c_region ?_
      refine o_yield rfl rfl rfl (y_val tok rfl) ?_
      refine o_yield rfl rfl rfl (y_val tok rfl) ?_
      refine o_yield rfl rfl rfl (y_val tok rfl) ?_
      refine o_yield rfl rfl rfl (y_val tok rfl) ?_
      refine o_yield rfl rfl rfl (y_val tok rfl) ?_
      refine o_yield rfl rfl rfl (y_val tok rfl) ?_
      refine o_yield rfl rfl rfl (y_val tok rfl) ?_
      refine o_yield rfl rfl rfl (y_val tok rfl) ?_
      refine o_yield rfl rfl rfl (y_val tok rfl) ?_
      refine o_yield rfl rfl rfl (y_val tok rfl) ?_
      refine o_yield rfl rfl rfl (y_val tok rfl) ?_
      refine o_yield rfl rfl rfl (y_val tok rfl) ?_
      refine o_yield rfl rfl rfl (y_val tok rfl) ?_
      refine o_yield rfl rfl rfl (y_val tok rfl) ?_
      refine o_yield rfl rfl rfl (y_val tok rfl) ?_
      refine o_yield rfl rfl rfl (y_val tok rfl) ?_
      refine o_yield rfl rfl rfl (y_val tok rfl) ?_
      refine o_yield rfl rfl rfl (y_val tok rfl) ?_
      refine o_yield rfl rfl rfl (y_val tok rfl) ?_
      refine o_yield rfl rfl rfl (y_val tok rfl) ?_
      refine o_yield rfl rfl rfl (y_val tok rfl) ?_
      refine o_yield rfl rfl rfl (y_val tok rfl) ?_
      refine o_yield rfl rfl rfl (y_val tok rfl) ?_
      refine o_yield rfl rfl rfl (y_val tok rfl) ?_
      refine o_yield rfl rfl rfl (y_val tok rfl) ?_
      refine o_yield rfl rfl rfl (y_val tok rfl) ?_
      refine o_yield rfl rfl rfl (y_val tok rfl) ?_
      refine o_yield rfl rfl rfl (y_val tok rfl) ?_
      refine o_yield rfl rfl rfl (y_val tok rfl) ?_
      refine o_yield rfl rfl rfl (y_val tok rfl) ?_
      refine o_call (.a (.v _)) rfl rfl fnok42 rfl rfl rfl (fun hg E w1 hm => by exact lkEx_c (vw w) _ L _ hm.leV hLs hLsl (by omega) (by omega)) ?_
      refine o_yield rfl rfl rfl (y_val tok rfl) ?_
      refine o_call (.a (.v _)) rfl rfl fnok46 rfl rfl rfl (fun hg E w1 hm => by exact rEx_c (vw w) _ L _ hm.leV hLs hLsl (by omega) (fun s hs => Nat.le_trans (h100 s hs) (by decide))) ?_
      refine o_yield rfl rfl rfl (y_val tok rfl) ?_
      refine o_yield rfl rfl rfl (y_val tok rfl) ?_
      refine o_yield rfl rfl rfl (y_val tok rfl) ?_
      refine o_call (.a (.v _)) rfl rfl fnok21 rfl rfl rfl (fun hg E w1 hm => by exact wakes25_c _) ?_
      refine o_yield rfl rfl rfl (y_val tok rfl) ?_
      refine o_yield rfl rfl rfl (y_val tok rfl) ?_
      refine o_end [14] rfl ?_
      refine x_then ?_
      refine c_ret ?_
      refine b_ret tok rfl ?_
      intro E w' hm _
      refine ⟨?_, hm.below (Vw.le.refl _)⟩
      simp; rfl
end Go.Proofs.Ytiapfhcimekdkaa
