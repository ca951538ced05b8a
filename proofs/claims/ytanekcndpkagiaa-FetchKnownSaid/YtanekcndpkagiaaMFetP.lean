import Derived.Test.YtanekcndpkagiaaMCTells
import Derived.Test.YtanekcndpkagiaaEng29
/- Fetching a block: the program's. -/
set_option linter.unusedVariables false
set_option linter.unusedSimpArgs false
set_option maxRecDepth 100000
namespace Go.Proofs.Ytanekcndpkagiaa
open Go Go.Eng Go.RowKit

theorem sl_shape' {V : Vw} {v : Value} {sz m : Nat} {xs : List Value} (h : IsSl V v sz m xs) : ∃ a c, v = .slice a m c ∧ m ≤ c ∧ IsSl V (.slice a m m) sz m xs := by
  rcases h with ⟨h0, ⟨a, c, rfl, rfl⟩ | ⟨b, off, cap, cs, e, f, rfl, hg, hle, hx, hc⟩⟩
  · exact ⟨a, c, rfl, Nat.zero_le _, h0, .inl ⟨a, 0, rfl, rfl⟩⟩
  · exact ⟨_, cap, rfl, hc, h0, .inr ⟨b, off, m, cs, e, f, rfl, hg, hle, hx, Nat.le_refl _⟩⟩

def nextV (f : Fetching) (g : Geo) : Int := if g.per ≤ f.k then -1 else dataV g f.block f.k

theorem wnext_c (f : Fetching) (g : Geo) (ok : g.Ok) (b : Nat) (w : World) (hb : w.heap[b]? = some (.cells (wayC f g).toArray 149 (0, 0))) :
    Calls Try.prog 117 #[.pointer (some ⟨b, 0, none⟩)] w fun e w' => e = .returned (I (nextV f g)) ∧ Below w.heap.size w w' := by
  refine enter1 [.a (.ptr 0 0)] hb Try.func117 rfl rfl rfl rfl ?_
  refine c_seq ?_
  refine c_region ?_
  refine o_yield rfl rfl rfl (y_val tok rfl) ?_
  refine o_end [0] rfl ?_
  refine x_then ?_
  refine c_seq ?_
  refine c_seq ?_
  refine c_region ?_
  refine o_yield rfl rfl rfl (y_val tok rfl) ?_
  refine o_call (.a (.v _)) rfl rfl fnok116 rfl rfl rfl (fun hg E w1 hm => by exact wend_c f g _ _ (hm.lit 0 _ _ rfl)) ?_
  refine o_end [0, 4] rfl ?_
  refine x_then ?_
  refine c_cond rfl (fun h => ?_) (fun h => ?_)
  ·
    simp only [Bool.and_eq_true, Bool.or_eq_true, Bool.not_eq_true', Bool.or_eq_false_iff, Bool.and_eq_false_iff, decide_eq_true_eq, decide_eq_false_iff_not, beq_iff_eq, bne_iff_ne, Bool.not_eq_false', beq_eq_false_iff_ne, bne_eq_false_iff_eq, ne_eq, Decidable.not_not, Int.not_lt, Int.not_le] at h
    refine c_seq ?_
    refine c_region ?_
    refine o_yield rfl rfl rfl (y_val tok rfl) ?_
    refine o_end [2] rfl ?_
    refine x_then ?_
    refine c_ret ?_
    refine x_then_ret ?_
    refine b_ret tok rfl ?_
    intro E w' hm _
    refine ⟨?_, below1 hb hm (Vw.le.refl _) rfl rfl rfl⟩
    rw [nextV, if_pos h]; rfl
  ·
    simp only [Bool.and_eq_true, Bool.or_eq_true, Bool.not_eq_true', Bool.or_eq_false_iff, Bool.and_eq_false_iff, decide_eq_true_eq, decide_eq_false_iff_not, beq_iff_eq, bne_iff_ne, Bool.not_eq_false', beq_eq_false_iff_ne, bne_eq_false_iff_eq, ne_eq, Decidable.not_not, Int.not_lt, Int.not_le] at h
    refine c_skip ?_
    refine x_then ?_
    refine c_seq ?_
    refine c_draw mixed (by kernel_rfl) ?_
    refine d_yield rfl rfl rfl (y_val tok rfl) rfl ?_
    refine d_yield rfl rfl rfl (y_val tok rfl) rfl ?_
    refine d_yield rfl rfl rfl (y_val tok rfl) rfl ?_
    refine d_yield rfl rfl rfl (y_val tok rfl) rfl ?_
    refine d_yield rfl rfl rfl (y_val tok rfl) rfl ?_
    refine d_yield rfl rfl rfl (y_val tok rfl) rfl ?_
    refine d_yield rfl rfl rfl (y_val tok rfl) rfl ?_
    refine d_yield rfl rfl rfl (y_val tok rfl) rfl ?_
    refine d_yield rfl rfl rfl (y_val tok rfl) rfl ?_
    refine d_yield rfl rfl rfl (y_val tok rfl) rfl ?_
    refine d_yield rfl rfl rfl (y_val tok rfl) rfl ?_
    refine d_yield rfl rfl rfl (y_val tok rfl) rfl ?_
    refine d_yield rfl rfl rfl (y_val tok rfl) rfl ?_
    refine d_yield rfl rfl rfl (y_val tok rfl) rfl ?_
    refine d_call (.a (.v _)) rfl rfl fnok93 rfl rfl rfl (fun hg E w1 hm => by exact data_c g ok _ _ _) ?_
    refine d_yield rfl rfl rfl (y_val tok rfl) rfl ?_
    refine d_end [2] rfl ?_
    refine x_then ?_
    refine c_ret ?_
    refine b_ret tok rfl ?_
    intro E w' hm _
    refine ⟨?_, below1 hb hm (Vw.le.refl _) rfl rfl rfl⟩
    rw [nextV, if_neg (by omega)]; rfl

theorem wput_c (bk k : Int) (g : Geo) (v lv : Value) (L : List ByteArray) (got : ByteArray) (b : Nat) (w : World) (hb : w.heap[b]? = some (.cells (wayC ⟨bk, k, ⟨v, L⟩⟩ g).toArray 149 (0, 0)))
    (hs0 : SlOf ((vw w).del b) encS 1 v L) (hl0 : SlOf ((vw w).del b) encS 1 lv [got]) (hn : L.length ≤ 1099511627776) :
    Calls Try.prog 119 #[.pointer (some ⟨b, 0, none⟩), lv] w fun e w' => e = .returned (.tuple #[]) ∧ ∃ v', Go.Eng.Touch (· = b) w w' ∧ w'.ownsRow w.heap.size 9 1 v' (L ++ [got]).length ((L ++ [got]).flatMap encS) ∧
      w'.heap[b]? = some (.cells (wayC ⟨bk, IntKind.i64.wrap (k + 1), ⟨v', []⟩⟩ g).toArray 149 (0, 0)) := by
  obtain ⟨a, c, rfl, hlc, hcut⟩ := sl_shape' hs0.sl
  have hw : IntKind.i64.wrap (((L.length : Nat) : Int)) = (L.length : Int) := wrapI (by omega) (by omega)
  refine enter1 [.a (.ptr 0 0), .a (.v lv)] hb Try.func119 rfl rfl rfl rfl ?_
  refine c_seq ?_
  refine c_heldS [24] mixed rfl (by repeat (first | exact SubO.nil | refine SubO.cons rfl ?_)) rfl ?_
  refine t_takeD 0 rfl (by kernel_rfl) rfl rfl rfl (y_val tok rfl) rfl ?_
  refine t_takeD 1 rfl (by kernel_rfl) rfl rfl rfl (y_val tok rfl) rfl ?_
  refine t_takeD 2 rfl (by kernel_rfl) rfl rfl rfl (y_val tok rfl) rfl ?_
  refine t_takeD 3 rfl (by kernel_rfl) rfl rfl rfl (y_val tok rfl) rfl ?_
  refine t_takeD 4 rfl (by kernel_rfl) rfl rfl rfl (y_val tok rfl) rfl ?_
  refine t_takeD 5 rfl (by kernel_rfl) rfl rfl rfl (y_val tok rfl) rfl ?_
  refine t_takeD 6 rfl (by kernel_rfl) rfl rfl rfl (y_val tok rfl) rfl ?_
  refine t_takeD 7 rfl (by kernel_rfl) rfl rfl rfl (y_val tok rfl) rfl ?_
  refine t_takeD 8 rfl (by kernel_rfl) rfl rfl rfl (y_val tok rfl) rfl ?_
  refine t_takeD 9 rfl (by kernel_rfl) rfl rfl rfl (y_val tok rfl) rfl ?_
  refine t_takeD 10 rfl (by kernel_rfl) rfl rfl rfl (y_val tok rfl) rfl ?_
  have hs := hs0
  have hl := hl0
  refine t_takeD 11 rfl (by kernel_rfl) rfl rfl rfl (y_len tok rfl (fun hg => hs.sl)) rfl ?_
  refine t_takeD 12 rfl (by kernel_rfl) rfl rfl rfl (y_val tok rfl) rfl ?_
  refine t_takeD 13 rfl (by kernel_rfl) rfl rfl rfl (y_val tok rfl) rfl ?_
  refine t_takeD 14 rfl (by kernel_rfl) rfl rfl rfl (y_val tok rfl) rfl ?_
  refine t_takeD 15 rfl (by kernel_rfl) rfl rfl rfl (y_val tok rfl) rfl ?_
  refine t_takeD 16 rfl (by kernel_rfl) rfl rfl rfl (y_val tok rfl) rfl ?_
  refine t_takeD 17 rfl (by kernel_rfl) rfl rfl rfl (y_len tok rfl (fun hg => hs.sl)) rfl ?_
  refine t_takeD 18 rfl (by kernel_rfl) rfl rfl rfl (y_sl3 tok rfl (fun hg => ⟨by omega, by omega, by omega⟩)) rfl ?_
  refine t_takeD 19 rfl (by kernel_rfl) rfl rfl rfl (y_val tok rfl) rfl ?_
  refine t_go ?_
  refine h_one 20 (by kernel_rfl) ?_
  rw [Int.toNat_natCast]
  refine h_to 20 rfl rfl rfl rfl rfl rfl (s_appV tok ([got].flatMap encS) rfl hcut (fun E w1 hm => hl.sl.src hm.get) (by simp) (by dsimp only; simp only [List.length_singleton]; omega)) (.inr fun _ _ => ⟨(by repeat (first | exact SubO.nil | refine SubO.cons rfl ?_)), rfl, Vw.le.refl _⟩) (fun _ _ => ?_)
  refine h_one 21 (by kernel_rfl) ?_
  refine h_yield 21 rfl rfl rfl rfl (y_val tok rfl) ?_
  refine h_one 22 (by kernel_rfl) ?_
  refine h_yield 22 rfl rfl rfl rfl (y_val tok rfl) ?_
  refine h_one 23 (by kernel_rfl) ?_
  refine h_yield 23 rfl rfl rfl rfl (y_val tok rfl) ?_
  refine h_one 24 (by kernel_rfl) ?_
  refine h_store 24 tok rfl rfl rfl rfl (by first | exact ⟨trivial, trivial⟩ | (repeat' first | exact trivial | exact rfl | apply And.intro); done | simp [onesP, oneP, lk, Value.oneCell']) (.inl rfl) ?_
  refine h_done [0, 1] (by kernel_rfl) rfl ?_
  refine x_then ?_
  refine c_region ?_
  refine o_yield rfl rfl rfl (y_val tok rfl) ?_
  refine o_yield rfl rfl rfl (y_val tok rfl) ?_
  refine o_yield rfl rfl rfl (y_val tok rfl) ?_
  refine o_yield rfl rfl rfl (y_val tok rfl) ?_
  refine o_yield rfl rfl rfl (y_val tok rfl) ?_
  refine o_yield rfl rfl rfl (y_val tok rfl) ?_
  refine o_yield rfl rfl rfl (y_len tok rfl (fun hg => hl.sl)) ?_
  refine o_yield rfl rfl rfl (y_val tok rfl) ?_
  refine o_yield rfl rfl rfl (y_val tok rfl) ?_
  refine o_yield rfl rfl rfl (y_val tok rfl) ?_
  refine o_yield rfl rfl rfl (y_val tok rfl) ?_
  refine o_store tok rfl rfl rfl (by first | exact ⟨trivial, trivial⟩ | (repeat' first | exact trivial | exact rfl | apply And.intro); done | simp [onesP, oneP, lk, Value.oneCell']) ?_
  refine o_end [] rfl ?_
  refine b_end tok rfl ?_
  intro E w' hm _
  obtain ⟨h1, h2⟩ := back1 hm (Vw.le.refl _) rfl rfl rfl
  refine ⟨rfl, E.κ 3, h1, ?_, ?_⟩
  · have hrow := hm.rowFreshD (Vw.le.refl _) (l0 := 0) rfl (hm.pin 1 0 _ rfl).1 (l := 3) rfl
    rw [List.length_append, List.flatMap_append]
    exact hrow
  · rw [h2]
    rfl

section
open Go.Eng
variable {o : Oper} {n : Nat} {F : Frame0} {C : List Nat} {O : Own} {nl : Nat} {V : Vw}

/-- What was fetched put behind what a way holds. -/
theorem s_wput {p : List (Nat × Bool)} (l r : Nat) (bk k : Int) (g : Geo) (v : Value) (L : List ByteArray) (got : ByteArray) (hv : evalC F p o.op = some (119, [.a (.ptr l 0), .a (.row r)]))
    (hl : lk O l = some (.lit ((wayC ⟨bk, k, ⟨v, L⟩⟩ g).map .v) 149)) (hr : lk O r = some (.row 9 1 [got].length ([got].flatMap encS))) (hs0 : SlOf V encS 1 v L) (hn : L.length ≤ 1099511627776)
    (hx : ∀ E w, Mem E O nl V w → SlOf ((vw w).del (E.ρ l)) encS 1 v L) :
    StepTo Try.prog o p n F C O nl V (σ := Unit) (fun _ => True) (fun _ => .tup []) (fun _ => (l, .lit (.v (I bk) :: .v (I (IntKind.i64.wrap (k + 1))) :: .row nl :: g.cells.map .v) 149) :: (nl, .row 9 1 (L ++ [got]).length ((L ++ [got]).flatMap encS)) :: O) (nl + 1) (fun _ => V) := by
  refine s_callWR (fun _ => True) (fun _ => .tup []) l 149 9 1 (fun _ => (L ++ [got]).length) (fun _ => (L ++ [got]).flatMap encS) (fun _ => .v (I bk) :: .v (I (IntKind.i64.wrap (k + 1))) :: .row nl :: g.cells.map .v) hv fnok119 hl
    (fun _ => by simp only [allOk, A.ok, blt_iff, Bool.and_eq_true, Bool.true_and]; exact ⟨by omega, (den_plain E0 _).2 _⟩) (fun _ => rfl) ?_
  intro E w hm hb
  refine (wput_c bk k g v (E.κ r) L got (E.ρ l) w (by rw [hb, (den_plain E _).1]) (hx E w hm) (hm.rowOfDel (enc := encS) (L := [got]) r hl hr (fun _ => rfl)) hn).mono ?_
  rintro e w' ⟨rfl, v', ht, hown, hv'⟩
  refine ⟨(), v', rfl, ht, hown, ?_, trivial⟩
  rw [hv']
  simp only [List.map_cons, (den_plain _ g.cells).1]
  simp [A.den, Env.setκ, wayC, Fetching.cells]
end

/-- What taking comes to. -/
def FRes (f : Fetching) (g : Geo) (got : ByteArray) (V' : Vw) (x : Value) : Prop :=
  (256 < got.size ∧ x = .tuple #[f.val, I 50]) ∨ (got.size ≤ 256 ∧ g.per ≤ f.k ∧ x = .tuple #[f.val, I 0]) ∨
  (got.size ≤ 256 ∧ f.k < g.per ∧ ∃ a n c, x = .tuple #[.agg #[I f.block, I (IntKind.i64.wrap (f.k + 1)), .slice a n c], I 0] ∧ SlOf V' encS 1 (.slice a n c) (f.parts.l ++ [got]))

theorem ftake_c (V : Vw) (f : Fetching) (g : Geo) (got : ByteArray) (w : World) (hV : V.le (vw w)) (hs0 : SlOf V encS 1 f.parts.v f.parts.l) (hn : f.parts.l.length ≤ 1099511627776) :
    Calls Try.prog 67 #[g.val, f.val, S got] w fun e w' => ∃ x V', e = .returned x ∧ Below w.heap.size w w' ∧ Vext w.heap.size V V' w' ∧ FRes f g got V' x := by
  obtain ⟨bk, k, ⟨v, L⟩⟩ := f
  simp only at hs0 hn
  obtain ⟨a, n, c, rfl⟩ := sl_shape hs0.sl
  have hs := hs0.mono hV
  refine enter (E := E0) (O := []) (nl := 0) (V := vw w) [.a (.v g.val), .a (.v (⟨bk, k, ⟨.slice a n c, L⟩⟩ : Fetching).val), .a (.v (S got))] Try.func67 rfl rfl (mem0 E0 0 w) rfl rfl ?_
  refine c_seq ?_
  refine c_region ?_
  refine o_new tok rfl rfl rfl rfl ?_
  refine o_new tok rfl rfl rfl rfl ?_
  refine o_new tok rfl rfl rfl rfl ?_
  refine o_yield rfl rfl rfl (y_val tok rfl) ?_
  refine o_end [2, 3, 4, 6] rfl ?_
  refine x_then ?_
  refine c_seq ?_
  refine c_region ?_
  refine o_yield rfl rfl rfl (y_val tok rfl) ?_
  refine o_yield rfl rfl rfl (y_val tok rfl) ?_
  refine o_yield rfl rfl rfl (y_val tok rfl) ?_
  refine o_new tok rfl rfl rfl rfl ?_
  refine o_yield rfl rfl rfl (y_val tok rfl) ?_
  refine o_end [2, 4, 6, 8] rfl ?_
  refine x_then ?_
  refine c_seq ?_
  refine c_block ?_
  refine c_seq ?_
  refine c_region ?_
  refine o_yield rfl rfl rfl (y_val tok rfl) ?_
  refine o_yield rfl rfl rfl (y_val tok rfl) ?_
  refine o_yield rfl rfl rfl (y_val tok rfl) ?_
  refine o_yield rfl rfl rfl (y_val tok rfl) ?_
  refine o_end [2, 4, 6, 8, 13] rfl ?_
  refine x_then ?_
  refine c_cond rfl (fun h => ?_) (fun h => ?_)
  ·
    simp only [Bool.and_eq_true, Bool.or_eq_true, Bool.not_eq_true', Bool.or_eq_false_iff, Bool.and_eq_false_iff, decide_eq_true_eq, decide_eq_false_iff_not, beq_iff_eq, bne_iff_ne, Bool.not_eq_false', beq_eq_false_iff_ne, bne_eq_false_iff_eq, ne_eq, Decidable.not_not, Int.not_lt, Int.not_le] at h
    refine c_seq ?_
    refine c_region ?_
    refine o_yield rfl rfl rfl (y_val tok rfl) ?_
    refine o_store tok rfl rfl rfl (by first | exact ⟨trivial, trivial⟩ | (repeat' first | exact trivial | exact rfl | apply And.intro); done | simp [onesP, oneP, lk, Value.oneCell']) ?_
    refine o_yield rfl rfl rfl (y_val tok rfl) ?_
    refine o_end [6, 7] rfl ?_
    refine x_then ?_
    refine c_ret ?_
    refine x_block_ret ?_
    refine x_then_ret ?_
    refine b_ret tok rfl ?_
    intro E w' hm _
    have hb := hm.below (Vw.le.refl _)
    exact ⟨_, V, rfl, hb, Vext.same hV hb, .inl ⟨by omega, rfl⟩⟩
  ·
    simp only [Bool.and_eq_true, Bool.or_eq_true, Bool.not_eq_true', Bool.or_eq_false_iff, Bool.and_eq_false_iff, decide_eq_true_eq, decide_eq_false_iff_not, beq_iff_eq, bne_iff_ne, Bool.not_eq_false', beq_eq_false_iff_ne, bne_eq_false_iff_eq, ne_eq, Decidable.not_not, Int.not_lt, Int.not_le] at h
    have hgt := h
    clear h
    refine c_seq ?_
    refine c_region ?_
    refine o_yield rfl rfl rfl (y_val tok rfl) ?_
    refine o_call (.a (.v _)) rfl rfl fnok116 rfl rfl rfl (fun hg E w1 hm => by exact wend_c ⟨bk, k, ⟨.slice a n c, L⟩⟩ g _ _ (hm.lit 3 _ _ rfl)) ?_
    refine o_yield rfl rfl rfl (y_val tok rfl) ?_
    refine o_yield rfl rfl rfl (y_val tok rfl) ?_
    refine o_end [2, 6, 8, 18] rfl ?_
    refine x_then ?_
    refine c_cond rfl (fun h => ?_) (fun h => ?_)
    ·
      simp only [Bool.and_eq_true, Bool.or_eq_true, Bool.not_eq_true', Bool.or_eq_false_iff, Bool.and_eq_false_iff, decide_eq_true_eq, decide_eq_false_iff_not, beq_iff_eq, bne_iff_ne, Bool.not_eq_false', beq_eq_false_iff_ne, bne_eq_false_iff_eq, ne_eq, Decidable.not_not, Int.not_lt, Int.not_le] at h
      refine c_region ?_
      refine o_yield rfl rfl rfl (y_val tok rfl) ?_
      refine o_yield rfl rfl rfl (y_val tok rfl) ?_
      refine o_step rfl rfl rfl rfl rfl (s_bs tok 1 rfl rfl rfl) (fun _ _ => ?_)
      refine o_step rfl rfl rfl rfl rfl (s_wput 3 4 bk k g (.slice a n c) L got rfl rfl rfl hs hn (fun E w1 hm => hs.mono (hm.leDel (l := 3) rfl))) (fun _ _ => ?_)
      refine o_end [6, 8] rfl ?_
      refine x_block ?_
      refine x_then ?_
      refine c_seq ?_
      refine c_region ?_
      refine o_yield rfl rfl rfl (y_val tok rfl) ?_
      refine o_yield rfl rfl rfl (y_val tok rfl) ?_
      refine o_yield rfl rfl rfl (y_val tok rfl) ?_
      refine o_yield rfl rfl rfl (y_val tok rfl) ?_
      refine o_store tok rfl rfl rfl (by first | exact ⟨trivial, trivial⟩ | (repeat' first | exact trivial | exact rfl | apply And.intro); done | simp [onesP, oneP, lk, Value.oneCell']) ?_
      refine o_yield rfl rfl rfl (y_val tok rfl) ?_
      refine o_end [6, 7] rfl ?_
      refine x_then ?_
      refine c_ret ?_
      refine b_ret tok rfl ?_
      intro E w' hm _
      have hb := hm.below (Vw.le.refl _)
      have hrow := hm.rowFresh (Vw.le.refl _) (l := 5) rfl
      obtain ⟨V', hx, hsl⟩ := ownsRow_vext hV hb hrow
      obtain ⟨a', n', c', hv⟩ := sl_shape hsl
      rw [hv] at hsl
      refine ⟨_, V', rfl, hb, hx, .inr (.inr ⟨by omega, by omega, a', n', c', ?_, hsl, fun _ => rfl⟩)⟩
      rw [← hv]
      rfl
    ·
      simp only [Bool.and_eq_true, Bool.or_eq_true, Bool.not_eq_true', Bool.or_eq_false_iff, Bool.and_eq_false_iff, decide_eq_true_eq, decide_eq_false_iff_not, beq_iff_eq, bne_iff_ne, Bool.not_eq_false', beq_eq_false_iff_ne, bne_eq_false_iff_eq, ne_eq, Decidable.not_not, Int.not_lt, Int.not_le] at h
      refine c_skip ?_
      refine x_block ?_
      refine x_then ?_
      refine c_seq ?_
      refine c_region ?_
      refine o_yield rfl rfl rfl (y_val tok rfl) ?_
      refine o_yield rfl rfl rfl (y_val tok rfl) ?_
      refine o_yield rfl rfl rfl (y_val tok rfl) ?_
      refine o_yield rfl rfl rfl (y_val tok rfl) ?_
      refine o_store tok rfl rfl rfl (by first | exact ⟨trivial, trivial⟩ | (repeat' first | exact trivial | exact rfl | apply And.intro); done | simp [onesP, oneP, lk, Value.oneCell']) ?_
      refine o_yield rfl rfl rfl (y_val tok rfl) ?_
      refine o_end [6, 7] rfl ?_
      refine x_then ?_
      refine c_ret ?_
      refine b_ret tok rfl ?_
      intro E w' hm _
      have hb := hm.below (Vw.le.refl _)
      exact ⟨_, V, rfl, hb, Vext.same hV hb, .inr (.inl ⟨by omega, by omega, rfl⟩)⟩

theorem fover_c (f : Fetching) (g : Geo) (a : Option Addr) (n c : Nat) (hv : f.parts.v = .slice a n c) (w : World) : Calls Try.prog 61 #[g.val, f.val] w fun e w' => e = .returned (.bool (decide (g.per ≤ f.k))) ∧ Below w.heap.size w w' := by
  obtain ⟨bk, k, ⟨v, L⟩⟩ := f
  simp only at hv
  subst hv
  refine enter (E := E0) (O := []) (nl := 0) (V := vw w) [.a (.v g.val), .a (.v (⟨bk, k, ⟨.slice a n c, L⟩⟩ : Fetching).val)] Try.func61 rfl rfl (mem0 E0 0 w) rfl rfl ?_
  refine c_seq ?_
  refine c_region ?_
  refine o_new tok rfl rfl rfl rfl ?_
  refine o_new tok rfl rfl rfl rfl ?_
  refine o_yield rfl rfl rfl (y_val tok rfl) ?_
  refine o_end [2, 3] rfl ?_
  refine x_then ?_
  refine c_seq ?_
  refine c_region ?_
  refine o_yield rfl rfl rfl (y_val tok rfl) ?_
  refine o_yield rfl rfl rfl (y_val tok rfl) ?_
  refine o_yield rfl rfl rfl (y_val tok rfl) ?_
  refine o_new tok rfl rfl rfl rfl ?_
  refine o_call (.a (.v _)) rfl rfl fnok116 rfl rfl rfl (fun hg E w1 hm => by exact wend_c ⟨bk, k, ⟨.slice a n c, L⟩⟩ g _ _ (hm.lit 2 _ _ rfl)) ?_
  refine o_yield rfl rfl rfl (y_val tok rfl) ?_
  refine o_end [4] rfl ?_
  refine x_then ?_
  refine c_ret ?_
  refine b_ret tok rfl ?_
  intro E w' hm _
  refine ⟨?_, hm.below (Vw.le.refl _)⟩
  rfl

def fwantV (f : Fetching) (g : Geo) : ActV := if 0 ≤ nextV f g then ⟨1, nextV f g, ByteArray.empty, 0⟩ else act0

theorem fwant_c (f : Fetching) (g : Geo) (ok : g.Ok) (a : Option Addr) (n c : Nat) (hv : f.parts.v = .slice a n c) (w : World) : Calls Try.prog 63 #[g.val, f.val] w fun e w' => e = .returned (fwantV f g).val ∧ Below w.heap.size w w' := by
  obtain ⟨bk, k, ⟨v, L⟩⟩ := f
  simp only at hv
  subst hv
  refine enter (E := E0) (O := []) (nl := 0) (V := vw w) [.a (.v g.val), .a (.v (⟨bk, k, ⟨.slice a n c, L⟩⟩ : Fetching).val)] Try.func63 rfl rfl (mem0 E0 0 w) rfl rfl ?_
  refine c_seq ?_
  refine c_region ?_
  refine o_new tok rfl rfl rfl rfl ?_
  refine o_new tok rfl rfl rfl rfl ?_
  refine o_new tok rfl rfl rfl rfl ?_
  refine o_end [2, 3, 4] rfl ?_
  refine x_then ?_
  refine c_seq ?_
  refine c_seq ?_
  refine c_region ?_
  refine o_yield rfl rfl rfl (y_val tok rfl) ?_
  refine o_yield rfl rfl rfl (y_val tok rfl) ?_
  refine o_yield rfl rfl rfl (y_val tok rfl) ?_
  refine o_new tok rfl rfl rfl rfl ?_
  refine o_call (.a (.v _)) rfl rfl fnok117 rfl rfl rfl (fun hg E w1 hm => by exact wnext_c ⟨bk, k, ⟨.slice a n c, L⟩⟩ g ok _ _ (hm.lit 3 _ _ rfl)) ?_
  refine o_yield rfl rfl rfl (y_val tok rfl) ?_
  refine o_end [4, 5] rfl ?_
  refine x_then ?_
  refine c_seq ?_
  refine c_region ?_
  refine o_yield rfl rfl rfl (y_val tok rfl) ?_
  refine o_yield rfl rfl rfl (y_val tok rfl) ?_
  refine o_end [4, 5, 12] rfl ?_
  refine x_then ?_
  refine c_cond rfl (fun h => ?_) (fun h => ?_)
  ·
    simp only [Bool.and_eq_true, Bool.or_eq_true, Bool.not_eq_true', Bool.or_eq_false_iff, Bool.and_eq_false_iff, decide_eq_true_eq, decide_eq_false_iff_not, beq_iff_eq, bne_iff_ne, Bool.not_eq_false', beq_eq_false_iff_ne, bne_eq_false_iff_eq, ne_eq, Decidable.not_not, Int.not_lt, Int.not_le] at h
    refine c_region ?_
    refine o_yield rfl rfl rfl (y_val tok rfl) ?_
    refine o_yield rfl rfl rfl (y_val tok rfl) ?_
    refine o_store tok rfl rfl rfl (by first | exact ⟨trivial, trivial⟩ | (repeat' first | exact trivial | exact rfl | apply And.intro); done | simp [onesP, oneP, lk, Value.oneCell']) ?_
    refine o_yield rfl rfl rfl (y_val tok rfl) ?_
    refine o_store tok rfl rfl rfl (by first | exact ⟨trivial, trivial⟩ | (repeat' first | exact trivial | exact rfl | apply And.intro); done | simp [onesP, oneP, lk, Value.oneCell']) ?_
    refine o_end [4] rfl ?_
    refine x_then ?_
    refine c_seq ?_
    refine c_region ?_
    refine o_yield rfl rfl rfl (y_val tok rfl) ?_
    refine o_store tok rfl rfl rfl (by first | exact ⟨trivial, trivial⟩ | (repeat' first | exact trivial | exact rfl | apply And.intro); done | simp [onesP, oneP, lk, Value.oneCell']) ?_
    refine o_end [4] rfl ?_
    refine x_then ?_
    refine c_ret ?_
    refine b_ret tok rfl ?_
    intro E w' hm _
    refine ⟨?_, hm.below (Vw.le.refl _)⟩
    rw [fwantV, if_pos h]; rfl
  ·
    simp only [Bool.and_eq_true, Bool.or_eq_true, Bool.not_eq_true', Bool.or_eq_false_iff, Bool.and_eq_false_iff, decide_eq_true_eq, decide_eq_false_iff_not, beq_iff_eq, bne_iff_ne, Bool.not_eq_false', beq_eq_false_iff_ne, bne_eq_false_iff_eq, ne_eq, Decidable.not_not, Int.not_lt, Int.not_le] at h
    refine c_skip ?_
    refine x_then ?_
    refine c_seq ?_
    refine c_region ?_
    refine o_yield rfl rfl rfl (y_val tok rfl) ?_
    refine o_store tok rfl rfl rfl (by first | exact ⟨trivial, trivial⟩ | (repeat' first | exact trivial | exact rfl | apply And.intro); done | simp [onesP, oneP, lk, Value.oneCell']) ?_
    refine o_end [4] rfl ?_
    refine x_then ?_
    refine c_ret ?_
    refine b_ret tok rfl ?_
    intro E w' hm _
    refine ⟨?_, hm.below (Vw.le.refl _)⟩
    rw [fwantV, if_neg (by omega)]; rfl

theorem ftext_c (V : Vw) (f : Fetching) (w : World) (hV : V.le (vw w)) (hs0 : SlOf V encS 1 f.parts.v f.parts.l) (hn : f.parts.l.length ≤ 140737488355328) (hc : (catL f.parts.l).length ≤ 140737488355328) :
    Calls Try.prog 65 #[f.val] w fun e w' => e = .returned (S (catS f.parts.l)) ∧ Below w.heap.size w w' := by
  obtain ⟨bk, k, ⟨v, L⟩⟩ := f
  simp only at hs0 hn hc
  obtain ⟨a, n, c, rfl⟩ := sl_shape hs0.sl
  have hs := hs0.mono hV
  refine enter (E := E0) (O := []) (nl := 0) (V := vw w) [.a (.v (⟨bk, k, ⟨.slice a n c, L⟩⟩ : Fetching).val)] Try.func65 rfl rfl (mem0 E0 0 w) rfl rfl ?_
  refine c_seq ?_
  refine c_region ?_
  refine o_new tok rfl rfl rfl rfl ?_
  refine o_yield rfl rfl rfl (y_val tok rfl) ?_
  refine o_end [1] rfl ?_
  refine x_then ?_
  refine c_seq ?_
  refine c_region ?_
  refine o_yield rfl rfl rfl (y_val tok rfl) ?_
  refine o_yield rfl rfl rfl (y_val tok rfl) ?_
  refine o_call (.a (.v _)) rfl rfl fnok92 rfl rfl rfl (fun hg E w1 hm => by exact join_c (vw w) _ L _ hm.leV hs hn hc) ?_
  refine o_yield rfl rfl rfl (y_val tok rfl) ?_
  refine o_end [2] rfl ?_
  refine x_then ?_
  refine c_ret ?_
  refine b_ret tok rfl ?_
  intro E w' hm _
  refine ⟨?_, hm.below (Vw.le.refl _)⟩
  rfl

theorem fbegin_c (g : Geo) (ok : g.Ok) (bk : Int) (w : World) : Calls Try.prog 58 #[g.val, I bk] w fun e w' => e = .returned (.tuple #[(⟨if 0 ≤ dataV g bk 0 then bk else 0, 0, ⟨.slice none 0 0, []⟩⟩ : Fetching).val, I (if 0 ≤ dataV g bk 0 then 0 else 2)]) ∧ Below w.heap.size w w' := by
  refine enter (E := E0) (O := []) (nl := 0) (V := vw w) [.a (.v g.val), .a (.v (I bk))] Try.func58 rfl rfl (mem0 E0 0 w) rfl rfl ?_
  refine c_seq ?_
  refine c_region ?_
  refine o_new tok rfl rfl rfl rfl ?_
  refine o_new tok rfl rfl rfl rfl ?_
  refine o_yield rfl rfl rfl (y_val tok rfl) ?_
  refine o_end [1, 2, 4] rfl ?_
  refine x_then ?_
  refine c_seq ?_
  refine c_seq ?_
  refine c_region ?_
  refine o_yield rfl rfl rfl (y_val tok rfl) ?_
  refine o_yield rfl rfl rfl (y_val tok rfl) ?_
  refine o_call (.a (.v _)) rfl rfl fnok93 rfl rfl rfl (fun hg E w1 hm => by exact data_c g ok _ _ _) ?_
  refine o_yield rfl rfl rfl (y_val tok rfl) ?_
  refine o_end [1, 4, 9] rfl ?_
  refine x_then ?_
  refine c_cond rfl (fun h => ?_) (fun h => ?_)
  ·
    simp only [Bool.and_eq_true, Bool.or_eq_true, Bool.not_eq_true', Bool.or_eq_false_iff, Bool.and_eq_false_iff, decide_eq_true_eq, decide_eq_false_iff_not, beq_iff_eq, bne_iff_ne, Bool.not_eq_false', beq_eq_false_iff_ne, bne_eq_false_iff_eq, ne_eq, Decidable.not_not, Int.not_lt, Int.not_le] at h
    refine c_seq ?_
    refine c_region ?_
    refine o_yield rfl rfl rfl (y_val tok rfl) ?_
    refine o_store tok rfl rfl rfl (by first | exact ⟨trivial, trivial⟩ | (repeat' first | exact trivial | exact rfl | apply And.intro); done | simp [onesP, oneP, lk, Value.oneCell']) ?_
    refine o_yield rfl rfl rfl (y_val tok rfl) ?_
    refine o_end [4, 5] rfl ?_
    refine x_then ?_
    refine c_ret ?_
    refine x_then_ret ?_
    refine b_ret tok rfl ?_
    intro E w' hm _
    refine ⟨?_, hm.below (Vw.le.refl _)⟩
    rw [if_neg (by omega), if_neg (by omega)]; rfl
  ·
    simp only [Bool.and_eq_true, Bool.or_eq_true, Bool.not_eq_true', Bool.or_eq_false_iff, Bool.and_eq_false_iff, decide_eq_true_eq, decide_eq_false_iff_not, beq_iff_eq, bne_iff_ne, Bool.not_eq_false', beq_eq_false_iff_ne, bne_eq_false_iff_eq, ne_eq, Decidable.not_not, Int.not_lt, Int.not_le] at h
    refine c_skip ?_
    refine x_then ?_
    refine c_seq ?_
    refine c_region ?_
    refine o_yield rfl rfl rfl (y_val tok rfl) ?_
    refine o_yield rfl rfl rfl (y_val tok rfl) ?_
    refine o_store tok rfl rfl rfl (by first | exact ⟨trivial, trivial⟩ | (repeat' first | exact trivial | exact rfl | apply And.intro); done | simp [onesP, oneP, lk, Value.oneCell']) ?_
    refine o_end [4] rfl ?_
    refine x_then ?_
    refine c_seq ?_
    refine c_region ?_
    refine o_yield rfl rfl rfl (y_val tok rfl) ?_
    refine o_store tok rfl rfl rfl (by first | exact ⟨trivial, trivial⟩ | (repeat' first | exact trivial | exact rfl | apply And.intro); done | simp [onesP, oneP, lk, Value.oneCell']) ?_
    refine o_yield rfl rfl rfl (y_val tok rfl) ?_
    refine o_end [4, 5] rfl ?_
    refine x_then ?_
    refine c_ret ?_
    refine b_ret tok rfl ?_
    intro E w' hm _
    refine ⟨?_, hm.below (Vw.le.refl _)⟩
    rw [if_pos (by omega), if_pos (by omega)]; rfl
end Go.Proofs.Ytanekcndpkagiaa

/- What rows of blocks tell of a block: the law. -/
set_option linter.unusedVariables false
set_option linter.unusedSimpArgs false
set_option maxRecDepth 100000
namespace Go.Proofs.Ytanekcndpkagiaa
open Go Go.Eng Go.RowKit

theorem geo22_c (w : World) : Calls Try.prog 83 #[] w fun e w' => e = .returned (⟨1, 1, 3, 2, 9, 8, 1, 2⟩ : Geo).val ∧ Below w.heap.size w w' := by
  refine enter (E := E0) (O := []) (nl := 0) (V := vw w) [] Try.func83 rfl rfl (mem0 E0 0 w) rfl rfl ?_
  refine c_seq ?_
  refine c_region ?_
  refine o_new tok rfl rfl rfl rfl ?_
  refine o_end [0] rfl ?_
  refine x_then ?_
  refine c_seq ?_
  refine c_region ?_
  refine o_yield rfl rfl rfl (y_val tok rfl) ?_
  refine o_store tok rfl rfl rfl (by first | exact ⟨trivial, trivial⟩ | (repeat' first | exact trivial | exact rfl | apply And.intro); done | simp [onesP, oneP, lk, Value.oneCell']) ?_
  refine o_end [0] rfl ?_
  refine x_then ?_
  refine c_ret ?_
  refine b_ret tok rfl ?_
  intro E w' hm _
  refine ⟨?_, hm.below (Vw.le.refl _)⟩
  rfl

abbrev geoF : Geo := ⟨1, 1, 3, 2, 9, 8, 1, 2⟩
theorem geoF_ok : geoF.Ok := by constructor <;> simp [R64]
def cS : ByteArray := ⟨#[99]⟩
def xS : ByteArray := ⟨#[120]⟩
def yS : ByteArray := ⟨#[121]⟩
theorem dataF : dataV geoF 1 0 = 23 := by decide

theorem begF_c (w : World) : Calls Try.prog 58 #[geoF.val, I 1] w fun e w' => e = .returned (.tuple #[(⟨1, 0, ⟨.slice none 0 0, []⟩⟩ : Fetching).val, I 0]) ∧ Below w.heap.size w w' := by
  have := fbegin_c geoF geoF_ok 1 w
  rwa [dataF] at this

abbrev actF : ActV := ⟨1, 23, ByteArray.empty, 0⟩
theorem wantF_c (w : World) : Calls Try.prog 63 #[geoF.val, (⟨1, 0, ⟨.slice none 0 0, []⟩⟩ : Fetching).val] w fun e w' => e = .returned actF.val ∧ Below w.heap.size w w' := by
  have h := fwant_c ⟨1, 0, ⟨.slice none 0 0, []⟩⟩ geoF geoF_ok none 0 0 rfl w
  have e : fwantV ⟨1, 0, ⟨.slice none 0 0, []⟩⟩ geoF = actF := by
    have : nextV ⟨1, 0, ⟨.slice none 0 0, []⟩⟩ geoF = 23 := by rw [nextV, if_neg (by decide)]; exact dataF
    rw [fwantV, this]; rfl
  rwa [e] at h

theorem takeF_c (V : Vw) (k k' : Int) (hk : k < 2) (hk' : IntKind.i64.wrap (k + 1) = k') (v : Value) (L : List ByteArray) (got : ByteArray) (hg : got.size ≤ 256) (hn : L.length ≤ 1099511627776) (w : World) (hV : V.le (vw w)) (hs : SlOf V encS 1 v L) :
    Calls Try.prog 67 #[geoF.val, (⟨1, k, ⟨v, L⟩⟩ : Fetching).val, S got] w fun e w' => ∃ x V', e = .returned x ∧ Below w.heap.size w w' ∧ Vext w.heap.size V V' w' ∧ ∃ a n c, x = .tuple #[.agg #[I 1, I k', .slice a n c], I 0] ∧ SlOf V' encS 1 (.slice a n c) (L ++ [got]) := by
  refine (ftake_c V ⟨1, k, ⟨v, L⟩⟩ geoF got w hV hs hn).mono ?_
  rintro e w' ⟨x, V', he, hb, hx, h | h | h⟩
  · omega
  · simp only at h; omega
  · rw [hk'] at h
    exact ⟨x, V', he, hb, hx, h.2.2⟩

theorem catF : catS [abS, cS] = ⟨#[97, 98, 99]⟩ := rfl

theorem wakes22_c (w : World) : Calls Try.prog 16 #[] w fun e w' => e = .returned (.bool true) ∧ Below w.heap.size w w' := by
  refine enter (E := E0) (O := []) (nl := 0) (V := vw w) [] Try.func16 rfl rfl (mem0 E0 0 w) rfl rfl ?_
  refine c_seq ?_
  refine c_region ?_
  refine o_yield rfl rfl rfl (y_val tok rfl) ?_
  refine o_end [] rfl ?_
  refine x_then ?_
  refine c_seq ?_
  refine c_region ?_
  refine o_call (.a (.v _)) rfl rfl fnok83 rfl rfl rfl (fun hg E w1 hm => by exact geo22_c _) ?_
  refine o_call (.a (.v _)) rfl rfl fnok58 rfl rfl rfl (fun hg E w1 hm => by exact begF_c _) ?_
  refine o_yield rfl rfl rfl (y_val tok rfl) ?_
  refine o_yield rfl rfl rfl (y_val tok rfl) ?_
  refine o_yield rfl rfl rfl (y_val tok rfl) ?_
  refine o_new tok rfl rfl rfl rfl ?_
  refine o_store tok rfl rfl rfl (by first | exact ⟨trivial, trivial⟩ | (repeat' first | exact trivial | exact rfl | apply And.intro); done | simp [onesP, oneP, lk, Value.oneCell']) ?_
  refine o_yield rfl rfl rfl (y_val tok rfl) ?_
  refine o_end [1, 2] rfl ?_
  refine x_then ?_
  refine c_seq ?_
  refine k_trim [1, 2] [] 1 rfl rfl (by repeat (first | exact SubF.nil | refine SubF.cons rfl ?_)) (by repeat (first | exact SubO.nil | refine SubO.cons rfl ?_)) rfl ?_
  refine c_heldM (σ := Unit) (fun _ => [(1, .a (.ptr 0 0)), (2, .a (.v (I 0))), (3, .a (.ptr 1 0))]) (fun _ => [(0, .lit [.v (I 1), .v (I 0), .v (.slice none 0 0)] 92), (1, .lit (actF.cells.map .v) 64)]) (2) (fun _ => (vw w)) (fun _ => True) mixed ?_ ?_
  ·
    refine t_take 1 rfl (by kernel_rfl) rfl rfl rfl (y_val tok rfl) rfl ?_
    refine t_go ?_
    refine h_two 0 3 (by kernel_rfl) ?_ ?_
    ·
      refine h_call 0 (.a (.v geoF.val)) rfl rfl rfl fnok83 rfl rfl rfl (fun hg E w1 hm => by exact geo22_c _) ?_
      refine h_two 2 3 (by kernel_rfl) ?_ ?_
      ·
        refine h_call 2 (.a (.v actF.val)) rfl rfl rfl fnok63 rfl rfl rfl (fun hg E w1 hm => by exact wantF_c _) ?_
        refine h_one 3 (by kernel_rfl) ?_
        refine h_new 3 tok rfl rfl rfl rfl rfl rfl ?_
        refine h_one 4 (by kernel_rfl) ?_
        refine h_store 4 tok rfl rfl rfl rfl (by first | exact ⟨trivial, trivial⟩ | (repeat' first | exact trivial | exact rfl | apply And.intro); done | simp [onesP, oneP, lk, Value.oneCell']) (.inr ⟨(by repeat (first | exact SubO.nil | refine SubO.cons rfl ?_)), rfl, Vw.le.refl _⟩) ?_
        refine h_done [1, 2, 3] (by kernel_rfl) rfl ?_
        exact x_meet () trivial (by repeat (first | exact SubF.nil | refine SubF.cons rfl ?_)) (by repeat (first | exact SubO.nil | refine SubO.cons rfl ?_)) rfl (Vw.le.refl _)
      ·
        refine h_new 3 tok rfl rfl rfl rfl rfl rfl ?_
        refine h_one 2 (by kernel_rfl) ?_
        refine h_call 2 (.a (.v actF.val)) rfl rfl rfl fnok63 rfl rfl rfl (fun hg E w1 hm => by exact wantF_c _) ?_
        refine h_one 4 (by kernel_rfl) ?_
        refine h_store 4 tok rfl rfl rfl rfl (by first | exact ⟨trivial, trivial⟩ | (repeat' first | exact trivial | exact rfl | apply And.intro); done | simp [onesP, oneP, lk, Value.oneCell']) (.inr ⟨(by repeat (first | exact SubO.nil | refine SubO.cons rfl ?_)), rfl, Vw.le.refl _⟩) ?_
        refine h_done [1, 2, 3] (by kernel_rfl) rfl ?_
        exact x_meet () trivial (by repeat (first | exact SubF.nil | refine SubF.cons rfl ?_)) (by repeat (first | exact SubO.nil | refine SubO.cons rfl ?_)) rfl (Vw.le.refl _)
    ·
      refine h_new 3 tok rfl rfl rfl rfl rfl rfl ?_
      refine h_one 0 (by kernel_rfl) ?_
      refine h_call 0 (.a (.v geoF.val)) rfl rfl rfl fnok83 rfl rfl rfl (fun hg E w1 hm => by exact geo22_c _) ?_
      refine h_one 2 (by kernel_rfl) ?_
      refine h_call 2 (.a (.v actF.val)) rfl rfl rfl fnok63 rfl rfl rfl (fun hg E w1 hm => by exact wantF_c _) ?_
      refine h_one 4 (by kernel_rfl) ?_
      refine h_store 4 tok rfl rfl rfl rfl (by first | exact ⟨trivial, trivial⟩ | (repeat' first | exact trivial | exact rfl | apply And.intro); done | simp [onesP, oneP, lk, Value.oneCell']) (.inr ⟨(by repeat (first | exact SubO.nil | refine SubO.cons rfl ?_)), rfl, Vw.le.refl _⟩) ?_
      refine h_done [1, 2, 3] (by kernel_rfl) rfl ?_
      exact x_meet () trivial (by repeat (first | exact SubF.nil | refine SubF.cons rfl ?_)) (by repeat (first | exact SubO.nil | refine SubO.cons rfl ?_)) rfl (Vw.le.refl _)
  rintro ⟨⟩ -
  refine x_then ?_
  refine c_seq ?_
  refine c_heldMS [6] (σ := Value × Vw) (fun x => [(1, .a (.ptr 0 0)), (2, .a (.v (I 0))), (3, .a (.ptr 1 0)), (4, .a (.v (I 0)))]) (fun x => [(0, .lit [.v (I 1), .v (I 1), .v x.1] 92), (1, .lit (actF.cells.map .v) 64)]) (2) (fun x => x.2) (fun x => (vw w).le x.2 ∧ SlOf x.2 encS 1 x.1 [abS]) mixed rfl (by repeat (first | exact SubO.nil | refine SubO.cons rfl ?_)) rfl ?_ ?_
  ·
    refine t_takeD 1 rfl (by kernel_rfl) rfl rfl rfl (y_val tok rfl) rfl ?_
    refine t_go ?_
    refine h_one 0 (by kernel_rfl) ?_
    refine h_call 0 (.a (.v geoF.val)) rfl rfl rfl fnok83 rfl rfl rfl (fun hg E w1 hm => by exact geo22_c _) ?_
    refine h_one 2 (by kernel_rfl) ?_
    refine h_callV 2 (fun x V' => ∃ a n c, x = .tuple #[.agg #[I 1, I 1, .slice a n c], I 0] ∧ SlOf V' encS 1 (.slice a n c) [abS]) rfl rfl rfl fnok67 rfl rfl (fun hg E w1 hm => by exact takeF_c (vw w) 0 1 (by decide) rfl (.slice none 0 0) [] abS (by simp only [abS, cS]; decide) (by simp) _ hm.leV (slNil _ encS 1 0 (fun _ => rfl))) ?_
    rintro x V' hle hx
    obtain ⟨a', n', c', rfl, hs'⟩ := hx rfl
    refine h_one 3 (by kernel_rfl) ?_
    refine h_yield 3 rfl rfl rfl rfl (y_val tok rfl) ?_
    refine h_two 4 5 (by kernel_rfl) ?_ ?_
    ·
      refine h_yield 4 rfl rfl rfl rfl (y_val tok rfl) ?_
      refine h_two 5 6 (by kernel_rfl) ?_ ?_
      ·
        refine h_yield 5 rfl rfl rfl rfl (y_val tok rfl) ?_
        refine h_one 6 (by kernel_rfl) ?_
        refine h_store 6 tok rfl rfl rfl rfl (by first | exact ⟨trivial, trivial⟩ | (repeat' first | exact trivial | exact rfl | apply And.intro); done | simp [onesP, oneP, lk, Value.oneCell']) (.inl rfl) ?_
        refine h_one 7 (by kernel_rfl) ?_
        refine h_yield 7 rfl rfl rfl rfl (y_val tok rfl) ?_
        refine h_done [1, 2, 3, 4] (by kernel_rfl) rfl ?_
        exact x_meet (⟨.slice a' n' c', V'⟩) (⟨hle, hs'⟩) (by repeat (first | exact SubF.nil | refine SubF.cons rfl ?_)) (by repeat (first | exact SubO.nil | refine SubO.cons rfl ?_)) rfl (Vw.le.refl _)
      ·
        refine h_store 6 tok rfl rfl rfl rfl (by first | exact ⟨trivial, trivial⟩ | (repeat' first | exact trivial | exact rfl | apply And.intro); done | simp [onesP, oneP, lk, Value.oneCell']) (.inl rfl) ?_
        refine h_one 5 (by kernel_rfl) ?_
        refine h_yield 5 rfl rfl rfl rfl (y_val tok rfl) ?_
        refine h_one 7 (by kernel_rfl) ?_
        refine h_yield 7 rfl rfl rfl rfl (y_val tok rfl) ?_
        refine h_done [1, 2, 3, 4] (by kernel_rfl) rfl ?_
        exact x_meet (⟨.slice a' n' c', V'⟩) (⟨hle, hs'⟩) (by repeat (first | exact SubF.nil | refine SubF.cons rfl ?_)) (by repeat (first | exact SubO.nil | refine SubO.cons rfl ?_)) rfl (Vw.le.refl _)
    ·
      refine h_yield 5 rfl rfl rfl rfl (y_val tok rfl) ?_
      refine h_one 4 (by kernel_rfl) ?_
      refine h_yield 4 rfl rfl rfl rfl (y_val tok rfl) ?_
      refine h_one 6 (by kernel_rfl) ?_
      refine h_store 6 tok rfl rfl rfl rfl (by first | exact ⟨trivial, trivial⟩ | (repeat' first | exact trivial | exact rfl | apply And.intro); done | simp [onesP, oneP, lk, Value.oneCell']) (.inl rfl) ?_
      refine h_one 7 (by kernel_rfl) ?_
      refine h_yield 7 rfl rfl rfl rfl (y_val tok rfl) ?_
      refine h_done [1, 2, 3, 4] (by kernel_rfl) rfl ?_
      exact x_meet (⟨.slice a' n' c', V'⟩) (⟨hle, hs'⟩) (by repeat (first | exact SubF.nil | refine SubF.cons rfl ?_)) (by repeat (first | exact SubO.nil | refine SubO.cons rfl ?_)) rfl (Vw.le.refl _)
  rintro ⟨x4, V4⟩ ⟨hle4, hs4⟩
  dsimp only
  refine x_then ?_
  refine c_seq ?_
  obtain ⟨a4, n4, c4, rfl⟩ := sl_shape hs4.sl
  refine c_heldMS [6] (σ := Value × Vw) (fun x => [(1, .a (.ptr 0 0)), (2, .a (.v (I 0))), (3, .a (.ptr 1 0)), (4, .a (.v (I 0))), (5, .a (.v (I 0)))]) (fun x => [(0, .lit [.v (I 1), .v (I 2), .v x.1] 92), (1, .lit (actF.cells.map .v) 64)]) (2) (fun x => x.2) (fun x => V4.le x.2 ∧ SlOf x.2 encS 1 x.1 [abS, cS]) mixed rfl (by repeat (first | exact SubO.nil | refine SubO.cons rfl ?_)) rfl ?_ ?_
  ·
    refine t_takeD 1 rfl (by kernel_rfl) rfl rfl rfl (y_val tok rfl) rfl ?_
    refine t_go ?_
    refine h_one 0 (by kernel_rfl) ?_
    refine h_call 0 (.a (.v geoF.val)) rfl rfl rfl fnok83 rfl rfl rfl (fun hg E w1 hm => by exact geo22_c _) ?_
    refine h_one 2 (by kernel_rfl) ?_
    refine h_callV 2 (fun x V' => ∃ a n c, x = .tuple #[.agg #[I 1, I 2, .slice a n c], I 0] ∧ SlOf V' encS 1 (.slice a n c) [abS, cS]) rfl rfl rfl fnok67 rfl rfl (fun hg E w1 hm => by exact takeF_c V4 1 2 (by decide) rfl (.slice a4 n4 c4) [abS] cS (by simp only [abS, cS]; decide) (by simp) _ hm.leV hs4) ?_
    rintro x V' hle hx
    obtain ⟨a', n', c', rfl, hs'⟩ := hx rfl
    refine h_one 3 (by kernel_rfl) ?_
    refine h_yield 3 rfl rfl rfl rfl (y_val tok rfl) ?_
    refine h_two 4 5 (by kernel_rfl) ?_ ?_
    ·
      refine h_yield 4 rfl rfl rfl rfl (y_val tok rfl) ?_
      refine h_two 5 6 (by kernel_rfl) ?_ ?_
      ·
        refine h_yield 5 rfl rfl rfl rfl (y_val tok rfl) ?_
        refine h_one 6 (by kernel_rfl) ?_
        refine h_store 6 tok rfl rfl rfl rfl (by first | exact ⟨trivial, trivial⟩ | (repeat' first | exact trivial | exact rfl | apply And.intro); done | simp [onesP, oneP, lk, Value.oneCell']) (.inl rfl) ?_
        refine h_one 7 (by kernel_rfl) ?_
        refine h_yield 7 rfl rfl rfl rfl (y_val tok rfl) ?_
        refine h_done [1, 2, 3, 4, 5] (by kernel_rfl) rfl ?_
        exact x_meet (⟨.slice a' n' c', V'⟩) (⟨hle, hs'⟩) (by repeat (first | exact SubF.nil | refine SubF.cons rfl ?_)) (by repeat (first | exact SubO.nil | refine SubO.cons rfl ?_)) rfl (Vw.le.refl _)
      ·
        refine h_store 6 tok rfl rfl rfl rfl (by first | exact ⟨trivial, trivial⟩ | (repeat' first | exact trivial | exact rfl | apply And.intro); done | simp [onesP, oneP, lk, Value.oneCell']) (.inl rfl) ?_
        refine h_one 5 (by kernel_rfl) ?_
        refine h_yield 5 rfl rfl rfl rfl (y_val tok rfl) ?_
        refine h_one 7 (by kernel_rfl) ?_
        refine h_yield 7 rfl rfl rfl rfl (y_val tok rfl) ?_
        refine h_done [1, 2, 3, 4, 5] (by kernel_rfl) rfl ?_
        exact x_meet (⟨.slice a' n' c', V'⟩) (⟨hle, hs'⟩) (by repeat (first | exact SubF.nil | refine SubF.cons rfl ?_)) (by repeat (first | exact SubO.nil | refine SubO.cons rfl ?_)) rfl (Vw.le.refl _)
    ·
      refine h_yield 5 rfl rfl rfl rfl (y_val tok rfl) ?_
      refine h_one 4 (by kernel_rfl) ?_
      refine h_yield 4 rfl rfl rfl rfl (y_val tok rfl) ?_
      refine h_one 6 (by kernel_rfl) ?_
      refine h_store 6 tok rfl rfl rfl rfl (by first | exact ⟨trivial, trivial⟩ | (repeat' first | exact trivial | exact rfl | apply And.intro); done | simp [onesP, oneP, lk, Value.oneCell']) (.inl rfl) ?_
      refine h_one 7 (by kernel_rfl) ?_
      refine h_yield 7 rfl rfl rfl rfl (y_val tok rfl) ?_
      refine h_done [1, 2, 3, 4, 5] (by kernel_rfl) rfl ?_
      exact x_meet (⟨.slice a' n' c', V'⟩) (⟨hle, hs'⟩) (by repeat (first | exact SubF.nil | refine SubF.cons rfl ?_)) (by repeat (first | exact SubO.nil | refine SubO.cons rfl ?_)) rfl (Vw.le.refl _)
  rintro ⟨x5, V5⟩ ⟨hle5, hs5⟩
  dsimp only
  refine x_then ?_
  refine c_seq ?_
  refine c_region ?_
  refine o_yield rfl rfl rfl (y_val tok rfl) ?_
  obtain ⟨a5, n5, c5, rfl⟩ := sl_shape hs5.sl
  refine o_bs tok rfl rfl rfl rfl (fun b1 W1 hlw1 hb1 => ?_)
  refine o_yield rfl rfl rfl (y_val tok rfl) ?_
  refine o_bs tok rfl rfl rfl rfl (fun b2 W2 hlw2 hb2 => ?_)
  refine o_bs tok rfl rfl rfl rfl (fun b3 W3 hlw3 hb3 => ?_)
  have hk1 : SlOf W3 Block.cells 2 (.slice (some ⟨b1, 0, none⟩) 1 1) [⟨1, xS⟩] := (SlOf.ofBlock (enc := Block.cells) (sz := 2) (l := [⟨1, xS⟩]) (hb1 rfl) rfl (fun _ => rfl) (Nat.le_refl _)).mono (hlw2.trans hlw3)
  have hk2 : SlOf W3 Block.cells 2 (.slice (some ⟨b2, 0, none⟩) 1 1) [⟨1, yS⟩] := (SlOf.ofBlock (enc := Block.cells) (sz := 2) (l := [⟨1, yS⟩]) (hb2 rfl) rfl (fun _ => rfl) (Nat.le_refl _)).mono hlw3
  have hk3 : SlOf W3 Sl.enc 1 (.slice (some ⟨b3, 0, none⟩) 3 3) [(⟨.slice none 0 0, []⟩ : Sl Block), ⟨.slice (some ⟨b1, 0, none⟩) 1 1, [⟨1, xS⟩]⟩, ⟨.slice (some ⟨b2, 0, none⟩) 1 1, [⟨1, yS⟩]⟩] := SlOf.ofBlock (enc := Sl.enc) (sz := 1) (l := [(⟨.slice none 0 0, []⟩ : Sl Block), ⟨.slice (some ⟨b1, 0, none⟩) 1 1, [⟨1, xS⟩]⟩, ⟨.slice (some ⟨b2, 0, none⟩) 1 1, [⟨1, yS⟩]⟩]) (hb3 rfl) rfl (fun _ => rfl) (Nat.le_refl _)
  have hall : ∀ r ∈ [(⟨.slice none 0 0, []⟩ : Sl Block), ⟨.slice (some ⟨b1, 0, none⟩) 1 1, [⟨1, xS⟩]⟩, ⟨.slice (some ⟨b2, 0, none⟩) 1 1, [⟨1, yS⟩]⟩], SlOf W3 Block.cells 2 r.v r.l ∧ r.l.length ≤ 4398046511104 := by
    intro r hr
    simp only [List.mem_cons, List.not_mem_nil, or_false] at hr
    rcases hr with rfl | rfl | rfl
    · exact ⟨slNil _ _ _ _ (fun _ => rfl), by simp⟩
    · exact ⟨hk1, by simp⟩
    · exact ⟨hk2, by simp⟩
  have hkn : knownB [(⟨.slice none 0 0, []⟩ : Sl Block), ⟨.slice (some ⟨b1, 0, none⟩) 1 1, [⟨1, xS⟩]⟩, ⟨.slice (some ⟨b2, 0, none⟩) 1 1, [⟨1, yS⟩]⟩] 1 = (xS, true) := rfl
  refine o_call (.a (.v _)) rfl rfl fnok17 rfl rfl rfl (fun hg E w1 hm => by exact known_c W3 _ [(⟨.slice none 0 0, []⟩ : Sl Block), ⟨.slice (some ⟨b1, 0, none⟩) 1 1, [⟨1, xS⟩]⟩, ⟨.slice (some ⟨b2, 0, none⟩) 1 1, [⟨1, yS⟩]⟩] 1 _ hm.leV hk3 hall (by simp)) ?_
  refine o_yield rfl rfl rfl (y_val tok rfl) ?_
  refine o_yield rfl rfl rfl (y_val tok rfl) ?_
  refine o_yield rfl rfl rfl (y_val tok rfl) ?_
  refine o_yield rfl rfl rfl (y_val tok rfl) ?_
  refine o_yield rfl rfl rfl (y_val tok rfl) ?_
  refine o_end [1, 2, 3, 4, 5, 6, 7] rfl ?_
  refine x_then ?_
  refine c_seq ?_
  refine c_draw mixed (by kernel_rfl) ?_
  refine d_yield rfl rfl rfl (y_val tok rfl) rfl ?_
  refine d_yield rfl rfl rfl (y_val tok rfl) rfl ?_
  refine d_yield rfl rfl rfl (y_val tok rfl) rfl ?_
  refine d_yield rfl rfl rfl (y_val tok rfl) rfl ?_
  refine d_yield rfl rfl rfl (y_val tok rfl) rfl ?_
  refine d_yield rfl rfl rfl (y_val tok rfl) rfl ?_
  refine d_yield rfl rfl rfl (y_val tok rfl) rfl ?_
  refine d_yield rfl rfl rfl (y_val tok rfl) rfl ?_
  refine d_yield rfl rfl rfl (y_val tok rfl) rfl ?_
  refine d_yield rfl rfl rfl (y_val tok rfl) rfl ?_
  refine d_call (.a (.v _)) rfl rfl fnok83 rfl rfl rfl (fun hg E w1 hm => by exact geo22_c _) ?_
  refine d_call (.a (.v _)) rfl rfl fnok31 rfl rfl rfl (fun hg E w1 hm => by exact refData_c geoF geoF_ok 1 0 _) ?_
  refine d_yield rfl rfl rfl (y_val tok rfl) rfl ?_
  refine d_yield rfl rfl rfl (y_val tok rfl) rfl ?_
  refine d_yield rfl rfl rfl (y_val tok rfl) rfl ?_
  refine d_yield rfl rfl rfl (y_val tok rfl) rfl ?_
  refine d_yield rfl rfl rfl (y_val tok rfl) rfl ?_
  refine d_yield rfl rfl rfl (y_val tok rfl) rfl ?_
  refine d_yield rfl rfl rfl (y_val tok rfl) rfl ?_
  refine d_yield rfl rfl rfl (y_val tok rfl) rfl ?_
  refine d_yield rfl rfl rfl (y_val tok rfl) rfl ?_
  refine d_yield rfl rfl rfl (y_val tok rfl) rfl ?_
  refine d_yield rfl rfl rfl (y_val tok rfl) rfl ?_
  refine d_call (.a (.v _)) rfl rfl fnok83 rfl rfl rfl (fun hg E w1 hm => by exact geo22_c _) ?_
  refine d_yield rfl rfl rfl (y_val tok rfl) rfl ?_
  refine d_call (.a (.v _)) rfl rfl fnok61 rfl rfl rfl (fun hg E w1 hm => by exact fover_c ⟨1, 2, ⟨.slice a5 n5 c5, [abS, cS]⟩⟩ geoF _ _ _ rfl _) ?_
  refine d_yield rfl rfl rfl (y_val tok rfl) rfl ?_
  refine d_yield rfl rfl rfl (y_val tok rfl) rfl ?_
  refine d_yield rfl rfl rfl (y_val tok rfl) rfl ?_
  refine d_call (.a (.v _)) rfl rfl fnok65 rfl rfl rfl (fun hg E w1 hm => by exact ftext_c W3 ⟨1, 2, ⟨.slice a5 n5 c5, [abS, cS]⟩⟩ _ hm.leV (hs5.mono (hlw1.trans (hlw2.trans hlw3))) (by simp) (by simp only [catL, abS, cS]; decide)) ?_
  refine d_yield rfl rfl rfl (y_val tok rfl) rfl ?_
  refine d_yield rfl rfl rfl (y_val tok rfl) rfl ?_
  refine d_yield rfl rfl rfl (y_val tok rfl) rfl ?_
  refine d_yield rfl rfl rfl (y_val tok rfl) rfl ?_
  refine d_yield rfl rfl rfl (y_val tok rfl) rfl ?_
  refine d_yield rfl rfl rfl (y_val tok rfl) rfl ?_
  refine d_yield rfl rfl rfl (y_val tok rfl) rfl ?_
  refine d_yield rfl rfl rfl (y_val tok rfl) rfl ?_
  refine d_yield rfl rfl rfl (y_val tok rfl) rfl ?_
  refine d_yield rfl rfl rfl (y_val tok rfl) rfl ?_
  refine d_end [0] rfl ?_
  refine x_then ?_
  refine c_ret ?_
  refine b_ret tok rfl ?_
  intro E w' hm _
  refine ⟨?_, hm.below ((hle4.trans (hle5.trans (hlw1.trans (hlw2.trans hlw3)))))⟩
  rw [hkn, dataF]
  have hd : decide (geoF.per ≤ 2) = true := rfl
  simp only [hd, catF, xS]
  simp
  rfl

theorem getB_nil (k : Int) : getB [] k = (ByteArray.empty, false) := rfl

theorem fetchKnown_law (w : World) {v0 v1 v2 : Value} (R0 : ∃ n : Int, v0 = I n ∧ R64 n) (R1 : ∃ l : List Block, SlOf (vw w) Block.cells 2 v1 l ∧ l.length ≤ maxLen ∧ ∀ a ∈ l, Block.Ok a) (R2 : ∃ l : List Block, SlOf (vw w) Block.cells 2 v2 l ∧ l.length ≤ maxLen ∧ ∀ a ∈ l, Block.Ok a) :
    Calls Try.prog 3 #[v0, v1, v2] w fun e w' => e = .returned (.bool true) ∧ Below w.heap.size w w' := by
  obtain ⟨k, rfl, _⟩ := R0
  obtain ⟨la, hA, hal, _⟩ := R1
  obtain ⟨lb, hB, hbl, _⟩ := R2
  obtain ⟨a1, n1, c1, rfl⟩ := sl_shape hA.sl
  obtain ⟨a2, n2, c2, rfl⟩ := sl_shape hB.sl
  refine enter (E := E0) (O := []) (nl := 0) (V := vw w) [.a (.v (I k)), .a (.v (.slice a1 n1 c1)), .a (.v (.slice a2 n2 c2))] Try.func3 rfl rfl (mem0 E0 0 w) rfl rfl ?_
  refine c_seq ?_
  refine c_region ?_
  refine o_yield rfl rfl rfl (y_val tok rfl) ?_
  refine o_end [0, 1, 2] rfl ?_
  refine x_then ?_
  refine c_seq ?_
  refine c_seq ?_
  refine c_region ?_
  refine o_yield rfl rfl rfl (y_val tok rfl) ?_
  refine o_call (.a (.v _)) rfl rfl fnok15 rfl rfl rfl (fun hg E w1 hm => by exact great_c _ _ la _ hm.leV hA hal) ?_
  refine o_yield rfl rfl rfl (y_val tok rfl) ?_
  refine o_yield rfl rfl rfl (y_val tok rfl) ?_
  refine o_call (.a (.v _)) rfl rfl fnok15 rfl rfl rfl (fun hg E w1 hm => by exact great_c _ _ lb _ hm.leV hB hbl) ?_
  refine o_yield rfl rfl rfl (y_val tok rfl) ?_
  refine o_end [0, 1, 2, 20] rfl ?_
  refine x_then ?_
  refine c_cond rfl (fun h => ?_) (fun h => ?_)
  ·
    simp only [Bool.and_eq_true, Bool.or_eq_true, Bool.not_eq_true', Bool.or_eq_false_iff, Bool.and_eq_false_iff, decide_eq_true_eq, decide_eq_false_iff_not, beq_iff_eq, bne_iff_ne, Bool.not_eq_false', beq_eq_false_iff_ne, bne_eq_false_iff_eq, ne_eq, Decidable.not_not, Int.not_lt, Int.not_le] at h
    refine c_seq ?_
    refine c_region ?_
    refine o_call (.a (.v _)) rfl rfl fnok16 rfl rfl rfl (fun hg E w1 hm => by exact wakes22_c _) ?_
    refine o_yield rfl rfl rfl (y_val tok rfl) ?_
    refine o_end [6] rfl ?_
    refine x_then ?_
    refine c_ret ?_
    refine x_then_ret ?_
    refine b_ret tok rfl ?_
    intro E w' hm _
    refine ⟨?_, hm.below (Vw.le.refl _)⟩
    rfl
  ·
    simp only [Bool.and_eq_true, Bool.or_eq_true, Bool.not_eq_true', Bool.or_eq_false_iff, Bool.and_eq_false_iff, decide_eq_true_eq, decide_eq_false_iff_not, beq_iff_eq, bne_iff_ne, Bool.not_eq_false', beq_eq_false_iff_ne, bne_eq_false_iff_eq, ne_eq, Decidable.not_not, Int.not_lt, Int.not_le] at h
    have hga : greatB la = false := by
      cases hq : greatB la with
      | false => rfl
      | true => rw [hq] at h; exact absurd h (by simp)
    have hgb : greatB lb = false := by
      cases hq : greatB lb with
      | false => rfl
      | true => rw [hga, hq] at h; exact absurd h (by simp)
    clear h
    have ha := great_no hga
    have hb := great_no hgb
    refine c_skip ?_
    refine x_then ?_
    refine c_seq ?_
    refine c_region ?_
    refine o_yield rfl rfl rfl (y_val tok rfl) ?_
    refine o_yield rfl rfl rfl (y_val tok rfl) ?_
    refine o_bs tok rfl rfl rfl rfl (fun b1 W1 hlw1 hb1 => ?_)
    have hA1 := hA.mono hlw1
    have hB1 := hB.mono hlw1
    have hk1 : SlOf W1 Sl.enc 1 (.slice (some ⟨b1, 0, none⟩) 1 1) [(⟨.slice a1 n1 c1, la⟩ : Sl Block)] := SlOf.ofBlock (enc := Sl.enc) (sz := 1) (l := [(⟨.slice a1 n1 c1, la⟩ : Sl Block)]) (hb1 rfl) rfl (fun _ => rfl) (Nat.le_refl _)
    refine o_call (.a (.v _)) rfl rfl fnok17 rfl rfl rfl (fun hg E w1 hm => by exact known_c W1 _ [(⟨.slice a1 n1 c1, la⟩ : Sl Block)] k _ hm.leV hk1 (by simp only [List.mem_cons, List.not_mem_nil, or_false]; rintro r rfl; exact ⟨hA1, by simp only; omega⟩) (by simp)) ?_
    refine o_yield rfl rfl rfl (y_val tok rfl) ?_
    refine o_yield rfl rfl rfl (y_val tok rfl) ?_
    refine o_yield rfl rfl rfl (y_val tok rfl) ?_
    refine o_yield rfl rfl rfl (y_val tok rfl) ?_
    refine o_yield rfl rfl rfl (y_val tok rfl) ?_
    refine o_end [0, 1, 2, 7, 8] rfl ?_
    refine x_then ?_
    refine c_seq ?_
    refine c_region ?_
    refine o_yield rfl rfl rfl (y_val tok rfl) ?_
    refine o_yield rfl rfl rfl (y_val tok rfl) ?_
    refine o_bs tok rfl rfl rfl rfl (fun b2 W2 hlw2 hb2 => ?_)
    have hA2 := hA1.mono hlw2
    have hB2 := hB1.mono hlw2
    have hk2 : SlOf W2 Sl.enc 1 (.slice (some ⟨b2, 0, none⟩) 1 1) [(⟨.slice a2 n2 c2, lb⟩ : Sl Block)] := SlOf.ofBlock (enc := Sl.enc) (sz := 1) (l := [(⟨.slice a2 n2 c2, lb⟩ : Sl Block)]) (hb2 rfl) rfl (fun _ => rfl) (Nat.le_refl _)
    refine o_call (.a (.v _)) rfl rfl fnok17 rfl rfl rfl (fun hg E w1 hm => by exact known_c W2 _ [(⟨.slice a2 n2 c2, lb⟩ : Sl Block)] k _ hm.leV hk2 (by simp only [List.mem_cons, List.not_mem_nil, or_false]; rintro r rfl; exact ⟨hB2, by simp only; omega⟩) (by simp)) ?_
    refine o_yield rfl rfl rfl (y_val tok rfl) ?_
    refine o_yield rfl rfl rfl (y_val tok rfl) ?_
    refine o_yield rfl rfl rfl (y_val tok rfl) ?_
    refine o_yield rfl rfl rfl (y_val tok rfl) ?_
    refine o_yield rfl rfl rfl (y_val tok rfl) ?_
    refine o_end [0, 1, 2, 7, 8, 9, 10] rfl ?_
    refine x_then ?_
    refine c_seq ?_
    refine c_region ?_
    refine o_yield rfl rfl rfl (y_val tok rfl) ?_
    refine o_yield rfl rfl rfl (y_val tok rfl) ?_
    refine o_yield rfl rfl rfl (y_val tok rfl) ?_
    refine o_bs tok rfl rfl rfl rfl (fun b3 W3 hlw3 hb3 => ?_)
    have hA3 := hA2.mono hlw3
    have hB3 := hB2.mono hlw3
    have hk3 : SlOf W3 Sl.enc 1 (.slice (some ⟨b3, 0, none⟩) 4 4) [(⟨.slice none 0 0, []⟩ : Sl Block), ⟨.slice a1 n1 c1, la⟩, ⟨.slice none 0 0, []⟩, ⟨.slice a2 n2 c2, lb⟩] := SlOf.ofBlock (enc := Sl.enc) (sz := 1) (l := [(⟨.slice none 0 0, []⟩ : Sl Block), ⟨.slice a1 n1 c1, la⟩, ⟨.slice none 0 0, []⟩, ⟨.slice a2 n2 c2, lb⟩]) (hb3 rfl) rfl (fun _ => rfl) (Nat.le_refl _)
    have hall : ∀ r ∈ [(⟨.slice none 0 0, []⟩ : Sl Block), ⟨.slice a1 n1 c1, la⟩, ⟨.slice none 0 0, []⟩, ⟨.slice a2 n2 c2, lb⟩], SlOf W3 Block.cells 2 r.v r.l ∧ r.l.length ≤ 4398046511104 := by
      intro r hr
      simp only [List.mem_cons, List.not_mem_nil, or_false] at hr
      rcases hr with rfl | rfl | rfl | rfl
      · exact ⟨slNil _ _ _ _ (fun _ => rfl), by simp⟩
      · exact ⟨hA3, by simp only; omega⟩
      · exact ⟨slNil _ _ _ _ (fun _ => rfl), by simp⟩
      · exact ⟨hB3, by simp only; omega⟩
    have hn0 : knownB [] k = (ByteArray.empty, false) := rfl
    have ke : knownB [(⟨.slice none 0 0, []⟩ : Sl Block), ⟨.slice a1 n1 c1, la⟩, ⟨.slice none 0 0, []⟩, ⟨.slice a2 n2 c2, lb⟩] k = if (knownB [(⟨.slice a1 n1 c1, la⟩ : Sl Block)] k).2 = true then knownB [(⟨.slice a1 n1 c1, la⟩ : Sl Block)] k else knownB [(⟨.slice a2 n2 c2, lb⟩ : Sl Block)] k := by
      simp only [knownB, getB_nil, Bool.false_eq_true, if_false]
      by_cases h1 : (getB la k).2 = true <;> simp [h1]
    have kn : (knownB [(⟨.slice a1 n1 c1, la⟩ : Sl Block)] k).2 = false → (knownB [(⟨.slice a1 n1 c1, la⟩ : Sl Block)] k).1 = ByteArray.empty := by
      simp only [knownB]
      by_cases h1 : (getB la k).2 = true <;> simp [h1]
    refine o_call (.a (.v _)) rfl rfl fnok17 rfl rfl rfl (fun hg E w1 hm => by exact known_c W3 _ [(⟨.slice none 0 0, []⟩ : Sl Block), ⟨.slice a1 n1 c1, la⟩, ⟨.slice none 0 0, []⟩, ⟨.slice a2 n2 c2, lb⟩] k _ hm.leV hk3 hall (by simp)) ?_
    refine o_yield rfl rfl rfl (y_val tok rfl) ?_
    refine o_yield rfl rfl rfl (y_val tok rfl) ?_
    refine o_yield rfl rfl rfl (y_val tok rfl) ?_
    refine o_yield rfl rfl rfl (y_val tok rfl) ?_
    refine o_yield rfl rfl rfl (y_val tok rfl) ?_
    refine o_end [0, 7, 8, 9, 10, 11, 12] rfl ?_
    refine x_then ?_
    refine c_seq ?_
    refine c_seq ?_
    refine c_region ?_
    refine o_yield rfl rfl rfl (y_val tok rfl) ?_
    refine o_end [0, 7, 9, 10, 11, 12, 44] rfl ?_
    refine x_then ?_
    refine c_cond rfl (fun h => ?_) (fun h => ?_)
    rw [ke]
    ·
      refine c_seq ?_
      refine c_region ?_
      refine o_yield rfl rfl rfl (y_val tok rfl) ?_
      refine o_yield rfl rfl rfl (y_val tok rfl) ?_
      refine o_yield rfl rfl rfl (y_val tok rfl) ?_
      refine o_yield rfl rfl rfl (y_val tok rfl) ?_
      refine o_yield rfl rfl rfl (y_val tok rfl) ?_
      refine o_yield rfl rfl rfl (y_val tok rfl) ?_
      refine o_yield rfl rfl rfl (y_val tok rfl) ?_
      rw [if_pos h]
      refine o_call (.a (.v _)) rfl rfl fnok16 rfl rfl rfl (fun hg E w1 hm => by exact wakes22_c _) ?_
      refine o_yield rfl rfl rfl (y_val tok rfl) ?_
      refine o_yield rfl rfl rfl (y_val tok rfl) ?_
      refine o_end [6] rfl ?_
      refine x_then ?_
      refine c_ret ?_
      refine x_then_ret ?_
      refine b_ret tok rfl ?_
      intro E w' hm _
      refine ⟨?_, hm.below ((hlw1.trans (hlw2.trans hlw3)))⟩
      simp [h]
      rfl
    ·
      refine c_skip ?_
      refine x_then ?_
      refine c_seq ?_
      refine c_region ?_
      refine o_yield rfl rfl rfl (y_val tok rfl) ?_
      have h0 : (knownB [(⟨.slice a1 n1 c1, la⟩ : Sl Block)] k).2 = false := by simpa using h
      refine o_call (.a (.v _)) rfl rfl fnok17 rfl rfl rfl (fun hg E w1 hm => by exact known_c W3 _ [] k _ hm.leV (slNil _ _ _ _ (fun _ => rfl)) (by simp) (by simp)) ?_
      refine o_yield rfl rfl rfl (y_val tok rfl) ?_
      refine o_yield rfl rfl rfl (y_val tok rfl) ?_
      refine o_yield rfl rfl rfl (y_val tok rfl) ?_
      refine o_yield rfl rfl rfl (y_val tok rfl) ?_
      refine o_yield rfl rfl rfl (y_val tok rfl) ?_
      refine o_end [7, 9, 10, 11, 12, 14] rfl ?_
      refine x_then ?_
      refine c_seq ?_
      refine c_region ?_
      refine o_yield rfl rfl rfl (y_val tok rfl) ?_
      refine o_yield rfl rfl rfl (y_val tok rfl) ?_
      refine o_yield rfl rfl rfl (y_val tok rfl) ?_
      refine o_yield rfl rfl rfl (y_val tok rfl) ?_
      refine o_yield rfl rfl rfl (y_val tok rfl) ?_
      refine o_yield rfl rfl rfl (y_val tok rfl) ?_
      refine o_yield rfl rfl rfl (y_val tok rfl) ?_
      refine o_yield rfl rfl rfl (y_val tok rfl) ?_
      refine o_yield rfl rfl rfl (y_val tok rfl) ?_
      refine o_yield rfl rfl rfl (y_val tok rfl) ?_
      refine o_yield rfl rfl rfl (y_val tok rfl) ?_
      refine o_yield rfl rfl rfl (y_val tok rfl) ?_
      refine o_yield rfl rfl rfl (y_val tok rfl) ?_
      refine o_yield rfl rfl rfl (y_val tok rfl) ?_
      refine o_yield rfl rfl rfl (y_val tok rfl) ?_
      refine o_yield rfl rfl rfl (y_val tok rfl) ?_
      refine o_yield rfl rfl rfl (y_val tok rfl) ?_
      refine o_call (.a (.v _)) rfl rfl fnok16 rfl rfl rfl (fun hg E w1 hm => by exact wakes22_c _) ?_
      refine o_yield rfl rfl rfl (y_val tok rfl) ?_
      refine o_yield rfl rfl rfl (y_val tok rfl) ?_
      refine o_end [6] rfl ?_
      refine x_then ?_
      refine c_ret ?_
      refine b_ret tok rfl ?_
      intro E w' hm _
      refine ⟨?_, hm.below ((hlw1.trans (hlw2.trans hlw3)))⟩
      rw [kn h0, hn0]
      simp
      rw [ke, if_neg (by rw [h0]; simp)]
      simp
      rfl
end Go.Proofs.Ytanekcndpkagiaa
