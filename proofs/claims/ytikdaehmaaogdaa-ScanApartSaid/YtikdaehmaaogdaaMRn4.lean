import Derived.Test.YtikdaehmaaogdaaMRn1
/- The law: a replay that has nothing to put in place writes the header alone. -/
set_option linter.unusedVariables false
set_option linter.unusedSimpArgs false
set_option maxRecDepth 100000
namespace Go.Proofs.Ytikdaehmaaogdaa
open Go Go.Eng Go.RowKit

def greatD (D : List ByteArray) (Ca : List (Sl Cell)) (kn fn : Nat) : Bool := decide (200 < D.length) || decide (20 < Ca.length) || decide (20 < kn) || decide (200 < fn) || Ca.any (fun x => decide (100 < x.l.length))

theorem great06_c (V : Vw) (a ca ka fa : Option Addr) (n c cn cc kn kc fn fc : Nat) (nx : Int) (D : List ByteArray) (Ca : List (Sl Cell)) (w : World) (hV : V.le (vw w)) (hs0 : SlOf V encS 1 (.slice a n c) D) (hc0 : SlOf V Sl.enc 1 (.slice ca cn cc) Ca) (hcg : ∀ x ∈ Ca, SlOf V Cell.cells 2 x.v x.l) :
    Calls Try.prog 14 #[devG a ca ka fa n c cn cc kn kc fn fc nx] w fun e w' => e = .returned (.bool (greatD D Ca kn fn)) ∧ Below w.heap.size w w' := by
  have hs := hs0.mono hV
  have hc := hc0.mono hV
  obtain ⟨a', c', he, _⟩ := sl_cap hs.sl
  cases he
  obtain ⟨a', c', he, _⟩ := sl_cap hc.sl
  cases he
  refine enter (E := E0) (O := []) (nl := 0) (V := vw w) [.a (.v (devG a ca ka fa D.length c Ca.length cc kn kc fn fc nx))] Try.func14 rfl rfl (mem0 E0 0 w) rfl rfl ?_
  refine c_seq ?_
  refine c_region ?_
  refine o_new tok rfl rfl rfl rfl ?_
  refine o_yield rfl rfl rfl (y_val tok rfl) ?_
  refine o_end [1] rfl ?_
  refine x_then ?_
  refine c_seq ?_
  refine c_seq ?_
  refine c_region ?_
  refine o_yield rfl rfl rfl (y_val tok rfl) ?_
  refine o_yield rfl rfl rfl (y_val tok rfl) ?_
  refine o_yield rfl rfl rfl (y_lenP tok rfl) ?_
  refine o_yield rfl rfl rfl (y_val tok rfl) ?_
  refine o_yield rfl rfl rfl (y_val tok rfl) ?_
  refine o_yield rfl rfl rfl (y_val tok rfl) ?_
  refine o_yield rfl rfl rfl (y_val tok rfl) ?_
  refine o_yield rfl rfl rfl (y_lenP tok rfl) ?_
  refine o_yield rfl rfl rfl (y_val tok rfl) ?_
  refine o_yield rfl rfl rfl (y_val tok rfl) ?_
  refine o_yield rfl rfl rfl (y_val tok rfl) ?_
  refine o_yield rfl rfl rfl (y_val tok rfl) ?_
  refine o_yield rfl rfl rfl (y_val tok rfl) ?_
  refine o_yield rfl rfl rfl (y_lenP tok rfl) ?_
  refine o_yield rfl rfl rfl (y_val tok rfl) ?_
  refine o_yield rfl rfl rfl (y_val tok rfl) ?_
  refine o_yield rfl rfl rfl (y_val tok rfl) ?_
  refine o_yield rfl rfl rfl (y_val tok rfl) ?_
  refine o_yield rfl rfl rfl (y_val tok rfl) ?_
  refine o_yield rfl rfl rfl (y_lenP tok rfl) ?_
  refine o_yield rfl rfl rfl (y_val tok rfl) ?_
  refine o_yield rfl rfl rfl (y_val tok rfl) ?_
  refine o_end [1, 25] rfl ?_
  refine x_then ?_
  refine c_cond rfl (fun h => ?_) (fun h => ?_)
  ·
    simp only [Bool.and_eq_true, Bool.or_eq_true, Bool.not_eq_true', Bool.or_eq_false_iff, Bool.and_eq_false_iff, decide_eq_true_eq, decide_eq_false_iff_not, beq_iff_eq, bne_iff_ne, Bool.not_eq_false', beq_eq_false_iff_ne, bne_eq_false_iff_eq, ne_eq, Decidable.not_not, Int.not_lt, Int.not_le] at h
    refine c_seq ?_
    refine c_region ?_
    refine o_yield rfl rfl rfl (y_val tok rfl) ?_
    refine o_end [2] rfl ?_
    refine x_then ?_
    refine c_ret ?_
    refine x_then_ret ?_
    refine b_ret tok rfl ?_
    intro E w' hm _
    refine ⟨?_, hm.below (Vw.le.refl _)⟩
    have : greatD D Ca kn fn = true := by
      simp only [greatD, Bool.or_eq_true, decide_eq_true_eq]
      omega
    rw [this]
    rfl
  ·
    simp only [Bool.and_eq_true, Bool.or_eq_true, Bool.not_eq_true', Bool.or_eq_false_iff, Bool.and_eq_false_iff, decide_eq_true_eq, decide_eq_false_iff_not, beq_iff_eq, bne_iff_ne, Bool.not_eq_false', beq_eq_false_iff_ne, bne_eq_false_iff_eq, ne_eq, Decidable.not_not, Int.not_lt, Int.not_le] at h
    have hD : D.length ≤ 200 ∧ Ca.length ≤ 20 ∧ kn ≤ 20 ∧ fn ≤ 200 := by omega
    have hg0 : greatD D Ca kn fn = Ca.any (fun x => decide (100 < x.l.length)) := by
      simp only [greatD, decide_eq_false (show ¬ 200 < D.length by omega), decide_eq_false (show ¬ 20 < Ca.length by omega), decide_eq_false (show ¬ 20 < kn by omega), decide_eq_false (show ¬ 200 < fn by omega), Bool.false_or]
    clear h
    refine c_skip ?_
    refine x_then ?_
    refine c_seq ?_
    refine c_seq ?_
    refine c_region ?_
    refine o_yield rfl rfl rfl (y_val tok rfl) ?_
    refine o_end [1, 3] rfl ?_
    refine x_then ?_
    refine c_block ?_
    refine c_loopK [1] [] rfl rfl (σ := Nat) (fun k => [(3, .a (.v (I k)))]) (fun k => []) (fun k => (k ≤ Ca.length ∧ ∀ (j : Nat) x, j < k → Ca[j]? = some x → x.l.length ≤ 100)) (fun k => Ca.length - k) (0) (⟨by omega, fun j x hj => by omega⟩) (by repeat (first | exact SubF.nil | refine SubF.cons rfl ?_)) (by repeat (first | exact SubO.nil | refine SubO.cons rfl ?_)) rfl ?_
    rintro k ⟨hk, hkl⟩
    refine c_seq ?_
    refine c_seq ?_
    refine c_region ?_
    refine o_yield rfl rfl rfl (y_val tok rfl) ?_
    refine o_yield rfl rfl rfl (y_val tok rfl) ?_
    refine o_yield rfl rfl rfl (y_val tok rfl) ?_
    refine o_yield rfl rfl rfl (y_lenP tok rfl) ?_
    refine o_yield rfl rfl rfl (y_val tok rfl) ?_
    refine o_end [1, 3, 30] rfl ?_
    refine x_then ?_
    refine c_cond rfl (fun h => ?_) (fun h => ?_)
    ·
      simp only [Bool.and_eq_true, Bool.or_eq_true, Bool.not_eq_true', Bool.or_eq_false_iff, Bool.and_eq_false_iff, decide_eq_true_eq, decide_eq_false_iff_not, beq_iff_eq, bne_iff_ne, Bool.not_eq_false', beq_eq_false_iff_ne, bne_eq_false_iff_eq, ne_eq, Decidable.not_not, Int.not_lt, Int.not_le] at h
      obtain ⟨x, h_x⟩ : ∃ x, Ca[k]? = some x := ⟨_, List.getElem?_eq_getElem (by omega)⟩
      have hx := (hcg x (List.mem_of_getElem? h_x)).mono hV
      clear h
      refine c_skip ?_
      refine x_then ?_
      refine c_seq ?_
      refine c_block ?_
      refine c_seq ?_
      refine c_region ?_
      refine o_yield rfl rfl rfl (y_val tok rfl) ?_
      refine o_yield rfl rfl rfl (y_val tok rfl) ?_
      refine o_yield rfl rfl rfl (y_val tok rfl) ?_
      have hlt_x := lt_of_at h_x
      refine o_yield rfl rfl rfl (y_idx tok rfl (fun hg => hc.sl) (fun hg => ⟨by omega, by omega⟩)) ?_
      refine o_yield rfl rfl rfl (y_lel tok (k) 0 (x) rfl (fun hg => hc) (fun hg => h_x) rfl rfl) ?_
      refine o_yield rfl rfl rfl (y_len tok rfl (fun hg => hx.sl)) ?_
      refine o_yield rfl rfl rfl (y_val tok rfl) ?_
      refine o_end [1, 3, 39] rfl ?_
      refine x_then ?_
      refine c_cond rfl (fun h => ?_) (fun h => ?_)
      ·
        simp only [Bool.and_eq_true, Bool.or_eq_true, Bool.not_eq_true', Bool.or_eq_false_iff, Bool.and_eq_false_iff, decide_eq_true_eq, decide_eq_false_iff_not, beq_iff_eq, bne_iff_ne, Bool.not_eq_false', beq_eq_false_iff_ne, bne_eq_false_iff_eq, ne_eq, Decidable.not_not, Int.not_lt, Int.not_le] at h
        refine c_seq ?_
        refine c_region ?_
        refine o_yield rfl rfl rfl (y_val tok rfl) ?_
        refine o_end [2] rfl ?_
        refine x_then ?_
        refine c_ret ?_
        refine x_block_ret ?_
        refine x_then_ret ?_
        refine x_then_ret ?_
        refine x_block_ret ?_
        refine x_then_ret ?_
        refine b_ret tok rfl ?_
        intro E w' hm _
        refine ⟨?_, hm.below (Vw.le.refl _)⟩
        have : greatD D Ca kn fn = true := by
          rw [hg0, List.any_eq_true]
          exact ⟨x, List.mem_of_getElem? h_x, by simp; omega⟩
        rw [this]
        rfl
      ·
        simp only [Bool.and_eq_true, Bool.or_eq_true, Bool.not_eq_true', Bool.or_eq_false_iff, Bool.and_eq_false_iff, decide_eq_true_eq, decide_eq_false_iff_not, beq_iff_eq, bne_iff_ne, Bool.not_eq_false', beq_eq_false_iff_ne, bne_eq_false_iff_eq, ne_eq, Decidable.not_not, Int.not_lt, Int.not_le] at h
        refine c_skip ?_
        refine x_block ?_
        refine x_then ?_
        refine c_region ?_
        refine o_yield rfl rfl rfl (y_val tok rfl) ?_
        refine o_yield rfl rfl rfl (y_val tok rfl) ?_
        refine o_yield rfl rfl rfl (y_val tok rfl) ?_
        refine o_end [1, 3] rfl ?_
        refine x_then ?_
        rw [wrapI (n := (k : Int) + 1) (by omega) (by omega)]
        have hkl2 : ∀ (j : Nat) y, j < k + 1 → Ca[j]? = some y → y.l.length ≤ 100 := fun j y hj hy => by
          by_cases hjk : j = k
          · subst hjk; rw [h_x] at hy; cases hy; omega
          · exact hkl j y (by omega) hy
        refine x_round (k + 1) (⟨by omega, hkl2⟩) (by first | omega | (dsimp only; omega)) (by repeat (first | exact SubF.nil | refine SubF.cons rfl ?_)) (by repeat (first | exact SubO.nil | refine SubO.cons rfl ?_)) rfl (Vw.le.refl _)
    ·
      simp only [Bool.and_eq_true, Bool.or_eq_true, Bool.not_eq_true', Bool.or_eq_false_iff, Bool.and_eq_false_iff, decide_eq_true_eq, decide_eq_false_iff_not, beq_iff_eq, bne_iff_ne, Bool.not_eq_false', beq_eq_false_iff_ne, bne_eq_false_iff_eq, ne_eq, Decidable.not_not, Int.not_lt, Int.not_le] at h
      refine c_exit ?_
      refine x_then_exit ?_
      refine x_then_exit ?_
      refine x_block_hit ?_
      refine x_then ?_
      refine c_seq ?_
      refine c_region ?_
      refine o_yield rfl rfl rfl (y_val tok rfl) ?_
      refine o_end [2] rfl ?_
      refine x_then ?_
      refine c_ret ?_
      refine b_ret tok rfl ?_
      intro E w' hm _
      refine ⟨?_, hm.below (Vw.le.refl _)⟩
      have : greatD D Ca kn fn = false := by
        rw [hg0, List.any_eq_false]
        intro x hx
        obtain ⟨j, hj⟩ := List.getElem?_of_mem hx
        have hjl := (List.getElem?_eq_some_iff.1 hj).1
        have := hkl j x (by omega) hj
        simp
        omega
      rw [this]
      rfl

end Go.Proofs.Ytikdaehmaaogdaa

/- The law ScanApart. -/
set_option linter.unusedVariables false
set_option linter.unusedSimpArgs false
set_option maxRecDepth 100000
namespace Go.Proofs.Ytikdaehmaaogdaa
open Go Go.Eng Go.RowKit

/-- What Rows comes to of any journal. -/
def RowsIs (g : Geo) (slot key tail : Int) (D : List ByteArray) (L : List Record) : Prop :=
  (openJ g D slot = false ∧ L = []) ∨ (openJ g D slot = true ∧ RowsOf g slot key tail D L)

theorem rowsIs_ex (g : Geo) (slot key tail : Int) (D : List ByteArray) (h0 : 0 ≤ tail) (h1 : tail ≤ 1099511627776) (hz : ∀ s ∈ D, s.size ≤ maxLen) : ∃ L, RowsIs g slot key tail D L := by
  cases hop : openJ g D slot with
  | false => exact ⟨[], .inl ⟨hop, rfl⟩⟩
  | true =>
    have h := hop
    rw [openJ, Bool.and_eq_true, Bool.and_eq_true, decide_eq_true_eq, decide_eq_true_eq] at h
    obtain ⟨A, hA⟩ := rows_ex (key := key) h.1.1 h.1.2 h.2 h0 h1 hz
    exact ⟨A, .inr ⟨hop, hA⟩⟩

theorem isB_parts {s : ByteArray} {key lsn : Int} (h : isB s key lsn = true) : (isV s key lsn).key = key ∧ (isV s key lsn).lsn = lsn := by
  rw [isV, if_pos h]
  rw [isB, Bool.and_eq_true, Bool.and_eq_true, decide_eq_true_eq, decide_eq_true_eq] at h
  exact ⟨h.1.2, h.2⟩

theorem rowsIs_few {g : Geo} {slot key tail : Int} {D : List ByteArray} {L : List Record} (h : RowsIs g slot key tail D L) : L.length ≤ 64 := by
  rcases h with ⟨_, rfl⟩ | ⟨_, h⟩
  · simp
  · have := geo_facts h.geo
    have := h.few
    omega

theorem rowsIs_at {g : Geo} {slot key tail : Int} {D : List ByteArray} {L : List Record} (h : RowsIs g slot key tail D L) (i : Nat) (r : Record) (hr : L[i]? = some r) : r.key = key ∧ r.lsn = tail + i := by
  rcases h with ⟨_, rfl⟩ | ⟨_, h⟩
  · simp at hr
  · obtain ⟨s, _, h2, rfl⟩ := h.at_ i r hr
    exact isB_parts h2

theorem rowsIs_later {g : Geo} {slot key tail : Int} {D : List ByteArray} {L M : List Record} {m : Nat} (h : RowsIs g slot key tail D L) (h' : RowsIs g slot key (tail + m) D M) : L.length ≤ M.length + m := by
  rcases h with ⟨_, rfl⟩ | ⟨ho, h⟩
  · simp
  · rcases h' with ⟨ho', _⟩ | ⟨_, h'⟩
    · rw [ho] at ho'; cases ho'
    · rcases Nat.lt_or_ge (M.length + m) L.length with hlt | hge
      · exfalso
        have hf := h.few
        obtain ⟨s, hs1, hs2⟩ := h'.rest (by omega)
        obtain ⟨r, hr⟩ : ∃ r, L[M.length + m]? = some r := ⟨_, List.getElem?_eq_getElem hlt⟩
        obtain ⟨s', hs1', hs2', _⟩ := h.at_ _ r hr
        have he : tail + (m : Int) + (M.length : Int) = tail + ((M.length + m : Nat) : Int) := by omega
        rw [he] at hs1 hs2
        rw [hs1] at hs1'
        cases hs1'
        rw [hs2] at hs2'
        cases hs2'
      · exact hge

theorem rowsIs_same {g : Geo} {slot key tail : Int} {D : List ByteArray} {L M : List Record} {m : Nat} (h : RowsIs g slot key tail D L) (h' : RowsIs g slot key (tail + m) D M) {i : Nat} {x y : Record} (hx : M[i]? = some x) (hy : L[m + i]? = some y) : x = y := by
  rcases h with ⟨_, rfl⟩ | ⟨ho, h⟩
  · simp at hy
  · rcases h' with ⟨ho', _⟩ | ⟨_, h'⟩
    · rw [ho] at ho'; cases ho'
    · obtain ⟨s, hs1, hs2, hs3⟩ := h'.at_ i x hx
      obtain ⟨s', hs1', hs2', hs3'⟩ := h.at_ _ y hy
      have he : tail + (m : Int) + (i : Int) = tail + ((m + i : Nat) : Int) := by omega
      rw [he] at hs1 hs3
      rw [hs1] at hs1'
      cases hs1'
      rw [← hs3, ← hs3']

theorem srowsAny_c (V : Vw) (g : Geo) (ok : g.Ok) (slot key tail : Int) (D : List ByteArray) (L : List Record) (hL : RowsIs g slot key tail D L) (a ca ka fa : Option Addr) (n c cn cc kn kc fn fc : Nat) (nx : Int) (w : World) (hV : V.le (vw w)) (hs0 : SlOf V encS 1 (.slice a n c) D) :
    Calls Try.prog 16 #[g.val, devG a ca ka fa n c cn cc kn kc fn fc nx, I slot, I key, I tail] w fun e w' => ∃ v V', e = .returned v ∧ Below w.heap.size w w' ∧ Vext w.heap.size V V' w' ∧ ∃ a n c, v = .slice a n c ∧ SlOf V' Record.cells 6 (.slice a n c) L := by
  rcases hL with ⟨ho, rfl⟩ | ⟨_, hJ⟩
  · refine (srowsN_c V g ok slot key tail D (.inl ho) a ca ka fa n c cn cc kn kc fn fc nx w hV hs0).mono ?_
    rintro e w' ⟨rfl, hb⟩
    exact ⟨_, V.grown w w', rfl, hb, Vext.grown hV hb, none, 0, 0, rfl, slNil _ _ _ _ (fun _ => rfl)⟩
  · exact srows_cV V g ok slot key tail D L hJ a ca ka fa n c cn cc kn kc fn fc nx w hV hs0

theorem scanApart_law (w : World) {v0 v1 v2 v3 v4 v5 : Value} (R0 : ∃ g : Geo, v0 = g.val ∧ g.Ok) (R1 : ∃ d : Device, v1 = d.val ∧ Device.Ok (vw w) d) (R2 : ∃ n : Int, v2 = I n ∧ R64 n) (R3 : ∃ n : Int, v3 = I n ∧ R64 n) (R4 : ∃ n : Int, v4 = I n ∧ R64 n) (R5 : ∃ n : Int, v5 = I n ∧ R64 n) :
    Calls Try.prog 4 #[v0, v1, v2, v3, v4, v5] w fun e w' => e = .returned (.bool true) ∧ Below w.heap.size w w' := by
  obtain ⟨g, rfl, ok⟩ := R0
  obtain ⟨d, rfl, hd⟩ := R1
  obtain ⟨slot, rfl, _⟩ := R2
  obtain ⟨key, rfl, _⟩ := R3
  obtain ⟨tail, rfl, _⟩ := R4
  obtain ⟨more, rfl, _⟩ := R5
  obtain ⟨⟨sv, D⟩, ⟨cv, Ca⟩, ⟨kv, Ka⟩, nx, ⟨fv, Fa⟩⟩ := d
  have hsl := hd.s.sl
  have hDz := hd.s.all
  have hcl := hd.cache.sl
  have hcg := fun x hx => (hd.cache.all x hx).sl
  obtain ⟨ka, kn, kc, rfl⟩ := sl_shape hd.keys.sl.sl
  obtain ⟨fa, fn, fc, rfl⟩ := sl_shape hd.fenced.sl.sl
  dsimp only at hsl hDz hcl hcg
  clear hd
  obtain ⟨a, n, c, rfl⟩ := sl_shape hsl.sl
  obtain ⟨ca, cn, cc, rfl⟩ := sl_shape hcl.sl
  obtain ⟨a', c', he, _⟩ := sl_cap hsl.sl
  cases he
  have hgr := fun w1 hV => great06_c (vw w) a ca ka fa D.length c cn cc kn kc fn fc nx D Ca w1 hV hsl hcl hcg
  refine enter (E := E0) (O := []) (nl := 0) (V := vw w) [.a (.v g.val), .a (.v (devG a ca ka fa D.length c cn cc kn kc fn fc nx)), .a (.v (I slot)), .a (.v (I key)), .a (.v (I tail)), .a (.v (I more))] Try.func4 rfl rfl (mem0 E0 0 w) rfl rfl ?_
  refine c_seq ?_
  refine c_region ?_
  refine o_new tok rfl rfl rfl rfl ?_
  refine o_new tok rfl rfl rfl rfl ?_
  refine o_yield rfl rfl rfl (y_val tok rfl) ?_
  refine o_end [2, 3, 4, 5, 6, 7] rfl ?_
  refine x_then ?_
  refine c_seq ?_
  refine c_seq ?_
  refine c_region ?_
  refine o_yield rfl rfl rfl (y_val tok rfl) ?_
  refine o_call (.a (.v _)) rfl rfl fnok14 rfl rfl rfl (fun hg E w1 hm => by exact hgr _ hm.leV) ?_
  refine o_yield rfl rfl rfl (y_val tok rfl) ?_
  refine o_yield rfl rfl rfl (y_val tok rfl) ?_
  refine o_yield rfl rfl rfl (y_val tok rfl) ?_
  refine o_yield rfl rfl rfl (y_val tok rfl) ?_
  refine o_yield rfl rfl rfl (y_val tok rfl) ?_
  refine o_yield rfl rfl rfl (y_val tok rfl) ?_
  refine o_yield rfl rfl rfl (y_val tok rfl) ?_
  refine o_yield rfl rfl rfl (y_val tok rfl) ?_
  refine o_yield rfl rfl rfl (y_val tok rfl) ?_
  refine o_yield rfl rfl rfl (y_val tok rfl) ?_
  refine o_yield rfl rfl rfl (y_val tok rfl) ?_
  refine o_yield rfl rfl rfl (y_val tok rfl) ?_
  refine o_yield rfl rfl rfl (y_val tok rfl) ?_
  refine o_yield rfl rfl rfl (y_val tok rfl) ?_
  refine o_yield rfl rfl rfl (y_val tok rfl) ?_
  refine o_yield rfl rfl rfl (y_val tok rfl) ?_
  refine o_end [2, 3, 4, 5, 6, 7, 34] rfl ?_
  refine x_then ?_
  refine c_cond rfl (fun h => ?_) (fun h => ?_)
  ·
    refine c_seq ?_
    refine c_region ?_
    refine o_call (.a (.v _)) rfl rfl fnok15 rfl rfl rfl (fun hg E w1 hm => by exact wakes17_c _) ?_
    refine o_yield rfl rfl rfl (y_val tok rfl) ?_
    refine o_end [12] rfl ?_
    refine x_then ?_
    refine c_ret ?_
    refine x_then_ret ?_
    refine b_ret tok rfl ?_
    intro E w' hm _
    refine ⟨?_, hm.below (Vw.le.refl _)⟩
    rfl
  ·
    have hpre : 0 ≤ tail ∧ tail ≤ 1073741824 ∧ 0 ≤ more ∧ more ≤ 100 := by
      simp at h
      omega
    clear h
    obtain ⟨ht0, ht1, hm0, hm1⟩ := hpre
    obtain ⟨m, rfl⟩ : ∃ m : Nat, more = m := ⟨more.toNat, by omega⟩
    obtain ⟨L, hL⟩ := rowsIs_ex g slot key tail D ht0 (by omega) hDz
    obtain ⟨M, hM⟩ := rowsIs_ex g slot key (tail + m) D (by omega) (by omega) hDz
    have hwt : IntKind.i64.wrap (tail + (m : Int)) = tail + m := wrapI (by omega) (by omega)
    have hL64 := rowsIs_few hL
    have hM64 := rowsIs_few hM
    have hLM := rowsIs_later hL hM
    have hrm := fun V w1 hV hs => srowsAny_c V g ok slot key (tail + m) D M hM a ca ka fa D.length c cn cc kn kc fn fc nx w1 hV hs
    rw [← hwt] at hrm
    refine c_skip ?_
    refine x_then ?_
    refine c_seq ?_
    refine c_region ?_
    refine o_yield rfl rfl rfl (y_val tok rfl) ?_
    refine o_yield rfl rfl rfl (y_val tok rfl) ?_
    refine o_yield rfl rfl rfl (y_val tok rfl) ?_
    refine o_yield rfl rfl rfl (y_val tok rfl) ?_
    refine o_yield rfl rfl rfl (y_val tok rfl) ?_
    refine o_callV (fun v V' => ∃ a n c, v = .slice a n c ∧ SlOf V' Record.cells 6 (.slice a n c) L) rfl rfl fnok16 rfl rfl (fun hg E w1 hm => by exact srowsAny_c (vw w) g ok slot key tail D L hL _ _ _ _ _ _ _ _ _ _ _ _ _ _ hm.leV hsl) ?_
    rintro v V1 hle1 hv
    obtain ⟨a1, n1, c1, rfl, hs1⟩ := hv rfl
    clear hv
    refine o_yield rfl rfl rfl (y_val tok rfl) ?_
    refine o_end [2, 3, 4, 5, 6, 7, 13] rfl ?_
    refine x_then ?_
    refine c_seq ?_
    refine c_seq ?_
    refine c_region ?_
    refine o_yield rfl rfl rfl (y_val tok rfl) ?_
    refine o_yield rfl rfl rfl (y_len tok rfl (fun hg => hs1.sl)) ?_
    refine o_yield rfl rfl rfl (y_val tok rfl) ?_
    refine o_end [2, 3, 4, 5, 6, 7, 13, 44] rfl ?_
    refine x_then ?_
    refine c_cond rfl (fun h => ?_) (fun h => ?_)
    ·
      simp only [Bool.and_eq_true, Bool.or_eq_true, Bool.not_eq_true', Bool.or_eq_false_iff, Bool.and_eq_false_iff, decide_eq_true_eq, decide_eq_false_iff_not, beq_iff_eq, bne_iff_ne, Bool.not_eq_false', beq_eq_false_iff_ne, bne_eq_false_iff_eq, ne_eq, Decidable.not_not, Int.not_lt, Int.not_le] at h
      exfalso
      omega
    ·
      simp only [Bool.and_eq_true, Bool.or_eq_true, Bool.not_eq_true', Bool.or_eq_false_iff, Bool.and_eq_false_iff, decide_eq_true_eq, decide_eq_false_iff_not, beq_iff_eq, bne_iff_ne, Bool.not_eq_false', beq_eq_false_iff_ne, bne_eq_false_iff_eq, ne_eq, Decidable.not_not, Int.not_lt, Int.not_le] at h
      clear h
      refine c_skip ?_
      refine x_then ?_
      refine c_seq ?_
      refine c_seq ?_
      refine c_region ?_
      refine o_yield rfl rfl rfl (y_val tok rfl) ?_
      refine o_end [2, 3, 4, 5, 6, 7, 13, 14] rfl ?_
      refine x_then ?_
      refine c_block ?_
      refine c_loopK [2, 3, 4, 5, 6, 7, 13] [] rfl rfl (σ := Nat) (fun i => [(14, .a (.v (I i)))]) (fun i => []) (fun i => i ≤ L.length) (fun i => L.length - i) (0) (by omega) (by repeat (first | exact SubF.nil | refine SubF.cons rfl ?_)) (by repeat (first | exact SubO.nil | refine SubO.cons rfl ?_)) rfl ?_
      rintro i hi
      refine c_seq ?_
      refine c_seq ?_
      refine c_region ?_
      refine o_yield rfl rfl rfl (y_val tok rfl) ?_
      refine o_yield rfl rfl rfl (y_val tok rfl) ?_
      refine o_yield rfl rfl rfl (y_len tok rfl (fun hg => hs1.sl)) ?_
      refine o_yield rfl rfl rfl (y_val tok rfl) ?_
      refine o_end [2, 3, 4, 5, 6, 7, 13, 14, 48] rfl ?_
      refine x_then ?_
      refine c_cond rfl (fun h => ?_) (fun h => ?_)
      ·
        simp only [Bool.and_eq_true, Bool.or_eq_true, Bool.not_eq_true', Bool.or_eq_false_iff, Bool.and_eq_false_iff, decide_eq_true_eq, decide_eq_false_iff_not, beq_iff_eq, bne_iff_ne, Bool.not_eq_false', beq_eq_false_iff_ne, bne_eq_false_iff_eq, ne_eq, Decidable.not_not, Int.not_lt, Int.not_le] at h
        refine c_skip ?_
        refine x_then ?_
        refine c_seq ?_
        refine c_block ?_
        refine c_seq ?_
        refine c_region ?_
        refine o_yield rfl rfl rfl (y_val tok rfl) ?_
        refine o_yield rfl rfl rfl (y_val tok rfl) ?_
        obtain ⟨r, h_r⟩ := hs1.at (k := i) (by omega)
        obtain ⟨hk1, hk2⟩ := rowsIs_at hL i r h_r
        have hwi : IntKind.i64.wrap ((i : Int) + 1) = ((i + 1 : Nat) : Int) := wrapI (by omega) (by omega)
        have hwt : IntKind.i64.wrap (tail + (i : Int)) = tail + i := wrapI (by omega) (by omega)
        have hlt_r := lt_of_at h_r
        refine o_yield rfl rfl rfl (y_idx tok rfl (fun hg => hs1.sl) (fun hg => ⟨by omega, by omega⟩)) ?_
        refine o_yield rfl rfl rfl (y_fel tok rfl (fun hg => hs1.sl) (fun hg => by omega)) ?_
        refine o_yield rfl rfl rfl (y_lel tok (i) 0 (r) rfl (fun hg => hs1) (fun hg => h_r) rfl rfl) ?_
        refine o_yield rfl rfl rfl (y_val tok rfl) ?_
        refine o_yield rfl rfl rfl (y_val tok rfl) ?_
        refine o_yield rfl rfl rfl (y_val tok rfl) ?_
        refine o_yield rfl rfl rfl (y_val tok rfl) ?_
        refine o_yield rfl rfl rfl (y_val tok rfl) ?_
        have hlt_r := lt_of_at h_r
        refine o_yield rfl rfl rfl (y_idx tok rfl (fun hg => hs1.sl) (fun hg => ⟨by omega, by omega⟩)) ?_
        refine o_yield rfl rfl rfl (y_fel tok rfl (fun hg => hs1.sl) (fun hg => by omega)) ?_
        refine o_yield rfl rfl rfl (y_lel tok (i) 1 (r) rfl (fun hg => hs1) (fun hg => h_r) rfl rfl) ?_
        refine o_yield rfl rfl rfl (y_val tok rfl) ?_
        refine o_yield rfl rfl rfl (y_val tok rfl) ?_
        refine o_yield rfl rfl rfl (y_val tok rfl) ?_
        refine o_yield rfl rfl rfl (y_val tok rfl) ?_
        refine o_yield rfl rfl rfl (y_val tok rfl) ?_
        refine o_end [2, 3, 4, 5, 6, 7, 13, 14, 68] rfl ?_
        refine x_then ?_
        refine c_cond rfl (fun h => ?_) (fun h => ?_)
        ·
          exfalso
          rw [hwt] at h
          simp [hk1, hk2] at h
        ·
          refine c_skip ?_
          refine x_block ?_
          refine x_then ?_
          refine c_region ?_
          refine o_yield rfl rfl rfl (y_val tok rfl) ?_
          refine o_yield rfl rfl rfl (y_val tok rfl) ?_
          refine o_yield rfl rfl rfl (y_val tok rfl) ?_
          refine o_end [2, 3, 4, 5, 6, 7, 13, 14] rfl ?_
          refine x_then ?_
          rw [hwi]
          refine x_round (i + 1) (by omega) (by first | omega | (dsimp only; omega)) (by repeat (first | exact SubF.nil | refine SubF.cons rfl ?_)) (by repeat (first | exact SubO.nil | refine SubO.cons rfl ?_)) rfl (Vw.le.refl _)
      ·
        simp only [Bool.and_eq_true, Bool.or_eq_true, Bool.not_eq_true', Bool.or_eq_false_iff, Bool.and_eq_false_iff, decide_eq_true_eq, decide_eq_false_iff_not, beq_iff_eq, bne_iff_ne, Bool.not_eq_false', beq_eq_false_iff_ne, bne_eq_false_iff_eq, ne_eq, Decidable.not_not, Int.not_lt, Int.not_le] at h
        refine c_exit ?_
        refine x_then_exit ?_
        refine x_then_exit ?_
        refine x_block_hit ?_
        refine x_then ?_
        refine c_seq ?_
        refine c_region ?_
        refine o_yield rfl rfl rfl (y_val tok rfl) ?_
        refine o_yield rfl rfl rfl (y_val tok rfl) ?_
        refine o_yield rfl rfl rfl (y_val tok rfl) ?_
        refine o_yield rfl rfl rfl (y_val tok rfl) ?_
        refine o_yield rfl rfl rfl (y_val tok rfl) ?_
        refine o_yield rfl rfl rfl (y_val tok rfl) ?_
        refine o_yield rfl rfl rfl (y_val tok rfl) ?_
        refine o_callV (fun v V' => ∃ a n c, v = .slice a n c ∧ SlOf V' Record.cells 6 (.slice a n c) M) rfl rfl fnok16 rfl rfl (fun hg E w1 hm => by exact hrm V1 _ hm.leV (hsl.mono hle1)) ?_
        rintro v V2 hle2 hv
        obtain ⟨a2, n2, c2, rfl, hs2⟩ := hv rfl
        clear hv
        have hs1' := hs1.mono hle2
        refine o_yield rfl rfl rfl (y_val tok rfl) ?_
        refine o_end [5, 13, 15] rfl ?_
        refine x_then ?_
        refine c_seq ?_
        refine c_seq ?_
        refine c_region ?_
        refine o_yield rfl rfl rfl (y_val tok rfl) ?_
        refine o_yield rfl rfl rfl (y_val tok rfl) ?_
        refine o_yield rfl rfl rfl (y_len tok rfl (fun hg => hs1'.sl)) ?_
        refine o_yield rfl rfl rfl (y_val tok rfl) ?_
        refine o_yield rfl rfl rfl (y_val tok rfl) ?_
        refine o_yield rfl rfl rfl (y_val tok rfl) ?_
        refine o_yield rfl rfl rfl (y_len tok rfl (fun hg => hs2.sl)) ?_
        refine o_yield rfl rfl rfl (y_val tok rfl) ?_
        refine o_yield rfl rfl rfl (y_len tok rfl (fun hg => hs1'.sl)) ?_
        refine o_yield rfl rfl rfl (y_val tok rfl) ?_
        refine o_yield rfl rfl rfl (y_val tok rfl) ?_
        refine o_yield rfl rfl rfl (y_val tok rfl) ?_
        refine o_yield rfl rfl rfl (y_val tok rfl) ?_
        refine o_end [5, 13, 15, 89] rfl ?_
        refine x_then ?_
        refine c_cond rfl (fun h => ?_) (fun h => ?_)
        ·
          exfalso
          have hws : IntKind.i64.wrap ((L.length : Int) - m) = (L.length : Int) - m := wrapI (by omega) (by omega)
          rw [hws] at h
          simp at h
          omega
        ·
          refine c_skip ?_
          refine x_then ?_
          refine c_seq ?_
          refine c_seq ?_
          refine c_region ?_
          refine o_yield rfl rfl rfl (y_val tok rfl) ?_
          refine o_end [5, 13, 15, 16] rfl ?_
          refine x_then ?_
          refine c_block ?_
          refine c_loopK [5, 13, 15] [] rfl rfl (σ := Nat) (fun j => [(16, .a (.v (I j)))]) (fun j => []) (fun j => j ≤ M.length) (fun j => M.length - j) (0) (by omega) (by repeat (first | exact SubF.nil | refine SubF.cons rfl ?_)) (by repeat (first | exact SubO.nil | refine SubO.cons rfl ?_)) rfl ?_
          rintro j hj
          refine c_seq ?_
          refine c_seq ?_
          refine c_region ?_
          refine o_yield rfl rfl rfl (y_val tok rfl) ?_
          refine o_yield rfl rfl rfl (y_val tok rfl) ?_
          have hwm : IntKind.i64.wrap ((m : Int) + j) = ((m + j : Nat) : Int) := by rw [wrapI (by omega) (by omega)]; omega
          refine o_yield rfl rfl rfl (y_len tok rfl (fun hg => hs2.sl)) ?_
          refine o_yield rfl rfl rfl (y_val tok rfl) ?_
          refine o_yield rfl rfl rfl (y_val tok rfl) ?_
          refine o_yield rfl rfl rfl (y_val tok rfl) ?_
          refine o_yield rfl rfl rfl (y_val tok rfl) ?_
          refine o_yield rfl rfl rfl (y_val tok rfl) ?_
          refine o_yield rfl rfl rfl (y_val tok rfl) ?_
          refine o_yield rfl rfl rfl (y_len tok rfl (fun hg => hs1'.sl)) ?_
          refine o_yield rfl rfl rfl (y_val tok rfl) ?_
          refine o_yield rfl rfl rfl (y_val tok rfl) ?_
          refine o_end [5, 13, 15, 16, 101] rfl ?_
          refine x_then ?_
          refine c_cond rfl (fun h => ?_) (fun h => ?_)
          ·
            rw [hwm] at h
            have hlt : j < M.length ∧ m + j < L.length := by
              simp at h
              omega
            clear h
            obtain ⟨x, h_x⟩ := hs2.at (k := j) (by omega)
            obtain ⟨y, h_y⟩ := hs1'.at (k := m + j) (by omega)
            obtain rfl := rowsIs_same hL hM h_x h_y
            have hwj : IntKind.i64.wrap ((j : Int) + 1) = ((j + 1 : Nat) : Int) := wrapI (by omega) (by omega)
            refine c_skip ?_
            refine x_then ?_
            refine c_seq ?_
            refine c_block ?_
            refine c_seq ?_
            refine c_draw mixed (by kernel_rfl) ?_
            refine d_yield rfl rfl rfl (y_val tok rfl) rfl ?_
            refine d_yield rfl rfl rfl (y_val tok rfl) rfl ?_
            have hlt_x := lt_of_at h_x
            refine d_yield rfl rfl rfl (y_idx tok rfl (fun hg => hs2.sl) (fun hg => ⟨by omega, by omega⟩)) rfl ?_
            refine d_yield rfl rfl rfl (y_lel tok (j) 0 (x) rfl (fun hg => hs2) (fun hg => h_x) rfl rfl) rfl ?_
            refine d_yield rfl rfl rfl (y_val tok rfl) rfl ?_
            refine d_yield rfl rfl rfl (y_val tok rfl) rfl ?_
            refine d_yield rfl rfl rfl (y_val tok rfl) rfl ?_
            refine d_yield rfl rfl rfl (y_val tok rfl) rfl ?_
            rw [hwm]
            have hlt_x := lt_of_at h_y
            refine d_yield rfl rfl rfl (y_idx tok rfl (fun hg => hs1'.sl) (fun hg => ⟨by omega, by omega⟩)) rfl ?_
            refine d_yield rfl rfl rfl (y_lel tok (m + j) 0 (x) rfl (fun hg => hs1') (fun hg => h_y) rfl rfl) rfl ?_
            refine d_yield rfl rfl rfl (y_seq (.bool (!(x.eqB x))) rfl (fun E w => recEq x x w (.inr rfl))) rfl ?_
            refine d_end [5, 13, 15, 16, 114] rfl ?_
            refine x_then ?_
            refine c_cond rfl (fun h => ?_) (fun h => ?_)
            ·
              exfalso
              simp [Record.eqB] at h
            ·
              refine c_skip ?_
              refine x_block ?_
              refine x_then ?_
              refine c_region ?_
              refine o_yield rfl rfl rfl (y_val tok rfl) ?_
              refine o_yield rfl rfl rfl (y_val tok rfl) ?_
              refine o_yield rfl rfl rfl (y_val tok rfl) ?_
              refine o_end [5, 13, 15, 16] rfl ?_
              refine x_then ?_
              rw [hwj]
              refine x_round (j + 1) (by omega) (by first | omega | (dsimp only; omega)) (by repeat (first | exact SubF.nil | refine SubF.cons rfl ?_)) (by repeat (first | exact SubO.nil | refine SubO.cons rfl ?_)) rfl (Vw.le.refl _)
          ·
            refine c_exit ?_
            refine x_then_exit ?_
            refine x_then_exit ?_
            refine x_block_hit ?_
            refine x_then ?_
            refine c_seq ?_
            refine c_region ?_
            refine o_call (.a (.v _)) rfl rfl fnok15 rfl rfl rfl (fun hg E w1 hm => by exact wakes17_c _) ?_
            refine o_yield rfl rfl rfl (y_val tok rfl) ?_
            refine o_end [12] rfl ?_
            refine x_then ?_
            refine c_ret ?_
            refine b_ret tok rfl ?_
            intro E w' hm _
            refine ⟨?_, hm.below ((hle1.trans hle2))⟩
            rfl
end Go.Proofs.Ytikdaehmaaogdaa
