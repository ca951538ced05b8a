import Derived.Test.YtikdaehmaaogdaaMRp1
import Derived.Test.YtikdaehmaaogdaaEng39
import Derived.Test.YtikdaehmaaogdaaEng40
/- A slot's journal of any device: the document's. -/
set_option linter.unusedVariables false
set_option linter.unusedSimpArgs false
set_option maxRecDepth 100000
namespace Go.Proofs.Ytikdaehmaaogdaa
open Go Go.Eng Go.RowKit

theorem rj_in {g : Geo} (hG : geoB g = true) {slot lsn : Int} (hh : 0 ≤ headV g slot) (hl : 0 ≤ lsn) : 0 ≤ jourV g slot lsn ∧ jourV g slot lsn < totV g := by
  have hf := geo_facts hG
  have hz := geo_sizes hG
  have hs : 0 ≤ slot ∧ slot < g.slots := by
    unfold headV at hh
    split at hh
    · rename_i h; exact h.2
    · omega
  have hv : headV g slot = 1 + 2 * g.nodes + g.log + slot * (1 + g.journal) := by rw [headV, if_pos ⟨hG, hs⟩]
  have hd : dataAt g = 1 + 2 * g.nodes + g.log + g.slots * (1 + g.journal) := rfl
  have h2 : (slot + 1) * (1 + g.journal) ≤ g.slots * (1 + g.journal) := Int.mul_le_mul_of_nonneg_right (by omega) (by omega)
  rw [Int.add_mul] at h2
  have he := Int.emod_nonneg lsn (show g.journal ≠ 0 by omega)
  have he2 := Int.emod_lt_of_pos lsn (show 0 < g.journal by omega)
  have ht : totV g = dataAt g + g.blocks * g.per := by rw [totV, if_pos hG]
  rw [jourV, if_neg (by omega)]
  omega

theorem rh_in {g : Geo} (hG : geoB g = true) {slot : Int} (hh : 0 ≤ headV g slot) : headV g slot < totV g := by
  have h1 := rj_in hG hh (lsn := 0) (by omega)
  have hf := geo_facts hG
  have he := Int.emod_nonneg 0 (show g.journal ≠ 0 by omega)
  rw [jourV, if_neg (by omega)] at h1
  omega

/-- What a slot's journal has of a key from a tail on. -/
structure RowsOf (g : Geo) (slot key tail : Int) (D : List ByteArray) (A : List Record) : Prop where
  geo : geoB g = true
  len : (D.length : Int) = totV g
  hd : 0 ≤ headV g slot
  tl0 : 0 ≤ tail
  tl1 : tail ≤ 1099511627776
  few : (A.length : Int) ≤ g.journal
  sz : ∀ s ∈ D, s.size ≤ maxLen
  at_ : ∀ (j : Nat) r, A[j]? = some r → ∃ s, D[(jourV g slot (tail + j)).toNat]? = some s ∧ isB s key (tail + j) = true ∧ isV s key (tail + j) = r
  rest : (A.length : Int) < g.journal → ∃ s, D[(jourV g slot (tail + A.length)).toNat]? = some s ∧ isB s key (tail + A.length) = false

abbrev devG (a ca ka fa : Option Addr) (n c cn cc kn kc fn fc : Nat) (nx : Int) : Value := .agg #[.slice a n c, .slice ca cn cc, .slice ka kn kc, I nx, .slice fa fn fc]

def JourQ (tail : Int) (L : List Record) (w : World) (e : Ending) (w' : World) : Prop :=
  (∃ v, e = .returned (.tuple #[v, I tail, I 0]) ∧ w'.ownsRow w.heap.size 25 6 v L.length (L.flatMap Record.cells)) ∧ Below w.heap.size w w'

end Go.Proofs.Ytikdaehmaaogdaa

/- Going over a journal's rows: the program's. -/
set_option linter.unusedVariables false
set_option linter.unusedSimpArgs false
set_option maxRecDepth 100000
namespace Go.Proofs.Ytikdaehmaaogdaa
open Go Go.Eng Go.RowKit

abbrev jnC (g : Geo) (sa : Option Addr) (sn sc : Nat) (slot : Int) : List Value := [I g.nodes, I g.slots, I g.blocks, I g.per, I g.journal, I g.log, I g.lease, I g.wait, .slice sa sn sc, I slot]

def lsnAt (tail : Int) : Nat → Int
  | 0 => tail
  | n + 1 => tail + ((n + 1 : Nat) : Int)
theorem lsnAt_eq (tail : Int) : ∀ n : Nat, lsnAt tail n = tail + (n : Int)
  | 0 => by simp [lsnAt]
  | n + 1 => rfl

theorem srows_seq (V : Vw) (bt bj bk : Nat) (g : Geo) (ok : g.Ok) (slot key tail : Int) (D : List ByteArray) (A : List Record) (hJ : RowsOf g slot key tail D A) (sa : Option Addr) (sn sc : Nat)
    (hbt : V.get bt = some (.cells [I tail].toArray 3 (0, 0))) (hbj : V.get bj = some (.cells (jnC g sa sn sc slot).toArray 119 (0, 0))) (hbk : V.get bk = some (.cells [I key].toArray 3 (0, 0))) (hs : SlOf V encS 1 (.slice sa sn sc) D) (m : Nat) (w0 : World) (hV : V.le (vw w0)) :
    SeqR m Try.prog 95 #[Ptr bt, Ptr bj, Ptr bk] (fun r : Record => #[r.val]) V (fun xs => xs = A) (fun _ => True) A.length w0 := by
  intro l J Jx W hW hab hsub hJx hY h0
  have hVW : V.le (vw W) := hV.trans ⟨fun k o hk => by
    have := hW.block k (Array.getElem?_eq_some_iff.1 hk).1
    show W.heap[k]? = some o
    rw [this]; exact hk, hW.os, hW.tape, hW.output⟩
  have hJle : ∀ {R p A B}, J R p A → (vw A).le (vw B) → J R p B := fun {R p A B} h hle => hsub _ _ _ _ (hab _ _ _ _ none h (grown_of_le hle) (fun r e => by cases e)) (fun k hk => .inl hk)
  have hf := geo_facts hJ.geo
  have hfew := hJ.few
  have ht0 := hJ.tl0
  have ht1 := hJ.tl1
  have hhd := hJ.hd
  have hln := hJ.len
  have hwj : IntKind.i64.wrap (tail + g.journal) = tail + g.journal := wrapI (by omega) (by omega)
  show CallsIn _ _ _ _ #[.func (.yield l) #[] #[], Ptr bt, Ptr bj, Ptr bk] _ _
  refine enterR _ [.a (.v (.func (.yield l) #[] #[])), .a (.v (Ptr bt)), .a (.v (Ptr bj)), .a (.v (Ptr bk))] Try.func95 rfl rfl (mem0 E0 0 W) rfl rfl ?_
  refine r_seq ?_
  refine r_region (by intro _ _ w1 h1; first | exact h1 | (obtain ⟨h2, _⟩ := h1; cases h2; done) | (obtain ⟨⟨_, h2⟩, _⟩ := h1; cases h2; done) | (obtain ⟨_, h2, _⟩ := h1; cases h2; done) | (obtain ⟨_, _, h2, _⟩ := h1; cases h2; done) | (obtain ⟨_, _, _, h2, _⟩ := h1; cases h2; done) | (rcases h1 with ⟨⟨_, _, h2, _⟩ | ⟨_, h2⟩, _⟩ <;> cases h2; done) | (exact nor _ h1)) rfl ?_
  refine o_yield rfl rfl rfl (y_ldp tok rfl (fun hg => hVW.get _ _ hbt) rfl) ?_
  refine o_yield rfl rfl rfl (y_val tok rfl) ?_
  refine o_end [0, 1, 2, 3, 5] rfl ?_
  refine rq ?_
  refine x_then ?_
  refine r_block ?_
  refine r_loopV [0, 1, 2, 3] [] rfl rfl (σ := Nat × World) (fun y => [(5, .a (.v (I (lsnAt tail y.1))))]) (fun y => []) (fun y => vw y.2) (fun y => (y.1 ≤ A.length ∧ J (fun _ => False) (A.take y.1) y.2 ∧ V.le (vw y.2))) (fun y => A.length + 1 - y.1) ((0, W)) (⟨by omega, h0, hVW⟩) (by repeat (first | exact SubF.nil | refine SubF.cons rfl ?_)) (by repeat (first | exact SubO.nil | refine SubO.cons rfl ?_)) rfl (Vw.le.refl _) ?_
  rintro ⟨i, W1⟩ ⟨hi, hJ1, hVi⟩
  dsimp only at hi hJ1 hVi ⊢
  rw [lsnAt_eq]
  refine r_seq ?_
  refine r_seq ?_
  refine r_region (by intro _ _ w1 h1; first | exact h1 | (obtain ⟨h2, _⟩ := h1; cases h2; done) | (obtain ⟨⟨_, h2⟩, _⟩ := h1; cases h2; done) | (obtain ⟨_, h2, _⟩ := h1; cases h2; done) | (obtain ⟨_, _, h2, _⟩ := h1; cases h2; done) | (obtain ⟨_, _, _, h2, _⟩ := h1; cases h2; done) | (rcases h1 with ⟨⟨_, _, h2, _⟩ | ⟨_, h2⟩, _⟩ <;> cases h2; done) | (exact nor _ h1)) rfl ?_
  refine o_yield rfl rfl rfl (y_val tok rfl) ?_
  refine o_yield rfl rfl rfl (y_ldp tok rfl (fun hg => hVi.get _ _ hbt) rfl) ?_
  refine o_yield rfl rfl rfl (y_val tok rfl) ?_
  refine o_yield rfl rfl rfl (y_val tok rfl) ?_
  refine o_yield rfl rfl rfl (y_ldp tok rfl (fun hg => hVi.get _ _ hbj) rfl) ?_
  refine o_yield rfl rfl rfl (y_val tok rfl) ?_
  refine o_yield rfl rfl rfl (y_val tok rfl) ?_
  refine o_end [0, 1, 2, 3, 5, 15] rfl ?_
  refine rq ?_
  refine x_then ?_
  refine r_cond rfl (fun h => ?_) (fun h => ?_)
  ·
    simp only [Bool.and_eq_true, Bool.or_eq_true, Bool.not_eq_true', Bool.or_eq_false_iff, Bool.and_eq_false_iff, decide_eq_true_eq, decide_eq_false_iff_not, beq_iff_eq, bne_iff_ne, Bool.not_eq_false', beq_eq_false_iff_ne, bne_eq_false_iff_eq, ne_eq, Decidable.not_not, Int.not_lt, Int.not_le] at h
    rw [hwj] at h
    have hij : (i : Int) < g.journal := by omega
    clear h
    obtain ⟨b, R, s, h_s, hsz, hb, hR, hcase⟩ : ∃ (b : Bool) (R : Record) (s : ByteArray), D[(jourV g slot (tail + i)).toNat]? = some s ∧ s.size ≤ maxLen ∧ isB s key (tail + i) = b ∧ isV s key (tail + i) = R ∧ ((i < A.length ∧ b = true ∧ A[i]? = some R) ∨ (i = A.length ∧ b = false)) := by
      by_cases hlt : i < A.length
      · obtain ⟨r, hr⟩ : ∃ r, A[i]? = some r := ⟨_, List.getElem?_eq_getElem hlt⟩
        obtain ⟨s, hs1, hs2, hs3⟩ := hJ.at_ i r hr
        exact ⟨true, r, s, hs1, hJ.sz s (List.mem_of_getElem? hs1), hs2, hs3, .inl ⟨hlt, rfl, hr⟩⟩
      · have hiA : i = A.length := by omega
        obtain ⟨s, hs1, hs2⟩ := hJ.rest (by omega)
        rw [← hiA] at hs1 hs2
        exact ⟨false, _, s, hs1, hJ.sz s (List.mem_of_getElem? hs1), hs2, rfl, .inr ⟨hiA, rfl⟩⟩
    have hj0 := (rj_in hJ.geo hJ.hd (lsn := tail + i) (by omega)).1
    obtain ⟨q, hq⟩ : ∃ q : Nat, jourV g slot (tail + i) = q := ⟨(jourV g slot (tail + i)).toNat, by omega⟩
    rw [hq, Int.toNat_natCast] at h_s
    have hqlt := lt_of_at h_s
    have hjc := fun w => jour_c g ok slot (tail + i) w
    rw [hq] at hjc
    have hisc := fun w => recIs_c s key (tail + i) hsz w
    rw [hb, hR] at hisc
    have hs1 := hs.mono hVi
    refine r_skip ?_
    refine x_then ?_
    refine r_seq ?_
    refine r_block ?_
    refine r_seq ?_
    refine r_heldM rfl (σ := Unit) (fun _ => [(0, .a (.v (.func (.yield l) #[] #[]))), (1, .a (.v (Ptr bt))), (2, .a (.v (Ptr bj))), (3, .a (.v (Ptr bk))), (5, .a (.v (I (tail + (i : Int))))), (6, .a (.ptr 0 0)), (7, .a (.v (.bool b)))]) (fun _ => [(0, .lit (R.cells.map .v) 25)]) (1) (fun _ => vw W1) (fun _ => True) mixed ?_ ?_
    ·
      refine t_take 0 rfl (by kernel_rfl) rfl rfl rfl (y_val tok rfl) rfl ?_
      refine t_take 1 rfl (by kernel_rfl) rfl rfl rfl (y_ldp tok rfl (fun hg => hVi.get _ _ hbj) rfl) rfl ?_
      refine t_take 2 rfl (by kernel_rfl) rfl rfl rfl (y_val tok rfl) rfl ?_
      refine t_take 3 rfl (by kernel_rfl) rfl rfl rfl (y_ldp tok rfl (fun hg => hVi.get _ _ hbj) rfl) rfl ?_
      refine t_take 4 rfl (by kernel_rfl) rfl rfl rfl (y_val tok rfl) rfl ?_
      refine t_take 5 rfl (by kernel_rfl) rfl rfl rfl (y_ldp tok rfl (fun hg => hVi.get _ _ hbj) rfl) rfl ?_
      refine t_take 6 rfl (by kernel_rfl) rfl rfl rfl (y_val tok rfl) rfl ?_
      refine t_take 10 rfl (by kernel_rfl) rfl rfl rfl (y_ldp tok rfl (fun hg => hVi.get _ _ hbk) rfl) rfl ?_
      refine t_take 11 rfl (by kernel_rfl) rfl rfl rfl (y_val tok rfl) rfl ?_
      refine t_go ?_
      refine h_two 7 16 (by kernel_rfl) ?_ ?_
      ·
        refine h_call 7 (.a (.v (I (q : Int)))) rfl rfl rfl fnok97 rfl rfl rfl (fun hg E w1 hm => by exact hjc _) ?_
        refine h_two 8 16 (by kernel_rfl) ?_ ?_
        ·
          refine h_yield 8 rfl rfl rfl rfl (y_idxK tok q rfl (by simp) (fun hg => hs1.sl) (fun hg => by omega)) ?_
          refine h_two 9 16 (by kernel_rfl) ?_ ?_
          ·
            refine h_yield 9 rfl rfl rfl rfl (y_lel (enc := encS) (l := D) tok q 0 s rfl (fun hg => hs1) (fun hg => h_s) (by simp) rfl) ?_
            refine h_two 12 16 (by kernel_rfl) ?_ ?_
            ·
              refine h_call 12 (.a (.v (.tuple #[R.val, .bool b]))) rfl rfl rfl fnok96 rfl rfl rfl (fun hg E w1 hm => by exact hisc _) ?_
              refine h_two 13 16 (by kernel_rfl) ?_ ?_
              ·
                refine h_yield 13 rfl rfl rfl rfl (y_val tok rfl) ?_
                refine h_three 14 15 16 (by kernel_rfl) ?_ ?_ ?_
                ·
                  refine h_yield 14 rfl rfl rfl rfl (y_val tok rfl) ?_
                  refine h_two 15 16 (by kernel_rfl) ?_ ?_
                  ·
                    refine h_yield 15 rfl rfl rfl rfl (y_val tok rfl) ?_
                    refine h_one 16 (by kernel_rfl) ?_
                    refine h_new 16 tok rfl rfl rfl rfl rfl rfl ?_
                    refine h_one 17 (by kernel_rfl) ?_
                    refine h_store 17 tok rfl rfl rfl rfl (by first | exact ⟨trivial, trivial⟩ | (repeat' first | exact trivial | exact rfl | apply And.intro); done | simp [onesP, oneP, lk, Value.oneCell']) (.inr ⟨(by repeat (first | exact SubO.nil | refine SubO.cons rfl ?_)), rfl, (by first | exact Vw.le.refl _ | assumption)⟩) ?_
                    refine h_one 18 (by kernel_rfl) ?_
                    refine h_yield 18 rfl rfl rfl rfl (y_val tok rfl) ?_
                    refine h_done [0, 1, 2, 3, 5, 6, 7] (by kernel_rfl) rfl ?_
                    exact x_meet () trivial (by repeat (first | exact SubF.nil | refine SubF.cons rfl ?_)) (by repeat (first | exact SubO.nil | refine SubO.cons rfl ?_)) rfl (Vw.le.refl _)
                  ·
                    refine h_new 16 tok rfl rfl rfl rfl rfl rfl ?_
                    refine h_two 15 17 (by kernel_rfl) ?_ ?_
                    ·
                      refine h_yield 15 rfl rfl rfl rfl (y_val tok rfl) ?_
                      refine h_one 17 (by kernel_rfl) ?_
                      refine h_store 17 tok rfl rfl rfl rfl (by first | exact ⟨trivial, trivial⟩ | (repeat' first | exact trivial | exact rfl | apply And.intro); done | simp [onesP, oneP, lk, Value.oneCell']) (.inr ⟨(by repeat (first | exact SubO.nil | refine SubO.cons rfl ?_)), rfl, (by first | exact Vw.le.refl _ | assumption)⟩) ?_
                      refine h_one 18 (by kernel_rfl) ?_
                      refine h_yield 18 rfl rfl rfl rfl (y_val tok rfl) ?_
                      refine h_done [0, 1, 2, 3, 5, 6, 7] (by kernel_rfl) rfl ?_
                      exact x_meet () trivial (by repeat (first | exact SubF.nil | refine SubF.cons rfl ?_)) (by repeat (first | exact SubO.nil | refine SubO.cons rfl ?_)) rfl (Vw.le.refl _)
                    ·
                      refine h_store 17 tok rfl rfl rfl rfl (by first | exact ⟨trivial, trivial⟩ | (repeat' first | exact trivial | exact rfl | apply And.intro); done | simp [onesP, oneP, lk, Value.oneCell']) (.inr ⟨(by repeat (first | exact SubO.nil | refine SubO.cons rfl ?_)), rfl, (by first | exact Vw.le.refl _ | assumption)⟩) ?_
                      refine h_one 15 (by kernel_rfl) ?_
                      refine h_yield 15 rfl rfl rfl rfl (y_val tok rfl) ?_
                      refine h_one 18 (by kernel_rfl) ?_
                      refine h_yield 18 rfl rfl rfl rfl (y_val tok rfl) ?_
                      refine h_done [0, 1, 2, 3, 5, 6, 7] (by kernel_rfl) rfl ?_
                      exact x_meet () trivial (by repeat (first | exact SubF.nil | refine SubF.cons rfl ?_)) (by repeat (first | exact SubO.nil | refine SubO.cons rfl ?_)) rfl (Vw.le.refl _)
                ·
                  refine h_yield 15 rfl rfl rfl rfl (y_val tok rfl) ?_
                  refine h_two 14 16 (by kernel_rfl) ?_ ?_
                  ·
                    refine h_yield 14 rfl rfl rfl rfl (y_val tok rfl) ?_
                    refine h_one 16 (by kernel_rfl) ?_
                    refine h_new 16 tok rfl rfl rfl rfl rfl rfl ?_
                    refine h_one 17 (by kernel_rfl) ?_
                    refine h_store 17 tok rfl rfl rfl rfl (by first | exact ⟨trivial, trivial⟩ | (repeat' first | exact trivial | exact rfl | apply And.intro); done | simp [onesP, oneP, lk, Value.oneCell']) (.inr ⟨(by repeat (first | exact SubO.nil | refine SubO.cons rfl ?_)), rfl, (by first | exact Vw.le.refl _ | assumption)⟩) ?_
                    refine h_one 18 (by kernel_rfl) ?_
                    refine h_yield 18 rfl rfl rfl rfl (y_val tok rfl) ?_
                    refine h_done [0, 1, 2, 3, 5, 6, 7] (by kernel_rfl) rfl ?_
                    exact x_meet () trivial (by repeat (first | exact SubF.nil | refine SubF.cons rfl ?_)) (by repeat (first | exact SubO.nil | refine SubO.cons rfl ?_)) rfl (Vw.le.refl _)
                  ·
                    refine h_new 16 tok rfl rfl rfl rfl rfl rfl ?_
                    refine h_one 14 (by kernel_rfl) ?_
                    refine h_yield 14 rfl rfl rfl rfl (y_val tok rfl) ?_
                    refine h_one 17 (by kernel_rfl) ?_
                    refine h_store 17 tok rfl rfl rfl rfl (by first | exact ⟨trivial, trivial⟩ | (repeat' first | exact trivial | exact rfl | apply And.intro); done | simp [onesP, oneP, lk, Value.oneCell']) (.inr ⟨(by repeat (first | exact SubO.nil | refine SubO.cons rfl ?_)), rfl, (by first | exact Vw.le.refl _ | assumption)⟩) ?_
                    refine h_one 18 (by kernel_rfl) ?_
                    refine h_yield 18 rfl rfl rfl rfl (y_val tok rfl) ?_
                    refine h_done [0, 1, 2, 3, 5, 6, 7] (by kernel_rfl) rfl ?_
                    exact x_meet () trivial (by repeat (first | exact SubF.nil | refine SubF.cons rfl ?_)) (by repeat (first | exact SubO.nil | refine SubO.cons rfl ?_)) rfl (Vw.le.refl _)
                ·
                  refine h_new 16 tok rfl rfl rfl rfl rfl rfl ?_
                  refine h_two 14 15 (by kernel_rfl) ?_ ?_
                  ·
                    refine h_yield 14 rfl rfl rfl rfl (y_val tok rfl) ?_
                    refine h_two 15 17 (by kernel_rfl) ?_ ?_
                    ·
                      refine h_yield 15 rfl rfl rfl rfl (y_val tok rfl) ?_
                      refine h_one 17 (by kernel_rfl) ?_
                      refine h_store 17 tok rfl rfl rfl rfl (by first | exact ⟨trivial, trivial⟩ | (repeat' first | exact trivial | exact rfl | apply And.intro); done | simp [onesP, oneP, lk, Value.oneCell']) (.inr ⟨(by repeat (first | exact SubO.nil | refine SubO.cons rfl ?_)), rfl, (by first | exact Vw.le.refl _ | assumption)⟩) ?_
                      refine h_one 18 (by kernel_rfl) ?_
                      refine h_yield 18 rfl rfl rfl rfl (y_val tok rfl) ?_
                      refine h_done [0, 1, 2, 3, 5, 6, 7] (by kernel_rfl) rfl ?_
                      exact x_meet () trivial (by repeat (first | exact SubF.nil | refine SubF.cons rfl ?_)) (by repeat (first | exact SubO.nil | refine SubO.cons rfl ?_)) rfl (Vw.le.refl _)
                    ·
                      refine h_store 17 tok rfl rfl rfl rfl (by first | exact ⟨trivial, trivial⟩ | (repeat' first | exact trivial | exact rfl | apply And.intro); done | simp [onesP, oneP, lk, Value.oneCell']) (.inr ⟨(by repeat (first | exact SubO.nil | refine SubO.cons rfl ?_)), rfl, (by first | exact Vw.le.refl _ | assumption)⟩) ?_
                      refine h_one 15 (by kernel_rfl) ?_
                      refine h_yield 15 rfl rfl rfl rfl (y_val tok rfl) ?_
                      refine h_one 18 (by kernel_rfl) ?_
                      refine h_yield 18 rfl rfl rfl rfl (y_val tok rfl) ?_
                      refine h_done [0, 1, 2, 3, 5, 6, 7] (by kernel_rfl) rfl ?_
                      exact x_meet () trivial (by repeat (first | exact SubF.nil | refine SubF.cons rfl ?_)) (by repeat (first | exact SubO.nil | refine SubO.cons rfl ?_)) rfl (Vw.le.refl _)
                  ·
                    refine h_yield 15 rfl rfl rfl rfl (y_val tok rfl) ?_
                    refine h_one 14 (by kernel_rfl) ?_
                    refine h_yield 14 rfl rfl rfl rfl (y_val tok rfl) ?_
                    refine h_one 17 (by kernel_rfl) ?_
                    refine h_store 17 tok rfl rfl rfl rfl (by first | exact ⟨trivial, trivial⟩ | (repeat' first | exact trivial | exact rfl | apply And.intro); done | simp [onesP, oneP, lk, Value.oneCell']) (.inr ⟨(by repeat (first | exact SubO.nil | refine SubO.cons rfl ?_)), rfl, (by first | exact Vw.le.refl _ | assumption)⟩) ?_
                    refine h_one 18 (by kernel_rfl) ?_
                    refine h_yield 18 rfl rfl rfl rfl (y_val tok rfl) ?_
                    refine h_done [0, 1, 2, 3, 5, 6, 7] (by kernel_rfl) rfl ?_
                    exact x_meet () trivial (by repeat (first | exact SubF.nil | refine SubF.cons rfl ?_)) (by repeat (first | exact SubO.nil | refine SubO.cons rfl ?_)) rfl (Vw.le.refl _)
              ·
                refine h_new 16 tok rfl rfl rfl rfl rfl rfl ?_
                refine h_one 13 (by kernel_rfl) ?_
                refine h_yield 13 rfl rfl rfl rfl (y_val tok rfl) ?_
                refine h_two 14 15 (by kernel_rfl) ?_ ?_
                ·
                  refine h_yield 14 rfl rfl rfl rfl (y_val tok rfl) ?_
                  refine h_two 15 17 (by kernel_rfl) ?_ ?_
                  ·
                    refine h_yield 15 rfl rfl rfl rfl (y_val tok rfl) ?_
                    refine h_one 17 (by kernel_rfl) ?_
                    refine h_store 17 tok rfl rfl rfl rfl (by first | exact ⟨trivial, trivial⟩ | (repeat' first | exact trivial | exact rfl | apply And.intro); done | simp [onesP, oneP, lk, Value.oneCell']) (.inr ⟨(by repeat (first | exact SubO.nil | refine SubO.cons rfl ?_)), rfl, (by first | exact Vw.le.refl _ | assumption)⟩) ?_
                    refine h_one 18 (by kernel_rfl) ?_
                    refine h_yield 18 rfl rfl rfl rfl (y_val tok rfl) ?_
                    refine h_done [0, 1, 2, 3, 5, 6, 7] (by kernel_rfl) rfl ?_
                    exact x_meet () trivial (by repeat (first | exact SubF.nil | refine SubF.cons rfl ?_)) (by repeat (first | exact SubO.nil | refine SubO.cons rfl ?_)) rfl (Vw.le.refl _)
                  ·
                    refine h_store 17 tok rfl rfl rfl rfl (by first | exact ⟨trivial, trivial⟩ | (repeat' first | exact trivial | exact rfl | apply And.intro); done | simp [onesP, oneP, lk, Value.oneCell']) (.inr ⟨(by repeat (first | exact SubO.nil | refine SubO.cons rfl ?_)), rfl, (by first | exact Vw.le.refl _ | assumption)⟩) ?_
                    refine h_one 15 (by kernel_rfl) ?_
                    refine h_yield 15 rfl rfl rfl rfl (y_val tok rfl) ?_
                    refine h_one 18 (by kernel_rfl) ?_
                    refine h_yield 18 rfl rfl rfl rfl (y_val tok rfl) ?_
                    refine h_done [0, 1, 2, 3, 5, 6, 7] (by kernel_rfl) rfl ?_
                    exact x_meet () trivial (by repeat (first | exact SubF.nil | refine SubF.cons rfl ?_)) (by repeat (first | exact SubO.nil | refine SubO.cons rfl ?_)) rfl (Vw.le.refl _)
                ·
                  refine h_yield 15 rfl rfl rfl rfl (y_val tok rfl) ?_
                  refine h_one 14 (by kernel_rfl) ?_
                  refine h_yield 14 rfl rfl rfl rfl (y_val tok rfl) ?_
                  refine h_one 17 (by kernel_rfl) ?_
                  refine h_store 17 tok rfl rfl rfl rfl (by first | exact ⟨trivial, trivial⟩ | (repeat' first | exact trivial | exact rfl | apply And.intro); done | simp [onesP, oneP, lk, Value.oneCell']) (.inr ⟨(by repeat (first | exact SubO.nil | refine SubO.cons rfl ?_)), rfl, (by first | exact Vw.le.refl _ | assumption)⟩) ?_
                  refine h_one 18 (by kernel_rfl) ?_
                  refine h_yield 18 rfl rfl rfl rfl (y_val tok rfl) ?_
                  refine h_done [0, 1, 2, 3, 5, 6, 7] (by kernel_rfl) rfl ?_
                  exact x_meet () trivial (by repeat (first | exact SubF.nil | refine SubF.cons rfl ?_)) (by repeat (first | exact SubO.nil | refine SubO.cons rfl ?_)) rfl (Vw.le.refl _)
            ·
              refine h_new 16 tok rfl rfl rfl rfl rfl rfl ?_
              refine h_one 12 (by kernel_rfl) ?_
              refine h_call 12 (.a (.v (.tuple #[R.val, .bool b]))) rfl rfl rfl fnok96 rfl rfl rfl (fun hg E w1 hm => by exact hisc _) ?_
              refine h_one 13 (by kernel_rfl) ?_
              refine h_yield 13 rfl rfl rfl rfl (y_val tok rfl) ?_
              refine h_two 14 15 (by kernel_rfl) ?_ ?_
              ·
                refine h_yield 14 rfl rfl rfl rfl (y_val tok rfl) ?_
                refine h_two 15 17 (by kernel_rfl) ?_ ?_
                ·
                  refine h_yield 15 rfl rfl rfl rfl (y_val tok rfl) ?_
                  refine h_one 17 (by kernel_rfl) ?_
                  refine h_store 17 tok rfl rfl rfl rfl (by first | exact ⟨trivial, trivial⟩ | (repeat' first | exact trivial | exact rfl | apply And.intro); done | simp [onesP, oneP, lk, Value.oneCell']) (.inr ⟨(by repeat (first | exact SubO.nil | refine SubO.cons rfl ?_)), rfl, (by first | exact Vw.le.refl _ | assumption)⟩) ?_
                  refine h_one 18 (by kernel_rfl) ?_
                  refine h_yield 18 rfl rfl rfl rfl (y_val tok rfl) ?_
                  refine h_done [0, 1, 2, 3, 5, 6, 7] (by kernel_rfl) rfl ?_
                  exact x_meet () trivial (by repeat (first | exact SubF.nil | refine SubF.cons rfl ?_)) (by repeat (first | exact SubO.nil | refine SubO.cons rfl ?_)) rfl (Vw.le.refl _)
                ·
                  refine h_store 17 tok rfl rfl rfl rfl (by first | exact ⟨trivial, trivial⟩ | (repeat' first | exact trivial | exact rfl | apply And.intro); done | simp [onesP, oneP, lk, Value.oneCell']) (.inr ⟨(by repeat (first | exact SubO.nil | refine SubO.cons rfl ?_)), rfl, (by first | exact Vw.le.refl _ | assumption)⟩) ?_
                  refine h_one 15 (by kernel_rfl) ?_
                  refine h_yield 15 rfl rfl rfl rfl (y_val tok rfl) ?_
                  refine h_one 18 (by kernel_rfl) ?_
                  refine h_yield 18 rfl rfl rfl rfl (y_val tok rfl) ?_
                  refine h_done [0, 1, 2, 3, 5, 6, 7] (by kernel_rfl) rfl ?_
                  exact x_meet () trivial (by repeat (first | exact SubF.nil | refine SubF.cons rfl ?_)) (by repeat (first | exact SubO.nil | refine SubO.cons rfl ?_)) rfl (Vw.le.refl _)
              ·
                refine h_yield 15 rfl rfl rfl rfl (y_val tok rfl) ?_
                refine h_one 14 (by kernel_rfl) ?_
                refine h_yield 14 rfl rfl rfl rfl (y_val tok rfl) ?_
                refine h_one 17 (by kernel_rfl) ?_
                refine h_store 17 tok rfl rfl rfl rfl (by first | exact ⟨trivial, trivial⟩ | (repeat' first | exact trivial | exact rfl | apply And.intro); done | simp [onesP, oneP, lk, Value.oneCell']) (.inr ⟨(by repeat (first | exact SubO.nil | refine SubO.cons rfl ?_)), rfl, (by first | exact Vw.le.refl _ | assumption)⟩) ?_
                refine h_one 18 (by kernel_rfl) ?_
                refine h_yield 18 rfl rfl rfl rfl (y_val tok rfl) ?_
                refine h_done [0, 1, 2, 3, 5, 6, 7] (by kernel_rfl) rfl ?_
                exact x_meet () trivial (by repeat (first | exact SubF.nil | refine SubF.cons rfl ?_)) (by repeat (first | exact SubO.nil | refine SubO.cons rfl ?_)) rfl (Vw.le.refl _)
          ·
            refine h_new 16 tok rfl rfl rfl rfl rfl rfl ?_
            refine h_one 9 (by kernel_rfl) ?_
            refine h_yield 9 rfl rfl rfl rfl (y_lel (enc := encS) (l := D) tok q 0 s rfl (fun hg => hs1) (fun hg => h_s) (by simp) rfl) ?_
            refine h_one 12 (by kernel_rfl) ?_
            refine h_call 12 (.a (.v (.tuple #[R.val, .bool b]))) rfl rfl rfl fnok96 rfl rfl rfl (fun hg E w1 hm => by exact hisc _) ?_
            refine h_one 13 (by kernel_rfl) ?_
            refine h_yield 13 rfl rfl rfl rfl (y_val tok rfl) ?_
            refine h_two 14 15 (by kernel_rfl) ?_ ?_
            ·
              refine h_yield 14 rfl rfl rfl rfl (y_val tok rfl) ?_
              refine h_two 15 17 (by kernel_rfl) ?_ ?_
              ·
                refine h_yield 15 rfl rfl rfl rfl (y_val tok rfl) ?_
                refine h_one 17 (by kernel_rfl) ?_
                refine h_store 17 tok rfl rfl rfl rfl (by first | exact ⟨trivial, trivial⟩ | (repeat' first | exact trivial | exact rfl | apply And.intro); done | simp [onesP, oneP, lk, Value.oneCell']) (.inr ⟨(by repeat (first | exact SubO.nil | refine SubO.cons rfl ?_)), rfl, (by first | exact Vw.le.refl _ | assumption)⟩) ?_
                refine h_one 18 (by kernel_rfl) ?_
                refine h_yield 18 rfl rfl rfl rfl (y_val tok rfl) ?_
                refine h_done [0, 1, 2, 3, 5, 6, 7] (by kernel_rfl) rfl ?_
                exact x_meet () trivial (by repeat (first | exact SubF.nil | refine SubF.cons rfl ?_)) (by repeat (first | exact SubO.nil | refine SubO.cons rfl ?_)) rfl (Vw.le.refl _)
              ·
                refine h_store 17 tok rfl rfl rfl rfl (by first | exact ⟨trivial, trivial⟩ | (repeat' first | exact trivial | exact rfl | apply And.intro); done | simp [onesP, oneP, lk, Value.oneCell']) (.inr ⟨(by repeat (first | exact SubO.nil | refine SubO.cons rfl ?_)), rfl, (by first | exact Vw.le.refl _ | assumption)⟩) ?_
                refine h_one 15 (by kernel_rfl) ?_
                refine h_yield 15 rfl rfl rfl rfl (y_val tok rfl) ?_
                refine h_one 18 (by kernel_rfl) ?_
                refine h_yield 18 rfl rfl rfl rfl (y_val tok rfl) ?_
                refine h_done [0, 1, 2, 3, 5, 6, 7] (by kernel_rfl) rfl ?_
                exact x_meet () trivial (by repeat (first | exact SubF.nil | refine SubF.cons rfl ?_)) (by repeat (first | exact SubO.nil | refine SubO.cons rfl ?_)) rfl (Vw.le.refl _)
            ·
              refine h_yield 15 rfl rfl rfl rfl (y_val tok rfl) ?_
              refine h_one 14 (by kernel_rfl) ?_
              refine h_yield 14 rfl rfl rfl rfl (y_val tok rfl) ?_
              refine h_one 17 (by kernel_rfl) ?_
              refine h_store 17 tok rfl rfl rfl rfl (by first | exact ⟨trivial, trivial⟩ | (repeat' first | exact trivial | exact rfl | apply And.intro); done | simp [onesP, oneP, lk, Value.oneCell']) (.inr ⟨(by repeat (first | exact SubO.nil | refine SubO.cons rfl ?_)), rfl, (by first | exact Vw.le.refl _ | assumption)⟩) ?_
              refine h_one 18 (by kernel_rfl) ?_
              refine h_yield 18 rfl rfl rfl rfl (y_val tok rfl) ?_
              refine h_done [0, 1, 2, 3, 5, 6, 7] (by kernel_rfl) rfl ?_
              exact x_meet () trivial (by repeat (first | exact SubF.nil | refine SubF.cons rfl ?_)) (by repeat (first | exact SubO.nil | refine SubO.cons rfl ?_)) rfl (Vw.le.refl _)
        ·
          refine h_new 16 tok rfl rfl rfl rfl rfl rfl ?_
          refine h_one 8 (by kernel_rfl) ?_
          refine h_yield 8 rfl rfl rfl rfl (y_idxK tok q rfl (by simp) (fun hg => hs1.sl) (fun hg => by omega)) ?_
          refine h_one 9 (by kernel_rfl) ?_
          refine h_yield 9 rfl rfl rfl rfl (y_lel (enc := encS) (l := D) tok q 0 s rfl (fun hg => hs1) (fun hg => h_s) (by simp) rfl) ?_
          refine h_one 12 (by kernel_rfl) ?_
          refine h_call 12 (.a (.v (.tuple #[R.val, .bool b]))) rfl rfl rfl fnok96 rfl rfl rfl (fun hg E w1 hm => by exact hisc _) ?_
          refine h_one 13 (by kernel_rfl) ?_
          refine h_yield 13 rfl rfl rfl rfl (y_val tok rfl) ?_
          refine h_two 14 15 (by kernel_rfl) ?_ ?_
          ·
            refine h_yield 14 rfl rfl rfl rfl (y_val tok rfl) ?_
            refine h_two 15 17 (by kernel_rfl) ?_ ?_
            ·
              refine h_yield 15 rfl rfl rfl rfl (y_val tok rfl) ?_
              refine h_one 17 (by kernel_rfl) ?_
              refine h_store 17 tok rfl rfl rfl rfl (by first | exact ⟨trivial, trivial⟩ | (repeat' first | exact trivial | exact rfl | apply And.intro); done | simp [onesP, oneP, lk, Value.oneCell']) (.inr ⟨(by repeat (first | exact SubO.nil | refine SubO.cons rfl ?_)), rfl, (by first | exact Vw.le.refl _ | assumption)⟩) ?_
              refine h_one 18 (by kernel_rfl) ?_
              refine h_yield 18 rfl rfl rfl rfl (y_val tok rfl) ?_
              refine h_done [0, 1, 2, 3, 5, 6, 7] (by kernel_rfl) rfl ?_
              exact x_meet () trivial (by repeat (first | exact SubF.nil | refine SubF.cons rfl ?_)) (by repeat (first | exact SubO.nil | refine SubO.cons rfl ?_)) rfl (Vw.le.refl _)
            ·
              refine h_store 17 tok rfl rfl rfl rfl (by first | exact ⟨trivial, trivial⟩ | (repeat' first | exact trivial | exact rfl | apply And.intro); done | simp [onesP, oneP, lk, Value.oneCell']) (.inr ⟨(by repeat (first | exact SubO.nil | refine SubO.cons rfl ?_)), rfl, (by first | exact Vw.le.refl _ | assumption)⟩) ?_
              refine h_one 15 (by kernel_rfl) ?_
              refine h_yield 15 rfl rfl rfl rfl (y_val tok rfl) ?_
              refine h_one 18 (by kernel_rfl) ?_
              refine h_yield 18 rfl rfl rfl rfl (y_val tok rfl) ?_
              refine h_done [0, 1, 2, 3, 5, 6, 7] (by kernel_rfl) rfl ?_
              exact x_meet () trivial (by repeat (first | exact SubF.nil | refine SubF.cons rfl ?_)) (by repeat (first | exact SubO.nil | refine SubO.cons rfl ?_)) rfl (Vw.le.refl _)
          ·
            refine h_yield 15 rfl rfl rfl rfl (y_val tok rfl) ?_
            refine h_one 14 (by kernel_rfl) ?_
            refine h_yield 14 rfl rfl rfl rfl (y_val tok rfl) ?_
            refine h_one 17 (by kernel_rfl) ?_
            refine h_store 17 tok rfl rfl rfl rfl (by first | exact ⟨trivial, trivial⟩ | (repeat' first | exact trivial | exact rfl | apply And.intro); done | simp [onesP, oneP, lk, Value.oneCell']) (.inr ⟨(by repeat (first | exact SubO.nil | refine SubO.cons rfl ?_)), rfl, (by first | exact Vw.le.refl _ | assumption)⟩) ?_
            refine h_one 18 (by kernel_rfl) ?_
            refine h_yield 18 rfl rfl rfl rfl (y_val tok rfl) ?_
            refine h_done [0, 1, 2, 3, 5, 6, 7] (by kernel_rfl) rfl ?_
            exact x_meet () trivial (by repeat (first | exact SubF.nil | refine SubF.cons rfl ?_)) (by repeat (first | exact SubO.nil | refine SubO.cons rfl ?_)) rfl (Vw.le.refl _)
      ·
        refine h_new 16 tok rfl rfl rfl rfl rfl rfl ?_
        refine h_one 7 (by kernel_rfl) ?_
        refine h_call 7 (.a (.v (I (q : Int)))) rfl rfl rfl fnok97 rfl rfl rfl (fun hg E w1 hm => by exact hjc _) ?_
        refine h_one 8 (by kernel_rfl) ?_
        refine h_yield 8 rfl rfl rfl rfl (y_idxK tok q rfl (by simp) (fun hg => hs1.sl) (fun hg => by omega)) ?_
        refine h_one 9 (by kernel_rfl) ?_
        refine h_yield 9 rfl rfl rfl rfl (y_lel (enc := encS) (l := D) tok q 0 s rfl (fun hg => hs1) (fun hg => h_s) (by simp) rfl) ?_
        refine h_one 12 (by kernel_rfl) ?_
        refine h_call 12 (.a (.v (.tuple #[R.val, .bool b]))) rfl rfl rfl fnok96 rfl rfl rfl (fun hg E w1 hm => by exact hisc _) ?_
        refine h_one 13 (by kernel_rfl) ?_
        refine h_yield 13 rfl rfl rfl rfl (y_val tok rfl) ?_
        refine h_two 14 15 (by kernel_rfl) ?_ ?_
        ·
          refine h_yield 14 rfl rfl rfl rfl (y_val tok rfl) ?_
          refine h_two 15 17 (by kernel_rfl) ?_ ?_
          ·
            refine h_yield 15 rfl rfl rfl rfl (y_val tok rfl) ?_
            refine h_one 17 (by kernel_rfl) ?_
            refine h_store 17 tok rfl rfl rfl rfl (by first | exact ⟨trivial, trivial⟩ | (repeat' first | exact trivial | exact rfl | apply And.intro); done | simp [onesP, oneP, lk, Value.oneCell']) (.inr ⟨(by repeat (first | exact SubO.nil | refine SubO.cons rfl ?_)), rfl, (by first | exact Vw.le.refl _ | assumption)⟩) ?_
            refine h_one 18 (by kernel_rfl) ?_
            refine h_yield 18 rfl rfl rfl rfl (y_val tok rfl) ?_
            refine h_done [0, 1, 2, 3, 5, 6, 7] (by kernel_rfl) rfl ?_
            exact x_meet () trivial (by repeat (first | exact SubF.nil | refine SubF.cons rfl ?_)) (by repeat (first | exact SubO.nil | refine SubO.cons rfl ?_)) rfl (Vw.le.refl _)
          ·
            refine h_store 17 tok rfl rfl rfl rfl (by first | exact ⟨trivial, trivial⟩ | (repeat' first | exact trivial | exact rfl | apply And.intro); done | simp [onesP, oneP, lk, Value.oneCell']) (.inr ⟨(by repeat (first | exact SubO.nil | refine SubO.cons rfl ?_)), rfl, (by first | exact Vw.le.refl _ | assumption)⟩) ?_
            refine h_one 15 (by kernel_rfl) ?_
            refine h_yield 15 rfl rfl rfl rfl (y_val tok rfl) ?_
            refine h_one 18 (by kernel_rfl) ?_
            refine h_yield 18 rfl rfl rfl rfl (y_val tok rfl) ?_
            refine h_done [0, 1, 2, 3, 5, 6, 7] (by kernel_rfl) rfl ?_
            exact x_meet () trivial (by repeat (first | exact SubF.nil | refine SubF.cons rfl ?_)) (by repeat (first | exact SubO.nil | refine SubO.cons rfl ?_)) rfl (Vw.le.refl _)
        ·
          refine h_yield 15 rfl rfl rfl rfl (y_val tok rfl) ?_
          refine h_one 14 (by kernel_rfl) ?_
          refine h_yield 14 rfl rfl rfl rfl (y_val tok rfl) ?_
          refine h_one 17 (by kernel_rfl) ?_
          refine h_store 17 tok rfl rfl rfl rfl (by first | exact ⟨trivial, trivial⟩ | (repeat' first | exact trivial | exact rfl | apply And.intro); done | simp [onesP, oneP, lk, Value.oneCell']) (.inr ⟨(by repeat (first | exact SubO.nil | refine SubO.cons rfl ?_)), rfl, (by first | exact Vw.le.refl _ | assumption)⟩) ?_
          refine h_one 18 (by kernel_rfl) ?_
          refine h_yield 18 rfl rfl rfl rfl (y_val tok rfl) ?_
          refine h_done [0, 1, 2, 3, 5, 6, 7] (by kernel_rfl) rfl ?_
          exact x_meet () trivial (by repeat (first | exact SubF.nil | refine SubF.cons rfl ?_)) (by repeat (first | exact SubO.nil | refine SubO.cons rfl ?_)) rfl (Vw.le.refl _)
    rintro ⟨⟩ -
    refine x_then ?_
    refine r_seq ?_
    rcases hcase with ⟨hlt, hbt2, hRA⟩ | ⟨hiA, hbf⟩
    · subst hbt2
      have htk : A.take (i + 1) = A.take i ++ [R] := rp_take hRA
      have hround : ∀ w, (vw W1).le (vw w) → YieldAt (Rd none) (m - 1) Try.prog l #[R.val] w fun e w' => ∃ b V', e = .returned (.bool b) ∧ V'.le (vw w') ∧ ∃ W', V' = vw W' ∧ (b = true → J (fun _ => False) (A.take (i + 1)) W' ∧ V.le (vw W')) ∧ (b = false → Jx (A.take (i + 1)) W') := by
        intro w hle
        refine yield_mono (hY _ _ R w (hJle hJ1 hle) (by rw [List.length_take]; omega)) ?_
        intro e w' hq2
        rw [htk]
        rcases hq2 with ⟨rfl, hj, hkv, _⟩ | ⟨rfl, hj⟩
        · exact ⟨true, vw w', rfl, Vw.le.refl _, w', rfl, fun _ => ⟨hj, hkv (hVi.trans hle)⟩, fun hf => (by cases hf)⟩
        · exact ⟨false, vw w', rfl, Vw.le.refl _, w', rfl, fun hf => (by cases hf), fun _ => hj⟩
      refine r_regionY 5 (by intro _ _ w1 h1; first | exact h1 | (obtain ⟨h2, _⟩ := h1; cases h2; done) | (obtain ⟨⟨_, h2⟩, _⟩ := h1; cases h2; done) | (obtain ⟨_, h2, _⟩ := h1; cases h2; done) | (obtain ⟨_, _, h2, _⟩ := h1; cases h2; done) | (obtain ⟨_, _, _, h2, _⟩ := h1; cases h2; done) | (rcases h1 with ⟨⟨_, _, h2, _⟩ | ⟨_, h2⟩, _⟩ <;> cases h2; done) | (exact nor _ h1)) rfl rfl ?_
      refine o_yield rfl rfl rfl (y_val tok rfl) ?_
      refine o_yield rfl rfl rfl (y_val tok rfl) ?_
      refine o_yield rfl rfl rfl (y_val tok rfl) ?_
      refine o_yield rfl rfl rfl (y_val tok rfl) ?_
      refine o_yield rfl rfl rfl (y_val tok rfl) ?_
      refine o_endC ?_
      refine ry _ ?_
      refine k_noO ?_
      refine r_yieldG (fun b V' => ∃ W', V' = vw W' ∧ (b = true → J (fun _ => False) (A.take (i + 1)) W' ∧ V.le (vw W')) ∧ (b = false → Jx (A.take (i + 1)) W')) rfl (rfl) rfl rfl rfl (fun E w hle => by exact hround w hle) ?_
      rintro q2 V' ⟨W', rfl, hq1, hq2⟩
      refine r_rest (by intro _ _ w1 h1; first | exact h1 | (obtain ⟨h2, _⟩ := h1; cases h2; done) | (obtain ⟨⟨_, h2⟩, _⟩ := h1; cases h2; done) | (obtain ⟨_, h2, _⟩ := h1; cases h2; done) | (obtain ⟨_, _, h2, _⟩ := h1; cases h2; done) | (obtain ⟨_, _, _, h2, _⟩ := h1; cases h2; done) | (rcases h1 with ⟨⟨_, _, h2, _⟩ | ⟨_, h2⟩, _⟩ <;> cases h2; done) | (exact nor _ h1)) rfl ?_
      refine o_yield rfl rfl rfl (y_val tok rfl) ?_
      refine o_yield rfl rfl rfl (y_val tok rfl) ?_
      refine o_end [0, 1, 2, 3, 5, 41] rfl ?_
      refine rq ?_
      refine x_then ?_
      refine r_cond rfl (fun h => ?_) (fun h => ?_)
      ·
        refine r_ret ?_
        refine x_block_ret ?_
        refine x_then_ret ?_
        refine x_then_ret ?_
        refine x_block_ret ?_
        refine rb_ret tok rfl ?_
        cases q2 with
        | true => exact absurd h (by simp)
        | false =>
          intro E w' hm _
          exact ⟨⟨_, rfl⟩, .inr ⟨_, trivial, abides_le hJx (hq2 rfl) hm.leV⟩⟩
      ·
        refine r_skip ?_
        refine x_block ?_
        refine x_then ?_
        refine r_region (by intro _ _ w1 h1; first | exact h1 | (obtain ⟨h2, _⟩ := h1; cases h2; done) | (obtain ⟨⟨_, h2⟩, _⟩ := h1; cases h2; done) | (obtain ⟨_, h2, _⟩ := h1; cases h2; done) | (obtain ⟨_, _, h2, _⟩ := h1; cases h2; done) | (obtain ⟨_, _, _, h2, _⟩ := h1; cases h2; done) | (rcases h1 with ⟨⟨_, _, h2, _⟩ | ⟨_, h2⟩, _⟩ <;> cases h2; done) | (exact nor _ h1)) rfl ?_
        refine o_yield rfl rfl rfl (y_val tok rfl) ?_
        refine o_yield rfl rfl rfl (y_val tok rfl) ?_
        refine o_yield rfl rfl rfl (y_val tok rfl) ?_
        refine o_end [0, 1, 2, 3, 5] rfl ?_
        refine rq ?_
        refine x_then ?_
        cases q2 with
        | false => exact absurd h (by simp)
        | true =>
          obtain ⟨hj, hv⟩ := hq1 rfl
          rw [show IntKind.i64.wrap (tail + (i : Int) + 1) = lsnAt tail (i + 1) from by rw [lsnAt_eq]; exact (wrapI (by omega) (by omega)).trans (by omega)]
          refine rx_round ((i + 1, W')) (⟨by dsimp only; omega, hj, hv⟩) (by first | omega | (dsimp only; omega)) (by repeat (first | exact SubF.nil | refine SubF.cons rfl ?_)) (by repeat (first | exact SubO.nil | refine SubO.cons rfl ?_)) rfl (Vw.le.refl _)
    · subst hbf
      refine r_region (by intro _ _ w1 h1; first | exact h1 | (obtain ⟨h2, _⟩ := h1; cases h2; done) | (obtain ⟨⟨_, h2⟩, _⟩ := h1; cases h2; done) | (obtain ⟨_, h2, _⟩ := h1; cases h2; done) | (obtain ⟨_, _, h2, _⟩ := h1; cases h2; done) | (obtain ⟨_, _, _, h2, _⟩ := h1; cases h2; done) | (rcases h1 with ⟨⟨_, _, h2, _⟩ | ⟨_, h2⟩, _⟩ <;> cases h2; done) | (exact nor _ h1)) rfl ?_
      refine o_yield rfl rfl rfl (y_val tok rfl) ?_
      refine o_yield rfl rfl rfl (y_val tok rfl) ?_
      refine o_yield rfl rfl rfl (y_val tok rfl) ?_
      refine o_yield rfl rfl rfl (y_val tok rfl) ?_
      refine o_yield rfl rfl rfl (y_val tok rfl) ?_
      refine o_callF (.a (.v (.bool true))) rfl rfl rfl rfl rfl (fun hg E w1 hm => absurd hg (by simp)) ?_
      refine o_yield rfl rfl rfl (y_val tok rfl) ?_
      refine o_yield rfl rfl rfl (y_val tok rfl) ?_
      refine o_end [0, 1, 2, 3, 5, 41] rfl ?_
      refine rq ?_
      refine x_then ?_
      refine r_cond rfl (fun h => ?_) (fun h => ?_)
      ·
        refine r_ret ?_
        refine x_block_ret ?_
        refine x_then_ret ?_
        refine x_then_ret ?_
        refine x_block_ret ?_
        refine rb_ret tok rfl ?_
        intro E w' hm _
        refine ⟨⟨_, rfl⟩, .inl ⟨A, rfl, fun _ => False, hJle (R := fun _ => False) (p := A) (A := W1) ?_ hm.leV⟩⟩
        rw [hiA, List.take_of_length_le (Nat.le_refl _)] at hJ1
        exact hJ1
      ·
        exact absurd h (by simp)
  ·
    simp only [Bool.and_eq_true, Bool.or_eq_true, Bool.not_eq_true', Bool.or_eq_false_iff, Bool.and_eq_false_iff, decide_eq_true_eq, decide_eq_false_iff_not, beq_iff_eq, bne_iff_ne, Bool.not_eq_false', beq_eq_false_iff_ne, bne_eq_false_iff_eq, ne_eq, Decidable.not_not, Int.not_lt, Int.not_le] at h
    refine r_exit ?_
    refine x_then_exit ?_
    refine x_then_exit ?_
    refine x_block_hit ?_
    refine rb_end tok rfl ?_
    rw [hwj] at h
    have his : i = A.length := by omega
    intro E w' hm _
    refine ⟨⟨_, rfl⟩, .inl ⟨A, rfl, fun _ => False, hJle (R := fun _ => False) (p := A) (A := W1) ?_ hm.leV⟩⟩
    rw [his, List.take_of_length_le (Nat.le_refl _)] at hJ1
    exact hJ1
end Go.Proofs.Ytikdaehmaaogdaa

/- A journal's rows, tail, what is whole: the program's. -/
set_option linter.unusedVariables false
set_option linter.unusedSimpArgs false
set_option maxRecDepth 100000
namespace Go.Proofs.Ytikdaehmaaogdaa
open Go Go.Eng Go.RowKit

theorem fresh_lit {E : Env} {O : Go.Eng.Own} {nl : Nat} {w w' : World} (hm : Mem E O nl (vw w) w') {l e : Nat} {cs : List Go.Eng.A} (hl : lk O l = some (.lit cs e)) : w.heap.size ≤ E.ρ l := by
  rcases Nat.lt_or_ge (E.ρ l) w.heap.size with h | h
  · have := hm.off l _ (E.ρ l) hl rfl
    rw [show (vw w).get (E.ρ l) = w.heap[E.ρ l]? from rfl, Array.getElem?_eq_getElem h] at this
    cases this
  · exact h

abbrev jnV (g : Geo) (sa : Option Addr) (sn sc : Nat) (slot : Int) : Value := .agg #[I g.nodes, I g.slots, I g.blocks, I g.per, I g.journal, I g.log, I g.lease, I g.wait, .slice sa sn sc, I slot]

theorem srowsM_c (V : Vw) (g : Geo) (sa : Option Addr) (sn sc : Nat) (slot key tail : Int) (w : World) (hV : V.le (vw w)) : Calls Try.prog 58 #[jnV g sa sn sc slot, I key, I tail] w fun e w' => ∃ v V', e = .returned v ∧ Below w.heap.size w w' ∧ Vext w.heap.size V V' w' ∧
    ∃ bt bj bk, v = .func (.func 95) #[] #[Ptr bt, Ptr bj, Ptr bk] ∧ V'.get bt = some (.cells [I tail].toArray 3 (0, 0)) ∧ V'.get bj = some (.cells (jnC g sa sn sc slot).toArray 119 (0, 0)) ∧ V'.get bk = some (.cells [I key].toArray 3 (0, 0)) := by
  refine enter (E := E0) (O := []) (nl := 0) (V := vw w) [.a (.v (jnV g sa sn sc slot)), .a (.v (I key)), .a (.v (I tail))] Try.func58 rfl rfl (mem0 E0 0 w) rfl rfl ?_
  refine c_seq ?_
  refine c_region ?_
  refine o_new tok rfl rfl rfl rfl ?_
  refine o_new tok rfl rfl rfl rfl ?_
  refine o_new tok rfl rfl rfl rfl ?_
  refine o_yield rfl rfl rfl (y_val tok rfl) ?_
  refine o_end [3, 4, 5] rfl ?_
  refine x_then ?_
  refine c_seq ?_
  refine c_region ?_
  refine o_yield rfl rfl rfl (y_val tok rfl) ?_
  refine o_yield rfl rfl rfl (y_val tok rfl) ?_
  refine o_end [6] rfl ?_
  refine x_then ?_
  refine c_ret ?_
  refine b_ret tok rfl ?_
  intro E w' hm _
  have hb := hm.below (Vw.le.refl _)
  have h0 := hm.lit 0 _ _ rfl
  have h1 := hm.lit 1 _ _ rfl
  have h2 := hm.lit 2 _ _ rfl
  have z0 := fresh_lit hm (l := 0) rfl
  have z1 := fresh_lit hm (l := 1) rfl
  have z2 := fresh_lit hm (l := 2) rfl
  refine ⟨_, ⟨fun k => if w.heap.size ≤ k then w'.heap[k]? else V.get k, V.os, V.tape, V.output⟩, rfl, hb, ⟨⟨fun k o hk => ?_, rfl, rfl, rfl⟩, fun k o hk => ?_⟩, E.ρ 2, E.ρ 0, E.ρ 1, rfl, ?_, ?_, ?_⟩
  · have hlt : k < w.heap.size := (Array.getElem?_eq_some_iff.1 (hV.get k o hk)).1
    show (if _ then _ else _) = _
    rw [if_neg (by omega)]
    exact hk
  · change (if _ then _ else _) = _ at hk
    split at hk
    · exact ⟨hk, .inr (by assumption)⟩
    · have hlt : k < w.heap.size := (Array.getElem?_eq_some_iff.1 (hV.get k o hk)).1
      exact ⟨(hb.block k hlt).trans (hV.get k o hk), .inl hk⟩
  · show (if _ then _ else _) = _
    rw [if_pos z2]
    exact h2
  · show (if _ then _ else _) = _
    rw [if_pos z0]
    exact h0
  · show (if _ then _ else _) = _
    rw [if_pos z1]
    exact h1

def openJ (g : Geo) (D : List ByteArray) (slot : Int) : Bool := geoB g && decide ((D.length : Int) = totV g) && decide (0 ≤ headV g slot)

theorem sopen_c (V : Vw) (g : Geo) (ok : g.Ok) (slot : Int) (a ca ka fa : Option Addr) (n c cn cc kn kc fn fc : Nat) (nx : Int) (D : List ByteArray) (w : World) (hV : V.le (vw w)) (hs0 : SlOf V encS 1 (.slice a n c) D) :
    Calls Try.prog 57 #[g.val, devG a ca ka fa n c cn cc kn kc fn fc nx, I slot] w fun e w' => e = .returned (.tuple #[jnV g a n c slot, .bool (openJ g D slot)]) ∧ Below w.heap.size w w' := by
  obtain ⟨a', c', he, _⟩ := sl_cap hs0.sl
  cases he
  refine enter (E := E0) (O := []) (nl := 0) (V := vw w) [.a (.v g.val), .a (.v (devG a ca ka fa D.length c cn cc kn kc fn fc nx)), .a (.v (I slot))] Try.func57 rfl rfl (mem0 E0 0 w) rfl rfl ?_
  refine c_seq ?_
  refine c_region ?_
  refine o_new tok rfl rfl rfl rfl ?_
  refine o_new tok rfl rfl rfl rfl ?_
  refine o_new tok rfl rfl rfl rfl ?_
  refine o_yield rfl rfl rfl (y_val tok rfl) ?_
  refine o_end [2, 3, 4, 6] rfl ?_
  refine x_then ?_
  refine c_seq ?_
  refine c_heldS [21] mixed rfl (by repeat (first | exact SubO.nil | refine SubO.cons rfl ?_)) (by first | rfl | simp [okCels, allOk_plain]) ?_
  refine t_takeD 0 rfl (by kernel_rfl) rfl rfl rfl (y_val tok rfl) rfl ?_
  refine t_takeD 1 rfl (by kernel_rfl) rfl rfl rfl (y_val tok rfl) rfl ?_
  refine t_takeD 2 rfl (by kernel_rfl) rfl rfl rfl (y_val tok rfl) rfl ?_
  refine t_takeD 3 rfl (by kernel_rfl) rfl rfl rfl (y_val tok rfl) rfl ?_
  refine t_takeD 4 rfl (by kernel_rfl) rfl rfl rfl (y_val tok rfl) rfl ?_
  refine t_takeD 5 rfl (by kernel_rfl) rfl rfl rfl (y_val tok rfl) rfl ?_
  refine t_go ?_
  refine h_one 6 (by kernel_rfl) ?_
  refine h_call 6 (.a (.v _)) rfl rfl rfl fnok86 rfl rfl rfl (fun hg E w1 hm => by exact geoMay_c g ok _) ?_
  refine h_one 7 (by kernel_rfl) ?_
  refine h_yield 7 rfl rfl rfl rfl (y_val tok rfl) ?_
  refine h_takeD 8 rfl (by kernel_rfl) rfl rfl rfl rfl (y_val tok rfl) rfl ?_
  refine h_takeD 9 rfl (by kernel_rfl) rfl rfl rfl rfl (y_val tok rfl) rfl ?_
  refine h_takeD 10 rfl (by kernel_rfl) rfl rfl rfl rfl (y_lenP tok rfl) rfl ?_
  refine h_one 11 (by kernel_rfl) ?_
  refine h_yield 11 rfl rfl rfl rfl (y_val tok rfl) ?_
  refine h_one 12 (by kernel_rfl) ?_
  refine h_call 12 (.a (.v _)) rfl rfl rfl fnok87 rfl rfl rfl (fun hg E w1 hm => by exact total_c g ok _) ?_
  refine h_one 13 (by kernel_rfl) ?_
  refine h_yield 13 rfl rfl rfl rfl (y_val tok rfl) ?_
  refine h_one 14 (by kernel_rfl) ?_
  refine h_yield 14 rfl rfl rfl rfl (y_val tok rfl) ?_
  refine h_one 15 (by kernel_rfl) ?_
  refine h_yield 15 rfl rfl rfl rfl (y_val tok rfl) ?_
  refine h_takeD 16 rfl (by kernel_rfl) rfl rfl rfl rfl (y_val tok rfl) rfl ?_
  refine h_one 17 (by kernel_rfl) ?_
  refine h_yield 17 rfl rfl rfl rfl (y_val tok rfl) ?_
  refine h_one 18 (by kernel_rfl) ?_
  refine h_call 18 (.a (.v _)) rfl rfl rfl fnok43 rfl rfl rfl (fun hg E w1 hm => by exact head_c g ok slot _) ?_
  refine h_takeR 19 rfl (by kernel_rfl) rfl rfl rfl (fun _ => y_val tok rfl) rfl ?_
  refine h_takeR 20 rfl (by kernel_rfl) rfl rfl rfl (fun _ => y_val tok rfl) rfl ?_
  refine h_one 21 (by kernel_rfl) ?_
  refine h_store 21 tok rfl rfl rfl rfl (by first | exact ⟨trivial, trivial⟩ | (repeat' first | exact trivial | exact rfl | apply And.intro); done | simp [onesP, oneP, lk, Value.oneCell']) (.inl rfl) ?_
  refine h_one 22 (by kernel_rfl) ?_
  refine h_yield 22 rfl rfl rfl rfl (y_val tok rfl) ?_
  refine h_done [6, 7] (by kernel_rfl) rfl ?_
  refine x_then ?_
  refine c_ret ?_
  refine b_ret tok rfl ?_
  intro E w' hm _
  refine ⟨?_, hm.below (Vw.le.refl _)⟩
  show Ending.returned (.tuple #[_, .bool ((geoB g && ((D.length : Int) == totV g)) && decide (headV g slot ≥ 0))]) = _
  rw [openJ]
  congr 5

theorem srows_c (V : Vw) (g : Geo) (ok : g.Ok) (slot key tail : Int) (D : List ByteArray) (A : List Record) (hJ : RowsOf g slot key tail D A) (a ca ka fa : Option Addr) (n c cn cc kn kc fn fc : Nat) (nx : Int) (w : World) (hV : V.le (vw w)) (hs0 : SlOf V encS 1 (.slice a n c) D) :
    Calls Try.prog 16 #[g.val, devG a ca ka fa n c cn cc kn kc fn fc nx, I slot, I key, I tail] w fun e w' => (∃ v, e = .returned v ∧ w'.ownsRow w.heap.size 25 6 v A.length (A.flatMap Record.cells)) ∧ Below w.heap.size w w' := by
  have hs := hs0.mono hV
  have hf := geo_facts hJ.geo
  have hfew := hJ.few
  have ht0 := hJ.tl0
  have ht1 := hJ.tl1
  have hop : openJ g D slot = true := by rw [openJ, hJ.geo, decide_eq_true hJ.len, decide_eq_true hJ.hd]; rfl
  have hoc := fun w1 hV1 => sopen_c (vw w) g ok slot a ca ka fa n c cn cc kn kc fn fc nx D w1 hV1 hs
  rw [hop] at hoc
  refine callsR (enterR 9 (E := E0) (O := []) (nl := 0) (V := vw w) [.a (.v g.val), .a (.v (devG a ca ka fa n c cn cc kn kc fn fc nx)), .a (.v (I slot)), .a (.v (I key)), .a (.v (I tail))] Try.func16 rfl rfl (mem0 E0 0 w) rfl rfl ?_)
  refine r_seq ?_
  refine r_region (by intro _ _ w1 h1; first | exact h1 | (obtain ⟨h2, _⟩ := h1; cases h2; done) | (obtain ⟨⟨_, h2⟩, _⟩ := h1; cases h2; done) | (obtain ⟨⟨_, h2, _⟩, _⟩ := h1; cases h2; done) | (obtain ⟨_, h2, _⟩ := h1; cases h2; done) | (obtain ⟨_, _, h2, _⟩ := h1; cases h2; done) | (obtain ⟨_, _, _, h2, _⟩ := h1; cases h2; done) | (rcases h1 with ⟨⟨_, _, h2, _⟩ | ⟨_, h2⟩, _⟩ <;> cases h2; done) | (exact nor _ h1)) rfl ?_
  refine o_new tok rfl rfl rfl rfl ?_
  refine o_new tok rfl rfl rfl rfl ?_
  refine o_new tok rfl rfl rfl rfl ?_
  refine o_end [2, 3, 4, 5, 6, 10] rfl ?_
  refine rq ?_
  refine x_then ?_
  refine r_seq ?_
  refine r_region (by intro _ _ w1 h1; first | exact h1 | (obtain ⟨h2, _⟩ := h1; cases h2; done) | (obtain ⟨⟨_, h2⟩, _⟩ := h1; cases h2; done) | (obtain ⟨⟨_, h2, _⟩, _⟩ := h1; cases h2; done) | (obtain ⟨_, h2, _⟩ := h1; cases h2; done) | (obtain ⟨_, _, h2, _⟩ := h1; cases h2; done) | (obtain ⟨_, _, _, h2, _⟩ := h1; cases h2; done) | (rcases h1 with ⟨⟨_, _, h2, _⟩ | ⟨_, h2⟩, _⟩ <;> cases h2; done) | (exact nor _ h1)) rfl ?_
  refine o_yield rfl rfl rfl (y_val tok rfl) ?_
  refine o_yield rfl rfl rfl (y_val tok rfl) ?_
  refine o_yield rfl rfl rfl (y_val tok rfl) ?_
  refine o_call (.a (.v _)) rfl rfl fnok57 rfl rfl rfl (fun hg E w1 hm => by exact hoc _ hm.leV) ?_
  refine o_yield rfl rfl rfl (y_val tok rfl) ?_
  refine o_yield rfl rfl rfl (y_val tok rfl) ?_
  refine o_yield rfl rfl rfl (y_val tok rfl) ?_
  refine o_new tok rfl rfl rfl rfl ?_
  refine o_store tok rfl rfl rfl (by first | exact ⟨trivial, trivial⟩ | (repeat' first | exact trivial | exact rfl | apply And.intro); done | simp [onesP, oneP, lk, Value.oneCell']) ?_
  refine o_yield rfl rfl rfl (y_val tok rfl) ?_
  refine o_end [3, 4, 10, 11, 12] rfl ?_
  refine rq ?_
  refine x_then ?_
  refine r_seq ?_
  refine r_seq ?_
  refine r_region (by intro _ _ w1 h1; first | exact h1 | (obtain ⟨h2, _⟩ := h1; cases h2; done) | (obtain ⟨⟨_, h2⟩, _⟩ := h1; cases h2; done) | (obtain ⟨⟨_, h2, _⟩, _⟩ := h1; cases h2; done) | (obtain ⟨_, h2, _⟩ := h1; cases h2; done) | (obtain ⟨_, _, h2, _⟩ := h1; cases h2; done) | (obtain ⟨_, _, _, h2, _⟩ := h1; cases h2; done) | (rcases h1 with ⟨⟨_, _, h2, _⟩ | ⟨_, h2⟩, _⟩ <;> cases h2; done) | (exact nor _ h1)) rfl ?_
  refine o_yield rfl rfl rfl (y_val tok rfl) ?_
  refine o_yield rfl rfl rfl (y_val tok rfl) ?_
  refine o_yield rfl rfl rfl (y_val tok rfl) ?_
  refine o_yield rfl rfl rfl (y_val tok rfl) ?_
  refine o_yield rfl rfl rfl (y_val tok rfl) ?_
  refine o_yield rfl rfl rfl (y_val tok rfl) ?_
  refine o_yield rfl rfl rfl (y_val tok rfl) ?_
  refine o_yield rfl rfl rfl (y_val tok rfl) ?_
  refine o_yield rfl rfl rfl (y_val tok rfl) ?_
  refine o_yield rfl rfl rfl (y_val tok rfl) ?_
  refine o_end [3, 4, 10, 11, 30] rfl ?_
  refine rq ?_
  refine x_then ?_
  refine r_cond rfl (fun h => ?_) (fun h => ?_)
  ·
    simp only [Bool.and_eq_true, Bool.or_eq_true, Bool.not_eq_true', Bool.or_eq_false_iff, Bool.and_eq_false_iff, decide_eq_true_eq, decide_eq_false_iff_not, beq_iff_eq, bne_iff_ne, Bool.not_eq_false', beq_eq_false_iff_ne, bne_eq_false_iff_eq, ne_eq, Decidable.not_not, Int.not_lt, Int.not_le] at h
    exfalso
    simp at h
    omega
  ·
    simp only [Bool.and_eq_true, Bool.or_eq_true, Bool.not_eq_true', Bool.or_eq_false_iff, Bool.and_eq_false_iff, decide_eq_true_eq, decide_eq_false_iff_not, beq_iff_eq, bne_iff_ne, Bool.not_eq_false', beq_eq_false_iff_ne, bne_eq_false_iff_eq, ne_eq, Decidable.not_not, Int.not_lt, Int.not_le] at h
    clear h
    refine r_skip ?_
    refine x_then ?_
    refine r_seq ?_
    refine r_seq ?_
    refine r_region (by intro _ _ w1 h1; first | exact h1 | (obtain ⟨h2, _⟩ := h1; cases h2; done) | (obtain ⟨⟨_, h2⟩, _⟩ := h1; cases h2; done) | (obtain ⟨⟨_, h2, _⟩, _⟩ := h1; cases h2; done) | (obtain ⟨_, h2, _⟩ := h1; cases h2; done) | (obtain ⟨_, _, h2, _⟩ := h1; cases h2; done) | (obtain ⟨_, _, _, h2, _⟩ := h1; cases h2; done) | (rcases h1 with ⟨⟨_, _, h2, _⟩ | ⟨_, h2⟩, _⟩ <;> cases h2; done) | (exact nor _ h1)) rfl ?_
    refine o_yield rfl rfl rfl (y_val tok rfl) ?_
    refine o_yield rfl rfl rfl (y_val tok rfl) ?_
    refine o_yield rfl rfl rfl (y_val tok rfl) ?_
    refine k_nilO 2 0 25 6 rfl rfl ?_
    refine k_plainP [10, 31, 32, 33] [2, 4] rfl (by repeat (first | exact SubF.nil | refine SubF.cons rfl ?_)) rfl rfl (fun Ea V1 hle1 _ _ => ?_)
    refine o_callV (fun v V2 => ∃ bt bj bk, v = .func (.func 95) #[] #[Ptr bt, Ptr bj, Ptr bk] ∧ V2.get bt = some (.cells [I tail].toArray 3 (0, 0)) ∧ V2.get bj = some (.cells (jnC g a n c slot).toArray 119 (0, 0)) ∧ V2.get bk = some (.cells [I key].toArray 3 (0, 0))) rfl rfl fnok58 rfl rfl (fun hg E w1 hm => by exact srowsM_c V1 g a n c slot key tail _ hm.leV) ?_
    rintro v V2 hle2 hx
    obtain ⟨bt, bj, bk, rfl, hbt, hbj, hbk⟩ := hx rfl
    clear hx
    have hle12 := hle1.trans hle2
    have hs2 := hs.mono hle12
    refine o_end [10, 34] rfl ?_
    refine rq ?_
    refine x_then ?_
    refine r_block ?_
    refine r_rangeB (α := Record) (σ := List Record) (τ := Unit) (by omega) rfl fnok95 (fun r => r.val) (fun xs => xs = A) (fun _ => True) A.length [(10, .a (.v (Ptr (Ea.ρ 2))))] (fun s => [(2, .lit [.row 4] 27), (4, .row 25 6 s.length (s.flatMap Record.cells)), (6, .keep 2 (Ea.ρ 2) (Ea.κ 2))]) (fun xs s => s = xs) (fun _ => []) (fun _ _ => False) .ret [] (by repeat (first | exact SubF.nil | refine SubF.cons rfl ?_)) rfl rfl (by repeat (first | exact SubO.nil | refine SubO.cons rfl ?_)) (fun _ => rfl) (fun _ => rfl) rfl (fun w0 hw => srows_seq V2 bt bj bk g ok slot key tail D A hJ a n c hbt hbj hbk hs2 _ w0 hw) ?_ ?_ ?_
    · intro l pre x s1 Vf sz hI hlen hVf
      have hpl : s1.length ≤ 1001 := by rw [hI]; omega
      refine r_region (by intro _ _ w1 h1; first | exact h1 | (obtain ⟨h2, _⟩ := h1; cases h2; done) | (obtain ⟨⟨_, h2⟩, _⟩ := h1; cases h2; done) | (obtain ⟨⟨_, h2, _⟩, _⟩ := h1; cases h2; done) | (obtain ⟨_, h2, _⟩ := h1; cases h2; done) | (obtain ⟨_, _, h2, _⟩ := h1; cases h2; done) | (obtain ⟨_, _, _, h2, _⟩ := h1; cases h2; done) | (rcases h1 with ⟨⟨_, _, h2, _⟩ | ⟨_, h2⟩, _⟩ <;> cases h2; done) | (exact nor _ h1)) rfl ?_
      refine o_new tok rfl rfl rfl rfl ?_
      refine o_store tok rfl rfl rfl (by first | exact ⟨trivial, trivial⟩ | (repeat' first | exact trivial | exact rfl | apply And.intro); done | simp [onesP, oneP, lk, Value.oneCell']) ?_
      refine o_end [10, 13] rfl ?_
      refine rq ?_
      refine ra_end rfl (by repeat (first | exact Vw.le.refl _ | assumption | (refine Vw.le.trans ?_ (by assumption)))) (fun Vg kz hVg => ?_)
      refine r_block ?_
      refine k_unptrK 10 6 2 (Ea.ρ 2) 0 rfl rfl rfl ?_
      refine r_region (by intro _ _ w1 h1; first | exact h1 | (obtain ⟨h2, _⟩ := h1; cases h2; done) | (obtain ⟨⟨_, h2⟩, _⟩ := h1; cases h2; done) | (obtain ⟨⟨_, h2, _⟩, _⟩ := h1; cases h2; done) | (obtain ⟨_, h2, _⟩ := h1; cases h2; done) | (obtain ⟨_, _, h2, _⟩ := h1; cases h2; done) | (obtain ⟨_, _, _, h2, _⟩ := h1; cases h2; done) | (rcases h1 with ⟨⟨_, _, h2, _⟩ | ⟨_, h2⟩, _⟩ <;> cases h2; done) | (exact nor _ h1)) rfl ?_
      refine o_yield rfl rfl rfl (y_val tok rfl) ?_
      refine o_yield rfl rfl rfl (y_val tok rfl) ?_
      refine o_step rfl rfl rfl rfl rfl (s_bs tok 6 rfl rfl rfl) (fun _ _ => ?_)
      refine o_step rfl rfl rfl rfl rfl (s_app tok x.cells rfl (fun E w hm => ownsRow_src (hm.row _ _ _ _ _ rfl)) (fun _ _ _ => by simpa using rec_ones [x]) (by dsimp only; omega)) (fun _ _ => ?_)
      refine o_store tok rfl rfl rfl (by first | exact ⟨trivial, trivial⟩ | (repeat' first | exact trivial | exact rfl | apply And.intro); done | simp [onesP, oneP, lk, Value.oneCell']) ?_
      refine o_end [10] rfl ?_
      refine rq ?_
      refine x_block ?_
      have hx : s1.length + 1 = (s1 ++ [x]).length ∧ s1.flatMap Record.cells ++ x.cells = (s1 ++ [x]).flatMap Record.cells := by simp
      rw [hx.1, hx.2]
      refine k_swap 4 10 rfl ?_
      refine rc_next (s1 ++ [x]) (by rw [hI]) (by repeat (first | exact SubO.nil | refine SubO.cons rfl ?_)) rfl (by repeat (first | exact Vw.le.refl _ | assumption | (refine Vw.le.trans ?_ (by assumption))))
    · intro D3 V3 s1 xs hS hI hle3 hD hle4
      have hsL : s1 = A := hI.trans hS
      subst hsL
      refine x_block ?_
      refine x_then ?_
      refine r_seq ?_
      refine k_unptrK 10 6 2 (Ea.ρ 2) 0 rfl rfl rfl ?_
      refine r_region (by intro _ _ w1 h1; first | exact h1 | (obtain ⟨h2, _⟩ := h1; cases h2; done) | (obtain ⟨⟨_, h2⟩, _⟩ := h1; cases h2; done) | (obtain ⟨⟨_, h2, _⟩, _⟩ := h1; cases h2; done) | (obtain ⟨_, h2, _⟩ := h1; cases h2; done) | (obtain ⟨_, _, h2, _⟩ := h1; cases h2; done) | (obtain ⟨_, _, _, h2, _⟩ := h1; cases h2; done) | (rcases h1 with ⟨⟨_, _, h2, _⟩ | ⟨_, h2⟩, _⟩ <;> cases h2; done) | (exact nor _ h1)) rfl ?_
      refine o_yield rfl rfl rfl (y_val tok rfl) ?_
      refine o_store tok rfl rfl rfl (by first | exact ⟨trivial, trivial⟩ | (repeat' first | exact trivial | exact rfl | apply And.intro); done | simp [onesP, oneP, lk, Value.oneCell']) ?_
      refine o_end [10] rfl ?_
      refine rq ?_
      refine x_then ?_
      refine r_ret ?_
      refine rb_retD tok rfl hD ?_
      intro E w' hm _
      have hvle : (vw w).le (V3.del D3) := hle12.trans hle4
      exact ⟨⟨_, rfl, hm.rowFresh hvle (l := 4) rfl⟩, hm.below hvle⟩
    · intro D3 V3 y pre _ hf
      exact hf.elim
end Go.Proofs.Ytikdaehmaaogdaa

/- A journal's tail and what is whole of it: the program's. -/
set_option linter.unusedVariables false
set_option linter.unusedSimpArgs false
set_option maxRecDepth 100000
namespace Go.Proofs.Ytikdaehmaaogdaa
open Go Go.Eng Go.RowKit

theorem small_view {V V0 : Vw} {Φ : Value → Vw → Prop} {n : Nat} {w1 w' : World} {e : Ending} (hn : n ≤ w1.heap.size) (hV : V.le V0) (h0 : V0.le (vw w1))
    (h : ∃ v V2, e = .returned v ∧ Below w1.heap.size w1 w' ∧ Vext w1.heap.size V V2 w' ∧ Φ v V2) :
    ∃ v V', e = .returned v ∧ Below w1.heap.size w1 w' ∧ Vext w1.heap.size V0 V' w' ∧ ∃ V2 : Vw, V2.le V' ∧ V.le V2 ∧ (∀ k o, V2.get k = some o → V.get k = some o ∨ n ≤ k) ∧ Φ v V2 := by
  obtain ⟨v, V2, e1, hb, hx, hp⟩ := h
  refine ⟨v, V0.grown w1 w', e1, hb, Vext.grown h0 hb, V2, ⟨?_, ?_, ?_, ?_⟩, hx.le, fun k o hk => (hx.get k o hk).2.imp id (Nat.le_trans hn), hp⟩
  · intro k o hk
    obtain ⟨h1, h2⟩ := hx.get k o hk
    simp only [Vw.grown]
    rcases h2 with h2 | h2
    · rw [if_pos (h0.lt (hV.get _ _ h2))]
      exact hV.get _ _ h2
    · rw [if_neg (by omega)]
      exact h1
  · exact hV.os.trans hx.le.os.symm
  · exact hV.tape.trans hx.le.tape.symm
  · exact hV.output.trans hx.le.output.symm

theorem srows_cV (V : Vw) (g : Geo) (ok : g.Ok) (slot key tail : Int) (D : List ByteArray) (A : List Record) (hJ : RowsOf g slot key tail D A) (a ca ka fa : Option Addr) (n c cn cc kn kc fn fc : Nat) (nx : Int) (w : World) (hV : V.le (vw w)) (hs0 : SlOf V encS 1 (.slice a n c) D) :
    Calls Try.prog 16 #[g.val, devG a ca ka fa n c cn cc kn kc fn fc nx, I slot, I key, I tail] w fun e w' => ∃ v V', e = .returned v ∧ Below w.heap.size w w' ∧ Vext w.heap.size V V' w' ∧ ∃ a n c, v = .slice a n c ∧ SlOf V' Record.cells 6 (.slice a n c) A := by
  refine (srows_c V g ok slot key tail D A hJ a ca ka fa n c cn cc kn kc fn fc nx w hV hs0).mono ?_
  rintro e w' ⟨⟨v, rfl, hrow⟩, hb⟩
  obtain ⟨V', hx, hsl⟩ := ownsRow_vext hV hb hrow
  obtain ⟨a, n, c, rfl⟩ := sl_shape hsl
  exact ⟨_, V', rfl, hb, hx, a, n, c, rfl, hsl, fun _ => rfl⟩

theorem stailJ_c (V : Vw) (g : Geo) (ok : g.Ok) (slot : Int) (D : List ByteArray) (hop : openJ g D slot = true) (s : ByteArray) (h_s : D[(headV g slot).toNat]? = some s) (hz : s.size ≤ maxLen) (a ca ka fa : Option Addr) (n c cn cc kn kc fn fc : Nat) (nx : Int) (w : World) (hV : V.le (vw w)) (hs0 : SlOf V encS 1 (.slice a n c) D) :
    Calls Try.prog 63 #[g.val, devG a ca ka fa n c cn cc kn kc fn fc nx, I slot] w fun e w' => e = .returned (.tuple #[I (tailV s), I (tailE s)]) ∧ Below w.heap.size w w' := by
  have hs := hs0.mono hV
  have hoc := fun w1 hV1 => sopen_c (vw w) g ok slot a ca ka fa n c cn cc kn kc fn fc nx D w1 hV1 hs
  rw [hop] at hoc
  have hhd : 0 ≤ headV g slot := by
    rw [openJ, Bool.and_eq_true, decide_eq_true_eq] at hop
    exact hop.2
  obtain ⟨q, hq⟩ : ∃ q : Nat, headV g slot = q := ⟨(headV g slot).toNat, by omega⟩
  rw [hq, Int.toNat_natCast] at h_s
  have hhc := fun w => head_c g ok slot w
  rw [hq] at hhc
  refine enter (E := E0) (O := []) (nl := 0) (V := vw w) [.a (.v g.val), .a (.v (devG a ca ka fa n c cn cc kn kc fn fc nx)), .a (.v (I slot))] Try.func63 rfl rfl (mem0 E0 0 w) rfl rfl ?_
  refine c_seq ?_
  refine c_region ?_
  refine o_new tok rfl rfl rfl rfl ?_
  refine o_new tok rfl rfl rfl rfl ?_
  refine o_yield rfl rfl rfl (y_val tok rfl) ?_
  refine o_yield rfl rfl rfl (y_val tok rfl) ?_
  refine o_end [2, 3, 4] rfl ?_
  refine x_then ?_
  refine c_seq ?_
  refine c_region ?_
  refine o_yield rfl rfl rfl (y_val tok rfl) ?_
  refine o_yield rfl rfl rfl (y_val tok rfl) ?_
  refine o_yield rfl rfl rfl (y_val tok rfl) ?_
  refine o_call (.a (.v _)) rfl rfl fnok57 rfl rfl rfl (fun hg E w1 hm => by exact hoc _ hm.leV) ?_
  refine o_yield rfl rfl rfl (y_val tok rfl) ?_
  refine o_yield rfl rfl rfl (y_val tok rfl) ?_
  refine o_yield rfl rfl rfl (y_val tok rfl) ?_
  refine o_new tok rfl rfl rfl rfl ?_
  refine o_store tok rfl rfl rfl (by first | exact ⟨trivial, trivial⟩ | (repeat' first | exact trivial | exact rfl | apply And.intro); done | simp [onesP, oneP, lk, Value.oneCell']) ?_
  refine o_yield rfl rfl rfl (y_val tok rfl) ?_
  refine o_end [2, 3, 8, 9] rfl ?_
  refine x_then ?_
  refine c_seq ?_
  refine c_seq ?_
  refine c_region ?_
  refine o_yield rfl rfl rfl (y_val tok rfl) ?_
  refine o_yield rfl rfl rfl (y_val tok rfl) ?_
  refine o_end [2, 3, 8, 18] rfl ?_
  refine x_then ?_
  refine c_cond rfl (fun h => ?_) (fun h => ?_)
  ·
    refine c_seq ?_
    refine c_region ?_
    refine o_yield rfl rfl rfl (y_val tok rfl) ?_
    refine o_yield rfl rfl rfl (y_val tok rfl) ?_
    refine o_end [6, 7] rfl ?_
    refine x_then ?_
    refine c_ret ?_
    refine x_then_ret ?_
    refine b_ret tok rfl ?_
    exact absurd h (by decide)
  ·
    refine c_skip ?_
    refine x_then ?_
    refine c_seq ?_
    refine c_draw mixed (by kernel_rfl) ?_
    refine d_yield rfl rfl rfl (y_val tok rfl) rfl ?_
    refine d_yield rfl rfl rfl (y_val tok rfl) rfl ?_
    refine d_yield rfl rfl rfl (y_val tok rfl) rfl ?_
    refine d_yield rfl rfl rfl (y_val tok rfl) rfl ?_
    refine d_call (.a (.v _)) rfl rfl fnok43 rfl rfl rfl (fun hg E w1 hm => by exact hhc _) ?_
    have hlt_s := lt_of_at h_s
    refine d_yield rfl rfl rfl (y_idx tok rfl (fun hg => hs.sl) (fun hg => ⟨by omega, by omega⟩)) rfl ?_
    refine d_yield rfl rfl rfl (y_lel tok (q) 0 (s) rfl (fun hg => hs) (fun hg => h_s) rfl rfl) rfl ?_
    refine d_call (.a (.v _)) rfl rfl fnok99 rfl rfl rfl (fun hg E w1 hm => by exact stail_c s hz _) ?_
    refine d_yield rfl rfl rfl (y_val tok rfl) rfl ?_
    refine d_yield rfl rfl rfl (y_val tok rfl) rfl ?_
    refine d_yield rfl rfl rfl (y_val tok rfl) rfl ?_
    refine d_yield rfl rfl rfl (y_val tok rfl) rfl ?_
    refine d_end [6, 7] rfl ?_
    refine x_then ?_
    refine c_ret ?_
    refine b_ret tok rfl ?_
    intro E w' hm _
    refine ⟨?_, hm.below (Vw.le.refl _)⟩
    rfl

theorem sjournal_c (V : Vw) (g : Geo) (ok : g.Ok) (slot key tail : Int) (D : List ByteArray) (A : List Record) (hJ : RowsOf g slot key tail D A) (hd : ∃ s, D[(headV g slot).toNat]? = some s ∧ tailV s = tail ∧ tailE s = 0) (a ca ka fa : Option Addr) (n c cn cc kn kc fn fc : Nat) (nx : Int) (w : World) (hV : V.le (vw w)) (hs0 : SlOf V encS 1 (.slice a n c) D) :
    Calls Try.prog 24 #[g.val, devG a ca ka fa n c cn cc kn kc fn fc nx, I slot, I key] w fun e w' => ∃ v V', e = .returned v ∧ Below w.heap.size w w' ∧ Vext w.heap.size V V' w' ∧ ∃ a n c, v = .tuple #[.slice a n c, I tail, I 0] ∧ SlOf V' Record.cells 6 (.slice a n c) (A.take (whole A)) := by
  have hs := hs0.mono hV
  have hop : openJ g D slot = true := by rw [openJ, hJ.geo, decide_eq_true hJ.len, decide_eq_true hJ.hd]; rfl
  obtain ⟨s, h_s, ht1, ht2⟩ := hd
  have hf := geo_facts hJ.geo
  have hfew := hJ.few
  have htc := fun w1 hV1 => stailJ_c (vw w) g ok slot D hop s h_s (hJ.sz s (List.mem_of_getElem? h_s)) a ca ka fa n c cn cc kn kc fn fc nx w1 hV1 hs
  rw [ht1, ht2] at htc
  refine enter (E := E0) (O := []) (nl := 0) (V := vw w) [.a (.v g.val), .a (.v (devG a ca ka fa n c cn cc kn kc fn fc nx)), .a (.v (I slot)), .a (.v (I key))] Try.func24 rfl rfl (mem0 E0 0 w) rfl rfl ?_
  refine c_seq ?_
  refine c_region ?_
  refine o_new tok rfl rfl rfl rfl ?_
  refine o_new tok rfl rfl rfl rfl ?_
  refine o_yield rfl rfl rfl (y_val tok rfl) ?_
  refine o_yield rfl rfl rfl (y_val tok rfl) ?_
  refine o_yield rfl rfl rfl (y_val tok rfl) ?_
  refine o_end [2, 3, 4, 5] rfl ?_
  refine x_then ?_
  refine c_seq ?_
  refine c_seq ?_
  refine c_region ?_
  refine o_yield rfl rfl rfl (y_val tok rfl) ?_
  refine o_yield rfl rfl rfl (y_val tok rfl) ?_
  refine o_yield rfl rfl rfl (y_val tok rfl) ?_
  refine o_call (.a (.v _)) rfl rfl fnok63 rfl rfl rfl (fun hg E w1 hm => by exact htc _ hm.leV) ?_
  refine o_yield rfl rfl rfl (y_val tok rfl) ?_
  refine o_yield rfl rfl rfl (y_val tok rfl) ?_
  refine o_yield rfl rfl rfl (y_val tok rfl) ?_
  refine o_yield rfl rfl rfl (y_val tok rfl) ?_
  refine o_yield rfl rfl rfl (y_val tok rfl) ?_
  refine o_end [2, 3, 4, 5, 9, 10] rfl ?_
  refine x_then ?_
  refine c_seq ?_
  refine c_region ?_
  refine o_yield rfl rfl rfl (y_val tok rfl) ?_
  refine o_yield rfl rfl rfl (y_val tok rfl) ?_
  refine o_end [2, 3, 4, 5, 9, 10, 20] rfl ?_
  refine x_then ?_
  refine c_cond rfl (fun h => ?_) (fun h => ?_)
  ·
    refine c_seq ?_
    refine c_region ?_
    refine o_yield rfl rfl rfl (y_val tok rfl) ?_
    refine o_yield rfl rfl rfl (y_val tok rfl) ?_
    refine o_yield rfl rfl rfl (y_val tok rfl) ?_
    refine o_yield rfl rfl rfl (y_val tok rfl) ?_
    refine o_end [8, 9, 10] rfl ?_
    refine x_then ?_
    refine c_ret ?_
    refine x_then_ret ?_
    refine b_ret tok rfl ?_
    exact absurd h (by decide)
  ·
    refine c_skip ?_
    refine x_then ?_
    refine c_seq ?_
    refine c_region ?_
    refine o_yield rfl rfl rfl (y_val tok rfl) ?_
    refine o_yield rfl rfl rfl (y_val tok rfl) ?_
    refine o_yield rfl rfl rfl (y_val tok rfl) ?_
    refine o_yield rfl rfl rfl (y_val tok rfl) ?_
    refine o_yield rfl rfl rfl (y_val tok rfl) ?_
    refine o_callV (fun v V' => ∃ V2 : Vw, V2.le V' ∧ V.le V2 ∧ (∀ k o, V2.get k = some o → V.get k = some o ∨ w.heap.size ≤ k) ∧ ∃ a n c, v = .slice a n c ∧ SlOf V2 Record.cells 6 (.slice a n c) A) rfl rfl fnok16 rfl rfl (fun hg E w1 hm => by exact (srows_cV V g ok slot key tail D A hJ _ _ _ _ _ _ _ _ _ _ _ _ _ _ (hV.trans hm.leV) hs0).mono fun e w' h => small_view (hm.below (Vw.le.refl _)).size hV hm.leV h) ?_
    rintro v V1 hle1 hv
    obtain ⟨V2, h21, h22, h23, a1, n1, c1, rfl, hsl⟩ := hv rfl
    clear hv
    have hwc := fun w1 hV1 => sWhole_c V2 a1 n1 c1 A w1 hV1 hsl (by omega)
    refine o_yield rfl rfl rfl (y_val tok rfl) ?_
    refine o_end [9, 11] rfl ?_
    refine x_then ?_
    refine c_seq ?_
    refine c_region ?_
    refine o_yield rfl rfl rfl (y_val tok rfl) ?_
    refine o_call (.a (.v _)) rfl rfl fnok64 rfl rfl rfl (fun hg E w1 hm => by exact hwc _ (h21.trans hm.leV)) ?_
    refine o_yield rfl rfl rfl (y_val tok rfl) ?_
    refine o_yield rfl rfl rfl (y_val tok rfl) ?_
    refine o_yield rfl rfl rfl (y_val tok rfl) ?_
    refine o_yield rfl rfl rfl (y_val tok rfl) ?_
    refine o_end [8, 9, 10] rfl ?_
    refine x_then ?_
    refine c_ret ?_
    refine b_ret tok rfl ?_
    intro E w' hm _
    refine ⟨_, V2, rfl, hm.below hle1, ⟨h22, fun k o hk => ⟨(h21.trans hm.leV).get k o hk, h23 k o hk⟩⟩, a1, whole A, whole A, rfl, sl_take hsl (whole_le A)⟩
end Go.Proofs.Ytikdaehmaaogdaa

/- Blocks put into rows: the document's; plain law for rows that rise. -/
set_option linter.unusedVariables false
set_option linter.unusedSimpArgs false
set_option maxRecDepth 100000
namespace Go.Proofs.Ytikdaehmaaogdaa
open Go Go.Eng Go.RowKit

theorem blk_ones (l : List Block) : ∀ u ∈ l.flatMap Block.cells, u.oneCell' = true := by
  intro u hu
  obtain ⟨x, _, hx⟩ := List.mem_flatMap.1 hu
  simp only [Block.cells, List.mem_cons, List.not_mem_nil, or_false] at hx
  rcases hx with rfl | rfl <;> rfl

def oneL (th : Bool) (x : Block) : List Block → List Block
  | [] => [x]
  | b :: r => if th = true ∧ b.n = x.n then x :: r else if th = false ∧ x.n < b.n then x :: b :: r else b :: oneL th x r

/-- What the document's row is with a block put into it. -/
def insS (l : List Block) (x : Block) : List Block := oneL (getB l x.n).2 x l

def RowB (L : List Block) (w : World) (e : Ending) (w' : World) : Prop :=
  (∃ v, e = .returned v ∧ w'.ownsRow w.heap.size 117 2 v L.length (L.flatMap Block.cells)) ∧ Below w.heap.size w w'

theorem app_row (O : List Block) (x : Block) : O.length + 1 = (O ++ [x]).length ∧ O.flatMap Block.cells ++ x.cells = (O ++ [x]).flatMap Block.cells := by simp

def insAll (l more : List Block) : List Block := more.foldl insS l

theorem take_succ_at' {α : Type} {l : List α} {i : Nat} {x : α} (h : l[i]? = some x) : l.take (i + 1) = l.take i ++ [x] := by
  rw [List.take_add_one, h]; rfl

def RowBV (L : List Block) (x : Value) (V' : Vw) : Prop := ∃ a n c, x = .slice a n c ∧ SlOf V' Block.cells 2 (.slice a n c) L

theorem rowB_V {V : Vw} {f : Nat} {L : List Block} {args : Array Value} {w : World} (hV : V.le (vw w)) (h : Calls Try.prog f args w (RowB L w)) :
    Calls Try.prog f args w fun e w' => ∃ x V', e = .returned x ∧ Below w.heap.size w w' ∧ Vext w.heap.size V V' w' ∧ RowBV L x V' := by
  refine h.mono ?_
  rintro e w' ⟨⟨v, rfl, hown⟩, hb⟩
  obtain ⟨V', hx, hsl⟩ := ownsRow_vext hV hb hown
  obtain ⟨a, n, c, rfl⟩ := sl_shape hsl
  exact ⟨_, V', rfl, hb, hx, a, n, c, rfl, hsl, fun _ => rfl⟩

/-! Rows that rise, written as what stands at each number. -/

def mkF (f : Int → Option ByteArray) (a : Int) : Nat → List Block
  | 0 => []
  | k + 1 => (match f a with | some t => [⟨a, t⟩] | none => []) ++ mkF f (a + 1) k

def updF (f : Int → Option ByteArray) (x : Block) (n : Int) : Option ByteArray := if n = x.n then some x.text else f n

theorem mkF_congr {f g : Int → Option ByteArray} : ∀ (k : Nat) (a : Int), (∀ n, a ≤ n → n < a + k → f n = g n) → mkF f a k = mkF g a k
  | 0, _, _ => rfl
  | k + 1, a, h => by rw [mkF, mkF, h a (by omega) (by omega), mkF_congr k (a + 1) (fun n h1 h2 => h n (by omega) (by omega))]

theorem mkF_n {f : Int → Option ByteArray} : ∀ (k : Nat) (a : Int) (b : Block), b ∈ mkF f a k → a ≤ b.n
  | 0, _, _, h => by simp [mkF] at h
  | k + 1, a, b, h => by
    rw [mkF, List.mem_append] at h
    rcases h with h | h
    · cases hf : f a with
      | none => rw [hf] at h; simp at h
      | some t => rw [hf] at h; simp at h; subst h; simp
    · have := mkF_n k (a + 1) b h
      omega

theorem getF {f : Int → Option ByteArray} {n : Int} : ∀ (k : Nat) (a : Int), a ≤ n → n < a + k → (getB (mkF f a k) n).2 = (f n).isSome
  | 0, a, h1, h2 => by omega
  | k + 1, a, h1, h2 => by
    rw [mkF]
    by_cases e : a = n
    · subst e
      cases hf : f a with
      | some t => simp [getB]
      | none =>
        simp only [List.nil_append, Option.isSome]
        have h3 := mkF_n (f := f) k (a + 1)
        generalize mkF f (a + 1) k = l at *
        induction l with
        | nil => rfl
        | cons b r ih =>
          have := h3 b (by simp)
          rw [getB, if_neg (show ¬ b.n = a by omega)]
          exact ih (fun b hb => h3 b (by simp [hb]))
    · have ih := getF (f := f) (n := n) k (a + 1) (by omega) (by omega)
      cases hf : f a with
      | some t => simp only [List.singleton_append]; rw [getB, if_neg e, ih]
      | none => simpa using ih

theorem oneF {f : Int → Option ByteArray} {x : Block} : ∀ (k : Nat) (a : Int), a ≤ x.n → x.n < a + k → oneL (f x.n).isSome x (mkF f a k) = mkF (updF f x) a k
  | 0, a, h1, h2 => by omega
  | k + 1, a, h1, h2 => by
    rw [mkF, mkF]
    by_cases e : a = x.n
    · have hr : mkF (updF f x) (a + 1) k = mkF f (a + 1) k := mkF_congr k (a + 1) fun n h3 h4 => by rw [updF, if_neg (by omega)]
      have hu : updF f x a = some x.text := by rw [updF, if_pos e]
      rw [hr, hu]
      subst e
      cases hf : f x.n with
      | some t => simp [oneL]
      | none =>
        simp only [List.nil_append, Option.isSome, List.singleton_append]
        have h3 := mkF_n (f := f) k (x.n + 1)
        generalize mkF f (x.n + 1) k = l at *
        cases l with
        | nil => rfl
        | cons b r =>
          have := h3 b (by simp)
          rw [oneL, if_neg (by simp), if_pos ⟨rfl, (show x.n < b.n by omega)⟩]
    · have hu : updF f x a = f a := by rw [updF, if_neg e]
      have ih := oneF (f := f) (x := x) k (a + 1) (by omega) (by omega)
      rw [hu]
      cases hf : f a with
      | some t => simp only [List.singleton_append]; rw [oneL, if_neg (fun c => e c.2), if_neg (fun c => by have := c.2; dsimp only at this; omega), ih]
      | none => simpa using ih

theorem insF {f : Int → Option ByteArray} {x : Block} {k : Nat} (h1 : 0 ≤ x.n) (h2 : x.n < k) : insS (mkF f 0 k) x = mkF (updF f x) 0 k := by
  rw [insS, getF k 0 h1 (by omega)]
  exact oneF k 0 h1 (by omega)

theorem insAllF {k : Nat} : ∀ (more : List Block) (f : Int → Option ByteArray), (∀ x ∈ more, 0 ≤ x.n ∧ x.n < k) → insAll (mkF f 0 k) more = mkF (more.foldl updF f) 0 k
  | [], f, _ => rfl
  | x :: r, f, h => by
    rw [insAll, List.foldl_cons, List.foldl_cons, insF (h x (by simp)).1 (h x (by simp)).2]
    exact insAllF r _ (fun y hy => h y (by simp [hy]))

theorem mkF_len (f : Int → Option ByteArray) : ∀ (k : Nat) (a : Int), (mkF f a k).length ≤ k
  | 0, _ => by simp [mkF]
  | k + 1, a => by
    have := mkF_len f k (a + 1)
    rw [mkF]
    cases f a <;> simp <;> omega

theorem mkF_none (k : Nat) (a : Int) : mkF (fun _ => none) a k = [] := by
  induction k generalizing a with
  | zero => rfl
  | succ k ih => rw [mkF, ih]; rfl

theorem mkF_snoc (f : Int → Option ByteArray) : ∀ (k : Nat) (a : Int), mkF f a (k + 1) = mkF f a k ++ (match f (a + k) with | some t => [⟨a + k, t⟩] | none => [])
  | 0, a => by simp [mkF]
  | k + 1, a => by
    rw [mkF, mkF_snoc f k (a + 1), mkF, List.append_assoc]
    rw [show a + 1 + (k : Int) = a + ((k + 1 : Nat) : Int) by omega]
end Go.Proofs.Ytikdaehmaaogdaa

/- How many records are whole: the document's. -/
set_option linter.unusedVariables false
set_option linter.unusedSimpArgs false
set_option maxRecDepth 100000
namespace Go.Proofs.Ytikdaehmaaogdaa
open Go Go.Eng Go.RowKit

def RowR (L : List Record) (w : World) (e : Ending) (w' : World) : Prop :=
  (∃ v, e = .returned v ∧ w'.ownsRow w.heap.size 25 6 v L.length (L.flatMap Record.cells)) ∧ Below w.heap.size w w'
def RowRV (L : List Record) (x : Value) (V' : Vw) : Prop := ∃ a n c, x = .slice a n c ∧ SlOf V' Record.cells 6 (.slice a n c) L

end Go.Proofs.Ytikdaehmaaogdaa

/- A journal's whole transactions and their blocks: the document's. -/
set_option linter.unusedVariables false
set_option linter.unusedSimpArgs false
set_option maxRecDepth 100000
namespace Go.Proofs.Ytikdaehmaaogdaa
open Go Go.Eng Go.RowKit

/-! A block's text out of a transaction's data. -/

def isPc (n k : Int) (r : Record) : Bool := r.count == 0 && (r.block == n && r.k == k)
def pieceF (l : List Record) (n k : Int) : ByteArray := l.foldl (fun p r => if isPc n k r = true then r.text else p) ByteArray.empty
def someF (l : List Record) (n k : Int) : Bool := l.any (isPc n k)
def textTo (l : List Record) (n : Int) : Nat → ByteArray × Bool
  | 0 => (ByteArray.empty, false)
  | k + 1 => ((textTo l n k).1 ++ pieceF l n k, (textTo l n k).2 || someF l n k)

theorem pieceF_snoc (l : List Record) (r : Record) (n k : Int) : pieceF (l ++ [r]) n k = if isPc n k r = true then r.text else pieceF l n k := by simp [pieceF]
theorem someF_snoc (l : List Record) (r : Record) (n k : Int) : someF (l ++ [r]) n k = (someF l n k || isPc n k r) := by simp [someF]

/-! The last transaction's text of a block. -/

def lastG (n : Int) : List Record → List Record → Option ByteArray → Option ByteArray
  | [], _, acc => acc
  | r :: t, cur, acc => if r.count = 0 then lastG n t (cur ++ [r]) acc else lastG n t [] (if (textTo cur n 8).2 = true then some (textTo cur n 8).1 else acc)

def scanB (L : List Record) : List Block := mkF (fun n => lastG n L [] none) 0 64

theorem cut_snoc {l : List Record} {f i : Nat} {r : Record} (hf : f ≤ i) (h : l[i]? = some r) : (l.drop f).take (i + 1 - f) = (l.drop f).take (i - f) ++ [r] := by
  rw [show i + 1 - f = i - f + 1 by omega]
  refine take_succ_at' ?_
  rw [List.getElem?_drop, show f + (i - f) = i by omega, h]

end Go.Proofs.Ytikdaehmaaogdaa

/- A transaction's pieces, by block: what the program keeps and what the document tells. -/
set_option linter.unusedVariables false
set_option linter.unusedSimpArgs false
set_option maxRecDepth 100000
namespace Go.Proofs.Ytikdaehmaaogdaa
open Go Go.Eng Go.RowKit

def frS (f : Int → Option (List ByteArray)) (r : Record) : Int → Option (List ByteArray) := if 0 ≤ r.k ∧ r.k < 8 then pcS f r.block r.k r.text else f
def frT (l : List Record) : Int → Option (List ByteArray) := l.foldl frS (fun _ => none)
theorem frT_snoc (l : List Record) (r : Record) : frT (l ++ [r]) = frS (frT l) r := by simp [frT]

def takeT (T F : Int → Option (List ByteArray)) : Int → Option (List ByteArray) := fun n => match F n with
  | some p => some p
  | none => T n

def blkT : List Record → List Record → (Int → Option (List ByteArray)) → (Int → Option (List ByteArray))
  | [], _, T => T
  | r :: t, cur, T => if r.count = 0 then blkT t (cur ++ [r]) T else blkT t [] (takeT T (frT cur))

def catP (p : List ByteArray) : ByteArray := p.foldl (· ++ ·) ByteArray.empty

abbrev pcL (l : List Record) (n : Int) : List ByteArray := [pieceF l n 0, pieceF l n 1, pieceF l n 2, pieceF l n 3, pieceF l n 4, pieceF l n 5, pieceF l n 6, pieceF l n 7]
abbrev pcA (l : List Record) (n : Int) : Bool := someF l n 0 || someF l n 1 || someF l n 2 || someF l n 3 || someF l n 4 || someF l n 5 || someF l n 6 || someF l n 7

theorem text8 (l : List Record) (n : Int) : textTo l n 8 = (catP (pcL l n), pcA l n) := by
  simp [textTo, catP, pcL, pcA]

theorem fr_text : ∀ (m : Nat) (l : List Record), l.length = m → (∀ r ∈ l, r.count = 0) → ∀ n, frT l n = (if pcA l n = true then some (pcL l n) else none) ∧ (pcA l n = false → pcL l n = no8)
  | 0, l, hm, _, n => by
    have : l = [] := List.length_eq_zero_iff.1 hm
    subst this
    exact ⟨rfl, fun _ => rfl⟩
  | m + 1, l, hm, hz, n => by
    obtain ⟨l0, r, rfl⟩ : ∃ l0 r, l = l0 ++ [r] := ⟨l.dropLast, l.getLast (by intro h; rw [h] at hm; simp at hm), (List.dropLast_concat_getLast _).symm⟩
    have hm0 : l0.length = m := by simpa using hm
    obtain ⟨h1, h2⟩ := fr_text m l0 hm0 (fun x hx => hz x (by simp [hx])) n
    have hr0 : r.count = 0 := hz r (by simp)
    rw [frT_snoc, frS]
    by_cases hk : 0 ≤ r.k ∧ r.k < 8
    · rw [if_pos hk, pcS]
      by_cases hn : n = r.block
      · subst hn
        rw [if_pos rfl]
        have hgd : (frT l0 r.block).getD no8 = pcL l0 r.block := by
          rw [h1]
          cases hq : pcA l0 r.block with
          | true => rfl
          | false => rw [if_neg (by simp)]; exact (h2 hq).symm
        rw [hgd]
        have hk8 : r.k = 0 ∨ r.k = 1 ∨ r.k = 2 ∨ r.k = 3 ∨ r.k = 4 ∨ r.k = 5 ∨ r.k = 6 ∨ r.k = 7 := by omega
        have ha : pcA (l0 ++ [r]) r.block = true := by
          rcases hk8 with h | h | h | h | h | h | h | h <;> simp [pcA, someF_snoc, isPc, h, hr0]
        refine ⟨?_, fun h => by rw [ha] at h; cases h⟩
        rw [if_pos ha]
        congr 1
        rcases hk8 with h | h | h | h | h | h | h | h <;> simp [pcL, pieceF_snoc, isPc, h, hr0]
      · rw [if_neg hn]
        have hbn : (r.block == n) = false := beq_eq_false_iff_ne.2 (fun e => hn e.symm)
        have e1 : pcL (l0 ++ [r]) n = pcL l0 n := by simp only [pcL, pieceF_snoc, isPc, hbn, Bool.false_and, Bool.and_false, Bool.false_eq_true, if_false]
        have e2 : pcA (l0 ++ [r]) n = pcA l0 n := by simp only [pcA, someF_snoc, isPc, hbn, Bool.false_and, Bool.and_false, Bool.or_false]
        rw [e1, e2]
        exact ⟨h1, h2⟩
    · rw [if_neg hk]
      have n0 : (r.k == 0) = false := beq_eq_false_iff_ne.2 (by omega)
      have n1 : (r.k == 1) = false := beq_eq_false_iff_ne.2 (by omega)
      have n2 : (r.k == 2) = false := beq_eq_false_iff_ne.2 (by omega)
      have n3 : (r.k == 3) = false := beq_eq_false_iff_ne.2 (by omega)
      have n4 : (r.k == 4) = false := beq_eq_false_iff_ne.2 (by omega)
      have n5 : (r.k == 5) = false := beq_eq_false_iff_ne.2 (by omega)
      have n6 : (r.k == 6) = false := beq_eq_false_iff_ne.2 (by omega)
      have n7 : (r.k == 7) = false := beq_eq_false_iff_ne.2 (by omega)
      have e1 : pcL (l0 ++ [r]) n = pcL l0 n := by simp only [pcL, pieceF_snoc, isPc, n0, n1, n2, n3, n4, n5, n6, n7, Bool.and_false, Bool.false_eq_true, if_false]
      have e2 : pcA (l0 ++ [r]) n = pcA l0 n := by simp only [pcA, someF_snoc, isPc, n0, n1, n2, n3, n4, n5, n6, n7, Bool.and_false, Bool.or_false]
      rw [e1, e2]
      exact ⟨h1, h2⟩

theorem blk_last (n : Int) : ∀ (l cur : List Record) (T : Int → Option (List ByteArray)), (∀ r ∈ cur, r.count = 0) → (blkT l cur T n).map catP = lastG n l cur ((T n).map catP)
  | [], _, _, _ => rfl
  | r :: t, cur, T, hz => by
    rw [blkT, lastG]
    by_cases hc : r.count = 0
    · rw [if_pos hc, if_pos hc]
      exact blk_last n t _ T (fun x hx => by
        rcases List.mem_append.1 hx with h | h
        · exact hz x h
        · simp only [List.mem_singleton] at h; rw [h]; exact hc)
    · rw [if_neg hc, if_neg hc, blk_last n t [] _ (fun x hx => by simp at hx)]
      congr 1
      obtain ⟨h1, _⟩ := fr_text _ cur rfl hz n
      rw [text8, takeT, h1]
      cases hq : pcA cur n with
      | true => simp
      | false => simp

theorem scan_blk (L : List Record) : scanB L = mkF (fun n => (blkT L [] (fun _ => none) n).map catP) 0 64 := by
  rw [scanB]
  congr 1
  funext n
  exact (blk_last n L [] (fun _ => none) (fun x hx => absurd hx List.not_mem_nil)).symm
end Go.Proofs.Ytikdaehmaaogdaa

/- The blocks of what is whole: the program's. -/
set_option linter.unusedVariables false
set_option linter.unusedSimpArgs false
set_option maxRecDepth 100000
namespace Go.Proofs.Ytikdaehmaaogdaa
open Go Go.Eng Go.RowKit

theorem mpf_mono {ty : Nat} {V0 V V' : Vw} {es : List (Int × Value)} {T : Int → Option (List ByteArray)} (h : MpF ty V0 V es T) (hle : V.le V') : MpF ty V0 V' es T := ⟨h.r.mono hle, h.fresh, h.inj, h.nodup⟩

theorem set_str (q : List ByteArray) (k : Nat) (t : ByteArray) : (q.map Value.string).toArray.setIfInBounds (0 + k) (.string t) = ((q.set k t).map Value.string).toArray := by
  rw [Nat.zero_add]
  apply Array.ext'
  simp

theorem flatS5 : ∀ D : List ByteArray, D.flatMap encS = D.map Value.string
  | [] => rfl
  | x :: r => by rw [List.flatMap_cons, flatS5 r]; rfl

theorem slP {V : Vw} {b ty : Nat} {p : List ByteArray} (hb : V.get b = some (pcOb ty p)) (hp : p.length = 8) : SlOf V encS 1 (slV b) p := by
  have := SlOf.ofBlock (enc := encS) (sz := 1) (l := p) (c := 8) hb (flatS5 p).symm (fun _ => rfl) (by omega)
  rw [hp] at this
  exact this

theorem frS_sizes {f : Int → Option (List ByteArray)} {r : Record} (hf : ∀ n p, f n = some p → ∀ s ∈ p, s.size ≤ 256) (hr : r.text.size ≤ 256) : ∀ n p, frS f r n = some p → ∀ s ∈ p, s.size ≤ 256 := by
  intro n p hp s hs
  rw [frS] at hp
  split at hp
  · rw [pcS] at hp
    split at hp
    · cases hp
      rcases List.mem_or_eq_of_mem_set hs with h | h
      · cases hq : f n with
        | none =>
          rw [hq] at h
          have := List.eq_of_mem_replicate h
          subst this
          decide
        | some p0 => rw [hq] at h; exact hf n p0 hq s h
      · rw [h]; exact hr
    · exact hf n p hp s hs
  · exact hf n p hp s hs

theorem frT_sizes : ∀ (m : Nat) (l : List Record), l.length = m → (∀ r ∈ l, r.text.size ≤ 256) → ∀ n p, frT l n = some p → ∀ s ∈ p, s.size ≤ 256
  | 0, l, hm, _, n, p, hp => by
    have : l = [] := List.length_eq_zero_iff.1 hm
    subst this
    cases hp
  | m + 1, l, hm, hz, n, p, hp => by
    obtain ⟨l0, r, rfl⟩ : ∃ l0 r, l = l0 ++ [r] := ⟨l.dropLast, l.getLast (by intro h; rw [h] at hm; simp at hm), (List.dropLast_concat_getLast _).symm⟩
    rw [frT_snoc] at hp
    exact frS_sizes (frT_sizes m l0 (by simpa using hm) (fun x hx => hz x (by simp [hx]))) (hz r (by simp)) n p hp

theorem unseen_lt {m j : Nat} {seen : Array Nat} (hj : j < m) (hn : ¬ j ∈ seen) : ((List.range m).countP fun i => !(seen.push j).contains i) < (List.range m).countP fun i => !seen.contains i := by
  have h1 : ∀ i, (!(seen.push j).contains i) = true → (!seen.contains i) = true := fun i h => by
    simp at h ⊢
    exact fun h2 => h.1 h2
  obtain ⟨A, B, hAB⟩ := List.append_of_mem (List.mem_range.2 hj)
  rw [hAB, List.countP_append, List.countP_append, List.countP_cons, List.countP_cons]
  have e1 := List.countP_mono_left (l := A) (p := fun i => !(seen.push j).contains i) (q := fun i => !seen.contains i) (fun i _ => h1 i)
  have e2 := List.countP_mono_left (l := B) (p := fun i => !(seen.push j).contains i) (q := fun i => !seen.contains i) (fun i _ => h1 i)
  have e3 : (!(seen.push j).contains j) = false := by simp
  have e4 : (!seen.contains j) = true := by simpa using hn
  rw [e3, e4]
  simp only [Bool.false_eq_true, if_false, if_true]
  omega

theorem sblocks_c (V : Vw) (a : Option Addr) (n c : Nat) (l : List Record) (w : World) (hV : V.le (vw w)) (hs0 : SlOf V Record.cells 6 (.slice a n c) l) (hn : l.length ≤ 1000000) (hz : ∀ r ∈ l, r.text.size ≤ 256) :
    Calls Try.prog 27 #[.slice a n c] w (RowB (scanB (l.take (whole l))) w) := by
  have hs := hs0.mono hV
  have hwle := whole_le l
  have hwc := fun w1 hV1 => sWhole_c (vw w) a n c l w1 hV1 hs hn
  have hsL0 := sl_take hs hwle
  obtain ⟨L, hL⟩ : ∃ L, l.take (whole l) = L := ⟨_, rfl⟩
  have hzL : ∀ r ∈ L, r.text.size ≤ 256 := fun r hr => hz r (List.mem_of_mem_take (hL ▸ hr))
  have hmL : L.length = whole l := by rw [← hL, List.length_take]; omega
  rw [hL] at hsL0 ⊢
  generalize whole l = m at hwc hsL0 hmL hwle hL
  subst hmL
  refine enter (E := E0) (O := []) (nl := 0) (V := vw w) [.a (.v (.slice a n c))] Try.func27 rfl rfl (mem0 E0 0 w) rfl rfl ?_
  refine c_seq ?_
  refine c_region ?_
  refine o_yield rfl rfl rfl (y_val tok rfl) ?_
  refine o_end [0, 2] rfl ?_
  refine x_then ?_
  refine c_scope ?_
  refine c_seq ?_
  refine c_region ?_
  refine o_step rfl rfl rfl rfl rfl (s_mkMapV rfl) (fun mt hmt => ?_)
  have hle0 : ∀ es, (vw w).le ((vw w).put mt (mvOb es)) := fun es => Vw.put_le (Vw.le.refl _) hmt
  refine o_yield rfl rfl rfl (y_val tok rfl) ?_
  refine o_yield rfl rfl rfl (y_val tok rfl) ?_
  refine o_end [0, 2, 3, 4] rfl ?_
  refine x_then ?_
  refine c_seq ?_
  refine c_region ?_
  refine o_yield rfl rfl rfl (y_val tok rfl) ?_
  refine o_call (.a (.v _)) rfl rfl fnok64 rfl rfl rfl (fun hg E w1 hm => by exact hwc _ ((hle0 _).trans hm.leV)) ?_
  refine o_yield rfl rfl rfl (y_val tok rfl) ?_
  refine o_end [2, 3, 4, 5] rfl ?_
  refine x_then ?_
  refine c_seq ?_
  refine c_label ?_
  refine x_then ?_
  refine c_seq ?_
  refine c_seq ?_
  refine c_region ?_
  refine o_yield rfl rfl rfl (y_val tok rfl) ?_
  refine o_yield rfl rfl rfl (y_len tok rfl (fun hg => (hsL0.mono (hle0 _)).sl)) ?_
  refine o_yield rfl rfl rfl (y_val tok rfl) ?_
  refine o_end [2, 3, 4, 5, 17, 18, 19] rfl ?_
  refine x_then ?_
  refine c_block ?_
  refine c_loopV [2, 3, 5, 17, 18] [] rfl rfl (σ := Nat × Nat × List (Int × Value) × (Int → Option (List ByteArray)) × Vw) (fun (i, f, es, T, Z) => [(4, .a (.v (I f))), (19, .a (.v (I i)))]) (fun (i, f, es, T, Z) => []) (fun (i, f, es, T, Z) => Z) (fun (i, f, es, T, Z) => (i ≤ L.length ∧ f ≤ i ∧ (vw w).le Z ∧ Z.get mt = some (mvOb es) ∧ MpR 9 Z es T ∧ blkT L [] (fun _ => none) = blkT (L.drop i) ((L.drop f).take (i - f)) T ∧ (∀ n p, T n = some p → ∀ s ∈ p, s.size ≤ 256))) (fun (i, f, es, T, Z) => L.length - i) ((0, 0, [], fun _ => none, (vw w).put mt (mvOb []))) (⟨by omega, by omega, hle0 _, Vw.put_get _ _ _, ⟨fun _ _ => rfl, fun _ _ h => (by cases h)⟩, rfl, fun _ _ h => (by cases h)⟩) (by repeat (first | exact SubF.nil | refine SubF.cons rfl ?_)) (by repeat (first | exact SubO.nil | refine SubO.cons rfl ?_)) rfl (Vw.le.refl _) ?_
  rintro ⟨i, f, es, T, Z⟩ ⟨hi, hfi, hZ, hmtZ, hT, hblk, hTz⟩
  dsimp only at hi hfi hZ hmtZ hT hblk hTz ⊢
  refine c_seq ?_
  refine c_region ?_
  refine o_yield rfl rfl rfl (y_val tok rfl) ?_
  refine o_end [2, 3, 4, 5, 17, 18, 19, 20] rfl ?_
  refine x_then ?_
  refine c_seq ?_
  refine c_cond rfl (fun h => ?_) (fun h => ?_)
  ·
    simp only [Bool.and_eq_true, Bool.or_eq_true, Bool.not_eq_true', Bool.or_eq_false_iff, Bool.and_eq_false_iff, decide_eq_true_eq, decide_eq_false_iff_not, beq_iff_eq, bne_iff_ne, Bool.not_eq_false', beq_eq_false_iff_ne, bne_eq_false_iff_eq, ne_eq, Decidable.not_not, Int.not_lt, Int.not_le] at h
    obtain ⟨r, h_r⟩ : ∃ r, L[i]? = some r := ⟨_, List.getElem?_eq_getElem (by omega)⟩
    have hlti := lt_of_at h_r
    clear h
    have hsLZ := hsL0.mono hZ
    have hdrop : L.drop i = r :: L.drop (i + 1) := drop_at h_r
    have hwi : IntKind.i64.wrap ((i : Int) + 1) = ((i + 1 : Nat) : Int) := wrapI (by omega) (by omega)
    rw [hdrop, blkT] at hblk
    refine c_skip ?_
    refine x_then ?_
    refine c_seq ?_
    refine c_block ?_
    refine c_seq ?_
    refine c_region ?_
    refine o_yield rfl rfl rfl (y_val tok rfl) ?_
    have hlt_r := lt_of_at h_r
    refine o_yield rfl rfl rfl (y_idx tok rfl (fun hg => hsLZ.sl) (fun hg => ⟨by omega, by omega⟩)) ?_
    refine o_yield rfl rfl rfl (y_lel tok (i) 0 (r) rfl (fun hg => hsLZ) (fun hg => h_r) rfl rfl) ?_
    refine o_new tok rfl rfl rfl rfl ?_
    refine o_yield rfl rfl rfl (y_val tok rfl) ?_
    refine o_store tok rfl rfl rfl (by first | exact ⟨trivial, trivial⟩ | (repeat' first | exact trivial | exact rfl | apply And.intro); done | simp [onesP, oneP, lk, Value.oneCell']) ?_
    refine o_end [2, 3, 4, 5, 6, 7, 17, 18, 19] rfl ?_
    refine x_then ?_
    refine c_seq ?_
    refine c_seq ?_
    refine c_region ?_
    refine o_yield rfl rfl rfl (y_val tok rfl) ?_
    refine o_yield rfl rfl rfl (y_val tok rfl) ?_
    refine o_yield rfl rfl rfl (y_val tok rfl) ?_
    refine o_end [2, 3, 4, 5, 6, 17, 18, 19, 26] rfl ?_
    refine x_then ?_
    refine c_cond rfl (fun h => ?_) (fun h => ?_)
    ·
      simp only [Bool.and_eq_true, Bool.or_eq_true, Bool.not_eq_true', Bool.or_eq_false_iff, Bool.and_eq_false_iff, decide_eq_true_eq, decide_eq_false_iff_not, beq_iff_eq, bne_iff_ne, Bool.not_eq_false', beq_eq_false_iff_ne, bne_eq_false_iff_eq, ne_eq, Decidable.not_not, Int.not_lt, Int.not_le] at h
      refine c_exit ?_
      refine x_then_exit ?_
      refine x_block_hit ?_
      refine x_then ?_
      refine c_region ?_
      refine o_yield rfl rfl rfl (y_val tok rfl) ?_
      refine o_yield rfl rfl rfl (y_val tok rfl) ?_
      refine o_end [2, 3, 4, 5, 17, 18, 19] rfl ?_
      refine x_then ?_
      rw [if_pos h, ← cut_snoc hfi h_r] at hblk
      rw [hwi]
      refine x_round ((i + 1, f, es, T, Z)) (⟨by dsimp only; omega, by dsimp only; omega, hZ, hmtZ, hT, hblk, hTz⟩) (by first | omega | (dsimp only; omega)) (by repeat (first | exact SubF.nil | refine SubF.cons rfl ?_)) (by repeat (first | exact SubO.nil | refine SubO.cons rfl ?_)) rfl (Vw.le.refl _)
    ·
      simp only [Bool.and_eq_true, Bool.or_eq_true, Bool.not_eq_true', Bool.or_eq_false_iff, Bool.and_eq_false_iff, decide_eq_true_eq, decide_eq_false_iff_not, beq_iff_eq, bne_iff_ne, Bool.not_eq_false', beq_eq_false_iff_ne, bne_eq_false_iff_eq, ne_eq, Decidable.not_not, Int.not_lt, Int.not_le] at h
      rw [if_neg h] at hblk
      clear h
      have hcut0 := hsLZ.cut (lo := f) (hi := i) hfi (by omega)
      obtain ⟨cur, hcur⟩ : ∃ cur, (L.drop f).take (i - f) = cur := ⟨_, rfl⟩
      have hcn : cur.length ≤ 1000000 := by rw [← hcur, List.length_take, List.length_drop]; omega
      have hcz : ∀ r ∈ cur, r.text.size ≤ 256 := fun r hr => hzL r (List.mem_of_mem_drop (List.mem_of_mem_take (hcur ▸ hr)))
      rw [hcur] at hcut0 hblk
      refine c_skip ?_
      refine x_then ?_
      refine c_seq ?_
      refine c_region ?_
      refine o_yield rfl rfl rfl (y_val tok rfl) ?_
      refine o_yield rfl rfl rfl (y_val tok rfl) ?_
      refine o_yield rfl rfl rfl (y_val tok rfl) ?_
      refine o_yield rfl rfl rfl (y_val tok rfl) ?_
      refine o_yield rfl rfl rfl (y_sl tok rfl (fun hg => hsLZ.sl) (fun hg => by dsimp only [Option.getD]; omega)) ?_
      rw [show ((some (f : Int)).getD 0).toNat = f from rfl, show ((some (i : Int)).getD (L.length : Int)).toNat = i from rfl]
      obtain ⟨xa, xn, xc, hX⟩ : ∃ xa xn xc, sliceV (.slice a L.length L.length) f i 6 = .slice xa xn xc := ⟨_, _, _, rfl⟩
      rw [hX] at hcut0 ⊢
      refine o_inl rfl rfl rfl rfl rfl fnok65 Try.func65 rfl rfl rfl (fun E => ?_)
      refine c_seq ?_
      refine c_region ?_
      refine o_step rfl rfl rfl rfl rfl (s_mkMapV rfl) (fun mf hmf => ?_)
      have hlef : ∀ es, Z.le (Z.put mf (mvOb es)) := fun es => Vw.put_le (Vw.le.refl _) hmf
      refine o_yield rfl rfl rfl (y_val tok rfl) ?_
      refine o_end [0, 1, 4] rfl ?_
      refine x_then ?_
      refine c_seq ?_
      refine c_seq ?_
      refine c_region ?_
      refine o_yield rfl rfl rfl (y_val tok rfl) ?_
      refine o_yield rfl rfl rfl (y_len tok rfl (fun hg => (hcut0.mono (hlef _)).sl)) ?_
      refine o_yield rfl rfl rfl (y_val tok rfl) ?_
      refine o_end [0, 4, 11, 12, 13] rfl ?_
      refine x_then ?_
      refine c_block ?_
      refine c_loopV [0, 4, 11, 12] [] rfl rfl (σ := Nat × List (Int × Value) × Vw) (fun (k, ef, Y) => [(13, .a (.v (I k)))]) (fun (k, ef, Y) => []) (fun (k, ef, Y) => Y) (fun (k, ef, Y) => (k ≤ cur.length ∧ Z.le Y ∧ Y.get mf = some (mvOb ef) ∧ MpF 9 Z Y ef (frT (cur.take k)))) (fun (k, ef, Y) => cur.length - k) ((0, [], Z.put mf (mvOb []))) (⟨by omega, hlef _, Vw.put_get _ _ _, ⟨⟨fun _ _ => rfl, fun _ _ h => (by cases h)⟩, fun _ _ h => (by cases h), fun _ _ _ h => (by cases h), List.nodup_nil⟩⟩) (by repeat (first | exact SubF.nil | refine SubF.cons rfl ?_)) (by repeat (first | exact SubO.nil | refine SubO.cons rfl ?_)) rfl (Vw.le.refl _) ?_
      rintro ⟨k, ef, Y⟩ ⟨hk, hZY, hYmf, hF⟩
      dsimp only at hk hZY hYmf hF ⊢
      refine c_seq ?_
      refine c_region ?_
      refine o_yield rfl rfl rfl (y_val tok rfl) ?_
      refine o_end [0, 4, 11, 12, 13, 14] rfl ?_
      refine x_then ?_
      refine c_seq ?_
      refine c_cond rfl (fun h => ?_) (fun h => ?_)
      ·
        simp only [Bool.and_eq_true, Bool.or_eq_true, Bool.not_eq_true', Bool.or_eq_false_iff, Bool.and_eq_false_iff, decide_eq_true_eq, decide_eq_false_iff_not, beq_iff_eq, bne_iff_ne, Bool.not_eq_false', beq_eq_false_iff_ne, bne_eq_false_iff_eq, ne_eq, Decidable.not_not, Int.not_lt, Int.not_le] at h
        obtain ⟨x, h_x⟩ : ∃ x, cur[k]? = some x := ⟨_, List.getElem?_eq_getElem (by omega)⟩
        have hltk := lt_of_at h_x
        clear h
        have hcutY := hcut0.mono hZY
        have hwk : IntKind.i64.wrap ((k : Int) + 1) = ((k + 1 : Nat) : Int) := wrapI (by omega) (by omega)
        cases hTx : frT (cur.take k) x.block with
        | none =>
          refine c_skip ?_
          refine x_then ?_
          refine c_seq ?_
          refine c_block ?_
          refine c_seq ?_
          refine c_region ?_
          have hlt_x := lt_of_at h_x
          refine o_yield rfl rfl rfl (y_idx tok rfl (fun hg => hcutY.sl) (fun hg => ⟨by omega, by omega⟩)) ?_
          refine o_yield rfl rfl rfl (y_lel tok (k) 0 (x) rfl (fun hg => hcutY) (fun hg => h_x) rfl rfl) ?_
          refine o_new tok rfl rfl rfl rfl ?_
          refine o_store tok rfl rfl rfl (by first | exact ⟨trivial, trivial⟩ | (repeat' first | exact trivial | exact rfl | apply And.intro); done | simp [onesP, oneP, lk, Value.oneCell']) ?_
          refine o_end [0, 4, 6, 11, 12, 13] rfl ?_
          refine x_then ?_
          refine c_seq ?_
          refine c_region ?_
          refine o_yield rfl rfl rfl (y_val tok rfl) ?_
          refine o_yield rfl rfl rfl (y_val tok rfl) ?_
          refine o_yield rfl rfl rfl (y_val tok rfl) ?_
          refine o_yield rfl rfl rfl (y_lkpV ef (.slice none 0 0) rfl Try.underlying131 Try.underlying3 (fun w => Try.zeroValue44 w) (fun hg => hYmf) (fun hg => by rw [hF.r.none_ _ hTx]; rfl)) ?_
          refine o_yield rfl rfl rfl (y_val tok rfl) ?_
          refine o_end [0, 4, 6, 7, 11, 12, 13] rfl ?_
          refine x_then ?_
          refine c_seq ?_
          refine c_seq ?_
          refine c_region ?_
          refine o_yield rfl rfl rfl (y_val tok rfl) ?_
          refine o_yield rfl rfl rfl (y_seq (.bool true) rfl (fun E w => run_slEqN 0 0 Try.underlying44 w)) ?_
          refine o_end [0, 4, 6, 7, 11, 12, 13, 22] rfl ?_
          refine x_then ?_
          refine c_cond rfl (fun h => ?_) (fun h => ?_)
          ·
            refine c_region ?_
            refine o_step rfl rfl rfl rfl rfl (s_mkV tok 8 8 rfl rfl rfl (by decide) (by decide) (by decide)) (fun b hbY => ?_)
            obtain ⟨Vp, hVpe⟩ : ∃ Vp, Vp = Y.put b (pcOb 9 no8) := ⟨_, rfl⟩
            have hVpe2 : Y.put b (.cells (repZ 8 [.string ByteArray.empty]).toArray 9 (0, 0)) = Vp := hVpe.symm
            have hVp : Y.le Vp := by rw [hVpe]; exact Vw.put_le (Vw.le.refl _) hbY
            have hbq : Vp.get b = some (pcOb 9 no8) := by rw [hVpe]; exact Vw.put_get _ _ _
            have hb0 : Z.get b = none := by
              cases hq : Z.get b with
              | none => rfl
              | some o => have := hZY.get _ _ hq; rw [hbY] at this; cases this
            have hmfb : mf ≠ b := fun e => by rw [← e, hYmf] at hbY; cases hbY
            have hq8 : no8.length = 8 := rfl
            have hcase : (frT (cur.take k) x.block = some no8 ∧ mvGet ef x.block = some (slV b)) ∨ (frT (cur.take k) x.block = none ∧ no8 = no8 ∧ Y.get b = none) := .inr ⟨hTx, rfl, hbY⟩
            have hpnil : True := trivial
            rw [hVpe2]
            refine o_yield rfl rfl rfl (y_val tok rfl) ?_
            refine o_end [0, 4, 6, 7, 11, 12, 13] rfl ?_
            refine x_then ?_
            refine c_seq ?_
            refine c_region ?_
            refine o_yield rfl rfl rfl (y_val tok rfl) ?_
            refine o_yield rfl rfl rfl (y_val tok rfl) ?_
            refine o_yield rfl rfl rfl (y_val tok rfl) ?_
            refine o_yield rfl rfl rfl (y_val tok rfl) ?_
            refine o_yield rfl rfl rfl (y_val tok rfl) ?_
            refine o_yield rfl rfl rfl (y_val tok rfl) ?_
            refine o_yield rfl rfl rfl (y_val tok rfl) ?_
            clear hpnil
            have hspV : IsSl Vp (slV b) 1 8 (no8.flatMap encS) := by
              have := (slP hbq hq8).sl
              rwa [hq8] at this
            refine o_yield rfl rfl rfl (y_lenP tok rfl) ?_
            refine o_yield rfl rfl rfl (y_val tok rfl) ?_
            refine o_yield rfl rfl rfl (y_val tok rfl) ?_
            refine o_end [0, 4, 6, 7, 11, 12, 13, 33] rfl ?_
            refine x_then ?_
            refine c_cond rfl (fun h => ?_) (fun h => ?_)
            ·
              simp only [Bool.and_eq_true, Bool.or_eq_true, Bool.not_eq_true', Bool.or_eq_false_iff, Bool.and_eq_false_iff, decide_eq_true_eq, decide_eq_false_iff_not, beq_iff_eq, bne_iff_ne, Bool.not_eq_false', beq_eq_false_iff_ne, bne_eq_false_iff_eq, ne_eq, Decidable.not_not, Int.not_lt, Int.not_le] at h
              refine c_seq ?_
              refine c_region ?_
              refine o_yield rfl rfl rfl (y_val tok rfl) ?_
              refine o_yield rfl rfl rfl (y_val tok rfl) ?_
              refine o_yield rfl rfl rfl (y_val tok rfl) ?_
              refine o_yield rfl rfl rfl (y_val tok rfl) ?_
              refine o_yield rfl rfl rfl (y_val tok rfl) ?_
              have hk8 : x.k.toNat < 8 := by omega
              refine o_yield rfl rfl rfl (y_idxK tok x.k.toNat rfl (by simp) (fun hg => hspV) (fun hg => by omega)) ?_
              refine o_stepN rfl rfl rfl rfl (s_vst tok (b := b) (off := 0) rfl hbq (by simp; omega) (.inl (Nat.zero_le _)) rfl) (fun _ _ => ?_)
              refine o_end [0, 4, 6, 7, 11, 12, 13] rfl ?_
              refine x_then ?_
              refine c_region ?_
              refine o_yield rfl rfl rfl (y_val tok rfl) ?_
              refine o_yield rfl rfl rfl (y_val tok rfl) ?_
              refine o_yield rfl rfl rfl (y_val tok rfl) ?_
              refine o_yield rfl rfl rfl (y_val tok rfl) ?_
              rw [set_str]
              refine o_stepN rfl rfl rfl rfl (s_mapPut ef rfl rfl Try.underlying131 Try.underlying3 ((Vw.put_other _ _ hmfb).trans (hVp.get _ _ hYmf))) (fun _ _ => ?_)
              refine o_end [0, 4, 11, 12, 13] rfl ?_
              refine x_block ?_
              refine x_then ?_
              refine c_region ?_
              refine o_yield rfl rfl rfl (y_val tok rfl) ?_
              refine o_yield rfl rfl rfl (y_val tok rfl) ?_
              refine o_end [0, 4, 11, 12, 13] rfl ?_
              refine x_then ?_
              obtain ⟨hs1, hs2⟩ := mp_step (blk := x.block) (k := x.k) (t := x.text) hF hZY hVp hYmf hmf hbq hq8 hb0 hcase
              have hfr : frT (cur.take (k + 1)) = pcS (frT (cur.take k)) x.block x.k x.text := by rw [rp_take h_x, frT_snoc, frS, if_pos (by omega)]
              rw [← hfr] at hs1
              rw [hwk]
              refine x_round ((k + 1, mvPut ef x.block (slV b), (Vp.put b (pcOb 9 (no8.set x.k.toNat x.text))).put mf (mvOb (mvPut ef x.block (slV b))))) (⟨by dsimp only; omega, hs2, Vw.put_get _ _ _, hs1⟩) (by first | omega | (dsimp only; omega)) (by repeat (first | exact SubF.nil | refine SubF.cons rfl ?_)) (by repeat (first | exact SubO.nil | refine SubO.cons rfl ?_)) rfl (Vw.le.refl _)
            ·
              simp only [Bool.and_eq_true, Bool.or_eq_true, Bool.not_eq_true', Bool.or_eq_false_iff, Bool.and_eq_false_iff, decide_eq_true_eq, decide_eq_false_iff_not, beq_iff_eq, bne_iff_ne, Bool.not_eq_false', beq_eq_false_iff_ne, bne_eq_false_iff_eq, ne_eq, Decidable.not_not, Int.not_lt, Int.not_le] at h
              refine c_skip ?_
              refine x_block ?_
              refine x_then ?_
              refine c_region ?_
              refine o_yield rfl rfl rfl (y_val tok rfl) ?_
              refine o_yield rfl rfl rfl (y_val tok rfl) ?_
              refine o_end [0, 4, 11, 12, 13] rfl ?_
              refine x_then ?_
              have hfr : frT (cur.take (k + 1)) = frT (cur.take k) := by rw [rp_take h_x, frT_snoc, frS, if_neg (by omega)]
              rw [hwk]
              refine x_round ((k + 1, ef, Vp)) (⟨by dsimp only; omega, hZY.trans hVp, hVp.get _ _ hYmf, by dsimp only; rw [hfr]; exact mpf_mono hF hVp⟩) (by first | omega | (dsimp only; omega)) (by repeat (first | exact SubF.nil | refine SubF.cons rfl ?_)) (by repeat (first | exact SubO.nil | refine SubO.cons rfl ?_)) rfl (Vw.le.refl _)
          ·
            exact absurd h (by decide)
        | some q =>
          obtain ⟨b, hgb, hbY, hq8⟩ := hF.r.some_ _ _ hTx
          refine c_skip ?_
          refine x_then ?_
          refine c_seq ?_
          refine c_block ?_
          refine c_seq ?_
          refine c_region ?_
          have hlt_x := lt_of_at h_x
          refine o_yield rfl rfl rfl (y_idx tok rfl (fun hg => hcutY.sl) (fun hg => ⟨by omega, by omega⟩)) ?_
          refine o_yield rfl rfl rfl (y_lel tok (k) 0 (x) rfl (fun hg => hcutY) (fun hg => h_x) rfl rfl) ?_
          refine o_new tok rfl rfl rfl rfl ?_
          refine o_store tok rfl rfl rfl (by first | exact ⟨trivial, trivial⟩ | (repeat' first | exact trivial | exact rfl | apply And.intro); done | simp [onesP, oneP, lk, Value.oneCell']) ?_
          refine o_end [0, 4, 6, 11, 12, 13] rfl ?_
          refine x_then ?_
          refine c_seq ?_
          refine c_region ?_
          refine o_yield rfl rfl rfl (y_val tok rfl) ?_
          refine o_yield rfl rfl rfl (y_val tok rfl) ?_
          refine o_yield rfl rfl rfl (y_val tok rfl) ?_
          refine o_yield rfl rfl rfl (y_lkpV ef (slV b) rfl Try.underlying131 Try.underlying3 (fun w => Try.zeroValue44 w) (fun hg => hYmf) (fun hg => by rw [hgb]; rfl)) ?_
          refine o_yield rfl rfl rfl (y_val tok rfl) ?_
          refine o_end [0, 4, 6, 7, 11, 12, 13] rfl ?_
          refine x_then ?_
          refine c_seq ?_
          refine c_seq ?_
          refine c_region ?_
          refine o_yield rfl rfl rfl (y_val tok rfl) ?_
          refine o_yield rfl rfl rfl (y_seq (.bool false) rfl (fun E w => run_slEqS ⟨b, 0, none⟩ 8 8 Try.underlying44 w)) ?_
          refine o_end [0, 4, 6, 7, 11, 12, 13, 22] rfl ?_
          refine x_then ?_
          refine c_cond rfl (fun h => ?_) (fun h => ?_)
          ·
            exact absurd h (by decide)
          ·
            refine c_skip ?_
            refine x_then ?_
            refine c_seq ?_
            refine c_region ?_
            refine o_yield rfl rfl rfl (y_val tok rfl) ?_
            refine o_yield rfl rfl rfl (y_val tok rfl) ?_
            refine o_yield rfl rfl rfl (y_val tok rfl) ?_
            refine o_yield rfl rfl rfl (y_val tok rfl) ?_
            refine o_yield rfl rfl rfl (y_val tok rfl) ?_
            refine o_yield rfl rfl rfl (y_val tok rfl) ?_
            refine o_yield rfl rfl rfl (y_val tok rfl) ?_
            have hpnil : True := trivial
            have hVp : Y.le Y := Vw.le.refl _
            obtain ⟨Vp, hVpe⟩ : ∃ Vp, Vp = Y := ⟨_, rfl⟩
            have hbq : Y.get b = some (pcOb 9 q) := hbY
            have hb0 : Z.get b = none := hF.fresh _ _ hgb
            have hmfb : mf ≠ b := fun e => by rw [← e, hYmf] at hbY; cases hbY
            have hcase : (frT (cur.take k) x.block = some q ∧ mvGet ef x.block = some (slV b)) ∨ (frT (cur.take k) x.block = none ∧ q = no8 ∧ Y.get b = none) := .inl ⟨hTx, hgb⟩
            clear hpnil
            have hspV : IsSl Y (slV b) 1 8 (q.flatMap encS) := by
              have := (slP hbq hq8).sl
              rwa [hq8] at this
            refine o_yield rfl rfl rfl (y_lenP tok rfl) ?_
            refine o_yield rfl rfl rfl (y_val tok rfl) ?_
            refine o_yield rfl rfl rfl (y_val tok rfl) ?_
            refine o_end [0, 4, 6, 7, 11, 12, 13, 33] rfl ?_
            refine x_then ?_
            refine c_cond rfl (fun h => ?_) (fun h => ?_)
            ·
              simp only [Bool.and_eq_true, Bool.or_eq_true, Bool.not_eq_true', Bool.or_eq_false_iff, Bool.and_eq_false_iff, decide_eq_true_eq, decide_eq_false_iff_not, beq_iff_eq, bne_iff_ne, Bool.not_eq_false', beq_eq_false_iff_ne, bne_eq_false_iff_eq, ne_eq, Decidable.not_not, Int.not_lt, Int.not_le] at h
              refine c_seq ?_
              refine c_region ?_
              refine o_yield rfl rfl rfl (y_val tok rfl) ?_
              refine o_yield rfl rfl rfl (y_val tok rfl) ?_
              refine o_yield rfl rfl rfl (y_val tok rfl) ?_
              refine o_yield rfl rfl rfl (y_val tok rfl) ?_
              refine o_yield rfl rfl rfl (y_val tok rfl) ?_
              have hk8 : x.k.toNat < 8 := by omega
              refine o_yield rfl rfl rfl (y_idxK tok x.k.toNat rfl (by simp) (fun hg => hspV) (fun hg => by omega)) ?_
              refine o_stepN rfl rfl rfl rfl (s_vst tok (b := b) (off := 0) rfl hbq (by simp; omega) (.inl (Nat.zero_le _)) rfl) (fun _ _ => ?_)
              refine o_end [0, 4, 6, 7, 11, 12, 13] rfl ?_
              refine x_then ?_
              refine c_region ?_
              refine o_yield rfl rfl rfl (y_val tok rfl) ?_
              refine o_yield rfl rfl rfl (y_val tok rfl) ?_
              refine o_yield rfl rfl rfl (y_val tok rfl) ?_
              refine o_yield rfl rfl rfl (y_val tok rfl) ?_
              rw [set_str]
              refine o_stepN rfl rfl rfl rfl (s_mapPut ef rfl rfl Try.underlying131 Try.underlying3 ((Vw.put_other _ _ hmfb).trans (hVp.get _ _ hYmf))) (fun _ _ => ?_)
              refine o_end [0, 4, 11, 12, 13] rfl ?_
              refine x_block ?_
              refine x_then ?_
              refine c_region ?_
              refine o_yield rfl rfl rfl (y_val tok rfl) ?_
              refine o_yield rfl rfl rfl (y_val tok rfl) ?_
              refine o_end [0, 4, 11, 12, 13] rfl ?_
              refine x_then ?_
              obtain ⟨hs1, hs2⟩ := mp_step (blk := x.block) (k := x.k) (t := x.text) hF hZY hVp hYmf hmf hbq hq8 hb0 hcase
              have hfr : frT (cur.take (k + 1)) = pcS (frT (cur.take k)) x.block x.k x.text := by rw [rp_take h_x, frT_snoc, frS, if_pos (by omega)]
              rw [← hfr] at hs1
              rw [hwk]
              refine x_round ((k + 1, mvPut ef x.block (slV b), (Y.put b (pcOb 9 (q.set x.k.toNat x.text))).put mf (mvOb (mvPut ef x.block (slV b))))) (⟨by dsimp only; omega, hs2, Vw.put_get _ _ _, hs1⟩) (by first | omega | (dsimp only; omega)) (by repeat (first | exact SubF.nil | refine SubF.cons rfl ?_)) (by repeat (first | exact SubO.nil | refine SubO.cons rfl ?_)) rfl (Vw.le.refl _)
            ·
              simp only [Bool.and_eq_true, Bool.or_eq_true, Bool.not_eq_true', Bool.or_eq_false_iff, Bool.and_eq_false_iff, decide_eq_true_eq, decide_eq_false_iff_not, beq_iff_eq, bne_iff_ne, Bool.not_eq_false', beq_eq_false_iff_ne, bne_eq_false_iff_eq, ne_eq, Decidable.not_not, Int.not_lt, Int.not_le] at h
              refine c_skip ?_
              refine x_block ?_
              refine x_then ?_
              refine c_region ?_
              refine o_yield rfl rfl rfl (y_val tok rfl) ?_
              refine o_yield rfl rfl rfl (y_val tok rfl) ?_
              refine o_end [0, 4, 11, 12, 13] rfl ?_
              refine x_then ?_
              have hfr : frT (cur.take (k + 1)) = frT (cur.take k) := by rw [rp_take h_x, frT_snoc, frS, if_neg (by omega)]
              rw [hwk]
              refine x_round ((k + 1, ef, Y)) (⟨by dsimp only; omega, hZY.trans hVp, hVp.get _ _ hYmf, by dsimp only; rw [hfr]; exact mpf_mono hF hVp⟩) (by first | omega | (dsimp only; omega)) (by repeat (first | exact SubF.nil | refine SubF.cons rfl ?_)) (by repeat (first | exact SubO.nil | refine SubO.cons rfl ?_)) rfl (Vw.le.refl _)
      ·
        simp only [Bool.and_eq_true, Bool.or_eq_true, Bool.not_eq_true', Bool.or_eq_false_iff, Bool.and_eq_false_iff, decide_eq_true_eq, decide_eq_false_iff_not, beq_iff_eq, bne_iff_ne, Bool.not_eq_false', beq_eq_false_iff_ne, bne_eq_false_iff_eq, ne_eq, Decidable.not_not, Int.not_lt, Int.not_le] at h
        have hkc : k = cur.length := by omega
        subst hkc
        clear h
        rw [List.take_of_length_le (Nat.le_refl _)] at hF
        have hFz := frT_sizes _ cur rfl hcz
        obtain ⟨F, hFe⟩ : ∃ F, frT cur = F := ⟨_, rfl⟩
        rw [hFe] at hF hblk hFz
        have hmtY : Y.get mt = some (mvOb es) := hZY.get _ _ hmtZ
        have hmtf : mt ≠ mf := fun e => by rw [e, hmf] at hmtZ; cases hmtZ
        have hTY := hT.mono hZY
        refine c_exit ?_
        refine x_then_exit ?_
        refine x_then_exit ?_
        refine x_block_hit ?_
        refine x_then ?_
        refine c_seq ?_
        refine c_region ?_
        refine o_yield rfl rfl rfl (y_val tok rfl) ?_
        refine o_step rfl rfl rfl rfl rfl (s_rng ef rfl Try.underlying131 hYmf) (fun rr hrr => ?_)
        have hrt : rr ≠ mt := fun e => by rw [e, hmtY] at hrr; cases hrr
        have hrf : rr ≠ mf := fun e => by rw [e, hYmf] at hrr; cases hrr
        have hinit : ((Y.put rr (itOb mf ef.length #[] ef.length)).put mt (mvOb es)).le (Y.put rr (itOb mf ef.length #[] ef.length)) := by
          rw [Vw.put_self ((Vw.put_other _ _ hrt.symm).trans hmtY)]
          exact Vw.le.refl _
        refine o_end [0, 46] rfl ?_
        refine x_then ?_
        refine c_block ?_
        refine c_loopV [0, 46] [] rfl rfl (σ := Array Nat × List (Int × Value) × Nat) (fun (seen, et, cl) => []) (fun (seen, et, cl) => []) (fun (seen, et, cl) => (Y.put rr (itOb mf ef.length seen cl)).put mt (mvOb et)) (fun (seen, et, cl) => (ef.length ≤ cl ∧ (∀ n, (∃ (i : Nat) (v : Value), i ∈ seen ∧ ef[i]? = some (n, v)) → mvGet et n = mvGet ef n) ∧ (∀ n, ¬ (∃ (i : Nat) (v : Value), i ∈ seen ∧ ef[i]? = some (n, v)) → mvGet et n = mvGet es n))) (fun (seen, et, cl) => (List.range ef.length).countP (fun i => !seen.contains i)) ((#[], es, ef.length)) (⟨Nat.le_refl _, fun n ⟨i, v, hi, _⟩ => (by simp at hi), fun n _ => rfl⟩) (by repeat (first | exact SubF.nil | refine SubF.cons rfl ?_)) (by repeat (first | exact SubO.nil | refine SubO.cons rfl ?_)) rfl (hinit) ?_
        rintro ⟨seen, et, cl⟩ ⟨hcl, hA, hB⟩
        dsimp only at hcl hA hB ⊢
        have hgr : ((Y.put rr (itOb mf ef.length seen cl)).put mt (mvOb et)).get rr = some (itOb mf ef.length seen cl) := by rw [Vw.put_other _ _ hrt, Vw.put_get]
        have hgf : ((Y.put rr (itOb mf ef.length seen cl)).put mt (mvOb et)).get mf = some (mvOb ef) := by rw [Vw.put_other _ _ hmtf.symm, Vw.put_other _ _ hrf.symm]; exact hYmf
        refine c_seq ?_
        refine c_region ?_
        refine o_step rfl rfl rfl rfl rfl (s_nxt ef rfl hgr hcl hgf) (fun q hq => ?_)
        rcases q with _ | ⟨j, kk, vv⟩
        rotate_left
        · obtain ⟨hj, hjs⟩ := hq
          have hjl := lt_of_at hj
          dsimp only
          refine o_yield rfl rfl rfl (y_val tok rfl) ?_
          refine o_end [0, 46, 48] rfl ?_
          refine x_then ?_
          refine c_seq ?_
          refine c_cond rfl (fun h => ?_) (fun h => ?_)
          ·
            refine c_skip ?_
            refine x_then ?_
            refine c_block ?_
            refine c_seq ?_
            refine c_region ?_
            refine o_yield rfl rfl rfl (y_ent ef rfl (fun hg => Vw.put_get _ _ _) (fun hg => (Vw.put_other _ _ hrf.symm).trans hgf) (fun hg => hj)) ?_
            refine o_yield rfl rfl rfl (y_val tok rfl) ?_
            refine o_yield rfl rfl rfl (y_val tok rfl) ?_
            refine o_yield rfl rfl rfl (y_val tok rfl) ?_
            refine o_yield rfl rfl rfl (y_val tok rfl) ?_
            refine o_end [0, 8, 9, 46] rfl ?_
            refine x_then ?_
            refine c_region ?_
            refine o_yield rfl rfl rfl (y_val tok rfl) ?_
            refine o_yield rfl rfl rfl (y_val tok rfl) ?_
            refine o_yield rfl rfl rfl (y_val tok rfl) ?_
            refine o_stepN rfl rfl rfl rfl (s_mapPut et rfl rfl Try.underlying131 Try.underlying3 ((Vw.put_other _ _ hrt.symm).trans (Vw.put_get _ _ _))) (fun _ _ => ?_)
            refine o_end [0, 46] rfl ?_
            refine x_block ?_
            refine x_then ?_
            rw [Vw.put4 _ _ _ _ _ hrt]
            have hA2 : ∀ n, (∃ (i : Nat) (v : Value), i ∈ seen.push j ∧ ef[i]? = some (n, v)) → mvGet (mvPut et kk vv) n = mvGet ef n := by
              rintro n ⟨i2, v2, hi2, he2⟩
              rw [mvGet_put]
              split
              · rename_i e; subst e; exact (mvGet_at hF.nodup hj).symm
              · rename_i hne
                rw [Array.mem_push] at hi2
                rcases hi2 with hi2 | rfl
                · exact hA n ⟨i2, v2, hi2, he2⟩
                · rw [hj] at he2; cases he2; exact absurd rfl hne
            have hB2 : ∀ n, ¬ (∃ (i : Nat) (v : Value), i ∈ seen.push j ∧ ef[i]? = some (n, v)) → mvGet (mvPut et kk vv) n = mvGet es n := by
              intro n hno
              rw [mvGet_put, if_neg (fun e => hno ⟨j, vv, by simp, by rw [hj, e]⟩)]
              exact hB n (fun ⟨i2, v2, hi2, he2⟩ => hno ⟨i2, v2, by rw [Array.mem_push]; exact .inl hi2, he2⟩)
            have hms := unseen_lt hjl hjs
            refine x_round ((seen.push j, mvPut et kk vv, ef.length)) (⟨Nat.le_refl _, hA2, hB2⟩) (by first | omega | (dsimp only; omega)) (by repeat (first | exact SubF.nil | refine SubF.cons rfl ?_)) (by repeat (first | exact SubO.nil | refine SubO.cons rfl ?_)) rfl (Vw.le.refl _)
          ·
            exact absurd h (by decide)
        · dsimp only at hq ⊢
          refine o_yield rfl rfl rfl (y_val tok rfl) ?_
          refine o_end [0, 46, 48] rfl ?_
          refine x_then ?_
          refine c_seq ?_
          refine c_cond rfl (fun h => ?_) (fun h => ?_)
          ·
            exact absurd h (by decide)
          ·
            refine c_exit ?_
            refine x_then_exit ?_
            refine x_then_exit ?_
            refine x_block_hit ?_
            refine b_end tok rfl ?_
            intro E1 w1 hm1 hok1
            refine inl_end (E := E) hm1 hok1 rfl rfl (by repeat (first | exact KeepsIn.zero | refine KeepsIn.succ rfl ?_)) rfl (by repeat (first | exact SubO.nil | refine SubO.cons rfl ?_)) rfl ?_
            clear hm1 hok1 w1 E1 E
            refine o_end [2, 3, 5, 6, 17, 18, 19] rfl ?_
            refine x_then ?_
            refine c_region ?_
            refine o_yield rfl rfl rfl (y_val tok rfl) ?_
            refine o_yield rfl rfl rfl (y_val tok rfl) ?_
            refine o_yield rfl rfl rfl (y_val tok rfl) ?_
            refine o_end [2, 3, 4, 5, 17, 18, 19] rfl ?_
            refine x_block ?_
            refine x_then ?_
            refine c_region ?_
            refine o_yield rfl rfl rfl (y_val tok rfl) ?_
            refine o_yield rfl rfl rfl (y_val tok rfl) ?_
            refine o_end [2, 3, 4, 5, 17, 18, 19] rfl ?_
            refine x_then ?_
            have hfin : ∀ n, mvGet et n = match mvGet ef n with | some v => some v | none => mvGet es n := by
              intro n
              cases hq2 : mvGet ef n with
              | some v =>
                obtain ⟨i2, hi2⟩ := at_mvGet hq2
                exact (hA n ⟨i2, v, hq i2 (lt_of_at hi2), hi2⟩).trans hq2
              | none =>
                refine hB n ?_
                rintro ⟨i2, v2, _, he2⟩
                rw [mvGet_at hF.nodup he2] at hq2
                cases hq2
            have hkeep : ∀ b p, Y.get b = some (pcOb 9 p) → ((Y.put rr (itOb mf ef.length seen cl)).put mt (mvOb et)).get b = some (pcOb 9 p) := by
              intro b p hb
              have h1 : b ≠ mt := fun e => by rw [e, hmtY] at hb; cases hb
              have h2 : b ≠ rr := fun e => by rw [e, hrr] at hb; cases hb
              rw [Vw.put_other _ _ h1, Vw.put_other _ _ h2]
              exact hb
            have hR : MpR 9 ((Y.put rr (itOb mf ef.length seen cl)).put mt (mvOb et)) et (takeT T F) := by
              refine ⟨fun n hn => ?_, fun n p hp => ?_⟩
              · rw [takeT] at hn
                rw [hfin]
                cases hq2 : F n with
                | some p => rw [hq2] at hn; cases hn
                | none =>
                  rw [hq2] at hn
                  rw [hF.r.none_ n hq2]
                  exact hTY.none_ n hn
              · rw [takeT] at hp
                rw [hfin]
                cases hq2 : F n with
                | some p2 =>
                  rw [hq2] at hp
                  cases hp
                  obtain ⟨b, h1, h2, h3⟩ := hF.r.some_ n p hq2
                  exact ⟨b, by rw [h1], hkeep b p h2, h3⟩
                | none =>
                  rw [hq2] at hp
                  obtain ⟨b, h1, h2, h3⟩ := hTY.some_ n p hp
                  exact ⟨b, by rw [hF.r.none_ n hq2]; exact h1, hkeep b p h2, h3⟩
            have hsz : ∀ n p, takeT T F n = some p → ∀ s ∈ p, s.size ≤ 256 := by
              intro n p hp
              rw [takeT] at hp
              cases hq2 : F n with
              | some p2 => rw [hq2] at hp; cases hp; exact hFz n p hq2
              | none => rw [hq2] at hp; exact hTz n p hp
            have hwZ : (vw w).le ((Y.put rr (itOb mf ef.length seen cl)).put mt (mvOb et)) := by
              have h0 := hZ.trans hZY
              refine ⟨fun k o hk => ?_, h0.os, h0.tape, h0.output⟩
              have h1 : k ≠ mt := fun e => by rw [e, hmt] at hk; cases hk
              have h2 : k ≠ rr := fun e => by have := h0.get _ _ hk; rw [e, hrr] at this; cases this
              rw [Vw.put_other _ _ h1, Vw.put_other _ _ h2]
              exact h0.get _ _ hk
            rw [hwi]
            refine x_round ((i + 1, i + 1, et, takeT T F, (Y.put rr (itOb mf ef.length seen cl)).put mt (mvOb et))) (⟨by dsimp only; omega, Nat.le_refl _, hwZ, Vw.put_get _ _ _, hR, by dsimp only; rw [Nat.sub_self, List.take_zero]; exact hblk, hsz⟩) (by first | omega | (dsimp only; omega)) (by repeat (first | exact SubF.nil | refine SubF.cons rfl ?_)) (by repeat (first | exact SubO.nil | refine SubO.cons rfl ?_)) rfl (Vw.le.refl _)
  ·
    simp only [Bool.and_eq_true, Bool.or_eq_true, Bool.not_eq_true', Bool.or_eq_false_iff, Bool.and_eq_false_iff, decide_eq_true_eq, decide_eq_false_iff_not, beq_iff_eq, bne_iff_ne, Bool.not_eq_false', beq_eq_false_iff_ne, bne_eq_false_iff_eq, ne_eq, Decidable.not_not, Int.not_lt, Int.not_le] at h
    have hiL : i = L.length := by omega
    subst hiL
    clear h
    rw [List.drop_length, blkT] at hblk
    have hsc : scanB L = mkF (fun n => (T n).map catP) 0 64 := by rw [scan_blk, hblk]
    generalize hF : (fun n => (T n).map catP) = f8 at hsc
    refine c_exit ?_
    refine x_then_exit ?_
    refine x_then_exit ?_
    refine x_block_hit ?_
    refine x_then ?_
    refine c_seq ?_
    refine c_seq ?_
    refine c_region ?_
    refine o_yield rfl rfl rfl (y_val tok rfl) ?_
    refine o_end [2, 3, 36] rfl ?_
    refine x_then ?_
    refine c_block ?_
    refine k_nil 2 117 2 rfl rfl ?_
    have e0 : mkF f8 0 0 = [] := rfl
    refine c_loopK [3] [0] rfl rfl (σ := Nat) (fun j => [(2, .a (.row 0)), (36, .a (.v (I j)))]) (fun j => [(0, .row 117 2 (mkF f8 0 j).length ((mkF f8 0 j).flatMap Block.cells))]) (fun j => j ≤ 64) (fun j => 64 - j) (0) (by omega) (by repeat (first | exact SubF.nil | refine SubF.cons rfl ?_ | refine SubF.cons (by simp only [e0]; first | done | rfl) ?_)) (by repeat (first | exact SubO.nil | refine SubO.cons rfl ?_ | refine SubO.cons (by simp only [e0]; first | done | rfl) ?_)) rfl ?_
    rintro j hj
    have hml := mkF_len f8 j 0
    refine c_seq ?_
    refine c_region ?_
    refine o_yield rfl rfl rfl (y_val tok rfl) ?_
    refine o_end [2, 3, 36, 37] rfl ?_
    refine x_then ?_
    refine c_seq ?_
    refine c_cond rfl (fun h => ?_) (fun h => ?_)
    ·
      simp only [Bool.and_eq_true, Bool.or_eq_true, Bool.not_eq_true', Bool.or_eq_false_iff, Bool.and_eq_false_iff, decide_eq_true_eq, decide_eq_false_iff_not, beq_iff_eq, bne_iff_ne, Bool.not_eq_false', beq_eq_false_iff_ne, bne_eq_false_iff_eq, ne_eq, Decidable.not_not, Int.not_lt, Int.not_le] at h
      have hjlt : j < 64 := by omega
      clear h
      have hwj : IntKind.i64.wrap ((j : Int) + 1) = ((j + 1 : Nat) : Int) := wrapI (by omega) (by omega)
      have hfj : f8 (j : Int) = (T (j : Int)).map catP := by rw [← hF]
      have hsn := mkF_snoc f8 j 0
      rw [Int.zero_add, hfj] at hsn
      cases hTj : T (j : Int) with
      | none =>
        rw [hTj] at hsn
        have hsn2 : mkF f8 0 (j + 1) = mkF f8 0 j := by rw [hsn]; exact List.append_nil _
        refine c_skip ?_
        refine x_then ?_
        refine c_seq ?_
        refine c_block ?_
        refine c_seq ?_
        refine c_region ?_
        refine o_yield rfl rfl rfl (y_val tok rfl) ?_
        refine o_yield rfl rfl rfl (y_val tok rfl) ?_
        refine o_end [2, 3, 8, 36] rfl ?_
        refine x_then ?_
        refine c_seq ?_
        refine c_region ?_
        refine o_yield rfl rfl rfl (y_val tok rfl) ?_
        refine o_yield rfl rfl rfl (y_val tok rfl) ?_
        refine o_yield rfl rfl rfl (y_lkpV2 es (.slice none 0 0) false rfl Try.underlying131 Try.underlying3 (fun w => Try.zeroValue44 w) (fun hg => hmtZ) (fun hg => by rw [hT.none_ _ hTj]; exact ⟨rfl, rfl⟩)) ?_
        refine o_yield rfl rfl rfl (y_val tok rfl) ?_
        refine o_yield rfl rfl rfl (y_val tok rfl) ?_
        refine o_yield rfl rfl rfl (y_val tok rfl) ?_
        refine o_yield rfl rfl rfl (y_val tok rfl) ?_
        refine o_yield rfl rfl rfl (y_val tok rfl) ?_
        refine o_end [2, 3, 8, 9, 10, 36] rfl ?_
        refine x_then ?_
        refine c_seq ?_
        refine c_seq ?_
        refine c_region ?_
        refine o_yield rfl rfl rfl (y_val tok rfl) ?_
        refine o_yield rfl rfl rfl (y_val tok rfl) ?_
        refine o_end [2, 3, 8, 9, 36, 46] rfl ?_
        refine x_then ?_
        refine c_cond rfl (fun h => ?_) (fun h => ?_)
        ·
          refine c_exit ?_
          refine x_then_exit ?_
          refine x_block_hit ?_
          refine x_then ?_
          refine c_region ?_
          refine o_yield rfl rfl rfl (y_val tok rfl) ?_
          refine o_yield rfl rfl rfl (y_val tok rfl) ?_
          refine o_end [2, 3, 36] rfl ?_
          refine x_then ?_
          rw [hwj, ← hsn2]
          refine x_round (j + 1) (by omega) (by first | omega | (dsimp only; omega)) (by repeat (first | exact SubF.nil | refine SubF.cons rfl ?_)) (by repeat (first | exact SubO.nil | refine SubO.cons rfl ?_)) rfl (Vw.le.refl _)
        ·
          exact absurd h (by decide)
      | some p =>
        obtain ⟨b, hgb, hbZ, hp8⟩ := hT.some_ _ _ hTj
        have hpz := hTz _ _ hTj
        have hsp := slP hbZ hp8
        rw [hTj] at hsn
        have hsn2 : mkF f8 0 (j + 1) = mkF f8 0 j ++ [⟨(j : Int), catP p⟩] := hsn
        have hcsz : ∀ m : Nat, (catP (p.take m)).size ≤ 256 * m := by
          intro m
          induction m with
          | zero => simp [catP]
          | succ m ih =>
            by_cases hm : m < p.length
            · obtain ⟨s, hs⟩ : ∃ s, p[m]? = some s := ⟨_, List.getElem?_eq_getElem hm⟩
              rw [rp_take hs, catP, List.foldl_append]
              have h1 := hpz s (List.mem_of_getElem? hs)
              have h2 : (List.foldl (· ++ ·) (List.foldl (· ++ ·) ByteArray.empty (p.take m)) [s]).size = (catP (p.take m)).size + s.size := by
                simp [catP, ByteArray.size_append]
              omega
            · rw [List.take_of_length_le (by omega)]
              rw [List.take_of_length_le (by omega)] at ih
              omega
        refine c_skip ?_
        refine x_then ?_
        refine c_seq ?_
        refine c_block ?_
        refine c_seq ?_
        refine c_region ?_
        refine o_yield rfl rfl rfl (y_val tok rfl) ?_
        refine o_yield rfl rfl rfl (y_val tok rfl) ?_
        refine o_end [2, 3, 8, 36] rfl ?_
        refine x_then ?_
        refine c_seq ?_
        refine c_region ?_
        refine o_yield rfl rfl rfl (y_val tok rfl) ?_
        refine o_yield rfl rfl rfl (y_val tok rfl) ?_
        refine o_yield rfl rfl rfl (y_lkpV2 es (slV b) true rfl Try.underlying131 Try.underlying3 (fun w => Try.zeroValue44 w) (fun hg => hmtZ) (fun hg => by rw [hgb]; exact ⟨rfl, rfl⟩)) ?_
        refine o_yield rfl rfl rfl (y_val tok rfl) ?_
        refine o_yield rfl rfl rfl (y_val tok rfl) ?_
        refine o_yield rfl rfl rfl (y_val tok rfl) ?_
        refine o_yield rfl rfl rfl (y_val tok rfl) ?_
        refine o_yield rfl rfl rfl (y_val tok rfl) ?_
        refine o_end [2, 3, 8, 9, 10, 36] rfl ?_
        refine x_then ?_
        refine c_seq ?_
        refine c_seq ?_
        refine c_region ?_
        refine o_yield rfl rfl rfl (y_val tok rfl) ?_
        refine o_yield rfl rfl rfl (y_val tok rfl) ?_
        refine o_end [2, 3, 8, 9, 36, 46] rfl ?_
        refine x_then ?_
        refine c_cond rfl (fun h => ?_) (fun h => ?_)
        ·
          exact absurd h (by decide)
        ·
          refine c_skip ?_
          refine x_then ?_
          refine c_seq ?_
          refine c_region ?_
          refine o_yield rfl rfl rfl (y_val tok rfl) ?_
          refine o_yield rfl rfl rfl (y_val tok rfl) ?_
          refine o_new tok rfl rfl rfl rfl ?_
          refine o_store tok rfl rfl rfl (by first | exact ⟨trivial, trivial⟩ | (repeat' first | exact trivial | exact rfl | apply And.intro); done | simp [onesP, oneP, lk, Value.oneCell']) ?_
          refine o_end [2, 3, 9, 11, 36] rfl ?_
          refine x_then ?_
          refine c_seq ?_
          refine c_seq ?_
          refine c_region ?_
          refine o_yield rfl rfl rfl (y_val tok rfl) ?_
          refine o_yield rfl rfl rfl (y_lenP tok rfl) ?_
          refine o_yield rfl rfl rfl (y_val tok rfl) ?_
          refine o_end [2, 3, 11, 36, 49, 50, 51] rfl ?_
          refine x_then ?_
          refine c_block ?_
          refine c_loopK [2, 3, 11, 36, 49, 50] [1] rfl rfl (σ := Nat) (fun k => [(51, .a (.v (I k)))]) (fun k => [(1, .lit [.v (I j), .v (S (catP (p.take k)))] 117)]) (fun k => k ≤ 8) (fun k => 8 - k) (0) (by omega) (by repeat (first | exact SubF.nil | refine SubF.cons rfl ?_)) (by repeat (first | exact SubO.nil | refine SubO.cons rfl ?_)) rfl ?_
          rintro k hk
          refine c_seq ?_
          refine c_region ?_
          refine o_yield rfl rfl rfl (y_val tok rfl) ?_
          refine o_end [2, 3, 11, 36, 49, 50, 51, 52] rfl ?_
          refine x_then ?_
          refine c_seq ?_
          refine c_cond rfl (fun h => ?_) (fun h => ?_)
          ·
            simp only [Bool.and_eq_true, Bool.or_eq_true, Bool.not_eq_true', Bool.or_eq_false_iff, Bool.and_eq_false_iff, decide_eq_true_eq, decide_eq_false_iff_not, beq_iff_eq, bne_iff_ne, Bool.not_eq_false', beq_eq_false_iff_ne, bne_eq_false_iff_eq, ne_eq, Decidable.not_not, Int.not_lt, Int.not_le] at h
            refine c_skip ?_
            refine x_then ?_
            refine c_seq ?_
            refine c_block ?_
            refine c_seq ?_
            refine c_region ?_
            obtain ⟨s, h_s⟩ := hsp.at (k := k) (by omega)
            have hlt_s := lt_of_at h_s
            refine o_yield rfl rfl rfl (y_idx tok rfl (fun hg => hsp.sl) (fun hg => ⟨by omega, by omega⟩)) ?_
            refine o_yield rfl rfl rfl (y_lel tok (k) 0 (s) rfl (fun hg => hsp) (fun hg => h_s) rfl rfl) ?_
            refine o_yield rfl rfl rfl (y_val tok rfl) ?_
            refine o_end [2, 3, 11, 13, 36, 49, 50, 51] rfl ?_
            refine x_then ?_
            refine c_region ?_
            refine o_yield rfl rfl rfl (y_val tok rfl) ?_
            refine o_yield rfl rfl rfl (y_val tok rfl) ?_
            refine o_yield rfl rfl rfl (y_val tok rfl) ?_
            have hzs := hpz s (List.mem_of_getElem? h_s)
            have hzc := hcsz k
            refine o_yield rfl rfl rfl (y_cat rfl (fun hg => by omega)) ?_
            refine o_yield rfl rfl rfl (y_val tok rfl) ?_
            refine o_store tok rfl rfl rfl (by first | exact ⟨trivial, trivial⟩ | (repeat' first | exact trivial | exact rfl | apply And.intro); done | simp [onesP, oneP, lk, Value.oneCell']) ?_
            refine o_end [2, 3, 11, 36, 49, 50, 51] rfl ?_
            refine x_block ?_
            refine x_then ?_
            refine c_region ?_
            refine o_yield rfl rfl rfl (y_val tok rfl) ?_
            refine o_yield rfl rfl rfl (y_val tok rfl) ?_
            refine o_end [2, 3, 11, 36, 49, 50, 51] rfl ?_
            refine x_then ?_
            rw [show catP (p.take k) ++ s = catP (p.take (k + 1)) from by rw [rp_take h_s]; simp [catP], wrapI (n := (k : Int) + 1) (by omega) (by omega)]
            refine x_round (k + 1) (by omega) (by first | omega | (dsimp only; omega)) (by repeat (first | exact SubF.nil | refine SubF.cons rfl ?_)) (by repeat (first | exact SubO.nil | refine SubO.cons rfl ?_)) rfl (Vw.le.refl _)
          ·
            simp only [Bool.and_eq_true, Bool.or_eq_true, Bool.not_eq_true', Bool.or_eq_false_iff, Bool.and_eq_false_iff, decide_eq_true_eq, decide_eq_false_iff_not, beq_iff_eq, bne_iff_ne, Bool.not_eq_false', beq_eq_false_iff_ne, bne_eq_false_iff_eq, ne_eq, Decidable.not_not, Int.not_lt, Int.not_le] at h
            refine c_exit ?_
            refine x_then_exit ?_
            refine x_then_exit ?_
            refine x_block_hit ?_
            refine x_then ?_
            refine c_region ?_
            refine o_yield rfl rfl rfl (y_val tok rfl) ?_
            refine o_yield rfl rfl rfl (y_val tok rfl) ?_
            have hk8 : k = 8 := by omega
            subst hk8
            rw [List.take_of_length_le (by omega)]
            refine o_step rfl rfl rfl rfl rfl (s_bs tok 2 rfl rfl rfl) (fun _ _ => ?_)
            refine o_step rfl rfl rfl rfl rfl (s_app tok (Block.cells ⟨(j : Int), catP p⟩) rfl (fun E w hm => ownsRow_src (hm.row _ _ _ _ _ rfl)) (fun _ _ _ => by simpa using blk_ones [⟨(j : Int), catP p⟩]) (by dsimp only; omega)) (fun _ _ => ?_)
            refine o_yield rfl rfl rfl (y_val tok rfl) ?_
            refine o_end [2, 3, 36] rfl ?_
            refine x_block ?_
            refine x_then ?_
            refine c_region ?_
            refine o_yield rfl rfl rfl (y_val tok rfl) ?_
            refine o_yield rfl rfl rfl (y_val tok rfl) ?_
            refine o_end [2, 3, 36] rfl ?_
            refine x_then ?_
            have hx := app_row (mkF f8 0 j) ⟨(j : Int), catP p⟩
            rw [← hsn2] at hx
            rw [hx.1, hx.2, hwj]
            refine k_swap 0 3 rfl ?_
            refine x_round (j + 1) (by omega) (by first | omega | (dsimp only; omega)) (by repeat (first | exact SubF.nil | refine SubF.cons rfl ?_)) (by repeat (first | exact SubO.nil | refine SubO.cons rfl ?_)) rfl (Vw.le.refl _)
    ·
      simp only [Bool.and_eq_true, Bool.or_eq_true, Bool.not_eq_true', Bool.or_eq_false_iff, Bool.and_eq_false_iff, decide_eq_true_eq, decide_eq_false_iff_not, beq_iff_eq, bne_iff_ne, Bool.not_eq_false', beq_eq_false_iff_ne, bne_eq_false_iff_eq, ne_eq, Decidable.not_not, Int.not_lt, Int.not_le] at h
      refine c_exit ?_
      refine x_then_exit ?_
      refine x_then_exit ?_
      refine x_block_hit ?_
      refine x_then ?_
      refine c_seq ?_
      refine c_region ?_
      refine o_yield rfl rfl rfl (y_val tok rfl) ?_
      refine o_yield rfl rfl rfl (y_val tok rfl) ?_
      refine o_end [2] rfl ?_
      refine x_then ?_
      refine c_ret ?_
      refine x_scope_ret ?_
      refine b_ret tok rfl ?_
      have h64 : j = 64 := by omega
      subst h64
      rw [← hsc]
      intro E w' hm _
      exact ⟨⟨E.κ 0, rfl, hm.rowFresh hZ (l := 0) rfl⟩, hm.below hZ⟩
end Go.Proofs.Ytikdaehmaaogdaa

/- A device whose journal has records. -/
set_option linter.unusedVariables false
set_option linter.unusedSimpArgs false
set_option maxRecDepth 100000
namespace Go.Proofs.Ytikdaehmaaogdaa
open Go Go.Eng Go.RowKit

def putD (g : Geo) (slot : Int) (D : List ByteArray) (l : List Record) : List ByteArray := l.foldl (fun D r => D.set (jourV g slot r.lsn).toNat (recBytes r)) D
theorem putD_len (g : Geo) (slot : Int) : ∀ (l : List Record) (D : List ByteArray), (putD g slot D l).length = D.length
  | [], _ => rfl
  | r :: t, D => by rw [putD, List.foldl_cons]; exact (putD_len g slot t _).trans (List.length_set ..)
theorem putD_snoc (g : Geo) (slot : Int) (D : List ByteArray) (l : List Record) (r : Record) : putD g slot D (l ++ [r]) = (putD g slot D l).set (jourV g slot r.lsn).toNat (recBytes r) := by simp [putD]

theorem put17R_c (V : Vw) (g : Geo) (ok : g.Ok) (slot : Int) (D : List ByteArray) (hD0 : 0 < D.length) (hDn : D.length ≤ 100000) (l : List Record) (hln : l.length ≤ 100000) (hr : ∀ r ∈ l, recB r = true ∧ 0 ≤ jourV g slot r.lsn ∧ jourV g slot r.lsn < D.length) (a ca ka fa : Option Addr) (n c cn cc kn kc fn fc : Nat) (nx : Int) (sa : Option Addr) (sn sc : Nat) (w : World) (hV : V.le (vw w)) (hs0 : SlOf V encS 1 (.slice a n c) D) (hl0 : SlOf V Record.cells 6 (.slice sa sn sc) l) :
    Calls Try.prog 23 #[g.val, devG a ca ka fa n c cn cc kn kc fn fc nx, I slot, .slice sa sn sc] w fun e w' => (∃ v, e = .returned (.agg #[v, .slice ca cn cc, .slice ka kn kc, I nx, .slice fa fn fc]) ∧ w'.ownsRow w.heap.size 9 1 v (putD g slot D l).length ((putD g slot D l).flatMap encS)) ∧ Below w.heap.size w w' := by
  have hs := hs0.mono hV
  have hl := hl0.mono hV
  refine enter (E := E0) (O := []) (nl := 0) (V := vw w) [.a (.v g.val), .a (.v (devG a ca ka fa n c cn cc kn kc fn fc nx)), .a (.v (I slot)), .a (.v (.slice sa sn sc))] Try.func23 rfl rfl (mem0 E0 0 w) rfl rfl ?_
  refine c_seq ?_
  refine c_region ?_
  refine o_new tok rfl rfl rfl rfl ?_
  refine o_new tok rfl rfl rfl rfl ?_
  refine o_new tok rfl rfl rfl rfl ?_
  refine o_end [2, 3, 4, 5, 8] rfl ?_
  refine x_then ?_
  refine c_seq ?_
  refine c_region ?_
  refine o_step rfl rfl rfl rfl rfl (s_bs tok 1 rfl rfl rfl) (fun _ _ => ?_)
  refine o_yield rfl rfl rfl (y_val tok rfl) ?_
  refine o_yield rfl rfl rfl (y_val tok rfl) ?_
  refine o_step rfl rfl rfl rfl rfl (s_app tok (D.flatMap encS) rfl (fun E w hm => hs.sl.src hm.get) (fun _ _ _ => str_ones _) (by dsimp only; omega)) (fun _ _ => ?_)
  refine o_yield rfl rfl rfl (y_val tok rfl) ?_
  refine o_store tok rfl rfl rfl (by first | exact ⟨trivial, trivial⟩ | (repeat' first | exact trivial | exact rfl | apply And.intro); done | simp [onesP, oneP, lk, Value.oneCell']) ?_
  refine o_end [2, 3, 4, 5, 8] rfl ?_
  refine x_then ?_
  refine c_seq ?_
  refine c_seq ?_
  refine c_region ?_
  refine o_yield rfl rfl rfl (y_val tok rfl) ?_
  refine o_end [2, 3, 4, 5, 8, 9] rfl ?_
  refine x_then ?_
  refine c_block ?_
  rw [List.nil_append, Nat.zero_add D.length]
  refine c_loopK [2, 3, 4, 5, 8] [4] rfl rfl (σ := Nat) (fun i => [(9, .a (.v (I i)))]) (fun i => [(4, .row 9 1 (putD g slot D (l.take i)).length ((putD g slot D (l.take i)).flatMap encS))]) (fun i => i ≤ l.length) (fun i => l.length - i) (0) (by omega) (by repeat (first | exact SubF.nil | refine SubF.cons rfl ?_)) (by repeat (first | exact SubO.nil | refine SubO.cons rfl ?_)) rfl ?_
  rintro i hi
  have hDl := putD_len g slot (l.take i) D
  refine c_seq ?_
  refine c_seq ?_
  refine c_region ?_
  refine o_yield rfl rfl rfl (y_val tok rfl) ?_
  refine o_yield rfl rfl rfl (y_val tok rfl) ?_
  refine o_yield rfl rfl rfl (y_len tok rfl (fun hg => hl.sl)) ?_
  refine o_yield rfl rfl rfl (y_val tok rfl) ?_
  refine o_end [2, 3, 4, 5, 8, 9, 21] rfl ?_
  refine x_then ?_
  refine c_cond rfl (fun h => ?_) (fun h => ?_)
  ·
    simp only [Bool.and_eq_true, Bool.or_eq_true, Bool.not_eq_true', Bool.or_eq_false_iff, Bool.and_eq_false_iff, decide_eq_true_eq, decide_eq_false_iff_not, beq_iff_eq, bne_iff_ne, Bool.not_eq_false', beq_eq_false_iff_ne, bne_eq_false_iff_eq, ne_eq, Decidable.not_not, Int.not_lt, Int.not_le] at h
    obtain ⟨r, h_r⟩ : ∃ r, l[i]? = some r := ⟨_, List.getElem?_eq_getElem (by omega)⟩
    have hlti := lt_of_at h_r
    clear h
    obtain ⟨hr1, hr2, hr3⟩ := hr r (List.mem_of_getElem? h_r)
    obtain ⟨q, hq⟩ : ∃ q : Nat, jourV g slot r.lsn = q := ⟨(jourV g slot r.lsn).toNat, by omega⟩
    have hbv : bytesV r = recBytes r := by rw [bytesV, if_pos hr1]
    have hbe : bytesE r = 0 := by rw [bytesE, if_pos hr1]
    have hjc := fun w => refJour_c g ok slot r.lsn w
    rw [hq] at hjc
    have hbc := fun w => refBytes_c r w
    rw [hbv, hbe] at hbc
    have hps := putD_snoc g slot D (l.take i) r
    rw [← rp_take h_r, hq, Int.toNat_natCast] at hps
    have hpl := putD_len g slot (l.take (i + 1)) D
    obtain ⟨D2, hD2⟩ : ∃ D2, putD g slot D (l.take (i + 1)) = D2 := ⟨_, rfl⟩
    rw [hD2] at hps hpl
    generalize putD g slot D (l.take i) = D1 at hDl hps ⊢
    have hDp : 0 < D1.length := by omega
    refine c_skip ?_
    refine x_then ?_
    refine c_seq ?_
    refine c_block ?_
    refine c_seq ?_
    refine c_draw mixed (by kernel_rfl) ?_
    refine d_yield rfl rfl rfl (y_val tok rfl) rfl ?_
    refine d_yield rfl rfl rfl (y_val tok rfl) rfl ?_
    refine d_yield rfl rfl rfl (y_val tok rfl) rfl ?_
    refine d_yield rfl rfl rfl (y_val tok rfl) rfl ?_
    have hlt_r := lt_of_at h_r
    refine d_yield rfl rfl rfl (y_idx tok rfl (fun hg => hl.sl) (fun hg => ⟨by omega, by omega⟩)) rfl ?_
    refine d_yield rfl rfl rfl (y_fel tok rfl (fun hg => hl.sl) (fun hg => by omega)) rfl ?_
    refine d_yield rfl rfl rfl (y_lel tok (i) 1 (r) rfl (fun hg => hl) (fun hg => h_r) rfl rfl) rfl ?_
    refine d_call (.a (.v _)) rfl rfl fnok29 rfl rfl rfl (fun hg E w1 hm => by exact hjc _) ?_
    refine d_yield rfl rfl rfl (y_val tok rfl) rfl ?_
    refine d_end [2, 3, 4, 5, 8, 9, 10] rfl ?_
    refine x_then ?_
    refine c_seq ?_
    refine c_region ?_
    refine o_yield rfl rfl rfl (y_val tok rfl) ?_
    refine o_yield rfl rfl rfl (y_val tok rfl) ?_
    have hlt_r := lt_of_at h_r
    refine o_yield rfl rfl rfl (y_idx tok rfl (fun hg => hl.sl) (fun hg => ⟨by omega, by omega⟩)) ?_
    refine o_yield rfl rfl rfl (y_lel tok (i) 0 (r) rfl (fun hg => hl) (fun hg => h_r) rfl rfl) ?_
    refine o_call (.a (.v _)) rfl rfl fnok13 rfl rfl rfl (fun hg E w1 hm => by exact hbc _) ?_
    refine o_yield rfl rfl rfl (y_val tok rfl) ?_
    refine o_yield rfl rfl rfl (y_val tok rfl) ?_
    refine o_yield rfl rfl rfl (y_val tok rfl) ?_
    refine o_yield rfl rfl rfl (y_val tok rfl) ?_
    refine o_yield rfl rfl rfl (y_val tok rfl) ?_
    refine o_end [2, 3, 4, 5, 8, 9, 10, 11, 12] rfl ?_
    refine x_then ?_
    refine c_seq ?_
    refine c_region ?_
    refine o_yield rfl rfl rfl (y_val tok rfl) ?_
    refine o_yield rfl rfl rfl (y_val tok rfl) ?_
    refine o_yield rfl rfl rfl (y_val tok rfl) ?_
    refine o_yield rfl rfl rfl (y_val tok rfl) ?_
    refine o_yield rfl rfl rfl (y_val tok rfl) ?_
    refine o_yield rfl rfl rfl (y_val tok rfl) ?_
    refine o_yield rfl rfl rfl (y_own (s := .a (.v (I D1.length))) 4 rfl rfl (fun v V' hv => y_len tok rfl (fun hg => hv))) ?_
    refine o_yield rfl rfl rfl (y_val tok rfl) ?_
    refine o_yield rfl rfl rfl (y_val tok rfl) ?_
    refine o_yield rfl rfl rfl (y_val tok rfl) ?_
    refine o_yield rfl rfl rfl (y_val tok rfl) ?_
    refine o_yield rfl rfl rfl (y_val tok rfl) ?_
    refine o_yield rfl rfl rfl (y_val tok rfl) ?_
    refine o_end [2, 3, 4, 5, 8, 9, 10, 11, 52] rfl ?_
    refine x_then ?_
    refine c_cond rfl (fun h => ?_) (fun h => ?_)
    ·
      refine c_region ?_
      refine o_yield rfl rfl rfl (y_val tok rfl) ?_
      refine o_yield rfl rfl rfl (y_val tok rfl) ?_
      refine o_yield rfl rfl rfl (y_val tok rfl) ?_
      refine o_yield rfl rfl rfl (y_val tok rfl) ?_
      clear h
      refine o_yield rfl rfl rfl (y_own (s := .a (.rel 4 q)) 4 rfl rfl (fun v V' hv => y_idxK tok q rfl (by simp) (fun hg => hv) (fun hg => by omega))) ?_
      refine o_stepN rfl rfl rfl rfl (s_rst tok rfl rfl (by intro u hu; simp only [List.mem_singleton] at hu; subst hu; rfl) (by simp only [List.length_singleton]; omega) (by omega)) (fun _ _ => ?_)
      refine o_end [2, 3, 4, 5, 8, 9] rfl ?_
      refine x_block ?_
      refine x_then ?_
      refine c_region ?_
      refine o_yield rfl rfl rfl (y_val tok rfl) ?_
      refine o_yield rfl rfl rfl (y_val tok rfl) ?_
      refine o_yield rfl rfl rfl (y_val tok rfl) ?_
      refine o_end [2, 3, 4, 5, 8, 9] rfl ?_
      refine x_then ?_
      have hset := overL_set (enc := encS) (sz := 1) (fun _ => rfl) D1 q (recBytes r) (by omega)
      rw [Nat.mul_one] at hset
      have hlen : D1.length = D2.length := by omega
      rw [show overL q [Value.string _] _ = _ from hset, ← hps, hlen, wrapI (n := (i : Int) + 1) (by omega) (by omega)]
      subst hD2
      refine x_round (i + 1) (by omega) (by first | omega | (dsimp only; omega)) (by repeat (first | exact SubF.nil | refine SubF.cons rfl ?_)) (by repeat (first | exact SubO.nil | refine SubO.cons rfl ?_)) rfl (Vw.le.refl _)
    ·
      exfalso
      simp at h
      omega
  ·
    simp only [Bool.and_eq_true, Bool.or_eq_true, Bool.not_eq_true', Bool.or_eq_false_iff, Bool.and_eq_false_iff, decide_eq_true_eq, decide_eq_false_iff_not, beq_iff_eq, bne_iff_ne, Bool.not_eq_false', beq_eq_false_iff_ne, bne_eq_false_iff_eq, ne_eq, Decidable.not_not, Int.not_lt, Int.not_le] at h
    refine c_exit ?_
    refine x_then_exit ?_
    refine x_then_exit ?_
    refine x_block_hit ?_
    refine x_then ?_
    refine c_seq ?_
    refine c_region ?_
    refine o_yield rfl rfl rfl (y_val tok rfl) ?_
    refine o_store tok rfl rfl rfl (by first | exact ⟨trivial, trivial⟩ | (repeat' first | exact trivial | exact rfl | apply And.intro); done | simp [onesP, oneP, lk, Value.oneCell']) ?_
    refine o_end [8] rfl ?_
    refine x_then ?_
    refine c_ret ?_
    refine b_ret tok rfl ?_
    have hil : i = l.length := by omega
    subst hil
    rw [List.take_of_length_le (Nat.le_refl _)]
    intro E w' hm _
    exact ⟨⟨E.κ 4, rfl, hm.rowFresh (Vw.le.refl _) (l := 4) rfl⟩, hm.below (Vw.le.refl _)⟩

theorem put17_c (V : Vw) (g : Geo) (ok : g.Ok) (slot : Int) (D : List ByteArray) (hD0 : 0 < D.length) (hDn : D.length ≤ 100000) (l : List Record) (hln : l.length ≤ 100000) (hr : ∀ r ∈ l, recB r = true ∧ 0 ≤ jourV g slot r.lsn ∧ jourV g slot r.lsn < D.length) (a ca ka fa : Option Addr) (n c cn cc kn kc fn fc : Nat) (nx : Int) (sa : Option Addr) (sn sc : Nat) (w : World) (hV : V.le (vw w)) (hs0 : SlOf V encS 1 (.slice a n c) D) (hl0 : SlOf V Record.cells 6 (.slice sa sn sc) l) :
    Calls Try.prog 23 #[g.val, devG a ca ka fa n c cn cc kn kc fn fc nx, I slot, .slice sa sn sc] w fun e w' => ∃ v V', e = .returned v ∧ Below w.heap.size w w' ∧ Vext w.heap.size V V' w' ∧ ∃ a n c, v = devG a ca ka fa n c cn cc kn kc fn fc nx ∧ SlOf V' encS 1 (.slice a n c) (putD g slot D l) := by
  refine (put17R_c V g ok slot D hD0 hDn l hln hr a ca ka fa n c cn cc kn kc fn fc nx sa sn sc w hV hs0 hl0).mono ?_
  rintro e w' ⟨⟨v, rfl, hrow⟩, hb⟩
  obtain ⟨V', hx, hsl⟩ := ownsRow_vext hV hb hrow
  obtain ⟨ra, rn, rc, rfl⟩ := sl_shape hsl
  exact ⟨_, V', rfl, hb, hx, ra, rn, rc, rfl, hsl, fun _ => rfl⟩

theorem put17X_c (V : Vw) (g : Geo) (ok : g.Ok) (slot : Int) (D : List ByteArray) (hD0 : 0 < D.length) (hDn : D.length ≤ 100000) (l : List Record) (hln : l.length ≤ 100000) (hr : ∀ r ∈ l, recB r = true ∧ 0 ≤ jourV g slot r.lsn ∧ jourV g slot r.lsn < D.length) (a ca ka fa : Option Addr) (n c cn cc kn kc fn fc : Nat) (nx : Int) (sa : Option Addr) (sn sc : Nat) (w : World) (hV : V.le (vw w)) (hs0 : SlOf V encS 1 (.slice a n c) D) (hl0 : SlOf V Record.cells 6 (.slice sa sn sc) l) :
    Calls Try.prog 23 #[g.val, devG a ca ka fa n c cn cc kn kc fn fc nx, I slot, .slice sa sn sc] w fun e w' => ∃ v V', e = .returned v ∧ Below w.heap.size w w' ∧ Vext w.heap.size V V' w' ∧ ∃ b cap cs, v = devG (some ⟨b, 0, none⟩) ca ka fa (putD g slot D l).length cap cn cc kn kc fn fc nx ∧ V'.get b = some (.cells cs 9 (0, 0)) ∧ V.get b = none ∧ (putD g slot D l).length ≤ cap ∧ cs.size = cap ∧ cs.toList.take (putD g slot D l).length = (putD g slot D l).flatMap encS := by
  refine (put17R_c V g ok slot D hD0 hDn l hln hr a ca ka fa n c cn cc kn kc fn fc nx sa sn sc w hV hs0 hl0).mono ?_
  rintro e w' ⟨⟨v, rfl, hrow⟩, hb⟩
  have hlen := putD_len g slot l D
  obtain ⟨_, ⟨_, h0⟩ | ⟨b, cap, cs, rfl, hbase, hheap, hnc, _, hsz, htk⟩⟩ := hrow
  · exfalso; omega
  · refine ⟨_, V.grown w w', rfl, hb, Vext.grown hV hb, b, cap, cs, rfl, ?_, ?_, hnc, by omega, by rw [← htk, Nat.mul_one]⟩
    · simp only [Vw.grown]
      rw [if_neg (by omega)]
      exact hheap
    · cases hq : V.get b with
      | none => rfl
      | some o => exact absurd (hV.lt hq) (by omega)
end Go.Proofs.Ytikdaehmaaogdaa

/- What the document says of three records. -/
set_option linter.unusedVariables false
set_option linter.unusedSimpArgs false
set_option maxRecDepth 100000
namespace Go.Proofs.Ytikdaehmaaogdaa
open Go Go.Eng Go.RowKit

abbrev txA : ByteArray := ⟨#[97]⟩
abbrev txB : ByteArray := ⟨#[98]⟩
abbrev rw0 : Record := ⟨16, 0, 0, 0, txA, 0⟩
abbrev rw1 : Record := ⟨16, 1, 0, 0, ByteArray.empty, 1⟩
abbrev rw2 : Record := ⟨16, 2, 0, 0, txB, 0⟩

theorem scan_w : scanB [rw0, rw1] = [⟨0, txA⟩] := by
  rw [scanB]
  rfl

theorem geo17_c (w : World) : Calls Try.prog 56 #[] w fun e w' => e = .returned geo21.val ∧ Below w.heap.size w w' := by
  refine enter (E := E0) (O := []) (nl := 0) (V := vw w) [] Try.func56 rfl rfl (mem0 E0 0 w) rfl rfl ?_
  refine c_seq ?_
  refine c_region ?_
  refine o_new tok rfl rfl rfl rfl ?_
  refine o_end [0] rfl ?_
  refine x_then ?_
  refine c_seq ?_
  refine c_region ?_
  refine o_yield rfl rfl rfl (y_val tok rfl) ?_
  refine o_store tok rfl rfl rfl (by first | exact ⟨trivial, trivial⟩ | (repeat' first | exact trivial | exact rfl | apply And.intro); done | simp [onesP, oneP, lk, Value.oneCell']) ?_
  refine o_end [0] rfl ?_
  refine x_then ?_
  refine c_ret ?_
  refine b_ret tok rfl ?_
  intro E w' hm _
  refine ⟨?_, hm.below (Vw.le.refl _)⟩
  rfl

theorem rw_ok : recB rw0 = true ∧ recB rw1 = true ∧ recB rw2 = true := by decide

abbrev D17 (D0 : List ByteArray) : List ByteArray := ((D0.set 12 (recBytes rw0)).set 13 (recBytes rw1)).set 14 (recBytes rw2)

theorem putD17 (D0 : List ByteArray) : putD geo21 0 D0 [rw0, rw1, rw2] = D17 D0 := rfl

theorem rows17 {D0 : List ByteArray} (hl : D0.length = 18) (h15 : D0[15]? = some ByteArray.empty) (hz : ∀ s ∈ D0, s.size ≤ 256) : RowsOf geo21 0 16 0 (D17 D0) [rw0, rw1, rw2] := by
  obtain ⟨r0, r1, r2⟩ := rw_ok
  have hz0 : ∀ r, recB r = true → (recBytes r).size ≤ maxLen := fun r h => by
    have h1 := recBytes_size (recOk h)
    have h2 := (recOk h).text
    simp only [maxLen]
    omega
  have at0 : (D17 D0)[12]? = some (recBytes rw0) := by
    rw [List.getElem?_set_ne (by decide), List.getElem?_set_ne (by decide), List.getElem?_set_self (by omega)]
  have at1 : (D17 D0)[13]? = some (recBytes rw1) := by
    rw [List.getElem?_set_ne (by decide), List.getElem?_set_self (by rw [List.length_set]; omega)]
  have at2 : (D17 D0)[14]? = some (recBytes rw2) := by
    rw [List.getElem?_set_self (by rw [List.length_set, List.length_set]; omega)]
  refine ⟨by decide, ?_, by decide, by decide, by decide, by decide, ?_, ?_, ?_⟩
  · rw [List.length_set, List.length_set, List.length_set, hl]; decide
  · intro s hs
    rcases List.mem_or_eq_of_mem_set hs with hs | rfl
    · rcases List.mem_or_eq_of_mem_set hs with hs | rfl
      · rcases List.mem_or_eq_of_mem_set hs with hs | rfl
        · have := hz s hs
          simp only [maxLen]
          omega
        · exact hz0 _ r0
      · exact hz0 _ r1
    · exact hz0 _ r2
  · intro j r hj
    match j, hj with
    | 0, hj =>
      cases hj
      have hb : isB (recBytes rw0) 16 (0 + ((0 : Nat) : Int)) = true := by rw [is_rec r0]; decide
      exact ⟨_, at0, hb, by rw [isV, if_pos hb]; exact (read_rec r0).2.1⟩
    | 1, hj =>
      cases hj
      have hb : isB (recBytes rw1) 16 (0 + ((1 : Nat) : Int)) = true := by rw [is_rec r1]; decide
      exact ⟨_, at1, hb, by rw [isV, if_pos hb]; exact (read_rec r1).2.1⟩
    | 2, hj =>
      cases hj
      have hb : isB (recBytes rw2) 16 (0 + ((2 : Nat) : Int)) = true := by rw [is_rec r2]; decide
      exact ⟨_, at2, hb, by rw [isV, if_pos hb]; exact (read_rec r2).2.1⟩
    | n + 3, hj => simp at hj
  · intro _
    refine ⟨ByteArray.empty, ?_, rp_isB_empty _ _⟩
    show (D17 D0)[15]? = _
    rw [List.getElem?_set_ne (by decide), List.getElem?_set_ne (by decide), List.getElem?_set_ne (by decide)]
    exact h15

theorem format17_cV : ∃ (D0 : List ByteArray) (hd : ByteArray), D0.length = 18 ∧ D0[15]? = some ByteArray.empty ∧ D0[11]? = some hd ∧ tailOk hd = some 0 ∧ (∀ s ∈ D0, s.size ≤ 256) ∧ ∀ (V : Vw) (w : World), V.le (vw w) →
    Calls Try.prog 20 #[geo21.val] w fun e w' => ∃ x V', e = .returned x ∧ Below w.heap.size w w' ∧ Vext w.heap.size V V' w' ∧ ∃ a n c, x = .tuple #[.slice a n c, I 0] ∧ SlOf V' encS 1 (.slice a n c) D0 := by
  have h0 : fitsB 0 6 = true := by decide
  have e : headS 0 = (strOf (sealL 2 (leB 6 0)), 0) := by rw [headS, if_pos h0]
  have ht := tail_head h0
  rw [e] at ht
  have hsz : (strOf (sealL 2 (leB 6 0))).size ≤ 256 := by
    simp only [strOf_size, sealL_len]
    have : (leB 6 0).length = 6 := by simp [leB, leTake_len]
    omega
  have hh := fun w => refHeadS_c 0 w
  rw [e] at hh
  generalize strOf (sealL 2 (leB 6 0)) = hd at ht hsz hh
  have hts := gbV_size geo21
  have hc := fun w => rformat_c geo21 geo21_ok hd hh w
  generalize gbV geo21 = top at hts hc
  have hlen := fmtTo_len geo21 top hd 1
  refine ⟨fmtTo geo21 top hd 1, hd, by rw [hlen]; decide, ?_, ?_, ht, fmt_small hts hsz 1, fun V w hV => ?_⟩
  · exact fmt_other geo21_b top hd 1 (by decide) 15 (by decide) (by decide) (fun k hk => by
      have : k = 0 := by omega
      subst this
      decide)
  · exact fmt_head geo21_b top hd 1 (by decide) 0 (by decide)
  · refine (hc w).mono ?_
    rintro e w' ⟨⟨_, v, rfl, hrow⟩ | ⟨hno, _⟩, hb⟩
    · have hrow2 : w'.ownsRow w.heap.size 9 1 v (fmtTo geo21 top hd 1).length ((fmtTo geo21 top hd 1).flatMap encS) := by rw [hlen]; exact hrow
      obtain ⟨V', hx, hsl⟩ := ownsRow_vext hV hb hrow2
      obtain ⟨a, n, c, rfl⟩ := sl_shape hsl
      exact ⟨_, V', rfl, hb, hx, a, n, c, rfl, hsl, fun _ => rfl⟩
    · rw [geo21_b] at hno; cases hno
end Go.Proofs.Ytikdaehmaaogdaa

/- What the document says of three records: the walk. -/
set_option linter.unusedVariables false
set_option linter.unusedSimpArgs false
set_option maxRecDepth 100000
namespace Go.Proofs.Ytikdaehmaaogdaa
open Go Go.Eng Go.RowKit

abbrev bkA : Block := ⟨0, txA⟩

theorem wakes17_c (w : World) : Calls Try.prog 15 #[] w fun e w' => e = .returned (.bool true) ∧ Below w.heap.size w w' := by
  obtain ⟨D0, hd, hlen, h15, h11, htl, hz, hfmt⟩ := format17_cV
  obtain ⟨r0, r1, r2⟩ := rw_ok
  have hJ := rows17 hlen h15 hz
  have htv : tailV hd = 0 ∧ tailE hd = 0 := by rw [tailV, tailE, htl]; exact ⟨rfl, rfl⟩
  have hhd : ∃ s, (D17 D0)[(headV geo21 0).toNat]? = some s ∧ tailV s = 0 ∧ tailE s = 0 := by
    refine ⟨hd, ?_, htv.1, htv.2⟩
    rw [show (headV geo21 0).toNat = 11 by decide, List.getElem?_set_ne (by decide), List.getElem?_set_ne (by decide), List.getElem?_set_ne (by decide)]
    exact h11
  have hwh : whole [rw0, rw1, rw2] = 2 := by decide
  have htk : ([rw0, rw1, rw2] : List Record).take 2 = [rw0, rw1] := rfl
  have hrs : ∀ r ∈ ([rw0, rw1, rw2] : List Record), recB r = true ∧ 0 ≤ jourV geo21 0 r.lsn ∧ jourV geo21 0 r.lsn < D0.length := fun r hr => by
    rw [hlen]
    simp only [List.mem_cons, List.not_mem_nil, or_false] at hr
    rcases hr with rfl | rfl | rfl
    · exact ⟨r0, by decide, by decide⟩
    · exact ⟨r1, by decide, by decide⟩
    · exact ⟨r2, by decide, by decide⟩
  refine enter (E := E0) (O := []) (nl := 0) (V := vw w) [] Try.func15 rfl rfl (mem0 E0 0 w) rfl rfl ?_
  refine c_seq ?_
  refine c_region ?_
  refine o_yield rfl rfl rfl (y_val tok rfl) ?_
  refine o_end [] rfl ?_
  refine x_then ?_
  refine c_seq ?_
  refine c_region ?_
  refine o_call (.a (.v _)) rfl rfl fnok56 rfl rfl rfl (fun hg E w1 hm => by exact geo17_c _) ?_
  refine o_callV (fun v V' => ∃ a n c, v = .tuple #[.slice a n c, I 0] ∧ SlOf V' encS 1 (.slice a n c) D0) rfl rfl fnok20 rfl rfl (fun hg E w1 hm => by exact hfmt (vw w) _ hm.leV) ?_
  rintro v V1 hle1 hv
  obtain ⟨a, n, c, rfl, hs0⟩ := hv rfl
  clear hv
  refine o_yield rfl rfl rfl (y_val tok rfl) ?_
  refine o_yield rfl rfl rfl (y_val tok rfl) ?_
  refine o_yield rfl rfl rfl (y_val tok rfl) ?_
  refine o_yield rfl rfl rfl (y_val tok rfl) ?_
  refine o_yield rfl rfl rfl (y_val tok rfl) ?_
  refine o_end [1, 2] rfl ?_
  refine x_then ?_
  refine c_seq ?_
  refine c_region ?_
  refine o_call (.a (.v _)) rfl rfl fnok56 rfl rfl rfl (fun hg E w1 hm => by exact geo17_c _) ?_
  refine o_yield rfl rfl rfl (y_val tok rfl) ?_
  refine o_yield rfl rfl rfl (y_val tok rfl) ?_
  refine o_yield rfl rfl rfl (y_val tok rfl) ?_
  refine o_yield rfl rfl rfl (y_val tok rfl) ?_
  refine o_yield rfl rfl rfl (y_val tok rfl) ?_
  refine o_bs tok rfl rfl rfl rfl (fun b1 W1 hlw1 hb1 => ?_)
  have hsl : SlOf W1 Record.cells 6 (.slice (some ⟨b1, 0, none⟩) 3 3) [rw0, rw1, rw2] := SlOf.ofBlock (enc := Record.cells) (sz := 6) (l := [rw0, rw1, rw2]) (hb1 rfl) rfl (fun _ => rfl) (Nat.le_refl _)
  refine o_callV (fun v V' => ∃ a n c, v = devG a none none none n c 0 0 0 0 0 0 0 ∧ SlOf V' encS 1 (.slice a n c) (putD geo21 0 D0 [rw0, rw1, rw2])) rfl rfl fnok23 rfl rfl (fun hg E w1 hm => by exact put17_c W1 geo21 geo21_ok 0 D0 (by omega) (by omega) [rw0, rw1, rw2] (by decide) hrs _ _ _ _ _ _ _ _ _ _ _ _ _ _ _ _ _ hm.leV (hs0.mono hlw1) hsl) ?_
  rintro v V2 hle2 hv
  obtain ⟨a2, n2, c2, rfl, hs2⟩ := hv rfl
  clear hv
  rw [putD17] at hs2
  refine o_new tok rfl rfl rfl rfl ?_
  refine o_store tok rfl rfl rfl (by first | exact ⟨trivial, trivial⟩ | (repeat' first | exact trivial | exact rfl | apply And.intro); done | simp [onesP, oneP, lk, Value.oneCell']) ?_
  refine o_end [2, 3] rfl ?_
  refine x_then ?_
  refine c_seq ?_
  refine c_heldR mixed rfl (by repeat (first | exact SubO.nil | refine SubO.cons rfl ?_)) (by first | rfl | simp [okCels, allOk_plain]) ?_
  refine t_take 1 rfl (by kernel_rfl) rfl rfl rfl (y_val tok rfl) rfl ?_
  refine t_go ?_
  refine h_one 0 (by kernel_rfl) ?_
  refine h_call 0 (.a (.v _)) rfl rfl rfl fnok56 rfl rfl rfl (fun hg E w1 hm => by exact geo17_c _) ?_
  refine h_one 2 (by kernel_rfl) ?_
  refine h_callV 2 (fun v V' => ∃ a n c, v = .slice a n c ∧ SlOf V' Record.cells 6 (.slice a n c) [rw0, rw1, rw2]) rfl rfl rfl fnok16 rfl rfl (fun hg E w1 hm => by exact srows_cV V2 geo21 geo21_ok 0 16 0 _ _ hJ _ _ _ _ _ _ _ _ _ _ _ _ _ _ hm.leV hs2) ?_
  rintro v V3 hle3 hv
  obtain ⟨a3, n3, c3, rfl, hs3⟩ := hv rfl
  clear hv
  refine h_one 3 (by kernel_rfl) ?_
  refine h_yield 3 rfl rfl rfl rfl (y_val tok rfl) ?_
  refine h_done [2, 3, 4] (by kernel_rfl) rfl ?_
  refine x_then ?_
  refine c_seq ?_
  refine c_heldR mixed rfl (by repeat (first | exact SubO.nil | refine SubO.cons rfl ?_)) (by first | rfl | simp [okCels, allOk_plain]) ?_
  refine t_take 1 rfl (by kernel_rfl) rfl rfl rfl (y_val tok rfl) rfl ?_
  refine t_go ?_
  refine h_one 0 (by kernel_rfl) ?_
  refine h_call 0 (.a (.v _)) rfl rfl rfl fnok56 rfl rfl rfl (fun hg E w1 hm => by exact geo17_c _) ?_
  refine h_one 2 (by kernel_rfl) ?_
  refine h_callV 2 (fun v V' => ∃ a n c, v = .tuple #[.slice a n c, I 0, I 0] ∧ SlOf V' Record.cells 6 (.slice a n c) (([rw0, rw1, rw2] : List Record).take (whole [rw0, rw1, rw2]))) rfl rfl rfl fnok24 rfl rfl (fun hg E w1 hm => by exact sjournal_c V3 geo21 geo21_ok 0 16 0 _ _ hJ hhd _ _ _ _ _ _ _ _ _ _ _ _ _ _ hm.leV (hs2.mono hle3)) ?_
  rintro v V4 hle4 hv
  obtain ⟨a4, n4, c4, rfl, hs4⟩ := hv rfl
  clear hv
  rw [hwh, htk] at hs4
  have hs34 := hs3.mono hle4
  have hbk := fun w1 hV1 => sblocks_c V4 a3 n3 c3 _ w1 hV1 hs34 (by decide) (fun r hr => by
    simp only [List.mem_cons, List.not_mem_nil, or_false] at hr
    rcases hr with rfl | rfl | rfl <;> decide)
  rw [hwh, htk, scan_w] at hbk
  have hec := fun V w1 hV1 hs => sEnd_c V (.slice a3 n3 c3) [rw0, rw1, rw2] 0 w1 hV1 hs (by decide)
  rw [hwh] at hec
  refine h_one 3 (by kernel_rfl) ?_
  refine h_yield 3 rfl rfl rfl rfl (y_val tok rfl) ?_
  refine h_take 4 rfl (by kernel_rfl) rfl rfl rfl rfl (y_val tok rfl) rfl ?_
  refine h_take 5 rfl (by kernel_rfl) rfl rfl rfl rfl (y_val tok rfl) rfl ?_
  refine h_take 6 rfl (by kernel_rfl) rfl rfl rfl rfl (y_val tok rfl) rfl ?_
  refine h_one 7 (by kernel_rfl) ?_
  refine h_yield 7 rfl rfl rfl rfl (y_val tok rfl) ?_
  refine h_one 8 (by kernel_rfl) ?_
  refine h_yield 8 rfl rfl rfl rfl (y_val tok rfl) ?_
  refine h_one 9 (by kernel_rfl) ?_
  refine h_yield 9 rfl rfl rfl rfl (y_val tok rfl) ?_
  refine h_done [2, 4, 5, 6, 7] (by kernel_rfl) rfl ?_
  refine x_then ?_
  refine c_seq ?_
  refine c_region ?_
  refine o_yield rfl rfl rfl (y_val tok rfl) ?_
  refine o_callV (fun v V' => RowBV [⟨0, txA⟩] v V') rfl rfl fnok27 rfl rfl (fun hg E w1 hm => by exact rowB_V hm.leV (hbk _ hm.leV)) ?_
  rintro v V5 hle5 hv
  obtain ⟨a5, n5, c5, rfl, hs5⟩ := hv rfl
  clear hv
  have hs35 := hs34.mono hle5
  refine o_yield rfl rfl rfl (y_val tok rfl) ?_
  refine o_end [2, 4, 5, 6, 7, 8] rfl ?_
  refine x_then ?_
  refine c_seq ?_
  refine c_region ?_
  refine o_yield rfl rfl rfl (y_val tok rfl) ?_
  refine o_yield rfl rfl rfl (y_val tok rfl) ?_
  refine o_yield rfl rfl rfl (y_val tok rfl) ?_
  refine o_yield rfl rfl rfl (y_val tok rfl) ?_
  refine o_yield rfl rfl rfl (y_val tok rfl) ?_
  refine o_yield rfl rfl rfl (y_val tok rfl) ?_
  refine o_yield rfl rfl rfl (y_val tok rfl) ?_
  refine o_yield rfl rfl rfl (y_val tok rfl) ?_
  refine o_yield rfl rfl rfl (y_len tok rfl (fun hg => hs35.sl)) ?_
  refine o_yield rfl rfl rfl (y_val tok rfl) ?_
  refine o_yield rfl rfl rfl (y_val tok rfl) ?_
  refine o_yield rfl rfl rfl (y_val tok rfl) ?_
  refine o_yield rfl rfl rfl (y_val tok rfl) ?_
  refine o_yield rfl rfl rfl (y_len tok rfl (fun hg => (hs4.mono hle5).sl)) ?_
  refine o_yield rfl rfl rfl (y_val tok rfl) ?_
  refine o_yield rfl rfl rfl (y_val tok rfl) ?_
  refine o_yield rfl rfl rfl (y_val tok rfl) ?_
  refine o_yield rfl rfl rfl (y_val tok rfl) ?_
  refine o_yield rfl rfl rfl (y_val tok rfl) ?_
  refine o_yield rfl rfl rfl (y_val tok rfl) ?_
  refine o_yield rfl rfl rfl (y_val tok rfl) ?_
  refine o_yield rfl rfl rfl (y_val tok rfl) ?_
  refine o_call (.a (.v _)) rfl rfl fnok28 rfl rfl rfl (fun hg E w1 hm => by exact hec _ _ hm.leV hs35) ?_
  refine o_yield rfl rfl rfl (y_val tok rfl) ?_
  refine o_yield rfl rfl rfl (y_val tok rfl) ?_
  refine o_yield rfl rfl rfl (y_val tok rfl) ?_
  refine o_yield rfl rfl rfl (y_val tok rfl) ?_
  refine o_yield rfl rfl rfl (y_len tok rfl (fun hg => hs5.sl)) ?_
  refine o_yield rfl rfl rfl (y_val tok rfl) ?_
  refine o_yield rfl rfl rfl (y_val tok rfl) ?_
  refine o_yield rfl rfl rfl (y_val tok rfl) ?_
  refine o_yield rfl rfl rfl (y_val tok rfl) ?_
  have hlt_bkA := lt_of_at (show ([bkA] : List Block)[0]? = some bkA from rfl)
  refine o_yield rfl rfl rfl (y_idx tok rfl (fun hg => hs5.sl) (fun hg => ⟨by omega, by simp⟩)) ?_
  refine o_yield rfl rfl rfl (y_fel tok rfl (fun hg => hs5.sl) (fun hg => by omega)) ?_
  refine o_yield rfl rfl rfl (y_lel tok (0) 1 (bkA) rfl (fun hg => hs5) (fun hg => (show ([bkA] : List Block)[0]? = some bkA from rfl)) rfl rfl) ?_
  refine o_yield rfl rfl rfl (y_val tok rfl) ?_
  refine o_yield rfl rfl rfl (y_val tok rfl) ?_
  refine o_yield rfl rfl rfl (y_val tok rfl) ?_
  refine o_end [0] rfl ?_
  refine x_then ?_
  refine c_ret ?_
  refine b_ret tok rfl ?_
  intro E w' hm _
  refine ⟨?_, hm.below ((hle1.trans (hlw1.trans (hle2.trans (hle3.trans (hle4.trans hle5))))))⟩
  have h2 : IntKind.i64.wrap (0 + ((2 : Nat) : Int)) = 2 := by decide
  rw [h2]
  have h3 : (bkA.text.toList == ({ data := #[97] } : ByteArray).toList) = true := by
    apply beq_iff_eq.mpr
    apply congrArg ByteArray.toList
    decide
  rw [h3]
  rfl
end Go.Proofs.Ytikdaehmaaogdaa

/- The law: a replay that has nothing to put in place writes the header alone. -/
set_option linter.unusedVariables false
set_option linter.unusedSimpArgs false
set_option maxRecDepth 100000
namespace Go.Proofs.Ytikdaehmaaogdaa
open Go Go.Eng Go.RowKit

def greatD (D : List ByteArray) (Ca : List (Sl Cell)) (kn fn : Nat) : Bool := decide (200 < D.length) || decide (20 < Ca.length) || decide (20 < kn) || decide (200 < fn) || Ca.any (fun x => decide (100 < x.l.length))

end Go.Proofs.Ytikdaehmaaogdaa

/- The law ScanApart. -/
set_option linter.unusedVariables false
set_option linter.unusedSimpArgs false
set_option maxRecDepth 100000
namespace Go.Proofs.Ytikdaehmaaogdaa
open Go Go.Eng Go.RowKit

/-- What Rows comes to of any journal. -/
def RowsIs (g : Geo) (slot key tail : Int) (D : List ByteArray) (L : List Record) : Prop :=
  (openJ g D slot = false ∧ L = []) ∨ (openJ g D slot = true ∧ RowsOf g slot key tail D L)

end Go.Proofs.Ytikdaehmaaogdaa

/- A transaction's records may be. -/
set_option linter.unusedVariables false
set_option linter.unusedSimpArgs false
set_option maxRecDepth 100000
namespace Go.Proofs.Ytikdaehmaaogdaa
open Go Go.Eng Go.RowKit

theorem all_recB {g : Geo} {key lsn : Int} {l : List Block} (h : OfOk g key lsn l) {i : Nat} {r : Record} (hr : (allRecs g key lsn l)[i]? = some r) : recB r = true := by
  have hlt := (List.getElem?_eq_some_iff.1 hr).1
  rw [all_len] at hlt
  by_cases hi : i < l.length * g.per.toNat
  · rw [all_at hi] at hr
    cases hr
    exact h.recsB i hi
  · have : i = l.length * g.per.toNat := by omega
    subst this
    rw [all_last] at hr
    cases hr
    exact h.commitB

end Go.Proofs.Ytikdaehmaaogdaa
