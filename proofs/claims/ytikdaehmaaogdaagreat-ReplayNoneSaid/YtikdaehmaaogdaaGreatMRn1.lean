import Derived.Test.YtikdaehmaaogdaaGreatMRp9
import Derived.Test.YtikdaehmaaogdaaGreatEng39
/- A slot's journal of any device: the document's. -/
set_option linter.unusedVariables false
set_option linter.unusedSimpArgs false
set_option maxRecDepth 100000
namespace Go.Proofs.YtikdaehmaaogdaaGreat
open Go Go.Eng Go.RowKit

theorem rj_in {g : Geo} (hG : geoB g = true) {slot lsn : Int} (hh : 0 ≤ headV g slot) (hl : 0 ≤ lsn) : 0 ≤ jourV g slot lsn ∧ jourV g slot lsn < totV g := by
  have hf := geo_facts hG
  have hz := geo_sizes hG
  have hs : 0 ≤ slot ∧ slot < g.slots := by
    unfold headV at hh
    split at hh
    · rename_i h; exact h.2
    · omega
  have hv : headV g slot = 1 + 2 * g.nodes + g.log + slot * (1 + g.journal) := by rw [headV, if_pos ⟨hG, hs⟩]
  have hd : dataAt g = 1 + 2 * g.nodes + g.log + g.slots * (1 + g.journal) := rfl
  have h2 : (slot + 1) * (1 + g.journal) ≤ g.slots * (1 + g.journal) := Int.mul_le_mul_of_nonneg_right (by omega) (by omega)
  rw [Int.add_mul] at h2
  have he := Int.emod_nonneg lsn (show g.journal ≠ 0 by omega)
  have he2 := Int.emod_lt_of_pos lsn (show 0 < g.journal by omega)
  have ht : totV g = dataAt g + g.blocks * g.per := by rw [totV, if_pos hG]
  rw [jourV, if_neg (by omega)]
  omega

theorem rh_in {g : Geo} (hG : geoB g = true) {slot : Int} (hh : 0 ≤ headV g slot) : headV g slot < totV g := by
  have h1 := rj_in hG hh (lsn := 0) (by omega)
  have hf := geo_facts hG
  have he := Int.emod_nonneg 0 (show g.journal ≠ 0 by omega)
  rw [jourV, if_neg (by omega)] at h1
  omega

/-- What a slot's journal has of a key from a tail on. -/
structure RowsOf (g : Geo) (slot key tail : Int) (D : List ByteArray) (A : List Record) : Prop where
  geo : geoB g = true
  len : (D.length : Int) = totV g
  hd : 0 ≤ headV g slot
  tl0 : 0 ≤ tail
  tl1 : tail ≤ 1099511627776
  few : (A.length : Int) ≤ g.journal
  sz : ∀ s ∈ D, s.size ≤ maxLen
  at_ : ∀ (j : Nat) r, A[j]? = some r → ∃ s, D[(jourV g slot (tail + j)).toNat]? = some s ∧ isB s key (tail + j) = true ∧ isV s key (tail + j) = r
  rest : (A.length : Int) < g.journal → ∃ s, D[(jourV g slot (tail + A.length)).toNat]? = some s ∧ isB s key (tail + A.length) = false

theorem rows_ex {g : Geo} {slot key tail : Int} {D : List ByteArray} (hG : geoB g = true) (hlen : (D.length : Int) = totV g) (hh : 0 ≤ headV g slot) (h0 : 0 ≤ tail) (h1 : tail ≤ 1099511627776) (hz : ∀ s ∈ D, s.size ≤ maxLen) :
    ∃ A, RowsOf g slot key tail D A := by
  have hf := geo_facts hG
  have key1 : ∀ m : Nat, (m : Int) ≤ g.journal → ∃ A : List Record, A.length ≤ m ∧ (∀ (j : Nat) r, A[j]? = some r → ∃ s, D[(jourV g slot (tail + j)).toNat]? = some s ∧ isB s key (tail + j) = true ∧ isV s key (tail + j) = r) ∧
      (A.length < m → ∃ s, D[(jourV g slot (tail + A.length)).toNat]? = some s ∧ isB s key (tail + A.length) = false) := by
    intro m
    induction m with
    | zero => intro _; exact ⟨[], Nat.le_refl _, fun j r h => by simp at h, fun h => by simp at h⟩
    | succ m ih =>
      intro hm
      obtain ⟨A, hA1, hA2, hA3⟩ := ih (by omega)
      by_cases hlt : A.length < m
      · exact ⟨A, by omega, hA2, fun _ => hA3 hlt⟩
      · have he : A.length = m := by omega
        have hj := rj_in hG hh (lsn := tail + A.length) (by omega)
        obtain ⟨s, hs⟩ : ∃ s, D[(jourV g slot (tail + A.length)).toNat]? = some s := ⟨_, List.getElem?_eq_getElem (by omega)⟩
        cases hb : isB s key (tail + A.length) with
        | false => exact ⟨A, by omega, hA2, fun _ => ⟨s, hs, hb⟩⟩
        | true =>
          refine ⟨A ++ [isV s key (tail + A.length)], by simp; omega, fun j r hr => ?_, fun h => by simp at h; omega⟩
          rw [List.getElem?_append] at hr
          split at hr
          · exact hA2 j r hr
          · rename_i hge
            have hjA : j = A.length := by
              have := (List.getElem?_eq_some_iff.1 hr).1
              simp at this
              omega
            subst hjA
            simp at hr
            exact ⟨s, hs, hb, hr⟩
  obtain ⟨A, hA1, hA2, hA3⟩ := key1 g.journal.toNat (by omega)
  exact ⟨A, hG, hlen, hh, h0, h1, by omega, hz, hA2, fun h => hA3 (by omega)⟩

abbrev devG (a ca ka fa : Option Addr) (n c cn cc kn kc fn fc : Nat) (nx : Int) : Value := .agg #[.slice a n c, .slice ca cn cc, .slice ka kn kc, I nx, .slice fa fn fc]

theorem gthere_c (V : Vw) (g : Geo) (ok : g.Ok) (hG : geoB g = true) (slot : Int) (a ca ka fa : Option Addr) (n c cn cc kn kc fn fc : Nat) (nx : Int) (D : List ByteArray) (w : World) (hV : V.le (vw w)) (hs0 : SlOf V encS 1 (.slice a n c) D) (hl : (D.length : Int) = totV g) :
    Calls Tryz.prog 44 #[g.val, devG a ca ka fa n c cn cc kn kc fn fc nx, I slot] w fun e w' => e = .returned (.bool (decide (0 ≤ headV g slot))) ∧ Below w.heap.size w w' := by
  have hs := hs0.mono hV
  refine enter (E := E0) (O := []) (nl := 0) (V := vw w) [.a (.v g.val), .a (.v (devG a ca ka fa n c cn cc kn kc fn fc nx)), .a (.v (I slot))] Tryz.func44 rfl rfl (mem0 E0 0 w) rfl rfl ?_
  refine c_seq ?_
  refine c_region ?_
  refine o_new tok rfl rfl rfl rfl ?_
  refine o_new tok rfl rfl rfl rfl ?_
  refine o_yield rfl rfl rfl (y_val tok rfl) ?_
  refine o_end [2, 3, 4] rfl ?_
  refine x_then ?_
  refine c_seq ?_
  refine c_draw mixed (by kernel_rfl) ?_
  refine d_yield rfl rfl rfl (y_val tok rfl) rfl ?_
  refine d_call (.a (.v _)) rfl rfl fnok5 rfl rfl rfl (fun hg E w1 hm => by exact refMay_c g ok _) ?_
  refine d_yield rfl rfl rfl (y_val tok rfl) rfl ?_
  refine d_yield rfl rfl rfl (y_val tok rfl) rfl ?_
  refine d_yield rfl rfl rfl (y_val tok rfl) rfl ?_
  refine d_yield rfl rfl rfl (y_len tok rfl (fun hg => hs.sl)) rfl ?_
  refine d_yield rfl rfl rfl (y_val tok rfl) rfl ?_
  refine d_call (.a (.v _)) rfl rfl fnok6 rfl rfl rfl (fun hg E w1 hm => by exact refTotal_c g ok _) ?_
  refine d_yield rfl rfl rfl (y_val tok rfl) rfl ?_
  refine d_yield rfl rfl rfl (y_val tok rfl) rfl ?_
  refine d_yield rfl rfl rfl (y_val tok rfl) rfl ?_
  refine d_yield rfl rfl rfl (y_val tok rfl) rfl ?_
  refine d_yield rfl rfl rfl (y_val tok rfl) rfl ?_
  refine d_call (.a (.v _)) rfl rfl fnok14 rfl rfl rfl (fun hg E w1 hm => by exact refHead_c g ok slot _) ?_
  refine d_yield rfl rfl rfl (y_val tok rfl) rfl ?_
  refine d_yield rfl rfl rfl (y_val tok rfl) rfl ?_
  refine d_yield rfl rfl rfl (y_val tok rfl) rfl ?_
  refine d_end [6] rfl ?_
  refine x_then ?_
  refine c_ret ?_
  refine b_ret tok rfl ?_
  intro E w' hm _
  refine ⟨?_, hm.below (Vw.le.refl _)⟩
  rw [hG, hl]
  simp
  rfl

theorem gtail_c (V : Vw) (g : Geo) (ok : g.Ok) (hG : geoB g = true) (slot : Int) (a ca ka fa : Option Addr) (n c cn cc kn kc fn fc : Nat) (nx : Int) (D : List ByteArray) (hz : ∀ s ∈ D, s.size ≤ maxLen) (w : World) (hV : V.le (vw w)) (hs0 : SlOf V encS 1 (.slice a n c) D) (hl : (D.length : Int) = totV g) (tv te : Int)
    (hte : (headV g slot < 0 ∧ tv = 0 ∧ te = 2) ∨ ∃ s, D[(headV g slot).toNat]? = some s ∧ 0 ≤ headV g slot ∧ tv = tailV s ∧ te = tailE s) :
    Calls Tryz.prog 30 #[g.val, devG a ca ka fa n c cn cc kn kc fn fc nx, I slot] w fun e w' => e = .returned (.tuple #[I tv, I te]) ∧ Below w.heap.size w w' := by
  have hs := hs0.mono hV
  refine enter (E := E0) (O := []) (nl := 0) (V := vw w) [.a (.v g.val), .a (.v (devG a ca ka fa n c cn cc kn kc fn fc nx)), .a (.v (I slot))] Tryz.func30 rfl rfl (mem0 E0 0 w) rfl rfl ?_
  refine c_seq ?_
  refine c_region ?_
  refine o_new tok rfl rfl rfl rfl ?_
  refine o_new tok rfl rfl rfl rfl ?_
  refine o_yield rfl rfl rfl (y_val tok rfl) ?_
  refine o_yield rfl rfl rfl (y_val tok rfl) ?_
  refine o_end [2, 3, 4] rfl ?_
  refine x_then ?_
  refine c_seq ?_
  refine c_seq ?_
  refine c_region ?_
  refine o_yield rfl rfl rfl (y_val tok rfl) ?_
  refine o_yield rfl rfl rfl (y_val tok rfl) ?_
  refine o_yield rfl rfl rfl (y_val tok rfl) ?_
  refine o_call (.a (.v _)) rfl rfl fnok44 rfl rfl rfl (fun hg E w1 hm => by exact gthere_c (vw w) g ok hG slot _ _ _ _ _ _ _ _ _ _ _ _ _ D _ hm.leV hs hl) ?_
  refine o_yield rfl rfl rfl (y_val tok rfl) ?_
  refine o_end [2, 3, 4, 12] rfl ?_
  refine x_then ?_
  refine c_cond rfl (fun h => ?_) (fun h => ?_)
  ·
    simp only [Bool.and_eq_true, Bool.or_eq_true, Bool.not_eq_true', Bool.or_eq_false_iff, Bool.and_eq_false_iff, decide_eq_true_eq, decide_eq_false_iff_not, beq_iff_eq, bne_iff_ne, Bool.not_eq_false', beq_eq_false_iff_ne, bne_eq_false_iff_eq, ne_eq, Decidable.not_not, Int.not_lt, Int.not_le] at h
    refine c_seq ?_
    refine c_region ?_
    refine o_yield rfl rfl rfl (y_val tok rfl) ?_
    refine o_yield rfl rfl rfl (y_val tok rfl) ?_
    refine o_end [6, 7] rfl ?_
    refine x_then ?_
    refine c_ret ?_
    refine x_then_ret ?_
    refine b_ret tok rfl ?_
    intro E w' hm _
    refine ⟨?_, hm.below (Vw.le.refl _)⟩
    rcases hte with ⟨_, rfl, rfl⟩ | ⟨s, _, h0, _, _⟩
    · rfl
    · omega
  ·
    simp only [Bool.and_eq_true, Bool.or_eq_true, Bool.not_eq_true', Bool.or_eq_false_iff, Bool.and_eq_false_iff, decide_eq_true_eq, decide_eq_false_iff_not, beq_iff_eq, bne_iff_ne, Bool.not_eq_false', beq_eq_false_iff_ne, bne_eq_false_iff_eq, ne_eq, Decidable.not_not, Int.not_lt, Int.not_le] at h
    obtain ⟨s, h_s, h0, rfl, rfl⟩ := hte.resolve_left (by omega)
    obtain ⟨q, hq⟩ : ∃ q : Nat, headV g slot = q := ⟨(headV g slot).toNat, by omega⟩
    rw [hq, Int.toNat_natCast] at h_s
    clear h
    have hrh := fun w => refHead_c g ok slot w
    rw [hq] at hrh
    refine c_skip ?_
    refine x_then ?_
    refine c_seq ?_
    refine c_draw mixed (by kernel_rfl) ?_
    refine d_yield rfl rfl rfl (y_val tok rfl) rfl ?_
    refine d_yield rfl rfl rfl (y_val tok rfl) rfl ?_
    refine d_yield rfl rfl rfl (y_val tok rfl) rfl ?_
    refine d_yield rfl rfl rfl (y_val tok rfl) rfl ?_
    refine d_call (.a (.v _)) rfl rfl fnok14 rfl rfl rfl (fun hg E w1 hm => by exact hrh _) ?_
    have hlt_s := lt_of_at h_s
    refine d_yield rfl rfl rfl (y_idx tok rfl (fun hg => hs.sl) (fun hg => ⟨by omega, by omega⟩)) rfl ?_
    refine d_yield rfl rfl rfl (y_lel tok (q) 0 (s) rfl (fun hg => hs) (fun hg => h_s) rfl rfl) rfl ?_
    refine d_call (.a (.v _)) rfl rfl fnok45 rfl rfl rfl (fun hg E w1 hm => by exact rstail_c s (hz s (List.mem_of_getElem? h_s)) _) ?_
    refine d_yield rfl rfl rfl (y_val tok rfl) rfl ?_
    refine d_yield rfl rfl rfl (y_val tok rfl) rfl ?_
    refine d_yield rfl rfl rfl (y_val tok rfl) rfl ?_
    refine d_yield rfl rfl rfl (y_val tok rfl) rfl ?_
    refine d_end [6, 7] rfl ?_
    refine x_then ?_
    refine c_ret ?_
    refine b_ret tok rfl ?_
    intro E w' hm _
    refine ⟨?_, hm.below (Vw.le.refl _)⟩
    rfl

theorem grows_c (V : Vw) (g : Geo) (ok : g.Ok) (slot key tail : Int) (D : List ByteArray) (A : List Record) (hJ : RowsOf g slot key tail D A) (a ca ka fa : Option Addr) (n c cn cc kn kc fn fc : Nat) (nx : Int) (w : World) (hV : V.le (vw w)) (hs0 : SlOf V encS 1 (.slice a n c) D) :
    Calls Tryz.prog 32 #[g.val, devG a ca ka fa n c cn cc kn kc fn fc nx, I slot, I key, I tail] w (RowR A w) := by
  have hs := hs0.mono hV
  have hf := geo_facts hJ.geo
  have hz := geo_sizes hJ.geo
  have h0 := hJ.tl0
  have h1 := hJ.tl1
  have hfew := hJ.few
  have hln := hJ.len
  have hhd := hJ.hd
  refine enter (E := E0) (O := []) (nl := 0) (V := vw w) [.a (.v g.val), .a (.v (devG a ca ka fa n c cn cc kn kc fn fc nx)), .a (.v (I slot)), .a (.v (I key)), .a (.v (I tail))] Tryz.func32 rfl rfl (mem0 E0 0 w) rfl rfl ?_
  refine c_seq ?_
  refine c_region ?_
  refine o_new tok rfl rfl rfl rfl ?_
  refine o_new tok rfl rfl rfl rfl ?_
  refine o_yield rfl rfl rfl (y_val tok rfl) ?_
  refine o_end [2, 3, 4, 5, 6] rfl ?_
  refine x_then ?_
  refine c_seq ?_
  refine c_region ?_
  refine o_yield rfl rfl rfl (y_val tok rfl) ?_
  refine o_end [2, 3, 4, 5, 6, 11] rfl ?_
  refine x_then ?_
  refine c_seq ?_
  refine c_seq ?_
  refine c_region ?_
  refine o_yield rfl rfl rfl (y_val tok rfl) ?_
  refine o_yield rfl rfl rfl (y_val tok rfl) ?_
  refine o_yield rfl rfl rfl (y_val tok rfl) ?_
  refine o_call (.a (.v _)) rfl rfl fnok44 rfl rfl rfl (fun hg E w1 hm => by exact gthere_c (vw w) g ok hJ.geo slot _ _ _ _ _ _ _ _ _ _ _ _ _ D _ hm.leV hs hJ.len) ?_
  refine o_yield rfl rfl rfl (y_val tok rfl) ?_
  refine o_yield rfl rfl rfl (y_val tok rfl) ?_
  refine o_yield rfl rfl rfl (y_val tok rfl) ?_
  refine o_yield rfl rfl rfl (y_val tok rfl) ?_
  refine o_yield rfl rfl rfl (y_val tok rfl) ?_
  refine o_yield rfl rfl rfl (y_val tok rfl) ?_
  refine o_yield rfl rfl rfl (y_val tok rfl) ?_
  refine o_yield rfl rfl rfl (y_val tok rfl) ?_
  refine o_yield rfl rfl rfl (y_val tok rfl) ?_
  refine o_end [2, 3, 4, 5, 6, 11, 27] rfl ?_
  refine x_then ?_
  refine c_cond rfl (fun h => ?_) (fun h => ?_)
  ·
    simp only [Bool.and_eq_true, Bool.or_eq_true, Bool.not_eq_true', Bool.or_eq_false_iff, Bool.and_eq_false_iff, decide_eq_true_eq, decide_eq_false_iff_not, beq_iff_eq, bne_iff_ne, Bool.not_eq_false', beq_eq_false_iff_ne, bne_eq_false_iff_eq, ne_eq, Decidable.not_not, Int.not_lt, Int.not_le] at h
    refine c_seq ?_
    refine c_region ?_
    refine o_yield rfl rfl rfl (y_val tok rfl) ?_
    refine o_end [10] rfl ?_
    refine x_then ?_
    refine c_ret ?_
    refine x_then_ret ?_
    refine b_ret tok rfl ?_
    exfalso
    omega
  ·
    simp only [Bool.and_eq_true, Bool.or_eq_true, Bool.not_eq_true', Bool.or_eq_false_iff, Bool.and_eq_false_iff, decide_eq_true_eq, decide_eq_false_iff_not, beq_iff_eq, bne_iff_ne, Bool.not_eq_false', beq_eq_false_iff_ne, bne_eq_false_iff_eq, ne_eq, Decidable.not_not, Int.not_lt, Int.not_le] at h
    clear h
    refine c_skip ?_
    refine x_then ?_
    refine c_seq ?_
    refine c_seq ?_
    refine c_region ?_
    refine o_yield rfl rfl rfl (y_val tok rfl) ?_
    refine o_end [2, 3, 4, 5, 6, 11, 12] rfl ?_
    refine x_then ?_
    refine c_block ?_
    refine k_nil 11 78 6 rfl rfl ?_
    refine c_loopK [2, 3, 4, 5, 6] [2] rfl rfl (σ := Nat) (fun i => [(11, .a (.row 2)), (12, .a (.v (I i)))]) (fun i => [(2, .row 78 6 (A.take i).length ((A.take i).flatMap Record.cells))]) (fun i => i ≤ A.length) (fun i => g.journal.toNat - i) (0) (by omega) (by repeat (first | exact SubF.nil | refine SubF.cons rfl ?_)) (by repeat (first | exact SubO.nil | refine SubO.cons rfl ?_)) rfl ?_
    rintro i hi
    refine c_seq ?_
    refine c_seq ?_
    refine c_region ?_
    refine o_yield rfl rfl rfl (y_val tok rfl) ?_
    refine o_yield rfl rfl rfl (y_val tok rfl) ?_
    refine o_yield rfl rfl rfl (y_val tok rfl) ?_
    refine o_yield rfl rfl rfl (y_val tok rfl) ?_
    refine o_end [2, 3, 4, 5, 6, 11, 12, 31] rfl ?_
    refine x_then ?_
    refine c_cond rfl (fun h => ?_) (fun h => ?_)
    ·
      simp only [Bool.and_eq_true, Bool.or_eq_true, Bool.not_eq_true', Bool.or_eq_false_iff, Bool.and_eq_false_iff, decide_eq_true_eq, decide_eq_false_iff_not, beq_iff_eq, bne_iff_ne, Bool.not_eq_false', beq_eq_false_iff_ne, bne_eq_false_iff_eq, ne_eq, Decidable.not_not, Int.not_lt, Int.not_le] at h
      have hwi : IntKind.i64.wrap ((i : Int) + 1) = ((i + 1 : Nat) : Int) := wrapI (by omega) (by omega)
      have hwt : IntKind.i64.wrap (tail + (i : Int)) = tail + i := wrapI (by omega) (by omega)
      obtain ⟨b, R, s, h_s, hsz, hb, hR, hcase⟩ : ∃ (b : Bool) (R : Record) (s : ByteArray), D[(jourV g slot (tail + i)).toNat]? = some s ∧ s.size ≤ maxLen ∧ isB s key (tail + i) = b ∧ isV s key (tail + i) = R ∧ ((i < A.length ∧ b = true ∧ A[i]? = some R) ∨ (i = A.length ∧ b = false)) := by
        by_cases hlt : i < A.length
        · obtain ⟨r, hr⟩ : ∃ r, A[i]? = some r := ⟨_, List.getElem?_eq_getElem hlt⟩
          obtain ⟨s, hs1, hs2, hs3⟩ := hJ.at_ i r hr
          exact ⟨true, r, s, hs1, hJ.sz s (List.mem_of_getElem? hs1), hs2, hs3, .inl ⟨hlt, rfl, hr⟩⟩
        · have hiA : i = A.length := by omega
          obtain ⟨s, hs1, hs2⟩ := hJ.rest (by omega)
          rw [← hiA] at hs1 hs2
          exact ⟨false, _, s, hs1, hJ.sz s (List.mem_of_getElem? hs1), hs2, rfl, .inr ⟨hiA, rfl⟩⟩
      have hj0 := (rj_in hJ.geo hJ.hd (lsn := tail + i) (by omega)).1
      obtain ⟨q, hq⟩ : ∃ q : Nat, jourV g slot (tail + i) = q := ⟨(jourV g slot (tail + i)).toNat, by omega⟩
      rw [hq, Int.toNat_natCast] at h_s
      have hqlt := lt_of_at h_s
      have hjc := fun w => refJour_c g ok slot (tail + i) w
      rw [hq, ← hwt] at hjc
      have hisc := fun w => refIs_c s key (tail + i) hsz w
      rw [hb, hR, ← hwt] at hisc
      refine c_skip ?_
      refine x_then ?_
      refine c_seq ?_
      refine c_block ?_
      refine c_seq ?_
      refine c_heldM (σ := Unit) (fun _ => [(2, .a (.v (I slot))), (3, .a (.v (I key))), (4, .a (.v (I tail))), (5, .a (.ptr 0 0)), (6, .a (.ptr 1 0)), (11, .a (.row 2)), (12, .a (.v (I i))), (13, .a (.ptr 3 0)), (14, .a (.v (.bool b)))]) (fun _ => [(0, .lit (g.cells.map .v) 23), (1, .lit [.v (.slice a n c), .v (.slice ca cn cc), .v (.slice ka kn kc), .v (I nx), .v (.slice fa fn fc)] 28), (2, .row 78 6 (A.take i).length ((A.take i).flatMap Record.cells)), (3, .lit (R.cells.map .v) 78)]) (4) (fun _ => (vw w)) (fun _ => True) mixed ?_ ?_
      ·
        refine t_take 0 rfl (by kernel_rfl) rfl rfl rfl (y_val tok rfl) rfl ?_
        refine t_take 1 rfl (by kernel_rfl) rfl rfl rfl (y_val tok rfl) rfl ?_
        refine t_take 2 rfl (by kernel_rfl) rfl rfl rfl (y_val tok rfl) rfl ?_
        refine t_take 3 rfl (by kernel_rfl) rfl rfl rfl (y_val tok rfl) rfl ?_
        refine t_take 4 rfl (by kernel_rfl) rfl rfl rfl (y_val tok rfl) rfl ?_
        refine t_take 5 rfl (by kernel_rfl) rfl rfl rfl (y_val tok rfl) rfl ?_
        refine t_take 6 rfl (by kernel_rfl) rfl rfl rfl (y_val tok rfl) rfl ?_
        refine t_take 10 rfl (by kernel_rfl) rfl rfl rfl (y_val tok rfl) rfl ?_
        refine t_take 11 rfl (by kernel_rfl) rfl rfl rfl (y_val tok rfl) rfl ?_
        refine t_take 12 rfl (by kernel_rfl) rfl rfl rfl (y_val tok rfl) rfl ?_
        refine t_take 13 rfl (by kernel_rfl) rfl rfl rfl (y_val tok rfl) rfl ?_
        refine t_go ?_
        refine h_two 7 18 (by kernel_rfl) ?_ ?_
        ·
          refine h_call 7 (.a (.v (I (q : Int)))) rfl rfl rfl fnok29 rfl rfl rfl (fun hg E w1 hm => by exact hjc _) ?_
          refine h_two 8 18 (by kernel_rfl) ?_ ?_
          ·
            refine h_yield 8 rfl rfl rfl rfl (y_idxK tok q rfl (by simp) (fun hg => hs.sl) (fun hg => by omega)) ?_
            refine h_two 9 18 (by kernel_rfl) ?_ ?_
            ·
              refine h_yield 9 rfl rfl rfl rfl (y_lel (enc := encS) (l := D) tok q 0 s rfl (fun hg => hs) (fun hg => h_s) (by simp) rfl) ?_
              refine h_two 14 18 (by kernel_rfl) ?_ ?_
              ·
                refine h_call 14 (.a (.v (.tuple #[R.val, .bool b]))) rfl rfl rfl fnok47 rfl rfl rfl (fun hg E w1 hm => by exact hisc _) ?_
                refine h_two 15 18 (by kernel_rfl) ?_ ?_
                ·
                  refine h_yield 15 rfl rfl rfl rfl (y_val tok rfl) ?_
                  refine h_three 16 17 18 (by kernel_rfl) ?_ ?_ ?_
                  ·
                    refine h_yield 16 rfl rfl rfl rfl (y_val tok rfl) ?_
                    refine h_two 17 18 (by kernel_rfl) ?_ ?_
                    ·
                      refine h_yield 17 rfl rfl rfl rfl (y_val tok rfl) ?_
                      refine h_one 18 (by kernel_rfl) ?_
                      refine h_new 18 tok rfl rfl rfl rfl rfl rfl ?_
                      refine h_one 19 (by kernel_rfl) ?_
                      refine h_store 19 tok rfl rfl rfl rfl (by first | exact ⟨trivial, trivial⟩ | (repeat' first | exact trivial | exact rfl | apply And.intro); done | simp [onesP, oneP, lk, Value.oneCell']) (.inr ⟨(by repeat (first | exact SubO.nil | refine SubO.cons rfl ?_)), rfl, (by first | exact Vw.le.refl _ | assumption)⟩) ?_
                      refine h_one 20 (by kernel_rfl) ?_
                      refine h_yield 20 rfl rfl rfl rfl (y_val tok rfl) ?_
                      refine h_done [2, 3, 4, 5, 6, 11, 12, 13, 14] (by kernel_rfl) rfl ?_
                      exact x_meet () trivial (by repeat (first | exact SubF.nil | refine SubF.cons rfl ?_)) (by repeat (first | exact SubO.nil | refine SubO.cons rfl ?_)) rfl (Vw.le.refl _)
                    ·
                      refine h_new 18 tok rfl rfl rfl rfl rfl rfl ?_
                      refine h_two 17 19 (by kernel_rfl) ?_ ?_
                      ·
                        refine h_yield 17 rfl rfl rfl rfl (y_val tok rfl) ?_
                        refine h_one 19 (by kernel_rfl) ?_
                        refine h_store 19 tok rfl rfl rfl rfl (by first | exact ⟨trivial, trivial⟩ | (repeat' first | exact trivial | exact rfl | apply And.intro); done | simp [onesP, oneP, lk, Value.oneCell']) (.inr ⟨(by repeat (first | exact SubO.nil | refine SubO.cons rfl ?_)), rfl, (by first | exact Vw.le.refl _ | assumption)⟩) ?_
                        refine h_one 20 (by kernel_rfl) ?_
                        refine h_yield 20 rfl rfl rfl rfl (y_val tok rfl) ?_
                        refine h_done [2, 3, 4, 5, 6, 11, 12, 13, 14] (by kernel_rfl) rfl ?_
                        exact x_meet () trivial (by repeat (first | exact SubF.nil | refine SubF.cons rfl ?_)) (by repeat (first | exact SubO.nil | refine SubO.cons rfl ?_)) rfl (Vw.le.refl _)
                      ·
                        refine h_store 19 tok rfl rfl rfl rfl (by first | exact ⟨trivial, trivial⟩ | (repeat' first | exact trivial | exact rfl | apply And.intro); done | simp [onesP, oneP, lk, Value.oneCell']) (.inr ⟨(by repeat (first | exact SubO.nil | refine SubO.cons rfl ?_)), rfl, (by first | exact Vw.le.refl _ | assumption)⟩) ?_
                        refine h_one 17 (by kernel_rfl) ?_
                        refine h_yield 17 rfl rfl rfl rfl (y_val tok rfl) ?_
                        refine h_one 20 (by kernel_rfl) ?_
                        refine h_yield 20 rfl rfl rfl rfl (y_val tok rfl) ?_
                        refine h_done [2, 3, 4, 5, 6, 11, 12, 13, 14] (by kernel_rfl) rfl ?_
                        exact x_meet () trivial (by repeat (first | exact SubF.nil | refine SubF.cons rfl ?_)) (by repeat (first | exact SubO.nil | refine SubO.cons rfl ?_)) rfl (Vw.le.refl _)
                  ·
                    refine h_yield 17 rfl rfl rfl rfl (y_val tok rfl) ?_
                    refine h_two 16 18 (by kernel_rfl) ?_ ?_
                    ·
                      refine h_yield 16 rfl rfl rfl rfl (y_val tok rfl) ?_
                      refine h_one 18 (by kernel_rfl) ?_
                      refine h_new 18 tok rfl rfl rfl rfl rfl rfl ?_
                      refine h_one 19 (by kernel_rfl) ?_
                      refine h_store 19 tok rfl rfl rfl rfl (by first | exact ⟨trivial, trivial⟩ | (repeat' first | exact trivial | exact rfl | apply And.intro); done | simp [onesP, oneP, lk, Value.oneCell']) (.inr ⟨(by repeat (first | exact SubO.nil | refine SubO.cons rfl ?_)), rfl, (by first | exact Vw.le.refl _ | assumption)⟩) ?_
                      refine h_one 20 (by kernel_rfl) ?_
                      refine h_yield 20 rfl rfl rfl rfl (y_val tok rfl) ?_
                      refine h_done [2, 3, 4, 5, 6, 11, 12, 13, 14] (by kernel_rfl) rfl ?_
                      exact x_meet () trivial (by repeat (first | exact SubF.nil | refine SubF.cons rfl ?_)) (by repeat (first | exact SubO.nil | refine SubO.cons rfl ?_)) rfl (Vw.le.refl _)
                    ·
                      refine h_new 18 tok rfl rfl rfl rfl rfl rfl ?_
                      refine h_one 16 (by kernel_rfl) ?_
                      refine h_yield 16 rfl rfl rfl rfl (y_val tok rfl) ?_
                      refine h_one 19 (by kernel_rfl) ?_
                      refine h_store 19 tok rfl rfl rfl rfl (by first | exact ⟨trivial, trivial⟩ | (repeat' first | exact trivial | exact rfl | apply And.intro); done | simp [onesP, oneP, lk, Value.oneCell']) (.inr ⟨(by repeat (first | exact SubO.nil | refine SubO.cons rfl ?_)), rfl, (by first | exact Vw.le.refl _ | assumption)⟩) ?_
                      refine h_one 20 (by kernel_rfl) ?_
                      refine h_yield 20 rfl rfl rfl rfl (y_val tok rfl) ?_
                      refine h_done [2, 3, 4, 5, 6, 11, 12, 13, 14] (by kernel_rfl) rfl ?_
                      exact x_meet () trivial (by repeat (first | exact SubF.nil | refine SubF.cons rfl ?_)) (by repeat (first | exact SubO.nil | refine SubO.cons rfl ?_)) rfl (Vw.le.refl _)
                  ·
                    refine h_new 18 tok rfl rfl rfl rfl rfl rfl ?_
                    refine h_two 16 17 (by kernel_rfl) ?_ ?_
                    ·
                      refine h_yield 16 rfl rfl rfl rfl (y_val tok rfl) ?_
                      refine h_two 17 19 (by kernel_rfl) ?_ ?_
                      ·
                        refine h_yield 17 rfl rfl rfl rfl (y_val tok rfl) ?_
                        refine h_one 19 (by kernel_rfl) ?_
                        refine h_store 19 tok rfl rfl rfl rfl (by first | exact ⟨trivial, trivial⟩ | (repeat' first | exact trivial | exact rfl | apply And.intro); done | simp [onesP, oneP, lk, Value.oneCell']) (.inr ⟨(by repeat (first | exact SubO.nil | refine SubO.cons rfl ?_)), rfl, (by first | exact Vw.le.refl _ | assumption)⟩) ?_
                        refine h_one 20 (by kernel_rfl) ?_
                        refine h_yield 20 rfl rfl rfl rfl (y_val tok rfl) ?_
                        refine h_done [2, 3, 4, 5, 6, 11, 12, 13, 14] (by kernel_rfl) rfl ?_
                        exact x_meet () trivial (by repeat (first | exact SubF.nil | refine SubF.cons rfl ?_)) (by repeat (first | exact SubO.nil | refine SubO.cons rfl ?_)) rfl (Vw.le.refl _)
                      ·
                        refine h_store 19 tok rfl rfl rfl rfl (by first | exact ⟨trivial, trivial⟩ | (repeat' first | exact trivial | exact rfl | apply And.intro); done | simp [onesP, oneP, lk, Value.oneCell']) (.inr ⟨(by repeat (first | exact SubO.nil | refine SubO.cons rfl ?_)), rfl, (by first | exact Vw.le.refl _ | assumption)⟩) ?_
                        refine h_one 17 (by kernel_rfl) ?_
                        refine h_yield 17 rfl rfl rfl rfl (y_val tok rfl) ?_
                        refine h_one 20 (by kernel_rfl) ?_
                        refine h_yield 20 rfl rfl rfl rfl (y_val tok rfl) ?_
                        refine h_done [2, 3, 4, 5, 6, 11, 12, 13, 14] (by kernel_rfl) rfl ?_
                        exact x_meet () trivial (by repeat (first | exact SubF.nil | refine SubF.cons rfl ?_)) (by repeat (first | exact SubO.nil | refine SubO.cons rfl ?_)) rfl (Vw.le.refl _)
                    ·
                      refine h_yield 17 rfl rfl rfl rfl (y_val tok rfl) ?_
                      refine h_one 16 (by kernel_rfl) ?_
                      refine h_yield 16 rfl rfl rfl rfl (y_val tok rfl) ?_
                      refine h_one 19 (by kernel_rfl) ?_
                      refine h_store 19 tok rfl rfl rfl rfl (by first | exact ⟨trivial, trivial⟩ | (repeat' first | exact trivial | exact rfl | apply And.intro); done | simp [onesP, oneP, lk, Value.oneCell']) (.inr ⟨(by repeat (first | exact SubO.nil | refine SubO.cons rfl ?_)), rfl, (by first | exact Vw.le.refl _ | assumption)⟩) ?_
                      refine h_one 20 (by kernel_rfl) ?_
                      refine h_yield 20 rfl rfl rfl rfl (y_val tok rfl) ?_
                      refine h_done [2, 3, 4, 5, 6, 11, 12, 13, 14] (by kernel_rfl) rfl ?_
                      exact x_meet () trivial (by repeat (first | exact SubF.nil | refine SubF.cons rfl ?_)) (by repeat (first | exact SubO.nil | refine SubO.cons rfl ?_)) rfl (Vw.le.refl _)
                ·
                  refine h_new 18 tok rfl rfl rfl rfl rfl rfl ?_
                  refine h_one 15 (by kernel_rfl) ?_
                  refine h_yield 15 rfl rfl rfl rfl (y_val tok rfl) ?_
                  refine h_two 16 17 (by kernel_rfl) ?_ ?_
                  ·
                    refine h_yield 16 rfl rfl rfl rfl (y_val tok rfl) ?_
                    refine h_two 17 19 (by kernel_rfl) ?_ ?_
                    ·
                      refine h_yield 17 rfl rfl rfl rfl (y_val tok rfl) ?_
                      refine h_one 19 (by kernel_rfl) ?_
                      refine h_store 19 tok rfl rfl rfl rfl (by first | exact ⟨trivial, trivial⟩ | (repeat' first | exact trivial | exact rfl | apply And.intro); done | simp [onesP, oneP, lk, Value.oneCell']) (.inr ⟨(by repeat (first | exact SubO.nil | refine SubO.cons rfl ?_)), rfl, (by first | exact Vw.le.refl _ | assumption)⟩) ?_
                      refine h_one 20 (by kernel_rfl) ?_
                      refine h_yield 20 rfl rfl rfl rfl (y_val tok rfl) ?_
                      refine h_done [2, 3, 4, 5, 6, 11, 12, 13, 14] (by kernel_rfl) rfl ?_
                      exact x_meet () trivial (by repeat (first | exact SubF.nil | refine SubF.cons rfl ?_)) (by repeat (first | exact SubO.nil | refine SubO.cons rfl ?_)) rfl (Vw.le.refl _)
                    ·
                      refine h_store 19 tok rfl rfl rfl rfl (by first | exact ⟨trivial, trivial⟩ | (repeat' first | exact trivial | exact rfl | apply And.intro); done | simp [onesP, oneP, lk, Value.oneCell']) (.inr ⟨(by repeat (first | exact SubO.nil | refine SubO.cons rfl ?_)), rfl, (by first | exact Vw.le.refl _ | assumption)⟩) ?_
                      refine h_one 17 (by kernel_rfl) ?_
                      refine h_yield 17 rfl rfl rfl rfl (y_val tok rfl) ?_
                      refine h_one 20 (by kernel_rfl) ?_
                      refine h_yield 20 rfl rfl rfl rfl (y_val tok rfl) ?_
                      refine h_done [2, 3, 4, 5, 6, 11, 12, 13, 14] (by kernel_rfl) rfl ?_
                      exact x_meet () trivial (by repeat (first | exact SubF.nil | refine SubF.cons rfl ?_)) (by repeat (first | exact SubO.nil | refine SubO.cons rfl ?_)) rfl (Vw.le.refl _)
                  ·
                    refine h_yield 17 rfl rfl rfl rfl (y_val tok rfl) ?_
                    refine h_one 16 (by kernel_rfl) ?_
                    refine h_yield 16 rfl rfl rfl rfl (y_val tok rfl) ?_
                    refine h_one 19 (by kernel_rfl) ?_
                    refine h_store 19 tok rfl rfl rfl rfl (by first | exact ⟨trivial, trivial⟩ | (repeat' first | exact trivial | exact rfl | apply And.intro); done | simp [onesP, oneP, lk, Value.oneCell']) (.inr ⟨(by repeat (first | exact SubO.nil | refine SubO.cons rfl ?_)), rfl, (by first | exact Vw.le.refl _ | assumption)⟩) ?_
                    refine h_one 20 (by kernel_rfl) ?_
                    refine h_yield 20 rfl rfl rfl rfl (y_val tok rfl) ?_
                    refine h_done [2, 3, 4, 5, 6, 11, 12, 13, 14] (by kernel_rfl) rfl ?_
                    exact x_meet () trivial (by repeat (first | exact SubF.nil | refine SubF.cons rfl ?_)) (by repeat (first | exact SubO.nil | refine SubO.cons rfl ?_)) rfl (Vw.le.refl _)
              ·
                refine h_new 18 tok rfl rfl rfl rfl rfl rfl ?_
                refine h_one 14 (by kernel_rfl) ?_
                refine h_call 14 (.a (.v (.tuple #[R.val, .bool b]))) rfl rfl rfl fnok47 rfl rfl rfl (fun hg E w1 hm => by exact hisc _) ?_
                refine h_one 15 (by kernel_rfl) ?_
                refine h_yield 15 rfl rfl rfl rfl (y_val tok rfl) ?_
                refine h_two 16 17 (by kernel_rfl) ?_ ?_
                ·
                  refine h_yield 16 rfl rfl rfl rfl (y_val tok rfl) ?_
                  refine h_two 17 19 (by kernel_rfl) ?_ ?_
                  ·
                    refine h_yield 17 rfl rfl rfl rfl (y_val tok rfl) ?_
                    refine h_one 19 (by kernel_rfl) ?_
                    refine h_store 19 tok rfl rfl rfl rfl (by first | exact ⟨trivial, trivial⟩ | (repeat' first | exact trivial | exact rfl | apply And.intro); done | simp [onesP, oneP, lk, Value.oneCell']) (.inr ⟨(by repeat (first | exact SubO.nil | refine SubO.cons rfl ?_)), rfl, (by first | exact Vw.le.refl _ | assumption)⟩) ?_
                    refine h_one 20 (by kernel_rfl) ?_
                    refine h_yield 20 rfl rfl rfl rfl (y_val tok rfl) ?_
                    refine h_done [2, 3, 4, 5, 6, 11, 12, 13, 14] (by kernel_rfl) rfl ?_
                    exact x_meet () trivial (by repeat (first | exact SubF.nil | refine SubF.cons rfl ?_)) (by repeat (first | exact SubO.nil | refine SubO.cons rfl ?_)) rfl (Vw.le.refl _)
                  ·
                    refine h_store 19 tok rfl rfl rfl rfl (by first | exact ⟨trivial, trivial⟩ | (repeat' first | exact trivial | exact rfl | apply And.intro); done | simp [onesP, oneP, lk, Value.oneCell']) (.inr ⟨(by repeat (first | exact SubO.nil | refine SubO.cons rfl ?_)), rfl, (by first | exact Vw.le.refl _ | assumption)⟩) ?_
                    refine h_one 17 (by kernel_rfl) ?_
                    refine h_yield 17 rfl rfl rfl rfl (y_val tok rfl) ?_
                    refine h_one 20 (by kernel_rfl) ?_
                    refine h_yield 20 rfl rfl rfl rfl (y_val tok rfl) ?_
                    refine h_done [2, 3, 4, 5, 6, 11, 12, 13, 14] (by kernel_rfl) rfl ?_
                    exact x_meet () trivial (by repeat (first | exact SubF.nil | refine SubF.cons rfl ?_)) (by repeat (first | exact SubO.nil | refine SubO.cons rfl ?_)) rfl (Vw.le.refl _)
                ·
                  refine h_yield 17 rfl rfl rfl rfl (y_val tok rfl) ?_
                  refine h_one 16 (by kernel_rfl) ?_
                  refine h_yield 16 rfl rfl rfl rfl (y_val tok rfl) ?_
                  refine h_one 19 (by kernel_rfl) ?_
                  refine h_store 19 tok rfl rfl rfl rfl (by first | exact ⟨trivial, trivial⟩ | (repeat' first | exact trivial | exact rfl | apply And.intro); done | simp [onesP, oneP, lk, Value.oneCell']) (.inr ⟨(by repeat (first | exact SubO.nil | refine SubO.cons rfl ?_)), rfl, (by first | exact Vw.le.refl _ | assumption)⟩) ?_
                  refine h_one 20 (by kernel_rfl) ?_
                  refine h_yield 20 rfl rfl rfl rfl (y_val tok rfl) ?_
                  refine h_done [2, 3, 4, 5, 6, 11, 12, 13, 14] (by kernel_rfl) rfl ?_
                  exact x_meet () trivial (by repeat (first | exact SubF.nil | refine SubF.cons rfl ?_)) (by repeat (first | exact SubO.nil | refine SubO.cons rfl ?_)) rfl (Vw.le.refl _)
            ·
              refine h_new 18 tok rfl rfl rfl rfl rfl rfl ?_
              refine h_one 9 (by kernel_rfl) ?_
              refine h_yield 9 rfl rfl rfl rfl (y_lel (enc := encS) (l := D) tok q 0 s rfl (fun hg => hs) (fun hg => h_s) (by simp) rfl) ?_
              refine h_one 14 (by kernel_rfl) ?_
              refine h_call 14 (.a (.v (.tuple #[R.val, .bool b]))) rfl rfl rfl fnok47 rfl rfl rfl (fun hg E w1 hm => by exact hisc _) ?_
              refine h_one 15 (by kernel_rfl) ?_
              refine h_yield 15 rfl rfl rfl rfl (y_val tok rfl) ?_
              refine h_two 16 17 (by kernel_rfl) ?_ ?_
              ·
                refine h_yield 16 rfl rfl rfl rfl (y_val tok rfl) ?_
                refine h_two 17 19 (by kernel_rfl) ?_ ?_
                ·
                  refine h_yield 17 rfl rfl rfl rfl (y_val tok rfl) ?_
                  refine h_one 19 (by kernel_rfl) ?_
                  refine h_store 19 tok rfl rfl rfl rfl (by first | exact ⟨trivial, trivial⟩ | (repeat' first | exact trivial | exact rfl | apply And.intro); done | simp [onesP, oneP, lk, Value.oneCell']) (.inr ⟨(by repeat (first | exact SubO.nil | refine SubO.cons rfl ?_)), rfl, (by first | exact Vw.le.refl _ | assumption)⟩) ?_
                  refine h_one 20 (by kernel_rfl) ?_
                  refine h_yield 20 rfl rfl rfl rfl (y_val tok rfl) ?_
                  refine h_done [2, 3, 4, 5, 6, 11, 12, 13, 14] (by kernel_rfl) rfl ?_
                  exact x_meet () trivial (by repeat (first | exact SubF.nil | refine SubF.cons rfl ?_)) (by repeat (first | exact SubO.nil | refine SubO.cons rfl ?_)) rfl (Vw.le.refl _)
                ·
                  refine h_store 19 tok rfl rfl rfl rfl (by first | exact ⟨trivial, trivial⟩ | (repeat' first | exact trivial | exact rfl | apply And.intro); done | simp [onesP, oneP, lk, Value.oneCell']) (.inr ⟨(by repeat (first | exact SubO.nil | refine SubO.cons rfl ?_)), rfl, (by first | exact Vw.le.refl _ | assumption)⟩) ?_
                  refine h_one 17 (by kernel_rfl) ?_
                  refine h_yield 17 rfl rfl rfl rfl (y_val tok rfl) ?_
                  refine h_one 20 (by kernel_rfl) ?_
                  refine h_yield 20 rfl rfl rfl rfl (y_val tok rfl) ?_
                  refine h_done [2, 3, 4, 5, 6, 11, 12, 13, 14] (by kernel_rfl) rfl ?_
                  exact x_meet () trivial (by repeat (first | exact SubF.nil | refine SubF.cons rfl ?_)) (by repeat (first | exact SubO.nil | refine SubO.cons rfl ?_)) rfl (Vw.le.refl _)
              ·
                refine h_yield 17 rfl rfl rfl rfl (y_val tok rfl) ?_
                refine h_one 16 (by kernel_rfl) ?_
                refine h_yield 16 rfl rfl rfl rfl (y_val tok rfl) ?_
                refine h_one 19 (by kernel_rfl) ?_
                refine h_store 19 tok rfl rfl rfl rfl (by first | exact ⟨trivial, trivial⟩ | (repeat' first | exact trivial | exact rfl | apply And.intro); done | simp [onesP, oneP, lk, Value.oneCell']) (.inr ⟨(by repeat (first | exact SubO.nil | refine SubO.cons rfl ?_)), rfl, (by first | exact Vw.le.refl _ | assumption)⟩) ?_
                refine h_one 20 (by kernel_rfl) ?_
                refine h_yield 20 rfl rfl rfl rfl (y_val tok rfl) ?_
                refine h_done [2, 3, 4, 5, 6, 11, 12, 13, 14] (by kernel_rfl) rfl ?_
                exact x_meet () trivial (by repeat (first | exact SubF.nil | refine SubF.cons rfl ?_)) (by repeat (first | exact SubO.nil | refine SubO.cons rfl ?_)) rfl (Vw.le.refl _)
          ·
            refine h_new 18 tok rfl rfl rfl rfl rfl rfl ?_
            refine h_one 8 (by kernel_rfl) ?_
            refine h_yield 8 rfl rfl rfl rfl (y_idxK tok q rfl (by simp) (fun hg => hs.sl) (fun hg => by omega)) ?_
            refine h_one 9 (by kernel_rfl) ?_
            refine h_yield 9 rfl rfl rfl rfl (y_lel (enc := encS) (l := D) tok q 0 s rfl (fun hg => hs) (fun hg => h_s) (by simp) rfl) ?_
            refine h_one 14 (by kernel_rfl) ?_
            refine h_call 14 (.a (.v (.tuple #[R.val, .bool b]))) rfl rfl rfl fnok47 rfl rfl rfl (fun hg E w1 hm => by exact hisc _) ?_
            refine h_one 15 (by kernel_rfl) ?_
            refine h_yield 15 rfl rfl rfl rfl (y_val tok rfl) ?_
            refine h_two 16 17 (by kernel_rfl) ?_ ?_
            ·
              refine h_yield 16 rfl rfl rfl rfl (y_val tok rfl) ?_
              refine h_two 17 19 (by kernel_rfl) ?_ ?_
              ·
                refine h_yield 17 rfl rfl rfl rfl (y_val tok rfl) ?_
                refine h_one 19 (by kernel_rfl) ?_
                refine h_store 19 tok rfl rfl rfl rfl (by first | exact ⟨trivial, trivial⟩ | (repeat' first | exact trivial | exact rfl | apply And.intro); done | simp [onesP, oneP, lk, Value.oneCell']) (.inr ⟨(by repeat (first | exact SubO.nil | refine SubO.cons rfl ?_)), rfl, (by first | exact Vw.le.refl _ | assumption)⟩) ?_
                refine h_one 20 (by kernel_rfl) ?_
                refine h_yield 20 rfl rfl rfl rfl (y_val tok rfl) ?_
                refine h_done [2, 3, 4, 5, 6, 11, 12, 13, 14] (by kernel_rfl) rfl ?_
                exact x_meet () trivial (by repeat (first | exact SubF.nil | refine SubF.cons rfl ?_)) (by repeat (first | exact SubO.nil | refine SubO.cons rfl ?_)) rfl (Vw.le.refl _)
              ·
                refine h_store 19 tok rfl rfl rfl rfl (by first | exact ⟨trivial, trivial⟩ | (repeat' first | exact trivial | exact rfl | apply And.intro); done | simp [onesP, oneP, lk, Value.oneCell']) (.inr ⟨(by repeat (first | exact SubO.nil | refine SubO.cons rfl ?_)), rfl, (by first | exact Vw.le.refl _ | assumption)⟩) ?_
                refine h_one 17 (by kernel_rfl) ?_
                refine h_yield 17 rfl rfl rfl rfl (y_val tok rfl) ?_
                refine h_one 20 (by kernel_rfl) ?_
                refine h_yield 20 rfl rfl rfl rfl (y_val tok rfl) ?_
                refine h_done [2, 3, 4, 5, 6, 11, 12, 13, 14] (by kernel_rfl) rfl ?_
                exact x_meet () trivial (by repeat (first | exact SubF.nil | refine SubF.cons rfl ?_)) (by repeat (first | exact SubO.nil | refine SubO.cons rfl ?_)) rfl (Vw.le.refl _)
            ·
              refine h_yield 17 rfl rfl rfl rfl (y_val tok rfl) ?_
              refine h_one 16 (by kernel_rfl) ?_
              refine h_yield 16 rfl rfl rfl rfl (y_val tok rfl) ?_
              refine h_one 19 (by kernel_rfl) ?_
              refine h_store 19 tok rfl rfl rfl rfl (by first | exact ⟨trivial, trivial⟩ | (repeat' first | exact trivial | exact rfl | apply And.intro); done | simp [onesP, oneP, lk, Value.oneCell']) (.inr ⟨(by repeat (first | exact SubO.nil | refine SubO.cons rfl ?_)), rfl, (by first | exact Vw.le.refl _ | assumption)⟩) ?_
              refine h_one 20 (by kernel_rfl) ?_
              refine h_yield 20 rfl rfl rfl rfl (y_val tok rfl) ?_
              refine h_done [2, 3, 4, 5, 6, 11, 12, 13, 14] (by kernel_rfl) rfl ?_
              exact x_meet () trivial (by repeat (first | exact SubF.nil | refine SubF.cons rfl ?_)) (by repeat (first | exact SubO.nil | refine SubO.cons rfl ?_)) rfl (Vw.le.refl _)
        ·
          refine h_new 18 tok rfl rfl rfl rfl rfl rfl ?_
          refine h_one 7 (by kernel_rfl) ?_
          refine h_call 7 (.a (.v (I (q : Int)))) rfl rfl rfl fnok29 rfl rfl rfl (fun hg E w1 hm => by exact hjc _) ?_
          refine h_one 8 (by kernel_rfl) ?_
          refine h_yield 8 rfl rfl rfl rfl (y_idxK tok q rfl (by simp) (fun hg => hs.sl) (fun hg => by omega)) ?_
          refine h_one 9 (by kernel_rfl) ?_
          refine h_yield 9 rfl rfl rfl rfl (y_lel (enc := encS) (l := D) tok q 0 s rfl (fun hg => hs) (fun hg => h_s) (by simp) rfl) ?_
          refine h_one 14 (by kernel_rfl) ?_
          refine h_call 14 (.a (.v (.tuple #[R.val, .bool b]))) rfl rfl rfl fnok47 rfl rfl rfl (fun hg E w1 hm => by exact hisc _) ?_
          refine h_one 15 (by kernel_rfl) ?_
          refine h_yield 15 rfl rfl rfl rfl (y_val tok rfl) ?_
          refine h_two 16 17 (by kernel_rfl) ?_ ?_
          ·
            refine h_yield 16 rfl rfl rfl rfl (y_val tok rfl) ?_
            refine h_two 17 19 (by kernel_rfl) ?_ ?_
            ·
              refine h_yield 17 rfl rfl rfl rfl (y_val tok rfl) ?_
              refine h_one 19 (by kernel_rfl) ?_
              refine h_store 19 tok rfl rfl rfl rfl (by first | exact ⟨trivial, trivial⟩ | (repeat' first | exact trivial | exact rfl | apply And.intro); done | simp [onesP, oneP, lk, Value.oneCell']) (.inr ⟨(by repeat (first | exact SubO.nil | refine SubO.cons rfl ?_)), rfl, (by first | exact Vw.le.refl _ | assumption)⟩) ?_
              refine h_one 20 (by kernel_rfl) ?_
              refine h_yield 20 rfl rfl rfl rfl (y_val tok rfl) ?_
              refine h_done [2, 3, 4, 5, 6, 11, 12, 13, 14] (by kernel_rfl) rfl ?_
              exact x_meet () trivial (by repeat (first | exact SubF.nil | refine SubF.cons rfl ?_)) (by repeat (first | exact SubO.nil | refine SubO.cons rfl ?_)) rfl (Vw.le.refl _)
            ·
              refine h_store 19 tok rfl rfl rfl rfl (by first | exact ⟨trivial, trivial⟩ | (repeat' first | exact trivial | exact rfl | apply And.intro); done | simp [onesP, oneP, lk, Value.oneCell']) (.inr ⟨(by repeat (first | exact SubO.nil | refine SubO.cons rfl ?_)), rfl, (by first | exact Vw.le.refl _ | assumption)⟩) ?_
              refine h_one 17 (by kernel_rfl) ?_
              refine h_yield 17 rfl rfl rfl rfl (y_val tok rfl) ?_
              refine h_one 20 (by kernel_rfl) ?_
              refine h_yield 20 rfl rfl rfl rfl (y_val tok rfl) ?_
              refine h_done [2, 3, 4, 5, 6, 11, 12, 13, 14] (by kernel_rfl) rfl ?_
              exact x_meet () trivial (by repeat (first | exact SubF.nil | refine SubF.cons rfl ?_)) (by repeat (first | exact SubO.nil | refine SubO.cons rfl ?_)) rfl (Vw.le.refl _)
          ·
            refine h_yield 17 rfl rfl rfl rfl (y_val tok rfl) ?_
            refine h_one 16 (by kernel_rfl) ?_
            refine h_yield 16 rfl rfl rfl rfl (y_val tok rfl) ?_
            refine h_one 19 (by kernel_rfl) ?_
            refine h_store 19 tok rfl rfl rfl rfl (by first | exact ⟨trivial, trivial⟩ | (repeat' first | exact trivial | exact rfl | apply And.intro); done | simp [onesP, oneP, lk, Value.oneCell']) (.inr ⟨(by repeat (first | exact SubO.nil | refine SubO.cons rfl ?_)), rfl, (by first | exact Vw.le.refl _ | assumption)⟩) ?_
            refine h_one 20 (by kernel_rfl) ?_
            refine h_yield 20 rfl rfl rfl rfl (y_val tok rfl) ?_
            refine h_done [2, 3, 4, 5, 6, 11, 12, 13, 14] (by kernel_rfl) rfl ?_
            exact x_meet () trivial (by repeat (first | exact SubF.nil | refine SubF.cons rfl ?_)) (by repeat (first | exact SubO.nil | refine SubO.cons rfl ?_)) rfl (Vw.le.refl _)
      rintro ⟨⟩ -
      refine x_then ?_
      refine c_seq ?_
      refine c_seq ?_
      refine c_region ?_
      refine o_yield rfl rfl rfl (y_val tok rfl) ?_
      refine o_yield rfl rfl rfl (y_val tok rfl) ?_
      refine o_end [2, 3, 4, 5, 6, 11, 12, 13, 53] rfl ?_
      refine x_then ?_
      refine c_cond rfl (fun h => ?_) (fun h => ?_)
      ·
        refine c_exit ?_
        refine x_then_exit ?_
        refine x_block_miss rfl ?_
        refine x_then_exit ?_
        refine x_then_exit ?_
        refine x_block_hit ?_
        refine x_then ?_
        refine c_seq ?_
        refine c_region ?_
        refine o_yield rfl rfl rfl (y_val tok rfl) ?_
        refine o_yield rfl rfl rfl (y_val tok rfl) ?_
        refine o_end [10] rfl ?_
        refine x_then ?_
        refine c_ret ?_
        refine b_ret tok rfl ?_
        rcases hcase with ⟨_, hb2, _⟩ | ⟨hiA, _⟩
        · rw [hb2] at h; simp at h
        · have hA : A.take i = A := List.take_of_length_le (by omega)
          rw [hA]
          intro E w' hm _
          exact ⟨⟨E.κ 2, rfl, hm.rowFresh (Vw.le.refl _) (l := 2) rfl⟩, hm.below (Vw.le.refl _)⟩
      ·
        rcases hcase with ⟨hlt, hb2, hRA⟩ | ⟨_, hb2⟩
        · have htk := rp_take hRA
          have hx : (A.take i).length + 1 = (A.take (i + 1)).length ∧ (A.take i).flatMap Record.cells ++ R.cells = (A.take (i + 1)).flatMap Record.cells := by rw [htk]; simp
          have hti : (A.take i).length = i := by rw [List.length_take]; omega
          refine c_skip ?_
          refine x_then ?_
          refine c_region ?_
          refine o_yield rfl rfl rfl (y_val tok rfl) ?_
          refine o_yield rfl rfl rfl (y_val tok rfl) ?_
          refine o_step rfl rfl rfl rfl rfl (s_bs tok 6 rfl rfl rfl) (fun _ _ => ?_)
          refine o_step rfl rfl rfl rfl rfl (s_app tok R.cells rfl (fun E w hm => ownsRow_src (hm.row _ _ _ _ _ rfl)) (fun _ _ _ => by simpa using rec_ones [R]) (by dsimp only; omega)) (fun _ _ => ?_)
          refine o_yield rfl rfl rfl (y_val tok rfl) ?_
          refine o_end [2, 3, 4, 5, 6, 11, 12] rfl ?_
          refine x_block ?_
          refine x_then ?_
          refine c_region ?_
          refine o_yield rfl rfl rfl (y_val tok rfl) ?_
          refine o_yield rfl rfl rfl (y_val tok rfl) ?_
          refine o_yield rfl rfl rfl (y_val tok rfl) ?_
          refine o_end [2, 3, 4, 5, 6, 11, 12] rfl ?_
          refine x_then ?_
          rw [hx.1, hx.2, hwi]
          refine k_swap 2 5 rfl ?_
          refine x_round (i + 1) (by omega) (by first | omega | (dsimp only; omega)) (by repeat (first | exact SubF.nil | refine SubF.cons rfl ?_)) (by repeat (first | exact SubO.nil | refine SubO.cons rfl ?_)) rfl (Vw.le.refl _)
        · rw [hb2] at h; simp at h
    ·
      simp only [Bool.and_eq_true, Bool.or_eq_true, Bool.not_eq_true', Bool.or_eq_false_iff, Bool.and_eq_false_iff, decide_eq_true_eq, decide_eq_false_iff_not, beq_iff_eq, bne_iff_ne, Bool.not_eq_false', beq_eq_false_iff_ne, bne_eq_false_iff_eq, ne_eq, Decidable.not_not, Int.not_lt, Int.not_le] at h
      refine c_exit ?_
      refine x_then_exit ?_
      refine x_then_exit ?_
      refine x_block_hit ?_
      refine x_then ?_
      refine c_seq ?_
      refine c_region ?_
      refine o_yield rfl rfl rfl (y_val tok rfl) ?_
      refine o_yield rfl rfl rfl (y_val tok rfl) ?_
      refine o_end [10] rfl ?_
      refine x_then ?_
      refine c_ret ?_
      refine b_ret tok rfl ?_
      have hA : A.take i = A := List.take_of_length_le (by omega)
      rw [hA]
      intro E w' hm _
      exact ⟨⟨E.κ 2, rfl, hm.rowFresh (Vw.le.refl _) (l := 2) rfl⟩, hm.below (Vw.le.refl _)⟩


def JourQ (tail : Int) (L : List Record) (w : World) (e : Ending) (w' : World) : Prop :=
  (∃ v, e = .returned (.tuple #[v, I tail, I 0]) ∧ w'.ownsRow w.heap.size 78 6 v L.length (L.flatMap Record.cells)) ∧ Below w.heap.size w w'

theorem gjournal_c (V : Vw) (g : Geo) (ok : g.Ok) (slot key tail : Int) (D : List ByteArray) (A : List Record) (hJ : RowsOf g slot key tail D A) (hd : ∃ s, D[(headV g slot).toNat]? = some s ∧ tailV s = tail ∧ tailE s = 0) (a ca ka fa : Option Addr) (n c cn cc kn kc fn fc : Nat) (nx : Int) (w : World) (hV : V.le (vw w)) (hs0 : SlOf V encS 1 (.slice a n c) D) :
    Calls Tryz.prog 9 #[g.val, devG a ca ka fa n c cn cc kn kc fn fc nx, I slot, I key] w (JourQ tail (A.take (whole A)) w) := by
  have hs := hs0.mono hV
  have hf := geo_facts hJ.geo
  have hfew := hJ.few
  have hz := geo_sizes hJ.geo
  obtain ⟨s, h_s, ht1, ht2⟩ := hd
  refine enter (E := E0) (O := []) (nl := 0) (V := vw w) [.a (.v g.val), .a (.v (devG a ca ka fa n c cn cc kn kc fn fc nx)), .a (.v (I slot)), .a (.v (I key))] Tryz.func9 rfl rfl (mem0 E0 0 w) rfl rfl ?_
  refine c_seq ?_
  refine c_region ?_
  refine o_new tok rfl rfl rfl rfl ?_
  refine o_new tok rfl rfl rfl rfl ?_
  refine o_yield rfl rfl rfl (y_val tok rfl) ?_
  refine o_yield rfl rfl rfl (y_val tok rfl) ?_
  refine o_yield rfl rfl rfl (y_val tok rfl) ?_
  refine o_end [2, 3, 4, 5] rfl ?_
  refine x_then ?_
  refine c_seq ?_
  refine c_region ?_
  refine o_yield rfl rfl rfl (y_val tok rfl) ?_
  refine o_yield rfl rfl rfl (y_val tok rfl) ?_
  refine o_yield rfl rfl rfl (y_val tok rfl) ?_
  refine o_call (.a (.v _)) rfl rfl fnok30 rfl rfl rfl (fun hg E w1 hm => by exact gtail_c (vw w) g ok hJ.geo slot _ _ _ _ _ _ _ _ _ _ _ _ _ D hJ.sz _ hm.leV hs hJ.len tail 0 (.inr ⟨s, h_s, hJ.hd, ht1.symm, ht2.symm⟩)) ?_
  refine o_yield rfl rfl rfl (y_val tok rfl) ?_
  refine o_yield rfl rfl rfl (y_val tok rfl) ?_
  refine o_yield rfl rfl rfl (y_val tok rfl) ?_
  refine o_yield rfl rfl rfl (y_val tok rfl) ?_
  refine o_yield rfl rfl rfl (y_val tok rfl) ?_
  refine o_end [2, 3, 4, 5, 11, 12] rfl ?_
  refine x_then ?_
  refine c_seq ?_
  refine c_seq ?_
  refine c_region ?_
  refine o_yield rfl rfl rfl (y_val tok rfl) ?_
  refine o_yield rfl rfl rfl (y_val tok rfl) ?_
  refine o_end [2, 3, 4, 5, 11, 12, 21] rfl ?_
  refine x_then ?_
  refine c_cond rfl (fun h => ?_) (fun h => ?_)
  ·
    refine c_seq ?_
    refine c_region ?_
    refine o_yield rfl rfl rfl (y_val tok rfl) ?_
    refine o_yield rfl rfl rfl (y_val tok rfl) ?_
    refine o_yield rfl rfl rfl (y_val tok rfl) ?_
    refine o_yield rfl rfl rfl (y_val tok rfl) ?_
    refine o_end [8, 9, 10] rfl ?_
    refine x_then ?_
    refine c_ret ?_
    refine x_then_ret ?_
    refine b_ret tok rfl ?_
    exact absurd h (by simp)
  ·
    refine c_skip ?_
    refine x_then ?_
    refine c_seq ?_
    refine c_region ?_
    refine o_yield rfl rfl rfl (y_val tok rfl) ?_
    refine o_yield rfl rfl rfl (y_val tok rfl) ?_
    refine o_yield rfl rfl rfl (y_val tok rfl) ?_
    refine o_yield rfl rfl rfl (y_val tok rfl) ?_
    refine o_yield rfl rfl rfl (y_val tok rfl) ?_
    refine o_step rfl rfl rfl rfl rfl (s_callRow 78 6 A.length (A.flatMap Record.cells) rfl fnok32 (fun E w1 hm => (grows_c (vw w) g ok slot key tail D A hJ _ _ _ _ _ _ _ _ _ _ _ _ _ w1 hm.leV hs).mono (fun e w' ⟨⟨v, he, ho⟩, hb⟩ => ⟨v, he, ho, hb⟩))) (fun _ _ => ?_)
    refine o_step rfl rfl rfl rfl rfl (s_callRow 78 6 (A.take (whole A)).length ((A.take (whole A)).flatMap Record.cells) rfl fnok31 (fun E w1 hm => (rWhole17_c (vw w1) _ A w1 (Vw.le.refl _) (hm.rowOf 2 rfl (fun _ => rfl)) (by omega)).mono (fun e w' ⟨⟨v, he, ho⟩, hb⟩ => ⟨v, he, ho, hb⟩))) (fun _ _ => ?_)
    refine o_yield rfl rfl rfl (y_val tok rfl) ?_
    refine o_yield rfl rfl rfl (y_val tok rfl) ?_
    refine o_yield rfl rfl rfl (y_val tok rfl) ?_
    refine o_yield rfl rfl rfl (y_val tok rfl) ?_
    refine o_end [8, 9, 10] rfl ?_
    refine x_then ?_
    refine c_ret ?_
    refine b_ret tok rfl ?_
    intro E w' hm _
    exact ⟨⟨E.κ 3, rfl, hm.rowFresh (Vw.le.refl _) (l := 3) rfl⟩, hm.below (Vw.le.refl _)⟩

theorem gjournalE_c (V : Vw) (g : Geo) (ok : g.Ok) (hG : geoB g = true) (slot key : Int) (a ca ka fa : Option Addr) (n c cn cc kn kc fn fc : Nat) (nx : Int) (D : List ByteArray) (hz : ∀ s ∈ D, s.size ≤ maxLen) (w : World) (hV : V.le (vw w)) (hs0 : SlOf V encS 1 (.slice a n c) D) (hl : (D.length : Int) = totV g) (tv te : Int)
    (hte : (headV g slot < 0 ∧ tv = 0 ∧ te = 2) ∨ ∃ s, D[(headV g slot).toNat]? = some s ∧ 0 ≤ headV g slot ∧ tv = tailV s ∧ te = tailE s) (hne : te ≠ 0) :
    Calls Tryz.prog 9 #[g.val, devG a ca ka fa n c cn cc kn kc fn fc nx, I slot, I key] w fun e w' => e = .returned (.tuple #[.slice none 0 0, I 0, I te]) ∧ Below w.heap.size w w' := by
  have hs := hs0.mono hV
  refine enter (E := E0) (O := []) (nl := 0) (V := vw w) [.a (.v g.val), .a (.v (devG a ca ka fa n c cn cc kn kc fn fc nx)), .a (.v (I slot)), .a (.v (I key))] Tryz.func9 rfl rfl (mem0 E0 0 w) rfl rfl ?_
  refine c_seq ?_
  refine c_region ?_
  refine o_new tok rfl rfl rfl rfl ?_
  refine o_new tok rfl rfl rfl rfl ?_
  refine o_yield rfl rfl rfl (y_val tok rfl) ?_
  refine o_yield rfl rfl rfl (y_val tok rfl) ?_
  refine o_yield rfl rfl rfl (y_val tok rfl) ?_
  refine o_end [2, 3, 4, 5] rfl ?_
  refine x_then ?_
  refine c_seq ?_
  refine c_region ?_
  refine o_yield rfl rfl rfl (y_val tok rfl) ?_
  refine o_yield rfl rfl rfl (y_val tok rfl) ?_
  refine o_yield rfl rfl rfl (y_val tok rfl) ?_
  refine o_call (.a (.v _)) rfl rfl fnok30 rfl rfl rfl (fun hg E w1 hm => by exact gtail_c (vw w) g ok hG slot _ _ _ _ _ _ _ _ _ _ _ _ _ D hz _ hm.leV hs hl tv te hte) ?_
  refine o_yield rfl rfl rfl (y_val tok rfl) ?_
  refine o_yield rfl rfl rfl (y_val tok rfl) ?_
  refine o_yield rfl rfl rfl (y_val tok rfl) ?_
  refine o_yield rfl rfl rfl (y_val tok rfl) ?_
  refine o_yield rfl rfl rfl (y_val tok rfl) ?_
  refine o_end [2, 3, 4, 5, 11, 12] rfl ?_
  refine x_then ?_
  refine c_seq ?_
  refine c_seq ?_
  refine c_region ?_
  refine o_yield rfl rfl rfl (y_val tok rfl) ?_
  refine o_yield rfl rfl rfl (y_val tok rfl) ?_
  refine o_end [2, 3, 4, 5, 11, 12, 21] rfl ?_
  refine x_then ?_
  refine c_cond rfl (fun h => ?_) (fun h => ?_)
  ·
    simp only [Bool.and_eq_true, Bool.or_eq_true, Bool.not_eq_true', Bool.or_eq_false_iff, Bool.and_eq_false_iff, decide_eq_true_eq, decide_eq_false_iff_not, beq_iff_eq, bne_iff_ne, Bool.not_eq_false', beq_eq_false_iff_ne, bne_eq_false_iff_eq, ne_eq, Decidable.not_not, Int.not_lt, Int.not_le] at h
    refine c_seq ?_
    refine c_region ?_
    refine o_yield rfl rfl rfl (y_val tok rfl) ?_
    refine o_yield rfl rfl rfl (y_val tok rfl) ?_
    refine o_yield rfl rfl rfl (y_val tok rfl) ?_
    refine o_yield rfl rfl rfl (y_val tok rfl) ?_
    refine o_end [8, 9, 10] rfl ?_
    refine x_then ?_
    refine c_ret ?_
    refine x_then_ret ?_
    refine b_ret tok rfl ?_
    intro E w' hm _
    refine ⟨?_, hm.below (Vw.le.refl _)⟩
    rfl
  ·
    simp only [Bool.and_eq_true, Bool.or_eq_true, Bool.not_eq_true', Bool.or_eq_false_iff, Bool.and_eq_false_iff, decide_eq_true_eq, decide_eq_false_iff_not, beq_iff_eq, bne_iff_ne, Bool.not_eq_false', beq_eq_false_iff_ne, bne_eq_false_iff_eq, ne_eq, Decidable.not_not, Int.not_lt, Int.not_le] at h
    refine c_skip ?_
    refine x_then ?_
    refine c_seq ?_
    refine c_region ?_
    refine o_yield rfl rfl rfl (y_val tok rfl) ?_
    refine o_yield rfl rfl rfl (y_val tok rfl) ?_
    refine o_yield rfl rfl rfl (y_val tok rfl) ?_
    refine o_yield rfl rfl rfl (y_val tok rfl) ?_
    refine o_yield rfl rfl rfl (y_val tok rfl) ?_
    exact absurd h hne
end Go.Proofs.YtikdaehmaaogdaaGreat

/- A replay that has nothing to put in place: act by act. -/
set_option linter.unusedVariables false
set_option linter.unusedSimpArgs false
set_option maxRecDepth 100000
namespace Go.Proofs.YtikdaehmaaogdaaGreat
open Go Go.Eng Go.RowKit

theorem deed4_c (w : World) : Calls Tryz.prog 43 #[I8 4] w fun e w' => e = .returned (.tuple #[.agg #[.nilFunc, .nilFunc], .bool false]) ∧ Below w.heap.size w w' := by
  refine enter (E := E0) (O := []) (nl := 0) (V := vw w) [.a (.v (I8 4))] Tryz.func43 rfl rfl (mem0 E0 0 w) rfl rfl ?_
  refine c_seq ?_
  refine c_region ?_
  refine o_new tok rfl rfl rfl rfl ?_
  refine o_yield rfl rfl rfl (y_val tok rfl) ?_
  refine o_end [0, 2] rfl ?_
  refine x_then ?_
  refine c_seq ?_
  refine c_region ?_
  refine o_call (.a (.v _)) rfl rfl fnok51 rfl rfl rfl (fun hg E w1 hm => by exact deeds_c _) ?_
  refine o_new tok rfl rfl rfl rfl ?_
  refine o_store tok rfl rfl rfl (by first | exact ⟨trivial, trivial⟩ | (repeat' first | exact trivial | exact rfl | apply And.intro); done | simp [onesP, oneP, lk, Value.oneCell']) ?_
  refine o_end [0, 2, 4] rfl ?_
  refine x_then ?_
  refine c_seq ?_
  refine c_seq ?_
  refine c_region ?_
  refine o_yield rfl rfl rfl (y_val tok rfl) ?_
  refine o_yield rfl rfl rfl (y_val tok rfl) ?_
  refine o_yield rfl rfl rfl (y_val tok rfl) ?_
  refine o_yield rfl rfl rfl (y_val tok rfl) ?_
  refine o_yield rfl rfl rfl (y_val tok rfl) ?_
  refine o_yield rfl rfl rfl (y_val tok rfl) ?_
  refine o_yield rfl rfl rfl (y_val tok rfl) ?_
  refine o_end [0, 2, 4, 12] rfl ?_
  refine x_then ?_
  refine c_cond rfl (fun h => ?_) (fun h => ?_)
  ·
    refine c_seq ?_
    refine c_region ?_
    refine o_yield rfl rfl rfl (y_val tok rfl) ?_
    refine o_store tok rfl rfl rfl (by first | exact ⟨trivial, trivial⟩ | (repeat' first | exact trivial | exact rfl | apply And.intro); done | simp [onesP, oneP, lk, Value.oneCell']) ?_
    refine o_yield rfl rfl rfl (y_val tok rfl) ?_
    refine o_end [2, 3] rfl ?_
    refine x_then ?_
    refine c_ret ?_
    refine x_then_ret ?_
    refine b_ret tok rfl ?_
    intro E w' hm _
    refine ⟨?_, hm.below (Vw.le.refl _)⟩
    rfl
  ·
    exact absurd h (by decide)

theorem rpWant4_c (g : Geo) (slot key tail : Int) (lv cv : Value) (i en : Int) (w : World) :
    Calls Tryz.prog 26 #[g.val, rpV slot key 4 tail lv cv i en] w fun e w' => e = .returned (actV 0 0 ByteArray.empty) ∧ Below w.heap.size w w' := by
  refine enter (E := E0) (O := []) (nl := 0) (V := vw w) [.a (.v g.val), .a (.v (rpV slot key 4 tail lv cv i en))] Tryz.func26 rfl rfl (mem0 E0 0 w) rfl rfl ?_
  refine c_seq ?_
  refine c_region ?_
  refine o_new tok rfl rfl rfl rfl ?_
  refine o_new tok rfl rfl rfl rfl ?_
  refine o_new tok rfl rfl rfl rfl ?_
  refine o_end [2, 3, 4] rfl ?_
  refine x_then ?_
  refine c_seq ?_
  refine c_region ?_
  refine o_yield rfl rfl rfl (y_val tok rfl) ?_
  refine o_yield rfl rfl rfl (y_val tok rfl) ?_
  refine o_call (.a (.v _)) rfl rfl fnok43 rfl rfl rfl (fun hg E w1 hm => by exact deed4_c _) ?_
  refine o_yield rfl rfl rfl (y_val tok rfl) ?_
  refine o_yield rfl rfl rfl (y_val tok rfl) ?_
  refine o_yield rfl rfl rfl (y_val tok rfl) ?_
  refine o_new tok rfl rfl rfl rfl ?_
  refine o_store tok rfl rfl rfl (by first | exact ⟨trivial, trivial⟩ | (repeat' first | exact trivial | exact rfl | apply And.intro); done | simp [onesP, oneP, lk, Value.oneCell']) ?_
  refine o_yield rfl rfl rfl (y_val tok rfl) ?_
  refine o_end [2, 3, 4, 5, 6] rfl ?_
  refine x_then ?_
  refine c_seq ?_
  refine c_seq ?_
  refine c_region ?_
  refine o_yield rfl rfl rfl (y_val tok rfl) ?_
  refine o_yield rfl rfl rfl (y_val tok rfl) ?_
  refine o_end [2, 3, 4, 5, 14] rfl ?_
  refine x_then ?_
  refine c_cond rfl (fun h => ?_) (fun h => ?_)
  ·
    refine c_seq ?_
    refine c_region ?_
    refine o_yield rfl rfl rfl (y_val tok rfl) ?_
    refine o_store tok rfl rfl rfl (by first | exact ⟨trivial, trivial⟩ | (repeat' first | exact trivial | exact rfl | apply And.intro); done | simp [onesP, oneP, lk, Value.oneCell']) ?_
    refine o_end [4] rfl ?_
    refine x_then ?_
    refine c_ret ?_
    refine x_then_ret ?_
    refine b_ret tok rfl ?_
    intro E w' hm _
    refine ⟨?_, hm.below (Vw.le.refl _)⟩
    rfl
  ·
    exact absurd h (by decide)

theorem wholeFrom_ge : ∀ (l : List Record) (i n d : Nat), n ≤ i → n ≤ wholeFrom l i n d
  | [], i, n, d, _ => Nat.le_refl _
  | r :: t, i, n, d, h => by
    rw [wholeFrom]
    split
    · exact wholeFrom_ge t _ _ _ (by omega)
    · split
      · exact Nat.le_refl _
      · exact Nat.le_trans (by omega) (wholeFrom_ge t (i + 1) (i + 1) 0 (Nat.le_refl _))

theorem wholeFrom_pre : ∀ (l r : List Record) (i n d : Nat), n ≤ i → wholeFrom l i n d ≤ wholeFrom (l ++ r) i n d
  | [], r, i, n, d, h => wholeFrom_ge r i n d h
  | x :: t, r, i, n, d, h => by
    rw [List.cons_append, wholeFrom, wholeFrom]
    split
    · exact wholeFrom_pre t r _ _ _ (by omega)
    · split
      · exact Nat.le_refl _
      · exact wholeFrom_pre t r _ _ _ (Nat.le_refl _)

theorem whole_take0 {A : List Record} (h : whole A = 0) (j : Nat) : whole (A.take j) = 0 := by
  have := wholeFrom_pre (A.take j) (A.drop j) 0 0 0 (Nat.le_refl _)
  rw [List.take_append_drop] at this
  have h2 : wholeFrom A 0 0 0 = 0 := h
  have h3 : whole (A.take j) = wholeFrom (A.take j) 0 0 0 := rfl
  omega

/-- How many acts it takes but for the last. -/
def actsN (g : Geo) (A : List Record) : Nat := 1 + A.length + (if (A.length : Int) < g.journal then 1 else 0)
def stAt (N1 n : Nat) : Int := if n = 0 then 0 else if n < N1 then 1 else if n = N1 then 3 else 4
def stTl (tail : Int) (n : Nat) : Int := if n = 0 then 0 else tail
def stEn (N1 : Nat) (tail : Int) (n : Nat) : Int := if n < N1 then 0 else tail
def acK (N1 n : Nat) : Int := if n < N1 then 1 else if n = N1 then 2 else 0
def acS (g : Geo) (slot tail : Int) (N1 n : Nat) : Int := if n = 0 then headV g slot else if n < N1 then jourV g slot (tail + ((n - 1 : Nat) : Int)) else if n = N1 then headV g slot else 0
def acT (s0 : ByteArray) (N1 n : Nat) : ByteArray := if n = N1 then s0 else ByteArray.empty

abbrev stV (slot key tail : Int) (N1 n : Nat) (a : Option Addr) (m c : Nat) : Value := rpV slot key (stAt N1 n) (stTl tail n) (.slice a m c) (.slice none 0 0) 0 (stEn N1 tail n)

theorem actsN_pos (g : Geo) (A : List Record) : 1 ≤ actsN g A := by unfold actsN; omega

theorem stWant_c (V : Vw) (g : Geo) (ok : g.Ok) (slot key tail : Int) (D : List ByteArray) (A : List Record) (hJ : RowsOf g slot key tail D A) (s0 : ByteArray) (hs0 : headS tail = (s0, 0)) (n : Nat) (hn : n ≤ actsN g A + 1) (a : Option Addr) (m c : Nat) (w : World) (hs : SlOf V Record.cells 6 (.slice a m c) (A.take (n - 1))) :
    Calls Tryz.prog 26 #[g.val, stV slot key tail (actsN g A) n a m c] w fun e w' => e = .returned (actV (acK (actsN g A) n) (acS g slot tail (actsN g A) n) (acT s0 (actsN g A) n)) ∧ Below w.heap.size w w' := by
  have h1 := actsN_pos g A
  have hh := hJ.hd
  have hf := geo_facts hJ.geo
  have ht0 := hJ.tl0
  have ht1 := hJ.tl1
  have hfew := hJ.few
  by_cases e0 : n = 0
  · subst e0
    have := rpWant0_c g ok slot key 0 (.slice a m c) (.slice none 0 0) 0 0 w
    rw [readK, readN, if_neg (by omega), if_neg (by omega)] at this
    simpa only [stV, stAt, stTl, stEn, acK, acS, acT, if_true, if_pos (show 0 < actsN g A by omega), if_neg (show ¬ 0 = actsN g A by omega)] using this
  · by_cases e1 : n < actsN g A
    · have := rpWant1_c V g ok slot key tail a m c (.slice none 0 0) 0 0 _ w hs
      have hl : (A.take (n - 1)).length = n - 1 := by
        rw [List.length_take]
        unfold actsN at e1
        split at e1 <;> omega
      have hlb : (n : Int) ≤ 1000 := by
        unfold actsN at e1
        split at e1 <;> omega
      rw [hl, wrapI (by omega) (by omega)] at this
      have hj := rj_in hJ.geo hh (lsn := tail + ((n - 1 : Nat) : Int)) (by omega)
      rw [readK, readN, if_neg (by omega), if_neg (by omega)] at this
      simpa only [stV, stAt, stTl, stEn, acK, acS, acT, if_neg e0, if_pos e1, if_neg (show ¬ n = actsN g A by omega)] using this
    · by_cases e2 : n = actsN g A
      · have := rpWant3_c g ok slot key tail (.slice a m c) (.slice none 0 0) 0 tail w
        have hp : (headS tail).2 = 0 ∧ 0 ≤ headV g slot := ⟨by rw [hs0], hh⟩
        rw [tailK, tailN, tailT, if_pos hp, if_pos hp, if_pos hp, hs0] at this
        simpa only [stV, stAt, stTl, stEn, acK, acS, acT, if_neg e0, if_neg e1, if_pos e2] using this
      · have := rpWant4_c g slot key tail (.slice a m c) (.slice none 0 0) 0 tail w
        simpa only [stV, stAt, stTl, stEn, acK, acS, acT, if_neg e0, if_neg e1, if_neg e2] using this

/-- What an act brings. -/
def acG (g : Geo) (slot tail : Int) (D : List ByteArray) (N1 n : Nat) : ByteArray := if n < N1 then D.getD (acS g slot tail N1 n).toNat ByteArray.empty else ByteArray.empty

theorem stTake_c (V : Vw) (g : Geo) (ok : g.Ok) (slot key tail : Int) (D : List ByteArray) (A : List Record) (hJ : RowsOf g slot key tail D A) (hw0 : whole A = 0) (s0 : ByteArray) (hd0 : D[(headV g slot).toNat]? = some s0) (htl : tailOk s0 = some tail) (n : Nat) (hn : n ≤ actsN g A) (a : Option Addr) (m c : Nat) (w : World) (hV : V.le (vw w)) (hs : SlOf V Record.cells 6 (.slice a m c) (A.take (n - 1))) :
    Calls Tryz.prog 27 #[g.val, stV slot key tail (actsN g A) n a m c, S (acG g slot tail D (actsN g A) n)] w fun e w' => ∃ v V', e = .returned v ∧ Below w.heap.size w w' ∧ Vext w.heap.size V V' w' ∧
      ∃ a m c, v = .tuple #[stV slot key tail (actsN g A) (n + 1) a m c, .bool (decide (n = actsN g A)), I 0] ∧ SlOf V' Record.cells 6 (.slice a m c) (A.take n) := by
  have h1 := actsN_pos g A
  have hh := hJ.hd
  have hf := geo_facts hJ.geo
  have ht0 := hJ.tl0
  have ht1 := hJ.tl1
  have hfew := hJ.few
  have htv : tailV s0 = tail ∧ tailE s0 = 0 := by rw [tailV, tailE, htl]; exact ⟨rfl, rfl⟩
  by_cases e0 : n = 0
  · subst e0
    have hg : acG g slot tail D (actsN g A) 0 = s0 := by
      rw [acG, if_pos (by omega), acS, if_pos rfl, List.getD_eq_getElem?_getD, hd0]; rfl
    rw [hg]
    have hst : stV slot key tail (actsN g A) 0 a m c = rpV slot key 0 0 (.slice a m c) (.slice none 0 0) 0 0 := by
      simp only [stV, stAt, stTl, stEn, if_true, if_pos (show 0 < actsN g A by omega)]
    rw [hst]
    refine (rpTake0_c g ok slot key 0 a none m c 0 0 0 0 s0 (hJ.sz s0 (List.mem_of_getElem? hd0)) w).mono ?_
    rintro e w' ⟨hb, ⟨_, he⟩ | ⟨hne, _⟩⟩
    · refine ⟨_, V, he, hb, Vext.same hV hb, a, m, c, ?_, by simpa using hs⟩
      rw [htv.1]
      by_cases e1 : 1 < actsN g A
      · simp only [stV, stAt, stTl, stEn, if_pos e1, if_neg (show ¬ (0 + 1 = 0) by omega), Nat.zero_add, if_neg (show ¬ (1 = 0) by omega), decide_eq_false (show ¬ 0 = actsN g A by omega)]
      · exfalso
        unfold actsN at e1
        split at e1
        · omega
        · omega
    · exact absurd htv.2 hne
  · by_cases e1 : n < actsN g A
    · have hl : (A.take (n - 1)).length = n - 1 := by
        rw [List.length_take]
        unfold actsN at e1
        split at e1 <;> omega
      have hlb : (n : Int) ≤ 1000 := by
        unfold actsN at e1
        split at e1 <;> omega
      have hj := rj_in hJ.geo hh (lsn := tail + ((n - 1 : Nat) : Int)) (by omega)
      have hln := hJ.len
      obtain ⟨s, hsD⟩ : ∃ s, D[(jourV g slot (tail + ((n - 1 : Nat) : Int))).toNat]? = some s := ⟨_, List.getElem?_eq_getElem (by omega)⟩
      have hg : acG g slot tail D (actsN g A) n = s := by
        rw [acG, if_pos e1, acS, if_neg e0, if_pos e1, List.getD_eq_getElem?_getD, hsD]; rfl
      have hst : stV slot key tail (actsN g A) n a m c = rpV slot key 1 tail (.slice a m c) (.slice none 0 0) 0 0 := by
        simp only [stV, stAt, stTl, stEn, if_neg e0, if_pos e1]
      rw [hg, hst]
      -- the records behind this sector, and whether the reading is over
      have hrow : rowL (A.take (n - 1)) s key (tail + ((n - 1 : Nat) : Int)) = A.take n ∧ rowD g (A.take (n - 1)) s key (tail + ((n - 1 : Nat) : Int)) = decide (n + 1 = actsN g A) := by
        by_cases hlt : n - 1 < A.length
        · obtain ⟨r, hr⟩ : ∃ r, A[n - 1]? = some r := ⟨_, List.getElem?_eq_getElem hlt⟩
          obtain ⟨s2, hs2, hib, hiv⟩ := hJ.at_ _ r hr
          rw [hsD] at hs2
          cases hs2
          refine ⟨?_, ?_⟩
          · rw [rowL, if_pos hib, hiv]
            have := rp_take hr
            rw [show n - 1 + 1 = n by omega] at this
            exact this.symm
          · rw [rowD, hib, hl, Bool.true_and]
            unfold actsN
            by_cases hc : (((n - 1 : Nat) : Int) + 1 < g.journal)
            · rw [decide_eq_true hc]
              symm
              rw [Bool.not_true, decide_eq_false_iff_not]
              split <;> omega
            · rw [decide_eq_false hc]
              symm
              rw [Bool.not_false, decide_eq_true_iff]
              rw [if_neg (by omega)]
              omega
        · have hnA : n - 1 = A.length := by
            unfold actsN at e1
            split at e1 <;> omega
          have hlj : (A.length : Int) < g.journal := by
            unfold actsN at e1
            split at e1
            · assumption
            · omega
          obtain ⟨s2, hs2, hib⟩ := hJ.rest hlj
          rw [← hnA, hsD] at hs2
          cases hs2
          rw [← hnA] at hib
          refine ⟨?_, ?_⟩
          · rw [rowL, hib, if_neg (by simp), List.take_of_length_le (by omega), List.take_of_length_le (by omega)]
          · rw [rowD, hib]
            symm
            rw [Bool.false_and, Bool.not_false, decide_eq_true_iff]
            unfold actsN
            rw [if_pos hlj]
            omega
      refine (rpTake1_c V g ok hJ.geo slot key tail a m c none 0 0 0 0 _ s (hJ.sz s (List.mem_of_getElem? hsD)) w hV hs (by omega) (tail + ((n - 1 : Nat) : Int)) (by rw [hl]; exact (wrapI (by omega) (by omega)).symm) (by rw [hrow.1]; exact whole_take0 hw0 n)).mono ?_
      rintro e w' ⟨v, V', he, hb, hx, a', m', c', hv, hsl⟩
      refine ⟨v, V', he, hb, hx, a', m', c', ?_, by rw [← hrow.1]; exact hsl⟩
      have hwt : IntKind.i64.wrap tail = tail := wrapI (by omega) (by omega)
      rw [hv, hrow.2]
      by_cases e2 : n + 1 = actsN g A
      · rw [decide_eq_true e2, decide_eq_false (show ¬ n = actsN g A by omega)]
        simp only [stV, rpR, stAt, stTl, stEn, if_neg (show ¬ n + 1 = 0 by omega), if_neg (show ¬ n + 1 < actsN g A by omega), if_pos e2, if_true, hwt]
      · rw [decide_eq_false e2, decide_eq_false (show ¬ n = actsN g A by omega)]
        simp only [stV, rpR, stAt, stTl, stEn, if_neg (show ¬ n + 1 = 0 by omega), if_pos (show n + 1 < actsN g A by omega), Bool.false_eq_true, if_false]
    · have e2 : n = actsN g A := by omega
      have hst : stV slot key tail (actsN g A) n a m c = rpV slot key 3 tail (.slice a m c) (.slice none 0 0) 0 tail := by
        simp only [stV, stAt, stTl, stEn, if_neg e0, if_neg e1, if_pos e2]
      rw [hst]
      refine (rpTake3_c g ok slot key tail a none m c 0 0 0 tail _ w).mono ?_
      rintro e w' ⟨he, hb⟩
      refine ⟨_, V, he, hb, Vext.same hV hb, a, m, c, ?_, ?_⟩
      · rw [decide_eq_true e2]
        simp only [stV, stAt, stTl, stEn, if_neg (show ¬ n + 1 = 0 by omega), if_neg (show ¬ n + 1 < actsN g A by omega), if_neg (show ¬ n + 1 = actsN g A by omega)]
      · have hA : A.length ≤ n - 1 := by
          rw [e2]
          unfold actsN
          omega
        rw [List.take_of_length_le (by omega)] at hs ⊢
        exact hs
end Go.Proofs.YtikdaehmaaogdaaGreat

/- A replay that has nothing to put in place, run on sectors. -/
set_option linter.unusedVariables false
set_option linter.unusedSimpArgs false
set_option maxRecDepth 100000
namespace Go.Proofs.YtikdaehmaaogdaaGreat
open Go Go.Eng Go.RowKit

theorem put_same {V : Vw} {b : Nat} {ob : Obj} (h : V.get b = some ob) : V.put b ob = V := by
  obtain ⟨gt, os, tp, op⟩ := V
  simp only [Vw.put, Vw.mk.injEq, and_true]
  funext k
  split
  · rename_i e; subst e; exact h.symm
  · rfl

theorem flatS : ∀ D : List ByteArray, D.flatMap encS = D.map Value.string
  | [] => rfl
  | x :: r => by rw [List.flatMap_cons, flatS r]; rfl

theorem run0_c (V : Vw) (g : Geo) (ok : g.Ok) (slot key tail : Int) (hkey : keyB key = true ∧ 0 ≤ seatOf key) (D : List ByteArray) (A : List Record) (hJ : RowsOf g slot key tail D A) (hw0 : whole A = 0) (s0 : ByteArray) (hs0 : headS tail = (s0, 0)) (hd0 : D[(headV g slot).toNat]? = some s0) (htl : tailOk s0 = some tail)
    (most : Int) (hmost : (actsN g A : Int) + 1 < most) (b cap e : Nat) (cs : Array Value) (hcl : D.length ≤ cs.size) (hcap : D.length ≤ cap) (hcs : cs.toList.take D.length = D.flatMap encS) (w : World) (hV : V.le (vw w)) (hb : V.get b = some (.cells cs e (0, 0))) :
    Calls Tryz.prog 11 #[g.val, .slice (some ⟨b, 0, none⟩) D.length cap, I slot, I key, I most] w fun e w' => e = .returned (.tuple #[I ((actsN g A + 1 : Nat) : Int), .bool true, .bool true]) ∧ Below w.heap.size w w' := by
  have h1 := actsN_pos g A
  have hh := hJ.hd
  have hf := geo_facts hJ.geo
  have ht0 := hJ.tl0
  have ht1 := hJ.tl1
  have hfew := hJ.few
  have hln := hJ.len
  have hz := geo_sizes hJ.geo
  have hN : actsN g A ≤ 70 := by unfold actsN; split <;> omega
  have hsl : ∀ Z : Vw, Z.get b = some (.cells cs e (0, 0)) → SlOf Z encS 1 (.slice (some ⟨b, 0, none⟩) D.length cap) D := fun Z hZ => by
    refine ⟨⟨?_, .inr ⟨b, 0, cap, cs, e, (0, 0), rfl, hZ, by omega, ?_, hcap⟩⟩, fun _ => rfl⟩
    · rw [← hcs, List.length_take]
      simp
      omega
    · rw [List.drop_zero, Nat.mul_one]
      exact hcs.symm
  have hbw := hV.get _ _ hb
  have hbeg : ∀ w, Calls Tryz.prog 10 #[g.val, I slot, I key] w fun e w' => e = .returned (.tuple #[stV slot key tail (actsN g A) 0 none 0 0, I 0]) ∧ Below w.heap.size w w' := fun w => (rbegin_c g ok slot key w).mono (by
    rintro e w' ⟨h, ⟨_, _, _, he⟩ | ⟨hn, _⟩⟩
    · refine ⟨?_, h⟩
      rw [he]
      simp only [stV, stAt, stTl, stEn, if_true, if_pos (show 0 < actsN g A by omega)]
    · exact absurd ⟨hh, hkey.1, hkey.2⟩ hn)
  have hDle : D.length ≤ 4000 := by
    have ht : totV g = dataAt g + g.blocks * g.per := by rw [totV, if_pos hJ.geo]
    omega
  refine enter (E := E0) (O := []) (nl := 0) (V := vw w) [.a (.v g.val), .a (.v (.slice (some ⟨b, 0, none⟩) D.length cap)), .a (.v (I slot)), .a (.v (I key)), .a (.v (I most))] Tryz.func11 rfl rfl (mem0 E0 0 w) rfl rfl ?_
  refine c_seq ?_
  refine c_region ?_
  refine o_new tok rfl rfl rfl rfl ?_
  refine o_yield rfl rfl rfl (y_val tok rfl) ?_
  refine o_yield rfl rfl rfl (y_val tok rfl) ?_
  refine o_yield rfl rfl rfl (y_val tok rfl) ?_
  refine o_end [1, 2, 3, 4, 5] rfl ?_
  refine x_then ?_
  refine c_seq ?_
  refine c_region ?_
  refine o_yield rfl rfl rfl (y_val tok rfl) ?_
  refine o_yield rfl rfl rfl (y_val tok rfl) ?_
  refine o_yield rfl rfl rfl (y_val tok rfl) ?_
  refine o_call (.a (.v _)) rfl rfl fnok10 rfl rfl rfl (fun hg E w1 hm => by exact hbeg _) ?_
  refine o_yield rfl rfl rfl (y_val tok rfl) ?_
  refine o_yield rfl rfl rfl (y_val tok rfl) ?_
  refine o_yield rfl rfl rfl (y_val tok rfl) ?_
  refine o_new tok rfl rfl rfl rfl ?_
  refine o_store tok rfl rfl rfl (by first | exact ⟨trivial, trivial⟩ | (repeat' first | exact trivial | exact rfl | apply And.intro); done | simp [onesP, oneP, lk, Value.oneCell']) ?_
  refine o_yield rfl rfl rfl (y_val tok rfl) ?_
  refine o_end [1, 4, 5, 13, 14] rfl ?_
  refine x_then ?_
  refine c_seq ?_
  refine c_seq ?_
  refine c_region ?_
  refine o_yield rfl rfl rfl (y_val tok rfl) ?_
  refine o_yield rfl rfl rfl (y_val tok rfl) ?_
  refine o_end [1, 4, 5, 13, 27] rfl ?_
  refine x_then ?_
  refine c_cond rfl (fun h => ?_) (fun h => ?_)
  ·
    exact absurd h (by decide)
  ·
    refine c_skip ?_
    refine x_then ?_
    refine c_seq ?_
    refine c_region ?_
    refine o_yield rfl rfl rfl (y_val tok rfl) ?_
    refine o_end [1, 4, 5, 13, 15] rfl ?_
    refine x_then ?_
    refine c_seq ?_
    refine c_seq ?_
    refine c_region ?_
    refine o_yield rfl rfl rfl (y_val tok rfl) ?_
    refine o_end [1, 4, 5, 13, 15, 16] rfl ?_
    refine x_then ?_
    refine c_block ?_
    clear h
    refine c_loopV [1, 4, 5, 13] [0, 1] rfl rfl (σ := Nat × Option Addr × Nat × Nat × Vw) (fun (n, a, m, c, Z) => [(15, .a (.v (.bool (decide (n = actsN g A + 1))))), (16, .a (.v (I n)))]) (fun (n, a, m, c, Z) => [(0, .lit (g.cells.map .v) 23), (1, .lit ((rpL slot key (stAt (actsN g A) n) (stTl tail n) (.slice a m c) (.slice none 0 0) 0 (stEn (actsN g A) tail n)).map .v) 40)]) (fun (n, a, m, c, Z) => Z) (fun (n, a, m, c, Z) => (n ≤ actsN g A + 1 ∧ (vw w).le Z ∧ SlOf Z Record.cells 6 (.slice a m c) (A.take (n - 1)))) (fun (n, a, m, c, Z) => actsN g A + 1 - n) ((0, none, 0, 0, vw w)) (⟨by omega, Vw.le.refl _, slNil _ _ _ _ (fun _ => rfl)⟩) (by repeat (first | exact SubF.nil | refine SubF.cons rfl ?_)) (by repeat (first | exact SubO.nil | refine SubO.cons rfl ?_)) rfl (Vw.le.refl _) ?_
    rintro ⟨n, a, m, c, Z⟩ ⟨hn, hZ, hsZ⟩
    dsimp only at hn hZ hsZ ⊢
    refine c_seq ?_
    refine c_seq ?_
    refine c_region ?_
    refine o_yield rfl rfl rfl (y_val tok rfl) ?_
    refine o_yield rfl rfl rfl (y_val tok rfl) ?_
    refine o_yield rfl rfl rfl (y_val tok rfl) ?_
    refine o_end [1, 4, 5, 13, 15, 16, 30] rfl ?_
    refine x_then ?_
    refine c_cond rfl (fun h => ?_) (fun h => ?_)
    ·
      simp only [Bool.and_eq_true, Bool.or_eq_true, Bool.not_eq_true', Bool.or_eq_false_iff, Bool.and_eq_false_iff, decide_eq_true_eq, decide_eq_false_iff_not, beq_iff_eq, bne_iff_ne, Bool.not_eq_false', beq_eq_false_iff_ne, bne_eq_false_iff_eq, ne_eq, Decidable.not_not, Int.not_lt, Int.not_le] at h
      clear h
      have hbZ := hZ.get _ _ hbw
      have hsZ2 := hsl Z hbZ
      have hwant := fun w => stWant_c Z g ok slot key tail D A hJ s0 hs0 n hn a m c w hsZ
      rcases Nat.lt_or_ge (actsN g A) n with hgt | hle
      ·
        have hne : n = actsN g A + 1 := by omega
        have hdn : decide (n = actsN g A + 1) = true := decide_eq_true hne
        rw [hdn]
        refine c_skip ?_
        refine x_then ?_
        refine c_seq ?_
        refine c_block ?_
        refine c_seq ?_
        refine c_region ?_
        refine o_yield rfl rfl rfl (y_val tok rfl) ?_
        refine o_yield rfl rfl rfl (y_val tok rfl) ?_
        refine o_call (.a (.v _)) rfl rfl fnok26 rfl rfl rfl (fun hg E w1 hm => by exact hwant _) ?_
        refine o_new tok rfl rfl rfl rfl ?_
        refine o_store tok rfl rfl rfl (by first | exact ⟨trivial, trivial⟩ | (repeat' first | exact trivial | exact rfl | apply And.intro); done | simp [onesP, oneP, lk, Value.oneCell']) ?_
        refine o_end [1, 4, 5, 13, 15, 16, 17] rfl ?_
        refine x_then ?_
        refine c_seq ?_
        refine c_region ?_
        refine o_yield rfl rfl rfl (y_val tok rfl) ?_
        refine o_end [1, 4, 5, 13, 15, 16, 17, 18] rfl ?_
        refine x_then ?_
        refine c_seq ?_
        refine c_block ?_
        refine c_seq ?_
        refine c_region ?_
        refine o_yield rfl rfl rfl (y_val tok rfl) ?_
        refine o_yield rfl rfl rfl (y_val tok rfl) ?_
        refine o_yield rfl rfl rfl (y_val tok rfl) ?_
        refine o_yield rfl rfl rfl (y_val tok rfl) ?_
        refine o_yield rfl rfl rfl (y_val tok rfl) ?_
        refine o_yield rfl rfl rfl (y_val tok rfl) ?_
        refine o_yield rfl rfl rfl (y_val tok rfl) ?_
        refine o_yield rfl rfl rfl (y_val tok rfl) ?_
        refine o_yield rfl rfl rfl (y_val tok rfl) ?_
        refine o_yield rfl rfl rfl (y_val tok rfl) ?_
        refine o_yield rfl rfl rfl (y_lenP tok rfl) ?_
        refine o_yield rfl rfl rfl (y_val tok rfl) ?_
        refine o_yield rfl rfl rfl (y_val tok rfl) ?_
        refine o_yield rfl rfl rfl (y_val tok rfl) ?_
        refine o_end [1, 4, 5, 13, 15, 16, 17, 18, 38] rfl ?_
        refine x_then ?_
        refine c_cond rfl (fun h => ?_) (fun h => ?_)
        ·
          refine c_seq ?_
          refine c_region ?_
          refine o_yield rfl rfl rfl (y_val tok rfl) ?_
          refine o_yield rfl rfl rfl (y_val tok rfl) ?_
          refine o_yield rfl rfl rfl (y_val tok rfl) ?_
          refine o_yield rfl rfl rfl (y_val tok rfl) ?_
          refine o_yield rfl rfl rfl (y_val tok rfl) ?_
          refine o_yield rfl rfl rfl (y_val tok rfl) ?_
          refine o_end [10, 11, 12] rfl ?_
          refine x_then ?_
          refine c_ret ?_
          refine x_block_ret ?_
          refine x_then_ret ?_
          refine x_block_ret ?_
          refine x_then_ret ?_
          refine x_then_ret ?_
          refine x_block_ret ?_
          refine x_then_ret ?_
          refine b_ret tok rfl ?_
          intro E w' hm _
          refine ⟨?_, hm.below (hZ)⟩
          rw [hne]
          rfl
        ·
          simp at h
      ·
        have hdn : decide (n = actsN g A + 1) = false := decide_eq_false (by omega)
        rw [hdn]
        obtain ⟨q, hq, hqD⟩ : ∃ q : Nat, acS g slot tail (actsN g A) n = q ∧ q < D.length := by
          have e1 := rh_in hJ.geo hh
          by_cases n0 : n = 0
          · exact ⟨(headV g slot).toNat, by rw [acS, if_pos n0]; omega, by omega⟩
          · by_cases n1 : n < actsN g A
            · have e2 := rj_in hJ.geo hh (lsn := tail + ((n - 1 : Nat) : Int)) (by omega)
              exact ⟨(jourV g slot (tail + ((n - 1 : Nat) : Int))).toNat, by rw [acS, if_neg n0, if_pos n1]; omega, by omega⟩
            · exact ⟨(headV g slot).toNat, by rw [acS, if_neg n0, if_neg n1, if_pos (by omega)]; omega, by omega⟩
        have htk := fun w1 hV1 => stTake_c Z g ok slot key tail D A hJ hw0 s0 hd0 htl n hle a m c w1 hV1 hsZ
        rw [hq] at hwant
        rcases Nat.lt_or_ge n (actsN g A) with hlt | hge
        · obtain ⟨s, h_s⟩ : ∃ s, D[q]? = some s := ⟨_, List.getElem?_eq_getElem hqD⟩
          have hK : acK (actsN g A) n = 1 := by rw [acK, if_pos hlt]
          have hG : acG g slot tail D (actsN g A) n = s := by
            rw [acG, if_pos hlt, hq, Int.toNat_natCast, List.getD_eq_getElem?_getD, h_s]; rfl
          rw [hK] at hwant
          rw [hG] at htk
          refine c_skip ?_
          refine x_then ?_
          refine c_seq ?_
          refine c_block ?_
          refine c_seq ?_
          refine c_region ?_
          refine o_yield rfl rfl rfl (y_val tok rfl) ?_
          refine o_yield rfl rfl rfl (y_val tok rfl) ?_
          refine o_call (.a (.v _)) rfl rfl fnok26 rfl rfl rfl (fun hg E w1 hm => by exact hwant _) ?_
          refine o_new tok rfl rfl rfl rfl ?_
          refine o_store tok rfl rfl rfl (by first | exact ⟨trivial, trivial⟩ | (repeat' first | exact trivial | exact rfl | apply And.intro); done | simp [onesP, oneP, lk, Value.oneCell']) ?_
          refine o_end [1, 4, 5, 13, 15, 16, 17] rfl ?_
          refine x_then ?_
          refine c_seq ?_
          refine c_region ?_
          refine o_yield rfl rfl rfl (y_val tok rfl) ?_
          refine o_end [1, 4, 5, 13, 15, 16, 17, 18] rfl ?_
          refine x_then ?_
          refine c_seq ?_
          refine c_block ?_
          refine c_seq ?_
          refine c_region ?_
          refine o_yield rfl rfl rfl (y_val tok rfl) ?_
          refine o_yield rfl rfl rfl (y_val tok rfl) ?_
          refine o_yield rfl rfl rfl (y_val tok rfl) ?_
          refine o_yield rfl rfl rfl (y_val tok rfl) ?_
          refine o_yield rfl rfl rfl (y_val tok rfl) ?_
          refine o_yield rfl rfl rfl (y_val tok rfl) ?_
          refine o_yield rfl rfl rfl (y_val tok rfl) ?_
          refine o_yield rfl rfl rfl (y_val tok rfl) ?_
          refine o_yield rfl rfl rfl (y_val tok rfl) ?_
          refine o_yield rfl rfl rfl (y_val tok rfl) ?_
          refine o_yield rfl rfl rfl (y_lenP tok rfl) ?_
          refine o_yield rfl rfl rfl (y_val tok rfl) ?_
          refine o_yield rfl rfl rfl (y_val tok rfl) ?_
          refine o_yield rfl rfl rfl (y_val tok rfl) ?_
          refine o_end [1, 4, 5, 13, 15, 16, 17, 18, 38] rfl ?_
          refine x_then ?_
          refine c_cond rfl (fun h => ?_) (fun h => ?_)
          ·
            exfalso
            simp at h
            omega
          ·
            clear h
            refine c_seq ?_
            refine c_region ?_
            refine o_yield rfl rfl rfl (y_val tok rfl) ?_
            refine o_yield rfl rfl rfl (y_val tok rfl) ?_
            refine o_yield rfl rfl rfl (y_val tok rfl) ?_
            refine o_yield rfl rfl rfl (y_val tok rfl) ?_
            refine o_end [1, 4, 5, 13, 15, 16, 17, 18, 55] rfl ?_
            refine x_then ?_
            refine c_cond rfl (fun h => ?_) (fun h => ?_)
            ·
              refine c_region ?_
              refine o_yield rfl rfl rfl (y_val tok rfl) ?_
              refine o_yield rfl rfl rfl (y_val tok rfl) ?_
              refine o_yield rfl rfl rfl (y_val tok rfl) ?_
              clear h
              have hlt_s := lt_of_at h_s
              refine o_yield rfl rfl rfl (y_idx tok rfl (fun hg => hsZ2.sl) (fun hg => ⟨by omega, by omega⟩)) ?_
              refine o_yield rfl rfl rfl (y_lel tok (q) 0 (s) rfl (fun hg => hsZ2) (fun hg => h_s) rfl rfl) ?_
              refine o_yield rfl rfl rfl (y_val tok rfl) ?_
              refine o_end [1, 4, 5, 13, 16, 18] rfl ?_
              refine x_block ?_
              refine x_then ?_
              refine c_seq ?_
              refine c_region ?_
              refine o_yield rfl rfl rfl (y_val tok rfl) ?_
              refine o_yield rfl rfl rfl (y_val tok rfl) ?_
              refine o_yield rfl rfl rfl (y_val tok rfl) ?_
              refine o_callV (fun v V' => ∃ a m c, v = .tuple #[stV slot key tail (actsN g A) (n + 1) a m c, .bool (decide (n = actsN g A)), I 0] ∧ SlOf V' Record.cells 6 (.slice a m c) (A.take n)) rfl rfl fnok27 rfl rfl (fun hg E w1 hm => by exact htk _ hm.leV) ?_
              rintro v V1 hle1 hv
              obtain ⟨a1, m1, c1, rfl, hsl1⟩ := hv rfl
              clear hv
              refine o_yield rfl rfl rfl (y_val tok rfl) ?_
              refine o_yield rfl rfl rfl (y_val tok rfl) ?_
              refine o_yield rfl rfl rfl (y_val tok rfl) ?_
              refine o_yield rfl rfl rfl (y_val tok rfl) ?_
              refine o_store tok rfl rfl rfl (by first | exact ⟨trivial, trivial⟩ | (repeat' first | exact trivial | exact rfl | apply And.intro); done | simp [onesP, oneP, lk, Value.oneCell']) ?_
              refine o_yield rfl rfl rfl (y_val tok rfl) ?_
              refine o_yield rfl rfl rfl (y_val tok rfl) ?_
              refine o_end [1, 4, 5, 13, 14, 15, 16] rfl ?_
              refine x_then ?_
              refine c_seq ?_
              refine c_region ?_
              refine o_yield rfl rfl rfl (y_val tok rfl) ?_
              refine o_yield rfl rfl rfl (y_val tok rfl) ?_
              refine o_yield rfl rfl rfl (y_val tok rfl) ?_
              refine o_yield rfl rfl rfl (y_val tok rfl) ?_
              refine o_yield rfl rfl rfl (y_val tok rfl) ?_
              refine o_call (.a (.v _)) rfl rfl fnok28 rfl rfl rfl (fun hg E w1 hm => by exact rover_c _ _ _ _ _ _ _ _ _) ?_
              refine o_yield rfl rfl rfl (y_val tok rfl) ?_
              refine o_yield rfl rfl rfl (y_val tok rfl) ?_
              refine o_end [1, 4, 5, 13, 15, 16, 89] rfl ?_
              refine x_then ?_
              refine c_cond rfl (fun h => ?_) (fun h => ?_)
              ·
                exfalso
                have : (decide (3 < stAt (actsN g A) (n + 1))) = decide (n = actsN g A) := by
                  unfold stAt
                  by_cases e : n = actsN g A
                  · rw [if_neg (by omega), if_neg (by omega), if_neg (by omega), decide_eq_true e]; rfl
                  · by_cases e2 : n + 1 < actsN g A
                    · rw [if_neg (by omega), if_pos e2, decide_eq_false e]; rfl
                    · rw [if_neg (by omega), if_neg e2, if_pos (by omega), decide_eq_false e]; rfl
                rw [this] at h
                simp at h
              ·
                refine c_skip ?_
                refine x_block ?_
                refine x_then ?_
                refine c_region ?_
                refine o_yield rfl rfl rfl (y_val tok rfl) ?_
                refine o_yield rfl rfl rfl (y_val tok rfl) ?_
                refine o_yield rfl rfl rfl (y_val tok rfl) ?_
                refine o_end [1, 4, 5, 13, 15, 16] rfl ?_
                refine x_then ?_
                clear h
                rw [show decide (n = actsN g A) = decide (n + 1 = actsN g A + 1) from by simp, wrapI (n := (n : Int) + 1) (by omega) (by omega)]
                refine x_round ((n + 1, a1, m1, c1, V1)) (⟨by dsimp only; omega, hZ.trans hle1, hsl1⟩) (by first | omega | (dsimp only; omega)) (by repeat (first | exact SubF.nil | refine SubF.cons rfl ?_)) (by repeat (first | exact SubO.nil | refine SubO.cons rfl ?_)) rfl (Vw.le.refl _)
            ·
              exact absurd h (by decide)
        · have hnN : n = actsN g A := by omega
          have hK : acK (actsN g A) n = 2 := by rw [acK, if_neg (by omega), if_pos hnN]
          have hT : acT s0 (actsN g A) n = s0 := by rw [acT, if_pos hnN]
          have hG : acG g slot tail D (actsN g A) n = ByteArray.empty := by rw [acG, if_neg (by omega)]
          have h_s : D[q]? = some s0 := by
            have : q = (headV g slot).toNat := by
              rw [acS, if_neg (by omega), if_neg (by omega), if_pos hnN] at hq
              omega
            rw [this]; exact hd0
          rw [hK, hT] at hwant
          rw [hG] at htk
          refine c_skip ?_
          refine x_then ?_
          refine c_seq ?_
          refine c_block ?_
          refine c_seq ?_
          refine c_region ?_
          refine o_yield rfl rfl rfl (y_val tok rfl) ?_
          refine o_yield rfl rfl rfl (y_val tok rfl) ?_
          refine o_call (.a (.v _)) rfl rfl fnok26 rfl rfl rfl (fun hg E w1 hm => by exact hwant _) ?_
          refine o_new tok rfl rfl rfl rfl ?_
          refine o_store tok rfl rfl rfl (by first | exact ⟨trivial, trivial⟩ | (repeat' first | exact trivial | exact rfl | apply And.intro); done | simp [onesP, oneP, lk, Value.oneCell']) ?_
          refine o_end [1, 4, 5, 13, 15, 16, 17] rfl ?_
          refine x_then ?_
          refine c_seq ?_
          refine c_region ?_
          refine o_yield rfl rfl rfl (y_val tok rfl) ?_
          refine o_end [1, 4, 5, 13, 15, 16, 17, 18] rfl ?_
          refine x_then ?_
          refine c_seq ?_
          refine c_block ?_
          refine c_seq ?_
          refine c_region ?_
          refine o_yield rfl rfl rfl (y_val tok rfl) ?_
          refine o_yield rfl rfl rfl (y_val tok rfl) ?_
          refine o_yield rfl rfl rfl (y_val tok rfl) ?_
          refine o_yield rfl rfl rfl (y_val tok rfl) ?_
          refine o_yield rfl rfl rfl (y_val tok rfl) ?_
          refine o_yield rfl rfl rfl (y_val tok rfl) ?_
          refine o_yield rfl rfl rfl (y_val tok rfl) ?_
          refine o_yield rfl rfl rfl (y_val tok rfl) ?_
          refine o_yield rfl rfl rfl (y_val tok rfl) ?_
          refine o_yield rfl rfl rfl (y_val tok rfl) ?_
          refine o_yield rfl rfl rfl (y_lenP tok rfl) ?_
          refine o_yield rfl rfl rfl (y_val tok rfl) ?_
          refine o_yield rfl rfl rfl (y_val tok rfl) ?_
          refine o_yield rfl rfl rfl (y_val tok rfl) ?_
          refine o_end [1, 4, 5, 13, 15, 16, 17, 18, 38] rfl ?_
          refine x_then ?_
          refine c_cond rfl (fun h => ?_) (fun h => ?_)
          ·
            exfalso
            simp at h
            omega
          ·
            clear h
            refine c_seq ?_
            refine c_region ?_
            refine o_yield rfl rfl rfl (y_val tok rfl) ?_
            refine o_yield rfl rfl rfl (y_val tok rfl) ?_
            refine o_yield rfl rfl rfl (y_val tok rfl) ?_
            refine o_yield rfl rfl rfl (y_val tok rfl) ?_
            refine o_end [1, 4, 5, 13, 15, 16, 17, 18, 55] rfl ?_
            refine x_then ?_
            refine c_cond rfl (fun h => ?_) (fun h => ?_)
            ·
              exact absurd h (by decide)
            ·
              refine c_seq ?_
              refine c_region ?_
              refine o_yield rfl rfl rfl (y_val tok rfl) ?_
              refine o_yield rfl rfl rfl (y_val tok rfl) ?_
              refine o_yield rfl rfl rfl (y_val tok rfl) ?_
              refine o_yield rfl rfl rfl (y_val tok rfl) ?_
              refine o_end [1, 4, 5, 13, 15, 16, 17, 18, 64] rfl ?_
              refine x_then ?_
              refine c_cond rfl (fun h => ?_) (fun h => ?_)
              ·
                refine c_region ?_
                refine o_yield rfl rfl rfl (y_val tok rfl) ?_
                refine o_yield rfl rfl rfl (y_val tok rfl) ?_
                refine o_yield rfl rfl rfl (y_val tok rfl) ?_
                refine o_yield rfl rfl rfl (y_val tok rfl) ?_
                refine o_yield rfl rfl rfl (y_val tok rfl) ?_
                clear h
                refine o_yield rfl rfl rfl (y_idxK tok q rfl (by simp) (fun hg => hsZ2.sl) (fun hg => by omega)) ?_
                refine o_stepN rfl rfl rfl rfl (s_vst tok (b := b) (off := 0) rfl hbZ (by omega) (.inl (Nat.zero_le _)) rfl) (fun _ _ => ?_)
                refine o_end [1, 4, 5, 13, 16, 18] rfl ?_
                refine x_block ?_
                refine x_then ?_
                refine c_seq ?_
                refine c_region ?_
                refine o_yield rfl rfl rfl (y_val tok rfl) ?_
                refine o_yield rfl rfl rfl (y_val tok rfl) ?_
                refine o_yield rfl rfl rfl (y_val tok rfl) ?_
                have hcq : cs[0 + q]? = some (.string s0) := by
                  have h1 : (cs.toList.take D.length)[q]? = some (.string s0) := by
                    rw [hcs, flatS, List.getElem?_map, h_s]; rfl
                  rw [List.getElem?_take, if_pos hqD] at h1
                  rw [Nat.zero_add]
                  simpa using h1
                have hset : cs.setIfInBounds (0 + q) (.string s0) = cs := by
                  apply Array.ext
                  · simp
                  · intro i hi1 hi2
                    rw [Array.getElem_setIfInBounds]
                    split
                    · rename_i e; subst e
                      rw [Array.getElem?_eq_getElem hi2] at hcq
                      exact (Option.some.inj hcq).symm
                    · rfl
                rw [hset, put_same hbZ]
                refine o_callV (fun v V' => ∃ a m c, v = .tuple #[stV slot key tail (actsN g A) (n + 1) a m c, .bool (decide (n = actsN g A)), I 0] ∧ SlOf V' Record.cells 6 (.slice a m c) (A.take n)) rfl rfl fnok27 rfl rfl (fun hg E w1 hm => by exact htk _ hm.leV) ?_
                rintro v V1 hle1 hv
                obtain ⟨a1, m1, c1, rfl, hsl1⟩ := hv rfl
                clear hv
                refine o_yield rfl rfl rfl (y_val tok rfl) ?_
                refine o_yield rfl rfl rfl (y_val tok rfl) ?_
                refine o_yield rfl rfl rfl (y_val tok rfl) ?_
                refine o_yield rfl rfl rfl (y_val tok rfl) ?_
                refine o_store tok rfl rfl rfl (by first | exact ⟨trivial, trivial⟩ | (repeat' first | exact trivial | exact rfl | apply And.intro); done | simp [onesP, oneP, lk, Value.oneCell']) ?_
                refine o_yield rfl rfl rfl (y_val tok rfl) ?_
                refine o_yield rfl rfl rfl (y_val tok rfl) ?_
                refine o_end [1, 4, 5, 13, 14, 15, 16] rfl ?_
                refine x_then ?_
                refine c_seq ?_
                refine c_region ?_
                refine o_yield rfl rfl rfl (y_val tok rfl) ?_
                refine o_yield rfl rfl rfl (y_val tok rfl) ?_
                refine o_yield rfl rfl rfl (y_val tok rfl) ?_
                refine o_yield rfl rfl rfl (y_val tok rfl) ?_
                refine o_yield rfl rfl rfl (y_val tok rfl) ?_
                refine o_call (.a (.v _)) rfl rfl fnok28 rfl rfl rfl (fun hg E w1 hm => by exact rover_c _ _ _ _ _ _ _ _ _) ?_
                refine o_yield rfl rfl rfl (y_val tok rfl) ?_
                refine o_yield rfl rfl rfl (y_val tok rfl) ?_
                refine o_end [1, 4, 5, 13, 15, 16, 89] rfl ?_
                refine x_then ?_
                refine c_cond rfl (fun h => ?_) (fun h => ?_)
                ·
                  exfalso
                  have : (decide (3 < stAt (actsN g A) (n + 1))) = decide (n = actsN g A) := by
                    unfold stAt
                    by_cases e : n = actsN g A
                    · rw [if_neg (by omega), if_neg (by omega), if_neg (by omega), decide_eq_true e]; rfl
                    · by_cases e2 : n + 1 < actsN g A
                      · rw [if_neg (by omega), if_pos e2, decide_eq_false e]; rfl
                      · rw [if_neg (by omega), if_neg e2, if_pos (by omega), decide_eq_false e]; rfl
                  rw [this] at h
                  simp at h
                ·
                  refine c_skip ?_
                  refine x_block ?_
                  refine x_then ?_
                  refine c_region ?_
                  refine o_yield rfl rfl rfl (y_val tok rfl) ?_
                  refine o_yield rfl rfl rfl (y_val tok rfl) ?_
                  refine o_yield rfl rfl rfl (y_val tok rfl) ?_
                  refine o_end [1, 4, 5, 13, 15, 16] rfl ?_
                  refine x_then ?_
                  clear h
                  rw [show decide (n = actsN g A) = decide (n + 1 = actsN g A + 1) from by simp, wrapI (n := (n : Int) + 1) (by omega) (by omega)]
                  refine x_round ((n + 1, a1, m1, c1, V1)) (⟨by dsimp only; omega, hZ.trans hle1, hsl1⟩) (by first | omega | (dsimp only; omega)) (by repeat (first | exact SubF.nil | refine SubF.cons rfl ?_)) (by repeat (first | exact SubO.nil | refine SubO.cons rfl ?_)) rfl (Vw.le.refl _)
              ·
                exact absurd h (by decide)
    ·
      simp only [Bool.and_eq_true, Bool.or_eq_true, Bool.not_eq_true', Bool.or_eq_false_iff, Bool.and_eq_false_iff, decide_eq_true_eq, decide_eq_false_iff_not, beq_iff_eq, bne_iff_ne, Bool.not_eq_false', beq_eq_false_iff_ne, bne_eq_false_iff_eq, ne_eq, Decidable.not_not, Int.not_lt, Int.not_le] at h
      refine c_exit ?_
      refine x_then_exit ?_
      refine x_then_exit ?_
      refine x_block_hit ?_
      refine x_then ?_
      refine c_seq ?_
      refine c_region ?_
      refine o_yield rfl rfl rfl (y_val tok rfl) ?_
      refine o_yield rfl rfl rfl (y_val tok rfl) ?_
      refine o_yield rfl rfl rfl (y_val tok rfl) ?_
      refine o_yield rfl rfl rfl (y_val tok rfl) ?_
      refine o_yield rfl rfl rfl (y_val tok rfl) ?_
      refine o_end [10, 11, 12] rfl ?_
      refine x_then ?_
      refine c_ret ?_
      refine b_ret tok rfl ?_
      exfalso
      omega
end Go.Proofs.YtikdaehmaaogdaaGreat

/- The law: a replay that has nothing to put in place writes the header alone. -/
set_option linter.unusedVariables false
set_option linter.unusedSimpArgs false
set_option maxRecDepth 100000
namespace Go.Proofs.YtikdaehmaaogdaaGreat
open Go Go.Eng Go.RowKit

def greatD (D : List ByteArray) (Ca : List (Sl Cell)) (kn fn : Nat) : Bool := decide (200 < D.length) || decide (20 < Ca.length) || decide (20 < kn) || decide (200 < fn) || Ca.any (fun x => decide (100 < x.l.length))

theorem great06_c (V : Vw) (a ca ka fa : Option Addr) (n c cn cc kn kc fn fc : Nat) (nx : Int) (D : List ByteArray) (Ca : List (Sl Cell)) (w : World) (hV : V.le (vw w)) (hs0 : SlOf V encS 1 (.slice a n c) D) (hc0 : SlOf V Sl.enc 1 (.slice ca cn cc) Ca) (hcg : ∀ x ∈ Ca, SlOf V Cell.cells 2 x.v x.l) :
    Calls Tryz.prog 7 #[devG a ca ka fa n c cn cc kn kc fn fc nx] w fun e w' => e = .returned (.bool (greatD D Ca kn fn)) ∧ Below w.heap.size w w' := by
  have hs := hs0.mono hV
  have hc := hc0.mono hV
  obtain ⟨a', c', he, _⟩ := sl_cap hs.sl
  cases he
  obtain ⟨a', c', he, _⟩ := sl_cap hc.sl
  cases he
  refine enter (E := E0) (O := []) (nl := 0) (V := vw w) [.a (.v (devG a ca ka fa D.length c Ca.length cc kn kc fn fc nx))] Tryz.func7 rfl rfl (mem0 E0 0 w) rfl rfl ?_
  refine c_seq ?_
  refine c_region ?_
  refine o_new tok rfl rfl rfl rfl ?_
  refine o_yield rfl rfl rfl (y_val tok rfl) ?_
  refine o_end [1] rfl ?_
  refine x_then ?_
  refine c_seq ?_
  refine c_seq ?_
  refine c_region ?_
  refine o_yield rfl rfl rfl (y_val tok rfl) ?_
  refine o_yield rfl rfl rfl (y_val tok rfl) ?_
  refine o_yield rfl rfl rfl (y_lenP tok rfl) ?_
  refine o_yield rfl rfl rfl (y_val tok rfl) ?_
  refine o_yield rfl rfl rfl (y_val tok rfl) ?_
  refine o_yield rfl rfl rfl (y_val tok rfl) ?_
  refine o_yield rfl rfl rfl (y_val tok rfl) ?_
  refine o_yield rfl rfl rfl (y_lenP tok rfl) ?_
  refine o_yield rfl rfl rfl (y_val tok rfl) ?_
  refine o_yield rfl rfl rfl (y_val tok rfl) ?_
  refine o_yield rfl rfl rfl (y_val tok rfl) ?_
  refine o_yield rfl rfl rfl (y_val tok rfl) ?_
  refine o_yield rfl rfl rfl (y_val tok rfl) ?_
  refine o_yield rfl rfl rfl (y_lenP tok rfl) ?_
  refine o_yield rfl rfl rfl (y_val tok rfl) ?_
  refine o_yield rfl rfl rfl (y_val tok rfl) ?_
  refine o_yield rfl rfl rfl (y_val tok rfl) ?_
  refine o_yield rfl rfl rfl (y_val tok rfl) ?_
  refine o_yield rfl rfl rfl (y_val tok rfl) ?_
  refine o_yield rfl rfl rfl (y_lenP tok rfl) ?_
  refine o_yield rfl rfl rfl (y_val tok rfl) ?_
  refine o_yield rfl rfl rfl (y_val tok rfl) ?_
  refine o_end [1, 25] rfl ?_
  refine x_then ?_
  refine c_cond rfl (fun h => ?_) (fun h => ?_)
  ·
    simp only [Bool.and_eq_true, Bool.or_eq_true, Bool.not_eq_true', Bool.or_eq_false_iff, Bool.and_eq_false_iff, decide_eq_true_eq, decide_eq_false_iff_not, beq_iff_eq, bne_iff_ne, Bool.not_eq_false', beq_eq_false_iff_ne, bne_eq_false_iff_eq, ne_eq, Decidable.not_not, Int.not_lt, Int.not_le] at h
    refine c_seq ?_
    refine c_region ?_
    refine o_yield rfl rfl rfl (y_val tok rfl) ?_
    refine o_end [2] rfl ?_
    refine x_then ?_
    refine c_ret ?_
    refine x_then_ret ?_
    refine b_ret tok rfl ?_
    intro E w' hm _
    refine ⟨?_, hm.below (Vw.le.refl _)⟩
    have : greatD D Ca kn fn = true := by
      simp only [greatD, Bool.or_eq_true, decide_eq_true_eq]
      omega
    rw [this]
    rfl
  ·
    simp only [Bool.and_eq_true, Bool.or_eq_true, Bool.not_eq_true', Bool.or_eq_false_iff, Bool.and_eq_false_iff, decide_eq_true_eq, decide_eq_false_iff_not, beq_iff_eq, bne_iff_ne, Bool.not_eq_false', beq_eq_false_iff_ne, bne_eq_false_iff_eq, ne_eq, Decidable.not_not, Int.not_lt, Int.not_le] at h
    have hD : D.length ≤ 200 ∧ Ca.length ≤ 20 ∧ kn ≤ 20 ∧ fn ≤ 200 := by omega
    have hg0 : greatD D Ca kn fn = Ca.any (fun x => decide (100 < x.l.length)) := by
      simp only [greatD, decide_eq_false (show ¬ 200 < D.length by omega), decide_eq_false (show ¬ 20 < Ca.length by omega), decide_eq_false (show ¬ 20 < kn by omega), decide_eq_false (show ¬ 200 < fn by omega), Bool.false_or]
    clear h
    refine c_skip ?_
    refine x_then ?_
    refine c_seq ?_
    refine c_seq ?_
    refine c_region ?_
    refine o_yield rfl rfl rfl (y_val tok rfl) ?_
    refine o_end [1, 3] rfl ?_
    refine x_then ?_
    refine c_block ?_
    refine c_loopK [1] [] rfl rfl (σ := Nat) (fun k => [(3, .a (.v (I k)))]) (fun k => []) (fun k => (k ≤ Ca.length ∧ ∀ (j : Nat) x, j < k → Ca[j]? = some x → x.l.length ≤ 100)) (fun k => Ca.length - k) (0) (⟨by omega, fun j x hj => by omega⟩) (by repeat (first | exact SubF.nil | refine SubF.cons rfl ?_)) (by repeat (first | exact SubO.nil | refine SubO.cons rfl ?_)) rfl ?_
    rintro k ⟨hk, hkl⟩
    refine c_seq ?_
    refine c_seq ?_
    refine c_region ?_
    refine o_yield rfl rfl rfl (y_val tok rfl) ?_
    refine o_yield rfl rfl rfl (y_val tok rfl) ?_
    refine o_yield rfl rfl rfl (y_val tok rfl) ?_
    refine o_yield rfl rfl rfl (y_lenP tok rfl) ?_
    refine o_yield rfl rfl rfl (y_val tok rfl) ?_
    refine o_end [1, 3, 30] rfl ?_
    refine x_then ?_
    refine c_cond rfl (fun h => ?_) (fun h => ?_)
    ·
      simp only [Bool.and_eq_true, Bool.or_eq_true, Bool.not_eq_true', Bool.or_eq_false_iff, Bool.and_eq_false_iff, decide_eq_true_eq, decide_eq_false_iff_not, beq_iff_eq, bne_iff_ne, Bool.not_eq_false', beq_eq_false_iff_ne, bne_eq_false_iff_eq, ne_eq, Decidable.not_not, Int.not_lt, Int.not_le] at h
      obtain ⟨x, h_x⟩ : ∃ x, Ca[k]? = some x := ⟨_, List.getElem?_eq_getElem (by omega)⟩
      have hx := (hcg x (List.mem_of_getElem? h_x)).mono hV
      clear h
      refine c_skip ?_
      refine x_then ?_
      refine c_seq ?_
      refine c_block ?_
      refine c_seq ?_
      refine c_region ?_
      refine o_yield rfl rfl rfl (y_val tok rfl) ?_
      refine o_yield rfl rfl rfl (y_val tok rfl) ?_
      refine o_yield rfl rfl rfl (y_val tok rfl) ?_
      have hlt_x := lt_of_at h_x
      refine o_yield rfl rfl rfl (y_idx tok rfl (fun hg => hc.sl) (fun hg => ⟨by omega, by omega⟩)) ?_
      refine o_yield rfl rfl rfl (y_lel tok (k) 0 (x) rfl (fun hg => hc) (fun hg => h_x) rfl rfl) ?_
      refine o_yield rfl rfl rfl (y_len tok rfl (fun hg => hx.sl)) ?_
      refine o_yield rfl rfl rfl (y_val tok rfl) ?_
      refine o_end [1, 3, 39] rfl ?_
      refine x_then ?_
      refine c_cond rfl (fun h => ?_) (fun h => ?_)
      ·
        simp only [Bool.and_eq_true, Bool.or_eq_true, Bool.not_eq_true', Bool.or_eq_false_iff, Bool.and_eq_false_iff, decide_eq_true_eq, decide_eq_false_iff_not, beq_iff_eq, bne_iff_ne, Bool.not_eq_false', beq_eq_false_iff_ne, bne_eq_false_iff_eq, ne_eq, Decidable.not_not, Int.not_lt, Int.not_le] at h
        refine c_seq ?_
        refine c_region ?_
        refine o_yield rfl rfl rfl (y_val tok rfl) ?_
        refine o_end [2] rfl ?_
        refine x_then ?_
        refine c_ret ?_
        refine x_block_ret ?_
        refine x_then_ret ?_
        refine x_then_ret ?_
        refine x_block_ret ?_
        refine x_then_ret ?_
        refine b_ret tok rfl ?_
        intro E w' hm _
        refine ⟨?_, hm.below (Vw.le.refl _)⟩
        have : greatD D Ca kn fn = true := by
          rw [hg0, List.any_eq_true]
          exact ⟨x, List.mem_of_getElem? h_x, by simp; omega⟩
        rw [this]
        rfl
      ·
        simp only [Bool.and_eq_true, Bool.or_eq_true, Bool.not_eq_true', Bool.or_eq_false_iff, Bool.and_eq_false_iff, decide_eq_true_eq, decide_eq_false_iff_not, beq_iff_eq, bne_iff_ne, Bool.not_eq_false', beq_eq_false_iff_ne, bne_eq_false_iff_eq, ne_eq, Decidable.not_not, Int.not_lt, Int.not_le] at h
        refine c_skip ?_
        refine x_block ?_
        refine x_then ?_
        refine c_region ?_
        refine o_yield rfl rfl rfl (y_val tok rfl) ?_
        refine o_yield rfl rfl rfl (y_val tok rfl) ?_
        refine o_yield rfl rfl rfl (y_val tok rfl) ?_
        refine o_end [1, 3] rfl ?_
        refine x_then ?_
        rw [wrapI (n := (k : Int) + 1) (by omega) (by omega)]
        have hkl2 : ∀ (j : Nat) y, j < k + 1 → Ca[j]? = some y → y.l.length ≤ 100 := fun j y hj hy => by
          by_cases hjk : j = k
          · subst hjk; rw [h_x] at hy; cases hy; omega
          · exact hkl j y (by omega) hy
        refine x_round (k + 1) (⟨by omega, hkl2⟩) (by first | omega | (dsimp only; omega)) (by repeat (first | exact SubF.nil | refine SubF.cons rfl ?_)) (by repeat (first | exact SubO.nil | refine SubO.cons rfl ?_)) rfl (Vw.le.refl _)
    ·
      simp only [Bool.and_eq_true, Bool.or_eq_true, Bool.not_eq_true', Bool.or_eq_false_iff, Bool.and_eq_false_iff, decide_eq_true_eq, decide_eq_false_iff_not, beq_iff_eq, bne_iff_ne, Bool.not_eq_false', beq_eq_false_iff_ne, bne_eq_false_iff_eq, ne_eq, Decidable.not_not, Int.not_lt, Int.not_le] at h
      refine c_exit ?_
      refine x_then_exit ?_
      refine x_then_exit ?_
      refine x_block_hit ?_
      refine x_then ?_
      refine c_seq ?_
      refine c_region ?_
      refine o_yield rfl rfl rfl (y_val tok rfl) ?_
      refine o_end [2] rfl ?_
      refine x_then ?_
      refine c_ret ?_
      refine b_ret tok rfl ?_
      intro E w' hm _
      refine ⟨?_, hm.below (Vw.le.refl _)⟩
      have : greatD D Ca kn fn = false := by
        rw [hg0, List.any_eq_false]
        intro x hx
        obtain ⟨j, hj⟩ := List.getElem?_of_mem hx
        have hjl := (List.getElem?_eq_some_iff.1 hj).1
        have := hkl j x (by omega) hj
        simp
        omega
      rw [this]
      rfl

theorem sameS_c (V : Vw) (sv tv : Value) (D : List ByteArray) (w : World) (hV : V.le (vw w)) (hs0 : SlOf V encS 1 sv D) (ht0 : SlOf V encS 1 tv D) (hn : D.length ≤ 100000) :
    Calls Tryz.prog 15 #[sv, tv] w fun e w' => e = .returned (.bool true) ∧ Below w.heap.size w w' := by
  have hs := hs0.mono hV
  have ht := ht0.mono hV
  refine enter (E := E0) (O := []) (nl := 0) (V := vw w) [.a (.v sv), .a (.v tv)] Tryz.func15 rfl rfl (mem0 E0 0 w) rfl rfl ?_
  refine c_seq ?_
  refine c_region ?_
  refine o_yield rfl rfl rfl (y_val tok rfl) ?_
  refine o_end [0, 1] rfl ?_
  refine x_then ?_
  refine c_seq ?_
  refine c_seq ?_
  refine c_region ?_
  refine o_yield rfl rfl rfl (y_val tok rfl) ?_
  refine o_yield rfl rfl rfl (y_len tok rfl (fun hg => hs.sl)) ?_
  refine o_yield rfl rfl rfl (y_val tok rfl) ?_
  refine o_yield rfl rfl rfl (y_len tok rfl (fun hg => ht.sl)) ?_
  refine o_yield rfl rfl rfl (y_val tok rfl) ?_
  refine o_end [0, 1, 10] rfl ?_
  refine x_then ?_
  refine c_cond rfl (fun h => ?_) (fun h => ?_)
  ·
    simp at h
  ·
    refine c_skip ?_
    refine x_then ?_
    refine c_seq ?_
    refine c_seq ?_
    refine c_region ?_
    refine o_yield rfl rfl rfl (y_val tok rfl) ?_
    refine o_end [0, 1, 5] rfl ?_
    refine x_then ?_
    refine c_block ?_
    refine c_loopK [0, 1] [] rfl rfl (σ := Nat) (fun k => [(5, .a (.v (I k)))]) (fun k => []) (fun k => k ≤ D.length) (fun k => D.length - k) (0) (by omega) (by repeat (first | exact SubF.nil | refine SubF.cons rfl ?_)) (by repeat (first | exact SubO.nil | refine SubO.cons rfl ?_)) rfl ?_
    rintro k hk
    refine c_seq ?_
    refine c_seq ?_
    refine c_region ?_
    refine o_yield rfl rfl rfl (y_val tok rfl) ?_
    refine o_yield rfl rfl rfl (y_val tok rfl) ?_
    refine o_yield rfl rfl rfl (y_len tok rfl (fun hg => hs.sl)) ?_
    refine o_yield rfl rfl rfl (y_val tok rfl) ?_
    refine o_end [0, 1, 5, 14] rfl ?_
    refine x_then ?_
    refine c_cond rfl (fun h => ?_) (fun h => ?_)
    ·
      simp only [Bool.and_eq_true, Bool.or_eq_true, Bool.not_eq_true', Bool.or_eq_false_iff, Bool.and_eq_false_iff, decide_eq_true_eq, decide_eq_false_iff_not, beq_iff_eq, bne_iff_ne, Bool.not_eq_false', beq_eq_false_iff_ne, bne_eq_false_iff_eq, ne_eq, Decidable.not_not, Int.not_lt, Int.not_le] at h
      refine c_skip ?_
      refine x_then ?_
      refine c_seq ?_
      refine c_block ?_
      refine c_seq ?_
      refine c_draw mixed (by kernel_rfl) ?_
      refine d_yield rfl rfl rfl (y_val tok rfl) rfl ?_
      refine d_yield rfl rfl rfl (y_val tok rfl) rfl ?_
      obtain ⟨x, h_x⟩ : ∃ x, D[k]? = some x := ⟨_, List.getElem?_eq_getElem (by omega)⟩
      have hlt_x := lt_of_at h_x
      refine d_yield rfl rfl rfl (y_idx tok rfl (fun hg => hs.sl) (fun hg => ⟨by omega, by omega⟩)) rfl ?_
      refine d_yield rfl rfl rfl (y_lel tok (k) 0 (x) rfl (fun hg => hs) (fun hg => h_x) rfl rfl) rfl ?_
      refine d_yield rfl rfl rfl (y_val tok rfl) rfl ?_
      refine d_yield rfl rfl rfl (y_val tok rfl) rfl ?_
      have hlt_x := lt_of_at h_x
      refine d_yield rfl rfl rfl (y_idx tok rfl (fun hg => ht.sl) (fun hg => ⟨by omega, by omega⟩)) rfl ?_
      refine d_yield rfl rfl rfl (y_lel tok (k) 0 (x) rfl (fun hg => ht) (fun hg => h_x) rfl rfl) rfl ?_
      refine d_yield rfl rfl rfl (y_val tok rfl) rfl ?_
      refine d_end [0, 1, 5, 25] rfl ?_
      refine x_then ?_
      refine c_cond rfl (fun h => ?_) (fun h => ?_)
      ·
        simp at h
      ·
        refine c_skip ?_
        refine x_block ?_
        refine x_then ?_
        refine c_region ?_
        refine o_yield rfl rfl rfl (y_val tok rfl) ?_
        refine o_yield rfl rfl rfl (y_val tok rfl) ?_
        refine o_yield rfl rfl rfl (y_val tok rfl) ?_
        refine o_end [0, 1, 5] rfl ?_
        refine x_then ?_
        rw [wrapI (n := (k : Int) + 1) (by omega) (by omega)]
        refine x_round (k + 1) (by omega) (by first | omega | (dsimp only; omega)) (by repeat (first | exact SubF.nil | refine SubF.cons rfl ?_)) (by repeat (first | exact SubO.nil | refine SubO.cons rfl ?_)) rfl (Vw.le.refl _)
    ·
      simp only [Bool.and_eq_true, Bool.or_eq_true, Bool.not_eq_true', Bool.or_eq_false_iff, Bool.and_eq_false_iff, decide_eq_true_eq, decide_eq_false_iff_not, beq_iff_eq, bne_iff_ne, Bool.not_eq_false', beq_eq_false_iff_ne, bne_eq_false_iff_eq, ne_eq, Decidable.not_not, Int.not_lt, Int.not_le] at h
      refine c_exit ?_
      refine x_then_exit ?_
      refine x_then_exit ?_
      refine x_block_hit ?_
      refine x_then ?_
      refine c_seq ?_
      refine c_region ?_
      refine o_yield rfl rfl rfl (y_val tok rfl) ?_
      refine o_end [4] rfl ?_
      refine x_then ?_
      refine c_ret ?_
      refine b_ret tok rfl ?_
      intro E w' hm _
      refine ⟨?_, hm.below (Vw.le.refl _)⟩
      rfl
end Go.Proofs.YtikdaehmaaogdaaGreat

/- The law ReplayNone. -/
set_option linter.unusedVariables false
set_option linter.unusedSimpArgs false
set_option maxRecDepth 100000
namespace Go.Proofs.YtikdaehmaaogdaaGreat
open Go Go.Eng Go.RowKit

theorem rmost_c (g : Geo) (hG : geoB g = true) (w : World) : Calls Tryz.prog 12 #[g.val] w fun e w' => e = .returned (I (2 + g.journal + g.blocks * g.per)) ∧ Below w.heap.size w w' := by
  have hf := geo_facts hG
  have hz := geo_sizes hG
  refine enter (E := E0) (O := []) (nl := 0) (V := vw w) [.a (.v g.val)] Tryz.func12 rfl rfl (mem0 E0 0 w) rfl rfl ?_
  refine c_seq ?_
  refine c_region ?_
  refine o_new tok rfl rfl rfl rfl ?_
  refine o_yield rfl rfl rfl (y_val tok rfl) ?_
  refine o_end [1] rfl ?_
  refine x_then ?_
  refine c_seq ?_
  refine c_region ?_
  refine o_yield rfl rfl rfl (y_val tok rfl) ?_
  refine o_yield rfl rfl rfl (y_val tok rfl) ?_
  refine o_yield rfl rfl rfl (y_val tok rfl) ?_
  refine o_yield rfl rfl rfl (y_val tok rfl) ?_
  refine o_yield rfl rfl rfl (y_val tok rfl) ?_
  refine o_yield rfl rfl rfl (y_val tok rfl) ?_
  refine o_yield rfl rfl rfl (y_val tok rfl) ?_
  refine o_yield rfl rfl rfl (y_val tok rfl) ?_
  refine o_yield rfl rfl rfl (y_val tok rfl) ?_
  refine o_yield rfl rfl rfl (y_val tok rfl) ?_
  refine o_end [2] rfl ?_
  refine x_then ?_
  refine c_ret ?_
  refine b_ret tok rfl ?_
  intro E w' hm _
  refine ⟨?_, hm.below (Vw.le.refl _)⟩
  have e1 : IntKind.i64.wrap (2 + g.journal) = 2 + g.journal := wrapI (by omega) (by omega)
  have e2 : IntKind.i64.wrap (g.blocks * g.per) = g.blocks * g.per := wrapI (by omega) (by omega)
  have e3 : IntKind.i64.wrap (2 + g.journal + g.blocks * g.per) = 2 + g.journal + g.blocks * g.per := wrapI (by omega) (by omega)
  rw [e1, e2, e3]
  rfl

def begP (g : Geo) (slot key : Int) : Bool := decide (0 ≤ headV g slot) && keyB key && decide (0 ≤ seatOf key)

theorem rbeginI_c (g : Geo) (ok : g.Ok) (slot key : Int) (w : World) :
    Calls Tryz.prog 10 #[g.val, I slot, I key] w fun e w' => e = .returned (.tuple #[rpV (if begP g slot key = true then slot else 0) (if begP g slot key = true then key else 0) 0 0 (.slice none 0 0) (.slice none 0 0) 0 0, I (if begP g slot key = true then 0 else 2)]) ∧ Below w.heap.size w w' := by
  refine (rbegin_c g ok slot key w).mono ?_
  rintro e w' ⟨hb, ⟨h1, h2, h3, he⟩ | ⟨hn, he⟩⟩
  · refine ⟨?_, hb⟩
    have : begP g slot key = true := by rw [begP, decide_eq_true h1, h2, decide_eq_true h3]; rfl
    rw [he, this]
    rfl
  · refine ⟨?_, hb⟩
    have : begP g slot key = false := by
      cases hq : begP g slot key with
      | false => rfl
      | true =>
        rw [begP, Bool.and_eq_true, Bool.and_eq_true, decide_eq_true_eq, decide_eq_true_eq] at hq
        exact absurd ⟨hq.1.1, hq.1.2, hq.2⟩ hn
    rw [he, this]
    rfl

theorem gjournal_cV (V : Vw) (g : Geo) (ok : g.Ok) (slot key tail : Int) (D : List ByteArray) (A : List Record) (hJ : RowsOf g slot key tail D A) (hd : ∃ s, D[(headV g slot).toNat]? = some s ∧ tailV s = tail ∧ tailE s = 0) (a ca ka fa : Option Addr) (n c cn cc kn kc fn fc : Nat) (nx : Int) (w : World) (hV : V.le (vw w)) (hs0 : SlOf V encS 1 (.slice a n c) D) :
    Calls Tryz.prog 9 #[g.val, devG a ca ka fa n c cn cc kn kc fn fc nx, I slot, I key] w fun e w' => ∃ x V', e = .returned x ∧ Below w.heap.size w w' ∧ Vext w.heap.size V V' w' ∧ ∃ a n c, x = .tuple #[.slice a n c, I tail, I 0] ∧ SlOf V' Record.cells 6 (.slice a n c) (A.take (whole A)) := by
  refine (gjournal_c V g ok slot key tail D A hJ hd a ca ka fa n c cn cc kn kc fn fc nx w hV hs0).mono ?_
  rintro e w' ⟨⟨v, rfl, hrow⟩, hb⟩
  obtain ⟨V', hx, hsl⟩ := ownsRow_vext hV hb hrow
  obtain ⟨a, n, c, rfl⟩ := sl_shape hsl
  exact ⟨_, V', rfl, hb, hx, a, n, c, rfl, hsl, fun _ => rfl⟩

theorem tail_some {s : ByteArray} (h : tailE s = 0) : tailOk s = some (tailV s) := by
  rw [tailE] at h
  rw [tailV]
  cases hq : tailOk s with
  | none => rw [hq] at h; simp at h
  | some n => rfl

theorem replayNone_law (w : World) {v0 v1 v2 v3 : Value} (R0 : ∃ g : Geo, v0 = g.val ∧ g.Ok) (R1 : ∃ d : Device, v1 = d.val ∧ Device.Ok (vw w) d) (R2 : ∃ n : Int, v2 = I n ∧ R64 n) (R3 : ∃ n : Int, v3 = I n ∧ R64 n) :
    Calls Tryz.prog 3 #[v0, v1, v2, v3] w fun e w' => e = .returned (.bool true) ∧ Below w.heap.size w w' := by
  obtain ⟨g, rfl, ok⟩ := R0
  obtain ⟨d, rfl, hd⟩ := R1
  obtain ⟨slot, rfl, _⟩ := R2
  obtain ⟨key, rfl, _⟩ := R3
  obtain ⟨⟨sv, D⟩, ⟨cv, Ca⟩, ⟨kv, Ka⟩, nx, ⟨fv, Fa⟩⟩ := d
  have hsl := hd.s.sl
  have hDz := hd.s.all
  have hcl := hd.cache.sl
  have hcg := fun x hx => (hd.cache.all x hx).sl
  obtain ⟨ka, kn, kc, rfl⟩ := sl_shape hd.keys.sl.sl
  obtain ⟨fa, fn, fc, rfl⟩ := sl_shape hd.fenced.sl.sl
  dsimp only at hsl hDz hcl hcg
  clear hd
  obtain ⟨a, n, c, rfl⟩ := sl_shape hsl.sl
  obtain ⟨ca, cn, cc, rfl⟩ := sl_shape hcl.sl
  obtain ⟨a', c', he, _⟩ := sl_cap hsl.sl
  cases he
  have hgr := fun w1 hV => great06_c (vw w) a ca ka fa D.length c cn cc kn kc fn fc nx D Ca w1 hV hsl hcl hcg
  refine enter (E := E0) (O := []) (nl := 0) (V := vw w) [.a (.v g.val), .a (.v (devG a ca ka fa D.length c cn cc kn kc fn fc nx)), .a (.v (I slot)), .a (.v (I key))] Tryz.func3 rfl rfl (mem0 E0 0 w) rfl rfl ?_
  refine c_seq ?_
  refine c_region ?_
  refine o_new tok rfl rfl rfl rfl ?_
  refine o_new tok rfl rfl rfl rfl ?_
  refine o_yield rfl rfl rfl (y_val tok rfl) ?_
  refine o_end [2, 3, 4, 5] rfl ?_
  refine x_then ?_
  refine c_seq ?_
  refine c_seq ?_
  refine c_draw mixed (by kernel_rfl) ?_
  refine d_yield rfl rfl rfl (y_val tok rfl) rfl ?_
  refine d_call (.a (.v _)) rfl rfl fnok5 rfl rfl rfl (fun hg E w1 hm => by exact refMay_c g ok _) ?_
  refine d_yield rfl rfl rfl (y_val tok rfl) rfl ?_
  refine d_yield rfl rfl rfl (y_val tok rfl) rfl ?_
  refine d_yield rfl rfl rfl (y_val tok rfl) rfl ?_
  refine d_call (.a (.v _)) rfl rfl fnok6 rfl rfl rfl (fun hg E w1 hm => by exact refTotal_c g ok _) ?_
  refine d_yield rfl rfl rfl (y_val tok rfl) rfl ?_
  refine d_yield rfl rfl rfl (y_val tok rfl) rfl ?_
  refine d_yield rfl rfl rfl (y_val tok rfl) rfl ?_
  refine d_yield rfl rfl rfl (y_val tok rfl) rfl ?_
  refine d_yield rfl rfl rfl (y_val tok rfl) rfl ?_
  refine d_yield rfl rfl rfl (y_lenP tok rfl) rfl ?_
  refine d_yield rfl rfl rfl (y_val tok rfl) rfl ?_
  refine d_call (.a (.v _)) rfl rfl fnok6 rfl rfl rfl (fun hg E w1 hm => by exact refTotal_c g ok _) ?_
  refine d_yield rfl rfl rfl (y_val tok rfl) rfl ?_
  refine d_yield rfl rfl rfl (y_val tok rfl) rfl ?_
  refine d_yield rfl rfl rfl (y_val tok rfl) rfl ?_
  refine d_yield rfl rfl rfl (y_val tok rfl) rfl ?_
  refine d_call (.a (.v _)) rfl rfl fnok7 rfl rfl rfl (fun hg E w1 hm => by exact hgr _ hm.leV) ?_
  refine d_yield rfl rfl rfl (y_val tok rfl) rfl ?_
  refine d_end [2, 3, 4, 5, 39] rfl ?_
  refine x_then ?_
  refine c_cond rfl (fun h => ?_) (fun h => ?_)
  ·
    refine c_seq ?_
    refine c_region ?_
    refine o_call (.a (.v _)) rfl rfl fnok8 rfl rfl rfl (fun hg E w1 hm => by exact wakes21_c _) ?_
    refine o_yield rfl rfl rfl (y_val tok rfl) ?_
    refine o_end [8] rfl ?_
    refine x_then ?_
    refine c_ret ?_
    refine x_then_ret ?_
    refine b_ret tok rfl ?_
    intro E w' hm _
    refine ⟨?_, hm.below (Vw.le.refl _)⟩
    rfl
  ·
    have hpre : geoB g = true ∧ totV g ≤ 2000 ∧ (D.length : Int) = totV g ∧ greatD D Ca kn fn = false := by
      simp at h
      exact ⟨h.1.1.1, by omega, by omega, h.2⟩
    clear h
    obtain ⟨hG, hT2, hln, hgf⟩ := hpre
    have hD2 : D.length ≤ 200 := by
      simp only [greatD, Bool.or_eq_false_iff, decide_eq_false_iff_not] at hgf
      omega
    have hbg := rbeginI_c g ok slot key
    generalize hB : begP g slot key = bp at hbg
    by_cases hH : ∃ s, D[(headV g slot).toNat]? = some s ∧ 0 ≤ headV g slot ∧ tailE s = 0
    rotate_left
    · have hte : ∃ te, te ≠ 0 ∧ ((headV g slot < 0 ∧ (0 : Int) = 0 ∧ te = 2) ∨ ∃ s, D[(headV g slot).toNat]? = some s ∧ 0 ≤ headV g slot ∧ (0 : Int) = tailV s ∧ te = tailE s) := by
        rcases Int.lt_or_le (headV g slot) 0 with h | h
        · exact ⟨2, by decide, .inl ⟨h, rfl, rfl⟩⟩
        · have hlt := rh_in hG h
          obtain ⟨s, hs⟩ : ∃ s, D[(headV g slot).toNat]? = some s := ⟨_, List.getElem?_eq_getElem (by omega)⟩
          have hne : tailE s ≠ 0 := fun e => hH ⟨s, hs, h, e⟩
          refine ⟨tailE s, hne, .inr ⟨s, hs, h, ?_, rfl⟩⟩
          rw [tailE] at hne
          rw [tailV]
          cases hq : tailOk s with
          | none => rfl
          | some n => rw [hq] at hne; simp at hne
      obtain ⟨te, hte0, hte⟩ := hte
      refine c_skip ?_
      refine x_then ?_
      refine c_seq ?_
      refine c_region ?_
      refine o_yield rfl rfl rfl (y_val tok rfl) ?_
      refine o_yield rfl rfl rfl (y_val tok rfl) ?_
      refine o_yield rfl rfl rfl (y_val tok rfl) ?_
      refine o_yield rfl rfl rfl (y_val tok rfl) ?_
      refine o_call (.a (.v _)) rfl rfl fnok9 rfl rfl rfl (fun hg E w1 hm => by exact gjournalE_c (vw w) g ok hG slot key _ _ _ _ _ _ _ _ _ _ _ _ _ D hDz _ hm.leV hsl hln 0 te hte hte0) ?_
      refine o_yield rfl rfl rfl (y_val tok rfl) ?_
      refine o_yield rfl rfl rfl (y_val tok rfl) ?_
      refine o_yield rfl rfl rfl (y_val tok rfl) ?_
      refine o_yield rfl rfl rfl (y_val tok rfl) ?_
      refine o_yield rfl rfl rfl (y_val tok rfl) ?_
      refine o_yield rfl rfl rfl (y_val tok rfl) ?_
      refine o_yield rfl rfl rfl (y_val tok rfl) ?_
      refine o_end [2, 3, 4, 5, 9, 10, 11] rfl ?_
      refine x_then ?_
      refine c_seq ?_
      refine c_region ?_
      refine o_yield rfl rfl rfl (y_val tok rfl) ?_
      refine o_yield rfl rfl rfl (y_val tok rfl) ?_
      refine o_yield rfl rfl rfl (y_val tok rfl) ?_
      refine o_call (.a (.v _)) rfl rfl fnok10 rfl rfl rfl (fun hg E w1 hm => by exact hbg _) ?_
      refine o_yield rfl rfl rfl (y_val tok rfl) ?_
      refine o_yield rfl rfl rfl (y_val tok rfl) ?_
      refine o_yield rfl rfl rfl (y_val tok rfl) ?_
      refine o_new tok rfl rfl rfl rfl ?_
      refine o_store tok rfl rfl rfl (by first | exact ⟨trivial, trivial⟩ | (repeat' first | exact trivial | exact rfl | apply And.intro); done | simp [onesP, oneP, lk, Value.oneCell']) ?_
      refine o_yield rfl rfl rfl (y_val tok rfl) ?_
      refine o_end [2, 3, 4, 5, 9, 10, 11, 13] rfl ?_
      refine x_then ?_
      refine c_seq ?_
      refine c_seq ?_
      refine c_region ?_
      refine o_yield rfl rfl rfl (y_val tok rfl) ?_
      refine o_yield rfl rfl rfl (y_val tok rfl) ?_
      refine o_yield rfl rfl rfl (y_val tok rfl) ?_
      refine o_yield rfl rfl rfl (y_val tok rfl) ?_
      refine o_yield rfl rfl rfl (y_val tok rfl) ?_
      refine o_yield rfl rfl rfl (y_val tok rfl) ?_
      refine o_yield rfl rfl rfl (y_val tok rfl) ?_
      refine o_yield rfl rfl rfl (y_val tok rfl) ?_
      refine o_yield rfl rfl rfl (y_lenP tok rfl) ?_
      refine o_yield rfl rfl rfl (y_val tok rfl) ?_
      refine o_yield rfl rfl rfl (y_val tok rfl) ?_
      refine o_end [2, 3, 4, 5, 10, 67] rfl ?_
      refine x_then ?_
      refine c_cond rfl (fun h => ?_) (fun h => ?_)
      ·
        refine c_seq ?_
        refine c_region ?_
        refine o_call (.a (.v _)) rfl rfl fnok8 rfl rfl rfl (fun hg E w1 hm => by exact wakes21_c _) ?_
        refine o_yield rfl rfl rfl (y_val tok rfl) ?_
        refine o_end [8] rfl ?_
        refine x_then ?_
        refine c_ret ?_
        refine x_then_ret ?_
        refine b_ret tok rfl ?_
        intro E w' hm _
        refine ⟨?_, hm.below (Vw.le.refl _)⟩
        rfl
      ·
        exfalso
        simp at h
        exact hte0 (by first | exact h.1.1 | exact h.1 | exact h)
    obtain ⟨s0, hd0, hh, hte⟩ := hH
    have htl := tail_some hte
    obtain ⟨hs0, ht0, ht1⟩ := tail_inv htl
    obtain ⟨tail, htail⟩ : ∃ tail, tailV s0 = tail := ⟨_, rfl⟩
    rw [htail] at htl hs0 ht0 ht1
    obtain ⟨A, hJ⟩ := rows_ex (key := key) hG hln hh ht0 ht1 hDz
    refine c_skip ?_
    refine x_then ?_
    refine c_seq ?_
    refine c_region ?_
    refine o_yield rfl rfl rfl (y_val tok rfl) ?_
    refine o_yield rfl rfl rfl (y_val tok rfl) ?_
    refine o_yield rfl rfl rfl (y_val tok rfl) ?_
    refine o_yield rfl rfl rfl (y_val tok rfl) ?_
    refine o_callV (fun v V' => ∃ a n c, v = .tuple #[.slice a n c, I tail, I 0] ∧ SlOf V' Record.cells 6 (.slice a n c) (A.take (whole A))) rfl rfl fnok9 rfl rfl (fun hg E w1 hm => by exact gjournal_cV (vw w) g ok slot key tail D A hJ ⟨s0, hd0, htail, hte⟩ _ _ _ _ _ _ _ _ _ _ _ _ _ _ hm.leV hsl) ?_
    rintro v V1 hle1 hv
    obtain ⟨a1, n1, c1, rfl, hsl1⟩ := hv rfl
    clear hv
    refine o_yield rfl rfl rfl (y_val tok rfl) ?_
    refine o_yield rfl rfl rfl (y_val tok rfl) ?_
    refine o_yield rfl rfl rfl (y_val tok rfl) ?_
    refine o_yield rfl rfl rfl (y_val tok rfl) ?_
    refine o_yield rfl rfl rfl (y_val tok rfl) ?_
    refine o_yield rfl rfl rfl (y_val tok rfl) ?_
    refine o_yield rfl rfl rfl (y_val tok rfl) ?_
    refine o_end [2, 3, 4, 5, 9, 10, 11] rfl ?_
    refine x_then ?_
    refine c_seq ?_
    refine c_region ?_
    refine o_yield rfl rfl rfl (y_val tok rfl) ?_
    refine o_yield rfl rfl rfl (y_val tok rfl) ?_
    refine o_yield rfl rfl rfl (y_val tok rfl) ?_
    refine o_call (.a (.v _)) rfl rfl fnok10 rfl rfl rfl (fun hg E w1 hm => by exact hbg _) ?_
    refine o_yield rfl rfl rfl (y_val tok rfl) ?_
    refine o_yield rfl rfl rfl (y_val tok rfl) ?_
    refine o_yield rfl rfl rfl (y_val tok rfl) ?_
    refine o_new tok rfl rfl rfl rfl ?_
    refine o_store tok rfl rfl rfl (by first | exact ⟨trivial, trivial⟩ | (repeat' first | exact trivial | exact rfl | apply And.intro); done | simp [onesP, oneP, lk, Value.oneCell']) ?_
    refine o_yield rfl rfl rfl (y_val tok rfl) ?_
    refine o_end [2, 3, 4, 5, 9, 10, 11, 13] rfl ?_
    refine x_then ?_
    refine c_seq ?_
    refine c_seq ?_
    refine c_region ?_
    refine o_yield rfl rfl rfl (y_val tok rfl) ?_
    refine o_yield rfl rfl rfl (y_val tok rfl) ?_
    refine o_yield rfl rfl rfl (y_val tok rfl) ?_
    refine o_yield rfl rfl rfl (y_val tok rfl) ?_
    refine o_yield rfl rfl rfl (y_val tok rfl) ?_
    refine o_yield rfl rfl rfl (y_val tok rfl) ?_
    refine o_yield rfl rfl rfl (y_val tok rfl) ?_
    refine o_yield rfl rfl rfl (y_val tok rfl) ?_
    refine o_yield rfl rfl rfl (y_len tok rfl (fun hg => hsl1.sl)) ?_
    refine o_yield rfl rfl rfl (y_val tok rfl) ?_
    refine o_yield rfl rfl rfl (y_val tok rfl) ?_
    refine o_end [2, 3, 4, 5, 10, 67] rfl ?_
    refine x_then ?_
    refine c_cond rfl (fun h => ?_) (fun h => ?_)
    ·
      refine c_seq ?_
      refine c_region ?_
      refine o_call (.a (.v _)) rfl rfl fnok8 rfl rfl rfl (fun hg E w1 hm => by exact wakes21_c _) ?_
      refine o_yield rfl rfl rfl (y_val tok rfl) ?_
      refine o_end [8] rfl ?_
      refine x_then ?_
      refine c_ret ?_
      refine x_then_ret ?_
      refine b_ret tok rfl ?_
      intro E w' hm _
      refine ⟨?_, hm.below (hle1)⟩
      rfl
    ·
      simp only [Bool.and_eq_true, Bool.or_eq_true, Bool.not_eq_true', Bool.or_eq_false_iff, Bool.and_eq_false_iff, decide_eq_true_eq, decide_eq_false_iff_not, beq_iff_eq, bne_iff_ne, Bool.not_eq_false', beq_eq_false_iff_ne, bne_eq_false_iff_eq, ne_eq, Decidable.not_not, Int.not_lt, Int.not_le] at h
      have hbp : bp = true ∧ whole A = 0 := by
        have hwl := whole_le A
        rw [List.length_take] at h
        refine ⟨?_, by omega⟩
        cases bp with
        | true => rfl
        | false => simp at h
      obtain ⟨rfl, hw0⟩ := hbp
      clear h
      have hkey : keyB key = true ∧ 0 ≤ seatOf key := by
        rw [begP, Bool.and_eq_true, Bool.and_eq_true, decide_eq_true_eq, decide_eq_true_eq] at hB
        exact ⟨hB.1.2, hB.2⟩
      have hf := geo_facts hG
      have hz := geo_sizes hG
      have hfew := hJ.few
      have hN : (actsN g A : Int) + 1 ≤ g.journal + 2 := by
        unfold actsN
        split <;> omega
      have hbp1 : 1 ≤ g.blocks * g.per := by
        have := Int.mul_le_mul (show 1 ≤ g.blocks by omega) (show 1 ≤ g.per by omega) (by omega) (by omega)
        omega
      have hDpos : 0 < D.length := by
        have := rh_in hG hh
        omega
      have hsl1 := hsl.mono hle1
      refine c_skip ?_
      refine x_then ?_
      refine c_seq ?_
      refine c_region ?_
      refine o_step rfl rfl rfl rfl rfl (s_bs tok 1 rfl rfl rfl) (fun _ _ => ?_)
      refine o_yield rfl rfl rfl (y_val tok rfl) ?_
      refine o_yield rfl rfl rfl (y_val tok rfl) ?_
      refine o_step rfl rfl rfl rfl rfl (s_app tok (D.flatMap encS) rfl (fun E w hm => hsl1.sl.src hm.get) (fun _ _ _ => str_ones _) (by dsimp only; omega)) (fun _ _ => ?_)
      refine o_yield rfl rfl rfl (y_val tok rfl) ?_
      refine o_end [2, 3, 4, 5, 10, 14] rfl ?_
      refine x_then ?_
      refine c_seq ?_
      rw [List.nil_append, Nat.zero_add D.length]
      refine k_freezeX 4 rfl (fun v V2 hle2 hsl2 _ hex => ?_)
      obtain ⟨b, cap, cs, rfl, hb, hcap, hcsz, hctk⟩ := hex.resolve_left (by omega)
      clear hex
      rw [Nat.mul_one] at hcsz hctk
      have hslS : SlOf V2 encS 1 (.slice (some ⟨b, 0, none⟩) D.length cap) D := ⟨hsl2, fun _ => rfl⟩
      have hrun := fun w1 hV1 => run0_c V2 g ok slot key tail hkey D A hJ hw0 s0 hs0 hd0 htl (2 + g.journal + g.blocks * g.per) (by omega) b cap 9 cs (by omega) hcap hctk w1 hV1 hb
      have hhc := fun w => refHeadS_c tail w
      rw [hs0] at hhc
      obtain ⟨q, hq⟩ : ∃ q : Nat, headV g slot = q := ⟨(headV g slot).toNat, by omega⟩
      have hrh := fun w => refHead_c g ok slot w
      rw [hq] at hrh
      rw [hq, Int.toNat_natCast] at hd0
      refine weaken (l := [(2, .a (.v (I slot))), (3, .a (.v (I key))), (4, .a (.ptr 0 0)), (5, .a (.ptr 1 0)), (10, .a (.v (I tail))), (14, .a (.v (.slice (some ⟨b, 0, none⟩) D.length cap)))]) (O' := [(0, .lit (g.cells.map .v) 23), (1, .lit [.v (.slice a D.length c), .v (.slice ca cn cc), .v (.slice ka kn kc), .v (I nx), .v (.slice fa fn fc)] 28)]) (nl' := 5) ?_ (by repeat (first | exact SubF.nil | refine SubF.cons rfl ?_)) (by repeat (first | exact SubO.nil | refine SubO.cons rfl ?_)) rfl (Vw.le.refl _)
      refine c_draw mixed (by kernel_rfl) ?_
      refine d_yield rfl rfl rfl (y_val tok rfl) rfl ?_
      refine d_yield rfl rfl rfl (y_val tok rfl) rfl ?_
      refine d_yield rfl rfl rfl (y_val tok rfl) rfl ?_
      refine d_yield rfl rfl rfl (y_val tok rfl) rfl ?_
      refine d_yield rfl rfl rfl (y_val tok rfl) rfl ?_
      refine d_call (.a (.v _)) rfl rfl fnok12 rfl rfl rfl (fun hg E w1 hm => by exact rmost_c g hG _) ?_
      refine d_call (.a (.v _)) rfl rfl fnok11 rfl rfl rfl (fun hg E w1 hm => by exact hrun _ hm.leV) ?_
      refine d_yield rfl rfl rfl (y_val tok rfl) rfl ?_
      refine d_yield rfl rfl rfl (y_val tok rfl) rfl ?_
      refine d_yield rfl rfl rfl (y_val tok rfl) rfl ?_
      refine d_yield rfl rfl rfl (y_val tok rfl) rfl ?_
      refine d_yield rfl rfl rfl (y_val tok rfl) rfl ?_
      refine d_yield rfl rfl rfl (y_val tok rfl) rfl ?_
      refine d_yield rfl rfl rfl (y_val tok rfl) rfl ?_
      refine d_end [2, 4, 5, 10, 14, 15, 16, 17] rfl ?_
      refine x_then ?_
      refine c_seq ?_
      refine c_region ?_
      refine o_yield rfl rfl rfl (y_val tok rfl) ?_
      refine o_call (.a (.v _)) rfl rfl fnok13 rfl rfl rfl (fun hg E w1 hm => by exact hhc _) ?_
      refine o_yield rfl rfl rfl (y_val tok rfl) ?_
      refine o_yield rfl rfl rfl (y_val tok rfl) ?_
      refine o_yield rfl rfl rfl (y_val tok rfl) ?_
      refine o_yield rfl rfl rfl (y_val tok rfl) ?_
      refine o_yield rfl rfl rfl (y_val tok rfl) ?_
      refine o_end [2, 4, 5, 14, 15, 16, 17, 18] rfl ?_
      refine x_then ?_
      refine c_seq ?_
      refine c_seq ?_
      refine c_region ?_
      refine o_yield rfl rfl rfl (y_val tok rfl) ?_
      refine o_yield rfl rfl rfl (y_val tok rfl) ?_
      refine o_yield rfl rfl rfl (y_val tok rfl) ?_
      refine o_yield rfl rfl rfl (y_val tok rfl) ?_
      refine o_yield rfl rfl rfl (y_val tok rfl) ?_
      refine o_yield rfl rfl rfl (y_val tok rfl) ?_
      refine o_yield rfl rfl rfl (y_val tok rfl) ?_
      refine o_yield rfl rfl rfl (y_val tok rfl) ?_
      refine o_yield rfl rfl rfl (y_val tok rfl) ?_
      refine o_yield rfl rfl rfl (y_val tok rfl) ?_
      refine o_yield rfl rfl rfl (y_val tok rfl) ?_
      refine o_yield rfl rfl rfl (y_val tok rfl) ?_
      refine o_yield rfl rfl rfl (y_val tok rfl) ?_
      refine o_yield rfl rfl rfl (y_val tok rfl) ?_
      refine o_yield rfl rfl rfl (y_val tok rfl) ?_
      refine o_yield rfl rfl rfl (y_val tok rfl) ?_
      refine o_yield rfl rfl rfl (y_val tok rfl) ?_
      refine o_call (.a (.v _)) rfl rfl fnok14 rfl rfl rfl (fun hg E w1 hm => by exact hrh _) ?_
      have hlt_s0 := lt_of_at hd0
      refine o_yield rfl rfl rfl (y_idx tok rfl (fun hg => hslS.sl) (fun hg => ⟨by omega, by omega⟩)) ?_
      refine o_yield rfl rfl rfl (y_lel tok (q) 0 (s0) rfl (fun hg => hslS) (fun hg => hd0) rfl rfl) ?_
      refine o_yield rfl rfl rfl (y_val tok rfl) ?_
      refine o_yield rfl rfl rfl (y_val tok rfl) ?_
      refine o_yield rfl rfl rfl (y_val tok rfl) ?_
      refine o_end [5, 14, 111] rfl ?_
      refine x_then ?_
      refine c_cond rfl (fun h => ?_) (fun h => ?_)
      ·
        simp only [Bool.and_eq_true, Bool.or_eq_true, Bool.not_eq_true', Bool.or_eq_false_iff, Bool.and_eq_false_iff, decide_eq_true_eq, decide_eq_false_iff_not, beq_iff_eq, bne_iff_ne, Bool.not_eq_false', beq_eq_false_iff_ne, bne_eq_false_iff_eq, ne_eq, Decidable.not_not, Int.not_lt, Int.not_le] at h
        exfalso
        have hwj := wrapI (n := g.journal + 2) (by omega) (by omega)
        rw [hwj] at h
        simp at h
        omega
      ·
        refine c_skip ?_
        refine x_then ?_
        refine c_seq ?_
        refine c_region ?_
        refine o_yield rfl rfl rfl (y_val tok rfl) ?_
        refine o_yield rfl rfl rfl (y_val tok rfl) ?_
        refine o_yield rfl rfl rfl (y_val tok rfl) ?_
        refine o_call (.a (.v _)) rfl rfl fnok15 rfl rfl rfl (fun hg E w1 hm => by exact sameS_c V2 _ _ D _ hm.leV hslS (hsl1.mono hle2) (by omega)) ?_
        refine o_yield rfl rfl rfl (y_val tok rfl) ?_
        refine o_call (.a (.v _)) rfl rfl fnok8 rfl rfl rfl (fun hg E w1 hm => by exact wakes21_c _) ?_
        refine o_yield rfl rfl rfl (y_val tok rfl) ?_
        refine o_yield rfl rfl rfl (y_val tok rfl) ?_
        refine o_end [8] rfl ?_
        refine x_then ?_
        refine c_ret ?_
        refine b_ret tok rfl ?_
        intro E w' hm _
        refine ⟨?_, hm.below ((hle1.trans hle2))⟩
        rfl
end Go.Proofs.YtikdaehmaaogdaaGreat
