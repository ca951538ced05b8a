/- Numbers' bytes put behind others. -/
import Derived.Test.YtlcpfhjbhogdiaaCrc
set_option linter.unusedVariables false
set_option linter.unusedSimpArgs false
set_option maxRecDepth 100000
namespace Go.Proofs.Ytlcpfhjbhogdiaa
open Go Go.Eng Go.RowKit

/-- A number's bytes, the least first. -/
def leTake (n j : Nat) : List UInt8 := (List.range j).map fun i => UInt8.ofNat (n / pw i % 256)
def leB (k n : Int) : List UInt8 := leTake n.toNat k.toNat

theorem leTake_succ (n j : Nat) : leTake n (j + 1) = leTake n j ++ [UInt8.ofNat (n / pw j % 256)] := by simp [leTake, List.range_succ]
theorem leTake_len (n j : Nat) : (leTake n j).length = j := by simp [leTake]

theorem ofNat_mod (n : Nat) : (UInt8.ofNat (n % 256)).toNat = n % 256 := by
  rw [UInt8.toNat_ofNat']
  omega

def putOk (k : Int) (ls : List Int) : Bool := widthB k && ls.all fun n => fitsB n k
def putL (bl : List UInt8) (k : Int) (ls : List Int) : List UInt8 := bl ++ ls.flatMap (leB k)

theorem flat_snoc (L : List UInt8) (b : UInt8) : L.flatMap encByte ++ [.int .u8 b.toNat] = (L ++ [b]).flatMap encByte := by
  rw [List.flatMap_append]; rfl

/-- What putting comes to. -/
def PutPost (bl : List UInt8) (k : Int) (ls : List Int) (w : World) (e : Ending) (w' : World) : Prop :=
  ((putOk k ls = true ∧ ∃ v, e = .returned (.tuple #[v, I 0]) ∧ w'.ownsRow w.heap.size 5 1 v (putL bl k ls).length ((putL bl k ls).flatMap encByte)) ∨
    (putOk k ls = false ∧ e = .returned (.tuple #[.slice none 0 0, I 2]))) ∧ Below w.heap.size w w'

theorem putOk_no {k : Int} {ls : List Int} {i : Nat} {n : Int} (hn : ls[i]? = some n) (h : fitsB n k = false) : putOk k ls = false := by
  have : (ls.all fun n => fitsB n k) = false := all_no hn h
  rw [putOk, this, Bool.and_false]

theorem refPut_c (V : Vw) (bv : Value) (bl : List UInt8) (k : Int) (lv : Value) (ls : List Int) (w : World) (hV : V.le (vw w)) (hb : SlOf V encByte 1 bv bl) (hl : SlOf V encI64 1 lv ls)
    (hbn : bl.length ≤ 1099511627776) (hln : ls.length ≤ 1099511627776) : Calls Try.prog 124 #[bv, I k, lv] w (PutPost bl k ls w) := by
  have hb' := hb.mono hV
  have hl' := hl.mono hV
  refine enter (E := E0) (O := []) (nl := 0) (V := vw w) [.a (.v bv), .a (.v (I k)), .a (.v lv)] Try.func124 rfl rfl (mem0 E0 0 w) rfl rfl ?_
  refine c_seq ?_
  refine c_region ?_
  refine o_yield rfl rfl rfl (y_val tok rfl) ?_
  refine o_yield rfl rfl rfl (y_val tok rfl) ?_
  refine o_end [0, 1, 2] rfl ?_
  refine x_then ?_
  refine c_seq ?_
  refine c_seq ?_
  refine c_region ?_
  refine o_yield rfl rfl rfl (y_val tok rfl) ?_
  refine o_call (.a (.v _)) rfl rfl fnok156 rfl rfl rfl (fun hg E w1 hm => by exact refMost_c _ _) ?_
  refine o_yield rfl rfl rfl (y_val tok rfl) ?_
  refine o_end [0, 1, 2, 14] rfl ?_
  refine x_then ?_
  refine c_cond rfl (fun h => ?_) (fun h => ?_)
  ·
    simp only [Bool.and_eq_true, Bool.or_eq_true, Bool.not_eq_true', Bool.or_eq_false_iff, Bool.and_eq_false_iff, decide_eq_true_eq, decide_eq_false_iff_not, beq_iff_eq, bne_iff_ne, Bool.not_eq_false', beq_eq_false_iff_ne, bne_eq_false_iff_eq, ne_eq, Decidable.not_not, Int.not_lt, Int.not_le] at h
    refine c_seq ?_
    refine c_region ?_
    refine o_yield rfl rfl rfl (y_val tok rfl) ?_
    refine o_yield rfl rfl rfl (y_val tok rfl) ?_
    refine o_end [6, 7] rfl ?_
    refine x_then ?_
    refine c_ret ?_
    refine x_then_ret ?_
    refine b_ret tok rfl ?_
    have hw : widthB k = false := by
      cases hq : widthB k with
      | false => rfl
      | true => rw [mostI, if_pos hq] at h; omega
    intro E w' hm _
    exact ⟨.inr ⟨by rw [putOk, hw]; rfl, rfl⟩, hm.below (Vw.le.refl _)⟩
  ·
    simp only [Bool.and_eq_true, Bool.or_eq_true, Bool.not_eq_true', Bool.or_eq_false_iff, Bool.and_eq_false_iff, decide_eq_true_eq, decide_eq_false_iff_not, beq_iff_eq, bne_iff_ne, Bool.not_eq_false', beq_eq_false_iff_ne, bne_eq_false_iff_eq, ne_eq, Decidable.not_not, Int.not_lt, Int.not_le] at h
    refine c_skip ?_
    refine x_then ?_
    refine c_seq ?_
    refine c_region ?_
    refine o_yield rfl rfl rfl (y_val tok rfl) ?_
    refine o_end [0, 1, 2, 8] rfl ?_
    refine x_then ?_
    refine c_seq ?_
    refine c_region ?_
    refine o_yield rfl rfl rfl (y_val tok rfl) ?_
    refine o_yield rfl rfl rfl (y_val tok rfl) ?_
    have hw : widthB k = true := by
      cases hq : widthB k with
      | true => rfl
      | false => rw [mostI, if_neg (by simp [hq])] at h; omega
    have hk := hw
    simp only [widthB, Bool.and_eq_true, decide_eq_true_eq] at hk
    obtain ⟨m, rfl⟩ : ∃ m : Nat, k = m := ⟨k.toNat, by omega⟩
    clear h
    refine k_nil 15 5 1 rfl rfl ?_
    refine o_step rfl rfl rfl rfl rfl (s_app tok (bl.flatMap encByte) rfl (fun E w hm => hb'.sl.src hm.get) (fun _ _ _ => bytes_ones _) (by dsimp only; omega)) (fun _ _ => ?_)
    refine o_yield rfl rfl rfl (y_val tok rfl) ?_
    refine o_end [1, 2, 8] rfl ?_
    refine x_then ?_
    refine c_seq ?_
    refine c_seq ?_
    refine c_region ?_
    refine o_yield rfl rfl rfl (y_val tok rfl) ?_
    refine o_end [1, 2, 8, 9] rfl ?_
    refine x_then ?_
    refine c_block ?_
    rw [Nat.zero_add bl.length, List.nil_append]
    have e0 : putL bl m (ls.take 0) = bl := by simp [putL]
    refine c_loopK [1, 2] [1] rfl rfl (σ := Nat) (fun i => [(8, .a (.row 1)), (9, .a (.v (I i)))]) (fun i => [(1, .row 5 1 (putL bl m (ls.take i)).length ((putL bl m (ls.take i)).flatMap encByte))]) (fun i => i ≤ ls.length ∧ (∀ j n, j < i → ls[j]? = some n → fitsB n m = true) ∧ (putL bl m (ls.take i)).length ≤ bl.length + 6 * i) (fun i => ls.length - i) (0) (⟨by omega, by omega, by simp [putL]⟩) (by repeat (first | exact SubF.nil | refine SubF.cons rfl ?_ | refine SubF.cons (by simp only [e0]; first | done | rfl) ?_)) (by repeat (first | exact SubO.nil | refine SubO.cons rfl ?_ | refine SubO.cons (by simp only [e0]; first | done | rfl) ?_)) rfl ?_
    rintro i ⟨hi, hall, hsz⟩
    refine c_seq ?_
    refine c_seq ?_
    refine c_region ?_
    refine o_yield rfl rfl rfl (y_val tok rfl) ?_
    refine o_yield rfl rfl rfl (y_val tok rfl) ?_
    refine o_yield rfl rfl rfl (y_len tok rfl (fun hg => hl'.sl)) ?_
    refine o_yield rfl rfl rfl (y_val tok rfl) ?_
    refine o_end [1, 2, 8, 9, 21] rfl ?_
    refine x_then ?_
    refine c_cond rfl (fun h => ?_) (fun h => ?_)
    ·
      simp only [Bool.and_eq_true, Bool.or_eq_true, Bool.not_eq_true', Bool.or_eq_false_iff, Bool.and_eq_false_iff, decide_eq_true_eq, decide_eq_false_iff_not, beq_iff_eq, bne_iff_ne, Bool.not_eq_false', beq_eq_false_iff_ne, bne_eq_false_iff_eq, ne_eq, Decidable.not_not, Int.not_lt, Int.not_le] at h
      refine c_skip ?_
      refine x_then ?_
      refine c_seq ?_
      refine c_block ?_
      refine c_seq ?_
      refine c_seq ?_
      refine c_region ?_
      refine o_yield rfl rfl rfl (y_val tok rfl) ?_
      refine o_yield rfl rfl rfl (y_val tok rfl) ?_
      obtain ⟨n, h_n⟩ := hl'.at (k := i) (by omega)
      have hlt_n := lt_of_at h_n
      refine o_yield rfl rfl rfl (y_idx tok rfl (fun hg => hl'.sl) (fun hg => ⟨by omega, by omega⟩)) ?_
      refine o_yield rfl rfl rfl (y_lel tok (i) 0 (n) rfl (fun hg => hl') (fun hg => h_n) rfl rfl) ?_
      refine o_yield rfl rfl rfl (y_val tok rfl) ?_
      refine o_call (.a (.v _)) rfl rfl fnok157 rfl rfl rfl (fun hg E w1 hm => by exact refFits_c _ _ _) ?_
      refine o_yield rfl rfl rfl (y_val tok rfl) ?_
      refine o_end [1, 2, 8, 9, 30] rfl ?_
      refine x_then ?_
      refine c_cond rfl (fun h => ?_) (fun h => ?_)
      ·
        simp only [Bool.and_eq_true, Bool.or_eq_true, Bool.not_eq_true', Bool.or_eq_false_iff, Bool.and_eq_false_iff, decide_eq_true_eq, decide_eq_false_iff_not, beq_iff_eq, bne_iff_ne, Bool.not_eq_false', beq_eq_false_iff_ne, bne_eq_false_iff_eq, ne_eq, Decidable.not_not, Int.not_lt, Int.not_le] at h
        refine c_seq ?_
        refine c_region ?_
        refine o_yield rfl rfl rfl (y_val tok rfl) ?_
        refine o_yield rfl rfl rfl (y_val tok rfl) ?_
        refine o_end [6, 7] rfl ?_
        refine x_then ?_
        refine c_ret ?_
        refine x_then_ret ?_
        refine x_block_ret ?_
        refine x_then_ret ?_
        refine x_then_ret ?_
        refine x_block_ret ?_
        refine x_then_ret ?_
        refine b_ret tok rfl ?_
        intro E w' hm _
        exact ⟨.inr ⟨putOk_no h_n h, rfl⟩, hm.below (Vw.le.refl _)⟩
      ·
        simp only [Bool.and_eq_true, Bool.or_eq_true, Bool.not_eq_true', Bool.or_eq_false_iff, Bool.and_eq_false_iff, decide_eq_true_eq, decide_eq_false_iff_not, beq_iff_eq, bne_iff_ne, Bool.not_eq_false', beq_eq_false_iff_ne, bne_eq_false_iff_eq, ne_eq, Decidable.not_not, Int.not_lt, Int.not_le] at h
        refine c_skip ?_
        refine x_then ?_
        refine c_seq ?_
        refine c_region ?_
        refine o_yield rfl rfl rfl (y_val tok rfl) ?_
        refine o_yield rfl rfl rfl (y_val tok rfl) ?_
        have hf := h
        clear h
        have hf' := hf
        simp only [fitsB, Bool.and_eq_true, decide_eq_true_eq] at hf'
        obtain ⟨⟨_, hn0⟩, hn1⟩ := hf'
        obtain ⟨q, rfl⟩ : ∃ q : Nat, n = q := ⟨n.toNat, by omega⟩
        have hq : q ≤ 1099511627776 := by unfold mostN at hn1; omega
        have hlt__q___Int_ := lt_of_at h_n
        refine o_yield rfl rfl rfl (y_idx tok rfl (fun hg => hl'.sl) (fun hg => ⟨by omega, by omega⟩)) ?_
        refine o_yield rfl rfl rfl (y_lel tok (i) 0 ((q : Int)) rfl (fun hg => hl') (fun hg => h_n) rfl rfl) ?_
        refine o_yield rfl rfl rfl (y_val tok rfl) ?_
        refine o_end [1, 2, 8, 9, 10] rfl ?_
        refine x_then ?_
        refine c_seq ?_
        refine c_region ?_
        refine o_yield rfl rfl rfl (y_val tok rfl) ?_
        refine o_end [1, 2, 8, 9, 10, 11] rfl ?_
        refine x_then ?_
        refine c_block ?_
        have ep : q / pw 0 = q := by simp [pw]
        have el : leTake q 0 = [] := rfl
        refine c_loopK [1, 2, 9] [1] rfl rfl (σ := Nat) (fun j => [(8, .a (.row 1)), (10, .a (.v (I (q / pw j : Nat)))), (11, .a (.v (I j)))]) (fun j => [(1, .row 5 1 (putL bl m (ls.take i) ++ leTake q j).length ((putL bl m (ls.take i) ++ leTake q j).flatMap encByte))]) (fun j => j ≤ m) (fun j => m - j) (0) (by omega) (by repeat (first | exact SubF.nil | refine SubF.cons rfl ?_ | refine SubF.cons (by simp only [ep, el, List.append_nil]; first | done | rfl) ?_)) (by repeat (first | exact SubO.nil | refine SubO.cons rfl ?_ | refine SubO.cons (by simp only [ep, el, List.append_nil]; first | done | rfl) ?_)) rfl ?_
        rintro j hj
        refine c_seq ?_
        refine c_seq ?_
        refine c_region ?_
        refine o_yield rfl rfl rfl (y_val tok rfl) ?_
        refine o_yield rfl rfl rfl (y_val tok rfl) ?_
        refine o_yield rfl rfl rfl (y_val tok rfl) ?_
        refine o_end [1, 2, 8, 9, 10, 11, 37] rfl ?_
        refine x_then ?_
        refine c_cond rfl (fun h => ?_) (fun h => ?_)
        ·
          simp only [Bool.and_eq_true, Bool.or_eq_true, Bool.not_eq_true', Bool.or_eq_false_iff, Bool.and_eq_false_iff, decide_eq_true_eq, decide_eq_false_iff_not, beq_iff_eq, bne_iff_ne, Bool.not_eq_false', beq_eq_false_iff_ne, bne_eq_false_iff_eq, ne_eq, Decidable.not_not, Int.not_lt, Int.not_le] at h
          refine c_skip ?_
          refine x_then ?_
          refine c_seq ?_
          refine c_block ?_
          refine c_seq ?_
          refine c_region ?_
          refine o_yield rfl rfl rfl (y_val tok rfl) ?_
          refine o_yield rfl rfl rfl (y_val tok rfl) ?_
          have hqj : q / pw j ≤ q := Nat.div_le_self _ _
          have hnx : q / pw (j + 1) = q / pw j / 256 := by rw [pw_succ, Nat.div_div_eq_div_mul]
          have hlt := leTake_succ q j
          obtain ⟨r, hr⟩ : ∃ r, q / pw j = r := ⟨_, rfl⟩
          rw [hr] at hqj hlt hnx ⊢
          refine o_yield rfl rfl rfl (y_rem rfl (fun hg => by decide)) ?_
          refine o_yield rfl rfl rfl (y_val tok rfl) ?_
          rw [Int.tmod_eq_emod_of_nonneg (by omega), show (r : Int) % 256 = ((r % 256 : Nat) : Int) by omega, wrapU8 (n := r % 256) (by omega), ← ofNat_mod]
          refine o_step rfl rfl rfl rfl rfl (s_bs tok 1 rfl rfl rfl) (fun _ _ => ?_)
          refine o_step rfl rfl rfl rfl rfl (s_app tok [.int .u8 (UInt8.ofNat (r % 256)).toNat] rfl (fun E w hm => ownsRow_src (hm.row 2 _ _ _ _ rfl)) (fun _ _ _ => bytes_ones [_]) (by dsimp only; simp only [List.length_append, leTake_len]; omega)) (fun _ _ => ?_)
          refine o_yield rfl rfl rfl (y_val tok rfl) ?_
          refine o_end [1, 2, 8, 9, 10, 11] rfl ?_
          refine x_then ?_
          refine c_region ?_
          refine o_yield rfl rfl rfl (y_val tok rfl) ?_
          rw [flat_snoc, List.append_assoc, ← hlt, show (putL bl m (ls.take i) ++ leTake q j).length + 1 = (putL bl m (ls.take i) ++ leTake q (j + 1)).length by simp only [List.length_append, leTake_len]; omega]
          refine k_swap 1 3 rfl ?_
          refine o_yield rfl rfl rfl (y_quo rfl (fun hg => by decide)) ?_
          refine o_yield rfl rfl rfl (y_val tok rfl) ?_
          refine o_end [1, 2, 8, 9, 10, 11] rfl ?_
          refine x_block ?_
          refine x_then ?_
          refine c_region ?_
          refine o_yield rfl rfl rfl (y_val tok rfl) ?_
          refine o_yield rfl rfl rfl (y_val tok rfl) ?_
          refine o_yield rfl rfl rfl (y_val tok rfl) ?_
          refine o_end [1, 2, 8, 9, 10, 11] rfl ?_
          refine x_then ?_
          rw [Int.tdiv_eq_ediv_of_nonneg (by omega), show (r : Int) / 256 = ((r / 256 : Nat) : Int) by omega, wrapI (n := ((r / 256 : Nat) : Int)) (by omega) (by omega), ← hnx, wrapI (n := (j : Int) + 1) (by omega) (by omega)]
          refine x_round (j + 1) (by omega) (by first | omega | (dsimp only; omega)) (by repeat (first | exact SubF.nil | refine SubF.cons rfl ?_)) (by repeat (first | exact SubO.nil | refine SubO.cons rfl ?_)) rfl (Vw.le.refl _)
        ·
          simp only [Bool.and_eq_true, Bool.or_eq_true, Bool.not_eq_true', Bool.or_eq_false_iff, Bool.and_eq_false_iff, decide_eq_true_eq, decide_eq_false_iff_not, beq_iff_eq, bne_iff_ne, Bool.not_eq_false', beq_eq_false_iff_ne, bne_eq_false_iff_eq, ne_eq, Decidable.not_not, Int.not_lt, Int.not_le] at h
          refine c_exit ?_
          refine x_then_exit ?_
          refine x_then_exit ?_
          refine x_block_hit ?_
          refine x_block ?_
          refine x_then ?_
          refine c_region ?_
          refine o_yield rfl rfl rfl (y_val tok rfl) ?_
          refine o_yield rfl rfl rfl (y_val tok rfl) ?_
          refine o_yield rfl rfl rfl (y_val tok rfl) ?_
          refine o_end [1, 2, 8, 9] rfl ?_
          refine x_then ?_
          have hjm : j = m := by omega
          subst hjm
          have hnew : putL bl j (ls.take i) ++ leTake q j = putL bl j (ls.take (i + 1)) := by
            rw [take_succ_at h_n, putL, putL, List.flatMap_append, List.append_assoc]
            simp [leB]
          have hsz2 : (putL bl j (ls.take (i + 1))).length ≤ bl.length + 6 * (i + 1) := by rw [← hnew, List.length_append, leTake_len]; omega
          rw [hnew, wrapI (n := (i : Int) + 1) (by omega) (by omega)]
          refine x_round (i + 1) (⟨by omega, ahead_succ h_n hall hf, hsz2⟩) (by first | omega | (dsimp only; omega)) (by repeat (first | exact SubF.nil | refine SubF.cons rfl ?_)) (by repeat (first | exact SubO.nil | refine SubO.cons rfl ?_)) rfl (Vw.le.refl _)
    ·
      simp only [Bool.and_eq_true, Bool.or_eq_true, Bool.not_eq_true', Bool.or_eq_false_iff, Bool.and_eq_false_iff, decide_eq_true_eq, decide_eq_false_iff_not, beq_iff_eq, bne_iff_ne, Bool.not_eq_false', beq_eq_false_iff_ne, bne_eq_false_iff_eq, ne_eq, Decidable.not_not, Int.not_lt, Int.not_le] at h
      refine c_exit ?_
      refine x_then_exit ?_
      refine x_then_exit ?_
      refine x_block_hit ?_
      refine x_then ?_
      refine c_seq ?_
      refine c_region ?_
      refine o_yield rfl rfl rfl (y_val tok rfl) ?_
      refine o_yield rfl rfl rfl (y_val tok rfl) ?_
      refine o_yield rfl rfl rfl (y_val tok rfl) ?_
      refine o_end [6, 7] rfl ?_
      refine x_then ?_
      refine c_ret ?_
      refine b_ret tok rfl ?_
      have hil : i = ls.length := by omega
      subst hil
      rw [List.take_length]
      intro E w' hm _
      have hok : putOk m ls = true := by
        rw [putOk, hw, Bool.true_and]
        exact all_of_ahead hall
      exact ⟨.inl ⟨hok, E.κ 1, rfl, hm.rowFresh (Vw.le.refl _) (l := 1) rfl⟩, hm.below (Vw.le.refl _)⟩

/-- A number of two bytes put behind a byte: fits. -/
theorem putOk_two {n : Nat} (h : n ≤ 505) : putOk 2 [(n : Int)] = true := by
  have : mostN (2 : Int).toNat = 65535 := by decide
  simp only [putOk, List.all_cons, List.all_nil, Bool.and_true, fitsB, this]
  simp [widthB]
  omega
end Go.Proofs.Ytlcpfhjbhogdiaa
