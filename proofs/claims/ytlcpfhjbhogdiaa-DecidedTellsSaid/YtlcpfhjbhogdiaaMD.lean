import Derived.Test.YtlcpfhjbhogdiaaCrc
/- Numbers' bytes put behind others. -/
set_option linter.unusedVariables false
set_option linter.unusedSimpArgs false
set_option maxRecDepth 100000
namespace Go.Proofs.Ytlcpfhjbhogdiaa
open Go Go.Eng Go.RowKit

/-- A number's bytes, the least first. -/
def leTake (n j : Nat) : List UInt8 := (List.range j).map fun i => UInt8.ofNat (n / pw i % 256)
def leB (k n : Int) : List UInt8 := leTake n.toNat k.toNat

theorem leTake_succ (n j : Nat) : leTake n (j + 1) = leTake n j ++ [UInt8.ofNat (n / pw j % 256)] := by simp [leTake, List.range_succ]
theorem leTake_len (n j : Nat) : (leTake n j).length = j := by simp [leTake]

theorem ofNat_mod (n : Nat) : (UInt8.ofNat (n % 256)).toNat = n % 256 := by
  rw [UInt8.toNat_ofNat']
  omega

def putOk (k : Int) (ls : List Int) : Bool := widthB k && ls.all fun n => fitsB n k
def putL (bl : List UInt8) (k : Int) (ls : List Int) : List UInt8 := bl ++ ls.flatMap (leB k)

theorem flat_snoc (L : List UInt8) (b : UInt8) : L.flatMap encByte ++ [.int .u8 b.toNat] = (L ++ [b]).flatMap encByte := by
  rw [List.flatMap_append]; rfl

/-- What putting comes to. -/
def PutPost (bl : List UInt8) (k : Int) (ls : List Int) (w : World) (e : Ending) (w' : World) : Prop :=
  ((putOk k ls = true ∧ ∃ v, e = .returned (.tuple #[v, I 0]) ∧ w'.ownsRow w.heap.size 5 1 v (putL bl k ls).length ((putL bl k ls).flatMap encByte)) ∨
    (putOk k ls = false ∧ e = .returned (.tuple #[.slice none 0 0, I 2]))) ∧ Below w.heap.size w w'

theorem putOk_no {k : Int} {ls : List Int} {i : Nat} {n : Int} (hn : ls[i]? = some n) (h : fitsB n k = false) : putOk k ls = false := by
  have : (ls.all fun n => fitsB n k) = false := all_no hn h
  rw [putOk, this, Bool.and_false]

theorem refPut_c (V : Vw) (bv : Value) (bl : List UInt8) (k : Int) (lv : Value) (ls : List Int) (w : World) (hV : V.le (vw w)) (hb : SlOf V encByte 1 bv bl) (hl : SlOf V encI64 1 lv ls)
    (hbn : bl.length ≤ 1099511627776) (hln : ls.length ≤ 1099511627776) : Calls Try.prog 124 #[bv, I k, lv] w (PutPost bl k ls w) := by
  have hb' := hb.mono hV
  have hl' := hl.mono hV
  refine enter (E := E0) (O := []) (nl := 0) (V := vw w) [.a (.v bv), .a (.v (I k)), .a (.v lv)] Try.func124 rfl rfl (mem0 E0 0 w) rfl rfl ?_
  refine c_seq ?_
  refine c_region ?_
  refine o_yield rfl rfl rfl (y_val tok rfl) ?_
  refine o_yield rfl rfl rfl (y_val tok rfl) ?_
  refine o_end [0, 1, 2] rfl ?_
  refine x_then ?_
  refine c_seq ?_
  refine c_seq ?_
  refine c_region ?_
  refine o_yield rfl rfl rfl (y_val tok rfl) ?_
  refine o_call (.a (.v _)) rfl rfl fnok156 rfl rfl rfl (fun hg E w1 hm => by exact refMost_c _ _) ?_
  refine o_yield rfl rfl rfl (y_val tok rfl) ?_
  refine o_end [0, 1, 2, 14] rfl ?_
  refine x_then ?_
  refine c_cond rfl (fun h => ?_) (fun h => ?_)
  ·
    simp only [Bool.and_eq_true, Bool.or_eq_true, Bool.not_eq_true', Bool.or_eq_false_iff, Bool.and_eq_false_iff, decide_eq_true_eq, decide_eq_false_iff_not, beq_iff_eq, bne_iff_ne, Bool.not_eq_false', beq_eq_false_iff_ne, bne_eq_false_iff_eq, ne_eq, Decidable.not_not, Int.not_lt, Int.not_le] at h
    refine c_seq ?_
    refine c_region ?_
    refine o_yield rfl rfl rfl (y_val tok rfl) ?_
    refine o_yield rfl rfl rfl (y_val tok rfl) ?_
    refine o_end [6, 7] rfl ?_
    refine x_then ?_
    refine c_ret ?_
    refine x_then_ret ?_
    refine b_ret tok rfl ?_
    have hw : widthB k = false := by
      cases hq : widthB k with
      | false => rfl
      | true => rw [mostI, if_pos hq] at h; omega
    intro E w' hm _
    exact ⟨.inr ⟨by rw [putOk, hw]; rfl, rfl⟩, hm.below (Vw.le.refl _)⟩
  ·
    simp only [Bool.and_eq_true, Bool.or_eq_true, Bool.not_eq_true', Bool.or_eq_false_iff, Bool.and_eq_false_iff, decide_eq_true_eq, decide_eq_false_iff_not, beq_iff_eq, bne_iff_ne, Bool.not_eq_false', beq_eq_false_iff_ne, bne_eq_false_iff_eq, ne_eq, Decidable.not_not, Int.not_lt, Int.not_le] at h
    refine c_skip ?_
    refine x_then ?_
    refine c_seq ?_
    refine c_region ?_
    refine o_yield rfl rfl rfl (y_val tok rfl) ?_
    refine o_end [0, 1, 2, 8] rfl ?_
    refine x_then ?_
    refine c_seq ?_
    refine c_region ?_
    refine o_yield rfl rfl rfl (y_val tok rfl) ?_
    refine o_yield rfl rfl rfl (y_val tok rfl) ?_
    have hw : widthB k = true := by
      cases hq : widthB k with
      | true => rfl
      | false => rw [mostI, if_neg (by simp [hq])] at h; omega
    have hk := hw
    simp only [widthB, Bool.and_eq_true, decide_eq_true_eq] at hk
    obtain ⟨m, rfl⟩ : ∃ m : Nat, k = m := ⟨k.toNat, by omega⟩
    clear h
    refine k_nil 15 5 1 rfl rfl ?_
    refine o_step rfl rfl rfl rfl rfl (s_app tok (bl.flatMap encByte) rfl (fun E w hm => hb'.sl.src hm.get) (fun _ _ _ => bytes_ones _) (by dsimp only; omega)) (fun _ _ => ?_)
    refine o_yield rfl rfl rfl (y_val tok rfl) ?_
    refine o_end [1, 2, 8] rfl ?_
    refine x_then ?_
    refine c_seq ?_
    refine c_seq ?_
    refine c_region ?_
    refine o_yield rfl rfl rfl (y_val tok rfl) ?_
    refine o_end [1, 2, 8, 9] rfl ?_
    refine x_then ?_
    refine c_block ?_
    rw [Nat.zero_add bl.length, List.nil_append]
    have e0 : putL bl m (ls.take 0) = bl := by simp [putL]
    refine c_loopK [1, 2] [1] rfl rfl (σ := Nat) (fun i => [(8, .a (.row 1)), (9, .a (.v (I i)))]) (fun i => [(1, .row 5 1 (putL bl m (ls.take i)).length ((putL bl m (ls.take i)).flatMap encByte))]) (fun i => i ≤ ls.length ∧ (∀ j n, j < i → ls[j]? = some n → fitsB n m = true) ∧ (putL bl m (ls.take i)).length ≤ bl.length + 6 * i) (fun i => ls.length - i) (0) (⟨by omega, by omega, by simp [putL]⟩) (by repeat (first | exact SubF.nil | refine SubF.cons rfl ?_ | refine SubF.cons (by simp only [e0]; first | done | rfl) ?_)) (by repeat (first | exact SubO.nil | refine SubO.cons rfl ?_ | refine SubO.cons (by simp only [e0]; first | done | rfl) ?_)) rfl ?_
    rintro i ⟨hi, hall, hsz⟩
    refine c_seq ?_
    refine c_seq ?_
    refine c_region ?_
    refine o_yield rfl rfl rfl (y_val tok rfl) ?_
    refine o_yield rfl rfl rfl (y_val tok rfl) ?_
    refine o_yield rfl rfl rfl (y_len tok rfl (fun hg => hl'.sl)) ?_
    refine o_yield rfl rfl rfl (y_val tok rfl) ?_
    refine o_end [1, 2, 8, 9, 21] rfl ?_
    refine x_then ?_
    refine c_cond rfl (fun h => ?_) (fun h => ?_)
    ·
      simp only [Bool.and_eq_true, Bool.or_eq_true, Bool.not_eq_true', Bool.or_eq_false_iff, Bool.and_eq_false_iff, decide_eq_true_eq, decide_eq_false_iff_not, beq_iff_eq, bne_iff_ne, Bool.not_eq_false', beq_eq_false_iff_ne, bne_eq_false_iff_eq, ne_eq, Decidable.not_not, Int.not_lt, Int.not_le] at h
      refine c_skip ?_
      refine x_then ?_
      refine c_seq ?_
      refine c_block ?_
      refine c_seq ?_
      refine c_seq ?_
      refine c_region ?_
      refine o_yield rfl rfl rfl (y_val tok rfl) ?_
      refine o_yield rfl rfl rfl (y_val tok rfl) ?_
      obtain ⟨n, h_n⟩ := hl'.at (k := i) (by omega)
      have hlt_n := lt_of_at h_n
      refine o_yield rfl rfl rfl (y_idx tok rfl (fun hg => hl'.sl) (fun hg => ⟨by omega, by omega⟩)) ?_
      refine o_yield rfl rfl rfl (y_lel tok (i) 0 (n) rfl (fun hg => hl') (fun hg => h_n) rfl rfl) ?_
      refine o_yield rfl rfl rfl (y_val tok rfl) ?_
      refine o_call (.a (.v _)) rfl rfl fnok157 rfl rfl rfl (fun hg E w1 hm => by exact refFits_c _ _ _) ?_
      refine o_yield rfl rfl rfl (y_val tok rfl) ?_
      refine o_end [1, 2, 8, 9, 30] rfl ?_
      refine x_then ?_
      refine c_cond rfl (fun h => ?_) (fun h => ?_)
      ·
        simp only [Bool.and_eq_true, Bool.or_eq_true, Bool.not_eq_true', Bool.or_eq_false_iff, Bool.and_eq_false_iff, decide_eq_true_eq, decide_eq_false_iff_not, beq_iff_eq, bne_iff_ne, Bool.not_eq_false', beq_eq_false_iff_ne, bne_eq_false_iff_eq, ne_eq, Decidable.not_not, Int.not_lt, Int.not_le] at h
        refine c_seq ?_
        refine c_region ?_
        refine o_yield rfl rfl rfl (y_val tok rfl) ?_
        refine o_yield rfl rfl rfl (y_val tok rfl) ?_
        refine o_end [6, 7] rfl ?_
        refine x_then ?_
        refine c_ret ?_
        refine x_then_ret ?_
        refine x_block_ret ?_
        refine x_then_ret ?_
        refine x_then_ret ?_
        refine x_block_ret ?_
        refine x_then_ret ?_
        refine b_ret tok rfl ?_
        intro E w' hm _
        exact ⟨.inr ⟨putOk_no h_n h, rfl⟩, hm.below (Vw.le.refl _)⟩
      ·
        simp only [Bool.and_eq_true, Bool.or_eq_true, Bool.not_eq_true', Bool.or_eq_false_iff, Bool.and_eq_false_iff, decide_eq_true_eq, decide_eq_false_iff_not, beq_iff_eq, bne_iff_ne, Bool.not_eq_false', beq_eq_false_iff_ne, bne_eq_false_iff_eq, ne_eq, Decidable.not_not, Int.not_lt, Int.not_le] at h
        refine c_skip ?_
        refine x_then ?_
        refine c_seq ?_
        refine c_region ?_
        refine o_yield rfl rfl rfl (y_val tok rfl) ?_
        refine o_yield rfl rfl rfl (y_val tok rfl) ?_
        have hf := h
        clear h
        have hf' := hf
        simp only [fitsB, Bool.and_eq_true, decide_eq_true_eq] at hf'
        obtain ⟨⟨_, hn0⟩, hn1⟩ := hf'
        obtain ⟨q, rfl⟩ : ∃ q : Nat, n = q := ⟨n.toNat, by omega⟩
        have hq : q ≤ 1099511627776 := by unfold mostN at hn1; omega
        have hlt__q___Int_ := lt_of_at h_n
        refine o_yield rfl rfl rfl (y_idx tok rfl (fun hg => hl'.sl) (fun hg => ⟨by omega, by omega⟩)) ?_
        refine o_yield rfl rfl rfl (y_lel tok (i) 0 ((q : Int)) rfl (fun hg => hl') (fun hg => h_n) rfl rfl) ?_
        refine o_yield rfl rfl rfl (y_val tok rfl) ?_
        refine o_end [1, 2, 8, 9, 10] rfl ?_
        refine x_then ?_
        refine c_seq ?_
        refine c_region ?_
        refine o_yield rfl rfl rfl (y_val tok rfl) ?_
        refine o_end [1, 2, 8, 9, 10, 11] rfl ?_
        refine x_then ?_
        refine c_block ?_
        have ep : q / pw 0 = q := by simp [pw]
        have el : leTake q 0 = [] := rfl
        refine c_loopK [1, 2, 9] [1] rfl rfl (σ := Nat) (fun j => [(8, .a (.row 1)), (10, .a (.v (I (q / pw j : Nat)))), (11, .a (.v (I j)))]) (fun j => [(1, .row 5 1 (putL bl m (ls.take i) ++ leTake q j).length ((putL bl m (ls.take i) ++ leTake q j).flatMap encByte))]) (fun j => j ≤ m) (fun j => m - j) (0) (by omega) (by repeat (first | exact SubF.nil | refine SubF.cons rfl ?_ | refine SubF.cons (by simp only [ep, el, List.append_nil]; first | done | rfl) ?_)) (by repeat (first | exact SubO.nil | refine SubO.cons rfl ?_ | refine SubO.cons (by simp only [ep, el, List.append_nil]; first | done | rfl) ?_)) rfl ?_
        rintro j hj
        refine c_seq ?_
        refine c_seq ?_
        refine c_region ?_
        refine o_yield rfl rfl rfl (y_val tok rfl) ?_
        refine o_yield rfl rfl rfl (y_val tok rfl) ?_
        refine o_yield rfl rfl rfl (y_val tok rfl) ?_
        refine o_end [1, 2, 8, 9, 10, 11, 37] rfl ?_
        refine x_then ?_
        refine c_cond rfl (fun h => ?_) (fun h => ?_)
        ·
          simp only [Bool.and_eq_true, Bool.or_eq_true, Bool.not_eq_true', Bool.or_eq_false_iff, Bool.and_eq_false_iff, decide_eq_true_eq, decide_eq_false_iff_not, beq_iff_eq, bne_iff_ne, Bool.not_eq_false', beq_eq_false_iff_ne, bne_eq_false_iff_eq, ne_eq, Decidable.not_not, Int.not_lt, Int.not_le] at h
          refine c_skip ?_
          refine x_then ?_
          refine c_seq ?_
          refine c_block ?_
          refine c_seq ?_
          refine c_region ?_
          refine o_yield rfl rfl rfl (y_val tok rfl) ?_
          refine o_yield rfl rfl rfl (y_val tok rfl) ?_
          have hqj : q / pw j ≤ q := Nat.div_le_self _ _
          have hnx : q / pw (j + 1) = q / pw j / 256 := by rw [pw_succ, Nat.div_div_eq_div_mul]
          have hlt := leTake_succ q j
          obtain ⟨r, hr⟩ : ∃ r, q / pw j = r := ⟨_, rfl⟩
          rw [hr] at hqj hlt hnx ⊢
          refine o_yield rfl rfl rfl (y_rem rfl (fun hg => by decide)) ?_
          refine o_yield rfl rfl rfl (y_val tok rfl) ?_
          rw [Int.tmod_eq_emod_of_nonneg (by omega), show (r : Int) % 256 = ((r % 256 : Nat) : Int) by omega, wrapU8 (n := r % 256) (by omega), ← ofNat_mod]
          refine o_step rfl rfl rfl rfl rfl (s_bs tok 1 rfl rfl rfl) (fun _ _ => ?_)
          refine o_step rfl rfl rfl rfl rfl (s_app tok [.int .u8 (UInt8.ofNat (r % 256)).toNat] rfl (fun E w hm => ownsRow_src (hm.row 2 _ _ _ _ rfl)) (fun _ _ _ => bytes_ones [_]) (by dsimp only; simp only [List.length_append, leTake_len]; omega)) (fun _ _ => ?_)
          refine o_yield rfl rfl rfl (y_val tok rfl) ?_
          refine o_end [1, 2, 8, 9, 10, 11] rfl ?_
          refine x_then ?_
          refine c_region ?_
          refine o_yield rfl rfl rfl (y_val tok rfl) ?_
          rw [flat_snoc, List.append_assoc, ← hlt, show (putL bl m (ls.take i) ++ leTake q j).length + 1 = (putL bl m (ls.take i) ++ leTake q (j + 1)).length by simp only [List.length_append, leTake_len]; omega]
          refine k_swap 1 3 rfl ?_
          refine o_yield rfl rfl rfl (y_quo rfl (fun hg => by decide)) ?_
          refine o_yield rfl rfl rfl (y_val tok rfl) ?_
          refine o_end [1, 2, 8, 9, 10, 11] rfl ?_
          refine x_block ?_
          refine x_then ?_
          refine c_region ?_
          refine o_yield rfl rfl rfl (y_val tok rfl) ?_
          refine o_yield rfl rfl rfl (y_val tok rfl) ?_
          refine o_yield rfl rfl rfl (y_val tok rfl) ?_
          refine o_end [1, 2, 8, 9, 10, 11] rfl ?_
          refine x_then ?_
          rw [Int.tdiv_eq_ediv_of_nonneg (by omega), show (r : Int) / 256 = ((r / 256 : Nat) : Int) by omega, wrapI (n := ((r / 256 : Nat) : Int)) (by omega) (by omega), ← hnx, wrapI (n := (j : Int) + 1) (by omega) (by omega)]
          refine x_round (j + 1) (by omega) (by first | omega | (dsimp only; omega)) (by repeat (first | exact SubF.nil | refine SubF.cons rfl ?_)) (by repeat (first | exact SubO.nil | refine SubO.cons rfl ?_)) rfl (Vw.le.refl _)
        ·
          simp only [Bool.and_eq_true, Bool.or_eq_true, Bool.not_eq_true', Bool.or_eq_false_iff, Bool.and_eq_false_iff, decide_eq_true_eq, decide_eq_false_iff_not, beq_iff_eq, bne_iff_ne, Bool.not_eq_false', beq_eq_false_iff_ne, bne_eq_false_iff_eq, ne_eq, Decidable.not_not, Int.not_lt, Int.not_le] at h
          refine c_exit ?_
          refine x_then_exit ?_
          refine x_then_exit ?_
          refine x_block_hit ?_
          refine x_block ?_
          refine x_then ?_
          refine c_region ?_
          refine o_yield rfl rfl rfl (y_val tok rfl) ?_
          refine o_yield rfl rfl rfl (y_val tok rfl) ?_
          refine o_yield rfl rfl rfl (y_val tok rfl) ?_
          refine o_end [1, 2, 8, 9] rfl ?_
          refine x_then ?_
          have hjm : j = m := by omega
          subst hjm
          have hnew : putL bl j (ls.take i) ++ leTake q j = putL bl j (ls.take (i + 1)) := by
            rw [take_succ_at h_n, putL, putL, List.flatMap_append, List.append_assoc]
            simp [leB]
          have hsz2 : (putL bl j (ls.take (i + 1))).length ≤ bl.length + 6 * (i + 1) := by rw [← hnew, List.length_append, leTake_len]; omega
          rw [hnew, wrapI (n := (i : Int) + 1) (by omega) (by omega)]
          refine x_round (i + 1) (⟨by omega, ahead_succ h_n hall hf, hsz2⟩) (by first | omega | (dsimp only; omega)) (by repeat (first | exact SubF.nil | refine SubF.cons rfl ?_)) (by repeat (first | exact SubO.nil | refine SubO.cons rfl ?_)) rfl (Vw.le.refl _)
    ·
      simp only [Bool.and_eq_true, Bool.or_eq_true, Bool.not_eq_true', Bool.or_eq_false_iff, Bool.and_eq_false_iff, decide_eq_true_eq, decide_eq_false_iff_not, beq_iff_eq, bne_iff_ne, Bool.not_eq_false', beq_eq_false_iff_ne, bne_eq_false_iff_eq, ne_eq, Decidable.not_not, Int.not_lt, Int.not_le] at h
      refine c_exit ?_
      refine x_then_exit ?_
      refine x_then_exit ?_
      refine x_block_hit ?_
      refine x_then ?_
      refine c_seq ?_
      refine c_region ?_
      refine o_yield rfl rfl rfl (y_val tok rfl) ?_
      refine o_yield rfl rfl rfl (y_val tok rfl) ?_
      refine o_yield rfl rfl rfl (y_val tok rfl) ?_
      refine o_end [6, 7] rfl ?_
      refine x_then ?_
      refine c_ret ?_
      refine b_ret tok rfl ?_
      have hil : i = ls.length := by omega
      subst hil
      rw [List.take_length]
      intro E w' hm _
      have hok : putOk m ls = true := by
        rw [putOk, hw, Bool.true_and]
        exact all_of_ahead hall
      exact ⟨.inl ⟨hok, E.κ 1, rfl, hm.rowFresh (Vw.le.refl _) (l := 1) rfl⟩, hm.below (Vw.le.refl _)⟩

/-- A number of two bytes put behind a byte: fits. -/
theorem putOk_two {n : Nat} (h : n ≤ 505) : putOk 2 [(n : Int)] = true := by
  have : mostN (2 : Int).toNat = 65535 := by decide
  simp only [putOk, List.all_cons, List.all_nil, Bool.and_true, fitsB, this]
  simp [widthB]
  omega
end Go.Proofs.Ytlcpfhjbhogdiaa

/- Sectors that are sealed: the document's. -/
set_option linter.unusedVariables false
set_option linter.unusedSimpArgs false
set_option maxRecDepth 100000
namespace Go.Proofs.Ytlcpfhjbhogdiaa
open Go Go.Eng Go.RowKit

def body (k : UInt8) (load : List UInt8) : List UInt8 := putL [k] 2 [(load.length : Int)] ++ load
def sealL (k : UInt8) (load : List UInt8) : List UInt8 := body k load ++ leTake (crcOf (body k load)) 4

theorem body_eq (k : UInt8) (load : List UInt8) : body k load = k :: UInt8.ofNat (load.length / pw 0 % 256) :: UInt8.ofNat (load.length / pw 1 % 256) :: load := by
  simp [body, putL, leB, leTake, List.range_succ]

theorem body_len (k : UInt8) (load : List UInt8) : (body k load).length = 3 + load.length := by rw [body_eq]; simp; omega
theorem sealL_len (k : UInt8) (load : List UInt8) : (sealL k load).length = 7 + load.length := by rw [sealL, List.length_append, body_len, leTake_len]; omega

def kindOf8 (kind : Int) : UInt8 := UInt8.ofNat kind.toNat

/-- Sealing: the sector, or why there is none. -/
def sealS (kind : Int) (s : ByteArray) : ByteArray × Int :=
  if kind < 1 ∨ 505 < s.size then (ByteArray.empty, 2) else (strOf (sealL (kindOf8 kind) s.data.toList), 0)

theorem str_beq (a b : ByteArray) : (a.toList == b.toList) = decide (a.data.toList = b.data.toList) := by
  rw [ByteArray.toList_eq, ByteArray.toList_eq]
  rw [Bool.eq_iff_iff, beq_iff_eq, decide_eq_true_eq]

theorem str_ext {a b : ByteArray} (h : a.data.toList = b.data.toList) : a = b := by
  apply ByteArray.ext
  apply Array.ext'
  exact h

theorem size_list (s : ByteArray) : s.data.toList.length = s.size := by rw [Array.length_toList]; rfl

section
variable {o : Oper} {n : Nat} {F : Frame0} {C : List Nat} {O : Own} {nl : Nat} {V : Vw}

/-- Putting what fits. -/
theorem s_refPut {p : List (Nat × Bool)} (bl : List UInt8) (k : Int) (ls : List Int) {ss : List SV} (hv : evalC F p o.op = some (124, ss)) (hok : putOk k ls = true)
    (hbn : bl.length ≤ 1099511627776) (hln : ls.length ≤ 1099511627776)
    (hargs : ∀ E w, Mem E O nl V w → ∃ bv lv, ss.map (SV.den E) = [bv, I k, lv] ∧ SlOf (vw w) encByte 1 bv bl ∧ SlOf (vw w) encI64 1 lv ls) :
    StepTo Try.prog o p n F C O nl V (σ := Unit) (fun _ => True) (fun _ => .tup [.row nl, .v (I 0)]) (fun _ => (nl, .row 5 1 (putL bl k ls).length ((putL bl k ls).flatMap encByte)) :: O) (nl + 1) (fun _ => V) := by
  refine s_callR (fun _ => True) (fun _ => .tup [.row nl, .v (I 0)]) 5 1 (fun _ => (putL bl k ls).length) (fun _ => (putL bl k ls).flatMap encByte) hv fnok124 (fun _ => by simp [SV.ok, allOk, A.ok, blt_iff]) ?_
  intro E w hm
  obtain ⟨bv, lv, ha, hb, hl⟩ := hargs E w hm
  rw [ha]
  refine (refPut_c (vw w) bv bl k lv ls w (Vw.le.refl _) hb hl hbn hln).mono ?_
  rintro e w' ⟨⟨_, v, rfl, hown⟩ | ⟨hno, _⟩, hbl⟩
  · exact ⟨(), v, by simp [SV.den, A.den, Env.setκ], hown, hbl, trivial⟩
  · rw [hok] at hno; cases hno
end

theorem byteOf {c j : Nat} {d : Int} (hd : d = ((c / pw j : Nat) : Int)) : IntKind.u8.wrap d = (((UInt8.ofNat (c / pw j % 256)).toNat : Nat) : Int) := by
  subst hd
  obtain ⟨r, hr⟩ : ∃ r, c / pw j = r := ⟨_, rfl⟩
  rw [hr, IntKind.wrap_u8', ofNat_mod]
  omega

theorem refSeal_c (kind : Int) (hk : R8 kind) (s : ByteArray) (hs : s.size ≤ maxLen) (w : World) :
    Calls Try.prog 95 #[I8 kind, S s] w fun e w' => e = .returned (.tuple #[S (sealS kind s).1, I (sealS kind s).2]) ∧ Below w.heap.size w w' := by
  unfold R8 at hk
  simp only [maxLen] at hs
  refine enter (E := E0) (O := []) (nl := 0) (V := vw w) [.a (.v (I8 kind)), .a (.v (S s))] Try.func95 rfl rfl (mem0 E0 0 w) rfl rfl ?_
  refine c_seq ?_
  refine c_region ?_
  refine o_yield rfl rfl rfl (y_val tok rfl) ?_
  refine o_yield rfl rfl rfl (y_val tok rfl) ?_
  refine o_end [0, 1] rfl ?_
  refine x_then ?_
  refine c_seq ?_
  refine c_seq ?_
  refine c_region ?_
  refine o_yield rfl rfl rfl (y_val tok rfl) ?_
  refine o_yield rfl rfl rfl (y_val tok rfl) ?_
  refine o_yield rfl rfl rfl (y_val tok rfl) ?_
  refine o_yield rfl rfl rfl (y_val tok rfl) ?_
  refine o_yield rfl rfl rfl (y_val tok rfl) ?_
  refine o_yield rfl rfl rfl (y_val tok rfl) ?_
  refine o_yield rfl rfl rfl (y_val tok rfl) ?_
  refine o_end [0, 1, 15] rfl ?_
  refine x_then ?_
  refine c_cond rfl (fun h => ?_) (fun h => ?_)
  ·
    simp only [Bool.and_eq_true, Bool.or_eq_true, Bool.not_eq_true', Bool.or_eq_false_iff, Bool.and_eq_false_iff, decide_eq_true_eq, decide_eq_false_iff_not, beq_iff_eq, bne_iff_ne, Bool.not_eq_false', beq_eq_false_iff_ne, bne_eq_false_iff_eq, ne_eq, Decidable.not_not, Int.not_lt, Int.not_le] at h
    refine c_seq ?_
    refine c_region ?_
    refine o_yield rfl rfl rfl (y_val tok rfl) ?_
    refine o_yield rfl rfl rfl (y_val tok rfl) ?_
    refine o_end [4, 5] rfl ?_
    refine x_then ?_
    refine c_ret ?_
    refine x_then_ret ?_
    refine b_ret tok rfl ?_
    intro E w' hm _
    refine ⟨?_, hm.below (Vw.le.refl _)⟩
    rw [sealS, if_pos (by omega)]
    rfl
  ·
    simp only [Bool.and_eq_true, Bool.or_eq_true, Bool.not_eq_true', Bool.or_eq_false_iff, Bool.and_eq_false_iff, decide_eq_true_eq, decide_eq_false_iff_not, beq_iff_eq, bne_iff_ne, Bool.not_eq_false', beq_eq_false_iff_ne, bne_eq_false_iff_eq, ne_eq, Decidable.not_not, Int.not_lt, Int.not_le] at h
    refine c_skip ?_
    refine x_then ?_
    refine c_seq ?_
    refine c_region ?_
    refine o_yield rfl rfl rfl (y_val tok rfl) ?_
    refine o_yield rfl rfl rfl (y_val tok rfl) ?_
    obtain ⟨h1, h2⟩ := h
    have hsz := size_list s
    have hk8 : (kindOf8 kind).toNat = kind.toNat := by
      rw [kindOf8, UInt8.toNat_ofNat']; omega
    rw [show IntKind.u8.wrap kind = (((kindOf8 kind).toNat : Nat) : Int) by rw [hk8, IntKind.wrap_u8']; omega]
    refine o_step rfl rfl rfl rfl rfl (s_bs tok 1 rfl rfl rfl) (fun _ _ => ?_)
    refine o_yield rfl rfl rfl (y_val tok rfl) ?_
    refine o_yield rfl rfl rfl (y_val tok rfl) ?_
    refine o_step rfl rfl rfl rfl rfl (s_bs tok 1 rfl rfl rfl) (fun _ _ => ?_)
    refine o_step rfl rfl rfl rfl rfl (s_refPut [kindOf8 kind] 2 [(s.size : Int)] rfl (putOk_two (by omega)) (by simp) (by simp) (fun E w hm => ⟨_, _, rfl, hm.rowOf (enc := encByte) (L := [kindOf8 kind]) 0 rfl (fun _ => rfl), hm.rowOf (enc := encI64) (L := [(s.size : Int)]) 1 rfl (fun _ => rfl)⟩)) (fun _ _ => ?_)
    refine o_yield rfl rfl rfl (y_val tok rfl) ?_
    refine o_yield rfl rfl rfl (y_val tok rfl) ?_
    refine o_yield rfl rfl rfl (y_val tok rfl) ?_
    refine o_yield rfl rfl rfl (y_val tok rfl) ?_
    refine o_yield rfl rfl rfl (y_val tok rfl) ?_
    refine o_end [1, 6] rfl ?_
    refine x_then ?_
    refine c_seq ?_
    refine c_region ?_
    refine o_yield rfl rfl rfl (y_val tok rfl) ?_
    refine o_yield rfl rfl rfl (y_val tok rfl) ?_
    have hb3 : (putL [kindOf8 kind] 2 [(s.size : Int)]).length = 3 := by simp [putL, leB, leTake_len]
    refine o_step rfl rfl rfl rfl rfl (s_app tok (byteVs s) rfl (fun _ _ _ => Src.str s) (fun _ _ _ => by rw [byteVs_eq]; exact bytes_ones _) (by dsimp only; rw [hb3]; omega)) (fun _ _ => ?_)
    refine o_yield rfl rfl rfl (y_val tok rfl) ?_
    refine o_end [6] rfl ?_
    refine x_then ?_
    refine c_seq ?_
    refine c_region ?_
    refine o_yield rfl rfl rfl (y_val tok rfl) ?_
    rw [byteVs_eq, ← List.flatMap_append, ← hsz, ← List.length_append, show putL [kindOf8 kind] 2 [(s.data.toList.length : Int)] ++ s.data.toList = body (kindOf8 kind) s.data.toList from rfl]
    have hbl := body_len (kindOf8 kind) s.data.toList
    obtain ⟨B, hB⟩ : ∃ B, body (kindOf8 kind) s.data.toList = B := ⟨_, rfl⟩
    rw [hB] at hbl ⊢
    refine o_call (.a (.v _)) rfl rfl fnok143 rfl rfl rfl (fun hg E w1 hm => by exact refSum_c _ _ B _ (Vw.le.refl _) (hm.rowOf 3 rfl (fun _ => rfl)) (by simp only [maxLen]; omega)) ?_
    refine o_yield rfl rfl rfl (y_val tok rfl) ?_
    refine o_end [6, 8] rfl ?_
    refine x_then ?_
    refine c_seq ?_
    refine c_region ?_
    refine o_yield rfl rfl rfl (y_val tok rfl) ?_
    refine o_yield rfl rfl rfl (y_val tok rfl) ?_
    refine o_yield rfl rfl rfl (y_val tok rfl) ?_
    refine o_yield rfl rfl rfl (y_val tok rfl) ?_
    have hc := crcOf_lt B
    have hsh : ∀ (j : Nat) (e : Int), e.toNat = 8 * j → ((crcOf B : Nat) : Int) / 2 ^ e.toNat = ((crcOf B / pw j : Nat) : Int) := fun j e he => by
      rw [he, pw_two]
      norm_cast
    refine o_yield rfl rfl rfl (y_shr rfl (fun hg => ⟨by decide, by decide⟩)) ?_
    refine o_yield rfl rfl rfl (y_val tok rfl) ?_
    refine o_yield rfl rfl rfl (y_val tok rfl) ?_
    refine o_yield rfl rfl rfl (y_shr rfl (fun hg => ⟨by decide, by decide⟩)) ?_
    refine o_yield rfl rfl rfl (y_val tok rfl) ?_
    refine o_yield rfl rfl rfl (y_val tok rfl) ?_
    refine o_yield rfl rfl rfl (y_shr rfl (fun hg => ⟨by decide, by decide⟩)) ?_
    refine o_yield rfl rfl rfl (y_val tok rfl) ?_
    rw [byteOf (d := ((crcOf B : Nat) : Int)) (c := crcOf B) (j := 0) (by simp [pw]), byteOf (c := crcOf B) (j := 1) (hsh 1 8 rfl), byteOf (c := crcOf B) (j := 2) (hsh 2 16 rfl), byteOf (c := crcOf B) (j := 3) (hsh 3 24 rfl)]
    refine o_step rfl rfl rfl rfl rfl (s_bs tok 1 rfl rfl rfl) (fun _ _ => ?_)
    refine o_step rfl rfl rfl rfl rfl (s_app tok ((leTake (crcOf B) 4).flatMap encByte) rfl (fun E w hm => ownsRow_src (hm.row 4 _ _ _ _ rfl)) (fun _ _ _ => bytes_ones _) (by dsimp only; omega)) (fun _ _ => ?_)
    rw [← List.flatMap_append]
    refine o_yield rfl rfl rfl (y_own (s := .a (.v (.string (strOf (B ++ leTake (crcOf B) 4))))) 5 rfl rfl (fun v V' hs => y_b2s tok _ rfl (fun hg => by rw [List.length_append, leTake_len]; exact hs))) ?_
    refine o_yield rfl rfl rfl (y_val tok rfl) ?_
    refine o_yield rfl rfl rfl (y_val tok rfl) ?_
    refine o_end [4, 5] rfl ?_
    refine x_then ?_
    refine c_ret ?_
    refine b_ret tok rfl ?_
    intro E w' hm _
    refine ⟨?_, hm.below (Vw.le.refl _)⟩
    rw [sealS, if_neg (by omega), sealL, hB]
    rfl

/-- What was sealed. -/
def loadOf (s : ByteArray) : ByteArray := s.extract 3 (s.size - 4)

/-- Whether a sector is sealed. -/
def openB (s : ByteArray) : Bool := decide (7 ≤ s.size) && decide (s.size ≤ 512) && decide (1 ≤ (byteAt s 0).toNat) && decide ((byteAt s 0).toNat ≤ 127) && decide (sealL (byteAt s 0) (loadOf s).data.toList = s.data.toList)

def openK (s : ByteArray) : Int := if openB s = true then ((byteAt s 0).toNat : Int) else 0
def openL (s : ByteArray) : ByteArray := if openB s = true then loadOf s else ByteArray.empty
def openE (s : ByteArray) : Int := if openB s = true then 0 else 30

theorem refOpen_c (s : ByteArray) (hs : s.size ≤ maxLen) (w : World) :
    Calls Try.prog 144 #[S s] w fun e w' => e = .returned (.tuple #[I8 (openK s), S (openL s), I (openE s)]) ∧ Below w.heap.size w w' := by
  simp only [maxLen] at hs
  refine enter (E := E0) (O := []) (nl := 0) (V := vw w) [.a (.v (S s))] Try.func144 rfl rfl (mem0 E0 0 w) rfl rfl ?_
  refine c_seq ?_
  refine c_region ?_
  refine o_yield rfl rfl rfl (y_val tok rfl) ?_
  refine o_yield rfl rfl rfl (y_val tok rfl) ?_
  refine o_yield rfl rfl rfl (y_val tok rfl) ?_
  refine o_end [0] rfl ?_
  refine x_then ?_
  refine c_seq ?_
  refine c_seq ?_
  refine c_region ?_
  refine o_yield rfl rfl rfl (y_val tok rfl) ?_
  refine o_yield rfl rfl rfl (y_val tok rfl) ?_
  refine o_yield rfl rfl rfl (y_val tok rfl) ?_
  refine o_yield rfl rfl rfl (y_val tok rfl) ?_
  refine o_yield rfl rfl rfl (y_val tok rfl) ?_
  refine o_yield rfl rfl rfl (y_val tok rfl) ?_
  refine o_yield rfl rfl rfl (y_val tok rfl) ?_
  refine o_yield rfl rfl rfl (y_val tok rfl) ?_
  refine o_yield rfl rfl rfl (y_val tok rfl) ?_
  refine o_yield rfl rfl rfl (y_val tok rfl) ?_
  refine o_yield rfl rfl rfl (y_si tok rfl (fun hg => by simp at hg; omega)) ?_
  refine o_yield rfl rfl rfl (y_val tok rfl) ?_
  refine o_yield rfl rfl rfl (y_val tok rfl) ?_
  refine o_yield rfl rfl rfl (y_val tok rfl) ?_
  refine o_yield rfl rfl rfl (y_val tok rfl) ?_
  refine o_yield rfl rfl rfl (y_si tok rfl (fun hg => by simp at hg; omega)) ?_
  refine o_yield rfl rfl rfl (y_val tok rfl) ?_
  refine o_yield rfl rfl rfl (y_val tok rfl) ?_
  refine o_end [0, 26] rfl ?_
  refine x_then ?_
  refine c_cond rfl (fun h => ?_) (fun h => ?_)
  ·
    simp only [Bool.and_eq_true, Bool.or_eq_true, Bool.not_eq_true', Bool.or_eq_false_iff, Bool.and_eq_false_iff, decide_eq_true_eq, decide_eq_false_iff_not, beq_iff_eq, bne_iff_ne, Bool.not_eq_false', beq_eq_false_iff_ne, bne_eq_false_iff_eq, ne_eq, Decidable.not_not, Int.not_lt, Int.not_le] at h
    refine c_seq ?_
    refine c_region ?_
    refine o_yield rfl rfl rfl (y_val tok rfl) ?_
    refine o_yield rfl rfl rfl (y_val tok rfl) ?_
    refine o_yield rfl rfl rfl (y_val tok rfl) ?_
    refine o_end [2, 3, 4] rfl ?_
    refine x_then ?_
    refine c_ret ?_
    refine x_then_ret ?_
    refine b_ret tok rfl ?_
    intro E w' hm _
    refine ⟨?_, hm.below (Vw.le.refl _)⟩
    have hno : openB s = false := by
      rw [Bool.eq_false_iff]
      intro hc
      simp only [openB, Bool.and_eq_true, decide_eq_true_eq] at hc
      have hb : (byteAt s (0 : Int).toNat).toNat = (byteAt s 0).toNat := rfl
      omega
    rw [openK, openL, openE, hno]
    rfl
  ·
    simp only [Bool.and_eq_true, Bool.or_eq_true, Bool.not_eq_true', Bool.or_eq_false_iff, Bool.and_eq_false_iff, decide_eq_true_eq, decide_eq_false_iff_not, beq_iff_eq, bne_iff_ne, Bool.not_eq_false', beq_eq_false_iff_ne, bne_eq_false_iff_eq, ne_eq, Decidable.not_not, Int.not_lt, Int.not_le] at h
    refine c_skip ?_
    refine x_then ?_
    refine c_seq ?_
    refine c_draw mixed (by kernel_rfl) ?_
    refine d_yield rfl rfl rfl (y_val tok rfl) rfl ?_
    obtain ⟨⟨⟨h1, h2⟩, h3⟩, h4⟩ := h
    have hb : (byteAt s (0 : Int).toNat).toNat = (byteAt s 0).toNat := rfl
    rw [hb] at h3 h4
    refine d_yield rfl rfl rfl (y_si tok rfl (fun hg => by omega)) rfl ?_
    refine d_yield rfl rfl rfl (y_val tok rfl) rfl ?_
    refine d_yield rfl rfl rfl (y_val tok rfl) rfl ?_
    refine d_yield rfl rfl rfl (y_val tok rfl) rfl ?_
    refine d_yield rfl rfl rfl (y_val tok rfl) rfl ?_
    refine d_yield rfl rfl rfl (y_val tok rfl) rfl ?_
    rw [hb, show IntKind.i8.wrap (((byteAt s 0).toNat : Nat) : Int) = (((byteAt s 0).toNat : Nat) : Int) by simp [IntKind.wrap, IntKind.bits, IntKind.signed]; omega, wrapI (n := (s.size : Int) - 4) (by omega) (by omega)]
    refine d_yield rfl rfl rfl (y_ss tok rfl (fun hg => by simp only [Option.getD]; omega)) rfl ?_
    refine d_yield rfl rfl rfl (y_val tok rfl) rfl ?_
    refine d_yield rfl rfl rfl (y_val tok rfl) rfl ?_
    refine d_end [0, 5, 6] rfl ?_
    refine x_then ?_
    refine c_seq ?_
    refine c_region ?_
    refine o_yield rfl rfl rfl (y_val tok rfl) ?_
    refine o_yield rfl rfl rfl (y_val tok rfl) ?_
    rw [show s.extract ((some (3 : Int)).getD 0).toNat ((some ((s.size : Int) - 4)).getD (s.size : Int)).toNat = loadOf s by simp only [Option.getD, loadOf]; congr 1; omega]
    have hls : (loadOf s).size = s.size - 7 := by rw [loadOf, ByteArray.size_extract]; omega
    have hse : sealS (((byteAt s 0).toNat : Nat) : Int) (loadOf s) = (strOf (sealL (byteAt s 0) (loadOf s).data.toList), 0) := by
      rw [sealS, if_neg (by omega)]
      simp [kindOf8]
    have hop : openB s = decide (sealL (byteAt s 0) (loadOf s).data.toList = s.data.toList) := by
      rw [openB, decide_eq_true (show 7 ≤ s.size by omega), decide_eq_true (show s.size ≤ 512 by omega), decide_eq_true (show 1 ≤ (byteAt s 0).toNat by omega), decide_eq_true (show (byteAt s 0).toNat ≤ 127 by omega)]
      rfl
    refine o_call (.a (.v _)) rfl rfl fnok95 rfl rfl rfl (fun hg E w1 hm => by exact refSeal_c _ (by unfold R8; omega) (loadOf s) (by rw [hls]; simp only [maxLen]; omega) _) ?_
    refine o_yield rfl rfl rfl (y_val tok rfl) ?_
    refine o_yield rfl rfl rfl (y_val tok rfl) ?_
    refine o_yield rfl rfl rfl (y_val tok rfl) ?_
    refine o_yield rfl rfl rfl (y_val tok rfl) ?_
    refine o_yield rfl rfl rfl (y_val tok rfl) ?_
    refine o_end [0, 5, 6, 7, 8] rfl ?_
    refine x_then ?_
    refine c_seq ?_
    refine c_seq ?_
    refine c_region ?_
    refine o_yield rfl rfl rfl (y_val tok rfl) ?_
    refine o_yield rfl rfl rfl (y_val tok rfl) ?_
    refine o_yield rfl rfl rfl (y_val tok rfl) ?_
    refine o_yield rfl rfl rfl (y_val tok rfl) ?_
    refine o_yield rfl rfl rfl (y_val tok rfl) ?_
    refine o_yield rfl rfl rfl (y_val tok rfl) ?_
    refine o_yield rfl rfl rfl (y_val tok rfl) ?_
    refine o_end [5, 6, 47] rfl ?_
    refine x_then ?_
    refine c_cond rfl (fun h => ?_) (fun h => ?_)
    ·
      refine c_seq ?_
      refine c_region ?_
      refine o_yield rfl rfl rfl (y_val tok rfl) ?_
      refine o_yield rfl rfl rfl (y_val tok rfl) ?_
      refine o_yield rfl rfl rfl (y_val tok rfl) ?_
      refine o_end [2, 3, 4] rfl ?_
      refine x_then ?_
      refine c_ret ?_
      refine x_then_ret ?_
      refine b_ret tok rfl ?_
      rw [hse, str_beq, strOf_list] at h
      simp at h
      intro E w' hm _
      refine ⟨?_, hm.below (Vw.le.refl _)⟩
      rw [openK, openL, openE, if_neg (by simp [hop, h]), if_neg (by simp [hop, h]), if_neg (by simp [hop, h])]
      rfl
    ·
      refine c_skip ?_
      refine x_then ?_
      refine c_seq ?_
      refine c_region ?_
      refine o_yield rfl rfl rfl (y_val tok rfl) ?_
      refine o_yield rfl rfl rfl (y_val tok rfl) ?_
      refine o_yield rfl rfl rfl (y_val tok rfl) ?_
      refine o_yield rfl rfl rfl (y_val tok rfl) ?_
      refine o_yield rfl rfl rfl (y_val tok rfl) ?_
      refine o_end [2, 3, 4] rfl ?_
      refine x_then ?_
      refine c_ret ?_
      refine b_ret tok rfl ?_
      rw [hse, str_beq, strOf_list] at h
      simp at h
      intro E w' hm _
      refine ⟨?_, hm.below (Vw.le.refl _)⟩
      rw [openK, openL, openE, if_pos (by simp [hop, h]), if_pos (by simp [hop, h]), if_pos (by simp [hop, h])]
      rfl

/-- The load of a sector of a kind. -/
def ofB (kind : Int) (s : ByteArray) : Bool := openB s && decide (((byteAt s 0).toNat : Int) = kind)
def ofL (kind : Int) (s : ByteArray) : ByteArray := if ofB kind s = true then loadOf s else ByteArray.empty
def ofE (kind : Int) (s : ByteArray) : Int := if ofB kind s = true then 0 else 30

theorem ofB_iff (kind : Int) (s : ByteArray) : ((openE s != 0) || (openK s != kind)) = !ofB kind s := by
  unfold ofB openE openK
  cases openB s with
  | true =>
    simp only [if_true, Bool.true_and]
    rw [Bool.eq_iff_iff]; simp
  | false => rfl

theorem refOf_c (kind : Int) (s : ByteArray) (hs : s.size ≤ maxLen) (w : World) :
    Calls Try.prog 96 #[I8 kind, S s] w fun e w' => e = .returned (.tuple #[S (ofL kind s), I (ofE kind s)]) ∧ Below w.heap.size w w' := by
  refine enter (E := E0) (O := []) (nl := 0) (V := vw w) [.a (.v (I8 kind)), .a (.v (S s))] Try.func96 rfl rfl (mem0 E0 0 w) rfl rfl ?_
  refine c_seq ?_
  refine c_region ?_
  refine o_yield rfl rfl rfl (y_val tok rfl) ?_
  refine o_yield rfl rfl rfl (y_val tok rfl) ?_
  refine o_end [0, 1] rfl ?_
  refine x_then ?_
  refine c_seq ?_
  refine c_region ?_
  refine o_yield rfl rfl rfl (y_val tok rfl) ?_
  refine o_call (.a (.v _)) rfl rfl fnok144 rfl rfl rfl (fun hg E w1 hm => by exact refOpen_c s hs _) ?_
  refine o_yield rfl rfl rfl (y_val tok rfl) ?_
  refine o_yield rfl rfl rfl (y_val tok rfl) ?_
  refine o_yield rfl rfl rfl (y_val tok rfl) ?_
  refine o_yield rfl rfl rfl (y_val tok rfl) ?_
  refine o_yield rfl rfl rfl (y_val tok rfl) ?_
  refine o_yield rfl rfl rfl (y_val tok rfl) ?_
  refine o_yield rfl rfl rfl (y_val tok rfl) ?_
  refine o_end [0, 6, 7, 8] rfl ?_
  refine x_then ?_
  refine c_seq ?_
  refine c_seq ?_
  refine c_region ?_
  refine o_yield rfl rfl rfl (y_val tok rfl) ?_
  refine o_yield rfl rfl rfl (y_val tok rfl) ?_
  refine o_yield rfl rfl rfl (y_val tok rfl) ?_
  refine o_yield rfl rfl rfl (y_val tok rfl) ?_
  refine o_yield rfl rfl rfl (y_val tok rfl) ?_
  refine o_yield rfl rfl rfl (y_val tok rfl) ?_
  refine o_yield rfl rfl rfl (y_val tok rfl) ?_
  refine o_end [7, 21] rfl ?_
  refine x_then ?_
  refine c_cond rfl (fun h => ?_) (fun h => ?_)
  ·
    refine c_seq ?_
    refine c_region ?_
    refine o_yield rfl rfl rfl (y_val tok rfl) ?_
    refine o_yield rfl rfl rfl (y_val tok rfl) ?_
    refine o_end [4, 5] rfl ?_
    refine x_then ?_
    refine c_ret ?_
    refine x_then_ret ?_
    refine b_ret tok rfl ?_
    rw [ofB_iff] at h
    simp at h
    intro E w' hm _
    refine ⟨?_, hm.below (Vw.le.refl _)⟩
    rw [ofL, ofE, if_neg (by simp [h]), if_neg (by simp [h])]
    rfl
  ·
    refine c_skip ?_
    refine x_then ?_
    refine c_seq ?_
    refine c_region ?_
    refine o_yield rfl rfl rfl (y_val tok rfl) ?_
    refine o_yield rfl rfl rfl (y_val tok rfl) ?_
    refine o_yield rfl rfl rfl (y_val tok rfl) ?_
    refine o_end [4, 5] rfl ?_
    refine x_then ?_
    refine c_ret ?_
    refine b_ret tok rfl ?_
    rw [ofB_iff] at h
    simp at h
    have ho : openB s = true := by
      rw [ofB, Bool.and_eq_true] at h; exact h.1
    intro E w' hm _
    refine ⟨?_, hm.below (Vw.le.refl _)⟩
    rw [ofL, ofE, if_pos h, if_pos h]
    show Ending.returned (.tuple #[S (openL s), I 0]) = _
    rw [openL, if_pos ho]

/-! The program's. -/

theorem leTo_two (f : Nat → Nat) : leTo f 2 = f 0 + f 1 * 256 := by simp [leTo, pw]
theorem leTo_four (f : Nat → Nat) : leTo f 4 = f 0 + f 1 * 256 + f 2 * 65536 + f 3 * 16777216 := by simp [leTo, pw]

theorem get_two (s : ByteArray) : getSpec s 1 2 = if s.size < 3 then (0, 10) else (((digit s 1 0 + digit s 1 1 * 256 : Nat) : Int), 0) := by
  have h0 := digit_lt s 1 0
  have h1 := digit_lt s 1 1
  rw [getSpec, if_neg (by decide)]
  by_cases h : s.size < 3
  · rw [if_pos (by omega), if_pos h]
  · rw [if_neg (by omega), if_neg h]
    show (if 1099511627776 < leTo (digit s 1) 2 then _ else _) = _
    rw [leTo_two, if_neg (by omega)]
    show (((leTo (digit s 1) 2 : Nat) : Int), (0 : Int)) = _
    rw [leTo_two]

theorem get_four (s : ByteArray) (n : Nat) (h : n + 4 ≤ s.size) : getSpec s n 4 = (((digit s n 0 + digit s n 1 * 256 + digit s n 2 * 65536 + digit s n 3 * 16777216 : Nat) : Int), 0) := by
  have h0 := digit_lt s n 0
  have h1 := digit_lt s n 1
  have h2 := digit_lt s n 2
  have h3 := digit_lt s n 3
  rw [getSpec, if_neg (by decide), if_neg (by omega)]
  show (if 1099511627776 < leTo (digit s ((n : Int)).toNat) 4 then _ else _) = _
  rw [Int.toNat_natCast, leTo_four, if_neg (by omega)]
  show (((leTo (digit s n) 4 : Nat) : Int), (0 : Int)) = _
  rw [leTo_four]

theorem byteAt_list (s : ByteArray) (i : Nat) : byteAt s i = s.data.toList.getD i 0 := by
  simp [byteAt, List.getD]

/-- A sector's parts. -/
theorem parts (L : List UInt8) (h : 7 ≤ L.length) : ∃ b0 b1 b2 load c0 c1 c2 c3, L = b0 :: b1 :: b2 :: (load ++ [c0, c1, c2, c3]) ∧ load.length = L.length - 7 := by
  match L, h with
  | b0 :: b1 :: b2 :: r, h =>
    have hr : 4 ≤ r.length := by simp at h; omega
    have e := List.take_append_drop (r.length - 4) r
    have hd : (r.drop (r.length - 4)).length = 4 := by simp; omega
    match hq : r.drop (r.length - 4), hd with
    | [c0, c1, c2, c3], _ => exact ⟨b0, b1, b2, r.take (r.length - 4), c0, c1, c2, c3, by rw [← hq, e], by simp⟩

theorem four_eq {c : Nat} (hc : c < 4294967296) (c0 c1 c2 c3 : UInt8) : leTake c 4 = [c0, c1, c2, c3] ↔ c0.toNat + c1.toNat * 256 + c2.toNat * 65536 + c3.toNat * 16777216 = c := by
  have h0 := UInt8.toNat_lt c0
  have h1 := UInt8.toNat_lt c1
  have h2 := UInt8.toNat_lt c2
  have h3 := UInt8.toNat_lt c3
  have e : leTake c 4 = [UInt8.ofNat (c % 256), UInt8.ofNat (c / 256 % 256), UInt8.ofNat (c / 65536 % 256), UInt8.ofNat (c / 16777216 % 256)] := by
    simp [leTake, List.range_succ, pw]
  rw [e]
  simp only [List.cons.injEq, and_true]
  rw [← UInt8.toNat_inj, ← UInt8.toNat_inj, ← UInt8.toNat_inj, ← UInt8.toNat_inj, ofNat_mod, ofNat_mod, ofNat_mod, ofNat_mod]
  omega

/-- Whether a sector is sealed, as the program asks it. -/
def openP (s : ByteArray) : Bool :=
  decide (3 ≤ s.size) && decide (s.size = 7 + (digit s 1 0 + digit s 1 1 * 256)) && decide (digit s 1 0 + digit s 1 1 * 256 ≤ 505) && decide (1 ≤ (byteAt s 0).toNat) && decide ((byteAt s 0).toNat ≤ 127) &&
    decide (digit s (s.size - 4) 0 + digit s (s.size - 4) 1 * 256 + digit s (s.size - 4) 2 * 65536 + digit s (s.size - 4) 3 * 16777216 = crcOf (s.data.toList.take (s.size - 4)))

theorem openP_eq (s : ByteArray) : openP s = openB s := by
  have hsz := size_list s
  by_cases h7 : 7 ≤ s.size
  · obtain ⟨b0, b1, b2, load, c0, c1, c2, c3, hL, hlen⟩ := parts s.data.toList (by omega)
    have hb : ∀ i, byteAt s i = (b0 :: b1 :: b2 :: (load ++ [c0, c1, c2, c3])).getD i 0 := fun i => by rw [byteAt_list, hL]
    have d0 : byteAt s 0 = b0 := by rw [hb]; rfl
    have d1 : digit s 1 0 = b1.toNat := by rw [digit, hb]; rfl
    have d2 : digit s 1 1 = b2.toNat := by rw [digit, hb]; rfl
    have dc : ∀ j, digit s (s.size - 4) j = ([c0, c1, c2, c3].getD j 0).toNat := fun j => by
      rw [digit, hb, show s.size - 4 + j = (load.length + j) + 3 by omega]
      simp only [List.getD, List.getElem?_cons_succ]
      rw [List.getElem?_append_right (by omega), Nat.add_sub_cancel_left]
    have hload : (loadOf s).data.toList = load := by
      rw [loadOf, ByteArray.data_extract, Array.toList_extract, List.extract_eq_take_drop, hL, show s.size - 4 - 3 = load.length by omega]
      simp
    have htake : s.data.toList.take (s.size - 4) = b0 :: b1 :: b2 :: load := by
      rw [hL, show s.size - 4 = load.length + 3 by omega]
      simp
    unfold openP openB
    rw [d0, d1, d2, dc, dc, dc, dc, hload, htake, hL]
    have hb1 := UInt8.toNat_lt b1
    have hb2 := UInt8.toNat_lt b2
    have key : sealL b0 load = b0 :: b1 :: b2 :: (load ++ [c0, c1, c2, c3]) ↔ b1.toNat + b2.toNat * 256 = load.length % 65536 ∧ leTake (crcOf (b0 :: b1 :: b2 :: load)) 4 = [c0, c1, c2, c3] := by
      rw [sealL, body_eq]
      have p0 : UInt8.ofNat (load.length / pw 0 % 256) = b1 ↔ load.length % 256 = b1.toNat := by
        rw [← UInt8.toNat_inj, ofNat_mod]; simp [pw]
      have p1 : UInt8.ofNat (load.length / pw 1 % 256) = b2 ↔ load.length / 256 % 256 = b2.toNat := by
        rw [← UInt8.toNat_inj, ofNat_mod]; simp [pw]
      simp only [List.cons_append, List.cons.injEq, true_and, List.append_cancel_left_eq, p0, p1]
      constructor
      · rintro ⟨e1, e2, e3⟩
        refine ⟨by omega, ?_⟩
        rw [← p0.2 e1, ← p1.2 e2]; exact e3
      · rintro ⟨e1, e2⟩
        refine ⟨by omega, by omega, ?_⟩
        rw [p0.2 (by omega), p1.2 (by omega)]; exact e2
    rw [Bool.eq_iff_iff]
    simp only [Bool.and_eq_true, decide_eq_true_eq, key, four_eq (crcOf_lt _)]
    simp only [List.getD_cons_zero, List.getD_cons_succ]
    have hx : load.length = s.size - 7 := by omega
    generalize crcOf (b0 :: b1 :: b2 :: load) = cc
    omega
  · have h1 : openB s = false := by
      rw [openB, decide_eq_false h7]; rfl
    rw [h1, Bool.eq_false_iff]
    intro hc
    simp only [openP, Bool.and_eq_true, decide_eq_true_eq] at hc
    omega

theorem open_c (s : ByteArray) (hs : s.size ≤ maxLen) (w : World) :
    Calls Try.prog 158 #[S s] w fun e w' => e = .returned (.tuple #[I8 (openK s), S (openL s), I (openE s)]) ∧ Below w.heap.size w w' := by
  have hs' := hs
  simp only [maxLen] at hs'
  have hb : (byteAt s (0 : Int).toNat).toNat = (byteAt s 0).toNat := rfl
  refine enter (E := E0) (O := []) (nl := 0) (V := vw w) [.a (.v (S s))] Try.func158 rfl rfl (mem0 E0 0 w) rfl rfl ?_
  refine c_seq ?_
  refine c_region ?_
  refine o_yield rfl rfl rfl (y_val tok rfl) ?_
  refine o_yield rfl rfl rfl (y_val tok rfl) ?_
  refine o_yield rfl rfl rfl (y_val tok rfl) ?_
  refine o_end [0] rfl ?_
  refine x_then ?_
  refine c_seq ?_
  refine c_region ?_
  refine o_yield rfl rfl rfl (y_val tok rfl) ?_
  have h10 := digit_lt s 1 0
  have h11 := digit_lt s 1 1
  obtain ⟨n, e, hge, hfx⟩ : ∃ (n : Nat) (e : Int), getSpec s 1 2 = ((n : Int), e) ∧ n ≤ 65535 ∧ ((s.size < 3 ∧ e = 10) ∨ (3 ≤ s.size ∧ n = digit s 1 0 + digit s 1 1 * 256 ∧ e = 0)) := by
    rw [get_two]
    by_cases h : s.size < 3
    · rw [if_pos h]; exact ⟨0, 10, rfl, by omega, .inl ⟨h, rfl⟩⟩
    · rw [if_neg h]; exact ⟨_, 0, rfl, by omega, .inr ⟨by omega, rfl, rfl⟩⟩
  refine o_call (.a (.v _)) rfl rfl fnok127 rfl rfl rfl (fun hg E w1 hm => by exact numGet_c s 1 2 hs _) ?_
  refine o_yield rfl rfl rfl (y_val tok rfl) ?_
  refine o_yield rfl rfl rfl (y_val tok rfl) ?_
  refine o_yield rfl rfl rfl (y_val tok rfl) ?_
  refine o_yield rfl rfl rfl (y_val tok rfl) ?_
  refine o_yield rfl rfl rfl (y_val tok rfl) ?_
  refine o_end [0, 5, 6] rfl ?_
  refine x_then ?_
  refine c_seq ?_
  refine c_seq ?_
  refine c_region ?_
  refine o_yield rfl rfl rfl (y_val tok rfl) ?_
  refine o_yield rfl rfl rfl (y_val tok rfl) ?_
  refine o_yield rfl rfl rfl (y_val tok rfl) ?_
  refine o_yield rfl rfl rfl (y_val tok rfl) ?_
  refine o_yield rfl rfl rfl (y_val tok rfl) ?_
  refine o_yield rfl rfl rfl (y_val tok rfl) ?_
  refine o_yield rfl rfl rfl (y_val tok rfl) ?_
  refine o_yield rfl rfl rfl (y_val tok rfl) ?_
  refine o_yield rfl rfl rfl (y_val tok rfl) ?_
  refine o_yield rfl rfl rfl (y_val tok rfl) ?_
  refine o_yield rfl rfl rfl (y_val tok rfl) ?_
  refine o_yield rfl rfl rfl (y_val tok rfl) ?_
  refine o_yield rfl rfl rfl (y_val tok rfl) ?_
  refine o_yield rfl rfl rfl (y_val tok rfl) ?_
  refine o_yield rfl rfl rfl (y_val tok rfl) ?_
  refine o_yield rfl rfl rfl (y_val tok rfl) ?_
  rw [hge]
  dsimp only
  rw [wrapI (n := 3 + (n : Int)) (by omega) (by omega), wrapI (n := 3 + (n : Int) + 4) (by omega) (by omega)]
  refine o_yield rfl rfl rfl (y_si tok rfl (fun hg => by simp at hg; omega)) ?_
  refine o_yield rfl rfl rfl (y_val tok rfl) ?_
  refine o_yield rfl rfl rfl (y_val tok rfl) ?_
  refine o_yield rfl rfl rfl (y_val tok rfl) ?_
  refine o_yield rfl rfl rfl (y_val tok rfl) ?_
  refine o_yield rfl rfl rfl (y_si tok rfl (fun hg => by simp at hg; omega)) ?_
  refine o_yield rfl rfl rfl (y_val tok rfl) ?_
  refine o_yield rfl rfl rfl (y_val tok rfl) ?_
  refine o_end [0, 5, 37] rfl ?_
  refine x_then ?_
  refine c_cond rfl (fun h => ?_) (fun h => ?_)
  ·
    simp only [Bool.and_eq_true, Bool.or_eq_true, Bool.not_eq_true', Bool.or_eq_false_iff, Bool.and_eq_false_iff, decide_eq_true_eq, decide_eq_false_iff_not, beq_iff_eq, bne_iff_ne, Bool.not_eq_false', beq_eq_false_iff_ne, bne_eq_false_iff_eq, ne_eq, Decidable.not_not, Int.not_lt, Int.not_le] at h
    refine c_seq ?_
    refine c_region ?_
    refine o_yield rfl rfl rfl (y_val tok rfl) ?_
    refine o_yield rfl rfl rfl (y_val tok rfl) ?_
    refine o_yield rfl rfl rfl (y_val tok rfl) ?_
    refine o_end [2, 3, 4] rfl ?_
    refine x_then ?_
    refine c_ret ?_
    refine x_then_ret ?_
    refine b_ret tok rfl ?_
    intro E w' hm _
    refine ⟨?_, hm.below (Vw.le.refl _)⟩
    have hno : openB s = false := by
      rw [← openP_eq, Bool.eq_false_iff]
      intro hc
      simp only [openP, Bool.and_eq_true, decide_eq_true_eq] at hc
      omega
    rw [openK, openL, openE, hno]
    rfl
  ·
    simp only [Bool.and_eq_true, Bool.or_eq_true, Bool.not_eq_true', Bool.or_eq_false_iff, Bool.and_eq_false_iff, decide_eq_true_eq, decide_eq_false_iff_not, beq_iff_eq, bne_iff_ne, Bool.not_eq_false', beq_eq_false_iff_ne, bne_eq_false_iff_eq, ne_eq, Decidable.not_not, Int.not_lt, Int.not_le] at h
    rw [hb] at h
    have hn : n = digit s 1 0 + digit s 1 1 * 256 ∧ s.size = 7 + n ∧ n ≤ 505 ∧ 1 ≤ (byteAt s 0).toNat ∧ (byteAt s 0).toNat ≤ 127 := by omega
    clear h hfx
    obtain ⟨hn1, hn2, hn3, hk1, hk2⟩ := hn
    refine c_skip ?_
    refine x_then ?_
    refine c_seq ?_
    refine c_region ?_
    refine o_yield rfl rfl rfl (y_val tok rfl) ?_
    refine o_yield rfl rfl rfl (y_val tok rfl) ?_
    refine o_yield rfl rfl rfl (y_val tok rfl) ?_
    rw [show IntKind.i64.wrap (3 + (n : Int)) = ((3 + n : Nat) : Int) by rw [wrapI (by omega) (by omega)]; omega]
    have hop : openB s = decide (digit s (3 + n) 0 + digit s (3 + n) 1 * 256 + digit s (3 + n) 2 * 65536 + digit s (3 + n) 3 * 16777216 = crcOf (s.data.toList.take (3 + n))) := by
      rw [← openP_eq, openP, decide_eq_true (show 3 ≤ s.size by omega), decide_eq_true (show s.size = 7 + (digit s 1 0 + digit s 1 1 * 256) by omega), decide_eq_true (show digit s 1 0 + digit s 1 1 * 256 ≤ 505 by omega), decide_eq_true (show 1 ≤ (byteAt s 0).toNat by omega), decide_eq_true (show (byteAt s 0).toNat ≤ 127 by omega),
        show s.size - 4 = 3 + n by omega]
      simp only [Bool.true_and]
    obtain ⟨sum, hsum⟩ : ∃ sum, digit s (3 + n) 0 + digit s (3 + n) 1 * 256 + digit s (3 + n) 2 * 65536 + digit s (3 + n) 3 * 16777216 = sum := ⟨_, rfl⟩
    have hg4 := get_four s (3 + n) (by omega)
    rw [hsum] at hop hg4
    refine o_call (.a (.v _)) rfl rfl fnok127 rfl rfl rfl (fun hg E w1 hm => by exact numGet_c s ((3 + n : Nat) : Int) 4 hs _) ?_
    refine o_yield rfl rfl rfl (y_val tok rfl) ?_
    refine o_yield rfl rfl rfl (y_val tok rfl) ?_
    refine o_yield rfl rfl rfl (y_val tok rfl) ?_
    refine o_yield rfl rfl rfl (y_val tok rfl) ?_
    refine o_yield rfl rfl rfl (y_val tok rfl) ?_
    refine o_end [0, 5, 7] rfl ?_
    refine x_then ?_
    refine c_seq ?_
    refine c_seq ?_
    refine c_region ?_
    refine o_yield rfl rfl rfl (y_val tok rfl) ?_
    refine o_yield rfl rfl rfl (y_val tok rfl) ?_
    refine o_yield rfl rfl rfl (y_val tok rfl) ?_
    refine o_yield rfl rfl rfl (y_val tok rfl) ?_
    rw [hg4]
    dsimp only
    rw [show IntKind.i64.wrap (3 + (n : Int)) = ((3 + n : Nat) : Int) by rw [wrapI (by omega) (by omega)]; omega]
    refine o_yield rfl rfl rfl (y_ss tok rfl (fun hg => by simp only [Option.getD]; omega)) ?_
    refine o_step rfl rfl rfl rfl rfl (s_s2b tok rfl) (fun x hx => ?_)
    have hL : (s.extract (none.getD 0 : Int).toNat ((some ((3 + n : Nat) : Int)).getD (s.size : Int)).toNat).data.toList = s.data.toList.take (3 + n) := by
      simp only [Option.getD, Int.toNat_natCast]
      rw [ByteArray.data_extract, Array.toList_extract, List.extract_eq_take_drop]
      simp
    rw [hL] at hx
    have hxl := hx.1
    have htl : (s.data.toList.take (3 + n)).length = 3 + n := by rw [List.length_take, size_list]; omega
    refine o_call (.a (.v _)) rfl rfl fnok164 rfl rfl rfl (fun hg E w1 hm => by exact sum_crc x.2 _ (s.data.toList.take (3 + n)) _ hm.leV hx.2 (by rw [htl]; simp only [maxLen]; omega)) ?_
    refine o_yield rfl rfl rfl (y_val tok rfl) ?_
    refine o_end [0, 5, 52] rfl ?_
    refine x_then ?_
    refine c_cond rfl (fun h => ?_) (fun h => ?_)
    ·
      simp only [Bool.and_eq_true, Bool.or_eq_true, Bool.not_eq_true', Bool.or_eq_false_iff, Bool.and_eq_false_iff, decide_eq_true_eq, decide_eq_false_iff_not, beq_iff_eq, bne_iff_ne, Bool.not_eq_false', beq_eq_false_iff_ne, bne_eq_false_iff_eq, ne_eq, Decidable.not_not, Int.not_lt, Int.not_le] at h
      refine c_seq ?_
      refine c_region ?_
      refine o_yield rfl rfl rfl (y_val tok rfl) ?_
      refine o_yield rfl rfl rfl (y_val tok rfl) ?_
      refine o_yield rfl rfl rfl (y_val tok rfl) ?_
      refine o_end [2, 3, 4] rfl ?_
      refine x_then ?_
      refine c_ret ?_
      refine x_then_ret ?_
      refine b_ret tok rfl ?_
      have ho : openB s = false := by rw [hop]; simp; omega
      intro E w' hm _
      refine ⟨?_, hm.below (hxl)⟩
      rw [openK, openL, openE, ho]
      rfl
    ·
      simp only [Bool.and_eq_true, Bool.or_eq_true, Bool.not_eq_true', Bool.or_eq_false_iff, Bool.and_eq_false_iff, decide_eq_true_eq, decide_eq_false_iff_not, beq_iff_eq, bne_iff_ne, Bool.not_eq_false', beq_eq_false_iff_ne, bne_eq_false_iff_eq, ne_eq, Decidable.not_not, Int.not_lt, Int.not_le] at h
      refine c_skip ?_
      refine x_then ?_
      refine c_seq ?_
      refine c_draw mixed (by kernel_rfl) ?_
      refine d_yield rfl rfl rfl (y_val tok rfl) rfl ?_
      have ho : openB s = true := by rw [hop]; simp; omega
      refine d_yield rfl rfl rfl (y_si tok rfl (fun hg => by omega)) rfl ?_
      refine d_yield rfl rfl rfl (y_val tok rfl) rfl ?_
      refine d_yield rfl rfl rfl (y_val tok rfl) rfl ?_
      refine d_yield rfl rfl rfl (y_val tok rfl) rfl ?_
      refine d_yield rfl rfl rfl (y_val tok rfl) rfl ?_
      rw [hb, show IntKind.i8.wrap (((byteAt s 0).toNat : Nat) : Int) = (((byteAt s 0).toNat : Nat) : Int) by simp [IntKind.wrap, IntKind.bits, IntKind.signed]; omega]
      rw [show IntKind.i64.wrap (3 + (n : Int)) = ((3 + n : Nat) : Int) by rw [wrapI (by omega) (by omega)]; omega]
      refine d_yield rfl rfl rfl (y_ss tok rfl (fun hg => by simp only [Option.getD]; omega)) rfl ?_
      refine d_yield rfl rfl rfl (y_val tok rfl) rfl ?_
      refine d_yield rfl rfl rfl (y_val tok rfl) rfl ?_
      refine d_yield rfl rfl rfl (y_val tok rfl) rfl ?_
      refine d_end [2, 3, 4] rfl ?_
      refine x_then ?_
      refine c_ret ?_
      refine b_ret tok rfl ?_
      intro E w' hm _
      refine ⟨?_, hm.below (hxl)⟩
      rw [openK, openL, openE, if_pos ho, if_pos ho, if_pos ho]
      show Ending.returned (.tuple #[I8 (byteAt s 0).toNat, S (s.extract 3 (3 + n)), I 0]) = _
      rw [loadOf, show s.size - 4 = 3 + n by omega]

theorem sealOf_c (kind : Int) (s : ByteArray) (hs : s.size ≤ maxLen) (w : World) :
    Calls Try.prog 126 #[I8 kind, S s] w fun e w' => e = .returned (.tuple #[S (ofL kind s), I (ofE kind s)]) ∧ Below w.heap.size w w' := by
  refine enter (E := E0) (O := []) (nl := 0) (V := vw w) [.a (.v (I8 kind)), .a (.v (S s))] Try.func126 rfl rfl (mem0 E0 0 w) rfl rfl ?_
  refine c_seq ?_
  refine c_region ?_
  refine o_yield rfl rfl rfl (y_val tok rfl) ?_
  refine o_yield rfl rfl rfl (y_val tok rfl) ?_
  refine o_end [0, 1] rfl ?_
  refine x_then ?_
  refine c_seq ?_
  refine c_region ?_
  refine o_yield rfl rfl rfl (y_val tok rfl) ?_
  refine o_call (.a (.v _)) rfl rfl fnok158 rfl rfl rfl (fun hg E w1 hm => by exact open_c s hs _) ?_
  refine o_yield rfl rfl rfl (y_val tok rfl) ?_
  refine o_yield rfl rfl rfl (y_val tok rfl) ?_
  refine o_yield rfl rfl rfl (y_val tok rfl) ?_
  refine o_yield rfl rfl rfl (y_val tok rfl) ?_
  refine o_yield rfl rfl rfl (y_val tok rfl) ?_
  refine o_yield rfl rfl rfl (y_val tok rfl) ?_
  refine o_yield rfl rfl rfl (y_val tok rfl) ?_
  refine o_end [0, 4, 5, 6] rfl ?_
  refine x_then ?_
  refine c_seq ?_
  refine c_seq ?_
  refine c_region ?_
  refine o_yield rfl rfl rfl (y_val tok rfl) ?_
  refine o_yield rfl rfl rfl (y_val tok rfl) ?_
  refine o_yield rfl rfl rfl (y_val tok rfl) ?_
  refine o_yield rfl rfl rfl (y_val tok rfl) ?_
  refine o_yield rfl rfl rfl (y_val tok rfl) ?_
  refine o_yield rfl rfl rfl (y_val tok rfl) ?_
  refine o_yield rfl rfl rfl (y_val tok rfl) ?_
  refine o_end [4, 19] rfl ?_
  refine x_then ?_
  refine c_cond rfl (fun h => ?_) (fun h => ?_)
  ·
    refine c_seq ?_
    refine c_region ?_
    refine o_yield rfl rfl rfl (y_val tok rfl) ?_
    refine o_yield rfl rfl rfl (y_val tok rfl) ?_
    refine o_end [4, 5] rfl ?_
    refine x_then ?_
    refine c_ret ?_
    refine x_then_ret ?_
    refine b_ret tok rfl ?_
    rw [ofB_iff] at h
    simp at h
    intro E w' hm _
    refine ⟨?_, hm.below (Vw.le.refl _)⟩
    rw [ofL, ofE, if_neg (by simp [h]), if_neg (by simp [h])]
    rfl
  ·
    refine c_skip ?_
    refine x_then ?_
    refine c_seq ?_
    refine c_region ?_
    refine o_yield rfl rfl rfl (y_val tok rfl) ?_
    refine o_yield rfl rfl rfl (y_val tok rfl) ?_
    refine o_yield rfl rfl rfl (y_val tok rfl) ?_
    refine o_end [4, 5] rfl ?_
    refine x_then ?_
    refine c_ret ?_
    refine b_ret tok rfl ?_
    rw [ofB_iff] at h
    simp at h
    have ho : openB s = true := by
      rw [ofB, Bool.and_eq_true] at h; exact h.1
    intro E w' hm _
    refine ⟨?_, hm.below (Vw.le.refl _)⟩
    rw [ofL, ofE, if_pos h, if_pos h]
    show Ending.returned (.tuple #[S (openL s), I 0]) = _
    rw [openL, if_pos ho]
end Go.Proofs.Ytlcpfhjbhogdiaa
