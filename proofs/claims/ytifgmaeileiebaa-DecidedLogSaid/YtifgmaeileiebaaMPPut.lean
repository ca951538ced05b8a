import Derived.Test.YtifgmaeileiebaaMGeo
/- The program's putting of numbers' bytes. -/
set_option linter.unusedVariables false
set_option linter.unusedSimpArgs false
set_option maxRecDepth 100000
namespace Go.Proofs.Ytifgmaeileiebaa
open Go Go.Eng Go.RowKit

theorem overL_all {news xs : List Value} (h : news.length = xs.length) : overL 0 news xs = news := by
  simp [overL, h]

theorem and255 {x : Nat} (h : x < 9223372036854775808) : bits .and .i64 (x : Int) 255 = ((x % 256 : Nat) : Int) := by
  have := i64_and x 255 h (by omega)
  rw [nat_mask8] at this
  exact this

theorem numPut_c (V : Vw) (bv : Value) (bl : List UInt8) (k : Int) (lv : Value) (ls : List Int) (w : World) (hV : V.le (vw w)) (hb : SlOf V encByte 1 bv bl) (hl : SlOf V encI64 1 lv ls)
    (hbn : bl.length ≤ 1099511627776) (hln : ls.length ≤ 1099511627776) : Calls Try.prog 51 #[bv, I k, lv] w (PutPost bl k ls w) := by
  have hb' := hb.mono hV
  have hl' := hl.mono hV
  refine enter (E := E0) (O := []) (nl := 0) (V := vw w) [.a (.v bv), .a (.v (I k)), .a (.v lv)] Try.func51 rfl rfl (mem0 E0 0 w) rfl rfl ?_
  refine c_seq ?_
  refine c_region ?_
  refine o_yield rfl rfl rfl (y_val tok rfl) ?_
  refine o_yield rfl rfl rfl (y_val tok rfl) ?_
  refine o_end [0, 1, 2] rfl ?_
  refine x_then ?_
  refine c_seq ?_
  refine c_seq ?_
  refine c_region ?_
  refine o_yield rfl rfl rfl (y_val tok rfl) ?_
  refine o_call (.a (.v _)) rfl rfl fnok63 rfl rfl rfl (fun hg E w1 hm => by exact widthMay_c _ _) ?_
  refine o_yield rfl rfl rfl (y_val tok rfl) ?_
  refine o_end [0, 1, 2, 14] rfl ?_
  refine x_then ?_
  refine c_cond rfl (fun h => ?_) (fun h => ?_)
  ·
    simp only [Bool.and_eq_true, Bool.or_eq_true, Bool.not_eq_true', Bool.or_eq_false_iff, Bool.and_eq_false_iff, decide_eq_true_eq, decide_eq_false_iff_not, beq_iff_eq, bne_iff_ne, Bool.not_eq_false', beq_eq_false_iff_ne, bne_eq_false_iff_eq, ne_eq, Decidable.not_not, Int.not_lt, Int.not_le] at h
    refine c_seq ?_
    refine c_region ?_
    refine o_yield rfl rfl rfl (y_val tok rfl) ?_
    refine o_yield rfl rfl rfl (y_val tok rfl) ?_
    refine o_end [6, 7] rfl ?_
    refine x_then ?_
    refine c_ret ?_
    refine x_then_ret ?_
    refine b_ret tok rfl ?_
    intro E w' hm _
    exact ⟨.inr ⟨by rw [putOk, h]; rfl, rfl⟩, hm.below (Vw.le.refl _)⟩
  ·
    simp only [Bool.and_eq_true, Bool.or_eq_true, Bool.not_eq_true', Bool.or_eq_false_iff, Bool.and_eq_false_iff, decide_eq_true_eq, decide_eq_false_iff_not, beq_iff_eq, bne_iff_ne, Bool.not_eq_false', beq_eq_false_iff_ne, bne_eq_false_iff_eq, ne_eq, Decidable.not_not, Int.not_lt, Int.not_le] at h
    refine c_skip ?_
    refine x_then ?_
    refine c_seq ?_
    refine c_region ?_
    refine o_yield rfl rfl rfl (y_val tok rfl) ?_
    have hw := h
    have hk := hw
    simp only [widthB, Bool.and_eq_true, decide_eq_true_eq] at hk
    obtain ⟨m, rfl⟩ : ∃ m : Nat, k = m := ⟨k.toNat, by omega⟩
    clear h
    refine o_yield rfl rfl rfl (y_len tok rfl (fun hg => hb'.sl)) ?_
    refine o_yield rfl rfl rfl (y_val tok rfl) ?_
    refine o_yield rfl rfl rfl (y_len tok rfl (fun hg => hb'.sl)) ?_
    refine o_yield rfl rfl rfl (y_val tok rfl) ?_
    refine o_yield rfl rfl rfl (y_val tok rfl) ?_
    refine o_yield rfl rfl rfl (y_len tok rfl (fun hg => hl'.sl)) ?_
    refine o_yield rfl rfl rfl (y_val tok rfl) ?_
    refine o_yield rfl rfl rfl (y_val tok rfl) ?_
    obtain ⟨cap, hcap⟩ : ∃ cap, bl.length + m * ls.length = cap := ⟨_, rfl⟩
    have hcap2 : m * ls.length ≤ 6 * ls.length := Nat.mul_le_mul_right _ (by omega)
    rw [show IntKind.i64.wrap ((bl.length : Int) + IntKind.i64.wrap ((m : Int) * (ls.length : Int))) = (cap : Int) by
      rw [← Int.natCast_mul, wrapI (n := ((m * ls.length : Nat) : Int)) (by omega) (by omega), wrapI (by omega) (by omega)]; omega]
    refine o_step rfl rfl rfl rfl rfl (s_mk tok bl.length cap rfl rfl rfl (by omega) (by dsimp only; omega) (by simp only [maxLen]; omega)) (fun _ _ => ?_)
    refine o_yield rfl rfl rfl (y_val tok rfl) ?_
    refine o_end [0, 1, 2, 8] rfl ?_
    refine x_then ?_
    refine c_seq ?_
    refine c_region ?_
    refine o_yield rfl rfl rfl (y_val tok rfl) ?_
    refine o_yield rfl rfl rfl (y_val tok rfl) ?_
    refine o_step rfl rfl rfl rfl rfl (s_cp tok (bl.flatMap encByte) rfl (fun E w hm => hb'.sl.src hm.get) (bytes_ones _) (Nat.le_refl _)) (fun _ _ => ?_)
    refine o_end [1, 2, 8] rfl ?_
    refine x_then ?_
    refine c_seq ?_
    refine c_seq ?_
    refine c_region ?_
    refine o_yield rfl rfl rfl (y_val tok rfl) ?_
    rw [overL_all (by rw [repZ_length, bytes_flat]; simp)]
    have e0 : putL bl m (ls.take 0) = bl := by simp [putL]
    refine o_yield rfl rfl rfl (y_len tok rfl (fun hg => hl'.sl)) ?_
    refine o_yield rfl rfl rfl (y_val tok rfl) ?_
    refine o_end [1, 8, 28, 29, 30] rfl ?_
    refine x_then ?_
    refine c_block ?_
    refine c_loopK [1, 28, 29] [0] rfl rfl (σ := Nat) (fun i => [(8, .a (.row 0)), (30, .a (.v (I i)))]) (fun i => [(0, .row 5 1 (putL bl m (ls.take i)).length ((putL bl m (ls.take i)).flatMap encByte))]) (fun i => i ≤ ls.length ∧ (∀ j n, j < i → ls[j]? = some n → fitsB n m = true) ∧ (putL bl m (ls.take i)).length ≤ bl.length + 6 * i) (fun i => ls.length - i) (0) (⟨by omega, by omega, by simp [putL]⟩) (by repeat (first | exact SubF.nil | refine SubF.cons rfl ?_ | refine SubF.cons (by simp only [e0]; first | done | rfl) ?_)) (by repeat (first | exact SubO.nil | refine SubO.cons rfl ?_ | refine SubO.cons (by simp only [e0]; first | done | rfl) ?_)) rfl ?_
    rintro i ⟨hi, hall, hsz⟩
    refine c_seq ?_
    refine c_region ?_
    refine o_yield rfl rfl rfl (y_val tok rfl) ?_
    refine o_end [1, 8, 28, 29, 30, 31] rfl ?_
    refine x_then ?_
    refine c_seq ?_
    refine c_cond rfl (fun h => ?_) (fun h => ?_)
    ·
      simp only [Bool.and_eq_true, Bool.or_eq_true, Bool.not_eq_true', Bool.or_eq_false_iff, Bool.and_eq_false_iff, decide_eq_true_eq, decide_eq_false_iff_not, beq_iff_eq, bne_iff_ne, Bool.not_eq_false', beq_eq_false_iff_ne, bne_eq_false_iff_eq, ne_eq, Decidable.not_not, Int.not_lt, Int.not_le] at h
      refine c_skip ?_
      refine x_then ?_
      refine c_seq ?_
      refine c_block ?_
      refine c_seq ?_
      refine c_region ?_
      obtain ⟨n, h_n⟩ := hl'.at (k := i) (by omega)
      have hlt_n := lt_of_at h_n
      refine o_yield rfl rfl rfl (y_idx tok rfl (fun hg => hl'.sl) (fun hg => ⟨by omega, by omega⟩)) ?_
      refine o_yield rfl rfl rfl (y_lel tok (i) 0 (n) rfl (fun hg => hl') (fun hg => h_n) rfl rfl) ?_
      refine o_yield rfl rfl rfl (y_val tok rfl) ?_
      refine o_end [1, 8, 10, 28, 29, 30] rfl ?_
      refine x_then ?_
      refine c_seq ?_
      refine c_seq ?_
      refine c_region ?_
      refine o_yield rfl rfl rfl (y_val tok rfl) ?_
      refine o_yield rfl rfl rfl (y_val tok rfl) ?_
      refine o_call (.a (.v _)) rfl rfl fnok64 rfl rfl rfl (fun hg E w1 hm => by exact numFits_c _ _ _) ?_
      refine o_yield rfl rfl rfl (y_val tok rfl) ?_
      refine o_end [1, 8, 10, 28, 29, 30, 37] rfl ?_
      refine x_then ?_
      refine c_cond rfl (fun h => ?_) (fun h => ?_)
      ·
        simp only [Bool.and_eq_true, Bool.or_eq_true, Bool.not_eq_true', Bool.or_eq_false_iff, Bool.and_eq_false_iff, decide_eq_true_eq, decide_eq_false_iff_not, beq_iff_eq, bne_iff_ne, Bool.not_eq_false', beq_eq_false_iff_ne, bne_eq_false_iff_eq, ne_eq, Decidable.not_not, Int.not_lt, Int.not_le] at h
        refine c_seq ?_
        refine c_region ?_
        refine o_yield rfl rfl rfl (y_val tok rfl) ?_
        refine o_yield rfl rfl rfl (y_val tok rfl) ?_
        refine o_end [6, 7] rfl ?_
        refine x_then ?_
        refine c_ret ?_
        refine x_then_ret ?_
        refine x_block_ret ?_
        refine x_then_ret ?_
        refine x_then_ret ?_
        refine x_block_ret ?_
        refine x_then_ret ?_
        refine b_ret tok rfl ?_
        intro E w' hm _
        exact ⟨.inr ⟨putOk_no h_n h, rfl⟩, hm.below (Vw.le.refl _)⟩
      ·
        simp only [Bool.and_eq_true, Bool.or_eq_true, Bool.not_eq_true', Bool.or_eq_false_iff, Bool.and_eq_false_iff, decide_eq_true_eq, decide_eq_false_iff_not, beq_iff_eq, bne_iff_ne, Bool.not_eq_false', beq_eq_false_iff_ne, bne_eq_false_iff_eq, ne_eq, Decidable.not_not, Int.not_lt, Int.not_le] at h
        refine c_skip ?_
        refine x_then ?_
        refine c_seq ?_
        refine c_region ?_
        refine o_yield rfl rfl rfl (y_val tok rfl) ?_
        refine o_yield rfl rfl rfl (y_val tok rfl) ?_
        refine o_end [1, 8, 10, 28, 29, 30, 38, 39] rfl ?_
        refine x_then ?_
        refine c_block ?_
        have hf := h
        clear h
        have hf' := hf
        simp only [fitsB, Bool.and_eq_true, decide_eq_true_eq] at hf'
        obtain ⟨⟨_, hn0⟩, hn1⟩ := hf'
        obtain ⟨q, rfl⟩ : ∃ q : Nat, n = q := ⟨n.toNat, by omega⟩
        have hq : q ≤ 1099511627776 := by unfold mostN at hn1; omega
        have el : leTake q 0 = [] := rfl
        refine c_loopK [1, 10, 28, 29, 30, 38] [0] rfl rfl (σ := Nat) (fun j => [(8, .a (.row 0)), (39, .a (.v (I j)))]) (fun j => [(0, .row 5 1 (putL bl m (ls.take i) ++ leTake q j).length ((putL bl m (ls.take i) ++ leTake q j).flatMap encByte))]) (fun j => j ≤ m) (fun j => m - j) (0) (by omega) (by repeat (first | exact SubF.nil | refine SubF.cons rfl ?_ | refine SubF.cons (by simp only [el, List.append_nil]; first | done | rfl) ?_)) (by repeat (first | exact SubO.nil | refine SubO.cons rfl ?_ | refine SubO.cons (by simp only [el, List.append_nil]; first | done | rfl) ?_)) rfl ?_
        rintro j hj
        refine c_seq ?_
        refine c_region ?_
        refine o_yield rfl rfl rfl (y_val tok rfl) ?_
        refine o_end [1, 8, 10, 28, 29, 30, 38, 39, 40] rfl ?_
        refine x_then ?_
        refine c_seq ?_
        refine c_cond rfl (fun h => ?_) (fun h => ?_)
        ·
          simp only [Bool.and_eq_true, Bool.or_eq_true, Bool.not_eq_true', Bool.or_eq_false_iff, Bool.and_eq_false_iff, decide_eq_true_eq, decide_eq_false_iff_not, beq_iff_eq, bne_iff_ne, Bool.not_eq_false', beq_eq_false_iff_ne, bne_eq_false_iff_eq, ne_eq, Decidable.not_not, Int.not_lt, Int.not_le] at h
          refine c_skip ?_
          refine x_then ?_
          refine c_seq ?_
          refine c_block ?_
          refine c_seq ?_
          refine c_region ?_
          refine o_yield rfl rfl rfl (y_val tok rfl) ?_
          refine o_yield rfl rfl rfl (y_val tok rfl) ?_
          refine o_end [1, 8, 10, 11, 28, 29, 30, 38, 39] rfl ?_
          refine x_then ?_
          refine c_region ?_
          refine o_yield rfl rfl rfl (y_val tok rfl) ?_
          refine o_yield rfl rfl rfl (y_val tok rfl) ?_
          refine o_yield rfl rfl rfl (y_val tok rfl) ?_
          refine o_yield rfl rfl rfl (y_val tok rfl) ?_
          have hqj : q / pw j ≤ q := Nat.div_le_self _ _
          have hlt := leTake_succ q j
          obtain ⟨r, hr⟩ : ∃ r, q / pw j = r := ⟨_, rfl⟩
          have hsh : (q : Int) / 2 ^ (8 * (j : Int)).toNat = (r : Int) := by
            rw [show (8 * (j : Int)).toNat = 8 * j by omega, ← hr, pw_two]
            norm_cast
          rw [hr] at hqj hlt
          rw [wrapI (n := 8 * (j : Int)) (by omega) (by omega)]
          refine o_yield rfl rfl rfl (y_shr rfl (fun hg => ⟨by omega, by show 8 * (j : Int) ≤ 64; omega⟩)) ?_
          refine o_yield rfl rfl rfl (y_val tok rfl) ?_
          refine o_yield rfl rfl rfl (y_val tok rfl) ?_
          rw [hsh, and255 (x := r) (by omega), wrapU8 (n := r % 256) (by omega), ← ofNat_mod]
          refine o_step rfl rfl rfl rfl rfl (s_bs tok 1 rfl rfl rfl) (fun _ _ => ?_)
          refine o_step rfl rfl rfl rfl rfl (s_app tok [.int .u8 (UInt8.ofNat (r % 256)).toNat] rfl (fun E w hm => ownsRow_src (hm.row 1 _ _ _ _ rfl)) (fun _ _ _ => bytes_ones [_]) (by dsimp only; simp only [List.length_append, leTake_len]; omega)) (fun _ _ => ?_)
          refine o_yield rfl rfl rfl (y_val tok rfl) ?_
          refine o_end [1, 8, 10, 28, 29, 30, 38, 39] rfl ?_
          refine x_block ?_
          refine x_then ?_
          refine c_region ?_
          refine o_yield rfl rfl rfl (y_val tok rfl) ?_
          refine o_yield rfl rfl rfl (y_val tok rfl) ?_
          refine o_end [1, 8, 10, 28, 29, 30, 38, 39] rfl ?_
          refine x_then ?_
          rw [flat_snoc, List.append_assoc, ← hlt, show (putL bl m (ls.take i) ++ leTake q j).length + 1 = (putL bl m (ls.take i) ++ leTake q (j + 1)).length by simp only [List.length_append, leTake_len]; omega]
          refine k_swap 0 2 rfl ?_
          rw [wrapI (n := (j : Int) + 1) (by omega) (by omega)]
          refine x_round (j + 1) (by omega) (by first | omega | (dsimp only; omega)) (by repeat (first | exact SubF.nil | refine SubF.cons rfl ?_)) (by repeat (first | exact SubO.nil | refine SubO.cons rfl ?_)) rfl (Vw.le.refl _)
        ·
          simp only [Bool.and_eq_true, Bool.or_eq_true, Bool.not_eq_true', Bool.or_eq_false_iff, Bool.and_eq_false_iff, decide_eq_true_eq, decide_eq_false_iff_not, beq_iff_eq, bne_iff_ne, Bool.not_eq_false', beq_eq_false_iff_ne, bne_eq_false_iff_eq, ne_eq, Decidable.not_not, Int.not_lt, Int.not_le] at h
          refine c_exit ?_
          refine x_then_exit ?_
          refine x_then_exit ?_
          refine x_block_hit ?_
          refine x_block ?_
          refine x_then ?_
          refine c_region ?_
          refine o_yield rfl rfl rfl (y_val tok rfl) ?_
          refine o_yield rfl rfl rfl (y_val tok rfl) ?_
          refine o_end [1, 8, 28, 29, 30] rfl ?_
          refine x_then ?_
          have hjm : j = m := by omega
          subst hjm
          have hnew : putL bl j (ls.take i) ++ leTake q j = putL bl j (ls.take (i + 1)) := by
            rw [take_succ_at h_n, putL, putL, List.flatMap_append, List.append_assoc]
            simp [leB]
          have hsz2 : (putL bl j (ls.take (i + 1))).length ≤ bl.length + 6 * (i + 1) := by rw [← hnew, List.length_append, leTake_len]; omega
          rw [hnew, wrapI (n := (i : Int) + 1) (by omega) (by omega)]
          refine x_round (i + 1) (⟨by omega, ahead_succ h_n hall hf, hsz2⟩) (by first | omega | (dsimp only; omega)) (by repeat (first | exact SubF.nil | refine SubF.cons rfl ?_)) (by repeat (first | exact SubO.nil | refine SubO.cons rfl ?_)) rfl (Vw.le.refl _)
    ·
      simp only [Bool.and_eq_true, Bool.or_eq_true, Bool.not_eq_true', Bool.or_eq_false_iff, Bool.and_eq_false_iff, decide_eq_true_eq, decide_eq_false_iff_not, beq_iff_eq, bne_iff_ne, Bool.not_eq_false', beq_eq_false_iff_ne, bne_eq_false_iff_eq, ne_eq, Decidable.not_not, Int.not_lt, Int.not_le] at h
      refine c_exit ?_
      refine x_then_exit ?_
      refine x_then_exit ?_
      refine x_block_hit ?_
      refine x_then ?_
      refine c_seq ?_
      refine c_region ?_
      refine o_yield rfl rfl rfl (y_val tok rfl) ?_
      refine o_yield rfl rfl rfl (y_val tok rfl) ?_
      refine o_yield rfl rfl rfl (y_val tok rfl) ?_
      refine o_end [6, 7] rfl ?_
      refine x_then ?_
      refine c_ret ?_
      refine b_ret tok rfl ?_
      have hil : i = ls.length := by omega
      subst hil
      rw [List.take_length]
      intro E w' hm _
      have hok : putOk m ls = true := by
        rw [putOk, hw, Bool.true_and]
        exact all_of_ahead hall
      exact ⟨.inl ⟨hok, E.κ 0, rfl, hm.rowFresh (Vw.le.refl _) (l := 0) rfl⟩, hm.below (Vw.le.refl _)⟩

section
variable {o : Oper} {n : Nat} {F : Frame0} {C : List Nat} {O : Own} {nl : Nat} {V : Vw}

/-- Putting what fits: the program's. -/
theorem s_numPut {p : List (Nat × Bool)} (bl : List UInt8) (k : Int) (ls : List Int) {ss : List SV} (hv : evalC F p o.op = some (51, ss)) (hok : putOk k ls = true)
    (hbn : bl.length ≤ 1099511627776) (hln : ls.length ≤ 1099511627776)
    (hargs : ∀ E w, Mem E O nl V w → ∃ bv lv, ss.map (SV.den E) = [bv, I k, lv] ∧ SlOf (vw w) encByte 1 bv bl ∧ SlOf (vw w) encI64 1 lv ls) :
    StepTo Try.prog o p n F C O nl V (σ := Unit) (fun _ => True) (fun _ => .tup [.row nl, .v (I 0)]) (fun _ => (nl, .row 5 1 (putL bl k ls).length ((putL bl k ls).flatMap encByte)) :: O) (nl + 1) (fun _ => V) := by
  refine s_callR (fun _ => True) (fun _ => .tup [.row nl, .v (I 0)]) 5 1 (fun _ => (putL bl k ls).length) (fun _ => (putL bl k ls).flatMap encByte) hv fnok51 (fun _ => by simp [SV.ok, allOk, A.ok, blt_iff]) ?_
  intro E w hm
  obtain ⟨bv, lv, ha, hb, hl⟩ := hargs E w hm
  rw [ha]
  refine (numPut_c (vw w) bv bl k lv ls w (Vw.le.refl _) hb hl hbn hln).mono ?_
  rintro e w' ⟨⟨_, v, rfl, hown⟩ | ⟨hno, _⟩, hbl⟩
  · exact ⟨(), v, by simp [SV.den, A.den, Env.setκ], hown, hbl, trivial⟩
  · rw [hok] at hno; cases hno
end
end Go.Proofs.Ytifgmaeileiebaa

/- Sectors that are sealed: the program's. -/
set_option linter.unusedVariables false
set_option linter.unusedSimpArgs false
set_option maxRecDepth 100000
namespace Go.Proofs.Ytifgmaeileiebaa
open Go Go.Eng Go.RowKit

theorem bput_c (k : Int) (bl : List UInt8) (bv : Value) (ls : List Int) (lv : Value) (b e0 : Nat) (tl : List Value) (w : World) (hb : w.heap[b]? = some (.cells (bv :: I 0 :: tl).toArray e0 (0, 0)))
    (hs : SlOf ((vw w).del b) encByte 1 bv bl) (hl : SlOf ((vw w).del b) encI64 1 lv ls) (hok : putOk k ls = true) (hbn : bl.length ≤ 1099511627776) (hln : ls.length ≤ 1099511627776) :
    Calls Try.prog 65 #[.pointer (some ⟨b, 0, none⟩), I k, lv] w fun e w' => e = .returned (.tuple #[]) ∧ ∃ v, Go.Eng.Touch (· = b) w w' ∧ w'.ownsRow w.heap.size 5 1 v (putL bl k ls).length ((putL bl k ls).flatMap encByte) ∧
      w'.heap[b]? = some (.cells (v :: I 0 :: tl).toArray e0 (0, 0)) := by
  refine enter1 [.a (.ptr 0 0), .a (.v (I k)), .a (.v lv)] hb Try.func65 rfl rfl rfl rfl ?_
  refine c_seq ?_
  refine c_region ?_
  refine o_yield rfl rfl rfl (y_val tok rfl) ?_
  refine o_yield rfl rfl rfl (y_val tok rfl) ?_
  refine o_yield rfl rfl rfl (y_val tok rfl) ?_
  refine o_yield rfl rfl rfl (y_val tok rfl) ?_
  refine o_yield rfl rfl rfl (y_val tok rfl) ?_
  refine o_yield rfl rfl rfl (y_val tok rfl) ?_
  refine o_step rfl rfl rfl rfl rfl (s_numPut bl k ls rfl hok hbn hln (fun E w1 hm => ⟨bv, lv, rfl, hs.mono hm.leV, hl.mono hm.leV⟩)) (fun _ _ => ?_)
  refine o_yield rfl rfl rfl (y_val tok rfl) ?_
  refine o_yield rfl rfl rfl (y_val tok rfl) ?_
  refine o_yield rfl rfl rfl (y_val tok rfl) ?_
  refine o_yield rfl rfl rfl (y_val tok rfl) ?_
  refine o_yield rfl rfl rfl (y_val tok rfl) ?_
  refine o_end [0, 6, 7] rfl ?_
  refine x_then ?_
  refine c_seq ?_
  refine c_seq ?_
  refine c_region ?_
  refine o_yield rfl rfl rfl (y_val tok rfl) ?_
  refine o_yield rfl rfl rfl (y_val tok rfl) ?_
  refine o_end [0, 6, 19] rfl ?_
  refine x_then ?_
  refine c_cond rfl (fun h => ?_) (fun h => ?_)
  · exact absurd h (by decide)
  ·
    refine c_skip ?_
    refine x_then ?_
    refine c_region ?_
    refine o_yield rfl rfl rfl (y_val tok rfl) ?_
    refine o_yield rfl rfl rfl (y_val tok rfl) ?_
    refine o_yield rfl rfl rfl (y_val tok rfl) ?_
    refine o_yield rfl rfl rfl (y_val tok rfl) ?_
    refine o_store tok rfl rfl rfl (by first | exact ⟨trivial, trivial⟩ | (repeat' first | exact trivial | exact rfl | apply And.intro); done | simp [onesP, oneP, lk, Value.oneCell']) ?_
    refine o_end [] rfl ?_
    refine b_end tok rfl ?_
    intro E w' hm _
    obtain ⟨h1, h2⟩ := back1 hm (Vw.le.refl _) rfl rfl rfl
    refine ⟨rfl, E.κ 3, h1, hm.rowFreshD (Vw.le.refl _) (l0 := 0) rfl (hm.pin 1 0 _ rfl).1 (l := 3) rfl, ?_⟩
    rw [h2]
    simp only [List.map_cons, (den_plain E tl).1]
    rfl

section
variable {o : Oper} {n : Nat} {F : Frame0} {C : List Nat} {O : Own} {nl : Nat} {V : Vw}

/-- Putting what fits behind a receiver's bytes: the bytes a row of one's own. -/
theorem s_bput {p : List (Nat × Bool)} (l r e0 e1 : Nat) (bl : List UInt8) (k : Int) (ls : List Int) (tl : List Value) (ss : List SV) (hv : evalC F p o.op = some (65, ss)) (hss : ∀ E, ∃ lv, ss.map (SV.den E) = [.pointer (some ⟨E.ρ l, 0, none⟩), I k, lv] ∧ ∀ w, Mem E O nl V w → SlOf ((vw w).del (E.ρ l)) encI64 1 lv ls)
    (hl : lk O l = some (.lit (.row r :: .v (I 0) :: tl.map .v) e0)) (hr : lk O r = some (.row e1 1 bl.length (bl.flatMap encByte))) (hok : putOk k ls = true) (hbn : bl.length ≤ 1099511627776) (hln : ls.length ≤ 1099511627776) :
    StepTo Try.prog o p n F C O nl V (σ := Unit) (fun _ => True) (fun _ => .tup []) (fun _ => (l, .lit (.row nl :: .v (I 0) :: tl.map .v) e0) :: (nl, .row 5 1 (putL bl k ls).length ((putL bl k ls).flatMap encByte)) :: O) (nl + 1) (fun _ => V) := by
  refine s_callWR (fun _ => True) (fun _ => .tup []) l e0 5 1 (fun _ => (putL bl k ls).length) (fun _ => (putL bl k ls).flatMap encByte) (fun _ => .row nl :: .v (I 0) :: tl.map .v) hv fnok65 hl
    (fun _ => by simp only [allOk, A.ok, blt_iff, Bool.and_eq_true, Bool.true_and]; exact ⟨by omega, (den_plain E0 tl).2 _⟩) (fun _ => rfl) ?_
  intro E w hm hb
  obtain ⟨lv, ha, hlv⟩ := hss E
  rw [ha]
  refine (bput_c k bl (E.κ r) ls lv (E.ρ l) e0 tl w (by rw [hb]; simp only [List.map_cons, (den_plain E tl).1]; rfl) (hm.rowOfDel r hl hr (fun _ => rfl)) (hlv w hm) hok hbn hln).mono ?_
  rintro e w' ⟨rfl, v, ht, hown, hv'⟩
  refine ⟨(), v, rfl, ht, hown, ?_, trivial⟩
  rw [hv']
  simp only [List.map_cons, (den_plain _ tl).1]
  simp [A.den, Env.setκ]
end

theorem putOk_four {c : Nat} (h : c < 4294967296) : putOk 4 [(c : Int)] = true := by
  have : mostN (4 : Int).toNat = 4294967295 := by decide
  simp only [putOk, List.all_cons, List.all_nil, Bool.and_true, fitsB, this]
  simp [widthB]
  omega

theorem putL_one (bl : List UInt8) (k : Int) (n : Int) : putL bl k [n] = bl ++ leB k n := by simp [putL]

theorem sealed_c (kind : Int) (hk : R8 kind) (s : ByteArray) (hs : s.size ≤ maxLen) (bv : Value) (b : Nat) (w : World) (hb : w.heap[b]? = some (.cells [bv, I 0, I8 kind].toArray 104 (0, 0))) :
    Calls Try.prog 52 #[.pointer (some ⟨b, 0, none⟩), S s] w fun e w' => e = .returned (.tuple #[S (sealS kind s).1, I (sealS kind s).2]) ∧ ∃ vs : List Value, Go.Eng.Touch (· = b) w w' ∧ w'.heap[b]? = some (.cells vs.toArray 104 (0, 0)) := by
  unfold R8 at hk
  simp only [maxLen] at hs
  refine enter1 [.a (.ptr 0 0), .a (.v (S s))] hb Try.func52 rfl rfl rfl rfl ?_
  refine c_seq ?_
  refine c_region ?_
  refine o_yield rfl rfl rfl (y_val tok rfl) ?_
  refine o_yield rfl rfl rfl (y_val tok rfl) ?_
  refine o_end [0, 1] rfl ?_
  refine x_then ?_
  refine c_seq ?_
  refine c_seq ?_
  refine c_region ?_
  refine o_yield rfl rfl rfl (y_val tok rfl) ?_
  refine o_yield rfl rfl rfl (y_val tok rfl) ?_
  refine o_yield rfl rfl rfl (y_val tok rfl) ?_
  refine o_yield rfl rfl rfl (y_val tok rfl) ?_
  refine o_yield rfl rfl rfl (y_val tok rfl) ?_
  refine o_yield rfl rfl rfl (y_val tok rfl) ?_
  refine o_yield rfl rfl rfl (y_val tok rfl) ?_
  refine o_yield rfl rfl rfl (y_val tok rfl) ?_
  refine o_yield rfl rfl rfl (y_val tok rfl) ?_
  refine o_yield rfl rfl rfl (y_val tok rfl) ?_
  refine o_end [0, 1, 15] rfl ?_
  refine x_then ?_
  refine c_cond rfl (fun h => ?_) (fun h => ?_)
  ·
    simp only [Bool.and_eq_true, Bool.or_eq_true, Bool.not_eq_true', Bool.or_eq_false_iff, Bool.and_eq_false_iff, decide_eq_true_eq, decide_eq_false_iff_not, beq_iff_eq, bne_iff_ne, Bool.not_eq_false', beq_eq_false_iff_ne, bne_eq_false_iff_eq, ne_eq, Decidable.not_not, Int.not_lt, Int.not_le] at h
    refine c_seq ?_
    refine c_region ?_
    refine o_yield rfl rfl rfl (y_val tok rfl) ?_
    refine o_yield rfl rfl rfl (y_val tok rfl) ?_
    refine o_end [4, 5] rfl ?_
    refine x_then ?_
    refine c_ret ?_
    refine x_then_ret ?_
    refine b_ret tok rfl ?_
    intro E w' hm _
    obtain ⟨h1, h2⟩ := back1 hm (Vw.le.refl _) rfl rfl rfl
    refine ⟨?_, _, h1, h2⟩
    rw [sealS, if_pos (by omega)]
    rfl
  ·
    simp only [Bool.and_eq_true, Bool.or_eq_true, Bool.not_eq_true', Bool.or_eq_false_iff, Bool.and_eq_false_iff, decide_eq_true_eq, decide_eq_false_iff_not, beq_iff_eq, bne_iff_ne, Bool.not_eq_false', beq_eq_false_iff_ne, bne_eq_false_iff_eq, ne_eq, Decidable.not_not, Int.not_lt, Int.not_le] at h
    refine c_skip ?_
    refine x_then ?_
    refine c_seq ?_
    refine c_region ?_
    refine o_yield rfl rfl rfl (y_val tok rfl) ?_
    refine o_yield rfl rfl rfl (y_val tok rfl) ?_
    refine o_yield rfl rfl rfl (y_val tok rfl) ?_
    refine o_yield rfl rfl rfl (y_val tok rfl) ?_
    refine o_yield rfl rfl rfl (y_val tok rfl) ?_
    refine o_yield rfl rfl rfl (y_val tok rfl) ?_
    obtain ⟨h1, h2⟩ := h
    have hsz := size_list s
    have hk8 : (kindOf8 kind).toNat = kind.toNat := by
      rw [kindOf8, UInt8.toNat_ofNat']; omega
    rw [show IntKind.u8.wrap kind = (((kindOf8 kind).toNat : Nat) : Int) by rw [hk8, IntKind.wrap_u8']; omega]
    refine o_step rfl rfl rfl rfl rfl (s_bs tok 1 rfl rfl rfl) (fun _ _ => ?_)
    refine o_yield rfl rfl rfl (y_val tok rfl) ?_
    refine o_yield rfl rfl rfl (y_val tok rfl) ?_
    refine o_yield rfl rfl rfl (y_val tok rfl) ?_
    refine o_store tok rfl rfl rfl (by first | exact ⟨trivial, trivial⟩ | (repeat' first | exact trivial | exact rfl | apply And.intro); done | simp [onesP, oneP, lk, Value.oneCell']) ?_
    refine o_end [0, 1] rfl ?_
    refine x_then ?_
    refine c_seq ?_
    refine c_region ?_
    refine o_yield rfl rfl rfl (y_val tok rfl) ?_
    refine o_yield rfl rfl rfl (y_val tok rfl) ?_
    refine o_yield rfl rfl rfl (y_val tok rfl) ?_
    refine o_yield rfl rfl rfl (y_val tok rfl) ?_
    refine o_yield rfl rfl rfl (y_val tok rfl) ?_
    refine o_step rfl rfl rfl rfl rfl (s_bs tok 1 rfl rfl rfl) (fun _ _ => ?_)
    refine o_step rfl rfl rfl rfl rfl (s_bput 0 3 104 5 [kindOf8 kind] 2 [(s.size : Int)] [I8 kind] _ rfl (fun E => ⟨E.κ 4, rfl, fun w hm => hm.rowOfDel (enc := encI64) (L := [(s.size : Int)]) 4 rfl rfl (fun _ => rfl)⟩) rfl rfl (putOk_two (by omega)) (by simp) (by simp)) (fun _ _ => ?_)
    refine o_end [0, 1] rfl ?_
    refine x_then ?_
    refine c_seq ?_
    refine c_region ?_
    refine o_yield rfl rfl rfl (y_val tok rfl) ?_
    refine o_yield rfl rfl rfl (y_val tok rfl) ?_
    refine o_yield rfl rfl rfl (y_val tok rfl) ?_
    refine o_yield rfl rfl rfl (y_val tok rfl) ?_
    refine o_yield rfl rfl rfl (y_val tok rfl) ?_
    refine o_yield rfl rfl rfl (y_val tok rfl) ?_
    refine o_yield rfl rfl rfl (y_val tok rfl) ?_
    have hb3 : (putL [kindOf8 kind] 2 [(s.size : Int)]).length = 3 := by simp [putL, leB, leTake_len]
    refine o_step rfl rfl rfl rfl rfl (s_app tok (byteVs s) rfl (fun _ _ _ => Src.str s) (fun _ _ _ => by rw [byteVs_eq]; exact bytes_ones _) (by dsimp only; rw [hb3]; omega)) (fun _ _ => ?_)
    refine o_yield rfl rfl rfl (y_val tok rfl) ?_
    refine o_yield rfl rfl rfl (y_val tok rfl) ?_
    refine o_yield rfl rfl rfl (y_val tok rfl) ?_
    refine o_store tok rfl rfl rfl (by first | exact ⟨trivial, trivial⟩ | (repeat' first | exact trivial | exact rfl | apply And.intro); done | simp [onesP, oneP, lk, Value.oneCell']) ?_
    refine o_end [0] rfl ?_
    refine x_then ?_
    refine c_seq ?_
    refine c_held [] ([]) mixed (by repeat (first | exact SubO.nil | refine SubO.cons rfl ?_)) (by first | rfl | simp [okCels, allOk_plain]) ?_
    refine t_take 0 rfl (by kernel_rfl) rfl rfl rfl (y_val tok rfl) rfl ?_
    refine t_take 1 rfl (by kernel_rfl) rfl rfl rfl (y_val tok rfl) rfl ?_
    refine t_take 2 rfl (by kernel_rfl) rfl rfl rfl (y_val tok rfl) rfl ?_
    refine t_take 3 rfl (by kernel_rfl) rfl rfl rfl (y_val tok rfl) rfl ?_
    refine t_take 4 rfl (by kernel_rfl) rfl rfl rfl (y_val tok rfl) rfl ?_
    refine t_take 5 rfl (by kernel_rfl) rfl rfl rfl (y_val tok rfl) rfl ?_
    refine t_take 6 rfl (by kernel_rfl) rfl rfl rfl (y_val tok rfl) rfl ?_
    refine t_go ?_
    refine h_one 7 (by kernel_rfl) ?_
    refine h_yield 7 rfl rfl rfl rfl (y_val tok rfl) ?_
    refine h_one 8 (by kernel_rfl) ?_
    rw [byteVs_eq, ← List.flatMap_append, ← hsz, ← List.length_append, show putL [kindOf8 kind] 2 [(s.data.toList.length : Int)] ++ s.data.toList = body (kindOf8 kind) s.data.toList from rfl]
    have hbl := body_len (kindOf8 kind) s.data.toList
    obtain ⟨B, hB⟩ : ∃ B, body (kindOf8 kind) s.data.toList = B := ⟨_, rfl⟩
    rw [hB] at hbl ⊢
    have hc := crcOf_lt B
    refine h_call 8 (.a (.v _)) rfl rfl rfl fnok61 rfl rfl rfl (fun hg E w1 hm => by exact sum_crc _ _ B _ (Vw.le.refl _) (hm.rowOf 6 rfl (fun _ => rfl)) (by simp only [maxLen]; omega)) ?_
    refine h_one 9 (by kernel_rfl) ?_
    refine h_to 9 rfl rfl rfl rfl rfl rfl (s_bs tok 1 rfl rfl rfl) (.inr fun _ _ => ⟨(by repeat (first | exact SubO.nil | refine SubO.cons rfl ?_)), rfl, (by first | exact Vw.le.refl _ | assumption)⟩) (fun _ _ => ?_)
    refine h_one 10 (by kernel_rfl) ?_
    refine h_to 10 rfl rfl rfl rfl rfl rfl (s_bput 0 6 104 5 B 4 [(crcOf B : Int)] [I8 kind] _ rfl (fun E => ⟨E.κ 7, rfl, fun w hm => hm.rowOfDel (enc := encI64) (L := [(crcOf B : Int)]) 7 rfl rfl (fun _ => rfl)⟩) rfl rfl (putOk_four hc) (by omega) (by simp)) (.inr fun _ _ => ⟨(by repeat (first | exact SubO.nil | refine SubO.cons rfl ?_)), rfl, (by first | exact Vw.le.refl _ | assumption)⟩) (fun _ _ => ?_)
    refine h_done [0] (by kernel_rfl) rfl ?_
    refine x_then ?_
    refine c_seq ?_
    refine c_draw mixed (by kernel_rfl) ?_
    refine d_yield rfl rfl rfl (y_val tok rfl) rfl ?_
    refine d_yield rfl rfl rfl (y_val tok rfl) rfl ?_
    refine d_yield rfl rfl rfl (y_val tok rfl) rfl ?_
    refine d_yield rfl rfl rfl (y_val tok rfl) rfl ?_
    refine d_yield rfl rfl rfl (y_val tok rfl) rfl ?_
    refine d_yield rfl rfl rfl (y_own (s := .a (.v (.string (strOf (putL B 4 [(crcOf B : Int)]))))) 8 rfl rfl (fun v V' hs => y_b2s tok _ rfl (fun hg => hs))) rfl ?_
    refine d_yield rfl rfl rfl (y_val tok rfl) rfl ?_
    refine d_yield rfl rfl rfl (y_val tok rfl) rfl ?_
    refine d_yield rfl rfl rfl (y_val tok rfl) rfl ?_
    refine d_yield rfl rfl rfl (y_val tok rfl) rfl ?_
    refine d_yield rfl rfl rfl (y_val tok rfl) rfl ?_
    refine d_yield rfl rfl rfl (y_val tok rfl) rfl ?_
    refine d_yield rfl rfl rfl (y_val tok rfl) rfl ?_
    refine d_end [4, 5] rfl ?_
    refine x_then ?_
    refine c_ret ?_
    refine b_ret tok rfl ?_
    intro E w' hm _
    obtain ⟨h3, h4⟩ := back1 hm (Vw.le.refl _) rfl rfl rfl
    refine ⟨?_, _, h3, h4⟩
    rw [sealS, if_neg (by omega), sealL, hB]
    show Ending.returned (.tuple #[S (strOf (putL B 4 [(crcOf B : Int)])), I 0]) = _
    rw [putL_one, leB]
    rfl

theorem sealSeal_c (kind : Int) (hk : R8 kind) (s : ByteArray) (hs : s.size ≤ maxLen) (w : World) :
    Calls Try.prog 38 #[I8 kind, S s] w fun e w' => e = .returned (.tuple #[S (sealS kind s).1, I (sealS kind s).2]) ∧ Below w.heap.size w w' := by
  refine enter (E := E0) (O := []) (nl := 0) (V := vw w) [.a (.v (I8 kind)), .a (.v (S s))] Try.func38 rfl rfl (mem0 E0 0 w) rfl rfl ?_
  refine c_seq ?_
  refine c_region ?_
  refine o_yield rfl rfl rfl (y_val tok rfl) ?_
  refine o_yield rfl rfl rfl (y_val tok rfl) ?_
  refine o_end [0, 1] rfl ?_
  refine x_then ?_
  refine c_seq ?_
  refine c_region ?_
  refine o_yield rfl rfl rfl (y_val tok rfl) ?_
  refine o_yield rfl rfl rfl (y_val tok rfl) ?_
  refine o_new tok rfl rfl rfl rfl ?_
  refine o_yield rfl rfl rfl (y_val tok rfl) ?_
  refine o_step rfl rfl rfl rfl rfl (s_callW (fun _ => True) (fun _ : List Value => .tup [.v (S (sealS kind s).1), .v (I (sealS kind s).2)]) 0 104 (fun vs => vs.map .v) rfl fnok52 rfl (fun vs => (den_plain E0 vs).2 _) (fun _ => rfl) (fun E w1 hm hb => (sealed_c kind hk s hs _ (E.ρ 0) w1 hb).mono fun e w' h => ⟨h.2.choose, h.1, h.2.choose_spec.1, by rw [(den_plain E _).1]; exact h.2.choose_spec.2, trivial⟩)) (fun _ _ => ?_)
  refine o_yield rfl rfl rfl (y_val tok rfl) ?_
  refine o_yield rfl rfl rfl (y_val tok rfl) ?_
  refine o_yield rfl rfl rfl (y_val tok rfl) ?_
  refine o_yield rfl rfl rfl (y_val tok rfl) ?_
  refine o_end [4, 5] rfl ?_
  refine x_then ?_
  refine c_ret ?_
  refine b_ret tok rfl ?_
  intro E w' hm _
  refine ⟨?_, hm.below (Vw.le.refl _)⟩
  rfl

/-- Numbers put one behind the other. -/
def packL : List Int → List Int → List UInt8
  | k :: ks, n :: ns => leB k n ++ packL ks ns
  | _, _ => []

theorem packL_succ : ∀ {ks ns : List Int} {i : Nat} {k n : Int}, ks[i]? = some k → ns[i]? = some n → packL (ks.take (i + 1)) (ns.take (i + 1)) = packL (ks.take i) (ns.take i) ++ leB k n
  | k0 :: ks, n0 :: ns, 0, k, n, hk, hn => by
    simp at hk hn
    subst hk hn
    simp [packL]
  | k0 :: ks, n0 :: ns, i + 1, k, n, hk, hn => by
    simp only [List.getElem?_cons_succ] at hk hn
    have := packL_succ hk hn
    simp only [List.take_succ_cons, packL, this, List.append_assoc]
  | [], _, _, _, _, hk, _ => by simp at hk
  | _ :: _, [], _, _, _, _, hn => by simp at hn

theorem putOk_of {k n : Int} (h : fitsB n k = true) : putOk k [n] = true := by
  have hw : widthB k = true := by
    simp only [fitsB, Bool.and_eq_true] at h; exact h.1.1
  simp [putOk, hw, h]

theorem pack_len : ∀ (ks ns : List Int), (packL ks ns).length ≤ (ks.map Int.toNat).sum
  | k :: ks, n :: ns => by
    have := pack_len ks ns
    simp only [packL, leB, List.length_append, leTake_len, List.map_cons, List.sum_cons]; omega
  | [], _ => by simp [packL]
  | _ :: _, [] => by simp [packL]

end Go.Proofs.Ytifgmaeileiebaa

/- Sealed numbers are read back; a sector of which one byte was turned is none: plain law. -/
set_option linter.unusedVariables false
set_option linter.unusedSimpArgs false
set_option maxRecDepth 100000
namespace Go.Proofs.Ytifgmaeileiebaa
open Go Go.Eng Go.RowKit

theorem leTo_congr_lt {f g : Nat → Nat} : ∀ {k : Nat}, (∀ j, j < k → f j = g j) → leTo f k = leTo g k
  | 0, _ => rfl
  | k + 1, h => by rw [leTo, leTo, leTo_congr_lt (fun j hj => h j (by omega)), h k (by omega)]

theorem leTo_digits (q : Nat) : ∀ k, leTo (fun j => q / pw j % 256) k = q % pw k
  | 0 => by simp [leTo, pw, Nat.mod_one]
  | k + 1 => by
    rw [leTo, leTo_digits q k, pw_succ, Nat.mod_mul, Nat.mul_comm (pw k)]

theorem strOf_append (a b : List UInt8) : strOf (a ++ b) = strOf a ++ strOf b := by
  apply str_ext
  simp [strOf]

theorem fits_nat {n k : Int} (h : fitsB n k = true) : ∃ q m : Nat, n = q ∧ k = m ∧ 1 ≤ m ∧ m ≤ 6 ∧ q < pw m ∧ q ≤ 1099511627776 := by
  simp only [fitsB, widthB, Bool.and_eq_true, decide_eq_true_eq] at h
  obtain ⟨⟨⟨h1, h2⟩, h3⟩, h4⟩ := h
  refine ⟨n.toNat, k.toNat, by omega, by omega, by omega, by omega, ?_, ?_⟩
  · have := pw_pos k.toNat
    unfold mostN at h4
    unfold pw
    unfold pw at this
    omega
  · unfold mostN at h4; omega

/-- A number that fits is read back. -/
theorem getSpec_pack {n k : Int} (h : fitsB n k = true) (R : List UInt8) : getSpec (strOf (leB k n ++ R)) 0 k = (n, 0) := by
  have hw : widthB k = true := by
    simp only [fitsB, Bool.and_eq_true] at h; exact h.1.1
  obtain ⟨q, m, rfl, rfl, h1, h2, h3, h4⟩ := fits_nat h
  have hd : leTo (digit (strOf (leB m q ++ R)) (0 : Int).toNat) (m : Int).toNat = q := by
    rw [Int.toNat_natCast, leTo_congr_lt (g := fun j => q / pw j % 256) (fun j hj => ?_), leTo_digits, Nat.mod_eq_of_lt h3]
    rw [digit, byteAt_list, strOf_list]
    have hlen : j < (leB (m : Int) (q : Int)).length := by rw [leB, leTake_len]; exact hj
    rw [List.getD, List.getElem?_append_left (by simpa using hlen)]
    simp only [leB, leTake, Int.toNat_natCast, Int.toNat_zero, Nat.zero_add, List.getElem?_map, List.getElem?_range hj, Option.map_some, Option.getD_some]
    exact ofNat_mod _
  rw [getSpec, if_neg (by simp [hw]), hd, if_neg (by rw [strOf_size, List.length_append, leB, leTake_len]; omega), if_neg (by omega)]

theorem restOf_pack (n k : Int) (R : List UInt8) : restOf (strOf (leB k n ++ R)) k.toNat = strOf R := by
  apply str_ext
  rw [restOf_list, strOf_list, strOf_list, List.drop_left']
  rw [leB, leTake_len]

theorem fldA_pack : ∀ (ks ns acc : List Int) (R : List UInt8), ks.length = ns.length → (∀ (i : Nat) (k n : Int), ks[i]? = some k → ns[i]? = some n → fitsB n k = true) → fldA acc (strOf (packL ks ns ++ R)) ks = some (acc ++ ns, strOf R)
  | [], [], acc, R, _, _ => by simp [fldA, packL]
  | k :: ks, n :: ns, acc, R, hl, h => by
    have h0 := h 0 k n rfl rfl
    rw [packL, List.append_assoc, fldA, getSpec_pack h0, if_neg (by simp), restOf_pack, fldA_pack ks ns (acc ++ [n]) R (by simpa using hl) (fun i k n hk hn => h (i + 1) k n (by simpa using hk) (by simpa using hn))]
    simp
  | [], _ :: _, _, _, hl, _ => by simp at hl
  | _ :: _, [], _, _, hl, _ => by simp at hl

theorem seal_shape (k : UInt8) (load : List UInt8) : ∃ b1 b2 T, sealL k load = k :: b1 :: b2 :: (load ++ T) ∧ T.length = 4 := by
  refine ⟨UInt8.ofNat (load.length / pw 0 % 256), UInt8.ofNat (load.length / pw 1 % 256), leTake (crcOf (body k load)) 4, ?_, leTake_len _ _⟩
  obtain ⟨c, hc⟩ : ∃ c, leTake (crcOf (body k load)) 4 = c := ⟨_, rfl⟩
  rw [sealL, hc, body_eq]
  rfl

theorem loadOf_seal (k : UInt8) (load : List UInt8) : loadOf (strOf (sealL k load)) = strOf load := by
  obtain ⟨b1, b2, T, h1, h2⟩ := seal_shape k load
  have hsz : (strOf (sealL k load)).size = 7 + load.length := by rw [strOf_size, sealL_len]
  apply str_ext
  rw [loadOf, ByteArray.data_extract, Array.toList_extract, List.extract_eq_take_drop, hsz, strOf_list, strOf_list, h1, show 7 + load.length - 4 - 3 = load.length by omega]
  simp

theorem byteAt_seal (k : UInt8) (load : List UInt8) : byteAt (strOf (sealL k load)) 0 = k := by
  obtain ⟨b1, b2, T, h1, _⟩ := seal_shape k load
  rw [byteAt_list, strOf_list, h1]
  rfl

theorem openB_seal {k : UInt8} {load : List UInt8} (h1 : 1 ≤ k.toNat) (h2 : k.toNat ≤ 127) (h3 : load.length ≤ 505) : openB (strOf (sealL k load)) = true := by
  have hsz : (strOf (sealL k load)).size = 7 + load.length := by rw [strOf_size, sealL_len]
  simp only [openB, Bool.and_eq_true, decide_eq_true_eq]
  rw [byteAt_seal, loadOf_seal, strOf_list, strOf_list, hsz]
  exact ⟨⟨⟨⟨by omega, by omega⟩, h1⟩, h2⟩, rfl⟩

theorem leTake_inj {a b : Nat} (ha : a < 4294967296) (hb : b < 4294967296) (h : leTake a 4 = leTake b 4) : a = b := by
  have hl := leTake_len b 4
  match hq : leTake b 4, hl with
  | [c0, c1, c2, c3], _ =>
    have h1 := (four_eq ha c0 c1 c2 c3).1 (h.trans hq)
    have h2 := (four_eq hb c0 c1 c2 c3).1 hq
    omega

theorem open_cut {s : ByteArray} (h : openB s = true) : s.data.toList.drop (s.size - 4) = leTake (crcOf (s.data.toList.take (s.size - 4))) 4 := by
  simp only [openB, Bool.and_eq_true, decide_eq_true_eq] at h
  obtain ⟨⟨⟨⟨h1, h2⟩, h3⟩, h4⟩, h5⟩ := h
  have hl := body_len (byteAt s 0) (loadOf s).data.toList
  have hls : (loadOf s).data.toList.length = s.size - 7 := by rw [size_list, loadOf, ByteArray.size_extract]; omega
  rw [← h5, sealL, List.take_left' (by omega), List.drop_left' (by omega)]

/-- One byte turned: no sector any more. -/
theorem open_flip {s s' : ByteArray} (h : openB s = true) {A R : List UInt8} {b c : UInt8} (hs : s.data.toList = A ++ b :: R) (hs' : s'.data.toList = A ++ c :: R) (hne : b ≠ c) : openB s' = false := by
  rw [Bool.eq_false_iff]
  intro h'
  have hz : s'.size = s.size := by rw [← size_list, ← size_list, hs, hs']; simp
  have e1 := open_cut h
  have e2 := open_cut h'
  rw [hz] at e2
  obtain ⟨n, hn⟩ : ∃ n, s.size - 4 = n := ⟨_, rfl⟩
  rw [hn] at e1 e2
  rw [hs] at e1
  rw [hs'] at e2
  by_cases hA : A.length < n
  · obtain ⟨j, hj⟩ : ∃ j, n = A.length + (j + 1) := ⟨n - A.length - 1, by omega⟩
    have ht : ∀ d : UInt8, (A ++ d :: R).take n = A ++ d :: R.take j := fun d => by rw [hj, List.take_append, List.take_of_length_le (by omega), Nat.add_sub_cancel_left, List.take_succ_cons]
    have hd : ∀ d : UInt8, (A ++ d :: R).drop n = R.drop j := fun d => by rw [hj, List.drop_append, List.drop_of_length_le (by omega), Nat.add_sub_cancel_left, List.drop_succ_cons, List.nil_append]
    rw [ht, hd] at e1 e2
    exact crcOf_ne A (R.take j) hne (leTake_inj (crcOf_lt _) (crcOf_lt _) (e1.symm.trans e2))
  · have ht : ∀ d : UInt8, (A ++ d :: R).take n = A.take n := fun d => List.take_append_of_le_length (by omega)
    rw [ht] at e1 e2
    have h3 : (A ++ b :: R) = (A ++ c :: R) := by
      rw [← List.take_append_drop n (A ++ b :: R), ← List.take_append_drop n (A ++ c :: R), ht, ht, e1, e2]
    simp only [List.append_cancel_left_eq, List.cons.injEq, and_true] at h3
    exact hne h3

theorem kind6 : kindOf8 6 = 6 := by decide

/-- A byte of which one bit is turned is another byte. -/
theorem byte_turn (x : UInt8) (j : Nat) (hj : j < 8) : ∃ c : UInt8, c ≠ x ∧ bits .xor .u8 ((x.toNat : Nat) : Int) (IntKind.u8.wrap (1 * 2 ^ j)) = ((c.toNat : Nat) : Int) := by
  have hp : (2 : Nat) ^ j < 256 := Nat.lt_of_lt_of_le (Nat.pow_lt_pow_right (by omega) hj) (by decide)
  have hx := UInt8.toNat_lt x
  have e : IntKind.u8.wrap (1 * 2 ^ j) = ((2 ^ j : Nat) : Int) := by
    rw [Int.one_mul, show (2 : Int) ^ j = ((2 ^ j : Nat) : Int) by norm_cast, wrapU8 hp]
  have hlt : x.toNat ^^^ 2 ^ j < 256 := Nat.xor_lt_two_pow (n := 8) hx hp
  refine ⟨UInt8.ofNat (x.toNat ^^^ 2 ^ j), fun h => ?_, ?_⟩
  · have h1 := congrArg UInt8.toNat h
    rw [UInt8.toNat_ofNat', Nat.mod_eq_of_lt (by omega)] at h1
    have h2 : (x.toNat ^^^ 2 ^ j) = x.toNat ^^^ 0 := by rw [h1, Nat.xor_zero]
    have h3 := xor_cancel_l h2
    have := Nat.pow_pos (n := j) (show 0 < 2 by omega)
    omega
  · rw [e, u8_xor_nat _ _ hx hp, UInt8.toNat_ofNat', Nat.mod_eq_of_lt (by omega)]

theorem list_split {L : List UInt8} {i : Nat} {b : UInt8} (h : L[i]? = some b) : L = L.take i ++ b :: L.drop (i + 1) ∧ ∀ c, L.set i c = L.take i ++ c :: L.drop (i + 1) := by
  have hlt := (List.getElem?_eq_some_iff.1 h).1
  have hb := (List.getElem?_eq_some_iff.1 h).2
  constructor
  · conv => lhs; rw [← List.take_append_drop i L, List.drop_eq_getElem_cons hlt, hb]
  · intro c
    rw [List.set_eq_take_append_cons_drop, if_pos hlt]
end Go.Proofs.Ytifgmaeileiebaa

/- Rows of blocks: the program's, and the document's. -/
set_option linter.unusedVariables false
set_option linter.unusedSimpArgs false
set_option maxRecDepth 100000
namespace Go.Proofs.Ytifgmaeileiebaa
open Go Go.Eng Go.RowKit

theorem sl_shape {V : Vw} {v : Value} {sz m : Nat} {xs : List Value} (h : IsSl V v sz m xs) : ∃ a n c, v = .slice a n c := by
  rcases h.2 with ⟨a, c, rfl, _⟩ | ⟨g, o, cap, cur, e, f, rfl, _⟩
  · exact ⟨_, _, _, rfl⟩
  · exact ⟨_, _, _, rfl⟩

end Go.Proofs.Ytifgmaeileiebaa

/- Commands: which may be, their bytes. -/
set_option linter.unusedVariables false
set_option linter.unusedSimpArgs false
set_option maxRecDepth 100000
namespace Go.Proofs.Ytifgmaeileiebaa
open Go Go.Eng Go.RowKit

def spanB (lo hi : Int) : Bool := (decide (0 ≤ lo) && decide (lo ≤ hi)) && decide (hi < 64)

/-- Whether a command has nothing but what its kind names. -/
def onlyB (c : Cmd) (sp mo de wa : Bool) : Bool :=
  ((((sp && spanB c.lo c.hi) || (!sp && (c.lo == 0 && c.hi == 0))) && ((mo && (c.mode == 1 || c.mode == 2)) || (!mo && c.mode == 0))) && ((de && keyB c.dead) || (!de && c.dead == 0))) && (c.was == 0 || (wa && keyB c.was))

/-- Whether a command may be. -/
def cmdB (c : Cmd) : Bool := ((keyB c.by_ && decide (1 ≤ c.serial)) && decide (c.serial ≤ 2147483648)) &&
  (if c.kind = 0 ∨ c.kind = 1 then onlyB c false false false false else if c.kind = 2 then onlyB c true true false false else if c.kind = 3 then onlyB c true false false false
    else if c.kind = 4 then onlyB c false false true true else if c.kind = 5 then onlyB c false false true false else false)

theorem eqF_cons {P : Program} {w : World} {d : Nat} {xs ys : Array Value} {f : Field} {fs : List Field} {a b : Value} {r rest : Bool} (hn : (f.name ≠ "_") = True) (ha : (part f.type xs f.offset).run P w = .ok a w)
    (hb : (part f.type ys f.offset).run P w = .ok b w) (hr : (Op.equalIn d f.type a b).run P w = .ok r w) (hrest : (Op.eqFields d xs ys fs).run P w = .ok rest w) : (Op.eqFields d xs ys (f :: fs)).run P w = .ok (r && rest) w := by
  rw [Op.eqFields, if_pos (by rw [hn]; trivial)]
  simp only [Sem.run_bind, ha, hb, hr, Result.andThen_ok]
  cases r <;> simp [hrest, Sem.run_pure]

theorem eqF_nil {P : Program} {w : World} {d : Nat} {xs ys : Array Value} : (Op.eqFields d xs ys []).run P w = .ok true w := by simp [Op.eqFields, Sem.run_pure]

theorem spanEq {op : BinOp} {ox oy : Operand} (a b c d : Int) (w : World) (hop : op = .eql ∨ op = .neq) :
    (do eqGuard op 40 ox oy (.agg #[I a, I b]) (.agg #[I c, I d]); binOp op 40 (.agg #[I a, I b]) (.agg #[I c, I d]) : Sem Value).run Try.prog w = .ok (.bool (if op = .eql then (a == c && b == d) else !(a == c && b == d))) w := by
  have hS : Try.prog.underlying 40 = some (.struct (Try.prog.fieldsOf 40)) := by kernel_rfl
  have hp : Try.prog.stoodInHeld 40 = false := by kernel_rfl
  have hg : Try.prog.eqGuardType Try.prog.depth 40 = false := by kernel_rfl
  have key : (Op.equalIn 10000 40 (.agg #[I a, I b]) (.agg #[I c, I d])).run Try.prog w = .ok (a == c && b == d) w := by
    have u3 := Try.underlying3
    have a3 := Try.isAgg3
    have z3 := Try.sizeOf3
    rw [show (10000 : Nat) = 9999 + 1 from rfl, run_equalIn_agg w 9999 40 _ _ hS hp]
    simp only [Program.fieldsOf, Try.underlying40]
    go_simp
    by_cases h1 : a = c <;> by_cases h2 : b = d <;> simp [h1, h2]
  rw [Sem.run_bind, run_eqGuard_agg w _ _ _ _ _ _ hg]
  rcases hop with rfl | rfl
  · simp only [Result.andThen_ok, run_eql_struct, key]; rfl
  · simp only [Result.andThen_ok, run_neq_struct, key]; rfl

def Cmd.eqB (a b : Cmd) : Bool := a.kind == b.kind && (a.by_ == b.by_ && (a.serial == b.serial && (a.dead == b.dead && (a.was == b.was && ((a.lo == b.lo && a.hi == b.hi) && a.mode == b.mode)))))

theorem Cmd.eqB_iff (a b : Cmd) : a.eqB b = true ↔ a = b := by
  obtain ⟨a1, a2, a3, a4, a5, a6, a7, a8⟩ := a
  obtain ⟨b1, b2, b3, b4, b5, b6, b7, b8⟩ := b
  simp [Cmd.eqB, and_assoc]

theorem cmdEq {op : BinOp} {ox oy : Operand} (a b : Cmd) (w : World) (hop : op = .eql ∨ op = .neq) :
    (do eqGuard op 42 ox oy a.val b.val; binOp op 42 a.val b.val : Sem Value).run Try.prog w = .ok (.bool (if op = .eql then a.eqB b else !(a.eqB b))) w := by
  have hS : Try.prog.underlying 42 = some (.struct (Try.prog.fieldsOf 42)) := by kernel_rfl
  have hp : Try.prog.stoodInHeld 42 = false := by kernel_rfl
  have hg : Try.prog.eqGuardType Try.prog.depth 42 = false := by kernel_rfl
  have hS2 : Try.prog.underlying 40 = some (.struct (Try.prog.fieldsOf 40)) := by kernel_rfl
  have hp2 : Try.prog.stoodInHeld 40 = false := by kernel_rfl
  have key2 : ∀ a b c d : Int, (Op.equalIn 9999 40 (.agg #[I a, I b]) (.agg #[I c, I d])).run Try.prog w = .ok (a == c && b == d) w := by
    intro a b c d
    have u3 := Try.underlying3
    have a3 := Try.isAgg3
    have z3 := Try.sizeOf3
    rw [show (9999 : Nat) = 9998 + 1 from rfl, run_equalIn_agg w 9998 40 _ _ hS2 hp2]
    simp only [Program.fieldsOf, Try.underlying40]
    go_simp
    by_cases h1 : a = c <;> by_cases h2 : b = d <;> simp [h1, h2]
  have key : (Op.equalIn 10000 42 a.val b.val).run Try.prog w = .ok (a.eqB b) w := by
    have u3 := Try.underlying3
    have a3 := Try.isAgg3
    have z3 := Try.sizeOf3
    have u8 := Try.underlying38
    have a8 := Try.isAgg38
    have z8 := Try.sizeOf38
    have asp := Try.isAgg40
    have zsp := Try.sizeOf40
    rw [show (10000 : Nat) = 9999 + 1 from rfl, run_equalIn_agg w 9999 42 _ _ hS hp]
    simp only [Program.fieldsOf, Try.underlying42]
    have e := fun (k : IntKind) (x y : Int) (t : Nat) (hu : Try.prog.underlying t = some (.int k)) => run_equalIn_int (P := Try.prog) w 9998 t k k x y hu
    refine (eqF_cons (by simp) (by go_simp; rfl) (by go_simp; rfl) (e .i8 _ _ _ u8) <| eqF_cons (by simp) (by go_simp; rfl) (by go_simp; rfl) (e .i64 _ _ _ u3) <| eqF_cons (by simp) (by go_simp; rfl) (by go_simp; rfl) (e .i64 _ _ _ u3) <|
      eqF_cons (by simp) (by go_simp; rfl) (by go_simp; rfl) (e .i64 _ _ _ u3) <| eqF_cons (by simp) (by go_simp; rfl) (by go_simp; rfl) (e .i64 _ _ _ u3) <| eqF_cons (a := .agg #[I a.lo, I a.hi]) (b := .agg #[I b.lo, I b.hi]) (by simp) (by go_simp) (by go_simp) (key2 _ _ _ _) <|
      eqF_cons (by simp) (by go_simp; rfl) (by go_simp; rfl) (e .i8 _ _ _ u8) eqF_nil).trans ?_
    rw [Bool.and_true]
    rfl
  rw [Sem.run_bind, run_eqGuard_agg w _ _ _ _ _ _ hg]
  rcases hop with rfl | rfl
  · simp only [Result.andThen_ok, run_eql_struct, key]; rfl
  · simp only [Result.andThen_ok, run_neq_struct, key]; rfl

abbrev orderCells (c : Cmd) (bv : Value) : List Value := c.cells ++ [bv]

theorem ospan_c (c : Cmd) (bv : Value) (b : Nat) (w : World) (hb : w.heap[b]? = some (.cells (orderCells c bv).toArray 81 (0, 0))) :
    Calls Try.prog 62 #[.pointer (some ⟨b, 0, none⟩)] w fun e w' => e = .returned (.bool (spanB c.lo c.hi)) ∧ Below w.heap.size w w' := by
  refine enter1 [.a (.ptr 0 0)] hb Try.func62 rfl rfl rfl rfl ?_
  refine c_seq ?_
  refine c_region ?_
  refine o_yield rfl rfl rfl (y_val tok rfl) ?_
  refine o_end [0] rfl ?_
  refine x_then ?_
  refine c_seq ?_
  refine c_draw mixed (by kernel_rfl) ?_
  refine d_yield rfl rfl rfl (y_val tok rfl) rfl ?_
  refine d_yield rfl rfl rfl (y_val tok rfl) rfl ?_
  refine d_yield rfl rfl rfl (y_val tok rfl) rfl ?_
  refine d_yield rfl rfl rfl (y_val tok rfl) rfl ?_
  refine d_yield rfl rfl rfl (y_val tok rfl) rfl ?_
  refine d_yield rfl rfl rfl (y_val tok rfl) rfl ?_
  refine d_yield rfl rfl rfl (y_val tok rfl) rfl ?_
  refine d_yield rfl rfl rfl (y_val tok rfl) rfl ?_
  refine d_yield rfl rfl rfl (y_val tok rfl) rfl ?_
  refine d_yield rfl rfl rfl (y_val tok rfl) rfl ?_
  refine d_yield rfl rfl rfl (y_val tok rfl) rfl ?_
  refine d_yield rfl rfl rfl (y_val tok rfl) rfl ?_
  refine d_yield rfl rfl rfl (y_val tok rfl) rfl ?_
  refine d_yield rfl rfl rfl (y_val tok rfl) rfl ?_
  refine d_yield rfl rfl rfl (y_val tok rfl) rfl ?_
  refine d_yield rfl rfl rfl (y_val tok rfl) rfl ?_
  refine d_yield rfl rfl rfl (y_val tok rfl) rfl ?_
  refine d_yield rfl rfl rfl (y_val tok rfl) rfl ?_
  refine d_yield rfl rfl rfl (y_val tok rfl) rfl ?_
  refine d_yield rfl rfl rfl (y_val tok rfl) rfl ?_
  refine d_yield rfl rfl rfl (y_val tok rfl) rfl ?_
  refine d_yield rfl rfl rfl (y_val tok rfl) rfl ?_
  refine d_yield rfl rfl rfl (y_val tok rfl) rfl ?_
  refine d_yield rfl rfl rfl (y_val tok rfl) rfl ?_
  refine d_yield rfl rfl rfl (y_val tok rfl) rfl ?_
  refine d_yield rfl rfl rfl (y_val tok rfl) rfl ?_
  refine d_yield rfl rfl rfl (y_val tok rfl) rfl ?_
  refine d_yield rfl rfl rfl (y_val tok rfl) rfl ?_
  refine d_yield rfl rfl rfl (y_val tok rfl) rfl ?_
  refine d_yield rfl rfl rfl (y_val tok rfl) rfl ?_
  refine d_yield rfl rfl rfl (y_val tok rfl) rfl ?_
  refine d_yield rfl rfl rfl (y_val tok rfl) rfl ?_
  refine d_end [2] rfl ?_
  refine x_then ?_
  refine c_ret ?_
  refine b_ret tok rfl ?_
  intro E w' hm _
  exact ⟨rfl, below1 hb hm (Vw.le.refl _) rfl rfl rfl⟩

theorem oonly_c (c : Cmd) (bv : Value) (sp mo de wa : Bool) (b : Nat) (w : World) (hb : w.heap[b]? = some (.cells (orderCells c bv).toArray 81 (0, 0))) :
    Calls Try.prog 50 #[.pointer (some ⟨b, 0, none⟩), .bool sp, .bool mo, .bool de, .bool wa] w fun e w' => e = .returned (.bool (onlyB c sp mo de wa)) ∧ Below w.heap.size w w' := by
  refine enter1 [.a (.ptr 0 0), .a (.v (.bool sp)), .a (.v (.bool mo)), .a (.v (.bool de)), .a (.v (.bool wa))] hb Try.func50 rfl rfl rfl rfl ?_
  refine c_seq ?_
  refine c_region ?_
  refine o_yield rfl rfl rfl (y_val tok rfl) ?_
  refine o_end [0, 1, 2, 3, 4] rfl ?_
  refine x_then ?_
  refine c_seq ?_
  refine c_region ?_
  refine o_yield rfl rfl rfl (y_val tok rfl) ?_
  refine o_yield rfl rfl rfl (y_val tok rfl) ?_
  refine o_yield rfl rfl rfl (y_val tok rfl) ?_
  refine o_call (.a (.v _)) rfl rfl fnok62 rfl rfl rfl (fun hg E w1 hm => by exact ospan_c c bv _ _ (hm.lit 0 _ _ rfl)) ?_
  refine o_yield rfl rfl rfl (y_val tok rfl) ?_
  refine o_yield rfl rfl rfl (y_val tok rfl) ?_
  refine o_yield rfl rfl rfl (y_val tok rfl) ?_
  refine o_yield rfl rfl rfl (y_val tok rfl) ?_
  refine o_yield rfl rfl rfl (y_val tok rfl) ?_
  refine o_yield rfl rfl rfl (y_val tok rfl) ?_
  refine o_yield rfl rfl rfl (y_val tok rfl) ?_
  refine o_yield rfl rfl rfl (y_val tok rfl) ?_
  refine o_yield rfl rfl rfl (y_val tok rfl) ?_
  refine o_yield rfl rfl rfl (y_val tok rfl) ?_
  refine o_yield rfl rfl rfl (y_val tok rfl) ?_
  refine o_yield rfl rfl rfl (y_seq (.bool (c.lo == 0 && c.hi == 0)) rfl (fun E w => spanEq c.lo c.hi 0 0 w (.inl rfl))) ?_
  refine o_yield rfl rfl rfl (y_val tok rfl) ?_
  refine o_yield rfl rfl rfl (y_val tok rfl) ?_
  refine o_yield rfl rfl rfl (y_val tok rfl) ?_
  refine o_yield rfl rfl rfl (y_val tok rfl) ?_
  refine o_yield rfl rfl rfl (y_val tok rfl) ?_
  refine o_yield rfl rfl rfl (y_val tok rfl) ?_
  refine o_yield rfl rfl rfl (y_val tok rfl) ?_
  refine o_yield rfl rfl rfl (y_val tok rfl) ?_
  refine o_yield rfl rfl rfl (y_val tok rfl) ?_
  refine o_yield rfl rfl rfl (y_val tok rfl) ?_
  refine o_yield rfl rfl rfl (y_val tok rfl) ?_
  refine o_yield rfl rfl rfl (y_val tok rfl) ?_
  refine o_yield rfl rfl rfl (y_val tok rfl) ?_
  refine o_yield rfl rfl rfl (y_val tok rfl) ?_
  refine o_yield rfl rfl rfl (y_val tok rfl) ?_
  refine o_yield rfl rfl rfl (y_val tok rfl) ?_
  refine o_yield rfl rfl rfl (y_val tok rfl) ?_
  refine o_yield rfl rfl rfl (y_val tok rfl) ?_
  refine o_yield rfl rfl rfl (y_val tok rfl) ?_
  refine o_yield rfl rfl rfl (y_val tok rfl) ?_
  refine o_yield rfl rfl rfl (y_val tok rfl) ?_
  refine o_yield rfl rfl rfl (y_val tok rfl) ?_
  refine o_yield rfl rfl rfl (y_val tok rfl) ?_
  refine o_yield rfl rfl rfl (y_val tok rfl) ?_
  refine o_yield rfl rfl rfl (y_val tok rfl) ?_
  refine o_yield rfl rfl rfl (y_val tok rfl) ?_
  refine o_yield rfl rfl rfl (y_val tok rfl) ?_
  refine o_yield rfl rfl rfl (y_val tok rfl) ?_
  refine o_yield rfl rfl rfl (y_val tok rfl) ?_
  refine o_yield rfl rfl rfl (y_val tok rfl) ?_
  refine o_yield rfl rfl rfl (y_val tok rfl) ?_
  refine o_yield rfl rfl rfl (y_val tok rfl) ?_
  refine o_yield rfl rfl rfl (y_val tok rfl) ?_
  refine o_yield rfl rfl rfl (y_val tok rfl) ?_
  refine o_yield rfl rfl rfl (y_val tok rfl) ?_
  refine o_yield rfl rfl rfl (y_val tok rfl) ?_
  refine o_yield rfl rfl rfl (y_val tok rfl) ?_
  refine o_yield rfl rfl rfl (y_val tok rfl) ?_
  refine o_yield rfl rfl rfl (y_val tok rfl) ?_
  refine o_yield rfl rfl rfl (y_val tok rfl) ?_
  refine o_yield rfl rfl rfl (y_val tok rfl) ?_
  refine o_call (.a (.v _)) rfl rfl fnok49 rfl rfl rfl (fun hg E w1 hm => by exact key_c _ _) ?_
  refine o_yield rfl rfl rfl (y_val tok rfl) ?_
  refine o_yield rfl rfl rfl (y_val tok rfl) ?_
  refine o_yield rfl rfl rfl (y_val tok rfl) ?_
  refine o_yield rfl rfl rfl (y_val tok rfl) ?_
  refine o_yield rfl rfl rfl (y_val tok rfl) ?_
  refine o_yield rfl rfl rfl (y_val tok rfl) ?_
  refine o_yield rfl rfl rfl (y_val tok rfl) ?_
  refine o_yield rfl rfl rfl (y_val tok rfl) ?_
  refine o_yield rfl rfl rfl (y_val tok rfl) ?_
  refine o_yield rfl rfl rfl (y_val tok rfl) ?_
  refine o_yield rfl rfl rfl (y_val tok rfl) ?_
  refine o_yield rfl rfl rfl (y_val tok rfl) ?_
  refine o_yield rfl rfl rfl (y_val tok rfl) ?_
  refine o_yield rfl rfl rfl (y_val tok rfl) ?_
  refine o_yield rfl rfl rfl (y_val tok rfl) ?_
  refine o_yield rfl rfl rfl (y_val tok rfl) ?_
  refine o_yield rfl rfl rfl (y_val tok rfl) ?_
  refine o_yield rfl rfl rfl (y_val tok rfl) ?_
  refine o_yield rfl rfl rfl (y_val tok rfl) ?_
  refine o_yield rfl rfl rfl (y_val tok rfl) ?_
  refine o_yield rfl rfl rfl (y_val tok rfl) ?_
  refine o_yield rfl rfl rfl (y_val tok rfl) ?_
  refine o_yield rfl rfl rfl (y_val tok rfl) ?_
  refine o_yield rfl rfl rfl (y_val tok rfl) ?_
  refine o_yield rfl rfl rfl (y_val tok rfl) ?_
  refine o_yield rfl rfl rfl (y_val tok rfl) ?_
  refine o_yield rfl rfl rfl (y_val tok rfl) ?_
  refine o_yield rfl rfl rfl (y_val tok rfl) ?_
  refine o_yield rfl rfl rfl (y_val tok rfl) ?_
  refine o_call (.a (.v _)) rfl rfl fnok49 rfl rfl rfl (fun hg E w1 hm => by exact key_c _ _) ?_
  refine o_yield rfl rfl rfl (y_val tok rfl) ?_
  refine o_yield rfl rfl rfl (y_val tok rfl) ?_
  refine o_yield rfl rfl rfl (y_val tok rfl) ?_
  refine o_yield rfl rfl rfl (y_val tok rfl) ?_
  refine o_end [10] rfl ?_
  refine x_then ?_
  refine c_ret ?_
  refine b_ret tok rfl ?_
  intro E w' hm _
  exact ⟨rfl, below1 hb hm (Vw.le.refl _) rfl rfl rfl⟩

theorem omay_c (c : Cmd) (bv : Value) (b : Nat) (w : World) (hb : w.heap[b]? = some (.cells (orderCells c bv).toArray 81 (0, 0))) :
    Calls Try.prog 36 #[.pointer (some ⟨b, 0, none⟩)] w fun e w' => e = .returned (.bool (cmdB c)) ∧ Below w.heap.size w w' := by
  have fin : ∀ {E : Env} {O : Own} {nl : Nat} {w' : World}, Mem E O nl ((vw w).del b) w' → lk O 2 = some (.size w.heap.size) → lk O 1 = some (.pin 0 b) → lk O 0 = some (.lit ((orderCells c bv).map .v) 81) → Below w.heap.size w w' :=
    fun hm h2 h1 h0 => below1 hb hm (Vw.le.refl _) h2 h1 h0
  refine enter1 [.a (.ptr 0 0)] hb Try.func36 rfl rfl rfl rfl ?_
  refine c_seq ?_
  refine c_region ?_
  refine o_yield rfl rfl rfl (y_val tok rfl) ?_
  refine o_end [0] rfl ?_
  refine x_then ?_
  refine c_seq ?_
  refine c_seq ?_
  refine c_region ?_
  refine o_yield rfl rfl rfl (y_val tok rfl) ?_
  refine o_yield rfl rfl rfl (y_val tok rfl) ?_
  refine o_yield rfl rfl rfl (y_val tok rfl) ?_
  refine o_yield rfl rfl rfl (y_val tok rfl) ?_
  refine o_yield rfl rfl rfl (y_val tok rfl) ?_
  refine o_call (.a (.v _)) rfl rfl fnok49 rfl rfl rfl (fun hg E w1 hm => by exact key_c _ _) ?_
  refine o_yield rfl rfl rfl (y_val tok rfl) ?_
  refine o_yield rfl rfl rfl (y_val tok rfl) ?_
  refine o_yield rfl rfl rfl (y_val tok rfl) ?_
  refine o_yield rfl rfl rfl (y_val tok rfl) ?_
  refine o_yield rfl rfl rfl (y_val tok rfl) ?_
  refine o_yield rfl rfl rfl (y_val tok rfl) ?_
  refine o_yield rfl rfl rfl (y_val tok rfl) ?_
  refine o_yield rfl rfl rfl (y_val tok rfl) ?_
  refine o_yield rfl rfl rfl (y_val tok rfl) ?_
  refine o_yield rfl rfl rfl (y_val tok rfl) ?_
  refine o_yield rfl rfl rfl (y_val tok rfl) ?_
  refine o_yield rfl rfl rfl (y_val tok rfl) ?_
  refine o_yield rfl rfl rfl (y_val tok rfl) ?_
  refine o_yield rfl rfl rfl (y_val tok rfl) ?_
  refine o_yield rfl rfl rfl (y_val tok rfl) ?_
  refine o_yield rfl rfl rfl (y_val tok rfl) ?_
  refine o_yield rfl rfl rfl (y_val tok rfl) ?_
  refine o_end [0, 25] rfl ?_
  refine x_then ?_
  refine c_cond rfl (fun h => ?_) (fun h => ?_)
  ·
    simp only [Bool.and_eq_true, Bool.or_eq_true, Bool.not_eq_true', Bool.or_eq_false_iff, Bool.and_eq_false_iff, decide_eq_true_eq, decide_eq_false_iff_not, beq_iff_eq, bne_iff_ne, Bool.not_eq_false', beq_eq_false_iff_ne, bne_eq_false_iff_eq, ne_eq, Decidable.not_not, Int.not_lt, Int.not_le] at h
    refine c_seq ?_
    refine c_region ?_
    refine o_yield rfl rfl rfl (y_val tok rfl) ?_
    refine o_end [2] rfl ?_
    refine x_then ?_
    refine c_ret ?_
    refine x_then_ret ?_
    refine b_ret tok rfl ?_
    intro E w' hm _
    refine ⟨?_, fin hm rfl rfl rfl⟩
    have : cmdB c = false := by
      unfold cmdB
      rcases h with (h | h) | h
      · rw [h]; rfl
      · rw [decide_eq_false (show ¬ 1 ≤ c.serial by omega), Bool.and_false]; rfl
      · rw [decide_eq_false (show ¬ c.serial ≤ 2147483648 by omega), Bool.and_false]; rfl
    rw [this]; rfl
  ·
    simp only [Bool.and_eq_true, Bool.or_eq_true, Bool.not_eq_true', Bool.or_eq_false_iff, Bool.and_eq_false_iff, decide_eq_true_eq, decide_eq_false_iff_not, beq_iff_eq, bne_iff_ne, Bool.not_eq_false', beq_eq_false_iff_ne, bne_eq_false_iff_eq, ne_eq, Decidable.not_not, Int.not_lt, Int.not_le] at h
    obtain ⟨⟨h1, h2⟩, h3⟩ := h
    have hpre : ((keyB c.by_ && decide (1 ≤ c.serial)) && decide (c.serial ≤ 2147483648)) = true := by
      rw [h1, decide_eq_true (show 1 ≤ c.serial by omega), decide_eq_true (show c.serial ≤ 2147483648 by omega)]; rfl
    refine c_skip ?_
    refine x_then ?_
    refine c_seq ?_
    refine c_seq ?_
    refine c_region ?_
    refine o_yield rfl rfl rfl (y_val tok rfl) ?_
    refine o_yield rfl rfl rfl (y_val tok rfl) ?_
    refine o_yield rfl rfl rfl (y_val tok rfl) ?_
    refine o_yield rfl rfl rfl (y_val tok rfl) ?_
    refine o_yield rfl rfl rfl (y_val tok rfl) ?_
    refine o_end [0, 30] rfl ?_
    refine x_then ?_
    refine c_block ?_
    refine c_seq ?_
    refine c_seq ?_
    refine c_region ?_
    refine o_yield rfl rfl rfl (y_val tok rfl) ?_
    refine o_yield rfl rfl rfl (y_val tok rfl) ?_
    refine o_end [0, 30, 31] rfl ?_
    refine x_then ?_
    refine c_cond rfl (fun h => ?_) (fun h => ?_)
    ·
      refine c_skip ?_
      refine x_then ?_
      refine c_cond rfl (fun h2 => ?_) (fun h2 => ?_)
      ·
        refine c_seq ?_
        refine c_region ?_
        refine o_yield rfl rfl rfl (y_val tok rfl) ?_
        refine o_call (.a (.v _)) rfl rfl fnok50 rfl rfl rfl (fun hg E w1 hm => by exact oonly_c c bv false false false false _ _ (hm.lit 0 _ _ rfl)) ?_
        refine o_yield rfl rfl rfl (y_val tok rfl) ?_
        refine o_end [2] rfl ?_
        refine x_then ?_
        refine c_ret ?_
        refine x_block_ret ?_
        refine x_then_ret ?_
        refine b_ret tok rfl ?_
        intro E w' hm _
        refine ⟨?_, fin hm rfl rfl rfl⟩
        rw [cmdB, hpre, Bool.true_and, if_pos (by simp at h; omega)]
        rfl
      ·
        rw [h] at h2
        cases h2
    ·
      refine c_region ?_
      refine o_yield rfl rfl rfl (y_val tok rfl) ?_
      refine o_yield rfl rfl rfl (y_val tok rfl) ?_
      refine o_end [0, 30, 31] rfl ?_
      refine x_then ?_
      refine c_cond rfl (fun h => ?_) (fun h => ?_)
      ·
        refine c_seq ?_
        refine c_region ?_
        refine o_yield rfl rfl rfl (y_val tok rfl) ?_
        refine o_call (.a (.v _)) rfl rfl fnok50 rfl rfl rfl (fun hg E w1 hm => by exact oonly_c c bv false false false false _ _ (hm.lit 0 _ _ rfl)) ?_
        refine o_yield rfl rfl rfl (y_val tok rfl) ?_
        refine o_end [2] rfl ?_
        refine x_then ?_
        refine c_ret ?_
        refine x_block_ret ?_
        refine x_then_ret ?_
        refine b_ret tok rfl ?_
        intro E w' hm _
        refine ⟨?_, fin hm rfl rfl rfl⟩
        rw [cmdB, hpre, Bool.true_and, if_pos (by simp at h; omega)]
        rfl
      ·
        refine c_seq ?_
        refine c_region ?_
        refine o_yield rfl rfl rfl (y_val tok rfl) ?_
        refine o_yield rfl rfl rfl (y_val tok rfl) ?_
        refine o_end [0, 30, 36] rfl ?_
        refine x_then ?_
        refine c_cond rfl (fun h => ?_) (fun h => ?_)
        ·
          refine c_seq ?_
          refine c_region ?_
          refine o_yield rfl rfl rfl (y_val tok rfl) ?_
          refine o_call (.a (.v _)) rfl rfl fnok50 rfl rfl rfl (fun hg E w1 hm => by exact oonly_c c bv true true false false _ _ (hm.lit 0 _ _ rfl)) ?_
          refine o_yield rfl rfl rfl (y_val tok rfl) ?_
          refine o_end [2] rfl ?_
          refine x_then ?_
          refine c_ret ?_
          refine x_block_ret ?_
          refine x_then_ret ?_
          refine b_ret tok rfl ?_
          intro E w' hm _
          refine ⟨?_, fin hm rfl rfl rfl⟩
          rw [cmdB, hpre, Bool.true_and, if_neg (by simp at *; omega), if_pos (by simpa using h)]
          rfl
        ·
          refine c_seq ?_
          refine c_region ?_
          refine o_yield rfl rfl rfl (y_val tok rfl) ?_
          refine o_yield rfl rfl rfl (y_val tok rfl) ?_
          refine o_end [0, 30, 40] rfl ?_
          refine x_then ?_
          refine c_cond rfl (fun h => ?_) (fun h => ?_)
          ·
            refine c_seq ?_
            refine c_region ?_
            refine o_yield rfl rfl rfl (y_val tok rfl) ?_
            refine o_call (.a (.v _)) rfl rfl fnok50 rfl rfl rfl (fun hg E w1 hm => by exact oonly_c c bv true false false false _ _ (hm.lit 0 _ _ rfl)) ?_
            refine o_yield rfl rfl rfl (y_val tok rfl) ?_
            refine o_end [2] rfl ?_
            refine x_then ?_
            refine c_ret ?_
            refine x_block_ret ?_
            refine x_then_ret ?_
            refine b_ret tok rfl ?_
            intro E w' hm _
            refine ⟨?_, fin hm rfl rfl rfl⟩
            rw [cmdB, hpre, Bool.true_and, if_neg (by simp at *; omega), if_neg (by simp at *; omega), if_pos (by simpa using h)]
            rfl
          ·
            refine c_seq ?_
            refine c_region ?_
            refine o_yield rfl rfl rfl (y_val tok rfl) ?_
            refine o_yield rfl rfl rfl (y_val tok rfl) ?_
            refine o_end [0, 30, 44] rfl ?_
            refine x_then ?_
            refine c_cond rfl (fun h => ?_) (fun h => ?_)
            ·
              refine c_seq ?_
              refine c_region ?_
              refine o_yield rfl rfl rfl (y_val tok rfl) ?_
              refine o_call (.a (.v _)) rfl rfl fnok50 rfl rfl rfl (fun hg E w1 hm => by exact oonly_c c bv false false true true _ _ (hm.lit 0 _ _ rfl)) ?_
              refine o_yield rfl rfl rfl (y_val tok rfl) ?_
              refine o_end [2] rfl ?_
              refine x_then ?_
              refine c_ret ?_
              refine x_block_ret ?_
              refine x_then_ret ?_
              refine b_ret tok rfl ?_
              intro E w' hm _
              refine ⟨?_, fin hm rfl rfl rfl⟩
              rw [cmdB, hpre, Bool.true_and, if_neg (by simp at *; omega), if_neg (by simp at *; omega), if_neg (by simp at *; omega), if_pos (by simpa using h)]
              rfl
            ·
              refine c_seq ?_
              refine c_region ?_
              refine o_yield rfl rfl rfl (y_val tok rfl) ?_
              refine o_yield rfl rfl rfl (y_val tok rfl) ?_
              refine o_end [0, 48] rfl ?_
              refine x_then ?_
              refine c_cond rfl (fun h => ?_) (fun h => ?_)
              ·
                refine c_seq ?_
                refine c_region ?_
                refine o_yield rfl rfl rfl (y_val tok rfl) ?_
                refine o_call (.a (.v _)) rfl rfl fnok50 rfl rfl rfl (fun hg E w1 hm => by exact oonly_c c bv false false true false _ _ (hm.lit 0 _ _ rfl)) ?_
                refine o_yield rfl rfl rfl (y_val tok rfl) ?_
                refine o_end [2] rfl ?_
                refine x_then ?_
                refine c_ret ?_
                refine x_block_ret ?_
                refine x_then_ret ?_
                refine b_ret tok rfl ?_
                intro E w' hm _
                refine ⟨?_, fin hm rfl rfl rfl⟩
                rw [cmdB, hpre, Bool.true_and, if_neg (by simp at *; omega), if_neg (by simp at *; omega), if_neg (by simp at *; omega), if_neg (by simp at *; omega), if_pos (by simpa using h)]
                rfl
              ·
                refine c_skip ?_
                refine x_block ?_
                refine x_then ?_
                refine c_seq ?_
                refine c_region ?_
                refine o_yield rfl rfl rfl (y_val tok rfl) ?_
                refine o_end [2] rfl ?_
                refine x_then ?_
                refine c_ret ?_
                refine b_ret tok rfl ?_
                intro E w' hm _
                refine ⟨?_, fin hm rfl rfl rfl⟩
                rw [cmdB, hpre, Bool.true_and, if_neg (by simp at *; omega), if_neg (by simp at *; omega), if_neg (by simp at *; omega), if_neg (by simp at *; omega), if_neg (by simp at *; omega)]
                rfl
end Go.Proofs.Ytifgmaeileiebaa

/- The bytes of commands: the program's. -/
set_option linter.unusedVariables false
set_option linter.unusedSimpArgs false
set_option maxRecDepth 100000
namespace Go.Proofs.Ytifgmaeileiebaa
open Go Go.Eng Go.RowKit

theorem cmdMay_c (c : Cmd) (w : World) : Calls Try.prog 48 #[c.val] w fun e w' => e = .returned (.bool (cmdB c)) ∧ Below w.heap.size w w' := by
  refine enter (E := E0) (O := []) (nl := 0) (V := vw w) [.a (.v c.val)] Try.func48 rfl rfl (mem0 E0 0 w) rfl rfl ?_
  refine c_seq ?_
  refine c_region ?_
  refine o_new tok rfl rfl rfl rfl ?_
  refine o_yield rfl rfl rfl (y_val tok rfl) ?_
  refine o_end [1] rfl ?_
  refine x_then ?_
  refine c_seq ?_
  refine c_region ?_
  refine o_yield rfl rfl rfl (y_val tok rfl) ?_
  refine o_yield rfl rfl rfl (y_val tok rfl) ?_
  refine o_new tok rfl rfl rfl rfl ?_
  refine o_call (.a (.v _)) rfl rfl fnok36 rfl rfl rfl (fun hg E w1 hm => by exact omay_c c _ _ _ (hm.lit 1 _ _ rfl)) ?_
  refine o_yield rfl rfl rfl (y_val tok rfl) ?_
  refine o_end [2] rfl ?_
  refine x_then ?_
  refine c_ret ?_
  refine b_ret tok rfl ?_
  intro E w' hm _
  refine ⟨?_, hm.below (Vw.le.refl _)⟩
  rfl

theorem oput_c (k : Int) (bl : List UInt8) (bv : Value) (ls : List Int) (lv : Value) (b : Nat) (c : Cmd) (w : World) (hb : w.heap[b]? = some (.cells (orderCells c bv).toArray 81 (0, 0)))
    (hs : SlOf ((vw w).del b) encByte 1 bv bl) (hl : SlOf ((vw w).del b) encI64 1 lv ls) (hok : putOk k ls = true) (hbn : bl.length ≤ 1099511627776) (hln : ls.length ≤ 1099511627776) :
    Calls Try.prog 37 #[.pointer (some ⟨b, 0, none⟩), I k, lv] w fun e w' => e = .returned (.tuple #[]) ∧ ∃ v, Go.Eng.Touch (· = b) w w' ∧ w'.ownsRow w.heap.size 5 1 v (putL bl k ls).length ((putL bl k ls).flatMap encByte) ∧
      w'.heap[b]? = some (.cells (orderCells c v).toArray 81 (0, 0)) := by
  refine enter1 [.a (.ptr 0 0), .a (.v (I k)), .a (.v lv)] hb Try.func37 rfl rfl rfl rfl ?_
  refine c_region ?_
  refine o_yield rfl rfl rfl (y_val tok rfl) ?_
  refine o_yield rfl rfl rfl (y_val tok rfl) ?_
  refine o_yield rfl rfl rfl (y_val tok rfl) ?_
  refine o_yield rfl rfl rfl (y_val tok rfl) ?_
  refine o_yield rfl rfl rfl (y_val tok rfl) ?_
  refine o_yield rfl rfl rfl (y_val tok rfl) ?_
  refine o_yield rfl rfl rfl (y_val tok rfl) ?_
  refine o_step rfl rfl rfl rfl rfl (s_numPut bl k ls rfl hok hbn hln (fun E w1 hm => ⟨bv, lv, rfl, hs.mono hm.leV, hl.mono hm.leV⟩)) (fun _ _ => ?_)
  refine o_yield rfl rfl rfl (y_val tok rfl) ?_
  refine o_yield rfl rfl rfl (y_val tok rfl) ?_
  refine o_yield rfl rfl rfl (y_val tok rfl) ?_
  refine o_yield rfl rfl rfl (y_val tok rfl) ?_
  refine o_yield rfl rfl rfl (y_val tok rfl) ?_
  refine o_store tok rfl rfl rfl (by first | exact ⟨trivial, trivial⟩ | (repeat' first | exact trivial | exact rfl | apply And.intro); done | simp [onesP, oneP, lk, Value.oneCell']) ?_
  refine o_end [] rfl ?_
  refine b_end tok rfl ?_
  intro E w' hm _
  obtain ⟨h1, h2⟩ := back1 hm (Vw.le.refl _) rfl rfl rfl
  refine ⟨rfl, E.κ 3, h1, hm.rowFreshD (Vw.le.refl _) (l0 := 0) rfl (hm.pin 1 0 _ rfl).1 (l := 3) rfl, ?_⟩
  rw [h2]
  rfl

section
variable {o : Oper} {n : Nat} {F : Frame0} {C : List Nat} {O : Own} {nl : Nat} {V : Vw}

abbrev orderAs (c : Cmd) (a : A) : List A := c.cells.map .v ++ [a]

theorem den_order (c : Cmd) (a : A) (E : Env) : (orderAs c a).map (A.den E) = orderCells c (a.den E) := rfl

theorem s_oput {p : List (Nat × Bool)} (l r e1 : Nat) (c : Cmd) (bl : List UInt8) (k : Int) (ls : List Int) (ss : List SV) (hv : evalC F p o.op = some (37, ss)) (hss : ∀ E, ∃ lv, ss.map (SV.den E) = [.pointer (some ⟨E.ρ l, 0, none⟩), I k, lv] ∧ ∀ w, Mem E O nl V w → SlOf ((vw w).del (E.ρ l)) encI64 1 lv ls)
    (hl : lk O l = some (.lit (orderAs c (.row r)) 81)) (hr : lk O r = some (.row e1 1 bl.length (bl.flatMap encByte))) (hok : putOk k ls = true) (hbn : bl.length ≤ 1099511627776) (hln : ls.length ≤ 1099511627776) :
    StepTo Try.prog o p n F C O nl V (σ := Unit) (fun _ => True) (fun _ => .tup []) (fun _ => (l, .lit (orderAs c (.row nl)) 81) :: (nl, .row 5 1 (putL bl k ls).length ((putL bl k ls).flatMap encByte)) :: O) (nl + 1) (fun _ => V) := by
  refine s_callWR (fun _ => True) (fun _ => .tup []) l 81 5 1 (fun _ => (putL bl k ls).length) (fun _ => (putL bl k ls).flatMap encByte) (fun _ => orderAs c (.row nl)) hv fnok37 hl
    (fun _ => by simp only [orderAs, Cmd.cells, List.map_cons, List.map_nil, List.cons_append, List.nil_append, allOk, A.ok, blt_iff, Bool.and_eq_true, Bool.true_and, Bool.and_true]; omega) (fun _ => rfl) ?_
  intro E w hm hb
  obtain ⟨lv, ha, hlv⟩ := hss E
  rw [ha]
  refine (oput_c k bl (E.κ r) ls lv (E.ρ l) c w (by rw [hb, den_order]; rfl) (hm.rowOfDel r hl hr (fun _ => rfl)) (hlv w hm) hok hbn hln).mono ?_
  rintro e w' ⟨rfl, v, ht, hown, hv'⟩
  refine ⟨(), v, rfl, ht, hown, ?_, trivial⟩
  rw [hv', den_order]
  simp [A.den, Env.setκ]
end

def cmdL (c : Cmd) : List UInt8 :=
  if c.kind = 2 then putL (putL (putL (putL [] 1 [c.kind]) 6 [c.by_]) 4 [c.serial]) 1 [c.lo, c.hi, c.mode]
  else if c.kind = 3 then putL (putL (putL (putL [] 1 [c.kind]) 6 [c.by_]) 4 [c.serial]) 1 [c.lo, c.hi]
  else if c.kind = 4 then putL (putL (putL (putL [] 1 [c.kind]) 6 [c.by_]) 4 [c.serial]) 6 [c.dead, c.was]
  else if c.kind = 5 then putL (putL (putL (putL [] 1 [c.kind]) 6 [c.by_]) 4 [c.serial]) 6 [c.dead]
  else putL (putL (putL [] 1 [c.kind]) 6 [c.by_]) 4 [c.serial]

def cbV (c : Cmd) : ByteArray := if cmdB c = true then strOf (cmdL c) else ByteArray.empty
def cbE (c : Cmd) : Int := if cmdB c = true then 0 else 2

structure CmdOk (c : Cmd) : Prop where
  kind : 0 ≤ c.kind ∧ c.kind ≤ 5
  by_ : 16 ≤ c.by_ ∧ c.by_ ≤ 1099511627776
  serial : 1 ≤ c.serial ∧ c.serial ≤ 2147483648
  lo : 0 ≤ c.lo ∧ c.lo < 64
  hi : 0 ≤ c.hi ∧ c.hi < 64
  mode : 0 ≤ c.mode ∧ c.mode ≤ 2
  dead : 0 ≤ c.dead ∧ c.dead ≤ 1099511627776
  was : 0 ≤ c.was ∧ c.was ≤ 1099511627776
  span : c.kind ≠ 2 → c.kind ≠ 3 → c.lo = 0 ∧ c.hi = 0
  mode0 : c.kind ≠ 2 → c.mode = 0
  dead0 : c.kind ≠ 4 → c.kind ≠ 5 → c.dead = 0
  was0 : c.kind ≠ 4 → c.was = 0

theorem cmdOk {c : Cmd} (h : cmdB c = true) : CmdOk c := by
  simp only [cmdB, keyB, Bool.and_eq_true, decide_eq_true_eq] at h
  obtain ⟨⟨⟨h1, h2⟩, h3⟩, h4⟩ := h
  split at h4
  · simp [onlyB, spanB, keyB] at h4
    constructor <;> omega
  · split at h4
    · simp [onlyB, spanB, keyB] at h4
      constructor <;> omega
    · split at h4
      · simp [onlyB, spanB, keyB] at h4
        constructor <;> omega
      · split at h4
        · simp [onlyB, spanB, keyB] at h4
          constructor <;> omega
        · split at h4
          · simp [onlyB, spanB, keyB] at h4
            constructor <;> omega
          · cases h4

theorem cmdBytes_c (c : Cmd) (w : World) : Calls Try.prog 22 #[c.val] w fun e w' => e = .returned (.tuple #[S (cbV c), I (cbE c)]) ∧ Below w.heap.size w w' := by
  refine enter (E := E0) (O := []) (nl := 0) (V := vw w) [.a (.v c.val)] Try.func22 rfl rfl (mem0 E0 0 w) rfl rfl ?_
  refine c_seq ?_
  refine c_region ?_
  refine o_new tok rfl rfl rfl rfl ?_
  refine o_yield rfl rfl rfl (y_val tok rfl) ?_
  refine o_yield rfl rfl rfl (y_val tok rfl) ?_
  refine o_end [1] rfl ?_
  refine x_then ?_
  refine c_seq ?_
  refine c_region ?_
  refine o_yield rfl rfl rfl (y_val tok rfl) ?_
  refine o_yield rfl rfl rfl (y_val tok rfl) ?_
  refine o_new tok rfl rfl rfl rfl ?_
  refine o_yield rfl rfl rfl (y_val tok rfl) ?_
  refine o_end [4] rfl ?_
  refine x_then ?_
  refine c_seq ?_
  refine c_seq ?_
  refine c_region ?_
  refine o_yield rfl rfl rfl (y_val tok rfl) ?_
  refine o_call (.a (.v _)) rfl rfl fnok36 rfl rfl rfl (fun hg E w1 hm => by exact omay_c c _ _ _ (hm.lit 1 _ _ rfl)) ?_
  refine o_yield rfl rfl rfl (y_val tok rfl) ?_
  refine o_end [4, 10] rfl ?_
  refine x_then ?_
  refine c_cond rfl (fun h => ?_) (fun h => ?_)
  ·
    simp only [Bool.and_eq_true, Bool.or_eq_true, Bool.not_eq_true', Bool.or_eq_false_iff, Bool.and_eq_false_iff, decide_eq_true_eq, decide_eq_false_iff_not, beq_iff_eq, bne_iff_ne, Bool.not_eq_false', beq_eq_false_iff_ne, bne_eq_false_iff_eq, ne_eq, Decidable.not_not, Int.not_lt, Int.not_le] at h
    refine c_seq ?_
    refine c_region ?_
    refine o_yield rfl rfl rfl (y_val tok rfl) ?_
    refine o_yield rfl rfl rfl (y_val tok rfl) ?_
    refine o_end [2, 3] rfl ?_
    refine x_then ?_
    refine c_ret ?_
    refine x_then_ret ?_
    refine b_ret tok rfl ?_
    intro E w' hm _
    refine ⟨?_, hm.below (Vw.le.refl _)⟩
    rw [cbV, cbE, if_neg (by simp [h]), if_neg (by simp [h])]
    rfl
  ·
    simp only [Bool.and_eq_true, Bool.or_eq_true, Bool.not_eq_true', Bool.or_eq_false_iff, Bool.and_eq_false_iff, decide_eq_true_eq, decide_eq_false_iff_not, beq_iff_eq, bne_iff_ne, Bool.not_eq_false', beq_eq_false_iff_ne, bne_eq_false_iff_eq, ne_eq, Decidable.not_not, Int.not_lt, Int.not_le] at h
    refine c_skip ?_
    refine x_then ?_
    refine c_seq ?_
    refine c_region ?_
    refine o_yield rfl rfl rfl (y_val tok rfl) ?_
    refine o_yield rfl rfl rfl (y_val tok rfl) ?_
    refine o_yield rfl rfl rfl (y_val tok rfl) ?_
    refine o_yield rfl rfl rfl (y_val tok rfl) ?_
    refine o_yield rfl rfl rfl (y_val tok rfl) ?_
    refine o_yield rfl rfl rfl (y_val tok rfl) ?_
    refine o_yield rfl rfl rfl (y_val tok rfl) ?_
    have ok := cmdOk h
    have hc := h
    clear h
    have okk := ok.kind
    have oky := ok.by_
    have oks := ok.serial
    have hmw : IntKind.i64.wrap c.mode = c.mode := wrapI (by have := ok.mode; omega) (by have := ok.mode; omega)
    have okl := ok.lo
    have okh := ok.hi
    have okm := ok.mode
    have okd := ok.dead
    have okw := ok.was
    have m6 : mostN (6 : Int).toNat = 1099511627776 := by decide
    have m4 : mostN (4 : Int).toNat = 4294967295 := by decide
    have m1 : mostN (1 : Int).toNat = 255 := by decide
    have p1 : putOk 1 [c.kind] = true := putOk_of (by rw [fitsB, m1]; simp [widthB]; omega)
    have p2 : putOk 6 [c.by_] = true := putOk_of (by rw [fitsB, m6]; simp [widthB]; omega)
    have p3 : putOk 4 [c.serial] = true := putOk_of (by rw [fitsB, m4]; simp [widthB]; omega)
    have q1 : ∀ n : Int, 0 ≤ n → n ≤ 255 → fitsB n 1 = true := fun n h1 h2 => by rw [fitsB, m1]; simp [widthB]; omega
    have q6 : ∀ n : Int, 0 ≤ n → n ≤ 1099511627776 → fitsB n 6 = true := fun n h1 h2 => by rw [fitsB, m6]; simp [widthB]; omega
    have w1 : widthB 1 = true := rfl
    have w6 : widthB 6 = true := rfl
    have l4 : (putL (putL (putL [] 1 [c.kind]) 6 [c.by_]) 4 [c.serial]).length ≤ 1099511627776 := by simp [putL, leB, leTake_len]
    refine k_nilO 1 8 5 1 rfl rfl ?_
    rw [wrapI (n := c.kind) (by omega) (by omega)]
    refine o_step rfl rfl rfl rfl rfl (s_bs tok 1 rfl rfl rfl) (fun _ _ => ?_)
    refine o_step rfl rfl rfl rfl rfl (s_oput 1 2 5 c [] 1 [c.kind] _ rfl (fun E => ⟨E.κ 3, rfl, fun w hm => hm.rowOfDel (enc := encI64) (L := [c.kind]) 3 rfl rfl (fun _ => rfl)⟩) rfl rfl p1 (by simp) (by simp)) (fun _ _ => ?_)
    refine o_end [4] rfl ?_
    refine x_then ?_
    refine c_seq ?_
    refine c_region ?_
    refine o_yield rfl rfl rfl (y_val tok rfl) ?_
    refine o_yield rfl rfl rfl (y_val tok rfl) ?_
    refine o_yield rfl rfl rfl (y_val tok rfl) ?_
    refine o_yield rfl rfl rfl (y_val tok rfl) ?_
    refine o_yield rfl rfl rfl (y_val tok rfl) ?_
    refine o_yield rfl rfl rfl (y_val tok rfl) ?_
    refine o_step rfl rfl rfl rfl rfl (s_bs tok 1 rfl rfl rfl) (fun _ _ => ?_)
    refine o_step rfl rfl rfl rfl rfl (s_oput 1 4 5 c (putL [] 1 [c.kind]) 6 [c.by_] _ rfl (fun E => ⟨E.κ 5, rfl, fun w hm => hm.rowOfDel (enc := encI64) (L := [c.by_]) 5 rfl rfl (fun _ => rfl)⟩) rfl rfl p2 (by simp [putL, leB, leTake_len]) (by simp)) (fun _ _ => ?_)
    refine o_end [4] rfl ?_
    refine x_then ?_
    refine c_seq ?_
    refine c_region ?_
    refine o_yield rfl rfl rfl (y_val tok rfl) ?_
    refine o_yield rfl rfl rfl (y_val tok rfl) ?_
    refine o_yield rfl rfl rfl (y_val tok rfl) ?_
    refine o_yield rfl rfl rfl (y_val tok rfl) ?_
    refine o_yield rfl rfl rfl (y_val tok rfl) ?_
    refine o_yield rfl rfl rfl (y_val tok rfl) ?_
    refine o_step rfl rfl rfl rfl rfl (s_bs tok 1 rfl rfl rfl) (fun _ _ => ?_)
    have l3 : (putL (putL [] 1 [c.kind]) 6 [c.by_]).length = 7 := by simp [putL, leB, leTake_len]
    refine o_step rfl rfl rfl rfl rfl (s_oput 1 6 5 c (putL (putL [] 1 [c.kind]) 6 [c.by_]) 4 [c.serial] _ rfl (fun E => ⟨E.κ 7, rfl, fun w hm => hm.rowOfDel (enc := encI64) (L := [c.serial]) 7 rfl rfl (fun _ => rfl)⟩) rfl rfl p3 (by rw [l3]; omega) (by simp)) (fun _ _ => ?_)
    refine o_end [4] rfl ?_
    refine x_then ?_
    refine c_seq ?_
    refine c_seq ?_
    refine c_region ?_
    refine o_yield rfl rfl rfl (y_val tok rfl) ?_
    refine o_yield rfl rfl rfl (y_val tok rfl) ?_
    refine o_yield rfl rfl rfl (y_val tok rfl) ?_
    refine o_yield rfl rfl rfl (y_val tok rfl) ?_
    refine o_yield rfl rfl rfl (y_val tok rfl) ?_
    refine o_end [4, 40] rfl ?_
    refine x_then ?_
    refine c_block ?_
    refine c_seq ?_
    refine c_region ?_
    refine o_yield rfl rfl rfl (y_val tok rfl) ?_
    refine o_yield rfl rfl rfl (y_val tok rfl) ?_
    refine o_end [4, 40, 41] rfl ?_
    refine x_then ?_
    refine c_cond rfl (fun h => ?_) (fun h => ?_)
    ·
      refine c_heldS [20] mixed rfl (by repeat (first | exact SubO.nil | refine SubO.cons rfl ?_)) (by first | rfl | simp [okCels, allOk_plain]) ?_
      refine t_takeD 0 rfl (by kernel_rfl) rfl rfl rfl (y_val tok rfl) rfl ?_
      refine t_takeD 1 rfl (by kernel_rfl) rfl rfl rfl (y_val tok rfl) rfl ?_
      refine t_takeD 2 rfl (by kernel_rfl) rfl rfl rfl (y_val tok rfl) rfl ?_
      refine t_takeD 3 rfl (by kernel_rfl) rfl rfl rfl (y_val tok rfl) rfl ?_
      refine t_takeD 4 rfl (by kernel_rfl) rfl rfl rfl (y_val tok rfl) rfl ?_
      refine t_takeD 5 rfl (by kernel_rfl) rfl rfl rfl (y_val tok rfl) rfl ?_
      refine t_takeD 6 rfl (by kernel_rfl) rfl rfl rfl (y_val tok rfl) rfl ?_
      refine t_takeD 7 rfl (by kernel_rfl) rfl rfl rfl (y_val tok rfl) rfl ?_
      refine t_takeD 8 rfl (by kernel_rfl) rfl rfl rfl (y_val tok rfl) rfl ?_
      refine t_takeD 9 rfl (by kernel_rfl) rfl rfl rfl (y_val tok rfl) rfl ?_
      refine t_takeD 10 rfl (by kernel_rfl) rfl rfl rfl (y_val tok rfl) rfl ?_
      refine t_takeD 11 rfl (by kernel_rfl) rfl rfl rfl (y_val tok rfl) rfl ?_
      refine t_takeD 12 rfl (by kernel_rfl) rfl rfl rfl (y_val tok rfl) rfl ?_
      refine t_takeD 13 rfl (by kernel_rfl) rfl rfl rfl (y_val tok rfl) rfl ?_
      refine t_takeD 14 rfl (by kernel_rfl) rfl rfl rfl (y_val tok rfl) rfl ?_
      refine t_takeD 15 rfl (by kernel_rfl) rfl rfl rfl (y_val tok rfl) rfl ?_
      refine t_takeD 16 rfl (by kernel_rfl) rfl rfl rfl (y_val tok rfl) rfl ?_
      refine t_takeD 17 rfl (by kernel_rfl) rfl rfl rfl (y_val tok rfl) rfl ?_
      refine t_takeD 18 rfl (by kernel_rfl) rfl rfl rfl (y_val tok rfl) rfl ?_
      refine t_go ?_
      refine h_one 19 (by kernel_rfl) ?_
      have e2 : c.kind = 2 := by simpa using h
      have p4 : putOk 1 [c.lo, c.hi, (IntKind.i64.wrap c.mode)] = true := by simp only [putOk, List.all_cons, List.all_nil, Bool.and_true, Bool.and_eq_true]; exact ⟨w1, ⟨q1 _ (by omega) (by omega), q1 _ (by omega) (by omega), by rw [hmw]; exact q1 _ (by omega) (by omega)⟩⟩
      refine h_to 19 rfl rfl rfl rfl rfl rfl (s_bs tok 1 rfl rfl rfl) (.inr fun _ _ => ⟨(by repeat (first | exact SubO.nil | refine SubO.cons rfl ?_)), rfl, (by first | exact Vw.le.refl _ | assumption)⟩) (fun _ _ => ?_)
      refine h_one 20 (by kernel_rfl) ?_
      refine h_to 20 rfl rfl rfl rfl rfl rfl (s_oput 1 8 5 c (putL (putL (putL [] 1 [c.kind]) 6 [c.by_]) 4 [c.serial]) 1 [c.lo, c.hi, IntKind.i64.wrap c.mode] _ rfl (fun E => ⟨E.κ 9, rfl, fun w hm => hm.rowOfDel (enc := encI64) (L := [c.lo, c.hi, IntKind.i64.wrap c.mode]) 9 rfl rfl (fun _ => rfl)⟩) rfl rfl (p4) l4 (by simp)) (.inl rfl) (fun _ _ => ?_)
      refine h_done [4] (by kernel_rfl) rfl ?_
      refine x_block ?_
      refine x_then ?_
      refine c_seq ?_
      refine c_region ?_
      refine o_yield rfl rfl rfl (y_val tok rfl) ?_
      refine o_yield rfl rfl rfl (y_val tok rfl) ?_
      refine o_yield rfl rfl rfl (y_val tok rfl) ?_
      refine o_yield rfl rfl rfl (y_val tok rfl) ?_
      refine o_yield rfl rfl rfl (y_own (s := .a (.v (.string (strOf (cmdL c))))) 10 rfl rfl (fun v V' hs => y_b2s tok _ rfl (fun hg => by rw [cmdL, if_pos e2, ← hmw]; exact hs))) ?_
      refine o_yield rfl rfl rfl (y_val tok rfl) ?_
      refine o_yield rfl rfl rfl (y_val tok rfl) ?_
      refine o_end [2, 3] rfl ?_
      refine x_then ?_
      refine c_ret ?_
      refine b_ret tok rfl ?_
      intro E w' hm _
      refine ⟨?_, hm.below (Vw.le.refl _)⟩
      rw [cbV, cbE, if_pos hc, if_pos hc]
      rfl
    ·
      refine c_seq ?_
      refine c_region ?_
      refine o_yield rfl rfl rfl (y_val tok rfl) ?_
      refine o_yield rfl rfl rfl (y_val tok rfl) ?_
      refine o_end [4, 40, 64] rfl ?_
      refine x_then ?_
      refine c_cond rfl (fun h3 => ?_) (fun h3 => ?_)
      ·
        refine c_heldS [14] mixed rfl (by repeat (first | exact SubO.nil | refine SubO.cons rfl ?_)) (by first | rfl | simp [okCels, allOk_plain]) ?_
        refine t_takeD 0 rfl (by kernel_rfl) rfl rfl rfl (y_val tok rfl) rfl ?_
        refine t_takeD 1 rfl (by kernel_rfl) rfl rfl rfl (y_val tok rfl) rfl ?_
        refine t_takeD 2 rfl (by kernel_rfl) rfl rfl rfl (y_val tok rfl) rfl ?_
        refine t_takeD 3 rfl (by kernel_rfl) rfl rfl rfl (y_val tok rfl) rfl ?_
        refine t_takeD 4 rfl (by kernel_rfl) rfl rfl rfl (y_val tok rfl) rfl ?_
        refine t_takeD 5 rfl (by kernel_rfl) rfl rfl rfl (y_val tok rfl) rfl ?_
        refine t_takeD 6 rfl (by kernel_rfl) rfl rfl rfl (y_val tok rfl) rfl ?_
        refine t_takeD 7 rfl (by kernel_rfl) rfl rfl rfl (y_val tok rfl) rfl ?_
        refine t_takeD 8 rfl (by kernel_rfl) rfl rfl rfl (y_val tok rfl) rfl ?_
        refine t_takeD 9 rfl (by kernel_rfl) rfl rfl rfl (y_val tok rfl) rfl ?_
        refine t_takeD 10 rfl (by kernel_rfl) rfl rfl rfl (y_val tok rfl) rfl ?_
        refine t_takeD 11 rfl (by kernel_rfl) rfl rfl rfl (y_val tok rfl) rfl ?_
        refine t_takeD 12 rfl (by kernel_rfl) rfl rfl rfl (y_val tok rfl) rfl ?_
        refine t_go ?_
        refine h_one 13 (by kernel_rfl) ?_
        have e3 : c.kind = 3 := by simpa using h3
        have p4 : putOk 1 [c.lo, c.hi] = true := by simp only [putOk, List.all_cons, List.all_nil, Bool.and_true, Bool.and_eq_true]; exact ⟨w1, ⟨q1 _ (by omega) (by omega), q1 _ (by omega) (by omega)⟩⟩
        refine h_to 13 rfl rfl rfl rfl rfl rfl (s_bs tok 1 rfl rfl rfl) (.inr fun _ _ => ⟨(by repeat (first | exact SubO.nil | refine SubO.cons rfl ?_)), rfl, (by first | exact Vw.le.refl _ | assumption)⟩) (fun _ _ => ?_)
        refine h_one 14 (by kernel_rfl) ?_
        refine h_to 14 rfl rfl rfl rfl rfl rfl (s_oput 1 8 5 c (putL (putL (putL [] 1 [c.kind]) 6 [c.by_]) 4 [c.serial]) 1 [c.lo, c.hi] _ rfl (fun E => ⟨E.κ 9, rfl, fun w hm => hm.rowOfDel (enc := encI64) (L := [c.lo, c.hi]) 9 rfl rfl (fun _ => rfl)⟩) rfl rfl (p4) l4 (by simp)) (.inl rfl) (fun _ _ => ?_)
        refine h_done [4] (by kernel_rfl) rfl ?_
        refine x_block ?_
        refine x_then ?_
        refine c_seq ?_
        refine c_region ?_
        refine o_yield rfl rfl rfl (y_val tok rfl) ?_
        refine o_yield rfl rfl rfl (y_val tok rfl) ?_
        refine o_yield rfl rfl rfl (y_val tok rfl) ?_
        refine o_yield rfl rfl rfl (y_val tok rfl) ?_
        refine o_yield rfl rfl rfl (y_own (s := .a (.v (.string (strOf (cmdL c))))) 10 rfl rfl (fun v V' hs => y_b2s tok _ rfl (fun hg => by rw [cmdL, if_neg (by omega), if_pos e3]; exact hs))) ?_
        refine o_yield rfl rfl rfl (y_val tok rfl) ?_
        refine o_yield rfl rfl rfl (y_val tok rfl) ?_
        refine o_end [2, 3] rfl ?_
        refine x_then ?_
        refine c_ret ?_
        refine b_ret tok rfl ?_
        intro E w' hm _
        refine ⟨?_, hm.below (Vw.le.refl _)⟩
        rw [cbV, cbE, if_pos hc, if_pos hc]
        rfl
      ·
        refine c_seq ?_
        refine c_region ?_
        refine o_yield rfl rfl rfl (y_val tok rfl) ?_
        refine o_yield rfl rfl rfl (y_val tok rfl) ?_
        refine o_end [4, 40, 81] rfl ?_
        refine x_then ?_
        refine c_cond rfl (fun h4 => ?_) (fun h4 => ?_)
        ·
          refine c_heldS [12] mixed rfl (by repeat (first | exact SubO.nil | refine SubO.cons rfl ?_)) (by first | rfl | simp [okCels, allOk_plain]) ?_
          refine t_takeD 0 rfl (by kernel_rfl) rfl rfl rfl (y_val tok rfl) rfl ?_
          refine t_takeD 1 rfl (by kernel_rfl) rfl rfl rfl (y_val tok rfl) rfl ?_
          refine t_takeD 2 rfl (by kernel_rfl) rfl rfl rfl (y_val tok rfl) rfl ?_
          refine t_takeD 3 rfl (by kernel_rfl) rfl rfl rfl (y_val tok rfl) rfl ?_
          refine t_takeD 4 rfl (by kernel_rfl) rfl rfl rfl (y_val tok rfl) rfl ?_
          refine t_takeD 5 rfl (by kernel_rfl) rfl rfl rfl (y_val tok rfl) rfl ?_
          refine t_takeD 6 rfl (by kernel_rfl) rfl rfl rfl (y_val tok rfl) rfl ?_
          refine t_takeD 7 rfl (by kernel_rfl) rfl rfl rfl (y_val tok rfl) rfl ?_
          refine t_takeD 8 rfl (by kernel_rfl) rfl rfl rfl (y_val tok rfl) rfl ?_
          refine t_takeD 9 rfl (by kernel_rfl) rfl rfl rfl (y_val tok rfl) rfl ?_
          refine t_takeD 10 rfl (by kernel_rfl) rfl rfl rfl (y_val tok rfl) rfl ?_
          refine t_go ?_
          refine h_one 11 (by kernel_rfl) ?_
          have e4 : c.kind = 4 := by simpa using h4
          have p4 : putOk 6 [c.dead, c.was] = true := by simp only [putOk, List.all_cons, List.all_nil, Bool.and_true, Bool.and_eq_true]; exact ⟨w6, ⟨q6 _ (by omega) (by omega), q6 _ (by omega) (by omega)⟩⟩
          refine h_to 11 rfl rfl rfl rfl rfl rfl (s_bs tok 1 rfl rfl rfl) (.inr fun _ _ => ⟨(by repeat (first | exact SubO.nil | refine SubO.cons rfl ?_)), rfl, (by first | exact Vw.le.refl _ | assumption)⟩) (fun _ _ => ?_)
          refine h_one 12 (by kernel_rfl) ?_
          refine h_to 12 rfl rfl rfl rfl rfl rfl (s_oput 1 8 5 c (putL (putL (putL [] 1 [c.kind]) 6 [c.by_]) 4 [c.serial]) 6 [c.dead, c.was] _ rfl (fun E => ⟨E.κ 9, rfl, fun w hm => hm.rowOfDel (enc := encI64) (L := [c.dead, c.was]) 9 rfl rfl (fun _ => rfl)⟩) rfl rfl (p4) l4 (by simp)) (.inl rfl) (fun _ _ => ?_)
          refine h_done [4] (by kernel_rfl) rfl ?_
          refine x_block ?_
          refine x_then ?_
          refine c_seq ?_
          refine c_region ?_
          refine o_yield rfl rfl rfl (y_val tok rfl) ?_
          refine o_yield rfl rfl rfl (y_val tok rfl) ?_
          refine o_yield rfl rfl rfl (y_val tok rfl) ?_
          refine o_yield rfl rfl rfl (y_val tok rfl) ?_
          refine o_yield rfl rfl rfl (y_own (s := .a (.v (.string (strOf (cmdL c))))) 10 rfl rfl (fun v V' hs => y_b2s tok _ rfl (fun hg => by rw [cmdL, if_neg (by omega), if_neg (by omega), if_pos e4]; exact hs))) ?_
          refine o_yield rfl rfl rfl (y_val tok rfl) ?_
          refine o_yield rfl rfl rfl (y_val tok rfl) ?_
          refine o_end [2, 3] rfl ?_
          refine x_then ?_
          refine c_ret ?_
          refine b_ret tok rfl ?_
          intro E w' hm _
          refine ⟨?_, hm.below (Vw.le.refl _)⟩
          rw [cbV, cbE, if_pos hc, if_pos hc]
          rfl
        ·
          refine c_seq ?_
          refine c_region ?_
          refine o_yield rfl rfl rfl (y_val tok rfl) ?_
          refine o_yield rfl rfl rfl (y_val tok rfl) ?_
          refine o_end [4, 96] rfl ?_
          refine x_then ?_
          refine c_cond rfl (fun h5 => ?_) (fun h5 => ?_)
          ·
            refine c_region ?_
            refine o_yield rfl rfl rfl (y_val tok rfl) ?_
            refine o_yield rfl rfl rfl (y_val tok rfl) ?_
            refine o_yield rfl rfl rfl (y_val tok rfl) ?_
            refine o_yield rfl rfl rfl (y_val tok rfl) ?_
            refine o_yield rfl rfl rfl (y_val tok rfl) ?_
            refine o_yield rfl rfl rfl (y_val tok rfl) ?_
            have e5 : c.kind = 5 := by simpa using h5
            have p4 : putOk 6 [c.dead] = true := by simp only [putOk, List.all_cons, List.all_nil, Bool.and_true, Bool.and_eq_true]; exact ⟨w6, q6 _ (by omega) (by omega)⟩
            refine o_step rfl rfl rfl rfl rfl (s_bs tok 1 rfl rfl rfl) (fun _ _ => ?_)
            refine o_step rfl rfl rfl rfl rfl (s_oput 1 8 5 c (putL (putL (putL [] 1 [c.kind]) 6 [c.by_]) 4 [c.serial]) 6 [c.dead] _ rfl (fun E => ⟨E.κ 9, rfl, fun w hm => hm.rowOfDel (enc := encI64) (L := [c.dead]) 9 rfl rfl (fun _ => rfl)⟩) rfl rfl (p4) l4 (by simp)) (fun _ _ => ?_)
            refine o_end [4] rfl ?_
            refine x_block ?_
            refine x_then ?_
            refine c_seq ?_
            refine c_region ?_
            refine o_yield rfl rfl rfl (y_val tok rfl) ?_
            refine o_yield rfl rfl rfl (y_val tok rfl) ?_
            refine o_yield rfl rfl rfl (y_val tok rfl) ?_
            refine o_yield rfl rfl rfl (y_val tok rfl) ?_
            refine o_yield rfl rfl rfl (y_own (s := .a (.v (.string (strOf (cmdL c))))) 10 rfl rfl (fun v V' hs => y_b2s tok _ rfl (fun hg => by rw [cmdL, if_neg (by omega), if_neg (by omega), if_neg (by omega), if_pos e5]; exact hs))) ?_
            refine o_yield rfl rfl rfl (y_val tok rfl) ?_
            refine o_yield rfl rfl rfl (y_val tok rfl) ?_
            refine o_end [2, 3] rfl ?_
            refine x_then ?_
            refine c_ret ?_
            refine b_ret tok rfl ?_
            intro E w' hm _
            refine ⟨?_, hm.below (Vw.le.refl _)⟩
            rw [cbV, cbE, if_pos hc, if_pos hc]
            rfl
          ·
            refine c_skip ?_
            refine x_block ?_
            refine x_then ?_
            refine c_seq ?_
            refine c_region ?_
            refine o_yield rfl rfl rfl (y_val tok rfl) ?_
            refine o_yield rfl rfl rfl (y_val tok rfl) ?_
            refine o_yield rfl rfl rfl (y_val tok rfl) ?_
            refine o_yield rfl rfl rfl (y_val tok rfl) ?_
            have f2 : ¬ c.kind = 2 := by simpa using h
            have f3 : ¬ c.kind = 3 := by simpa using h3
            have f4 : ¬ c.kind = 4 := by simpa using h4
            have f5 : ¬ c.kind = 5 := by simpa using h5
            refine o_yield rfl rfl rfl (y_own (s := .a (.v (.string (strOf (cmdL c))))) 8 rfl rfl (fun v V' hs => y_b2s tok _ rfl (fun hg => by rw [cmdL, if_neg f2, if_neg f3, if_neg f4, if_neg f5]; exact hs))) ?_
            refine o_yield rfl rfl rfl (y_val tok rfl) ?_
            refine o_yield rfl rfl rfl (y_val tok rfl) ?_
            refine o_end [2, 3] rfl ?_
            refine x_then ?_
            refine c_ret ?_
            refine b_ret tok rfl ?_
            intro E w' hm _
            refine ⟨?_, hm.below (Vw.le.refl _)⟩
            rw [cbV, cbE, if_pos hc, if_pos hc]
            rfl
end Go.Proofs.Ytifgmaeileiebaa

/- Commands read back: the program's. -/
set_option linter.unusedVariables false
set_option linter.unusedSimpArgs false
set_option maxRecDepth 100000
namespace Go.Proofs.Ytifgmaeileiebaa
open Go Go.Eng Go.RowKit

/-- What is left, and whether something was lacking. -/
def tkS (t : ByteArray × Bool) (k : Nat) : ByteArray × Bool := if (getSpec t.1 0 k).2 ≠ 0 then (t.1, true) else (restOf t.1 k, t.2)

theorem tkS_size (t : ByteArray × Bool) (k : Nat) : (tkS t k).1.size ≤ t.1.size := by
  rw [tkS]; split
  · exact Nat.le_refl _
  · rw [restOf_size]; omega

theorem getSpec_bad {s : ByteArray} {a k : Int} (h : (getSpec s a k).2 ≠ 0) : (getSpec s a k).1 = 0 := by
  unfold getSpec at h ⊢
  split
  · rfl
  · split
    · rfl
    · split
      · rfl
      · rename_i h1 h2 h3
        rw [if_neg h1, if_neg h2, if_neg h3] at h
        exact absurd rfl h

theorem getSpec_fit {s : ByteArray} {k : Nat} (h : ¬ (getSpec s 0 k).2 ≠ 0) : k ≤ s.size := by
  unfold getSpec at h
  split at h
  · exact absurd (by decide) h
  · split at h
    · exact absurd (by decide) h
    · omega

theorem take_c (t : ByteArray × Bool) (k : Nat) (hs : t.1.size ≤ maxLen) (hk : k ≤ 6) (b : Nat) (w : World) (hb : w.heap[b]? = some (.cells [S t.1, .bool t.2].toArray 95 (0, 0))) :
    Calls Try.prog 47 #[.pointer (some ⟨b, 0, none⟩), I k] w fun e w' => e = .returned (I (getSpec t.1 0 k).1) ∧ Go.Eng.Touch (· = b) w w' ∧ w'.heap[b]? = some (.cells [S (tkS t k).1, .bool (tkS t k).2].toArray 95 (0, 0)) := by
  obtain ⟨s, bad⟩ := t
  dsimp only at hs hb ⊢
  refine enter1 [.a (.ptr 0 0), .a (.v (I k))] hb Try.func47 rfl rfl rfl rfl ?_
  refine c_seq ?_
  refine c_region ?_
  refine o_yield rfl rfl rfl (y_val tok rfl) ?_
  refine o_end [0, 1] rfl ?_
  refine x_then ?_
  refine c_seq ?_
  refine c_region ?_
  refine o_yield rfl rfl rfl (y_val tok rfl) ?_
  refine o_yield rfl rfl rfl (y_val tok rfl) ?_
  refine o_yield rfl rfl rfl (y_val tok rfl) ?_
  refine o_yield rfl rfl rfl (y_val tok rfl) ?_
  refine o_yield rfl rfl rfl (y_val tok rfl) ?_
  refine o_call (.a (.v _)) rfl rfl fnok60 rfl rfl rfl (fun hg E w1 hm => by exact numGet_c s 0 k hs _) ?_
  refine o_yield rfl rfl rfl (y_val tok rfl) ?_
  refine o_yield rfl rfl rfl (y_val tok rfl) ?_
  refine o_yield rfl rfl rfl (y_val tok rfl) ?_
  refine o_yield rfl rfl rfl (y_val tok rfl) ?_
  refine o_yield rfl rfl rfl (y_val tok rfl) ?_
  refine o_end [0, 1, 5, 6] rfl ?_
  refine x_then ?_
  refine c_seq ?_
  refine c_seq ?_
  refine c_region ?_
  refine o_yield rfl rfl rfl (y_val tok rfl) ?_
  refine o_yield rfl rfl rfl (y_val tok rfl) ?_
  refine o_end [0, 1, 5, 17] rfl ?_
  refine x_then ?_
  refine c_cond rfl (fun h => ?_) (fun h => ?_)
  ·
    simp only [Bool.and_eq_true, Bool.or_eq_true, Bool.not_eq_true', Bool.or_eq_false_iff, Bool.and_eq_false_iff, decide_eq_true_eq, decide_eq_false_iff_not, beq_iff_eq, bne_iff_ne, Bool.not_eq_false', beq_eq_false_iff_ne, bne_eq_false_iff_eq, ne_eq, Decidable.not_not, Int.not_lt, Int.not_le] at h
    refine c_seq ?_
    refine c_region ?_
    refine o_yield rfl rfl rfl (y_val tok rfl) ?_
    refine o_yield rfl rfl rfl (y_val tok rfl) ?_
    refine o_yield rfl rfl rfl (y_val tok rfl) ?_
    refine o_store tok rfl rfl rfl (by first | exact ⟨trivial, trivial⟩ | (repeat' first | exact trivial | exact rfl | apply And.intro); done | simp [onesP, oneP, lk, Value.oneCell']) ?_
    refine o_end [] rfl ?_
    refine x_then ?_
    refine c_seq ?_
    refine c_region ?_
    refine o_yield rfl rfl rfl (y_val tok rfl) ?_
    refine o_end [4] rfl ?_
    refine x_then ?_
    refine c_ret ?_
    refine x_then_ret ?_
    refine b_ret tok rfl ?_
    intro E w' hm _
    obtain ⟨h1, h2⟩ := back1 hm (Vw.le.refl _) rfl rfl rfl
    refine ⟨?_, h1, ?_⟩
    · rw [getSpec_bad h]; rfl
    · rw [h2, tkS, if_pos h]; rfl
  ·
    simp only [Bool.and_eq_true, Bool.or_eq_true, Bool.not_eq_true', Bool.or_eq_false_iff, Bool.and_eq_false_iff, decide_eq_true_eq, decide_eq_false_iff_not, beq_iff_eq, bne_iff_ne, Bool.not_eq_false', beq_eq_false_iff_ne, bne_eq_false_iff_eq, ne_eq, Decidable.not_not, Int.not_lt, Int.not_le] at h
    refine c_skip ?_
    refine x_then ?_
    refine c_seq ?_
    refine c_region ?_
    refine o_yield rfl rfl rfl (y_val tok rfl) ?_
    refine o_yield rfl rfl rfl (y_val tok rfl) ?_
    refine o_yield rfl rfl rfl (y_val tok rfl) ?_
    refine o_yield rfl rfl rfl (y_val tok rfl) ?_
    refine o_yield rfl rfl rfl (y_val tok rfl) ?_
    refine o_yield rfl rfl rfl (y_val tok rfl) ?_
    have hf := getSpec_fit (s := s) (k := k) (by simp [h])
    refine o_yield rfl rfl rfl (y_ss tok rfl (fun hg => by simp only [Option.getD]; omega)) ?_
    refine o_yield rfl rfl rfl (y_val tok rfl) ?_
    refine o_yield rfl rfl rfl (y_val tok rfl) ?_
    refine o_store tok rfl rfl rfl (by first | exact ⟨trivial, trivial⟩ | (repeat' first | exact trivial | exact rfl | apply And.intro); done | simp [onesP, oneP, lk, Value.oneCell']) ?_
    refine o_end [5] rfl ?_
    refine x_then ?_
    refine c_seq ?_
    refine c_region ?_
    refine o_yield rfl rfl rfl (y_val tok rfl) ?_
    refine o_yield rfl rfl rfl (y_val tok rfl) ?_
    refine o_end [4] rfl ?_
    refine x_then ?_
    refine c_ret ?_
    refine b_ret tok rfl ?_
    rw [show s.extract ((some (k : Int)).getD 0).toNat ((none : Option Int).getD (s.size : Int)).toNat = restOf s k from rfl]
    intro E w' hm _
    obtain ⟨h1, h2⟩ := back1 hm (Vw.le.refl _) rfl rfl rfl
    refine ⟨rfl, h1, ?_⟩
    rw [h2, tkS, if_neg (by simp [h])]; rfl

section
variable {o : Oper} {n : Nat} {F : Frame0} {C : List Nat} {O : Own} {nl : Nat} {V : Vw}

theorem s_take {p : List (Nat × Bool)} (l : Nat) (t : ByteArray × Bool) (k : Nat) (K : Int) (hK : (k : Int) = K) (t' : ByteArray × Bool) (ht : tkS t k = t') (ss : List SV) (hv : evalC F p o.op = some (47, ss)) (hss : ∀ E, ss.map (SV.den E) = [.pointer (some ⟨E.ρ l, 0, none⟩), I K])
    (hl : lk O l = some (.lit [.v (S t.1), .v (.bool t.2)] 95)) (hs : t.1.size ≤ maxLen) (hk : k ≤ 6) :
    StepTo Try.prog o p n F C O nl V (σ := Unit) (fun _ => True) (fun _ => .a (.v (I (getSpec t.1 0 K).1))) (fun _ => (l, .lit [.v (S t'.1), .v (.bool t'.2)] 95) :: O) nl (fun _ => V) := by
  subst hK ht
  refine s_callW (fun _ => True) (fun _ => .a (.v (I (getSpec t.1 0 k).1))) l 95 (fun _ => [.v (S (tkS t k).1), .v (.bool (tkS t k).2)]) hv fnok47 hl (fun _ => rfl) (fun _ => rfl) ?_
  intro E w hm hb
  rw [hss E]
  refine (take_c t k hs hk (E.ρ l) w hb).mono ?_
  rintro e w' ⟨rfl, h1, h2⟩
  exact ⟨(), rfl, h1, h2, trivial⟩
end

theorem getSpec_nonneg (s : ByteArray) (a k : Int) : 0 ≤ (getSpec s a k).1 ∧ (getSpec s a k).1 ≤ 1099511627776 := by
  unfold getSpec
  split
  · decide
  · split
    · decide
    · split
      · decide
      · constructor
        · exact Int.natCast_nonneg _
        · dsimp only; omega

theorem wrapI8 {n : Int} (h0 : 0 ≤ n) (h1 : n ≤ 127) : IntKind.i8.wrap n = n := by
  simp [IntKind.wrap, IntKind.bits, IntKind.signed]; omega

def rdPre (s : ByteArray) : Cmd × (ByteArray × Bool) :=
  if min (getSpec s 0 1).1 127 = 2 then
    (⟨min (getSpec s 0 1).1 127, (getSpec (tkS (s, false) 1).1 0 6).1, (getSpec (tkS (tkS (s, false) 1) 6).1 0 4).1, 0, 0, (getSpec (tkS (tkS (tkS (s, false) 1) 6) 4).1 0 1).1, (getSpec (tkS (tkS (tkS (tkS (s, false) 1) 6) 4) 1).1 0 1).1,
      min (getSpec (tkS (tkS (tkS (tkS (tkS (s, false) 1) 6) 4) 1) 1).1 0 1).1 127⟩, tkS (tkS (tkS (tkS (tkS (tkS (s, false) 1) 6) 4) 1) 1) 1)
  else if min (getSpec s 0 1).1 127 = 3 then
    (⟨min (getSpec s 0 1).1 127, (getSpec (tkS (s, false) 1).1 0 6).1, (getSpec (tkS (tkS (s, false) 1) 6).1 0 4).1, 0, 0, (getSpec (tkS (tkS (tkS (s, false) 1) 6) 4).1 0 1).1, (getSpec (tkS (tkS (tkS (tkS (s, false) 1) 6) 4) 1).1 0 1).1, 0⟩,
      tkS (tkS (tkS (tkS (tkS (s, false) 1) 6) 4) 1) 1)
  else if min (getSpec s 0 1).1 127 = 4 then
    (⟨min (getSpec s 0 1).1 127, (getSpec (tkS (s, false) 1).1 0 6).1, (getSpec (tkS (tkS (s, false) 1) 6).1 0 4).1, (getSpec (tkS (tkS (tkS (s, false) 1) 6) 4).1 0 6).1, (getSpec (tkS (tkS (tkS (tkS (s, false) 1) 6) 4) 6).1 0 6).1, 0, 0, 0⟩,
      tkS (tkS (tkS (tkS (tkS (s, false) 1) 6) 4) 6) 6)
  else if min (getSpec s 0 1).1 127 = 5 then
    (⟨min (getSpec s 0 1).1 127, (getSpec (tkS (s, false) 1).1 0 6).1, (getSpec (tkS (tkS (s, false) 1) 6).1 0 4).1, (getSpec (tkS (tkS (tkS (s, false) 1) 6) 4).1 0 6).1, 0, 0, 0, 0⟩, tkS (tkS (tkS (tkS (s, false) 1) 6) 4) 6)
  else (⟨min (getSpec s 0 1).1 127, (getSpec (tkS (s, false) 1).1 0 6).1, (getSpec (tkS (tkS (s, false) 1) 6).1 0 4).1, 0, 0, 0, 0, 0⟩, tkS (tkS (tkS (s, false) 1) 6) 4)

/-- Whether what was read stands. -/
def rdB (x : Cmd × (ByteArray × Bool)) : Bool := !((x.2.2 || !(x.2.1.toList == ByteArray.empty.toList)) || !(cmdB x.1))
def cmd0 : Cmd := ⟨0, 0, 0, 0, 0, 0, 0, 0⟩
def crdV (s : ByteArray) : Cmd := if rdB (rdPre s) = true then (rdPre s).1 else cmd0
def crdE (s : ByteArray) : Int := if rdB (rdPre s) = true then 0 else 100

theorem crd_no {s : ByteArray} {c : Cmd} {t : ByteArray × Bool} (hp : rdPre s = (c, t)) (h : ((t.2 || !(t.1.toList == ByteArray.empty.toList)) || !cmdB c) = true) : crdV s = cmd0 ∧ crdE s = 100 := by
  rw [crdV, crdE, hp, rdB, h]; exact ⟨rfl, rfl⟩

theorem crd_yes {s : ByteArray} {c : Cmd} {t : ByteArray × Bool} (hp : rdPre s = (c, t)) (h : ((t.2 || !(t.1.toList == ByteArray.empty.toList)) || !cmdB c) = false) : crdV s = c ∧ crdE s = 0 := by
  rw [crdV, crdE, hp, rdB, h]; exact ⟨rfl, rfl⟩

theorem cmdRead_c (s : ByteArray) (hs : s.size ≤ maxLen) (w : World) : Calls Try.prog 35 #[S s] w fun e w' => e = .returned (.tuple #[(crdV s).val, I (crdE s)]) ∧ Below w.heap.size w w' := by
  have hle1 := tkS_size (s, false) 1
  have hn1 := getSpec_nonneg s 0 1
  obtain ⟨t1, ht1⟩ : ∃ t, tkS (s, false) 1 = t := ⟨_, rfl⟩
  rw [ht1] at hle1
  have hle2 := tkS_size t1 6
  obtain ⟨t2, ht2⟩ : ∃ t, tkS t1 6 = t := ⟨_, rfl⟩
  rw [ht2] at hle2
  have hle3 := tkS_size t2 4
  obtain ⟨t3, ht3⟩ : ∃ t, tkS t2 4 = t := ⟨_, rfl⟩
  rw [ht3] at hle3
  dsimp only at hle1
  obtain ⟨n1, hn⟩ : ∃ n, (getSpec s 0 1).1 = n := ⟨_, rfl⟩
  refine enter (E := E0) (O := []) (nl := 0) (V := vw w) [.a (.v (S s))] Try.func35 rfl rfl (mem0 E0 0 w) rfl rfl ?_
  refine c_seq ?_
  refine c_region ?_
  refine o_new tok rfl rfl rfl rfl ?_
  refine o_yield rfl rfl rfl (y_val tok rfl) ?_
  refine o_end [0, 2] rfl ?_
  refine x_then ?_
  refine c_seq ?_
  refine c_region ?_
  refine o_yield rfl rfl rfl (y_val tok rfl) ?_
  refine o_yield rfl rfl rfl (y_val tok rfl) ?_
  refine o_new tok rfl rfl rfl rfl ?_
  refine o_yield rfl rfl rfl (y_val tok rfl) ?_
  refine o_end [2, 4] rfl ?_
  refine x_then ?_
  refine c_seq ?_
  refine c_region ?_
  refine o_yield rfl rfl rfl (y_val tok rfl) ?_
  refine o_step rfl rfl rfl rfl rfl (s_take 1 (s, false) 1 1 rfl t1 ht1 _ rfl (fun E => rfl) rfl hs (by omega)) (fun _ _ => ?_)
  refine o_yield rfl rfl rfl (y_val tok rfl) ?_
  refine o_end [2, 4, 5] rfl ?_
  refine x_then ?_
  refine c_seq ?_
  refine c_region ?_
  refine o_yield rfl rfl rfl (y_val tok rfl) ?_
  obtain ⟨K, hK⟩ : ∃ K, min n1 127 = K := ⟨_, rfl⟩
  have hk8 : IntKind.i8.wrap K = K := wrapI8 (by omega) (by omega)
  rw [hn]
  refine o_yield rfl rfl rfl (y_mm rfl) ?_
  refine o_yield rfl rfl rfl (y_val tok rfl) ?_
  refine o_yield rfl rfl rfl (y_val tok rfl) ?_
  rw [show (bif false then max n1 127 else min n1 127) = K from hK, hk8]
  refine o_step rfl rfl rfl rfl rfl (s_take 1 t1 6 6 rfl t2 ht2 _ rfl (fun E => rfl) rfl (by omega) (by omega)) (fun _ _ => ?_)
  refine o_yield rfl rfl rfl (y_val tok rfl) ?_
  refine o_step rfl rfl rfl rfl rfl (s_take 1 t2 4 4 rfl t3 ht3 _ rfl (fun E => rfl) rfl (by omega) (by omega)) (fun _ _ => ?_)
  refine o_yield rfl rfl rfl (y_val tok rfl) ?_
  refine o_new tok rfl rfl rfl rfl ?_
  refine o_store tok rfl rfl rfl (by first | exact ⟨trivial, trivial⟩ | (repeat' first | exact trivial | exact rfl | apply And.intro); done | simp [onesP, oneP, lk, Value.oneCell']) ?_
  refine o_end [2, 4, 6] rfl ?_
  refine x_then ?_
  refine c_seq ?_
  refine c_seq ?_
  refine c_region ?_
  refine o_yield rfl rfl rfl (y_val tok rfl) ?_
  refine o_yield rfl rfl rfl (y_val tok rfl) ?_
  refine o_end [2, 4, 6, 21] rfl ?_
  refine x_then ?_
  refine c_block ?_
  refine c_seq ?_
  refine c_seq ?_
  refine c_region ?_
  refine o_yield rfl rfl rfl (y_val tok rfl) ?_
  refine o_yield rfl rfl rfl (y_val tok rfl) ?_
  refine o_end [2, 4, 6, 21, 22] rfl ?_
  refine x_then ?_
  refine c_cond rfl (fun h => ?_) (fun h => ?_)
  ·
    refine c_skip ?_
    refine x_then ?_
    refine c_cond rfl (fun h2 => ?_) (fun h2 => ?_)
    ·
      refine c_seq ?_
      refine c_region ?_
      refine o_yield rfl rfl rfl (y_val tok rfl) ?_
      have e : K = 2 := by simpa using h2
      have hlet4 := tkS_size t3 1
      obtain ⟨t4, ht4⟩ : ∃ t, tkS t3 1 = t := ⟨_, rfl⟩
      rw [ht4] at hlet4
      refine o_step rfl rfl rfl rfl rfl (s_take 1 t3 1 1 rfl t4 ht4 _ rfl (fun E => rfl) rfl (by omega) (by omega)) (fun _ _ => ?_)
      refine o_yield rfl rfl rfl (y_val tok rfl) ?_
      have hlet5 := tkS_size t4 1
      obtain ⟨t5, ht5⟩ : ∃ t, tkS t4 1 = t := ⟨_, rfl⟩
      rw [ht5] at hlet5
      refine o_step rfl rfl rfl rfl rfl (s_take 1 t4 1 1 rfl t5 ht5 _ rfl (fun E => rfl) rfl (by omega) (by omega)) (fun _ _ => ?_)
      refine o_yield rfl rfl rfl (y_val tok rfl) ?_
      refine o_yield rfl rfl rfl (y_val tok rfl) ?_
      refine o_store tok rfl rfl rfl (by first | exact ⟨trivial, trivial⟩ | (repeat' first | exact trivial | exact rfl | apply And.intro); done | simp [onesP, oneP, lk, Value.oneCell']) ?_
      refine o_yield rfl rfl rfl (y_val tok rfl) ?_
      refine o_yield rfl rfl rfl (y_val tok rfl) ?_
      refine o_store tok rfl rfl rfl (by first | exact ⟨trivial, trivial⟩ | (repeat' first | exact trivial | exact rfl | apply And.intro); done | simp [onesP, oneP, lk, Value.oneCell']) ?_
      refine o_end [2, 4, 6] rfl ?_
      refine x_then ?_
      refine c_seq ?_
      refine c_region ?_
      refine o_yield rfl rfl rfl (y_val tok rfl) ?_
      refine o_yield rfl rfl rfl (y_val tok rfl) ?_
      refine o_yield rfl rfl rfl (y_val tok rfl) ?_
      refine o_end [2, 4, 6, 35] rfl ?_
      refine x_then ?_
      refine c_cond rfl (fun h => ?_) (fun h => ?_)
      ·
        refine c_region ?_
        refine o_yield rfl rfl rfl (y_val tok rfl) ?_
        obtain ⟨m, hmv⟩ : ∃ m, (getSpec t5.1 0 1).1 = m := ⟨_, rfl⟩
        have hm1 := getSpec_nonneg t5.1 0 1
        rw [hmv] at hm1
        obtain ⟨M, hM⟩ : ∃ M, min m 127 = M := ⟨_, rfl⟩
        have hm8 : IntKind.i8.wrap M = M := wrapI8 (by omega) (by omega)
        have hlet6 := tkS_size t5 1
        obtain ⟨t6, ht6⟩ : ∃ t, tkS t5 1 = t := ⟨_, rfl⟩
        rw [ht6] at hlet6
        refine o_step rfl rfl rfl rfl rfl (s_take 1 t5 1 1 rfl t6 ht6 _ rfl (fun E => rfl) rfl (by omega) (by omega)) (fun _ _ => ?_)
        rw [hmv]
        refine o_yield rfl rfl rfl (y_mm rfl) ?_
        refine o_yield rfl rfl rfl (y_val tok rfl) ?_
        refine o_yield rfl rfl rfl (y_val tok rfl) ?_
        refine o_store tok rfl rfl rfl (by first | exact ⟨trivial, trivial⟩ | (repeat' first | exact trivial | exact rfl | apply And.intro); done | simp [onesP, oneP, lk, Value.oneCell']) ?_
        refine o_end [2, 4, 6] rfl ?_
        refine x_block ?_
        refine x_then ?_
        refine c_seq ?_
        refine c_seq ?_
        refine c_region ?_
        refine o_yield rfl rfl rfl (y_val tok rfl) ?_
        refine o_yield rfl rfl rfl (y_val tok rfl) ?_
        refine o_yield rfl rfl rfl (y_val tok rfl) ?_
        refine o_yield rfl rfl rfl (y_val tok rfl) ?_
        refine o_yield rfl rfl rfl (y_val tok rfl) ?_
        refine o_yield rfl rfl rfl (y_val tok rfl) ?_
        refine o_yield rfl rfl rfl (y_val tok rfl) ?_
        refine o_yield rfl rfl rfl (y_val tok rfl) ?_
        refine o_yield rfl rfl rfl (y_val tok rfl) ?_
        refine o_yield rfl rfl rfl (y_val tok rfl) ?_
        refine o_yield rfl rfl rfl (y_val tok rfl) ?_
        refine o_yield rfl rfl rfl (y_val tok rfl) ?_
        refine o_yield rfl rfl rfl (y_val tok rfl) ?_
        rw [show (bif false then max m 127 else min m 127) = M from hM, hm8]
        refine o_call (.a (.v _)) rfl rfl fnok48 rfl rfl rfl (fun hg E w1 hm => by exact cmdMay_c ⟨K, (getSpec t1.1 0 6).1, (getSpec t2.1 0 4).1, 0, 0, (getSpec t3.1 0 1).1, (getSpec t4.1 0 1).1, M⟩ _) ?_
        refine o_yield rfl rfl rfl (y_val tok rfl) ?_
        refine o_yield rfl rfl rfl (y_val tok rfl) ?_
        refine o_end [2, 6, 68] rfl ?_
        refine x_then ?_
        refine c_cond rfl (fun h => ?_) (fun h => ?_)
        ·
          refine c_seq ?_
          refine c_region ?_
          refine o_yield rfl rfl rfl (y_val tok rfl) ?_
          refine o_store tok rfl rfl rfl (by first | exact ⟨trivial, trivial⟩ | (repeat' first | exact trivial | exact rfl | apply And.intro); done | simp [onesP, oneP, lk, Value.oneCell']) ?_
          refine o_yield rfl rfl rfl (y_val tok rfl) ?_
          refine o_end [2, 3] rfl ?_
          refine x_then ?_
          refine c_ret ?_
          refine x_then_ret ?_
          refine b_ret tok rfl ?_
          intro E w' hm _
          refine ⟨?_, hm.below (Vw.le.refl _)⟩
          obtain ⟨r1, r2⟩ := crd_no (s := s) (c := ⟨K, (getSpec t1.1 0 6).1, (getSpec t2.1 0 4).1, 0, 0, (getSpec t3.1 0 1).1, (getSpec t4.1 0 1).1, M⟩) (t := t6) (by rw [rdPre, hn, hK, if_pos e, ht1, ht2, ht3, ht4, ht5, hmv, hM, ht6]) h
          rw [r1, r2]; rfl
        ·
          refine c_skip ?_
          refine x_then ?_
          refine c_seq ?_
          refine c_region ?_
          refine o_yield rfl rfl rfl (y_val tok rfl) ?_
          refine o_store tok rfl rfl rfl (by first | exact ⟨trivial, trivial⟩ | (repeat' first | exact trivial | exact rfl | apply And.intro); done | simp [onesP, oneP, lk, Value.oneCell']) ?_
          refine o_yield rfl rfl rfl (y_val tok rfl) ?_
          refine o_end [2, 3] rfl ?_
          refine x_then ?_
          refine c_ret ?_
          refine b_ret tok rfl ?_
          intro E w' hm _
          refine ⟨?_, hm.below (Vw.le.refl _)⟩
          obtain ⟨r1, r2⟩ := crd_yes (s := s) (c := ⟨K, (getSpec t1.1 0 6).1, (getSpec t2.1 0 4).1, 0, 0, (getSpec t3.1 0 1).1, (getSpec t4.1 0 1).1, M⟩) (t := t6) (by rw [rdPre, hn, hK, if_pos e, ht1, ht2, ht3, ht4, ht5, hmv, hM, ht6]) h
          rw [r1, r2]; rfl
      ·
        exact absurd (h.symm.trans h2) (by decide)
    ·
      exact absurd (h.symm.trans h2) (by decide)
  ·
    refine c_region ?_
    refine o_yield rfl rfl rfl (y_val tok rfl) ?_
    refine o_yield rfl rfl rfl (y_val tok rfl) ?_
    refine o_end [2, 4, 6, 21, 22] rfl ?_
    refine x_then ?_
    refine c_cond rfl (fun h2 => ?_) (fun h2 => ?_)
    ·
      refine c_seq ?_
      refine c_region ?_
      refine o_yield rfl rfl rfl (y_val tok rfl) ?_
      have e : K = 3 := by simpa using h2
      have hlet4 := tkS_size t3 1
      obtain ⟨t4, ht4⟩ : ∃ t, tkS t3 1 = t := ⟨_, rfl⟩
      rw [ht4] at hlet4
      refine o_step rfl rfl rfl rfl rfl (s_take 1 t3 1 1 rfl t4 ht4 _ rfl (fun E => rfl) rfl (by omega) (by omega)) (fun _ _ => ?_)
      refine o_yield rfl rfl rfl (y_val tok rfl) ?_
      have hlet5 := tkS_size t4 1
      obtain ⟨t5, ht5⟩ : ∃ t, tkS t4 1 = t := ⟨_, rfl⟩
      rw [ht5] at hlet5
      refine o_step rfl rfl rfl rfl rfl (s_take 1 t4 1 1 rfl t5 ht5 _ rfl (fun E => rfl) rfl (by omega) (by omega)) (fun _ _ => ?_)
      refine o_yield rfl rfl rfl (y_val tok rfl) ?_
      refine o_yield rfl rfl rfl (y_val tok rfl) ?_
      refine o_store tok rfl rfl rfl (by first | exact ⟨trivial, trivial⟩ | (repeat' first | exact trivial | exact rfl | apply And.intro); done | simp [onesP, oneP, lk, Value.oneCell']) ?_
      refine o_yield rfl rfl rfl (y_val tok rfl) ?_
      refine o_yield rfl rfl rfl (y_val tok rfl) ?_
      refine o_store tok rfl rfl rfl (by first | exact ⟨trivial, trivial⟩ | (repeat' first | exact trivial | exact rfl | apply And.intro); done | simp [onesP, oneP, lk, Value.oneCell']) ?_
      refine o_end [2, 4, 6] rfl ?_
      refine x_then ?_
      refine c_seq ?_
      refine c_region ?_
      refine o_yield rfl rfl rfl (y_val tok rfl) ?_
      refine o_yield rfl rfl rfl (y_val tok rfl) ?_
      refine o_yield rfl rfl rfl (y_val tok rfl) ?_
      refine o_end [2, 4, 6, 35] rfl ?_
      refine x_then ?_
      refine c_cond rfl (fun h => ?_) (fun h => ?_)
      ·
        rw [e] at h; cases h
      ·
        refine c_skip ?_
        refine x_block ?_
        refine x_then ?_
        refine c_seq ?_
        refine c_seq ?_
        refine c_region ?_
        refine o_yield rfl rfl rfl (y_val tok rfl) ?_
        refine o_yield rfl rfl rfl (y_val tok rfl) ?_
        refine o_yield rfl rfl rfl (y_val tok rfl) ?_
        refine o_yield rfl rfl rfl (y_val tok rfl) ?_
        refine o_yield rfl rfl rfl (y_val tok rfl) ?_
        refine o_yield rfl rfl rfl (y_val tok rfl) ?_
        refine o_yield rfl rfl rfl (y_val tok rfl) ?_
        refine o_yield rfl rfl rfl (y_val tok rfl) ?_
        refine o_yield rfl rfl rfl (y_val tok rfl) ?_
        refine o_yield rfl rfl rfl (y_val tok rfl) ?_
        refine o_yield rfl rfl rfl (y_val tok rfl) ?_
        refine o_yield rfl rfl rfl (y_val tok rfl) ?_
        refine o_yield rfl rfl rfl (y_val tok rfl) ?_
        refine o_call (.a (.v _)) rfl rfl fnok48 rfl rfl rfl (fun hg E w1 hm => by exact cmdMay_c ⟨K, (getSpec t1.1 0 6).1, (getSpec t2.1 0 4).1, 0, 0, (getSpec t3.1 0 1).1, (getSpec t4.1 0 1).1, 0⟩ _) ?_
        refine o_yield rfl rfl rfl (y_val tok rfl) ?_
        refine o_yield rfl rfl rfl (y_val tok rfl) ?_
        refine o_end [2, 6, 68] rfl ?_
        refine x_then ?_
        refine c_cond rfl (fun h => ?_) (fun h => ?_)
        ·
          refine c_seq ?_
          refine c_region ?_
          refine o_yield rfl rfl rfl (y_val tok rfl) ?_
          refine o_store tok rfl rfl rfl (by first | exact ⟨trivial, trivial⟩ | (repeat' first | exact trivial | exact rfl | apply And.intro); done | simp [onesP, oneP, lk, Value.oneCell']) ?_
          refine o_yield rfl rfl rfl (y_val tok rfl) ?_
          refine o_end [2, 3] rfl ?_
          refine x_then ?_
          refine c_ret ?_
          refine x_then_ret ?_
          refine b_ret tok rfl ?_
          intro E w' hm _
          refine ⟨?_, hm.below (Vw.le.refl _)⟩
          obtain ⟨r1, r2⟩ := crd_no (s := s) (c := ⟨K, (getSpec t1.1 0 6).1, (getSpec t2.1 0 4).1, 0, 0, (getSpec t3.1 0 1).1, (getSpec t4.1 0 1).1, 0⟩) (t := t5) (by rw [rdPre, hn, hK, if_neg (by omega), if_pos e, ht1, ht2, ht3, ht4, ht5]) h
          rw [r1, r2]; rfl
        ·
          refine c_skip ?_
          refine x_then ?_
          refine c_seq ?_
          refine c_region ?_
          refine o_yield rfl rfl rfl (y_val tok rfl) ?_
          refine o_store tok rfl rfl rfl (by first | exact ⟨trivial, trivial⟩ | (repeat' first | exact trivial | exact rfl | apply And.intro); done | simp [onesP, oneP, lk, Value.oneCell']) ?_
          refine o_yield rfl rfl rfl (y_val tok rfl) ?_
          refine o_end [2, 3] rfl ?_
          refine x_then ?_
          refine c_ret ?_
          refine b_ret tok rfl ?_
          intro E w' hm _
          refine ⟨?_, hm.below (Vw.le.refl _)⟩
          obtain ⟨r1, r2⟩ := crd_yes (s := s) (c := ⟨K, (getSpec t1.1 0 6).1, (getSpec t2.1 0 4).1, 0, 0, (getSpec t3.1 0 1).1, (getSpec t4.1 0 1).1, 0⟩) (t := t5) (by rw [rdPre, hn, hK, if_neg (by omega), if_pos e, ht1, ht2, ht3, ht4, ht5]) h
          rw [r1, r2]; rfl
    ·
      refine c_seq ?_
      refine c_seq ?_
      refine c_region ?_
      refine o_yield rfl rfl rfl (y_val tok rfl) ?_
      refine o_yield rfl rfl rfl (y_val tok rfl) ?_
      refine o_end [2, 4, 6, 21, 41] rfl ?_
      refine x_then ?_
      refine c_cond rfl (fun h4 => ?_) (fun h4 => ?_)
      ·
        refine c_skip ?_
        refine x_then ?_
        refine c_cond rfl (fun h5 => ?_) (fun h5 => ?_)
        ·
          refine c_seq ?_
          refine c_region ?_
          refine o_yield rfl rfl rfl (y_val tok rfl) ?_
          have f2 : ¬ K = 2 := by simpa using h
          have f3 : ¬ K = 3 := by simpa using h2
          have e : K = 4 := by simpa using h4
          have hlet4 := tkS_size t3 6
          obtain ⟨t4, ht4⟩ : ∃ t, tkS t3 6 = t := ⟨_, rfl⟩
          rw [ht4] at hlet4
          refine o_step rfl rfl rfl rfl rfl (s_take 1 t3 6 6 rfl t4 ht4 _ rfl (fun E => rfl) rfl (by omega) (by omega)) (fun _ _ => ?_)
          refine o_yield rfl rfl rfl (y_val tok rfl) ?_
          refine o_store tok rfl rfl rfl (by first | exact ⟨trivial, trivial⟩ | (repeat' first | exact trivial | exact rfl | apply And.intro); done | simp [onesP, oneP, lk, Value.oneCell']) ?_
          refine o_end [2, 4, 6] rfl ?_
          refine x_then ?_
          refine c_seq ?_
          refine c_region ?_
          refine o_yield rfl rfl rfl (y_val tok rfl) ?_
          refine o_yield rfl rfl rfl (y_val tok rfl) ?_
          refine o_yield rfl rfl rfl (y_val tok rfl) ?_
          refine o_end [2, 4, 6, 49] rfl ?_
          refine x_then ?_
          refine c_cond rfl (fun h => ?_) (fun h => ?_)
          ·
            refine c_region ?_
            refine o_yield rfl rfl rfl (y_val tok rfl) ?_
            have hlet5 := tkS_size t4 6
            obtain ⟨t5, ht5⟩ : ∃ t, tkS t4 6 = t := ⟨_, rfl⟩
            rw [ht5] at hlet5
            refine o_step rfl rfl rfl rfl rfl (s_take 1 t4 6 6 rfl t5 ht5 _ rfl (fun E => rfl) rfl (by omega) (by omega)) (fun _ _ => ?_)
            refine o_yield rfl rfl rfl (y_val tok rfl) ?_
            refine o_store tok rfl rfl rfl (by first | exact ⟨trivial, trivial⟩ | (repeat' first | exact trivial | exact rfl | apply And.intro); done | simp [onesP, oneP, lk, Value.oneCell']) ?_
            refine o_end [2, 4, 6] rfl ?_
            refine x_block ?_
            refine x_then ?_
            refine c_seq ?_
            refine c_seq ?_
            refine c_region ?_
            refine o_yield rfl rfl rfl (y_val tok rfl) ?_
            refine o_yield rfl rfl rfl (y_val tok rfl) ?_
            refine o_yield rfl rfl rfl (y_val tok rfl) ?_
            refine o_yield rfl rfl rfl (y_val tok rfl) ?_
            refine o_yield rfl rfl rfl (y_val tok rfl) ?_
            refine o_yield rfl rfl rfl (y_val tok rfl) ?_
            refine o_yield rfl rfl rfl (y_val tok rfl) ?_
            refine o_yield rfl rfl rfl (y_val tok rfl) ?_
            refine o_yield rfl rfl rfl (y_val tok rfl) ?_
            refine o_yield rfl rfl rfl (y_val tok rfl) ?_
            refine o_yield rfl rfl rfl (y_val tok rfl) ?_
            refine o_yield rfl rfl rfl (y_val tok rfl) ?_
            refine o_yield rfl rfl rfl (y_val tok rfl) ?_
            refine o_call (.a (.v _)) rfl rfl fnok48 rfl rfl rfl (fun hg E w1 hm => by exact cmdMay_c ⟨K, (getSpec t1.1 0 6).1, (getSpec t2.1 0 4).1, (getSpec t3.1 0 6).1, (getSpec t4.1 0 6).1, 0, 0, 0⟩ _) ?_
            refine o_yield rfl rfl rfl (y_val tok rfl) ?_
            refine o_yield rfl rfl rfl (y_val tok rfl) ?_
            refine o_end [2, 6, 68] rfl ?_
            refine x_then ?_
            refine c_cond rfl (fun h => ?_) (fun h => ?_)
            ·
              refine c_seq ?_
              refine c_region ?_
              refine o_yield rfl rfl rfl (y_val tok rfl) ?_
              refine o_store tok rfl rfl rfl (by first | exact ⟨trivial, trivial⟩ | (repeat' first | exact trivial | exact rfl | apply And.intro); done | simp [onesP, oneP, lk, Value.oneCell']) ?_
              refine o_yield rfl rfl rfl (y_val tok rfl) ?_
              refine o_end [2, 3] rfl ?_
              refine x_then ?_
              refine c_ret ?_
              refine x_then_ret ?_
              refine b_ret tok rfl ?_
              intro E w' hm _
              refine ⟨?_, hm.below (Vw.le.refl _)⟩
              obtain ⟨r1, r2⟩ := crd_no (s := s) (c := ⟨K, (getSpec t1.1 0 6).1, (getSpec t2.1 0 4).1, (getSpec t3.1 0 6).1, (getSpec t4.1 0 6).1, 0, 0, 0⟩) (t := t5) (by rw [rdPre, hn, hK, if_neg f2, if_neg f3, if_pos e, ht1, ht2, ht3, ht4, ht5]) h
              rw [r1, r2]; rfl
            ·
              refine c_skip ?_
              refine x_then ?_
              refine c_seq ?_
              refine c_region ?_
              refine o_yield rfl rfl rfl (y_val tok rfl) ?_
              refine o_store tok rfl rfl rfl (by first | exact ⟨trivial, trivial⟩ | (repeat' first | exact trivial | exact rfl | apply And.intro); done | simp [onesP, oneP, lk, Value.oneCell']) ?_
              refine o_yield rfl rfl rfl (y_val tok rfl) ?_
              refine o_end [2, 3] rfl ?_
              refine x_then ?_
              refine c_ret ?_
              refine b_ret tok rfl ?_
              intro E w' hm _
              refine ⟨?_, hm.below (Vw.le.refl _)⟩
              obtain ⟨r1, r2⟩ := crd_yes (s := s) (c := ⟨K, (getSpec t1.1 0 6).1, (getSpec t2.1 0 4).1, (getSpec t3.1 0 6).1, (getSpec t4.1 0 6).1, 0, 0, 0⟩) (t := t5) (by rw [rdPre, hn, hK, if_neg f2, if_neg f3, if_pos e, ht1, ht2, ht3, ht4, ht5]) h
              rw [r1, r2]; rfl
          ·
            exact absurd (h.symm.trans h4) (by decide)
        ·
          exact absurd (h5.symm.trans h4) (by decide)
      ·
        refine c_region ?_
        refine o_yield rfl rfl rfl (y_val tok rfl) ?_
        refine o_yield rfl rfl rfl (y_val tok rfl) ?_
        refine o_end [2, 4, 6, 41] rfl ?_
        refine x_then ?_
        refine c_cond rfl (fun h5 => ?_) (fun h5 => ?_)
        ·
          refine c_seq ?_
          refine c_region ?_
          refine o_yield rfl rfl rfl (y_val tok rfl) ?_
          have f2 : ¬ K = 2 := by simpa using h
          have f3 : ¬ K = 3 := by simpa using h2
          have e : K = 5 := by simpa using h5
          have hlet4 := tkS_size t3 6
          obtain ⟨t4, ht4⟩ : ∃ t, tkS t3 6 = t := ⟨_, rfl⟩
          rw [ht4] at hlet4
          refine o_step rfl rfl rfl rfl rfl (s_take 1 t3 6 6 rfl t4 ht4 _ rfl (fun E => rfl) rfl (by omega) (by omega)) (fun _ _ => ?_)
          refine o_yield rfl rfl rfl (y_val tok rfl) ?_
          refine o_store tok rfl rfl rfl (by first | exact ⟨trivial, trivial⟩ | (repeat' first | exact trivial | exact rfl | apply And.intro); done | simp [onesP, oneP, lk, Value.oneCell']) ?_
          refine o_end [2, 4, 6] rfl ?_
          refine x_then ?_
          refine c_seq ?_
          refine c_region ?_
          refine o_yield rfl rfl rfl (y_val tok rfl) ?_
          refine o_yield rfl rfl rfl (y_val tok rfl) ?_
          refine o_yield rfl rfl rfl (y_val tok rfl) ?_
          refine o_end [2, 4, 6, 49] rfl ?_
          refine x_then ?_
          refine c_cond rfl (fun h => ?_) (fun h => ?_)
          ·
            rw [e] at h; cases h
          ·
            refine c_skip ?_
            refine x_block ?_
            refine x_then ?_
            refine c_seq ?_
            refine c_seq ?_
            refine c_region ?_
            refine o_yield rfl rfl rfl (y_val tok rfl) ?_
            refine o_yield rfl rfl rfl (y_val tok rfl) ?_
            refine o_yield rfl rfl rfl (y_val tok rfl) ?_
            refine o_yield rfl rfl rfl (y_val tok rfl) ?_
            refine o_yield rfl rfl rfl (y_val tok rfl) ?_
            refine o_yield rfl rfl rfl (y_val tok rfl) ?_
            refine o_yield rfl rfl rfl (y_val tok rfl) ?_
            refine o_yield rfl rfl rfl (y_val tok rfl) ?_
            refine o_yield rfl rfl rfl (y_val tok rfl) ?_
            refine o_yield rfl rfl rfl (y_val tok rfl) ?_
            refine o_yield rfl rfl rfl (y_val tok rfl) ?_
            refine o_yield rfl rfl rfl (y_val tok rfl) ?_
            refine o_yield rfl rfl rfl (y_val tok rfl) ?_
            refine o_call (.a (.v _)) rfl rfl fnok48 rfl rfl rfl (fun hg E w1 hm => by exact cmdMay_c ⟨K, (getSpec t1.1 0 6).1, (getSpec t2.1 0 4).1, (getSpec t3.1 0 6).1, 0, 0, 0, 0⟩ _) ?_
            refine o_yield rfl rfl rfl (y_val tok rfl) ?_
            refine o_yield rfl rfl rfl (y_val tok rfl) ?_
            refine o_end [2, 6, 68] rfl ?_
            refine x_then ?_
            refine c_cond rfl (fun h => ?_) (fun h => ?_)
            ·
              refine c_seq ?_
              refine c_region ?_
              refine o_yield rfl rfl rfl (y_val tok rfl) ?_
              refine o_store tok rfl rfl rfl (by first | exact ⟨trivial, trivial⟩ | (repeat' first | exact trivial | exact rfl | apply And.intro); done | simp [onesP, oneP, lk, Value.oneCell']) ?_
              refine o_yield rfl rfl rfl (y_val tok rfl) ?_
              refine o_end [2, 3] rfl ?_
              refine x_then ?_
              refine c_ret ?_
              refine x_then_ret ?_
              refine b_ret tok rfl ?_
              intro E w' hm _
              refine ⟨?_, hm.below (Vw.le.refl _)⟩
              obtain ⟨r1, r2⟩ := crd_no (s := s) (c := ⟨K, (getSpec t1.1 0 6).1, (getSpec t2.1 0 4).1, (getSpec t3.1 0 6).1, 0, 0, 0, 0⟩) (t := t4) (by rw [rdPre, hn, hK, if_neg f2, if_neg f3, if_neg (by omega), if_pos e, ht1, ht2, ht3, ht4]) h
              rw [r1, r2]; rfl
            ·
              refine c_skip ?_
              refine x_then ?_
              refine c_seq ?_
              refine c_region ?_
              refine o_yield rfl rfl rfl (y_val tok rfl) ?_
              refine o_store tok rfl rfl rfl (by first | exact ⟨trivial, trivial⟩ | (repeat' first | exact trivial | exact rfl | apply And.intro); done | simp [onesP, oneP, lk, Value.oneCell']) ?_
              refine o_yield rfl rfl rfl (y_val tok rfl) ?_
              refine o_end [2, 3] rfl ?_
              refine x_then ?_
              refine c_ret ?_
              refine b_ret tok rfl ?_
              intro E w' hm _
              refine ⟨?_, hm.below (Vw.le.refl _)⟩
              obtain ⟨r1, r2⟩ := crd_yes (s := s) (c := ⟨K, (getSpec t1.1 0 6).1, (getSpec t2.1 0 4).1, (getSpec t3.1 0 6).1, 0, 0, 0, 0⟩) (t := t4) (by rw [rdPre, hn, hK, if_neg f2, if_neg f3, if_neg (by omega), if_pos e, ht1, ht2, ht3, ht4]) h
              rw [r1, r2]; rfl
        ·
          refine c_skip ?_
          refine x_block ?_
          refine x_then ?_
          refine c_seq ?_
          refine c_seq ?_
          refine c_region ?_
          refine o_yield rfl rfl rfl (y_val tok rfl) ?_
          refine o_yield rfl rfl rfl (y_val tok rfl) ?_
          refine o_yield rfl rfl rfl (y_val tok rfl) ?_
          refine o_yield rfl rfl rfl (y_val tok rfl) ?_
          refine o_yield rfl rfl rfl (y_val tok rfl) ?_
          refine o_yield rfl rfl rfl (y_val tok rfl) ?_
          refine o_yield rfl rfl rfl (y_val tok rfl) ?_
          refine o_yield rfl rfl rfl (y_val tok rfl) ?_
          refine o_yield rfl rfl rfl (y_val tok rfl) ?_
          refine o_yield rfl rfl rfl (y_val tok rfl) ?_
          refine o_yield rfl rfl rfl (y_val tok rfl) ?_
          refine o_yield rfl rfl rfl (y_val tok rfl) ?_
          refine o_yield rfl rfl rfl (y_val tok rfl) ?_
          have f2 : ¬ K = 2 := by simpa using h
          have f3 : ¬ K = 3 := by simpa using h2
          have f4 : ¬ K = 4 := by simpa using h4
          have f5 : ¬ K = 5 := by simpa using h5
          refine o_call (.a (.v _)) rfl rfl fnok48 rfl rfl rfl (fun hg E w1 hm => by exact cmdMay_c ⟨K, (getSpec t1.1 0 6).1, (getSpec t2.1 0 4).1, 0, 0, 0, 0, 0⟩ _) ?_
          refine o_yield rfl rfl rfl (y_val tok rfl) ?_
          refine o_yield rfl rfl rfl (y_val tok rfl) ?_
          refine o_end [2, 6, 68] rfl ?_
          refine x_then ?_
          refine c_cond rfl (fun h => ?_) (fun h => ?_)
          ·
            refine c_seq ?_
            refine c_region ?_
            refine o_yield rfl rfl rfl (y_val tok rfl) ?_
            refine o_store tok rfl rfl rfl (by first | exact ⟨trivial, trivial⟩ | (repeat' first | exact trivial | exact rfl | apply And.intro); done | simp [onesP, oneP, lk, Value.oneCell']) ?_
            refine o_yield rfl rfl rfl (y_val tok rfl) ?_
            refine o_end [2, 3] rfl ?_
            refine x_then ?_
            refine c_ret ?_
            refine x_then_ret ?_
            refine b_ret tok rfl ?_
            intro E w' hm _
            refine ⟨?_, hm.below (Vw.le.refl _)⟩
            obtain ⟨r1, r2⟩ := crd_no (s := s) (c := ⟨K, (getSpec t1.1 0 6).1, (getSpec t2.1 0 4).1, 0, 0, 0, 0, 0⟩) (t := t3) (by rw [rdPre, hn, hK, if_neg f2, if_neg f3, if_neg f4, if_neg f5, ht1, ht2, ht3]) h
            rw [r1, r2]; rfl
          ·
            refine c_skip ?_
            refine x_then ?_
            refine c_seq ?_
            refine c_region ?_
            refine o_yield rfl rfl rfl (y_val tok rfl) ?_
            refine o_store tok rfl rfl rfl (by first | exact ⟨trivial, trivial⟩ | (repeat' first | exact trivial | exact rfl | apply And.intro); done | simp [onesP, oneP, lk, Value.oneCell']) ?_
            refine o_yield rfl rfl rfl (y_val tok rfl) ?_
            refine o_end [2, 3] rfl ?_
            refine x_then ?_
            refine c_ret ?_
            refine b_ret tok rfl ?_
            intro E w' hm _
            refine ⟨?_, hm.below (Vw.le.refl _)⟩
            obtain ⟨r1, r2⟩ := crd_yes (s := s) (c := ⟨K, (getSpec t1.1 0 6).1, (getSpec t2.1 0 4).1, 0, 0, 0, 0, 0⟩) (t := t3) (by rw [rdPre, hn, hK, if_neg f2, if_neg f3, if_neg f4, if_neg f5, ht1, ht2, ht3]) h
            rw [r1, r2]; rfl
end Go.Proofs.Ytifgmaeileiebaa

/- Decided sectors: the program's. -/
set_option linter.unusedVariables false
set_option linter.unusedSimpArgs false
set_option maxRecDepth 100000
namespace Go.Proofs.Ytifgmaeileiebaa
open Go Go.Eng Go.RowKit

def dbV (s : ByteArray) : ByteArray := if crdE s = 0 then (sealS 5 s).1 else ByteArray.empty
def dbE (s : ByteArray) : Int := if crdE s = 0 then (sealS 5 s).2 else 2

theorem decBytes_c (s : ByteArray) (hs : s.size ≤ maxLen) (w : World) : Calls Try.prog 23 #[S s] w fun e w' => e = .returned (.tuple #[S (dbV s), I (dbE s)]) ∧ Below w.heap.size w w' := by
  refine enter (E := E0) (O := []) (nl := 0) (V := vw w) [.a (.v (S s))] Try.func23 rfl rfl (mem0 E0 0 w) rfl rfl ?_
  refine c_seq ?_
  refine c_region ?_
  refine o_yield rfl rfl rfl (y_val tok rfl) ?_
  refine o_yield rfl rfl rfl (y_val tok rfl) ?_
  refine o_end [0] rfl ?_
  refine x_then ?_
  refine c_seq ?_
  refine c_seq ?_
  refine c_region ?_
  refine o_yield rfl rfl rfl (y_val tok rfl) ?_
  refine o_call (.a (.v _)) rfl rfl fnok35 rfl rfl rfl (fun hg E w1 hm => by exact cmdRead_c s hs _) ?_
  refine o_yield rfl rfl rfl (y_val tok rfl) ?_
  refine o_yield rfl rfl rfl (y_val tok rfl) ?_
  refine o_yield rfl rfl rfl (y_val tok rfl) ?_
  refine o_new tok rfl rfl rfl rfl ?_
  refine o_store tok rfl rfl rfl (by first | exact ⟨trivial, trivial⟩ | (repeat' first | exact trivial | exact rfl | apply And.intro); done | simp [onesP, oneP, lk, Value.oneCell']) ?_
  refine o_yield rfl rfl rfl (y_val tok rfl) ?_
  refine o_end [0, 5] rfl ?_
  refine x_then ?_
  refine c_seq ?_
  refine c_region ?_
  refine o_yield rfl rfl rfl (y_val tok rfl) ?_
  refine o_yield rfl rfl rfl (y_val tok rfl) ?_
  refine o_end [0, 12] rfl ?_
  refine x_then ?_
  refine c_cond rfl (fun h => ?_) (fun h => ?_)
  ·
    simp only [Bool.and_eq_true, Bool.or_eq_true, Bool.not_eq_true', Bool.or_eq_false_iff, Bool.and_eq_false_iff, decide_eq_true_eq, decide_eq_false_iff_not, beq_iff_eq, bne_iff_ne, Bool.not_eq_false', beq_eq_false_iff_ne, bne_eq_false_iff_eq, ne_eq, Decidable.not_not, Int.not_lt, Int.not_le] at h
    refine c_seq ?_
    refine c_region ?_
    refine o_yield rfl rfl rfl (y_val tok rfl) ?_
    refine o_yield rfl rfl rfl (y_val tok rfl) ?_
    refine o_end [2, 3] rfl ?_
    refine x_then ?_
    refine c_ret ?_
    refine x_then_ret ?_
    refine b_ret tok rfl ?_
    intro E w' hm _
    refine ⟨?_, hm.below (Vw.le.refl _)⟩
    rw [dbV, dbE, if_neg h, if_neg h]; rfl
  ·
    simp only [Bool.and_eq_true, Bool.or_eq_true, Bool.not_eq_true', Bool.or_eq_false_iff, Bool.and_eq_false_iff, decide_eq_true_eq, decide_eq_false_iff_not, beq_iff_eq, bne_iff_ne, Bool.not_eq_false', beq_eq_false_iff_ne, bne_eq_false_iff_eq, ne_eq, Decidable.not_not, Int.not_lt, Int.not_le] at h
    refine c_skip ?_
    refine x_then ?_
    refine c_seq ?_
    refine c_region ?_
    refine o_yield rfl rfl rfl (y_val tok rfl) ?_
    refine o_call (.a (.v _)) rfl rfl fnok38 rfl rfl rfl (fun hg E w1 hm => by exact sealSeal_c 5 (by unfold R8; omega) s hs _) ?_
    refine o_yield rfl rfl rfl (y_val tok rfl) ?_
    refine o_yield rfl rfl rfl (y_val tok rfl) ?_
    refine o_yield rfl rfl rfl (y_val tok rfl) ?_
    refine o_yield rfl rfl rfl (y_val tok rfl) ?_
    refine o_end [2, 3] rfl ?_
    refine x_then ?_
    refine c_ret ?_
    refine b_ret tok rfl ?_
    intro E w' hm _
    refine ⟨?_, hm.below (Vw.le.refl _)⟩
    rw [dbV, dbE, if_pos h, if_pos h]; rfl

/-- What reading a sector finds. -/
def drB (s : ByteArray) : Bool := !(s.toList == ByteArray.empty.toList) && (ofE 5 s == 0 && crdE (ofL 5 s) == 0)
def drC (s : ByteArray) : Cmd := if drB s = true then crdV (ofL 5 s) else cmd0
def drS (s : ByteArray) : ByteArray := if drB s = true then ofL 5 s else ByteArray.empty
def drE (s : ByteArray) : Int := if (s.toList == ByteArray.empty.toList) = true ∨ drB s = true then 0 else 50

abbrev readerC (c : Cmd) (s : ByteArray) (ok : Bool) (lv : Value) : List Value := c.cells ++ [S s, .bool ok, lv]
abbrev readerAs (c : Cmd) (s : ByteArray) (ok : Bool) (a : A) : List A := c.cells.map .v ++ [.v (S s), .v (.bool ok), a]

theorem ofL_size (k : Int) (s : ByteArray) (hs : s.size ≤ maxLen) : (ofL k s).size ≤ maxLen := by
  rw [ofL]
  split
  · rw [loadOf, ByteArray.size_extract]; omega
  · exact Nat.zero_le _

theorem dread_c (s : ByteArray) (hs : s.size ≤ maxLen) (c0 : Cmd) (s0 : ByteArray) (ok0 : Bool) (lv : Value) (b : Nat) (w : World) (hb : w.heap[b]? = some (.cells (readerC c0 s0 ok0 lv).toArray 53 (0, 0))) :
    Calls Try.prog 20 #[.pointer (some ⟨b, 0, none⟩), S s] w fun e w' => e = .returned (I (drE s)) ∧ Go.Eng.Touch (· = b) w w' ∧ w'.heap[b]? = some (.cells (readerC (drC s) (drS s) (drB s) lv).toArray 53 (0, 0)) := by
  have hos := ofL_size 5 s hs
  refine enter1 [.a (.ptr 0 0), .a (.v (S s))] hb Try.func20 rfl rfl rfl rfl ?_
  refine c_seq ?_
  refine c_region ?_
  refine o_yield rfl rfl rfl (y_val tok rfl) ?_
  refine o_end [0, 1] rfl ?_
  refine x_then ?_
  refine c_seq ?_
  refine c_region ?_
  refine o_yield rfl rfl rfl (y_val tok rfl) ?_
  refine o_yield rfl rfl rfl (y_val tok rfl) ?_
  refine o_yield rfl rfl rfl (y_val tok rfl) ?_
  refine o_yield rfl rfl rfl (y_val tok rfl) ?_
  refine o_store tok rfl rfl rfl (by first | exact ⟨trivial, trivial⟩ | (repeat' first | exact trivial | exact rfl | apply And.intro); done | simp [onesP, oneP, lk, Value.oneCell']) ?_
  refine o_end [0, 1] rfl ?_
  refine x_then ?_
  refine c_seq ?_
  refine c_seq ?_
  refine c_region ?_
  refine o_yield rfl rfl rfl (y_val tok rfl) ?_
  refine o_yield rfl rfl rfl (y_val tok rfl) ?_
  refine o_end [0, 1, 13] rfl ?_
  refine x_then ?_
  refine c_cond rfl (fun h => ?_) (fun h => ?_)
  ·
    refine c_seq ?_
    refine c_region ?_
    refine o_yield rfl rfl rfl (y_val tok rfl) ?_
    refine o_end [4] rfl ?_
    refine x_then ?_
    refine c_ret ?_
    refine x_then_ret ?_
    refine b_ret tok rfl ?_
    intro E w' hm _
    obtain ⟨h1, h2⟩ := back1 hm (Vw.le.refl _) rfl rfl rfl
    have hem : (s.toList == ByteArray.empty.toList) = true := h
    have hB : drB s = false := by rw [drB, hem]; rfl
    refine ⟨?_, h1, ?_⟩
    · rw [drE, if_pos (.inl hem)]; rfl
    · rw [h2, drC, drS, hB]; rfl
  ·
    refine c_skip ?_
    refine x_then ?_
    refine c_seq ?_
    refine c_region ?_
    refine o_yield rfl rfl rfl (y_val tok rfl) ?_
    have hem : (s.toList == ByteArray.empty.toList) = false := h
    have no : ∀ {x : Bool}, drB s = x → (ofE 5 s == 0 && crdE (ofL 5 s) == 0) = x := fun hx => by rw [drB, hem] at hx; simpa using hx
    clear h
    refine o_call (.a (.v _)) rfl rfl fnok34 rfl rfl rfl (fun hg E w1 hm => by exact sealOf_c 5 s hs _) ?_
    refine o_yield rfl rfl rfl (y_val tok rfl) ?_
    refine o_yield rfl rfl rfl (y_val tok rfl) ?_
    refine o_yield rfl rfl rfl (y_val tok rfl) ?_
    refine o_yield rfl rfl rfl (y_val tok rfl) ?_
    refine o_yield rfl rfl rfl (y_val tok rfl) ?_
    refine o_end [0, 5, 6] rfl ?_
    refine x_then ?_
    refine c_seq ?_
    refine c_seq ?_
    refine c_region ?_
    refine o_yield rfl rfl rfl (y_val tok rfl) ?_
    refine o_yield rfl rfl rfl (y_val tok rfl) ?_
    refine o_end [0, 5, 20] rfl ?_
    refine x_then ?_
    refine c_cond rfl (fun h => ?_) (fun h => ?_)
    ·
      simp only [Bool.and_eq_true, Bool.or_eq_true, Bool.not_eq_true', Bool.or_eq_false_iff, Bool.and_eq_false_iff, decide_eq_true_eq, decide_eq_false_iff_not, beq_iff_eq, bne_iff_ne, Bool.not_eq_false', beq_eq_false_iff_ne, bne_eq_false_iff_eq, ne_eq, Decidable.not_not, Int.not_lt, Int.not_le] at h
      refine c_seq ?_
      refine c_region ?_
      refine o_yield rfl rfl rfl (y_val tok rfl) ?_
      refine o_end [4] rfl ?_
      refine x_then ?_
      refine c_ret ?_
      refine x_then_ret ?_
      refine b_ret tok rfl ?_
      intro E w' hm _
      obtain ⟨h3, h4⟩ := back1 hm (Vw.le.refl _) rfl rfl rfl
      have hB : drB s = false := by rw [drB, hem]; simp [h]
      have hE : drE s = 50 := by rw [drE, if_neg (by rw [hem, hB]; decide)]
      refine ⟨?_, h3, ?_⟩
      · rw [hE]; rfl
      · rw [h4, drC, drS, hB]; rfl
    ·
      simp only [Bool.and_eq_true, Bool.or_eq_true, Bool.not_eq_true', Bool.or_eq_false_iff, Bool.and_eq_false_iff, decide_eq_true_eq, decide_eq_false_iff_not, beq_iff_eq, bne_iff_ne, Bool.not_eq_false', beq_eq_false_iff_ne, bne_eq_false_iff_eq, ne_eq, Decidable.not_not, Int.not_lt, Int.not_le] at h
      refine c_skip ?_
      refine x_then ?_
      refine c_seq ?_
      refine c_region ?_
      refine o_yield rfl rfl rfl (y_val tok rfl) ?_
      have ho := h
      clear h
      refine o_call (.a (.v _)) rfl rfl fnok35 rfl rfl rfl (fun hg E w1 hm => by exact cmdRead_c (ofL 5 s) hos _) ?_
      refine o_yield rfl rfl rfl (y_val tok rfl) ?_
      refine o_yield rfl rfl rfl (y_val tok rfl) ?_
      refine o_yield rfl rfl rfl (y_val tok rfl) ?_
      refine o_new tok rfl rfl rfl rfl ?_
      refine o_store tok rfl rfl rfl (by first | exact ⟨trivial, trivial⟩ | (repeat' first | exact trivial | exact rfl | apply And.intro); done | simp [onesP, oneP, lk, Value.oneCell']) ?_
      refine o_yield rfl rfl rfl (y_val tok rfl) ?_
      refine o_end [0, 5, 6, 7] rfl ?_
      refine x_then ?_
      refine c_seq ?_
      refine c_seq ?_
      refine c_region ?_
      refine o_yield rfl rfl rfl (y_val tok rfl) ?_
      refine o_yield rfl rfl rfl (y_val tok rfl) ?_
      refine o_end [0, 5, 7, 27] rfl ?_
      refine x_then ?_
      refine c_cond rfl (fun h => ?_) (fun h => ?_)
      ·
        simp only [Bool.and_eq_true, Bool.or_eq_true, Bool.not_eq_true', Bool.or_eq_false_iff, Bool.and_eq_false_iff, decide_eq_true_eq, decide_eq_false_iff_not, beq_iff_eq, bne_iff_ne, Bool.not_eq_false', beq_eq_false_iff_ne, bne_eq_false_iff_eq, ne_eq, Decidable.not_not, Int.not_lt, Int.not_le] at h
        refine c_seq ?_
        refine c_region ?_
        refine o_yield rfl rfl rfl (y_val tok rfl) ?_
        refine o_end [4] rfl ?_
        refine x_then ?_
        refine c_ret ?_
        refine x_then_ret ?_
        refine b_ret tok rfl ?_
        intro E w' hm _
        obtain ⟨h3, h4⟩ := back1 hm (Vw.le.refl _) rfl rfl rfl
        have hB : drB s = false := by rw [drB, hem]; simp [h]
        have hE : drE s = 50 := by rw [drE, if_neg (by rw [hem, hB]; decide)]
        refine ⟨?_, h3, ?_⟩
        · rw [hE]; rfl
        · rw [h4, drC, drS, hB]; rfl
      ·
        simp only [Bool.and_eq_true, Bool.or_eq_true, Bool.not_eq_true', Bool.or_eq_false_iff, Bool.and_eq_false_iff, decide_eq_true_eq, decide_eq_false_iff_not, beq_iff_eq, bne_iff_ne, Bool.not_eq_false', beq_eq_false_iff_ne, bne_eq_false_iff_eq, ne_eq, Decidable.not_not, Int.not_lt, Int.not_le] at h
        refine c_skip ?_
        refine x_then ?_
        refine c_seq ?_
        refine c_region ?_
        refine o_yield rfl rfl rfl (y_val tok rfl) ?_
        refine o_yield rfl rfl rfl (y_val tok rfl) ?_
        refine o_yield rfl rfl rfl (y_val tok rfl) ?_
        refine o_yield rfl rfl rfl (y_val tok rfl) ?_
        refine o_yield rfl rfl rfl (y_val tok rfl) ?_
        refine o_yield rfl rfl rfl (y_val tok rfl) ?_
        refine o_store tok rfl rfl rfl (by first | exact ⟨trivial, trivial⟩ | (repeat' first | exact trivial | exact rfl | apply And.intro); done | simp [onesP, oneP, lk, Value.oneCell']) ?_
        refine o_end [] rfl ?_
        refine x_then ?_
        refine c_seq ?_
        refine c_region ?_
        refine o_yield rfl rfl rfl (y_val tok rfl) ?_
        refine o_end [4] rfl ?_
        refine x_then ?_
        refine c_ret ?_
        refine b_ret tok rfl ?_
        intro E w' hm _
        obtain ⟨h3, h4⟩ := back1 hm (Vw.le.refl _) rfl rfl rfl
        have hB : drB s = true := by rw [drB, hem, ho, h]; rfl
        have hE : drE s = 0 := by rw [drE, if_pos (.inr hB)]
        refine ⟨?_, h3, ?_⟩
        · rw [hE]; rfl
        · rw [h4, drC, drS, hB]; rfl

section
variable {o : Oper} {n : Nat} {F : Frame0} {C : List Nat} {O : Own} {nl : Nat} {V : Vw}

theorem s_dread {p : List (Nat × Bool)} (l : Nat) (s : ByteArray) (c0 : Cmd) (s0 : ByteArray) (ok0 : Bool) (a : A) (ha : a.ok nl = true) (ss : List SV) (hv : evalC F p o.op = some (20, ss)) (hss : ∀ E, ss.map (SV.den E) = [.pointer (some ⟨E.ρ l, 0, none⟩), S s])
    (hl : lk O l = some (.lit (readerAs c0 s0 ok0 a) 53)) (hs : s.size ≤ maxLen) :
    StepTo Try.prog o p n F C O nl V (σ := Unit) (fun _ => True) (fun _ => .a (.v (I (drE s)))) (fun _ => (l, .lit (readerAs (drC s) (drS s) (drB s) a) 53) :: O) nl (fun _ => V) := by
  refine s_callW (fun _ => True) (fun _ => .a (.v (I (drE s)))) l 53 (fun _ => readerAs (drC s) (drS s) (drB s) a) hv fnok20 hl (fun _ => by simp only [readerAs, Cmd.cells, List.map_cons, List.map_nil, List.cons_append, List.nil_append, allOk, ha]; rfl) (fun _ => rfl) ?_
  intro E w hm hb
  rw [hss E]
  refine (dread_c s hs c0 s0 ok0 (a.den E) (E.ρ l) w hb).mono ?_
  rintro e w' ⟨rfl, h1, h2⟩
  exact ⟨(), rfl, h1, h2, trivial⟩
end

theorem decRead_c (s : ByteArray) (hs : s.size ≤ maxLen) (w : World) : Calls Try.prog 10 #[S s] w fun e w' => e = .returned (.tuple #[(drC s).val, S (drS s), .bool (drB s), I (drE s)]) ∧ Below w.heap.size w w' := by
  refine enter (E := E0) (O := []) (nl := 0) (V := vw w) [.a (.v (S s))] Try.func10 rfl rfl (mem0 E0 0 w) rfl rfl ?_
  refine c_seq ?_
  refine c_region ?_
  refine o_new tok rfl rfl rfl rfl ?_
  refine o_yield rfl rfl rfl (y_val tok rfl) ?_
  refine o_yield rfl rfl rfl (y_val tok rfl) ?_
  refine o_yield rfl rfl rfl (y_val tok rfl) ?_
  refine o_end [0, 2] rfl ?_
  refine x_then ?_
  refine c_seq ?_
  refine c_region ?_
  refine o_yield rfl rfl rfl (y_val tok rfl) ?_
  refine o_new tok rfl rfl rfl rfl ?_
  refine o_yield rfl rfl rfl (y_val tok rfl) ?_
  refine o_end [0, 2, 6] rfl ?_
  refine x_then ?_
  refine c_seq ?_
  refine c_region ?_
  refine o_yield rfl rfl rfl (y_val tok rfl) ?_
  refine o_yield rfl rfl rfl (y_val tok rfl) ?_
  refine o_step rfl rfl rfl rfl rfl (s_dread 1 s cmd0 ByteArray.empty false (.v (.slice none 0 0)) rfl _ rfl (fun E => rfl) rfl hs) (fun _ _ => ?_)
  refine o_yield rfl rfl rfl (y_val tok rfl) ?_
  refine o_end [2, 5, 6] rfl ?_
  refine x_then ?_
  refine c_seq ?_
  refine c_held [] ([(1, .lit (readerAs (drC s) (drS s) (drB s) (.v (.slice none 0 0))) 53)]) mixed (by repeat (first | exact SubO.nil | refine SubO.cons rfl ?_)) (by first | rfl | simp [okCels, allOk_plain]) ?_
  refine t_take 0 rfl (by kernel_rfl) rfl rfl rfl (y_val tok rfl) rfl ?_
  refine t_take 1 rfl (by kernel_rfl) rfl rfl rfl (y_val tok rfl) rfl ?_
  refine t_take 2 rfl (by kernel_rfl) rfl rfl rfl (y_val tok rfl) rfl ?_
  refine t_take 3 rfl (by kernel_rfl) rfl rfl rfl (y_val tok rfl) rfl ?_
  refine t_take 4 rfl (by kernel_rfl) rfl rfl rfl (y_val tok rfl) rfl ?_
  refine t_take 5 rfl (by kernel_rfl) rfl rfl rfl (y_val tok rfl) rfl ?_
  refine t_take 6 rfl (by kernel_rfl) rfl rfl rfl (y_val tok rfl) rfl ?_
  refine t_take 7 rfl (by kernel_rfl) rfl rfl rfl (y_val tok rfl) rfl ?_
  refine t_take 8 rfl (by kernel_rfl) rfl rfl rfl (y_val tok rfl) rfl ?_
  refine t_take 9 rfl (by kernel_rfl) rfl rfl rfl (y_val tok rfl) rfl ?_
  refine t_take 10 rfl (by kernel_rfl) rfl rfl rfl (y_val tok rfl) rfl ?_
  refine t_take 11 rfl (by kernel_rfl) rfl rfl rfl (y_val tok rfl) rfl ?_
  refine t_take 12 rfl (by kernel_rfl) rfl rfl rfl (y_val tok rfl) rfl ?_
  refine t_take 13 rfl (by kernel_rfl) rfl rfl rfl (y_val tok rfl) rfl ?_
  refine t_take 14 rfl (by kernel_rfl) rfl rfl rfl (y_val tok rfl) rfl ?_
  refine t_take 15 rfl (by kernel_rfl) rfl rfl rfl (y_val tok rfl) rfl ?_
  refine t_go ?_
  refine h_one 16 (by kernel_rfl) ?_
  refine h_store 16 tok rfl rfl rfl rfl (by first | exact ⟨trivial, trivial⟩ | (repeat' first | exact trivial | exact rfl | apply And.intro); done | simp [onesP, oneP, lk, Value.oneCell']) (.inr ⟨(by repeat (first | exact SubO.nil | refine SubO.cons rfl ?_)), rfl, Vw.le.refl _⟩) ?_
  refine h_one 17 (by kernel_rfl) ?_
  refine h_yield 17 rfl rfl rfl rfl (y_val tok rfl) ?_
  refine h_one 18 (by kernel_rfl) ?_
  refine h_yield 18 rfl rfl rfl rfl (y_val tok rfl) ?_
  refine h_one 19 (by kernel_rfl) ?_
  refine h_yield 19 rfl rfl rfl rfl (y_val tok rfl) ?_
  refine h_done [2, 3, 4, 5] (by kernel_rfl) rfl ?_
  refine x_then ?_
  refine c_ret ?_
  refine b_ret tok rfl ?_
  intro E w' hm _
  refine ⟨?_, hm.below (Vw.le.refl _)⟩
  rfl
end Go.Proofs.Ytifgmaeileiebaa

/- Commands put and read back: the plain law. -/
set_option linter.unusedVariables false
set_option linter.unusedSimpArgs false
set_option maxRecDepth 100000
namespace Go.Proofs.Ytifgmaeileiebaa
open Go Go.Eng Go.RowKit

def cmdR (c : Cmd) : List UInt8 :=
  if c.kind = 2 then leB 1 c.lo ++ (leB 1 c.hi ++ (leB 1 c.mode ++ []))
  else if c.kind = 3 then leB 1 c.lo ++ (leB 1 c.hi ++ [])
  else if c.kind = 4 then leB 6 c.dead ++ (leB 6 c.was ++ [])
  else if c.kind = 5 then leB 6 c.dead ++ []
  else []

theorem cmd_shape (c : Cmd) : cmdL c = leB 1 c.kind ++ (leB 6 c.by_ ++ (leB 4 c.serial ++ cmdR c)) := by
  unfold cmdL cmdR
  split
  · simp [putL]
  · split
    · simp [putL]
    · split
      · simp [putL]
      · split <;> simp [putL]

theorem cmdR_len (c : Cmd) : (cmdR c).length ≤ 12 := by
  unfold cmdR
  split
  · simp [leB, leTake_len]
  · split
    · simp [leB, leTake_len]
    · split
      · simp [leB, leTake_len]
      · split <;> simp [leB, leTake_len]

theorem cmdL_len (c : Cmd) : 11 ≤ (cmdL c).length ∧ (cmdL c).length ≤ 23 := by
  have := cmdR_len c
  rw [cmd_shape]
  simp only [List.length_append, leB, leTake_len]
  omega

theorem tk_pack {n : Int} {k : Nat} (h : fitsB n k = true) (R : List UInt8) (bad : Bool) : tkS (strOf (leB k n ++ R), bad) k = (strOf R, bad) := by
  have := restOf_pack n k R
  rw [Int.toNat_natCast] at this
  rw [tkS, if_neg (by rw [getSpec_pack h]; simp), this]

theorem rd_cmd {c : Cmd} (ok : CmdOk c) : rdPre (strOf (cmdL c)) = (c, (strOf [], false)) := by
  have m6 : mostN (6 : Int).toNat = 1099511627776 := by decide
  have m4 : mostN (4 : Int).toNat = 4294967295 := by decide
  have m1 : mostN (1 : Int).toNat = 255 := by decide
  obtain ⟨o1, o2, o3, o4, o5, o6, o7, o8, o9, o10, o11, o12⟩ := ok
  have f1 : ∀ n : Int, 0 ≤ n → n ≤ 255 → fitsB n 1 = true := fun n h1 h2 => by rw [fitsB, m1]; simp [widthB]; omega
  have f6 : ∀ n : Int, 0 ≤ n → n ≤ 1099511627776 → fitsB n 6 = true := fun n h1 h2 => by rw [fitsB, m6]; simp [widthB]; omega
  have f4 : ∀ n : Int, 0 ≤ n → n ≤ 4294967295 → fitsB n 4 = true := fun n h1 h2 => by rw [fitsB, m4]; simp [widthB]; omega
  have t1 : ∀ (n : Int) (R : List UInt8), 0 ≤ n → n ≤ 255 → tkS (strOf (leB 1 n ++ R), false) 1 = (strOf R, false) := fun n R h1 h2 => tk_pack (k := 1) (f1 n h1 h2) R false
  have t6 : ∀ (n : Int) (R : List UInt8), 0 ≤ n → n ≤ 1099511627776 → tkS (strOf (leB 6 n ++ R), false) 6 = (strOf R, false) := fun n R h1 h2 => tk_pack (k := 6) (f6 n h1 h2) R false
  have t4 : ∀ (n : Int) (R : List UInt8), 0 ≤ n → n ≤ 4294967295 → tkS (strOf (leB 4 n ++ R), false) 4 = (strOf R, false) := fun n R h1 h2 => tk_pack (k := 4) (f4 n h1 h2) R false
  have g1 : ∀ (n : Int) (R : List UInt8), 0 ≤ n → n ≤ 255 → getSpec (strOf (leB 1 n ++ R)) 0 1 = (n, 0) := fun n R h1 h2 => getSpec_pack (f1 n h1 h2) R
  have g6 : ∀ (n : Int) (R : List UInt8), 0 ≤ n → n ≤ 1099511627776 → getSpec (strOf (leB 6 n ++ R)) 0 6 = (n, 0) := fun n R h1 h2 => getSpec_pack (f6 n h1 h2) R
  have g4 : ∀ (n : Int) (R : List UInt8), 0 ≤ n → n ≤ 4294967295 → getSpec (strOf (leB 4 n ++ R)) 0 4 = (n, 0) := fun n R h1 h2 => getSpec_pack (f4 n h1 h2) R
  have hm : min c.kind 127 = c.kind := by omega
  obtain ⟨kind, by_, serial, dead, was, lo, hi, mode⟩ := c
  dsimp only at *
  rw [rdPre, cmd_shape, g1 _ _ (by dsimp only; omega) (by dsimp only; omega), t1 _ _ (by dsimp only; omega) (by dsimp only; omega)]
  dsimp only
  rw [g6 _ _ (by omega) (by omega), t6 _ _ (by omega) (by omega)]
  dsimp only
  rw [g4 _ _ (by omega) (by omega), t4 _ _ (by omega) (by omega), hm]
  dsimp only
  unfold cmdR
  dsimp only
  split
  · rename_i e
    rw [g1 _ _ (by omega) (by omega), t1 _ _ (by omega) (by omega)]
    dsimp only
    rw [g1 _ _ (by omega) (by omega), t1 _ _ (by omega) (by omega)]
    dsimp only
    rw [g1 _ _ (by omega) (by omega), t1 _ _ (by omega) (by omega), show min mode 127 = mode by omega, o11 (by omega) (by omega), o12 (by omega)]
  · rename_i e2
    split
    · rename_i e
      rw [g1 _ _ (by omega) (by omega), t1 _ _ (by omega) (by omega)]
      dsimp only
      rw [g1 _ _ (by omega) (by omega), t1 _ _ (by omega) (by omega), o11 (by omega) (by omega), o12 (by omega), o10 e2]
    · rename_i e3
      obtain ⟨o13, o14⟩ := o9 e2 e3
      split
      · rename_i e
        rw [g6 _ _ (by omega) (by omega), t6 _ _ (by omega) (by omega)]
        dsimp only
        rw [g6 _ _ (by omega) (by omega), t6 _ _ (by omega) (by omega), o10 e2, o13, o14]
      · rename_i e4
        split
        · rename_i e
          rw [g6 _ _ (by omega) (by omega), t6 _ _ (by omega) (by omega)]
          dsimp only
          rw [o10 e2, o13, o14, o12 e4]
        · rename_i e5
          rw [o10 e2, o13, o14, o12 e4, o11 e4 e5]

theorem crd_cmd {c : Cmd} (h : cmdB c = true) : crdV (strOf (cmdL c)) = c ∧ crdE (strOf (cmdL c)) = 0 :=
  crd_yes (rd_cmd (cmdOk h)) (by show ((false || !((strOf []).toList == ByteArray.empty.toList)) || !cmdB c) = false; rw [empty_beq, strOf_size, h]; rfl)

/-- A decided sector of a command. -/
def decS (c : Cmd) : ByteArray := strOf (sealL 5 (cmdL c))

theorem dec_back {c : Cmd} (h : cmdB c = true) : dbV (strOf (cmdL c)) = decS c ∧ dbE (strOf (cmdL c)) = 0 ∧ drB (decS c) = true ∧ drC (decS c) = c ∧ drS (decS c) = strOf (cmdL c) ∧ drE (decS c) = 0 ∧ (decS c).size = 7 + (cmdL c).length := by
  obtain ⟨h1, h2⟩ := crd_cmd h
  have hl := cmdL_len c
  have hs : sealS 5 (strOf (cmdL c)) = (decS c, 0) := by
    rw [sealS, if_neg (by rw [strOf_size]; omega), strOf_list, decS]; rfl
  have hsz : (decS c).size = 7 + (cmdL c).length := by rw [decS, strOf_size, sealL_len]
  have ho : openB (decS c) = true := openB_seal (by decide) (by decide) (by omega)
  have hof : ofB 5 (decS c) = true := by rw [ofB, ho, decS, byteAt_seal]; rfl
  have hL : ofL 5 (decS c) = strOf (cmdL c) := by rw [ofL, if_pos hof, decS, loadOf_seal]
  have hB : drB (decS c) = true := by
    rw [drB, hL, h2, ofE, if_pos hof, empty_beq, decide_eq_false (by omega)]; rfl
  refine ⟨by rw [dbV, if_pos h2, hs], by rw [dbE, if_pos h2, hs], hB, by rw [drC, if_pos hB, hL, h1], by rw [drS, if_pos hB, hL], by rw [drE, if_pos (.inr hB)], hsz⟩

theorem dec_flip {c : Cmd} (h : cmdB c = true) {s' : ByteArray} {A R : List UInt8} {b d : UInt8} (hs : (decS c).data.toList = A ++ b :: R) (hs' : s'.data.toList = A ++ d :: R) (hne : b ≠ d) : drE s' = 50 ∧ drB s' = false := by
  have hl := cmdL_len c
  have ho : openB (decS c) = true := openB_seal (by decide) (by decide) (by omega)
  have hno := open_flip ho hs hs' hne
  have hof : ofE 5 s' = 30 := by rw [ofE, if_neg (by simp [ofB, hno])]
  have hB : drB s' = false := by rw [drB, hof]; simp
  have hsz : s'.size ≠ 0 := by rw [← size_list, hs']; simp
  exact ⟨by rw [drE, empty_beq, decide_eq_false hsz, hB]; rfl, hB⟩

theorem crd_empty : crdE ByteArray.empty = 100 := by decide
end Go.Proofs.Ytifgmaeileiebaa

/- Decided rows: the program's. -/
set_option linter.unusedVariables false
set_option linter.unusedSimpArgs false
set_option maxRecDepth 100000
namespace Go.Proofs.Ytifgmaeileiebaa
open Go Go.Eng Go.RowKit

theorem cmd_ones (l : List Cmd) : ∀ u ∈ l.flatMap Cmd.cells, u.oneCell' = true := by
  intro u hu
  simp only [List.mem_flatMap] at hu
  obtain ⟨a, _, hu⟩ := hu
  simp only [Cmd.cells, List.mem_cons, List.not_mem_nil, or_false] at hu
  rcases hu with rfl | rfl | rfl | rfl | rfl | rfl | rfl | rfl <;> rfl

/-- The commands of a row of sectors. -/
def rowV : List ByteArray → List Cmd → List Cmd × Int
  | [], acc => (acc, 0)
  | s :: r, acc => if drE s ≠ 0 then ([], drE s) else if drB s = false then (acc, 0) else rowV r (acc ++ [drC s])

theorem none_c (c : Cmd) (x : ByteArray) (ok : Bool) (lv : Value) (b : Nat) (w : World) (hb : w.heap[b]? = some (.cells (readerC c x ok lv).toArray 53 (0, 0))) :
    Calls Try.prog 21 #[.pointer (some ⟨b, 0, none⟩)] w fun e w' => e = .returned (.bool (!ok)) ∧ Below w.heap.size w w' := by
  refine enter1 [.a (.ptr 0 0)] hb Try.func21 rfl rfl rfl rfl ?_
  refine c_seq ?_
  refine c_region ?_
  refine o_yield rfl rfl rfl (y_val tok rfl) ?_
  refine o_end [0] rfl ?_
  refine x_then ?_
  refine c_seq ?_
  refine c_region ?_
  refine o_yield rfl rfl rfl (y_val tok rfl) ?_
  refine o_yield rfl rfl rfl (y_val tok rfl) ?_
  refine o_yield rfl rfl rfl (y_val tok rfl) ?_
  refine o_yield rfl rfl rfl (y_val tok rfl) ?_
  refine o_yield rfl rfl rfl (y_val tok rfl) ?_
  refine o_yield rfl rfl rfl (y_val tok rfl) ?_
  refine o_end [2] rfl ?_
  refine x_then ?_
  refine c_ret ?_
  refine b_ret tok rfl ?_
  intro E w' hm _
  exact ⟨rfl, below1 hb hm (Vw.le.refl _) rfl rfl rfl⟩

def RowPost (r : List Cmd × Int) (w : World) (e : Ending) (w' : World) : Prop :=
  (∃ v, e = .returned (.tuple #[v, I r.2]) ∧ w'.ownsRow w.heap.size 42 8 v r.1.length (r.1.flatMap Cmd.cells)) ∧ Below w.heap.size w w'

theorem row_c (V : Vw) (sv : Value) (L : List ByteArray) (w : World) (hV : V.le (vw w)) (hs0 : SlOf V encS 1 sv L) (hL : ∀ s ∈ L, s.size ≤ maxLen) (hln : L.length ≤ 1000000) :
    Calls Try.prog 8 #[sv] w (RowPost (rowV L []) w) := by
  have hs := hs0.mono hV
  refine enter (E := E0) (O := []) (nl := 0) (V := vw w) [.a (.v sv)] Try.func8 rfl rfl (mem0 E0 0 w) rfl rfl ?_
  refine c_seq ?_
  refine c_region ?_
  refine o_yield rfl rfl rfl (y_val tok rfl) ?_
  refine o_yield rfl rfl rfl (y_val tok rfl) ?_
  refine o_end [0] rfl ?_
  refine x_then ?_
  refine c_seq ?_
  refine c_region ?_
  refine o_yield rfl rfl rfl (y_val tok rfl) ?_
  refine o_new tok rfl rfl rfl rfl ?_
  refine o_yield rfl rfl rfl (y_val tok rfl) ?_
  refine o_end [0, 4] rfl ?_
  refine x_then ?_
  refine c_seq ?_
  refine c_seq ?_
  refine c_region ?_
  refine o_yield rfl rfl rfl (y_val tok rfl) ?_
  refine o_yield rfl rfl rfl (y_len tok rfl (fun hg => hs.sl)) ?_
  refine o_yield rfl rfl rfl (y_val tok rfl) ?_
  refine o_end [4, 10, 11, 12] rfl ?_
  refine x_then ?_
  refine c_block ?_
  refine k_nilO 0 10 42 8 rfl rfl ?_
  refine c_loopK [4, 10, 11] [0, 1] rfl rfl (σ := Nat × List Cmd × Cmd × ByteArray × Bool) (fun (k, acc, c, s, ok) => [(12, .a (.v (I k)))]) (fun (k, acc, c, s, ok) => [(0, .lit (readerAs c s ok (.row 1)) 53), (1, .row 42 8 acc.length (acc.flatMap Cmd.cells))]) (fun (k, acc, c, s, ok) => k ≤ L.length ∧ rowV L [] = rowV (L.drop k) acc ∧ acc.length = k) (fun (k, acc, c, s, ok) => L.length - k) ((0, [], cmd0, ByteArray.empty, false)) (⟨by omega, rfl, rfl⟩) (by repeat (first | exact SubF.nil | refine SubF.cons rfl ?_)) (by repeat (first | exact SubO.nil | refine SubO.cons rfl ?_)) rfl ?_
  rintro ⟨k, acc, c, s, ok⟩ ⟨hk, heq, hal⟩
  refine c_seq ?_
  refine c_region ?_
  refine o_yield rfl rfl rfl (y_val tok rfl) ?_
  refine o_end [4, 10, 11, 12, 13] rfl ?_
  refine x_then ?_
  refine c_seq ?_
  refine c_cond rfl (fun h => ?_) (fun h => ?_)
  ·
    simp only [Bool.and_eq_true, Bool.or_eq_true, Bool.not_eq_true', Bool.or_eq_false_iff, Bool.and_eq_false_iff, decide_eq_true_eq, decide_eq_false_iff_not, beq_iff_eq, bne_iff_ne, Bool.not_eq_false', beq_eq_false_iff_ne, bne_eq_false_iff_eq, ne_eq, Decidable.not_not, Int.not_lt, Int.not_le] at h
    refine c_skip ?_
    refine x_then ?_
    refine c_seq ?_
    refine c_block ?_
    refine c_seq ?_
    refine c_region ?_
    obtain ⟨x, h_x⟩ := hs.at (k := k) (by omega)
    have hlt_x := lt_of_at h_x
    refine o_yield rfl rfl rfl (y_idx tok rfl (fun hg => hs.sl) (fun hg => ⟨by omega, by omega⟩)) ?_
    refine o_yield rfl rfl rfl (y_lel tok (k) 0 (x) rfl (fun hg => hs) (fun hg => h_x) rfl rfl) ?_
    refine o_yield rfl rfl rfl (y_val tok rfl) ?_
    refine o_end [4, 6, 10, 11, 12] rfl ?_
    refine x_then ?_
    refine c_seq ?_
    refine c_seq ?_
    refine c_region ?_
    refine o_yield rfl rfl rfl (y_val tok rfl) ?_
    refine o_yield rfl rfl rfl (y_val tok rfl) ?_
    have hx := hL x (List.mem_of_getElem? h_x)
    rw [drop_at h_x, rowV] at heq
    refine o_step rfl rfl rfl rfl rfl (s_dread 0 x c s ok (.row 1) rfl _ rfl (fun E => rfl) rfl hx) (fun _ _ => ?_)
    refine o_yield rfl rfl rfl (y_val tok rfl) ?_
    refine o_end [4, 7, 10, 11, 12] rfl ?_
    refine x_then ?_
    refine c_seq ?_
    refine c_region ?_
    refine o_yield rfl rfl rfl (y_val tok rfl) ?_
    refine o_yield rfl rfl rfl (y_val tok rfl) ?_
    refine o_end [4, 7, 10, 11, 12, 20] rfl ?_
    refine x_then ?_
    refine c_cond rfl (fun h => ?_) (fun h => ?_)
    ·
      simp only [Bool.and_eq_true, Bool.or_eq_true, Bool.not_eq_true', Bool.or_eq_false_iff, Bool.and_eq_false_iff, decide_eq_true_eq, decide_eq_false_iff_not, beq_iff_eq, bne_iff_ne, Bool.not_eq_false', beq_eq_false_iff_ne, bne_eq_false_iff_eq, ne_eq, Decidable.not_not, Int.not_lt, Int.not_le] at h
      refine c_seq ?_
      refine c_region ?_
      refine o_yield rfl rfl rfl (y_val tok rfl) ?_
      refine o_yield rfl rfl rfl (y_val tok rfl) ?_
      refine o_yield rfl rfl rfl (y_val tok rfl) ?_
      refine o_end [2, 3] rfl ?_
      refine x_then ?_
      refine c_ret ?_
      refine x_then_ret ?_
      refine x_block_ret ?_
      refine x_then_ret ?_
      refine x_then_ret ?_
      refine x_block_ret ?_
      refine x_then_ret ?_
      refine b_ret tok rfl ?_
      intro E w' hm _
      rw [if_pos h] at heq
      refine ⟨⟨_, by rw [heq]; rfl, ?_⟩, hm.below (Vw.le.refl _)⟩
      rw [heq]
      exact World.ownsRow_nil _ _ _ _
    ·
      simp only [Bool.and_eq_true, Bool.or_eq_true, Bool.not_eq_true', Bool.or_eq_false_iff, Bool.and_eq_false_iff, decide_eq_true_eq, decide_eq_false_iff_not, beq_iff_eq, bne_iff_ne, Bool.not_eq_false', beq_eq_false_iff_ne, bne_eq_false_iff_eq, ne_eq, Decidable.not_not, Int.not_lt, Int.not_le] at h
      refine c_skip ?_
      refine x_then ?_
      refine c_seq ?_
      refine c_seq ?_
      refine c_region ?_
      refine o_yield rfl rfl rfl (y_val tok rfl) ?_
      refine o_yield rfl rfl rfl (y_val tok rfl) ?_
      refine o_yield rfl rfl rfl (y_val tok rfl) ?_
      have he := h
      clear h
      rw [if_neg (by simp [he])] at heq
      refine o_call (.a (.v _)) rfl rfl fnok21 rfl rfl rfl (fun hg E w1 hm => by exact none_c (drC x) (drS x) (drB x) _ _ _ (hm.lit 0 _ _ rfl)) ?_
      refine o_end [4, 10, 11, 12, 25] rfl ?_
      refine x_then ?_
      refine c_cond rfl (fun h => ?_) (fun h => ?_)
      ·
        refine c_exit ?_
        refine x_then_exit ?_
        refine x_block_miss rfl ?_
        refine x_then_exit ?_
        refine x_then_exit ?_
        refine x_block_hit ?_
        refine x_then ?_
        refine c_seq ?_
        refine c_region ?_
        refine o_yield rfl rfl rfl (y_val tok rfl) ?_
        refine o_yield rfl rfl rfl (y_val tok rfl) ?_
        refine o_yield rfl rfl rfl (y_val tok rfl) ?_
        refine o_yield rfl rfl rfl (y_val tok rfl) ?_
        refine o_yield rfl rfl rfl (y_val tok rfl) ?_
        refine o_yield rfl rfl rfl (y_val tok rfl) ?_
        refine o_end [2, 3] rfl ?_
        refine x_then ?_
        refine c_ret ?_
        refine b_ret tok rfl ?_
        have hb : drB x = false := by simpa using h
        rw [if_pos hb] at heq
        intro E w' hm _
        refine ⟨⟨_, by rw [heq]; rfl, ?_⟩, hm.below (Vw.le.refl _)⟩
        rw [heq]
        exact hm.rowFresh (Vw.le.refl _) (l := 1) rfl
      ·
        refine c_skip ?_
        refine x_then ?_
        refine c_held [14] ([(0, .lit (readerAs (drC x) (drS x) (drB x) (.row 1)) 53)]) mixed (by repeat (first | exact SubO.nil | refine SubO.cons rfl ?_)) (by first | rfl | simp [okCels, allOk_plain]) ?_
        refine t_takeD 0 rfl (by kernel_rfl) rfl rfl rfl (y_val tok rfl) rfl ?_
        refine t_takeD 1 rfl (by kernel_rfl) rfl rfl rfl (y_val tok rfl) rfl ?_
        refine t_takeD 2 rfl (by kernel_rfl) rfl rfl rfl (y_val tok rfl) rfl ?_
        refine t_takeD 3 rfl (by kernel_rfl) rfl rfl rfl (y_val tok rfl) rfl ?_
        refine t_takeD 4 rfl (by kernel_rfl) rfl rfl rfl (y_val tok rfl) rfl ?_
        refine t_takeD 5 rfl (by kernel_rfl) rfl rfl rfl (y_val tok rfl) rfl ?_
        refine t_takeD 6 rfl (by kernel_rfl) rfl rfl rfl (y_val tok rfl) rfl ?_
        refine t_takeD 7 rfl (by kernel_rfl) rfl rfl rfl (y_val tok rfl) rfl ?_
        refine t_takeD 8 rfl (by kernel_rfl) rfl rfl rfl (y_val tok rfl) rfl ?_
        refine t_takeD 9 rfl (by kernel_rfl) rfl rfl rfl (y_val tok rfl) rfl ?_
        refine t_go ?_
        refine h_one 10 (by kernel_rfl) ?_
        have hb : drB x = true := by simpa using h
        rw [if_neg (by simp [hb])] at heq
        clear h
        refine h_to 10 rfl rfl rfl rfl rfl rfl (s_bs tok 8 rfl rfl rfl) (.inr fun _ _ => ⟨(by repeat (first | exact SubO.nil | refine SubO.cons rfl ?_)), rfl, (by first | exact Vw.le.refl _ | assumption)⟩) (fun _ _ => ?_)
        refine h_one 11 (by kernel_rfl) ?_
        refine h_to 11 rfl rfl rfl rfl rfl rfl (s_app tok ([drC x].flatMap Cmd.cells) rfl (fun E w hm => ownsRow_src (hm.row 2 _ _ _ _ rfl)) (fun _ _ _ => cmd_ones _) (by dsimp only; omega)) (.inr fun _ _ => ⟨(by repeat (first | exact SubO.nil | refine SubO.cons rfl ?_)), rfl, (by first | exact Vw.le.refl _ | assumption)⟩) (fun _ _ => ?_)
        refine h_one 12 (by kernel_rfl) ?_
        refine h_yield 12 rfl rfl rfl rfl (y_val tok rfl) ?_
        refine h_one 13 (by kernel_rfl) ?_
        refine h_yield 13 rfl rfl rfl rfl (y_val tok rfl) ?_
        refine h_one 14 (by kernel_rfl) ?_
        refine h_store 14 tok rfl rfl rfl rfl (by first | exact ⟨trivial, trivial⟩ | (repeat' first | exact trivial | exact rfl | apply And.intro); done | simp [onesP, oneP, lk, Value.oneCell']) (.inl rfl) ?_
        refine h_done [4, 10, 11, 12] (by kernel_rfl) rfl ?_
        refine x_block ?_
        refine x_then ?_
        refine c_region ?_
        refine o_yield rfl rfl rfl (y_val tok rfl) ?_
        refine o_yield rfl rfl rfl (y_val tok rfl) ?_
        refine o_end [4, 10, 11, 12] rfl ?_
        refine x_then ?_
        rw [← List.flatMap_append, show acc.length + 1 = (acc ++ [drC x]).length by simp, wrapI (n := (k : Int) + 1) (by omega) (by omega)]
        refine k_swap 1 3 rfl ?_
        refine x_round ((k + 1, acc ++ [drC x], drC x, drS x, drB x)) (⟨by omega, heq, by simp [hal]⟩) (by first | omega | (dsimp only; omega)) (by repeat (first | exact SubF.nil | refine SubF.cons rfl ?_)) (by repeat (first | exact SubO.nil | refine SubO.cons rfl ?_)) rfl (Vw.le.refl _)
  ·
    simp only [Bool.and_eq_true, Bool.or_eq_true, Bool.not_eq_true', Bool.or_eq_false_iff, Bool.and_eq_false_iff, decide_eq_true_eq, decide_eq_false_iff_not, beq_iff_eq, bne_iff_ne, Bool.not_eq_false', beq_eq_false_iff_ne, bne_eq_false_iff_eq, ne_eq, Decidable.not_not, Int.not_lt, Int.not_le] at h
    refine c_exit ?_
    refine x_then_exit ?_
    refine x_then_exit ?_
    refine x_block_hit ?_
    refine x_then ?_
    refine c_seq ?_
    refine c_region ?_
    refine o_yield rfl rfl rfl (y_val tok rfl) ?_
    refine o_yield rfl rfl rfl (y_val tok rfl) ?_
    refine o_yield rfl rfl rfl (y_val tok rfl) ?_
    refine o_yield rfl rfl rfl (y_val tok rfl) ?_
    refine o_yield rfl rfl rfl (y_val tok rfl) ?_
    refine o_yield rfl rfl rfl (y_val tok rfl) ?_
    refine o_end [2, 3] rfl ?_
    refine x_then ?_
    refine c_ret ?_
    refine b_ret tok rfl ?_
    have hkL : k = L.length := by omega
    subst hkL
    rw [List.drop_length, rowV] at heq
    intro E w' hm _
    refine ⟨⟨_, by rw [heq]; rfl, ?_⟩, hm.below (Vw.le.refl _)⟩
    rw [heq]
    exact hm.rowFresh (Vw.le.refl _) (l := 1) rfl
end Go.Proofs.Ytifgmaeileiebaa
