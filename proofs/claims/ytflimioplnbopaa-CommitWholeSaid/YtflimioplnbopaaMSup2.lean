import Derived.Test.YtflimioplnbopaaMGeo3
/- Headers: the program's; superblocks and headers: the document's. -/
set_option linter.unusedVariables false
set_option linter.unusedSimpArgs false
set_option maxRecDepth 100000
namespace Go.Proofs.Ytflimioplnbopaa
open Go Go.Eng Go.RowKit

theorem numPut_no {bv lv : Value} {w : World} (bl : List UInt8) (k : Int) (ls : List Int) (hok : putOk k ls = false) (hbn : bl.length ≤ 1099511627776) (hln : ls.length ≤ 1099511627776) (hb : SlOf (vw w) encByte 1 bv bl) (hl : SlOf (vw w) encI64 1 lv ls) :
    Calls Try.prog 260 #[bv, I k, lv] w fun e w' => e = .returned (.tuple #[.slice none 0 0, I 2]) ∧ Below w.heap.size w w' := by
  refine (numPut_c (vw w) bv bl k lv ls w (Vw.le.refl _) hb hl hbn hln).mono ?_
  rintro e w' ⟨⟨h, _⟩ | ⟨_, he⟩, hbl⟩
  · rw [hok] at h; cases h
  · exact ⟨he, hbl⟩

theorem refPut_no {bv lv : Value} {w : World} (bl : List UInt8) (k : Int) (ls : List Int) (hok : putOk k ls = false) (hbn : bl.length ≤ 1099511627776) (hln : ls.length ≤ 1099511627776) (hb : SlOf (vw w) encByte 1 bv bl) (hl : SlOf (vw w) encI64 1 lv ls) :
    Calls Try.prog 121 #[bv, I k, lv] w fun e w' => e = .returned (.tuple #[.slice none 0 0, I 2]) ∧ Below w.heap.size w w' := by
  refine (refPut_c (vw w) bv bl k lv ls w (Vw.le.refl _) hb hl hbn hln).mono ?_
  rintro e w' ⟨⟨h, _⟩ | ⟨_, he⟩, hbl⟩
  · rw [hok] at h; cases h
  · exact ⟨he, hbl⟩

theorem bputNo_c (k : Int) (bl : List UInt8) (bv : Value) (ls : List Int) (lv : Value) (b e0 : Nat) (t1 : Value) (w : World) (hb : w.heap[b]? = some (.cells [bv, I 0, t1].toArray e0 (0, 0)))
    (hs : SlOf ((vw w).del b) encByte 1 bv bl) (hl : SlOf ((vw w).del b) encI64 1 lv ls) (hok : putOk k ls = false) (hbn : bl.length ≤ 1099511627776) (hln : ls.length ≤ 1099511627776) :
    Calls Try.prog 211 #[.pointer (some ⟨b, 0, none⟩), I k, lv] w fun e w' => e = .returned (.tuple #[]) ∧ Go.Eng.Touch (· = b) w w' ∧ w'.heap[b]? = some (.cells [bv, I 2, t1].toArray e0 (0, 0)) := by
  obtain ⟨a, n, c, rfl⟩ := sl_shape hs.sl
  refine enter1 [.a (.ptr 0 0), .a (.v (I k)), .a (.v lv)] hb Try.func211 rfl rfl rfl rfl ?_
  refine c_seq ?_
  refine c_region ?_
  refine o_yield rfl rfl rfl (y_val tok rfl) ?_
  refine o_yield rfl rfl rfl (y_val tok rfl) ?_
  refine o_yield rfl rfl rfl (y_val tok rfl) ?_
  refine o_yield rfl rfl rfl (y_val tok rfl) ?_
  refine o_yield rfl rfl rfl (y_val tok rfl) ?_
  refine o_yield rfl rfl rfl (y_val tok rfl) ?_
  refine o_call (.a (.v _)) rfl rfl fnok260 rfl rfl rfl (fun hg E w1 hm => by exact (numPut_no bl k ls hok hbn hln (hs.mono hm.leV) (hl.mono hm.leV))) ?_
  refine o_yield rfl rfl rfl (y_val tok rfl) ?_
  refine o_yield rfl rfl rfl (y_val tok rfl) ?_
  refine o_yield rfl rfl rfl (y_val tok rfl) ?_
  refine o_yield rfl rfl rfl (y_val tok rfl) ?_
  refine o_yield rfl rfl rfl (y_val tok rfl) ?_
  refine o_end [0, 6, 7] rfl ?_
  refine x_then ?_
  refine c_seq ?_
  refine c_seq ?_
  refine c_region ?_
  refine o_yield rfl rfl rfl (y_val tok rfl) ?_
  refine o_yield rfl rfl rfl (y_val tok rfl) ?_
  refine o_end [0, 6, 19] rfl ?_
  refine x_then ?_
  refine c_cond rfl (fun h => ?_) (fun h => ?_)
  ·
    refine c_seq ?_
    refine c_region ?_
    refine o_yield rfl rfl rfl (y_val tok rfl) ?_
    refine o_yield rfl rfl rfl (y_val tok rfl) ?_
    refine o_yield rfl rfl rfl (y_val tok rfl) ?_
    refine o_store tok rfl rfl rfl (by first | exact ⟨trivial, trivial⟩ | (repeat' first | exact trivial | exact rfl | apply And.intro); done | simp [onesP, oneP, lk, Value.oneCell']) ?_
    refine o_end [] rfl ?_
    refine x_then ?_
    refine c_ret ?_
    refine x_then_ret ?_
    refine b_ret tok rfl ?_
    intro E w' hm _
    obtain ⟨h1, h2⟩ := back1 hm (Vw.le.refl _) rfl rfl rfl
    refine ⟨rfl, h1, ?_⟩
    rw [h2]
    rfl
  · exact absurd h (by decide)

def headS (n : Int) : ByteArray × Int := if fitsB n 6 = true then (strOf (sealL 2 (leB 6 n)), 0) else (ByteArray.empty, 2)

theorem putOk_one {n : Int} : putOk 6 [n] = fitsB n 6 := by simp [putOk, widthB]

theorem hseal {n : Int} (h : fitsB n 6 = true) : sealS 2 (strOf (packL [6] [n]) ++ ByteArray.empty) = headS n := by
  have h6 : (packL [6] [n]) = leB 6 n := by simp [packL]
  have hl : (leB 6 n).length = 6 := by simp [leB, leTake_len]
  rw [sealS, if_neg (by rw [ByteArray.size_append, strOf_size, h6]; simp; omega), headS, if_pos h, h6]
  congr 2

theorem make1No_c (kind : Int) (t : ByteArray) (V : Vw) (kv nv : Value) (n : Int) (w : World) (hV : V.le (vw w)) (hks : SlOf V encI64 1 kv [6]) (hns : SlOf V encI64 1 nv [n]) (hfit : fitsB n 6 = false) :
    Calls Try.prog 136 #[I8 kind, S t, kv, nv] w fun e w' => e = .returned (.tuple #[S ByteArray.empty, I 2]) ∧ Below w.heap.size w w' := by
  have hks' := hks.mono hV
  have hns' := hns.mono hV
  refine enter (E := E0) (O := []) (nl := 0) (V := vw w) [.a (.v (I8 kind)), .a (.v (S t)), .a (.v kv), .a (.v nv)] Try.func136 rfl rfl (mem0 E0 0 w) rfl rfl ?_
  refine c_seq ?_
  refine c_region ?_
  refine o_yield rfl rfl rfl (y_val tok rfl) ?_
  refine o_yield rfl rfl rfl (y_val tok rfl) ?_
  refine o_end [0, 1, 2, 3] rfl ?_
  refine x_then ?_
  refine c_seq ?_
  refine c_region ?_
  refine o_yield rfl rfl rfl (y_val tok rfl) ?_
  refine o_yield rfl rfl rfl (y_val tok rfl) ?_
  refine o_new tok rfl rfl rfl rfl ?_
  refine o_yield rfl rfl rfl (y_val tok rfl) ?_
  refine o_end [1, 2, 3, 10] rfl ?_
  refine x_then ?_
  refine c_seq ?_
  refine c_seq ?_
  refine c_region ?_
  refine o_yield rfl rfl rfl (y_val tok rfl) ?_
  refine o_yield rfl rfl rfl (y_len tok rfl (fun hg => hks'.sl)) ?_
  refine o_yield rfl rfl rfl (y_val tok rfl) ?_
  refine o_yield rfl rfl rfl (y_len tok rfl (fun hg => hns'.sl)) ?_
  refine o_yield rfl rfl rfl (y_val tok rfl) ?_
  refine o_end [1, 2, 3, 10, 20] rfl ?_
  refine x_then ?_
  refine c_cond rfl (fun h => ?_) (fun h => ?_)
  ·
    simp only [Bool.and_eq_true, Bool.or_eq_true, Bool.not_eq_true', Bool.or_eq_false_iff, Bool.and_eq_false_iff, decide_eq_true_eq, decide_eq_false_iff_not, beq_iff_eq, bne_iff_ne, Bool.not_eq_false', beq_eq_false_iff_ne, bne_eq_false_iff_eq, ne_eq, Decidable.not_not, Int.not_lt, Int.not_le] at h
    refine c_seq ?_
    refine c_region ?_
    refine o_yield rfl rfl rfl (y_val tok rfl) ?_
    refine o_yield rfl rfl rfl (y_val tok rfl) ?_
    refine o_end [8, 9] rfl ?_
    refine x_then ?_
    refine c_ret ?_
    refine x_then_ret ?_
    refine b_ret tok rfl ?_
    contradiction
  ·
    simp only [Bool.and_eq_true, Bool.or_eq_true, Bool.not_eq_true', Bool.or_eq_false_iff, Bool.and_eq_false_iff, decide_eq_true_eq, decide_eq_false_iff_not, beq_iff_eq, bne_iff_ne, Bool.not_eq_false', beq_eq_false_iff_ne, bne_eq_false_iff_eq, ne_eq, Decidable.not_not, Int.not_lt, Int.not_le] at h
    refine c_skip ?_
    refine x_then ?_
    refine c_seq ?_
    refine c_seq ?_
    refine c_region ?_
    refine o_yield rfl rfl rfl (y_val tok rfl) ?_
    refine o_yield rfl rfl rfl (y_len tok rfl (fun hg => hns'.sl)) ?_
    refine o_yield rfl rfl rfl (y_val tok rfl) ?_
    refine o_end [1, 2, 10, 21, 22, 23] rfl ?_
    refine x_then ?_
    refine c_block ?_
    refine k_nilO 0 0 5 1 rfl rfl ?_
    refine c_loopK [1, 2, 10, 21, 22] [0, 1] rfl rfl (σ := Nat) (fun i => [(23, .a (.v (I i)))]) (fun i => [(0, .lit (.row 1 :: .v (I 0) :: [I8 kind].map .v) 278), (1, .row 5 1 0 [])]) (fun i => i = 0) (fun i => 1 - i) (0) (rfl) (by repeat (first | exact SubF.nil | refine SubF.cons rfl ?_)) (by repeat (first | exact SubO.nil | refine SubO.cons rfl ?_)) rfl ?_
    rintro i rfl
    refine c_seq ?_
    refine c_region ?_
    refine o_yield rfl rfl rfl (y_val tok rfl) ?_
    refine o_end [1, 2, 10, 21, 22, 23, 24] rfl ?_
    refine x_then ?_
    refine c_seq ?_
    refine c_cond rfl (fun h => ?_) (fun h => ?_)
    ·
      simp only [Bool.and_eq_true, Bool.or_eq_true, Bool.not_eq_true', Bool.or_eq_false_iff, Bool.and_eq_false_iff, decide_eq_true_eq, decide_eq_false_iff_not, beq_iff_eq, bne_iff_ne, Bool.not_eq_false', beq_eq_false_iff_ne, bne_eq_false_iff_eq, ne_eq, Decidable.not_not, Int.not_lt, Int.not_le] at h
      refine c_skip ?_
      refine x_then ?_
      refine c_seq ?_
      refine c_block ?_
      refine c_seq ?_
      refine c_region ?_
      refine o_yield rfl rfl rfl (y_val tok rfl) ?_
      have e1 : ([n] : List Int)[0]? = some n := rfl
      have e2 : ([6] : List Int)[0]? = some 6 := rfl
      have hlt_n := lt_of_at e1
      refine o_yield rfl rfl rfl (y_idx tok rfl (fun hg => hns'.sl) (fun hg => ⟨by omega, by omega⟩)) ?_
      refine o_yield rfl rfl rfl (y_lel tok (0) 0 (n) rfl (fun hg => hns') (fun hg => e1) rfl rfl) ?_
      refine o_yield rfl rfl rfl (y_val tok rfl) ?_
      refine o_yield rfl rfl rfl (y_val tok rfl) ?_
      refine o_end [1, 2, 10, 11, 12, 21, 22, 23] rfl ?_
      refine x_then ?_
      refine c_seq ?_
      refine c_held [] ([]) mixed (by repeat (first | exact SubO.nil | refine SubO.cons rfl ?_)) (by first | rfl | simp [okCels, allOk_plain]) ?_
      refine t_take 0 rfl (by kernel_rfl) rfl rfl rfl (y_val tok rfl) rfl ?_
      refine t_take 1 rfl (by kernel_rfl) rfl rfl rfl (y_val tok rfl) rfl ?_
      refine t_take 2 rfl (by kernel_rfl) rfl rfl rfl (y_val tok rfl) rfl ?_
      refine t_take 3 rfl (by kernel_rfl) rfl rfl rfl (y_val tok rfl) rfl ?_
      refine t_take 4 rfl (by kernel_rfl) rfl rfl rfl (y_val tok rfl) rfl ?_
      have hlt__6___Int_ := lt_of_at e2
      refine t_take 5 rfl (by kernel_rfl) rfl rfl rfl (y_idx tok rfl (fun hg => hks'.sl) (fun hg => ⟨by omega, by omega⟩)) rfl ?_
      refine t_take 6 rfl (by kernel_rfl) rfl rfl rfl (y_lel tok (0) 0 ((6 : Int)) rfl (fun hg => hks') (fun hg => e2) rfl rfl) rfl ?_
      refine t_take 7 rfl (by kernel_rfl) rfl rfl rfl (y_val tok rfl) rfl ?_
      refine t_go ?_
      refine h_one 8 (by kernel_rfl) ?_
      refine h_to 8 rfl rfl rfl rfl rfl rfl (s_bs tok 1 rfl rfl rfl) (.inr fun _ _ => ⟨(by repeat (first | exact SubO.nil | refine SubO.cons rfl ?_)), rfl, (by first | exact Vw.le.refl _ | assumption)⟩) (fun _ _ => ?_)
      refine h_one 9 (by kernel_rfl) ?_
      refine h_to 9 rfl rfl rfl rfl rfl rfl (s_callW (fun _ => True) (fun _ : Unit => .tup []) 0 278 (fun _ => [.row 1, .v (I 2), .v (I8 kind)]) rfl fnok211 rfl (fun _ => rfl) (fun _ => rfl) (fun E w1 hm hb => (bputNo_c 6 [] (E.κ 1) [n] (E.κ 2) (E.ρ 0) 278 (I8 kind) w1 hb (hm.rowOfDel (enc := encByte) (L := []) 1 rfl rfl (fun _ => rfl)) (hm.rowOfDel (enc := encI64) (L := [n]) 2 rfl rfl (fun _ => rfl)) (by rw [putOk_one, hfit]) (by simp) (by simp)).mono fun e w' h => ⟨(), h.1, h.2.1, h.2.2, trivial⟩)) (.inr fun _ _ => ⟨(by repeat (first | exact SubO.nil | refine SubO.cons rfl ?_)), rfl, (by first | exact Vw.le.refl _ | assumption)⟩) (fun _ _ => ?_)
      refine h_done [1, 2, 10, 21, 22, 23] (by kernel_rfl) rfl ?_
      refine x_then ?_
      refine c_seq ?_
      refine c_region ?_
      refine o_yield rfl rfl rfl (y_val tok rfl) ?_
      refine o_yield rfl rfl rfl (y_val tok rfl) ?_
      refine o_yield rfl rfl rfl (y_val tok rfl) ?_
      refine o_yield rfl rfl rfl (y_val tok rfl) ?_
      refine o_yield rfl rfl rfl (y_val tok rfl) ?_
      refine o_yield rfl rfl rfl (y_val tok rfl) ?_
      refine o_yield rfl rfl rfl (y_val tok rfl) ?_
      refine o_yield rfl rfl rfl (y_val tok rfl) ?_
      refine o_yield rfl rfl rfl (y_val tok rfl) ?_
      refine o_yield rfl rfl rfl (y_val tok rfl) ?_
      refine o_yield rfl rfl rfl (y_val tok rfl) ?_
      refine o_yield rfl rfl rfl (y_val tok rfl) ?_
      refine o_yield rfl rfl rfl (y_val tok rfl) ?_
      refine o_yield rfl rfl rfl (y_val tok rfl) ?_
      refine o_yield rfl rfl rfl (y_val tok rfl) ?_
      refine o_end [1, 2, 10, 21, 22, 23, 52] rfl ?_
      refine x_then ?_
      refine c_cond rfl (fun h => ?_) (fun h => ?_)
      ·
        refine c_seq ?_
        refine c_region ?_
        refine o_yield rfl rfl rfl (y_val tok rfl) ?_
        refine o_yield rfl rfl rfl (y_val tok rfl) ?_
        refine o_end [8, 9] rfl ?_
        refine x_then ?_
        refine c_ret ?_
        refine x_block_ret ?_
        refine x_then_ret ?_
        refine x_then_ret ?_
        refine x_block_ret ?_
        refine x_then_ret ?_
        refine b_ret tok rfl ?_
        intro E w' hm _
        refine ⟨?_, hm.below (Vw.le.refl _)⟩
        rfl
      ·
        exact absurd h (by decide)
    ·
      simp only [Bool.and_eq_true, Bool.or_eq_true, Bool.not_eq_true', Bool.or_eq_false_iff, Bool.and_eq_false_iff, decide_eq_true_eq, decide_eq_false_iff_not, beq_iff_eq, bne_iff_ne, Bool.not_eq_false', beq_eq_false_iff_ne, bne_eq_false_iff_eq, ne_eq, Decidable.not_not, Int.not_lt, Int.not_le] at h
      exact absurd h (by simp)

theorem refMake1No_c (kind : Int) (t : ByteArray) (V : Vw) (kv nv : Value) (n : Int) (w : World) (hV : V.le (vw w)) (hks : SlOf V encI64 1 kv [6]) (hns : SlOf V encI64 1 nv [n]) (hfit : fitsB n 6 = false) :
    Calls Try.prog 93 #[I8 kind, S t, kv, nv] w fun e w' => e = .returned (.tuple #[S ByteArray.empty, I 2]) ∧ Below w.heap.size w w' := by
  have hks' := hks.mono hV
  have hns' := hns.mono hV
  refine enter (E := E0) (O := []) (nl := 0) (V := vw w) [.a (.v (I8 kind)), .a (.v (S t)), .a (.v kv), .a (.v nv)] Try.func93 rfl rfl (mem0 E0 0 w) rfl rfl ?_
  refine c_seq ?_
  refine c_region ?_
  refine o_yield rfl rfl rfl (y_val tok rfl) ?_
  refine o_yield rfl rfl rfl (y_val tok rfl) ?_
  refine o_end [0, 1, 2, 3] rfl ?_
  refine x_then ?_
  refine c_seq ?_
  refine c_seq ?_
  refine c_region ?_
  refine o_yield rfl rfl rfl (y_val tok rfl) ?_
  refine o_yield rfl rfl rfl (y_len tok rfl (fun hg => hks'.sl)) ?_
  refine o_yield rfl rfl rfl (y_val tok rfl) ?_
  refine o_yield rfl rfl rfl (y_len tok rfl (fun hg => hns'.sl)) ?_
  refine o_yield rfl rfl rfl (y_val tok rfl) ?_
  refine o_end [0, 1, 2, 3, 18] rfl ?_
  refine x_then ?_
  refine c_cond rfl (fun h => ?_) (fun h => ?_)
  ·
    simp only [Bool.and_eq_true, Bool.or_eq_true, Bool.not_eq_true', Bool.or_eq_false_iff, Bool.and_eq_false_iff, decide_eq_true_eq, decide_eq_false_iff_not, beq_iff_eq, bne_iff_ne, Bool.not_eq_false', beq_eq_false_iff_ne, bne_eq_false_iff_eq, ne_eq, Decidable.not_not, Int.not_lt, Int.not_le] at h
    refine c_seq ?_
    refine c_region ?_
    refine o_yield rfl rfl rfl (y_val tok rfl) ?_
    refine o_yield rfl rfl rfl (y_val tok rfl) ?_
    refine o_end [8, 9] rfl ?_
    refine x_then ?_
    refine c_ret ?_
    refine x_then_ret ?_
    refine b_ret tok rfl ?_
    contradiction
  ·
    simp only [Bool.and_eq_true, Bool.or_eq_true, Bool.not_eq_true', Bool.or_eq_false_iff, Bool.and_eq_false_iff, decide_eq_true_eq, decide_eq_false_iff_not, beq_iff_eq, bne_iff_ne, Bool.not_eq_false', beq_eq_false_iff_ne, bne_eq_false_iff_eq, ne_eq, Decidable.not_not, Int.not_lt, Int.not_le] at h
    clear h
    refine c_skip ?_
    refine x_then ?_
    refine c_seq ?_
    refine c_region ?_
    refine o_yield rfl rfl rfl (y_val tok rfl) ?_
    refine o_end [0, 1, 2, 3, 10] rfl ?_
    refine x_then ?_
    refine c_seq ?_
    refine c_seq ?_
    refine c_region ?_
    refine o_yield rfl rfl rfl (y_val tok rfl) ?_
    refine o_end [0, 1, 2, 3, 10, 11] rfl ?_
    refine x_then ?_
    refine c_block ?_
    refine k_nil 10 5 1 rfl rfl ?_
    refine c_loopK [0, 1, 2, 3] [0] rfl rfl (σ := Nat) (fun i => [(10, .a (.row 0)), (11, .a (.v (I i)))]) (fun i => [(0, .row 5 1 0 [])]) (fun i => i = 0) (fun i => 1 - i) (0) (rfl) (by repeat (first | exact SubF.nil | refine SubF.cons rfl ?_)) (by repeat (first | exact SubO.nil | refine SubO.cons rfl ?_)) rfl ?_
    rintro i rfl
    refine c_seq ?_
    refine c_seq ?_
    refine c_region ?_
    refine o_yield rfl rfl rfl (y_val tok rfl) ?_
    refine o_yield rfl rfl rfl (y_val tok rfl) ?_
    refine o_yield rfl rfl rfl (y_len tok rfl (fun hg => hns'.sl)) ?_
    refine o_yield rfl rfl rfl (y_val tok rfl) ?_
    refine o_end [0, 1, 2, 3, 10, 11, 22] rfl ?_
    refine x_then ?_
    refine c_cond rfl (fun h => ?_) (fun h => ?_)
    ·
      simp only [Bool.and_eq_true, Bool.or_eq_true, Bool.not_eq_true', Bool.or_eq_false_iff, Bool.and_eq_false_iff, decide_eq_true_eq, decide_eq_false_iff_not, beq_iff_eq, bne_iff_ne, Bool.not_eq_false', beq_eq_false_iff_ne, bne_eq_false_iff_eq, ne_eq, Decidable.not_not, Int.not_lt, Int.not_le] at h
      refine c_skip ?_
      refine x_then ?_
      refine c_seq ?_
      refine c_block ?_
      refine c_seq ?_
      refine c_heldR mixed rfl (by repeat (first | exact SubO.nil | refine SubO.cons rfl ?_)) (by first | rfl | simp [okCels, allOk_plain]) ?_
      refine t_take 0 rfl (by kernel_rfl) rfl rfl rfl (y_val tok rfl) rfl ?_
      refine t_take 1 rfl (by kernel_rfl) rfl rfl rfl (y_val tok rfl) rfl ?_
      refine t_take 2 rfl (by kernel_rfl) rfl rfl rfl (y_val tok rfl) rfl ?_
      have e1 : ([n] : List Int)[0]? = some n := rfl
      have e2 : ([6] : List Int)[0]? = some 6 := rfl
      have hlt__6___Int_ := lt_of_at e2
      refine t_take 3 rfl (by kernel_rfl) rfl rfl rfl (y_idx tok rfl (fun hg => hks'.sl) (fun hg => ⟨by omega, by omega⟩)) rfl ?_
      refine t_take 4 rfl (by kernel_rfl) rfl rfl rfl (y_lel tok (0) 0 ((6 : Int)) rfl (fun hg => hks') (fun hg => e2) rfl rfl) rfl ?_
      refine t_take 5 rfl (by kernel_rfl) rfl rfl rfl (y_val tok rfl) rfl ?_
      refine t_take 6 rfl (by kernel_rfl) rfl rfl rfl (y_val tok rfl) rfl ?_
      have hlt_n := lt_of_at e1
      refine t_take 7 rfl (by kernel_rfl) rfl rfl rfl (y_idx tok rfl (fun hg => hns'.sl) (fun hg => ⟨by omega, by omega⟩)) rfl ?_
      refine t_take 8 rfl (by kernel_rfl) rfl rfl rfl (y_lel tok (0) 0 (n) rfl (fun hg => hns') (fun hg => e1) rfl rfl) rfl ?_
      refine t_go ?_
      refine h_one 9 (by kernel_rfl) ?_
      refine h_to 9 rfl rfl rfl rfl rfl rfl (s_bs tok 1 rfl rfl rfl) (.inr fun _ _ => ⟨(by repeat (first | exact SubO.nil | refine SubO.cons rfl ?_)), rfl, (by first | exact Vw.le.refl _ | assumption)⟩) (fun _ _ => ?_)
      refine h_one 10 (by kernel_rfl) ?_
      refine h_call 10 (.a (.v _)) rfl rfl rfl fnok121 rfl rfl rfl (fun hg E w1 hm => by exact refPut_no [] 6 [n] (by rw [putOk_one, hfit]) (by simp) (by simp) (hm.rowOf (enc := encByte) (L := []) 0 rfl (fun _ => rfl)) (hm.rowOf (enc := encI64) (L := [n]) 1 rfl (fun _ => rfl))) ?_
      refine h_one 11 (by kernel_rfl) ?_
      refine h_yield 11 rfl rfl rfl rfl (y_val tok rfl) ?_
      refine h_take 12 rfl (by kernel_rfl) rfl rfl rfl rfl (y_val tok rfl) rfl ?_
      refine h_take 13 rfl (by kernel_rfl) rfl rfl rfl rfl (y_val tok rfl) rfl ?_
      refine h_one 14 (by kernel_rfl) ?_
      refine h_yield 14 rfl rfl rfl rfl (y_val tok rfl) ?_
      refine h_one 15 (by kernel_rfl) ?_
      refine h_yield 15 rfl rfl rfl rfl (y_val tok rfl) ?_
      refine h_done [0, 1, 2, 3, 11, 12, 13] (by kernel_rfl) rfl ?_
      refine x_then ?_
      refine c_seq ?_
      refine c_seq ?_
      refine c_region ?_
      refine o_yield rfl rfl rfl (y_val tok rfl) ?_
      refine o_yield rfl rfl rfl (y_val tok rfl) ?_
      refine o_end [0, 1, 2, 3, 11, 12, 40] rfl ?_
      refine x_then ?_
      refine c_cond rfl (fun h => ?_) (fun h => ?_)
      ·
        refine c_seq ?_
        refine c_region ?_
        refine o_yield rfl rfl rfl (y_val tok rfl) ?_
        refine o_yield rfl rfl rfl (y_val tok rfl) ?_
        refine o_end [8, 9] rfl ?_
        refine x_then ?_
        refine c_ret ?_
        refine x_then_ret ?_
        refine x_block_ret ?_
        refine x_then_ret ?_
        refine x_then_ret ?_
        refine x_block_ret ?_
        refine x_then_ret ?_
        refine b_ret tok rfl ?_
        intro E w' hm _
        refine ⟨?_, hm.below (Vw.le.refl _)⟩
        rfl
      ·
        exact absurd h (by decide)
    ·
      simp only [Bool.and_eq_true, Bool.or_eq_true, Bool.not_eq_true', Bool.or_eq_false_iff, Bool.and_eq_false_iff, decide_eq_true_eq, decide_eq_false_iff_not, beq_iff_eq, bne_iff_ne, Bool.not_eq_false', beq_eq_false_iff_ne, bne_eq_false_iff_eq, ne_eq, Decidable.not_not, Int.not_lt, Int.not_le] at h
      exact absurd h (by simp)

theorem shead_c (n : Int) (w : World) : Calls Try.prog 53 #[I n] w fun e w' => e = .returned (.tuple #[S (headS n).1, I (headS n).2]) ∧ Below w.heap.size w w' := by
  refine enter (E := E0) (O := []) (nl := 0) (V := vw w) [.a (.v (I n))] Try.func53 rfl rfl (mem0 E0 0 w) rfl rfl ?_
  refine c_seq ?_
  refine c_region ?_
  refine o_yield rfl rfl rfl (y_val tok rfl) ?_
  refine o_yield rfl rfl rfl (y_val tok rfl) ?_
  refine o_end [0] rfl ?_
  refine x_then ?_
  refine c_seq ?_
  refine c_region ?_
  refine o_bs tok rfl rfl rfl rfl (fun b1 V1 hle1 hb1 => ?_)
  refine o_yield rfl rfl rfl (y_val tok rfl) ?_
  refine o_bs tok rfl rfl rfl rfl (fun b2 V2 hle2 hb2 => ?_)
  have h1 := SlOf.ofBlock (enc := encI64) (sz := 1) (l := [6]) (hle2.get _ _ (hb1 rfl)) rfl (fun _ => rfl) (Nat.le_refl _)
  have h2 := SlOf.ofBlock (enc := encI64) (sz := 1) (l := [n]) (hb2 rfl) rfl (fun _ => rfl) (Nat.le_refl _)
  have key : ∀ w1, V2.le (vw w1) → Calls Try.prog 136 #[I8 2, S ByteArray.empty, .slice (some ⟨b1, 0, none⟩) 1 1, .slice (some ⟨b2, 0, none⟩) 1 1] w1 fun e w' => e = .returned (.tuple #[S (headS n).1, I (headS n).2]) ∧ Below w1.heap.size w1 w' := fun w1 hV => by
    cases hf : fitsB n 6 with
    | true =>
      have := make_c 2 (by unfold R8; omega) ByteArray.empty V2 _ _ [6] [n] w1 (by simp) hV h1 h2 rfl (by simp) (fun i k m hk hn => by
        cases i with
        | zero => cases hk; cases hn; rw [putOk_one, hf]
        | succ i => simp at hk) (fun i => by
        have h := pack_len ([6].take i) ([n].take i)
        have : (([6].take i).map Int.toNat).sum ≤ 6 := by
          match i with
          | 0 => decide
          | i + 1 => rw [List.take_of_length_le (by simp)]; decide
        omega)
      rw [hseal hf] at this
      exact this
    | false =>
      have := make1No_c 2 ByteArray.empty V2 _ _ n w1 hV h1 h2 hf
      rw [headS, if_neg (by simp [hf])]
      exact this
  refine o_call (.a (.v _)) rfl rfl fnok136 rfl rfl rfl (fun hg E w1 hm => by exact key _ hm.leV) ?_
  refine o_yield rfl rfl rfl (y_val tok rfl) ?_
  refine o_yield rfl rfl rfl (y_val tok rfl) ?_
  refine o_yield rfl rfl rfl (y_val tok rfl) ?_
  refine o_yield rfl rfl rfl (y_val tok rfl) ?_
  refine o_end [2, 3] rfl ?_
  refine x_then ?_
  refine c_ret ?_
  refine b_ret tok rfl ?_
  intro E w' hm _
  refine ⟨?_, hm.below ((hle1.trans hle2))⟩
  rfl

theorem refHeadS_c (n : Int) (w : World) : Calls Try.prog 19 #[I n] w fun e w' => e = .returned (.tuple #[S (headS n).1, I (headS n).2]) ∧ Below w.heap.size w w' := by
  refine enter (E := E0) (O := []) (nl := 0) (V := vw w) [.a (.v (I n))] Try.func19 rfl rfl (mem0 E0 0 w) rfl rfl ?_
  refine c_seq ?_
  refine c_region ?_
  refine o_yield rfl rfl rfl (y_val tok rfl) ?_
  refine o_yield rfl rfl rfl (y_val tok rfl) ?_
  refine o_end [0] rfl ?_
  refine x_then ?_
  refine c_seq ?_
  refine c_region ?_
  refine o_bs tok rfl rfl rfl rfl (fun b1 V1 hle1 hb1 => ?_)
  refine o_yield rfl rfl rfl (y_val tok rfl) ?_
  refine o_bs tok rfl rfl rfl rfl (fun b2 V2 hle2 hb2 => ?_)
  have h1 := SlOf.ofBlock (enc := encI64) (sz := 1) (l := [6]) (hle2.get _ _ (hb1 rfl)) rfl (fun _ => rfl) (Nat.le_refl _)
  have h2 := SlOf.ofBlock (enc := encI64) (sz := 1) (l := [n]) (hb2 rfl) rfl (fun _ => rfl) (Nat.le_refl _)
  have key : ∀ w1, V2.le (vw w1) → Calls Try.prog 93 #[I8 2, S ByteArray.empty, .slice (some ⟨b1, 0, none⟩) 1 1, .slice (some ⟨b2, 0, none⟩) 1 1] w1 fun e w' => e = .returned (.tuple #[S (headS n).1, I (headS n).2]) ∧ Below w1.heap.size w1 w' := fun w1 hV => by
    cases hf : fitsB n 6 with
    | true =>
      have := refMake_c 2 (by unfold R8; omega) ByteArray.empty V2 _ _ [6] [n] w1 (by simp) hV h1 h2 rfl (by simp) (fun i k m hk hn => by
        cases i with
        | zero => cases hk; cases hn; rw [putOk_one, hf]
        | succ i => simp at hk) (fun i => by
        have h := pack_len ([6].take i) ([n].take i)
        have : (([6].take i).map Int.toNat).sum ≤ 6 := by
          match i with
          | 0 => decide
          | i + 1 => rw [List.take_of_length_le (by simp)]; decide
        omega)
      rw [hseal hf] at this
      exact this
    | false =>
      have := refMake1No_c 2 ByteArray.empty V2 _ _ n w1 hV h1 h2 hf
      rw [headS, if_neg (by simp [hf])]
      exact this
  refine o_call (.a (.v _)) rfl rfl fnok93 rfl rfl rfl (fun hg E w1 hm => by exact key _ hm.leV) ?_
  refine o_yield rfl rfl rfl (y_val tok rfl) ?_
  refine o_yield rfl rfl rfl (y_val tok rfl) ?_
  refine o_yield rfl rfl rfl (y_val tok rfl) ?_
  refine o_yield rfl rfl rfl (y_val tok rfl) ?_
  refine o_end [2, 3] rfl ?_
  refine x_then ?_
  refine c_ret ?_
  refine b_ret tok rfl ?_
  intro E w' hm _
  refine ⟨?_, hm.below ((hle1.trans hle2))⟩
  rfl

/-- A header's tail. -/
def tailOk (s : ByteArray) : Option Int := match fieldsR 2 s [6] with
  | some (l, r) => if r.size = 0 then l[0]? else none
  | none => none
def tailV (s : ByteArray) : Int := (tailOk s).getD 0
def tailE (s : ByteArray) : Int := if (tailOk s).isSome then 0 else 50

theorem one_list {l : List Int} (h : l.length = 1) : ∃ a, l = [a] := by
  match l, h with
  | [a], _ => exact ⟨a, rfl⟩

theorem stail_c (s : ByteArray) (hs : s.size ≤ maxLen) (w : World) : Calls Try.prog 52 #[S s] w fun e w' => e = .returned (.tuple #[I (tailV s), I (tailE s)]) ∧ Below w.heap.size w w' := by
  refine enter (E := E0) (O := []) (nl := 0) (V := vw w) [.a (.v (S s))] Try.func52 rfl rfl (mem0 E0 0 w) rfl rfl ?_
  refine c_seq ?_
  refine c_region ?_
  refine o_yield rfl rfl rfl (y_val tok rfl) ?_
  refine o_yield rfl rfl rfl (y_val tok rfl) ?_
  refine o_end [0] rfl ?_
  refine x_then ?_
  refine c_seq ?_
  refine c_seq ?_
  refine c_region ?_
  refine o_yield rfl rfl rfl (y_val tok rfl) ?_
  refine o_bs tok rfl rfl rfl rfl (fun b1 V1 hle1 hb1 => ?_)
  refine o_callV (FVal 2 s [6]) rfl rfl fnok132 rfl rfl (fun hg E w1 hm => by exact fval_of hm.leV (fields_c 2 s V1 _ [6] w1 hs hm.leV (SlOf.ofBlock (enc := encI64) (sz := 1) (l := [6]) (hb1 rfl) rfl (fun _ => rfl) (Nat.le_refl _)) (by simp))) ?_
  rintro x V2 hle2 hx
  have hx' := hx rfl
  clear hx
  rcases hx' with ⟨l, r, v, hfr, rfl, hsl⟩ | ⟨hfr, rfl⟩
  ·
    obtain ⟨a, rfl⟩ := one_list (by rw [fields_len hfr]; rfl)
    have e1 : ([a] : List Int)[0]? = some a := rfl
    refine o_yield rfl rfl rfl (y_val tok rfl) ?_
    refine o_yield rfl rfl rfl (y_val tok rfl) ?_
    refine o_yield rfl rfl rfl (y_val tok rfl) ?_
    refine o_yield rfl rfl rfl (y_val tok rfl) ?_
    refine o_yield rfl rfl rfl (y_val tok rfl) ?_
    refine o_yield rfl rfl rfl (y_val tok rfl) ?_
    refine o_yield rfl rfl rfl (y_val tok rfl) ?_
    refine o_end [4, 5, 6] rfl ?_
    refine x_then ?_
    refine c_seq ?_
    refine c_region ?_
    refine o_yield rfl rfl rfl (y_val tok rfl) ?_
    refine o_yield rfl rfl rfl (y_val tok rfl) ?_
    refine o_yield rfl rfl rfl (y_val tok rfl) ?_
    refine o_yield rfl rfl rfl (y_val tok rfl) ?_
    refine o_yield rfl rfl rfl (y_val tok rfl) ?_
    refine o_yield rfl rfl rfl (y_val tok rfl) ?_
    refine o_end [4, 19] rfl ?_
    refine x_then ?_
    refine c_cond rfl (fun h => ?_) (fun h => ?_)
    ·
      refine c_seq ?_
      refine c_region ?_
      refine o_yield rfl rfl rfl (y_val tok rfl) ?_
      have hlt_a := lt_of_at e1
      refine o_yield rfl rfl rfl (y_idx tok rfl (fun hg => hsl.sl) (fun hg => ⟨by omega, by omega⟩)) ?_
      refine o_yield rfl rfl rfl (y_lel tok (0) 0 (a) rfl (fun hg => hsl) (fun hg => e1) rfl rfl) ?_
      refine o_yield rfl rfl rfl (y_val tok rfl) ?_
      refine o_yield rfl rfl rfl (y_val tok rfl) ?_
      refine o_end [2, 3] rfl ?_
      refine x_then ?_
      refine c_ret ?_
      refine x_then_ret ?_
      refine b_ret tok rfl ?_
      intro E w' hm _
      refine ⟨?_, hm.below ((hle1.trans hle2))⟩
      have : tailOk s = some a := by
        rw [tailOk, hfr]
        simp only
        rw [size_empty'] at h
        rw [if_pos (by simpa using h)]; rfl
      rw [tailV, tailE, this]; rfl
    ·
      refine c_skip ?_
      refine x_then ?_
      refine c_seq ?_
      refine c_region ?_
      refine o_yield rfl rfl rfl (y_val tok rfl) ?_
      refine o_yield rfl rfl rfl (y_val tok rfl) ?_
      refine o_end [2, 3] rfl ?_
      refine x_then ?_
      refine c_ret ?_
      refine b_ret tok rfl ?_
      intro E w' hm _
      refine ⟨?_, hm.below ((hle1.trans hle2))⟩
      have : tailOk s = none := by
        rw [tailOk, hfr]
        simp only
        rw [size_empty'] at h
        rw [if_neg (by simpa using h)]
      rw [tailV, tailE, this]; rfl
  ·
    refine o_yield rfl rfl rfl (y_val tok rfl) ?_
    refine o_yield rfl rfl rfl (y_val tok rfl) ?_
    refine o_yield rfl rfl rfl (y_val tok rfl) ?_
    refine o_yield rfl rfl rfl (y_val tok rfl) ?_
    refine o_yield rfl rfl rfl (y_val tok rfl) ?_
    refine o_yield rfl rfl rfl (y_val tok rfl) ?_
    refine o_yield rfl rfl rfl (y_val tok rfl) ?_
    refine o_end [4, 5, 6] rfl ?_
    refine x_then ?_
    refine c_seq ?_
    refine c_region ?_
    refine o_yield rfl rfl rfl (y_val tok rfl) ?_
    refine o_yield rfl rfl rfl (y_val tok rfl) ?_
    refine o_yield rfl rfl rfl (y_val tok rfl) ?_
    refine o_yield rfl rfl rfl (y_val tok rfl) ?_
    refine o_yield rfl rfl rfl (y_val tok rfl) ?_
    refine o_yield rfl rfl rfl (y_val tok rfl) ?_
    refine o_end [4, 19] rfl ?_
    refine x_then ?_
    refine c_cond rfl (fun h => ?_) (fun h => ?_)
    · exact absurd h (by decide)
    ·
      refine c_skip ?_
      refine x_then ?_
      refine c_seq ?_
      refine c_region ?_
      refine o_yield rfl rfl rfl (y_val tok rfl) ?_
      refine o_yield rfl rfl rfl (y_val tok rfl) ?_
      refine o_end [2, 3] rfl ?_
      refine x_then ?_
      refine c_ret ?_
      refine b_ret tok rfl ?_
      intro E w' hm _
      refine ⟨?_, hm.below ((hle1.trans hle2))⟩
      have : tailOk s = none := by rw [tailOk, hfr]
      rw [tailV, tailE, this]; rfl
end Go.Proofs.Ytflimioplnbopaa

/- The law SuperTells from what comes in. -/
set_option linter.unusedVariables false
set_option linter.unusedSimpArgs false
set_option maxRecDepth 100000
namespace Go.Proofs.Ytflimioplnbopaa
open Go Go.Eng Go.RowKit

theorem rwidths_c (w : World) : Calls Try.prog 138 #[] w fun e w' => ∃ v, e = .returned v ∧ w'.ownsRow w.heap.size 3 1 v gW.length (gW.flatMap encI64) ∧ Below w.heap.size w w' := by
  refine enter (E := E0) (O := []) (nl := 0) (V := vw w) [] Try.func138 rfl rfl (mem0 E0 0 w) rfl rfl ?_
  refine c_seq ?_
  refine c_region ?_
  refine o_yield rfl rfl rfl (y_val tok rfl) ?_
  refine o_end [] rfl ?_
  refine x_then ?_
  refine c_seq ?_
  refine c_region ?_
  refine o_step rfl rfl rfl rfl rfl (s_bs tok 1 rfl rfl rfl) (fun _ _ => ?_)
  refine o_yield rfl rfl rfl (y_val tok rfl) ?_
  refine o_end [0] rfl ?_
  refine x_then ?_
  refine c_ret ?_
  refine b_ret tok rfl ?_
  intro E w' hm _
  exact ⟨E.κ 0, rfl, hm.rowFresh (Vw.le.refl _) (l := 0) rfl, hm.below (Vw.le.refl _)⟩

def gMk (g : Geo) : ByteArray × Int := sealS 1 (strOf (packL gW (gNums g)) ++ ByteArray.empty)

theorem rsbytes_c (g : Geo) (ok : g.Ok) (w : World) : Calls Try.prog 92 #[g.val] w fun e w' => e = .returned (.tuple #[S (gbV g), I (gbE g)]) ∧ Below w.heap.size w w' := by
  refine enter (E := E0) (O := []) (nl := 0) (V := vw w) [.a (.v g.val)] Try.func92 rfl rfl (mem0 E0 0 w) rfl rfl ?_
  refine c_seq ?_
  refine c_region ?_
  refine o_new tok rfl rfl rfl rfl ?_
  refine o_yield rfl rfl rfl (y_val tok rfl) ?_
  refine o_yield rfl rfl rfl (y_val tok rfl) ?_
  refine o_end [1] rfl ?_
  refine x_then ?_
  refine c_seq ?_
  refine c_seq ?_
  refine c_region ?_
  refine o_yield rfl rfl rfl (y_val tok rfl) ?_
  refine o_call (.a (.v _)) rfl rfl fnok14 rfl rfl rfl (fun hg E w1 hm => by exact refMay_c g ok _) ?_
  refine o_yield rfl rfl rfl (y_val tok rfl) ?_
  refine o_end [1, 6] rfl ?_
  refine x_then ?_
  refine c_cond rfl (fun h => ?_) (fun h => ?_)
  ·
    simp only [Bool.and_eq_true, Bool.or_eq_true, Bool.not_eq_true', Bool.or_eq_false_iff, Bool.and_eq_false_iff, decide_eq_true_eq, decide_eq_false_iff_not, beq_iff_eq, bne_iff_ne, Bool.not_eq_false', beq_eq_false_iff_ne, bne_eq_false_iff_eq, ne_eq, Decidable.not_not, Int.not_lt, Int.not_le] at h
    refine c_seq ?_
    refine c_region ?_
    refine o_yield rfl rfl rfl (y_val tok rfl) ?_
    refine o_yield rfl rfl rfl (y_val tok rfl) ?_
    refine o_end [2, 3] rfl ?_
    refine x_then ?_
    refine c_ret ?_
    refine x_then_ret ?_
    refine b_ret tok rfl ?_
    intro E w' hm _
    refine ⟨?_, hm.below (Vw.le.refl _)⟩
    rw [gbV, gbE, if_neg (by simp [h]), if_neg (by simp [h])]; rfl
  ·
    simp only [Bool.and_eq_true, Bool.or_eq_true, Bool.not_eq_true', Bool.or_eq_false_iff, Bool.and_eq_false_iff, decide_eq_true_eq, decide_eq_false_iff_not, beq_iff_eq, bne_iff_ne, Bool.not_eq_false', beq_eq_false_iff_ne, bne_eq_false_iff_eq, ne_eq, Decidable.not_not, Int.not_lt, Int.not_le] at h
    refine c_skip ?_
    refine x_then ?_
    refine c_seq ?_
    have hgg := h
    clear h
    refine c_heldM (σ := Unit) (fun _ => [(2, .a (.v (S (gMk g).1))), (3, .a (.v (I (gMk g).2)))]) (fun _ => []) (1) (fun _ => vw w) (fun _ => True) mixed ?_ ?_
    ·
      refine t_take 1 rfl (by kernel_rfl) rfl rfl rfl (y_val tok rfl) rfl ?_
      refine t_take 2 rfl (by kernel_rfl) rfl rfl rfl (y_val tok rfl) rfl ?_
      refine t_take 3 rfl (by kernel_rfl) rfl rfl rfl (y_val tok rfl) rfl ?_
      refine t_take 4 rfl (by kernel_rfl) rfl rfl rfl (y_val tok rfl) rfl ?_
      refine t_take 5 rfl (by kernel_rfl) rfl rfl rfl (y_val tok rfl) rfl ?_
      refine t_take 6 rfl (by kernel_rfl) rfl rfl rfl (y_val tok rfl) rfl ?_
      refine t_take 7 rfl (by kernel_rfl) rfl rfl rfl (y_val tok rfl) rfl ?_
      refine t_take 8 rfl (by kernel_rfl) rfl rfl rfl (y_val tok rfl) rfl ?_
      refine t_take 9 rfl (by kernel_rfl) rfl rfl rfl (y_val tok rfl) rfl ?_
      refine t_take 10 rfl (by kernel_rfl) rfl rfl rfl (y_val tok rfl) rfl ?_
      refine t_take 11 rfl (by kernel_rfl) rfl rfl rfl (y_val tok rfl) rfl ?_
      refine t_take 12 rfl (by kernel_rfl) rfl rfl rfl (y_val tok rfl) rfl ?_
      refine t_take 13 rfl (by kernel_rfl) rfl rfl rfl (y_val tok rfl) rfl ?_
      refine t_take 14 rfl (by kernel_rfl) rfl rfl rfl (y_val tok rfl) rfl ?_
      refine t_take 15 rfl (by kernel_rfl) rfl rfl rfl (y_val tok rfl) rfl ?_
      refine t_take 16 rfl (by kernel_rfl) rfl rfl rfl (y_val tok rfl) rfl ?_
      refine t_go ?_
      refine h_two 0 17 (by kernel_rfl) ?_ ?_
      ·
        refine h_to 0 rfl rfl rfl rfl rfl rfl (s_callRow 3 1 gW.length (gW.flatMap encI64) rfl fnok138 (fun E w1 hm => rwidths_c w1)) (.inr fun _ _ => ⟨(by repeat (first | exact SubO.nil | refine SubO.cons rfl ?_)), rfl, (by first | exact Vw.le.refl _ | assumption)⟩) (fun _ _ => ?_)
        refine h_one 17 (by kernel_rfl) ?_
        refine h_to 17 rfl rfl rfl rfl rfl rfl (s_bs tok 1 rfl rfl rfl) (.inr fun _ _ => ⟨(by repeat (first | exact SubO.nil | refine SubO.cons rfl ?_)), rfl, (by first | exact Vw.le.refl _ | assumption)⟩) (fun _ _ => ?_)
        refine h_one 18 (by kernel_rfl) ?_
        refine h_call 18 (.tup [.v (S (gMk g).1), .v (I (gMk g).2)]) rfl rfl rfl fnok93 rfl rfl rfl (fun hg E w1 hm => by first|exact refMake_c 1 (by unfold R8; omega) ByteArray.empty (vw w1) _ _ gW (gNums g) w1 (by simp) (Vw.le.refl _) (hm.rowOf 1 rfl (fun _ => rfl)) (hm.rowOf (enc := encI64) (L := gNums g) 2 rfl (fun _ => rfl)) rfl (by simp) (fun i k n hk hn => putOk_of (gnums_fit hgg i k n hk hn)) (gpack_take g)|exact refMake_c 1 (by unfold R8; omega) ByteArray.empty (vw w1) _ _ gW (gNums g) w1 (by simp) (Vw.le.refl _) (hm.rowOf 2 rfl (fun _ => rfl)) (hm.rowOf (enc := encI64) (L := gNums g) 1 rfl (fun _ => rfl)) rfl (by simp) (fun i k n hk hn => putOk_of (gnums_fit hgg i k n hk hn)) (gpack_take g)) ?_
        refine h_two 19 20 (by kernel_rfl) ?_ ?_
        ·
          refine h_yield 19 rfl rfl rfl rfl (y_val tok rfl) ?_
          refine h_one 20 (by kernel_rfl) ?_
          refine h_yield 20 rfl rfl rfl rfl (y_val tok rfl) ?_
          refine h_one 21 (by kernel_rfl) ?_
          refine h_yield 21 rfl rfl rfl rfl (y_val tok rfl) ?_
          refine h_one 22 (by kernel_rfl) ?_
          refine h_yield 22 rfl rfl rfl rfl (y_val tok rfl) ?_
          refine h_done [2, 3] (by kernel_rfl) rfl ?_
          exact x_meet () trivial (by repeat (first | exact SubF.nil | refine SubF.cons rfl ?_)) (by repeat (first | exact SubO.nil | refine SubO.cons rfl ?_)) rfl (Vw.le.refl _)
        ·
          refine h_yield 20 rfl rfl rfl rfl (y_val tok rfl) ?_
          refine h_one 19 (by kernel_rfl) ?_
          refine h_yield 19 rfl rfl rfl rfl (y_val tok rfl) ?_
          refine h_one 21 (by kernel_rfl) ?_
          refine h_yield 21 rfl rfl rfl rfl (y_val tok rfl) ?_
          refine h_one 22 (by kernel_rfl) ?_
          refine h_yield 22 rfl rfl rfl rfl (y_val tok rfl) ?_
          refine h_done [2, 3] (by kernel_rfl) rfl ?_
          exact x_meet () trivial (by repeat (first | exact SubF.nil | refine SubF.cons rfl ?_)) (by repeat (first | exact SubO.nil | refine SubO.cons rfl ?_)) rfl (Vw.le.refl _)
      ·
        refine h_to 17 rfl rfl rfl rfl rfl rfl (s_bs tok 1 rfl rfl rfl) (.inr fun _ _ => ⟨(by repeat (first | exact SubO.nil | refine SubO.cons rfl ?_)), rfl, (by first | exact Vw.le.refl _ | assumption)⟩) (fun _ _ => ?_)
        refine h_one 0 (by kernel_rfl) ?_
        refine h_to 0 rfl rfl rfl rfl rfl rfl (s_callRow 3 1 gW.length (gW.flatMap encI64) rfl fnok138 (fun E w1 hm => rwidths_c w1)) (.inr fun _ _ => ⟨(by repeat (first | exact SubO.nil | refine SubO.cons rfl ?_)), rfl, (by first | exact Vw.le.refl _ | assumption)⟩) (fun _ _ => ?_)
        refine h_one 18 (by kernel_rfl) ?_
        refine h_call 18 (.tup [.v (S (gMk g).1), .v (I (gMk g).2)]) rfl rfl rfl fnok93 rfl rfl rfl (fun hg E w1 hm => by first|exact refMake_c 1 (by unfold R8; omega) ByteArray.empty (vw w1) _ _ gW (gNums g) w1 (by simp) (Vw.le.refl _) (hm.rowOf 1 rfl (fun _ => rfl)) (hm.rowOf (enc := encI64) (L := gNums g) 2 rfl (fun _ => rfl)) rfl (by simp) (fun i k n hk hn => putOk_of (gnums_fit hgg i k n hk hn)) (gpack_take g)|exact refMake_c 1 (by unfold R8; omega) ByteArray.empty (vw w1) _ _ gW (gNums g) w1 (by simp) (Vw.le.refl _) (hm.rowOf 2 rfl (fun _ => rfl)) (hm.rowOf (enc := encI64) (L := gNums g) 1 rfl (fun _ => rfl)) rfl (by simp) (fun i k n hk hn => putOk_of (gnums_fit hgg i k n hk hn)) (gpack_take g)) ?_
        refine h_two 19 20 (by kernel_rfl) ?_ ?_
        ·
          refine h_yield 19 rfl rfl rfl rfl (y_val tok rfl) ?_
          refine h_one 20 (by kernel_rfl) ?_
          refine h_yield 20 rfl rfl rfl rfl (y_val tok rfl) ?_
          refine h_one 21 (by kernel_rfl) ?_
          refine h_yield 21 rfl rfl rfl rfl (y_val tok rfl) ?_
          refine h_one 22 (by kernel_rfl) ?_
          refine h_yield 22 rfl rfl rfl rfl (y_val tok rfl) ?_
          refine h_done [2, 3] (by kernel_rfl) rfl ?_
          exact x_meet () trivial (by repeat (first | exact SubF.nil | refine SubF.cons rfl ?_)) (by repeat (first | exact SubO.nil | refine SubO.cons rfl ?_)) rfl (Vw.le.refl _)
        ·
          refine h_yield 20 rfl rfl rfl rfl (y_val tok rfl) ?_
          refine h_one 19 (by kernel_rfl) ?_
          refine h_yield 19 rfl rfl rfl rfl (y_val tok rfl) ?_
          refine h_one 21 (by kernel_rfl) ?_
          refine h_yield 21 rfl rfl rfl rfl (y_val tok rfl) ?_
          refine h_one 22 (by kernel_rfl) ?_
          refine h_yield 22 rfl rfl rfl rfl (y_val tok rfl) ?_
          refine h_done [2, 3] (by kernel_rfl) rfl ?_
          exact x_meet () trivial (by repeat (first | exact SubF.nil | refine SubF.cons rfl ?_)) (by repeat (first | exact SubO.nil | refine SubO.cons rfl ?_)) rfl (Vw.le.refl _)
    rintro ⟨⟩ -
    refine x_then ?_
    refine c_ret ?_
    refine b_ret tok rfl ?_
    intro E w' hm _
    refine ⟨?_, hm.below (Vw.le.refl _)⟩
    rw [gbV, gbE, if_pos hgg, if_pos hgg, gMk, gseal]; rfl

theorem rsread_c (s : ByteArray) (hs : s.size ≤ maxLen) (w : World) : Calls Try.prog 55 #[S s] w fun e w' => e = .returned (.tuple #[(srV s).val, I (srE s)]) ∧ Below w.heap.size w w' := by
  refine enter (E := E0) (O := []) (nl := 0) (V := vw w) [.a (.v (S s))] Try.func55 rfl rfl (mem0 E0 0 w) rfl rfl ?_
  refine c_seq ?_
  refine c_region ?_
  refine o_new tok rfl rfl rfl rfl ?_
  refine o_yield rfl rfl rfl (y_val tok rfl) ?_
  refine o_end [0, 2] rfl ?_
  refine x_then ?_
  refine c_seq ?_
  refine c_region ?_
  refine o_yield rfl rfl rfl (y_val tok rfl) ?_
  refine o_step rfl rfl rfl rfl rfl (s_callRow 3 1 gW.length (gW.flatMap encI64) rfl fnok138 (fun E w1 hm => rwidths_c w1)) (fun _ _ => ?_)
  refine o_callV (FVal 1 s gW) rfl rfl fnok137 rfl rfl (fun hg E w1 hm => by exact fval_of hm.leV (refFields_c 1 s (vw w1) _ gW w1 hs (Vw.le.refl _) (hm.rowOf 1 rfl (fun _ => rfl)) (by simp))) ?_
  rintro x V1 hle1 hx
  have hx' := hx rfl
  clear hx
  rcases hx' with ⟨l, r, v, hfr, rfl, hsl⟩ | ⟨hfr, rfl⟩
  rotate_left
  ·
    refine o_yield rfl rfl rfl (y_val tok rfl) ?_
    refine o_yield rfl rfl rfl (y_val tok rfl) ?_
    refine o_yield rfl rfl rfl (y_val tok rfl) ?_
    refine o_yield rfl rfl rfl (y_val tok rfl) ?_
    refine o_yield rfl rfl rfl (y_val tok rfl) ?_
    refine o_yield rfl rfl rfl (y_val tok rfl) ?_
    refine o_yield rfl rfl rfl (y_val tok rfl) ?_
    refine o_end [2, 4, 5, 6] rfl ?_
    refine x_then ?_
    refine c_seq ?_
    refine c_seq ?_
    refine c_region ?_
    refine o_yield rfl rfl rfl (y_val tok rfl) ?_
    refine o_yield rfl rfl rfl (y_val tok rfl) ?_
    refine o_yield rfl rfl rfl (y_val tok rfl) ?_
    refine o_yield rfl rfl rfl (y_val tok rfl) ?_
    refine o_yield rfl rfl rfl (y_val tok rfl) ?_
    refine o_yield rfl rfl rfl (y_val tok rfl) ?_
    refine o_end [2, 4, 20] rfl ?_
    refine x_then ?_
    refine c_cond rfl (fun h => ?_) (fun h => ?_)
    ·
      refine c_seq ?_
      refine c_region ?_
      refine o_yield rfl rfl rfl (y_val tok rfl) ?_
      refine o_store tok rfl rfl rfl (by first | exact ⟨trivial, trivial⟩ | (repeat' first | exact trivial | exact rfl | apply And.intro); done | simp [onesP, oneP, lk, Value.oneCell']) ?_
      refine o_yield rfl rfl rfl (y_val tok rfl) ?_
      refine o_end [2, 3] rfl ?_
      refine x_then ?_
      refine c_ret ?_
      refine x_then_ret ?_
      refine b_ret tok rfl ?_
      intro E w' hm _
      refine ⟨?_, hm.below (hle1)⟩
      have : srOk s = none := by rw [srOk, hfr]
      rw [srV, srE, this]; rfl
    ·
      exact absurd h (by decide)
  ·
    have hl8 : l.length = 8 := by rw [fields_len hfr]; rfl
    have hl64 := fieldsR_64 hfr
    obtain ⟨a, b, c, d, e, f, g, i, rfl⟩ := eight hl8
    have hat : ∀ j (h : j < 8), ∃ n, ([a, b, c, d, e, f, g, i] : List Int)[j]? = some n := fun j h => ⟨([a, b, c, d, e, f, g, i] : List Int)[j]'(by simpa using h), by simp⟩
    refine o_yield rfl rfl rfl (y_val tok rfl) ?_
    refine o_yield rfl rfl rfl (y_val tok rfl) ?_
    refine o_yield rfl rfl rfl (y_val tok rfl) ?_
    refine o_yield rfl rfl rfl (y_val tok rfl) ?_
    refine o_yield rfl rfl rfl (y_val tok rfl) ?_
    refine o_yield rfl rfl rfl (y_val tok rfl) ?_
    refine o_yield rfl rfl rfl (y_val tok rfl) ?_
    refine o_end [2, 4, 5, 6] rfl ?_
    refine x_then ?_
    refine c_seq ?_
    refine c_seq ?_
    refine c_region ?_
    refine o_yield rfl rfl rfl (y_val tok rfl) ?_
    refine o_yield rfl rfl rfl (y_val tok rfl) ?_
    refine o_yield rfl rfl rfl (y_val tok rfl) ?_
    refine o_yield rfl rfl rfl (y_val tok rfl) ?_
    refine o_yield rfl rfl rfl (y_val tok rfl) ?_
    refine o_yield rfl rfl rfl (y_val tok rfl) ?_
    refine o_end [2, 4, 20] rfl ?_
    refine x_then ?_
    refine c_cond rfl (fun h => ?_) (fun h => ?_)
    ·
      refine c_seq ?_
      refine c_region ?_
      refine o_yield rfl rfl rfl (y_val tok rfl) ?_
      refine o_store tok rfl rfl rfl (by first | exact ⟨trivial, trivial⟩ | (repeat' first | exact trivial | exact rfl | apply And.intro); done | simp [onesP, oneP, lk, Value.oneCell']) ?_
      refine o_yield rfl rfl rfl (y_val tok rfl) ?_
      refine o_end [2, 3] rfl ?_
      refine x_then ?_
      refine c_ret ?_
      refine x_then_ret ?_
      refine b_ret tok rfl ?_
      intro E w' hm _
      refine ⟨?_, hm.below (hle1)⟩
      have : srOk s = none := by
        rw [srOk, hfr]
        simp only
        rw [if_neg]
        rintro ⟨h1, h2⟩
        rw [bne, size_empty'] at h
        simp [h1] at h
      rw [srV, srE, this]; rfl
    ·
      have hr0 : r.size = 0 := by
        rw [bne, size_empty'] at h
        simpa using h
      clear h
      have e0 : ([a, b, c, d, e, f, g, i] : List Int)[0]? = some a := rfl
      have e1 : ([a, b, c, d, e, f, g, i] : List Int)[1]? = some b := rfl
      have e2 : ([a, b, c, d, e, f, g, i] : List Int)[2]? = some c := rfl
      have e3 : ([a, b, c, d, e, f, g, i] : List Int)[3]? = some d := rfl
      have e4 : ([a, b, c, d, e, f, g, i] : List Int)[4]? = some e := rfl
      have e5 : ([a, b, c, d, e, f, g, i] : List Int)[5]? = some f := rfl
      have e6 : ([a, b, c, d, e, f, g, i] : List Int)[6]? = some g := rfl
      have e7 : ([a, b, c, d, e, f, g, i] : List Int)[7]? = some i := rfl
      refine c_skip ?_
      refine x_then ?_
      refine c_seq ?_
      refine c_heldR mixed rfl (by repeat (first | exact SubO.nil | refine SubO.cons rfl ?_)) (by first | rfl | simp [okCels, allOk_plain]) ?_
      refine t_take 0 rfl (by kernel_rfl) rfl rfl rfl (y_val tok rfl) rfl ?_
      have hlt_a := lt_of_at e0
      refine t_take 1 rfl (by kernel_rfl) rfl rfl rfl (y_idx tok rfl (fun hg => hsl.sl) (fun hg => ⟨by omega, by omega⟩)) rfl ?_
      refine t_take 2 rfl (by kernel_rfl) rfl rfl rfl (y_lel tok (0) 0 (a) rfl (fun hg => hsl) (fun hg => e0) rfl rfl) rfl ?_
      refine t_take 3 rfl (by kernel_rfl) rfl rfl rfl (y_val tok rfl) rfl ?_
      have hlt_b := lt_of_at e1
      refine t_take 4 rfl (by kernel_rfl) rfl rfl rfl (y_idx tok rfl (fun hg => hsl.sl) (fun hg => ⟨by omega, by omega⟩)) rfl ?_
      refine t_take 5 rfl (by kernel_rfl) rfl rfl rfl (y_lel tok (1) 0 (b) rfl (fun hg => hsl) (fun hg => e1) rfl rfl) rfl ?_
      refine t_take 6 rfl (by kernel_rfl) rfl rfl rfl (y_val tok rfl) rfl ?_
      have hlt_c := lt_of_at e2
      refine t_take 7 rfl (by kernel_rfl) rfl rfl rfl (y_idx tok rfl (fun hg => hsl.sl) (fun hg => ⟨by omega, by omega⟩)) rfl ?_
      refine t_take 8 rfl (by kernel_rfl) rfl rfl rfl (y_lel tok (2) 0 (c) rfl (fun hg => hsl) (fun hg => e2) rfl rfl) rfl ?_
      refine t_take 9 rfl (by kernel_rfl) rfl rfl rfl (y_val tok rfl) rfl ?_
      have hlt_d := lt_of_at e3
      refine t_take 10 rfl (by kernel_rfl) rfl rfl rfl (y_idx tok rfl (fun hg => hsl.sl) (fun hg => ⟨by omega, by omega⟩)) rfl ?_
      refine t_take 11 rfl (by kernel_rfl) rfl rfl rfl (y_lel tok (3) 0 (d) rfl (fun hg => hsl) (fun hg => e3) rfl rfl) rfl ?_
      refine t_take 12 rfl (by kernel_rfl) rfl rfl rfl (y_val tok rfl) rfl ?_
      have hlt_e := lt_of_at e4
      refine t_take 13 rfl (by kernel_rfl) rfl rfl rfl (y_idx tok rfl (fun hg => hsl.sl) (fun hg => ⟨by omega, by omega⟩)) rfl ?_
      refine t_take 14 rfl (by kernel_rfl) rfl rfl rfl (y_lel tok (4) 0 (e) rfl (fun hg => hsl) (fun hg => e4) rfl rfl) rfl ?_
      refine t_take 15 rfl (by kernel_rfl) rfl rfl rfl (y_val tok rfl) rfl ?_
      have hlt_f := lt_of_at e5
      refine t_take 16 rfl (by kernel_rfl) rfl rfl rfl (y_idx tok rfl (fun hg => hsl.sl) (fun hg => ⟨by omega, by omega⟩)) rfl ?_
      refine t_take 17 rfl (by kernel_rfl) rfl rfl rfl (y_lel tok (5) 0 (f) rfl (fun hg => hsl) (fun hg => e5) rfl rfl) rfl ?_
      refine t_take 18 rfl (by kernel_rfl) rfl rfl rfl (y_val tok rfl) rfl ?_
      have hlt_g := lt_of_at e6
      refine t_take 19 rfl (by kernel_rfl) rfl rfl rfl (y_idx tok rfl (fun hg => hsl.sl) (fun hg => ⟨by omega, by omega⟩)) rfl ?_
      refine t_take 20 rfl (by kernel_rfl) rfl rfl rfl (y_lel tok (6) 0 (g) rfl (fun hg => hsl) (fun hg => e6) rfl rfl) rfl ?_
      refine t_take 21 rfl (by kernel_rfl) rfl rfl rfl (y_val tok rfl) rfl ?_
      have hlt_i := lt_of_at e7
      refine t_take 22 rfl (by kernel_rfl) rfl rfl rfl (y_idx tok rfl (fun hg => hsl.sl) (fun hg => ⟨by omega, by omega⟩)) rfl ?_
      refine t_take 23 rfl (by kernel_rfl) rfl rfl rfl (y_lel tok (7) 0 (i) rfl (fun hg => hsl) (fun hg => e7) rfl rfl) rfl ?_
      refine t_take 24 rfl (by kernel_rfl) rfl rfl rfl (y_val tok rfl) rfl ?_
      refine t_go ?_
      refine h_one 25 (by kernel_rfl) ?_
      refine h_new 25 tok rfl rfl rfl rfl rfl rfl ?_
      refine h_one 26 (by kernel_rfl) ?_
      refine h_store 26 tok rfl rfl rfl rfl (by first | exact ⟨trivial, trivial⟩ | (repeat' first | exact trivial | exact rfl | apply And.intro); done | simp [onesP, oneP, lk, Value.oneCell']) (.inr ⟨(by repeat (first | exact SubO.nil | refine SubO.cons rfl ?_)), rfl, (by first | exact Vw.le.refl _ | assumption)⟩) ?_
      refine h_done [2, 7] (by kernel_rfl) rfl ?_
      refine x_then ?_
      refine c_seq ?_
      refine c_seq ?_
      refine c_region ?_
      refine o_yield rfl rfl rfl (y_val tok rfl) ?_
      have okg := geoOf_ok hl8 hl64
      refine o_call (.a (.v _)) rfl rfl fnok14 rfl rfl rfl (fun hg E w1 hm => by exact refMay_c (⟨a, b, c, d, e, f, g, i⟩ : Geo) okg _) ?_
      refine o_yield rfl rfl rfl (y_val tok rfl) ?_
      refine o_end [2, 7, 49] rfl ?_
      refine x_then ?_
      refine c_cond rfl (fun h => ?_) (fun h => ?_)
      ·
        simp only [Bool.and_eq_true, Bool.or_eq_true, Bool.not_eq_true', Bool.or_eq_false_iff, Bool.and_eq_false_iff, decide_eq_true_eq, decide_eq_false_iff_not, beq_iff_eq, bne_iff_ne, Bool.not_eq_false', beq_eq_false_iff_ne, bne_eq_false_iff_eq, ne_eq, Decidable.not_not, Int.not_lt, Int.not_le] at h
        refine c_seq ?_
        refine c_region ?_
        refine o_yield rfl rfl rfl (y_val tok rfl) ?_
        refine o_store tok rfl rfl rfl (by first | exact ⟨trivial, trivial⟩ | (repeat' first | exact trivial | exact rfl | apply And.intro); done | simp [onesP, oneP, lk, Value.oneCell']) ?_
        refine o_yield rfl rfl rfl (y_val tok rfl) ?_
        refine o_end [2, 3] rfl ?_
        refine x_then ?_
        refine c_ret ?_
        refine x_then_ret ?_
        refine b_ret tok rfl ?_
        intro E w' hm _
        refine ⟨?_, hm.below (hle1)⟩
        have : srOk s = none := by
          rw [srOk, hfr]
          simp only
          rw [if_neg]
          rintro ⟨_, h2⟩
          have : geoB (⟨a, b, c, d, e, f, g, i⟩ : Geo) = true := h2
          rw [this] at h
          cases h
        rw [srV, srE, this]; rfl
      ·
        simp only [Bool.and_eq_true, Bool.or_eq_true, Bool.not_eq_true', Bool.or_eq_false_iff, Bool.and_eq_false_iff, decide_eq_true_eq, decide_eq_false_iff_not, beq_iff_eq, bne_iff_ne, Bool.not_eq_false', beq_eq_false_iff_ne, bne_eq_false_iff_eq, ne_eq, Decidable.not_not, Int.not_lt, Int.not_le] at h
        refine c_skip ?_
        refine x_then ?_
        refine c_seq ?_
        refine c_region ?_
        refine o_yield rfl rfl rfl (y_val tok rfl) ?_
        refine o_store tok rfl rfl rfl (by first | exact ⟨trivial, trivial⟩ | (repeat' first | exact trivial | exact rfl | apply And.intro); done | simp [onesP, oneP, lk, Value.oneCell']) ?_
        refine o_yield rfl rfl rfl (y_val tok rfl) ?_
        refine o_end [2, 3] rfl ?_
        refine x_then ?_
        refine c_ret ?_
        refine b_ret tok rfl ?_
        intro E w' hm _
        refine ⟨?_, hm.below (hle1)⟩
        have : srOk s = some ⟨a, b, c, d, e, f, g, i⟩ := by
          rw [srOk, hfr]
          simp only
          rw [if_pos ⟨hr0, h⟩]; rfl
        rw [srV, srE, this]; rfl

theorem rstail_c (s : ByteArray) (hs : s.size ≤ maxLen) (w : World) : Calls Try.prog 54 #[S s] w fun e w' => e = .returned (.tuple #[I (tailV s), I (tailE s)]) ∧ Below w.heap.size w w' := by
  refine enter (E := E0) (O := []) (nl := 0) (V := vw w) [.a (.v (S s))] Try.func54 rfl rfl (mem0 E0 0 w) rfl rfl ?_
  refine c_seq ?_
  refine c_region ?_
  refine o_yield rfl rfl rfl (y_val tok rfl) ?_
  refine o_yield rfl rfl rfl (y_val tok rfl) ?_
  refine o_end [0] rfl ?_
  refine x_then ?_
  refine c_seq ?_
  refine c_region ?_
  refine o_yield rfl rfl rfl (y_val tok rfl) ?_
  refine o_bs tok rfl rfl rfl rfl (fun b1 V1 hle1 hb1 => ?_)
  refine o_callV (FVal 2 s [6]) rfl rfl fnok137 rfl rfl (fun hg E w1 hm => by exact fval_of hm.leV (refFields_c 2 s V1 _ [6] w1 hs hm.leV (SlOf.ofBlock (enc := encI64) (sz := 1) (l := [6]) (hb1 rfl) rfl (fun _ => rfl) (Nat.le_refl _)) (by simp))) ?_
  rintro x V2 hle2 hx
  have hx' := hx rfl
  clear hx
  rcases hx' with ⟨l, r, v, hfr, rfl, hsl⟩ | ⟨hfr, rfl⟩
  ·
    obtain ⟨a, rfl⟩ := one_list (by rw [fields_len hfr]; rfl)
    have e1 : ([a] : List Int)[0]? = some a := rfl
    refine o_yield rfl rfl rfl (y_val tok rfl) ?_
    refine o_yield rfl rfl rfl (y_val tok rfl) ?_
    refine o_yield rfl rfl rfl (y_val tok rfl) ?_
    refine o_yield rfl rfl rfl (y_val tok rfl) ?_
    refine o_yield rfl rfl rfl (y_val tok rfl) ?_
    refine o_yield rfl rfl rfl (y_val tok rfl) ?_
    refine o_yield rfl rfl rfl (y_val tok rfl) ?_
    refine o_end [4, 5, 6] rfl ?_
    refine x_then ?_
    refine c_seq ?_
    refine c_seq ?_
    refine c_region ?_
    refine o_yield rfl rfl rfl (y_val tok rfl) ?_
    refine o_yield rfl rfl rfl (y_val tok rfl) ?_
    refine o_yield rfl rfl rfl (y_val tok rfl) ?_
    refine o_yield rfl rfl rfl (y_val tok rfl) ?_
    refine o_yield rfl rfl rfl (y_val tok rfl) ?_
    refine o_yield rfl rfl rfl (y_val tok rfl) ?_
    refine o_end [4, 19] rfl ?_
    refine x_then ?_
    refine c_cond rfl (fun h => ?_) (fun h => ?_)
    ·
      refine c_seq ?_
      refine c_region ?_
      refine o_yield rfl rfl rfl (y_val tok rfl) ?_
      refine o_yield rfl rfl rfl (y_val tok rfl) ?_
      refine o_end [2, 3] rfl ?_
      refine x_then ?_
      refine c_ret ?_
      refine x_then_ret ?_
      refine b_ret tok rfl ?_
      intro E w' hm _
      refine ⟨?_, hm.below ((hle1.trans hle2))⟩
      have : tailOk s = none := by
        rw [tailOk, hfr]
        simp only
        rw [bne, size_empty'] at h
        rw [if_neg (by simpa using h)]
      rw [tailV, tailE, this]; rfl
    ·
      refine c_skip ?_
      refine x_then ?_
      refine c_seq ?_
      refine c_region ?_
      refine o_yield rfl rfl rfl (y_val tok rfl) ?_
      have hlt_a := lt_of_at e1
      refine o_yield rfl rfl rfl (y_idx tok rfl (fun hg => hsl.sl) (fun hg => ⟨by omega, by omega⟩)) ?_
      refine o_yield rfl rfl rfl (y_lel tok (0) 0 (a) rfl (fun hg => hsl) (fun hg => e1) rfl rfl) ?_
      refine o_yield rfl rfl rfl (y_val tok rfl) ?_
      refine o_yield rfl rfl rfl (y_val tok rfl) ?_
      refine o_end [2, 3] rfl ?_
      refine x_then ?_
      refine c_ret ?_
      refine b_ret tok rfl ?_
      intro E w' hm _
      refine ⟨?_, hm.below ((hle1.trans hle2))⟩
      have : tailOk s = some a := by
        rw [tailOk, hfr]
        simp only
        rw [bne, size_empty'] at h
        rw [if_pos (by simpa using h)]; rfl
      rw [tailV, tailE, this]; rfl
  ·
    refine o_yield rfl rfl rfl (y_val tok rfl) ?_
    refine o_yield rfl rfl rfl (y_val tok rfl) ?_
    refine o_yield rfl rfl rfl (y_val tok rfl) ?_
    refine o_yield rfl rfl rfl (y_val tok rfl) ?_
    refine o_yield rfl rfl rfl (y_val tok rfl) ?_
    refine o_yield rfl rfl rfl (y_val tok rfl) ?_
    refine o_yield rfl rfl rfl (y_val tok rfl) ?_
    refine o_end [4, 5, 6] rfl ?_
    refine x_then ?_
    refine c_seq ?_
    refine c_seq ?_
    refine c_region ?_
    refine o_yield rfl rfl rfl (y_val tok rfl) ?_
    refine o_yield rfl rfl rfl (y_val tok rfl) ?_
    refine o_yield rfl rfl rfl (y_val tok rfl) ?_
    refine o_yield rfl rfl rfl (y_val tok rfl) ?_
    refine o_yield rfl rfl rfl (y_val tok rfl) ?_
    refine o_yield rfl rfl rfl (y_val tok rfl) ?_
    refine o_end [4, 19] rfl ?_
    refine x_then ?_
    refine c_cond rfl (fun h => ?_) (fun h => ?_)
    ·
      refine c_seq ?_
      refine c_region ?_
      refine o_yield rfl rfl rfl (y_val tok rfl) ?_
      refine o_yield rfl rfl rfl (y_val tok rfl) ?_
      refine o_end [2, 3] rfl ?_
      refine x_then ?_
      refine c_ret ?_
      refine x_then_ret ?_
      refine b_ret tok rfl ?_
      intro E w' hm _
      refine ⟨?_, hm.below ((hle1.trans hle2))⟩
      have : tailOk s = none := by rw [tailOk, hfr]
      rw [tailV, tailE, this]; rfl
    ·
      exact absurd h (by decide)

theorem kind2 : kindOf8 2 = 2 := by decide

/-- A header's sector is read as its tail. -/
theorem tail_seal {n : Int} (h : fitsB n 6 = true) : tailOk (strOf (sealL 2 (leB 6 n))) = some n := by
  have h6 : (packL [6] [n]) = leB 6 n := by simp [packL]
  have hl : (leB 6 n).length = 6 := by simp [leB, leTake_len]
  have hp := fldA_pack [6] [n] [] [] rfl (fun i k m hk hn => by
    cases i with
    | zero => cases hk; cases hn; exact h
    | succ i => simp at hk)
  rw [List.append_nil, h6] at hp
  have ho : openB (strOf (sealL 2 (leB 6 n))) = true := openB_seal (by decide) (by decide) (by omega)
  have hof : ofB 2 (strOf (sealL 2 (leB 6 n))) = true := by
    rw [ofB, ho, byteAt_seal, Bool.true_and]; decide
  have hfr : fieldsR 2 (strOf (sealL 2 (leB 6 n))) [6] = some ([] ++ [n], strOf []) := by
    rw [fieldsR, if_pos hof, loadOf_seal, hp]
  rw [tailOk, hfr]
  simp only
  rw [if_pos (by rw [strOf_size]; rfl)]
  rfl

theorem headS_eq {n : Int} (h : fitsB n 6 = true) : headS n = (strOf (sealL 2 (leB 6 n)), 0) := by rw [headS, if_pos h]

theorem tail_head {n : Int} (h : fitsB n 6 = true) : tailOk (headS n).1 = some n := by
  rw [headS_eq h]
  exact tail_seal h

theorem check_nil (w : World) : Calls Try.prog 47 #[.slice none 0 0] w fun e w' => e = .returned (.tuple #[geo0.val, I 50]) ∧ Below w.heap.size w w' := by
  refine enter (E := E0) (O := []) (nl := 0) (V := vw w) [.a (.v (.slice none 0 0))] Try.func47 rfl rfl (mem0 E0 0 w) rfl rfl ?_
  refine c_seq ?_
  refine c_region ?_
  refine o_new tok rfl rfl rfl rfl ?_
  refine o_new tok rfl rfl rfl rfl ?_
  refine o_new tok rfl rfl rfl rfl ?_
  refine o_end [1, 2, 3] rfl ?_
  refine x_then ?_
  refine c_seq ?_
  refine c_seq ?_
  refine c_region ?_
  refine o_yield rfl rfl rfl (y_val tok rfl) ?_
  have hs := slNil (vw w) encS 1 0 (fun _ => rfl)
  refine o_yield rfl rfl rfl (y_len tok rfl (fun hg => hs.sl)) ?_
  refine o_yield rfl rfl rfl (y_val tok rfl) ?_
  refine o_end [1, 2, 3, 12] rfl ?_
  refine x_then ?_
  refine c_cond rfl (fun h => ?_) (fun h => ?_)
  ·
    refine c_seq ?_
    refine c_region ?_
    refine o_yield rfl rfl rfl (y_val tok rfl) ?_
    refine o_store tok rfl rfl rfl (by first | exact ⟨trivial, trivial⟩ | (repeat' first | exact trivial | exact rfl | apply And.intro); done | simp [onesP, oneP, lk, Value.oneCell']) ?_
    refine o_store tok rfl rfl rfl (by first | exact ⟨trivial, trivial⟩ | (repeat' first | exact trivial | exact rfl | apply And.intro); done | simp [onesP, oneP, lk, Value.oneCell']) ?_
    refine o_end [2, 3] rfl ?_
    refine x_then ?_
    refine c_ret ?_
    refine x_then_ret ?_
    refine b_ret tok rfl ?_
    intro E w' hm _
    refine ⟨?_, hm.below (Vw.le.refl _)⟩
    rfl
  ·
    exact absurd h (by decide)

theorem head7 : ∃ sv : ByteArray, tailOk sv = some 7 ∧ sv.size ≤ maxLen ∧ ∀ w, Calls Try.prog 53 #[I 7] w fun e w' => e = .returned (.tuple #[S sv, I 0]) ∧ Below w.heap.size w w' := by
  have h7 : fitsB 7 6 = true := by decide
  have e : headS 7 = (strOf (sealL 2 (leB 6 7)), 0) := by rw [headS, if_pos h7]
  have ht := tail_head h7
  rw [e] at ht
  refine ⟨strOf (sealL 2 (leB 6 7)), ht, ?_, fun w => ?_⟩
  · simp only [strOf_size, sealL_len, maxLen]
    have : (leB 6 7).length = 6 := by simp [leB, leTake_len]
    omega
  · have := shead_c 7 w
    rwa [e] at this

theorem wakes05_c (w : World) : Calls Try.prog 45 #[] w fun e w' => e = .returned (.bool true) ∧ Below w.heap.size w w' := by
  obtain ⟨sv, ht, hsz, hh⟩ := head7
  refine enter (E := E0) (O := []) (nl := 0) (V := vw w) [] Try.func45 rfl rfl (mem0 E0 0 w) rfl rfl ?_
  refine c_seq ?_
  refine c_region ?_
  refine o_yield rfl rfl rfl (y_val tok rfl) ?_
  refine o_end [] rfl ?_
  refine x_then ?_
  refine c_seq ?_
  refine c_region ?_
  refine o_call (.a (.v _)) rfl rfl fnok47 rfl rfl rfl (fun hg E w1 hm => by exact check_nil _) ?_
  refine o_yield rfl rfl rfl (y_val tok rfl) ?_
  refine o_yield rfl rfl rfl (y_val tok rfl) ?_
  refine o_yield rfl rfl rfl (y_val tok rfl) ?_
  refine o_new tok rfl rfl rfl rfl ?_
  refine o_store tok rfl rfl rfl (by first | exact ⟨trivial, trivial⟩ | (repeat' first | exact trivial | exact rfl | apply And.intro); done | simp [onesP, oneP, lk, Value.oneCell']) ?_
  refine o_yield rfl rfl rfl (y_val tok rfl) ?_
  refine o_end [2] rfl ?_
  refine x_then ?_
  refine c_seq ?_
  refine c_region ?_
  refine o_call (.a (.v _)) rfl rfl fnok53 rfl rfl rfl (fun hg E w1 hm => by exact hh _) ?_
  refine o_yield rfl rfl rfl (y_val tok rfl) ?_
  refine o_yield rfl rfl rfl (y_val tok rfl) ?_
  refine o_yield rfl rfl rfl (y_val tok rfl) ?_
  refine o_yield rfl rfl rfl (y_val tok rfl) ?_
  refine o_yield rfl rfl rfl (y_val tok rfl) ?_
  refine o_end [2, 3, 4] rfl ?_
  refine x_then ?_
  refine c_seq ?_
  refine c_region ?_
  refine o_yield rfl rfl rfl (y_val tok rfl) ?_
  refine o_call (.a (.v _)) rfl rfl fnok52 rfl rfl rfl (fun hg E w1 hm => by exact stail_c sv hsz _) ?_
  refine o_yield rfl rfl rfl (y_val tok rfl) ?_
  refine o_yield rfl rfl rfl (y_val tok rfl) ?_
  refine o_yield rfl rfl rfl (y_val tok rfl) ?_
  refine o_yield rfl rfl rfl (y_val tok rfl) ?_
  refine o_yield rfl rfl rfl (y_val tok rfl) ?_
  refine o_end [2, 4, 5, 6] rfl ?_
  refine x_then ?_
  refine c_seq ?_
  refine c_region ?_
  refine o_yield rfl rfl rfl (y_val tok rfl) ?_
  refine o_yield rfl rfl rfl (y_val tok rfl) ?_
  refine o_yield rfl rfl rfl (y_val tok rfl) ?_
  refine o_yield rfl rfl rfl (y_val tok rfl) ?_
  refine o_yield rfl rfl rfl (y_val tok rfl) ?_
  refine o_yield rfl rfl rfl (y_val tok rfl) ?_
  refine o_yield rfl rfl rfl (y_val tok rfl) ?_
  refine o_yield rfl rfl rfl (y_val tok rfl) ?_
  refine o_yield rfl rfl rfl (y_val tok rfl) ?_
  refine o_yield rfl rfl rfl (y_val tok rfl) ?_
  refine o_yield rfl rfl rfl (y_val tok rfl) ?_
  refine o_yield rfl rfl rfl (y_val tok rfl) ?_
  refine o_yield rfl rfl rfl (y_val tok rfl) ?_
  refine o_yield rfl rfl rfl (y_val tok rfl) ?_
  refine o_yield rfl rfl rfl (y_val tok rfl) ?_
  refine o_end [0] rfl ?_
  refine x_then ?_
  refine c_ret ?_
  refine b_ret tok rfl ?_
  intro E w' hm _
  refine ⟨?_, hm.below (Vw.le.refl _)⟩
  rw [tailV, tailE, ht]
  rfl

def Geo.eqB (a b : Geo) : Bool := a.nodes == b.nodes && (a.slots == b.slots && (a.blocks == b.blocks && (a.per == b.per && (a.journal == b.journal && (a.log == b.log && (a.lease == b.lease && a.wait == b.wait))))))

theorem geoEq {op : BinOp} {ox oy : Operand} (a b : Geo) (w : World) (hop : op = .eql ∨ op = .neq) :
    (do eqGuard op 23 ox oy a.val b.val; binOp op 23 a.val b.val : Sem Value).run Try.prog w = .ok (.bool (if op = .eql then a.eqB b else !(a.eqB b))) w := by
  have hS : Try.prog.underlying 23 = some (.struct (Try.prog.fieldsOf 23)) := by kernel_rfl
  have hp : Try.prog.stoodInHeld 23 = false := by kernel_rfl
  have hg : Try.prog.eqGuardType Try.prog.depth 23 = false := by kernel_rfl
  have key : (Op.equalIn 10000 23 a.val b.val).run Try.prog w = .ok (a.eqB b) w := by
    have u3 := Try.underlying3
    have a3 := Try.isAgg3
    have z3 := Try.sizeOf3
    rw [show (10000 : Nat) = 9999 + 1 from rfl, run_equalIn_agg w 9999 23 _ _ hS hp]
    simp only [Program.fieldsOf, Try.underlying23]
    go_simp
    unfold Geo.eqB
    by_cases h1 : a.nodes = b.nodes <;> simp [h1]
    by_cases h2 : a.slots = b.slots <;> simp [h2]
    by_cases h3 : a.blocks = b.blocks <;> simp [h3]
    by_cases h4 : a.per = b.per <;> simp [h4]
    by_cases h5 : a.journal = b.journal <;> simp [h5]
    by_cases h6 : a.log = b.log <;> simp [h6]
    by_cases h7 : a.lease = b.lease <;> simp [h7]
    by_cases h8 : a.wait = b.wait <;> simp [h8]
  rw [Sem.run_bind, run_eqGuard_agg w _ _ _ _ _ _ hg]
  rcases hop with rfl | rfl
  · simp only [Result.andThen_ok, run_eql_struct, key]; rfl
  · simp only [Result.andThen_ok, run_neq_struct, key]; rfl

theorem Geo.eqB_refl (a : Geo) : a.eqB a = true := by simp [Geo.eqB]

end Go.Proofs.Ytflimioplnbopaa

/- A device's first sectors: the document's. -/
set_option linter.unusedVariables false
set_option linter.unusedSimpArgs false
set_option maxRecDepth 100000
namespace Go.Proofs.Ytflimioplnbopaa
open Go Go.Eng Go.RowKit

def fmtTo (g : Geo) (top hd : ByteArray) : Nat → List ByteArray
  | 0 => (List.replicate (totV g).toNat ByteArray.empty).set 0 top
  | i + 1 => (fmtTo g top hd i).set (headV g (i : Int)).toNat hd

theorem fmtTo_len (g : Geo) (top hd : ByteArray) : ∀ i, (fmtTo g top hd i).length = (totV g).toNat
  | 0 => by simp [fmtTo]
  | i + 1 => by rw [fmtTo, List.length_set, fmtTo_len g top hd i]

theorem head_in {g : Geo} (hg : geoB g = true) {i : Nat} (hi : (i : Int) < g.slots) : ∃ q : Nat, headV g (i : Int) = (q : Int) ∧ (q : Int) < totV g := by
  have hf := geo_facts hg
  have hh : headV g (i : Int) = 1 + 2 * g.nodes + g.log + (i : Int) * (1 + g.journal) := by rw [headV, if_pos ⟨hg, by omega, hi⟩]
  have ht : totV g = dataAt g + g.blocks * g.per := by rw [totV, if_pos hg]
  have hd : dataAt g = 1 + 2 * g.nodes + g.log + g.slots * (1 + g.journal) := rfl
  have h1 : 0 ≤ (i : Int) * (1 + g.journal) := Int.mul_nonneg (by omega) (by omega)
  have h2 : ((i : Int) + 1) * (1 + g.journal) ≤ g.slots * (1 + g.journal) := Int.mul_le_mul_of_nonneg_right (by omega) (by omega)
  have h3 : 0 ≤ g.blocks * g.per := Int.mul_nonneg (by omega) (by omega)
  rw [Int.add_mul] at h2
  exact ⟨(headV g (i : Int)).toNat, by omega, by omega⟩

theorem rformat_c (g : Geo) (ok : g.Ok) (hd : ByteArray) (hh : ∀ w : World, Calls Try.prog 19 #[I 0] w fun e w' => e = .returned (.tuple #[S hd, I 0]) ∧ Below w.heap.size w w') (w : World) :
    Calls Try.prog 18 #[g.val] w fun e w' => ((geoB g = true ∧ ∃ v, e = .returned (.tuple #[v, I 0]) ∧ w'.ownsRow w.heap.size 9 1 v (totV g).toNat ((fmtTo g (gbV g) hd g.slots.toNat).flatMap encS)) ∨
      (geoB g = false ∧ e = .returned (.tuple #[.slice none 0 0, I 40]))) ∧ Below w.heap.size w w' := by
  refine enter (E := E0) (O := []) (nl := 0) (V := vw w) [.a (.v g.val)] Try.func18 rfl rfl (mem0 E0 0 w) rfl rfl ?_
  refine c_seq ?_
  refine c_region ?_
  refine o_new tok rfl rfl rfl rfl ?_
  refine o_yield rfl rfl rfl (y_val tok rfl) ?_
  refine o_yield rfl rfl rfl (y_val tok rfl) ?_
  refine o_end [1] rfl ?_
  refine x_then ?_
  refine c_seq ?_
  refine c_region ?_
  refine o_yield rfl rfl rfl (y_val tok rfl) ?_
  refine o_call (.a (.v _)) rfl rfl fnok92 rfl rfl rfl (fun hg E w1 hm => by exact rsbytes_c g ok _) ?_
  refine o_yield rfl rfl rfl (y_val tok rfl) ?_
  refine o_yield rfl rfl rfl (y_val tok rfl) ?_
  refine o_yield rfl rfl rfl (y_val tok rfl) ?_
  refine o_yield rfl rfl rfl (y_val tok rfl) ?_
  refine o_yield rfl rfl rfl (y_val tok rfl) ?_
  refine o_end [1, 4, 5] rfl ?_
  refine x_then ?_
  refine c_seq ?_
  refine c_seq ?_
  refine c_region ?_
  refine o_yield rfl rfl rfl (y_val tok rfl) ?_
  refine o_yield rfl rfl rfl (y_val tok rfl) ?_
  refine o_end [1, 4, 5, 16] rfl ?_
  refine x_then ?_
  refine c_cond rfl (fun h => ?_) (fun h => ?_)
  ·
    simp only [Bool.and_eq_true, Bool.or_eq_true, Bool.not_eq_true', Bool.or_eq_false_iff, Bool.and_eq_false_iff, decide_eq_true_eq, decide_eq_false_iff_not, beq_iff_eq, bne_iff_ne, Bool.not_eq_false', beq_eq_false_iff_ne, bne_eq_false_iff_eq, ne_eq, Decidable.not_not, Int.not_lt, Int.not_le] at h
    refine c_seq ?_
    refine c_region ?_
    refine o_yield rfl rfl rfl (y_val tok rfl) ?_
    refine o_yield rfl rfl rfl (y_val tok rfl) ?_
    refine o_yield rfl rfl rfl (y_val tok rfl) ?_
    refine o_end [2, 3] rfl ?_
    refine x_then ?_
    refine c_ret ?_
    refine x_then_ret ?_
    refine b_ret tok rfl ?_
    intro E w' hm _
    have hg : geoB g = false := by
      cases hq : geoB g with
      | false => rfl
      | true => rw [gbE, if_pos hq] at h; exact absurd rfl h
    refine ⟨.inr ⟨hg, ?_⟩, hm.below (Vw.le.refl _)⟩
    rw [gbE, hg]
    rfl
  ·
    simp only [Bool.and_eq_true, Bool.or_eq_true, Bool.not_eq_true', Bool.or_eq_false_iff, Bool.and_eq_false_iff, decide_eq_true_eq, decide_eq_false_iff_not, beq_iff_eq, bne_iff_ne, Bool.not_eq_false', beq_eq_false_iff_ne, bne_eq_false_iff_eq, ne_eq, Decidable.not_not, Int.not_lt, Int.not_le] at h
    have hg : geoB g = true := by
      cases hq : geoB g with
      | true => rfl
      | false => rw [gbE, hq] at h; simp at h
    clear h
    have hf := geo_facts hg
    have hs := geo_sizes hg
    have htt : totV g = dataAt g + g.blocks * g.per := by rw [totV, if_pos hg]
    obtain ⟨tot, htot⟩ : ∃ t : Nat, totV g = (t : Int) := ⟨(totV g).toNat, by omega⟩
    have htn : (totV g).toNat = tot := by omega
    refine c_skip ?_
    refine x_then ?_
    refine c_seq ?_
    refine c_region ?_
    refine o_call (.a (.v _)) rfl rfl fnok19 rfl rfl rfl (fun hg E w1 hm => by exact hh _) ?_
    refine o_yield rfl rfl rfl (y_val tok rfl) ?_
    refine o_yield rfl rfl rfl (y_val tok rfl) ?_
    refine o_yield rfl rfl rfl (y_val tok rfl) ?_
    refine o_yield rfl rfl rfl (y_val tok rfl) ?_
    refine o_yield rfl rfl rfl (y_val tok rfl) ?_
    refine o_end [1, 4, 6] rfl ?_
    refine x_then ?_
    refine c_seq ?_
    refine c_region ?_
    refine o_yield rfl rfl rfl (y_val tok rfl) ?_
    refine o_call (.a (.v _)) rfl rfl fnok15 rfl rfl rfl (fun hg E w1 hm => by exact refTotal_c g ok _) ?_
    rw [htot]
    have hpos : 0 < tot := by omega
    have htb : tot ≤ 4000 := by omega
    obtain ⟨sl, hsl⟩ : ∃ sl : Nat, g.slots = sl := ⟨g.slots.toNat, by omega⟩
    have hsn : g.slots.toNat = sl := by omega
    refine o_step rfl rfl rfl rfl rfl (s_mk tok tot tot rfl rfl rfl (Nat.le_refl _) (by dsimp only; omega) (by simp only [maxLen]; omega)) (fun _ _ => ?_)
    refine o_yield rfl rfl rfl (y_val tok rfl) ?_
    refine o_end [1, 4, 6, 8] rfl ?_
    refine x_then ?_
    refine c_seq ?_
    refine c_region ?_
    refine o_yield rfl rfl rfl (y_val tok rfl) ?_
    refine o_yield rfl rfl rfl (y_val tok rfl) ?_
    rw [show (repZ tot _ : List Value) = _ from repZ_flat (enc := encS) ByteArray.empty tot]
    refine o_yield rfl rfl rfl (y_own (s := .a (.rel 1 0)) 1 rfl rfl (fun v V' hv => y_idxK tok 0 rfl (by simp) (fun hg => hv) (fun hg => by omega))) ?_
    refine o_stepN rfl rfl rfl rfl (s_rst tok rfl rfl (by intro u hu; simp only [List.mem_singleton] at hu; subst hu; rfl) (by simp only [List.length_singleton]; omega) (by omega)) (fun _ _ => ?_)
    refine o_end [1, 6, 8] rfl ?_
    refine x_then ?_
    refine c_seq ?_
    refine c_seq ?_
    refine c_region ?_
    refine o_yield rfl rfl rfl (y_val tok rfl) ?_
    refine o_end [1, 6, 8, 9] rfl ?_
    refine x_then ?_
    refine c_block ?_
    have hset := overL_set (enc := encS) (sz := 1) (fun _ => rfl) (List.replicate tot ByteArray.empty) 0 (gbV g) (by simpa using hpos)
    have hf0 : (List.replicate tot ByteArray.empty).set 0 (gbV g) = fmtTo g (gbV g) hd 0 := by rw [fmtTo, htn]
    rw [Nat.zero_mul] at hset
    rw [show overL 0 [Value.string _] _ = _ from hset, hf0]
    refine c_loopK [1, 6, 8] [1, 0] rfl rfl (σ := Nat) (fun i => [(9, .a (.v (I i)))]) (fun i => [(1, .row 9 1 tot ((fmtTo g (gbV g) hd i).flatMap encS)), (0, .lit (g.cells.map .v) 23)]) (fun i => i ≤ sl) (fun i => sl - i) (0) (by omega) (by repeat (first | exact SubF.nil | refine SubF.cons rfl ?_)) (by repeat (first | exact SubO.nil | refine SubO.cons rfl ?_)) rfl ?_
    rintro i hi
    refine c_seq ?_
    refine c_seq ?_
    refine c_region ?_
    refine o_yield rfl rfl rfl (y_val tok rfl) ?_
    refine o_yield rfl rfl rfl (y_val tok rfl) ?_
    refine o_yield rfl rfl rfl (y_val tok rfl) ?_
    refine o_yield rfl rfl rfl (y_val tok rfl) ?_
    refine o_end [1, 6, 8, 9, 31] rfl ?_
    refine x_then ?_
    refine c_cond rfl (fun h => ?_) (fun h => ?_)
    ·
      simp only [Bool.and_eq_true, Bool.or_eq_true, Bool.not_eq_true', Bool.or_eq_false_iff, Bool.and_eq_false_iff, decide_eq_true_eq, decide_eq_false_iff_not, beq_iff_eq, bne_iff_ne, Bool.not_eq_false', beq_eq_false_iff_ne, bne_eq_false_iff_eq, ne_eq, Decidable.not_not, Int.not_lt, Int.not_le] at h
      refine c_skip ?_
      refine x_then ?_
      refine c_seq ?_
      refine c_block ?_
      refine c_region ?_
      refine o_yield rfl rfl rfl (y_val tok rfl) ?_
      refine o_yield rfl rfl rfl (y_val tok rfl) ?_
      refine o_yield rfl rfl rfl (y_val tok rfl) ?_
      obtain ⟨q, hq, hqt⟩ := head_in hg (i := i) (by omega)
      have hfl := fmtTo_len g (gbV g) hd i
      refine o_call (.a (.v _)) rfl rfl fnok20 rfl rfl rfl (fun hg E w1 hm => by exact refHead_c g ok i _) ?_
      refine o_yield rfl rfl rfl (y_val tok rfl) ?_
      rw [hq]
      refine o_yield rfl rfl rfl (y_own (s := .a (.rel 1 q)) 1 rfl rfl (fun v V' hv => y_idxK tok q rfl (by simp) (fun hg => hv) (fun hg => by omega))) ?_
      refine o_stepN rfl rfl rfl rfl (s_rst tok rfl rfl (by intro u hu; simp only [List.mem_singleton] at hu; subst hu; rfl) (by simp only [List.length_singleton]; omega) (by omega)) (fun _ _ => ?_)
      refine o_end [1, 6, 8, 9] rfl ?_
      refine x_block ?_
      refine x_then ?_
      refine c_region ?_
      refine o_yield rfl rfl rfl (y_val tok rfl) ?_
      refine o_yield rfl rfl rfl (y_val tok rfl) ?_
      refine o_yield rfl rfl rfl (y_val tok rfl) ?_
      refine o_end [1, 6, 8, 9] rfl ?_
      refine x_then ?_
      have hset := overL_set (enc := encS) (sz := 1) (fun _ => rfl) (fmtTo g (gbV g) hd i) q hd (by rw [hfl]; omega)
      have hfs : (fmtTo g (gbV g) hd i).set q hd = fmtTo g (gbV g) hd (i + 1) := by rw [fmtTo, hq]; simp
      rw [Nat.mul_one, hfs] at hset
      rw [show overL q [Value.string _] _ = _ from hset, wrapI (n := (i : Int) + 1) (by omega) (by omega)]
      refine x_round (i + 1) (by omega) (by first | omega | (dsimp only; omega)) (by repeat (first | exact SubF.nil | refine SubF.cons rfl ?_)) (by repeat (first | exact SubO.nil | refine SubO.cons rfl ?_)) rfl (Vw.le.refl _)
    ·
      simp only [Bool.and_eq_true, Bool.or_eq_true, Bool.not_eq_true', Bool.or_eq_false_iff, Bool.and_eq_false_iff, decide_eq_true_eq, decide_eq_false_iff_not, beq_iff_eq, bne_iff_ne, Bool.not_eq_false', beq_eq_false_iff_ne, bne_eq_false_iff_eq, ne_eq, Decidable.not_not, Int.not_lt, Int.not_le] at h
      refine c_exit ?_
      refine x_then_exit ?_
      refine x_then_exit ?_
      refine x_block_hit ?_
      refine x_then ?_
      refine c_seq ?_
      refine c_region ?_
      refine o_yield rfl rfl rfl (y_val tok rfl) ?_
      refine o_yield rfl rfl rfl (y_val tok rfl) ?_
      refine o_yield rfl rfl rfl (y_val tok rfl) ?_
      refine o_end [2, 3] rfl ?_
      refine x_then ?_
      refine c_ret ?_
      refine b_ret tok rfl ?_
      have his : i = sl := by omega
      subst his
      intro E w' hm _
      refine ⟨.inl ⟨hg, E.κ 1, rfl, ?_⟩, hm.below (Vw.le.refl _)⟩
      rw [Int.toNat_natCast, hsn]
      exact hm.rowFresh (Vw.le.refl _) (l := 1) rfl
end Go.Proofs.Ytflimioplnbopaa

/- What is read of bytes was put there: the plain law. -/
set_option linter.unusedVariables false
set_option linter.unusedSimpArgs false
set_option maxRecDepth 100000
namespace Go.Proofs.Ytflimioplnbopaa
open Go Go.Eng Go.RowKit

theorem pw_add (a b : Nat) : pw (a + b) = pw a * pw b := by rw [pw, pw, pw, Nat.pow_add]

theorem leTo_digit {f : Nat → Nat} (hf : ∀ j, f j < 256) : ∀ (k j : Nat), j < k → leTo f k / pw j % 256 = f j
  | k + 1, j, h => by
    have hlt := leTo_lt hf k
    have hfk := hf k
    rw [leTo]
    by_cases hjk : j = k
    · subst hjk
      rw [Nat.add_mul_div_right _ _ (pw_pos j), Nat.div_eq_of_lt hlt, Nat.zero_add, Nat.mod_eq_of_lt hfk]
    · have ih := leTo_digit hf k j (by omega)
      obtain ⟨d, rfl⟩ : ∃ d, k = (j + 1) + d := ⟨k - (j + 1), by omega⟩
      have e : f (j + 1 + d) * pw (j + 1 + d) = (f (j + 1 + d) * pw d * 256) * pw j := by
        rw [pw_add, pw_succ]
        simp only [Nat.mul_assoc, Nat.mul_comm, Nat.mul_left_comm]
      rw [e, Nat.add_mul_div_right _ _ (pw_pos j), Nat.add_mul_mod_self_right, ih]

theorem getSpec_val {s : ByteArray} {k : Nat} (h : (getSpec s 0 k).2 = 0) : (getSpec s 0 k).1 = ((leTo (digit s 0) k : Nat) : Int) := by
  unfold getSpec at h ⊢
  split at h
  · simp at h
  · rename_i h1
    rw [if_neg h1]
    split at h
    · simp at h
    · rename_i h2
      rw [if_neg h2]
      split at h
      · simp at h
      · rename_i h3
        rw [if_neg h3]
        rfl

theorem getSpec_inv {s : ByteArray} {k : Nat} (h : (getSpec s 0 k).2 = 0) : s = strOf (leB k (getSpec s 0 k).1 ++ (restOf s k).data.toList) := by
  obtain ⟨hw, _, hle⟩ := getSpec_ok h
  have hsz := size_list s
  have hke : k ≤ s.data.toList.length := by omega
  apply str_ext
  rw [strOf_list, restOf_list, getSpec_val h]
  conv => lhs; rw [← List.take_append_drop k s.data.toList]
  congr 1
  apply List.ext_getElem
  · rw [List.length_take, leB, leTake_len, Int.toNat_natCast]; omega
  · intro i h1 h2
    have hik : i < k := by rw [List.length_take] at h1; omega
    rw [List.getElem_take]
    simp only [leB, leTake, Int.toNat_natCast, List.getElem_map, List.getElem_range]
    rw [leTo_digit (digit_lt s 0) k i hik, digit, byteAt_list, Nat.zero_add, UInt8.ofNat_toNat]
    rw [List.getD_eq_getElem?_getD, List.getElem?_eq_getElem (by omega)]
    rfl

end Go.Proofs.Ytflimioplnbopaa

/- Superblocks and headers read back, what is at first checked: plain laws. -/
set_option linter.unusedVariables false
set_option linter.unusedSimpArgs false
set_option maxRecDepth 100000
namespace Go.Proofs.Ytflimioplnbopaa
open Go Go.Eng Go.RowKit

theorem fld_inv : ∀ (ks acc : List Int) (rest : ByteArray) {l : List Int} {r : ByteArray}, fldA acc rest ks = some (l, r) → ∃ l', l = acc ++ l' ∧ l'.length = ks.length ∧ rest.data.toList = packL ks l' ++ r.data.toList
  | [], acc, rest, l, r, h => by
    simp only [fldA, Option.some.injEq, Prod.mk.injEq] at h
    exact ⟨[], by simp [h.1], rfl, by simp [packL, h.2]⟩
  | k :: ks, acc, rest, l, r, h => by
    rw [fldA] at h
    split at h
    · cases h
    · rename_i hg
      have hg0 : (getSpec rest 0 k).2 = 0 := Decidable.not_not.1 hg
      obtain ⟨hw, _, _⟩ := getSpec_ok hg0
      obtain ⟨m, rfl⟩ : ∃ m : Nat, k = m := ⟨k.toNat, by have := width_cases hw; omega⟩
      obtain ⟨l', h1, h2, h3⟩ := fld_inv ks _ _ h
      refine ⟨(getSpec rest 0 m).1 :: l', by rw [h1]; simp, by simp [h2], ?_⟩
      have := congrArg (fun x : ByteArray => x.data.toList) (getSpec_inv hg0)
      simp only [strOf_list] at this
      rw [Int.toNat_natCast] at h3
      rw [this, h3, packL, List.append_assoc]

theorem flds_inv {kind : Int} {s : ByteArray} {ks l : List Int} {r : ByteArray} (h : fieldsR kind s ks = some (l, r)) (hr : r.size = 0) : s = strOf (sealL (byteAt s 0) (packL ks l)) ∧ ((byteAt s 0).toNat : Int) = kind := by
  unfold fieldsR at h
  split at h
  · rename_i ho
    simp only [ofB, Bool.and_eq_true, decide_eq_true_eq] at ho
    obtain ⟨ho, hk⟩ := ho
    refine ⟨?_, hk⟩
    obtain ⟨l', h1, h2, h3⟩ := fld_inv _ _ _ h
    simp only [List.nil_append] at h1
    subst h1
    have hr0 : r.data.toList = [] := List.length_eq_zero_iff.1 (by rw [size_list]; exact hr)
    rw [hr0, List.append_nil] at h3
    simp only [openB, Bool.and_eq_true, decide_eq_true_eq] at ho
    apply str_ext
    rw [strOf_list, ← h3]
    exact ho.2.symm
  · cases h

theorem tail_inv {s : ByteArray} {n : Int} (h : tailOk s = some n) : headS n = (s, 0) ∧ 0 ≤ n ∧ n ≤ 1099511627776 := by
  unfold tailOk at h
  split at h
  · rename_i l r hfr
    split at h
    · rename_i hq
      obtain ⟨a, rfl⟩ := one_list (l := l) (by rw [fields_len hfr]; rfl)
      have han : a = n := by simpa using h
      subst han
      obtain ⟨h1, h2⟩ := flds_inv hfr hq
      have hb : byteAt s 0 = 2 := UInt8.toNat_inj.1 (by have : (2 : UInt8).toNat = 2 := rfl; omega)
      rw [hb] at h1
      have hbnd : 0 ≤ a ∧ a ≤ 1099511627776 := by
        unfold fieldsR at hfr
        split at hfr
        · simp only [fldA] at hfr
          split at hfr
          · cases hfr
          · simp only [List.nil_append, Option.some.injEq, Prod.mk.injEq, List.cons.injEq, and_true] at hfr
            rw [← hfr.1]
            exact getSpec_64 _ _ _
        · cases hfr
      have hfit : fitsB a 6 = true := by
        have : mostN (6 : Int).toNat = 1099511627776 := by decide
        rw [fitsB, this]
        simp [widthB]; omega
      have h6 : (packL [6] [a]) = leB 6 a := by simp [packL]
      rw [h6] at h1
      exact ⟨by rw [headS_eq hfit, ← h1], hbnd⟩
    · cases h
  · cases h

theorem fits6 (n : Int) : fitsB n 6 = (decide (0 ≤ n) && decide (n ≤ 1099511627776)) := by
  have : mostN (6 : Int).toNat = 1099511627776 := by decide
  rw [fitsB, this]
  simp [widthB]

theorem headS_tail (n : Int) : ((headS n).2 = 0 ↔ 0 ≤ n ∧ n ≤ 1099511627776) ∧ ((headS n).2 = 0 → tailOk (headS n).1 = some n) := by
  by_cases h : fitsB n 6 = true
  · have h2 := h
    rw [fits6] at h2
    simp only [Bool.and_eq_true, decide_eq_true_eq] at h2
    exact ⟨⟨fun _ => h2, fun _ => by rw [headS_eq h]⟩, fun _ => tail_head h⟩
  · have h2 := h
    rw [fits6] at h2
    simp only [Bool.and_eq_true, decide_eq_true_eq] at h2
    have h3 : (headS n).2 = 2 := by rw [headS, if_neg h]
    exact ⟨⟨fun h4 => by omega, fun h4 => absurd h4 h2⟩, fun h4 => by omega⟩

theorem sup_back {g : Geo} (h : geoB g = true) : srOk (gbV g) = some g := by
  have hp := fldA_pack gW (gNums g) [] [] rfl (gnums_fit h)
  have hl := gpack_take g 8
  rw [List.take_of_length_le (by simp [gW]), List.take_of_length_le (by simp [gNums])] at hl
  rw [List.append_nil] at hp
  have hv : gbV g = strOf (sealL 1 (packL gW (gNums g))) := by rw [gbV, if_pos h]
  have ho : openB (gbV g) = true := by rw [hv]; exact openB_seal (by decide) (by decide) hl
  have hof : ofB 1 (gbV g) = true := by
    rw [ofB, ho, hv, byteAt_seal, Bool.true_and]; decide
  have hfr : fieldsR 1 (gbV g) gW = some ([] ++ gNums g, strOf []) := by
    rw [fieldsR, if_pos hof, hv, loadOf_seal, hp]
  rw [srOk, hfr]
  simp only [List.nil_append]
  have hgo : geoOf (gNums g) = g := rfl
  rw [hgo, if_pos ⟨by rw [strOf_size]; rfl, h⟩]

theorem gbV_size (g : Geo) : (gbV g).size ≤ 256 := by
  unfold gbV
  split
  · have h20 : (packL gW (gNums g)).length = 20 := by simp [packL, gW, gNums, leB, leTake_len]
    rw [strOf_size, sealL_len, h20]; omega
  · simp

theorem head_pos {g : Geo} (hg : geoB g = true) {k : Nat} (hk : (k : Int) < g.slots) : 1 ≤ headV g (k : Int) ∧ headV g (k : Int) < dataAt g := by
  have hf := geo_facts hg
  have hh : headV g (k : Int) = 1 + 2 * g.nodes + g.log + (k : Int) * (1 + g.journal) := by rw [headV, if_pos ⟨hg, by omega, hk⟩]
  have hd : dataAt g = 1 + 2 * g.nodes + g.log + g.slots * (1 + g.journal) := rfl
  have h1 : 0 ≤ (k : Int) * (1 + g.journal) := Int.mul_nonneg (by omega) (by omega)
  have h2 : ((k : Int) + 1) * (1 + g.journal) ≤ g.slots * (1 + g.journal) := Int.mul_le_mul_of_nonneg_right (by omega) (by omega)
  rw [Int.add_mul] at h2
  omega

theorem head_inj {g : Geo} (hg : geoB g = true) {i k : Nat} (hi : (i : Int) < g.slots) (hk : (k : Int) < g.slots) (h : headV g (i : Int) = headV g (k : Int)) : i = k := by
  have hf := geo_facts hg
  rw [headV, if_pos ⟨hg, by omega, hi⟩, headV, if_pos ⟨hg, by omega, hk⟩] at h
  have h2 : (i : Int) * (1 + g.journal) = (k : Int) * (1 + g.journal) := by omega
  have := Int.eq_of_mul_eq_mul_right (by omega) h2
  omega

theorem fmt_top {g : Geo} (hg : geoB g = true) (top hd : ByteArray) : ∀ i : Nat, (i : Int) ≤ g.slots → (fmtTo g top hd i)[0]? = some top
  | 0, _ => by
    have ht := geo_sizes hg
    have htt : totV g = dataAt g + g.blocks * g.per := by rw [totV, if_pos hg]
    have hp : 0 < (totV g).toNat := by omega
    simp [fmtTo, hp]
  | i + 1, h => by
    have hp := (head_pos hg (k := i) (by omega)).1
    rw [fmtTo, List.getElem?_set_ne (by omega)]
    exact fmt_top hg top hd i (by omega)

theorem fmt_head {g : Geo} (hg : geoB g = true) (top hd : ByteArray) : ∀ i : Nat, (i : Int) ≤ g.slots → ∀ k : Nat, k < i → (fmtTo g top hd i)[(headV g (k : Int)).toNat]? = some hd
  | 0, _, k, h => by omega
  | i + 1, h, k, hk => by
    have hlt := head_in hg (i := k) (by omega)
    obtain ⟨q, hq, hqt⟩ := hlt
    rw [fmtTo]
    by_cases hki : k = i
    · subst hki
      rw [List.getElem?_set_self (by rw [fmtTo_len]; omega)]
    · rw [List.getElem?_set_ne (fun e => hki (by
        have h1 := (head_pos hg (k := i) (by omega)).1
        have h2 := (head_pos hg (k := k) (by omega)).1
        exact (head_inj hg (i := i) (k := k) (by omega) (by omega) (by omega)).symm))]
      exact fmt_head hg top hd i (by omega) k (by omega)

theorem fmt_other {g : Geo} (hg : geoB g = true) (top hd : ByteArray) : ∀ i : Nat, (i : Int) ≤ g.slots → ∀ j : Nat, (j : Int) < totV g → j ≠ 0 → (∀ k : Nat, k < i → headV g (k : Int) ≠ j) → (fmtTo g top hd i)[j]? = some ByteArray.empty
  | 0, _, j, hj, h0, _ => by
    rw [fmtTo, List.getElem?_set_ne (by omega), List.getElem?_replicate, if_pos (by omega)]
  | i + 1, h, j, hj, h0, hk => by
    have hp := (head_pos hg (k := i) (by omega)).1
    have := hk i (by omega)
    rw [fmtTo, List.getElem?_set_ne (by omega)]
    exact fmt_other hg top hd i (by omega) j hj h0 (fun k hki => hk k (by omega))

theorem fmt_small {g : Geo} {top hd : ByteArray} (h1 : top.size ≤ 256) (h2 : hd.size ≤ 256) : ∀ i : Nat, ∀ x ∈ fmtTo g top hd i, x.size ≤ 256
  | 0, x, hx => by
    rw [fmtTo] at hx
    rcases List.mem_or_eq_of_mem_set hx with hx | rfl
    · rw [List.eq_of_mem_replicate hx]; simp
    · exact h1
  | i + 1, x, hx => by
    rw [fmtTo] at hx
    rcases List.mem_or_eq_of_mem_set hx with hx | rfl
    · exact fmt_small h1 h2 i x hx
    · exact h2

end Go.Proofs.Ytflimioplnbopaa

/- What stands at a sector: the document's. -/
set_option linter.unusedVariables false
set_option linter.unusedSimpArgs false
set_option maxRecDepth 100000
namespace Go.Proofs.Ytflimioplnbopaa
open Go Go.Eng Go.RowKit

theorem rlease_c (g : Geo) (ok : g.Ok) (hg : geoB g = true) (i : Nat) (hi : (i : Int) < g.nodes) (w : World) : Calls Try.prog 101 #[g.val, I i] w fun e w' => e = .returned (I (1 + i)) ∧ Below w.heap.size w w' := by
  have hf := geo_facts hg
  refine enter (E := E0) (O := []) (nl := 0) (V := vw w) [.a (.v g.val), .a (.v (I i))] Try.func101 rfl rfl (mem0 E0 0 w) rfl rfl ?_
  refine c_seq ?_
  refine c_region ?_
  refine o_new tok rfl rfl rfl rfl ?_
  refine o_yield rfl rfl rfl (y_val tok rfl) ?_
  refine o_end [1, 2] rfl ?_
  refine x_then ?_
  refine c_seq ?_
  refine c_seq ?_
  refine c_region ?_
  refine o_yield rfl rfl rfl (y_val tok rfl) ?_
  refine o_call (.a (.v _)) rfl rfl fnok14 rfl rfl rfl (fun hg E w1 hm => by exact refMay_c g ok _) ?_
  refine o_yield rfl rfl rfl (y_val tok rfl) ?_
  refine o_yield rfl rfl rfl (y_val tok rfl) ?_
  refine o_yield rfl rfl rfl (y_val tok rfl) ?_
  refine o_yield rfl rfl rfl (y_val tok rfl) ?_
  refine o_yield rfl rfl rfl (y_val tok rfl) ?_
  refine o_yield rfl rfl rfl (y_val tok rfl) ?_
  refine o_call (.a (.v _)) rfl rfl fnok89 rfl rfl rfl (fun hg E w1 hm => by exact in_c _ _ _ _) ?_
  refine o_yield rfl rfl rfl (y_val tok rfl) ?_
  refine o_yield rfl rfl rfl (y_val tok rfl) ?_
  refine o_end [1, 15] rfl ?_
  refine x_then ?_
  refine c_cond rfl (fun h => ?_) (fun h => ?_)
  ·
    refine c_seq ?_
    refine c_region ?_
    refine o_yield rfl rfl rfl (y_val tok rfl) ?_
    refine o_end [4] rfl ?_
    refine x_then ?_
    refine c_ret ?_
    refine x_then_ret ?_
    refine b_ret tok rfl ?_
    rw [inB_iff] at h
    simp only [Bool.or_eq_true, Bool.not_eq_true', decide_eq_false_iff_not] at h
    rw [wrapI (by omega) (by omega), hg] at h
    rcases h with h | h
    · cases h
    · omega
  ·
    refine c_skip ?_
    refine x_then ?_
    refine c_seq ?_
    refine c_region ?_
    refine o_yield rfl rfl rfl (y_val tok rfl) ?_
    refine o_yield rfl rfl rfl (y_val tok rfl) ?_
    refine o_yield rfl rfl rfl (y_val tok rfl) ?_
    refine o_end [4] rfl ?_
    refine x_then ?_
    refine c_ret ?_
    refine b_ret tok rfl ?_
    intro E w' hm _
    refine ⟨?_, hm.below (Vw.le.refl _)⟩
    rw [wrapI (by omega) (by omega)]; rfl

theorem rpaxos_c (g : Geo) (ok : g.Ok) (hg : geoB g = true) (i : Nat) (hi : (i : Int) < g.nodes) (w : World) : Calls Try.prog 102 #[g.val, I i] w fun e w' => e = .returned (I (1 + g.nodes + i)) ∧ Below w.heap.size w w' := by
  have hf := geo_facts hg
  refine enter (E := E0) (O := []) (nl := 0) (V := vw w) [.a (.v g.val), .a (.v (I i))] Try.func102 rfl rfl (mem0 E0 0 w) rfl rfl ?_
  refine c_seq ?_
  refine c_region ?_
  refine o_new tok rfl rfl rfl rfl ?_
  refine o_yield rfl rfl rfl (y_val tok rfl) ?_
  refine o_end [1, 2] rfl ?_
  refine x_then ?_
  refine c_seq ?_
  refine c_seq ?_
  refine c_region ?_
  refine o_yield rfl rfl rfl (y_val tok rfl) ?_
  refine o_call (.a (.v _)) rfl rfl fnok14 rfl rfl rfl (fun hg E w1 hm => by exact refMay_c g ok _) ?_
  refine o_yield rfl rfl rfl (y_val tok rfl) ?_
  refine o_yield rfl rfl rfl (y_val tok rfl) ?_
  refine o_yield rfl rfl rfl (y_val tok rfl) ?_
  refine o_yield rfl rfl rfl (y_val tok rfl) ?_
  refine o_yield rfl rfl rfl (y_val tok rfl) ?_
  refine o_yield rfl rfl rfl (y_val tok rfl) ?_
  refine o_call (.a (.v _)) rfl rfl fnok89 rfl rfl rfl (fun hg E w1 hm => by exact in_c _ _ _ _) ?_
  refine o_yield rfl rfl rfl (y_val tok rfl) ?_
  refine o_yield rfl rfl rfl (y_val tok rfl) ?_
  refine o_end [1, 2, 15] rfl ?_
  refine x_then ?_
  refine c_cond rfl (fun h => ?_) (fun h => ?_)
  ·
    refine c_seq ?_
    refine c_region ?_
    refine o_yield rfl rfl rfl (y_val tok rfl) ?_
    refine o_end [4] rfl ?_
    refine x_then ?_
    refine c_ret ?_
    refine x_then_ret ?_
    refine b_ret tok rfl ?_
    rw [inB_iff] at h
    simp only [Bool.or_eq_true, Bool.not_eq_true', decide_eq_false_iff_not] at h
    rw [wrapI (by omega) (by omega), hg] at h
    rcases h with h | h
    · cases h
    · omega
  ·
    refine c_skip ?_
    refine x_then ?_
    refine c_seq ?_
    refine c_region ?_
    refine o_yield rfl rfl rfl (y_val tok rfl) ?_
    refine o_yield rfl rfl rfl (y_val tok rfl) ?_
    refine o_yield rfl rfl rfl (y_val tok rfl) ?_
    refine o_yield rfl rfl rfl (y_val tok rfl) ?_
    refine o_yield rfl rfl rfl (y_val tok rfl) ?_
    refine o_yield rfl rfl rfl (y_val tok rfl) ?_
    refine o_end [4] rfl ?_
    refine x_then ?_
    refine c_ret ?_
    refine b_ret tok rfl ?_
    intro E w' hm _
    refine ⟨?_, hm.below (Vw.le.refl _)⟩
    rw [wrapI (n := 1 + g.nodes) (by omega) (by omega), wrapI (by omega) (by omega)]; rfl

theorem rlog_c (g : Geo) (ok : g.Ok) (hg : geoB g = true) (i : Nat) (hi : (i : Int) < g.log) (w : World) : Calls Try.prog 103 #[g.val, I i] w fun e w' => e = .returned (I (1 + 2 * g.nodes + i)) ∧ Below w.heap.size w w' := by
  have hf := geo_facts hg
  refine enter (E := E0) (O := []) (nl := 0) (V := vw w) [.a (.v g.val), .a (.v (I i))] Try.func103 rfl rfl (mem0 E0 0 w) rfl rfl ?_
  refine c_seq ?_
  refine c_region ?_
  refine o_new tok rfl rfl rfl rfl ?_
  refine o_yield rfl rfl rfl (y_val tok rfl) ?_
  refine o_end [1, 2] rfl ?_
  refine x_then ?_
  refine c_seq ?_
  refine c_seq ?_
  refine c_region ?_
  refine o_yield rfl rfl rfl (y_val tok rfl) ?_
  refine o_call (.a (.v _)) rfl rfl fnok14 rfl rfl rfl (fun hg E w1 hm => by exact refMay_c g ok _) ?_
  refine o_yield rfl rfl rfl (y_val tok rfl) ?_
  refine o_yield rfl rfl rfl (y_val tok rfl) ?_
  refine o_yield rfl rfl rfl (y_val tok rfl) ?_
  refine o_yield rfl rfl rfl (y_val tok rfl) ?_
  refine o_yield rfl rfl rfl (y_val tok rfl) ?_
  refine o_yield rfl rfl rfl (y_val tok rfl) ?_
  refine o_call (.a (.v _)) rfl rfl fnok89 rfl rfl rfl (fun hg E w1 hm => by exact in_c _ _ _ _) ?_
  refine o_yield rfl rfl rfl (y_val tok rfl) ?_
  refine o_yield rfl rfl rfl (y_val tok rfl) ?_
  refine o_end [1, 2, 15] rfl ?_
  refine x_then ?_
  refine c_cond rfl (fun h => ?_) (fun h => ?_)
  ·
    refine c_seq ?_
    refine c_region ?_
    refine o_yield rfl rfl rfl (y_val tok rfl) ?_
    refine o_end [4] rfl ?_
    refine x_then ?_
    refine c_ret ?_
    refine x_then_ret ?_
    refine b_ret tok rfl ?_
    rw [inB_iff] at h
    simp only [Bool.or_eq_true, Bool.not_eq_true', decide_eq_false_iff_not] at h
    rw [wrapI (by omega) (by omega), hg] at h
    rcases h with h | h
    · cases h
    · omega
  ·
    refine c_skip ?_
    refine x_then ?_
    refine c_seq ?_
    refine c_region ?_
    refine o_yield rfl rfl rfl (y_val tok rfl) ?_
    refine o_yield rfl rfl rfl (y_val tok rfl) ?_
    refine o_yield rfl rfl rfl (y_val tok rfl) ?_
    refine o_yield rfl rfl rfl (y_val tok rfl) ?_
    refine o_yield rfl rfl rfl (y_val tok rfl) ?_
    refine o_yield rfl rfl rfl (y_val tok rfl) ?_
    refine o_yield rfl rfl rfl (y_val tok rfl) ?_
    refine o_end [4] rfl ?_
    refine x_then ?_
    refine c_ret ?_
    refine b_ret tok rfl ?_
    intro E w' hm _
    refine ⟨?_, hm.below (Vw.le.refl _)⟩
    rw [wrapI (n := 2 * g.nodes) (by omega) (by omega), wrapI (n := 1 + 2 * g.nodes) (by omega) (by omega), wrapI (by omega) (by omega)]; rfl

/-- Whether a sector is a header's, or a journal's. -/
def HeadAt (g : Geo) (q : Nat) (i : Nat) : Prop := (i : Int) < g.slots ∧ headV g (i : Int) = q
def JourAt (g : Geo) (q : Nat) (i j : Nat) : Prop := (i : Int) < g.slots ∧ (j : Int) < g.journal ∧ jourV g (i : Int) (j : Int) = q

theorem head_eq {g : Geo} (hg : geoB g = true) {i : Nat} (hi : (i : Int) < g.slots) : headV g (i : Int) = 1 + 2 * g.nodes + g.log + (i : Int) * (1 + g.journal) := by rw [headV, if_pos ⟨hg, by omega, hi⟩]

theorem jour_eq {g : Geo} (hg : geoB g = true) {i : Nat} (hi : (i : Int) < g.slots) {j : Int} (hj : 0 ≤ j) : jourV g (i : Int) j = 1 + 2 * g.nodes + g.log + (i : Int) * (1 + g.journal) + 1 + j % g.journal := by
  have h := (head_pos hg hi).1
  rw [jourV, if_neg (by omega), head_eq hg hi]

theorem slot_step {a i k : Int} (ha : 0 ≤ a) (h : i < k) : i * a + a ≤ k * a := by
  have := Int.mul_le_mul_of_nonneg_right (a := i + 1) (b := k) (c := a) (by omega) ha
  rw [Int.add_mul] at this
  omega

theorem jour_slot {g : Geo} (hg : geoB g = true) {i k : Nat} (hi : (i : Int) < g.slots) (hk : (k : Int) < g.slots) {j l : Int} (hj : 0 ≤ j) (hl : 0 ≤ l) (h : jourV g (i : Int) j = jourV g (k : Int) l) : i = k := by
  have hf := geo_facts hg
  rw [jour_eq hg hi hj, jour_eq hg hk hl] at h
  have h1 := Int.emod_nonneg j (b := g.journal) (by omega)
  have h2 := Int.emod_lt_of_pos j (b := g.journal) (by omega)
  have h3 := Int.emod_nonneg l (b := g.journal) (by omega)
  have h4 := Int.emod_lt_of_pos l (b := g.journal) (by omega)
  rcases Int.lt_trichotomy (i : Int) k with h5 | h5 | h5
  · have := slot_step (a := 1 + g.journal) (by omega) h5; omega
  · omega
  · have := slot_step (a := 1 + g.journal) (by omega) h5; omega

theorem head_jour {g : Geo} (hg : geoB g = true) {i k : Nat} (hi : (i : Int) < g.slots) (hk : (k : Int) < g.slots) {l : Int} (hl : 0 ≤ l) : headV g (i : Int) ≠ jourV g (k : Int) l := by
  intro h
  have hf := geo_facts hg
  rw [head_eq hg hi, jour_eq hg hk hl] at h
  have h3 := Int.emod_nonneg l (b := g.journal) (by omega)
  have h4 := Int.emod_lt_of_pos l (b := g.journal) (by omega)
  rcases Int.lt_trichotomy (i : Int) k with h5 | h5 | h5
  · have := slot_step (a := 1 + g.journal) (by omega) h5; omega
  · rw [h5] at h; omega
  · have := slot_step (a := 1 + g.journal) (by omega) h5; omega

structure WhatP (g : Geo) (q : Nat) (k a b : Int) : Prop where
  one : k = 1 ↔ q = 0
  head : k = 5 ↔ ∃ i, HeadAt g q i
  jour : k = 6 → ∃ i j : Nat, a = i ∧ b = j ∧ JourAt g q i j
  nojour : k ≠ 6 → ∀ i j, ¬ JourAt g q i j

theorem what_low {g : Geo} (hg : geoB g = true) {q : Nat} (h : (q : Int) ≤ 2 * g.nodes + g.log) : (∀ i, ¬ HeadAt g q i) ∧ ∀ i j, ¬ JourAt g q i j := by
  have hf := geo_facts hg
  refine ⟨fun i ⟨hi, he⟩ => ?_, fun i j ⟨hi, hj, he⟩ => ?_⟩
  · rw [head_eq hg hi] at he
    have := Int.mul_nonneg (a := (i : Int)) (b := 1 + g.journal) (by omega) (by omega)
    omega
  · rw [jour_eq hg hi (by omega)] at he
    have := Int.mul_nonneg (a := (i : Int)) (b := 1 + g.journal) (by omega) (by omega)
    have := Int.emod_nonneg (j : Int) (b := g.journal) (by omega)
    omega

theorem what_c (g : Geo) (ok : g.Ok) (hG : geoB g = true) (q : Nat) (hq : (q : Int) < totV g) (w : World) :
    Calls Try.prog 25 #[g.val, I q] w fun e w' => ∃ k a b, (e = .returned (.tuple #[I8 k, I a, I b]) ∧ WhatP g q k a b) ∧ Below w.heap.size w w' := by
  have hf := geo_facts hG
  have hz := geo_sizes hG
  refine enter (E := E0) (O := []) (nl := 0) (V := vw w) [.a (.v g.val), .a (.v (I q))] Try.func25 rfl rfl (mem0 E0 0 w) rfl rfl ?_
  refine c_seq ?_
  refine c_region ?_
  refine o_new tok rfl rfl rfl rfl ?_
  refine o_yield rfl rfl rfl (y_val tok rfl) ?_
  refine o_yield rfl rfl rfl (y_val tok rfl) ?_
  refine o_yield rfl rfl rfl (y_val tok rfl) ?_
  refine o_end [1, 2] rfl ?_
  refine x_then ?_
  refine c_seq ?_
  refine c_seq ?_
  refine c_region ?_
  refine o_yield rfl rfl rfl (y_val tok rfl) ?_
  refine o_call (.a (.v _)) rfl rfl fnok14 rfl rfl rfl (fun hg E w1 hm => by exact refMay_c g ok _) ?_
  refine o_yield rfl rfl rfl (y_val tok rfl) ?_
  refine o_yield rfl rfl rfl (y_val tok rfl) ?_
  refine o_yield rfl rfl rfl (y_val tok rfl) ?_
  refine o_yield rfl rfl rfl (y_val tok rfl) ?_
  refine o_yield rfl rfl rfl (y_val tok rfl) ?_
  refine o_yield rfl rfl rfl (y_val tok rfl) ?_
  refine o_yield rfl rfl rfl (y_val tok rfl) ?_
  refine o_yield rfl rfl rfl (y_val tok rfl) ?_
  refine o_call (.a (.v _)) rfl rfl fnok15 rfl rfl rfl (fun hg E w1 hm => by exact refTotal_c g ok _) ?_
  refine o_yield rfl rfl rfl (y_val tok rfl) ?_
  refine o_yield rfl rfl rfl (y_val tok rfl) ?_
  refine o_end [1, 2, 24] rfl ?_
  refine x_then ?_
  refine c_cond rfl (fun h => ?_) (fun h => ?_)
  ·
    refine c_seq ?_
    refine c_region ?_
    refine o_yield rfl rfl rfl (y_val tok rfl) ?_
    refine o_yield rfl rfl rfl (y_val tok rfl) ?_
    refine o_yield rfl rfl rfl (y_val tok rfl) ?_
    refine o_end [4, 5, 6] rfl ?_
    refine x_then ?_
    refine c_ret ?_
    refine x_then_ret ?_
    refine b_ret tok rfl ?_
    exact absurd h (by simp [hG]; omega)
  ·
    clear h
    refine c_skip ?_
    refine x_then ?_
    refine c_seq ?_
    refine c_seq ?_
    refine c_region ?_
    refine o_yield rfl rfl rfl (y_val tok rfl) ?_
    refine o_yield rfl rfl rfl (y_val tok rfl) ?_
    refine o_end [1, 2, 26] rfl ?_
    refine x_then ?_
    refine c_cond rfl (fun h => ?_) (fun h => ?_)
    ·
      simp only [Bool.and_eq_true, Bool.or_eq_true, Bool.not_eq_true', Bool.or_eq_false_iff, Bool.and_eq_false_iff, decide_eq_true_eq, decide_eq_false_iff_not, beq_iff_eq, bne_iff_ne, Bool.not_eq_false', beq_eq_false_iff_ne, bne_eq_false_iff_eq, ne_eq, Decidable.not_not, Int.not_lt, Int.not_le] at h
      refine c_seq ?_
      refine c_region ?_
      refine o_yield rfl rfl rfl (y_val tok rfl) ?_
      refine o_yield rfl rfl rfl (y_val tok rfl) ?_
      refine o_yield rfl rfl rfl (y_val tok rfl) ?_
      refine o_end [4, 5, 6] rfl ?_
      refine x_then ?_
      refine c_ret ?_
      refine x_then_ret ?_
      refine b_ret tok rfl ?_
      have hq0 : q = 0 := by omega
      obtain ⟨n1, n2⟩ := what_low (q := q) hG (by omega)
      intro E w' hm _
      exact ⟨1, 0, 0, ⟨rfl, ⟨fun _ => hq0, fun _ => rfl⟩, ⟨fun h => absurd h (by decide), fun ⟨i, h⟩ => absurd h (n1 i)⟩, fun h => absurd h (by decide), fun _ => n2⟩, hm.below (Vw.le.refl _)⟩
    ·
      simp only [Bool.and_eq_true, Bool.or_eq_true, Bool.not_eq_true', Bool.or_eq_false_iff, Bool.and_eq_false_iff, decide_eq_true_eq, decide_eq_false_iff_not, beq_iff_eq, bne_iff_ne, Bool.not_eq_false', beq_eq_false_iff_ne, bne_eq_false_iff_eq, ne_eq, Decidable.not_not, Int.not_lt, Int.not_le] at h
      have hq0 : q ≠ 0 := by omega
      clear h
      refine c_skip ?_
      refine x_then ?_
      refine c_seq ?_
      refine c_seq ?_
      refine c_region ?_
      refine o_yield rfl rfl rfl (y_val tok rfl) ?_
      refine o_end [1, 2, 7] rfl ?_
      refine x_then ?_
      refine c_block ?_
      refine c_loopK [1, 2] [] rfl rfl (σ := Nat) (fun i => [(7, .a (.v (I i)))]) (fun i => []) (fun i => (i : Int) ≤ g.nodes ∧ ∀ j : Nat, j < i → (q : Int) ≠ 1 + j ∧ (q : Int) ≠ 1 + g.nodes + j) (fun i => g.nodes.toNat - i) (0) (⟨by omega, fun j hj => by omega⟩) (by repeat (first | exact SubF.nil | refine SubF.cons rfl ?_)) (by repeat (first | exact SubO.nil | refine SubO.cons rfl ?_)) rfl ?_
      rintro i ⟨hi, hno⟩
      refine c_seq ?_
      refine c_seq ?_
      refine c_region ?_
      refine o_yield rfl rfl rfl (y_val tok rfl) ?_
      refine o_yield rfl rfl rfl (y_val tok rfl) ?_
      refine o_yield rfl rfl rfl (y_val tok rfl) ?_
      refine o_yield rfl rfl rfl (y_val tok rfl) ?_
      refine o_end [1, 2, 7, 30] rfl ?_
      refine x_then ?_
      refine c_cond rfl (fun h => ?_) (fun h => ?_)
      ·
        simp only [Bool.and_eq_true, Bool.or_eq_true, Bool.not_eq_true', Bool.or_eq_false_iff, Bool.and_eq_false_iff, decide_eq_true_eq, decide_eq_false_iff_not, beq_iff_eq, bne_iff_ne, Bool.not_eq_false', beq_eq_false_iff_ne, bne_eq_false_iff_eq, ne_eq, Decidable.not_not, Int.not_lt, Int.not_le] at h
        refine c_skip ?_
        refine x_then ?_
        refine c_seq ?_
        refine c_block ?_
        refine c_seq ?_
        refine c_seq ?_
        refine c_region ?_
        refine o_yield rfl rfl rfl (y_val tok rfl) ?_
        refine o_yield rfl rfl rfl (y_val tok rfl) ?_
        have hin : (i : Int) < g.nodes := by omega
        refine o_call (.a (.v _)) rfl rfl fnok101 rfl rfl rfl (fun hg E w1 hm => by exact rlease_c g ok hG i hin _) ?_
        refine o_yield rfl rfl rfl (y_val tok rfl) ?_
        refine o_yield rfl rfl rfl (y_val tok rfl) ?_
        refine o_end [1, 2, 7, 37] rfl ?_
        refine x_then ?_
        refine c_cond rfl (fun h => ?_) (fun h => ?_)
        ·
          refine c_seq ?_
          refine c_region ?_
          refine o_yield rfl rfl rfl (y_val tok rfl) ?_
          refine o_yield rfl rfl rfl (y_val tok rfl) ?_
          refine o_yield rfl rfl rfl (y_val tok rfl) ?_
          refine o_yield rfl rfl rfl (y_val tok rfl) ?_
          refine o_end [4, 5, 6] rfl ?_
          refine x_then ?_
          refine c_ret ?_
          refine x_then_ret ?_
          refine x_block_ret ?_
          refine x_then_ret ?_
          refine x_then_ret ?_
          refine x_block_ret ?_
          refine x_then_ret ?_
          refine b_ret tok rfl ?_
          have hqi : (q : Int) = 1 + i := by have : (1 : Int) + i = q := by simpa using h
                                             omega
          obtain ⟨n1, n2⟩ := what_low (q := q) hG (by omega)
          intro E w' hm _
          exact ⟨2, i, 0, ⟨rfl, ⟨fun h => absurd h (by decide), fun h => absurd h hq0⟩, ⟨fun h => absurd h (by decide), fun ⟨i, h⟩ => absurd h (n1 i)⟩, fun h => absurd h (by decide), fun _ => n2⟩, hm.below (Vw.le.refl _)⟩
        ·
          have hqa : (q : Int) ≠ 1 + i := by have : ¬ (1 : Int) + i = q := by simpa using h
                                             omega
          clear h
          refine c_skip ?_
          refine x_then ?_
          refine c_seq ?_
          refine c_region ?_
          refine o_yield rfl rfl rfl (y_val tok rfl) ?_
          refine o_yield rfl rfl rfl (y_val tok rfl) ?_
          refine o_call (.a (.v _)) rfl rfl fnok102 rfl rfl rfl (fun hg E w1 hm => by exact rpaxos_c g ok hG i hin _) ?_
          refine o_yield rfl rfl rfl (y_val tok rfl) ?_
          refine o_yield rfl rfl rfl (y_val tok rfl) ?_
          refine o_end [1, 2, 7, 43] rfl ?_
          refine x_then ?_
          refine c_cond rfl (fun h => ?_) (fun h => ?_)
          ·
            refine c_seq ?_
            refine c_region ?_
            refine o_yield rfl rfl rfl (y_val tok rfl) ?_
            refine o_yield rfl rfl rfl (y_val tok rfl) ?_
            refine o_yield rfl rfl rfl (y_val tok rfl) ?_
            refine o_yield rfl rfl rfl (y_val tok rfl) ?_
            refine o_end [4, 5, 6] rfl ?_
            refine x_then ?_
            refine c_ret ?_
            refine x_block_ret ?_
            refine x_then_ret ?_
            refine x_then_ret ?_
            refine x_block_ret ?_
            refine x_then_ret ?_
            refine b_ret tok rfl ?_
            have hqi : (q : Int) = 1 + g.nodes + i := by have : (1 : Int) + g.nodes + i = q := by simpa using h
                                                         omega
            obtain ⟨n1, n2⟩ := what_low (q := q) hG (by omega)
            intro E w' hm _
            exact ⟨3, i, 0, ⟨rfl, ⟨fun h => absurd h (by decide), fun h => absurd h hq0⟩, ⟨fun h => absurd h (by decide), fun ⟨i, h⟩ => absurd h (n1 i)⟩, fun h => absurd h (by decide), fun _ => n2⟩, hm.below (Vw.le.refl _)⟩
          ·
            have hqb : (q : Int) ≠ 1 + g.nodes + i := by have : ¬ (1 : Int) + g.nodes + i = q := by simpa using h
                                                         omega
            clear h
            have hnx : ∀ j : Nat, j < i + 1 → (q : Int) ≠ 1 + j ∧ (q : Int) ≠ 1 + g.nodes + j := by
              intro j hj
              by_cases hji : j < i
              · exact hno j hji
              · have : j = i := by omega
                subst this
                exact ⟨hqa, hqb⟩
            refine c_skip ?_
            refine x_block ?_
            refine x_then ?_
            refine c_region ?_
            refine o_yield rfl rfl rfl (y_val tok rfl) ?_
            refine o_yield rfl rfl rfl (y_val tok rfl) ?_
            refine o_yield rfl rfl rfl (y_val tok rfl) ?_
            refine o_end [1, 2, 7] rfl ?_
            refine x_then ?_
            rw [wrapI (n := (i : Int) + 1) (by omega) (by omega)]
            refine x_round (i + 1) (⟨by omega, hnx⟩) (by first | omega | (dsimp only; omega)) (by repeat (first | exact SubF.nil | refine SubF.cons rfl ?_)) (by repeat (first | exact SubO.nil | refine SubO.cons rfl ?_)) rfl (Vw.le.refl _)
      ·
        simp only [Bool.and_eq_true, Bool.or_eq_true, Bool.not_eq_true', Bool.or_eq_false_iff, Bool.and_eq_false_iff, decide_eq_true_eq, decide_eq_false_iff_not, beq_iff_eq, bne_iff_ne, Bool.not_eq_false', beq_eq_false_iff_ne, bne_eq_false_iff_eq, ne_eq, Decidable.not_not, Int.not_lt, Int.not_le] at h
        have hq1 : (q : Int) > 2 * g.nodes := by
          have hi' : (i : Int) = g.nodes := by omega
          rcases Int.lt_or_le (2 * g.nodes) q with h1 | h1
          · exact h1
          · exfalso
            by_cases h2 : (q : Int) ≤ g.nodes
            · exact (hno (q - 1) (by omega)).1 (by omega)
            · exact (hno (q - 1 - g.nodes.toNat) (by omega)).2 (by omega)
        clear h hno hi
        refine c_exit ?_
        refine x_then_exit ?_
        refine x_then_exit ?_
        refine x_block_hit ?_
        refine x_then ?_
        refine c_seq ?_
        refine c_seq ?_
        refine c_region ?_
        refine o_yield rfl rfl rfl (y_val tok rfl) ?_
        refine o_end [1, 2, 8] rfl ?_
        refine x_then ?_
        refine c_block ?_
        refine c_loopK [1, 2] [] rfl rfl (σ := Nat) (fun i => [(8, .a (.v (I i)))]) (fun i => []) (fun i => (i : Int) ≤ g.log ∧ ∀ j : Nat, j < i → (q : Int) ≠ 1 + 2 * g.nodes + j) (fun i => g.log.toNat - i) (0) (⟨by omega, fun j hj => by omega⟩) (by repeat (first | exact SubF.nil | refine SubF.cons rfl ?_)) (by repeat (first | exact SubO.nil | refine SubO.cons rfl ?_)) rfl ?_
        rintro i ⟨hi, hno⟩
        refine c_seq ?_
        refine c_seq ?_
        refine c_region ?_
        refine o_yield rfl rfl rfl (y_val tok rfl) ?_
        refine o_yield rfl rfl rfl (y_val tok rfl) ?_
        refine o_yield rfl rfl rfl (y_val tok rfl) ?_
        refine o_yield rfl rfl rfl (y_val tok rfl) ?_
        refine o_end [1, 2, 8, 48] rfl ?_
        refine x_then ?_
        refine c_cond rfl (fun h => ?_) (fun h => ?_)
        ·
          simp only [Bool.and_eq_true, Bool.or_eq_true, Bool.not_eq_true', Bool.or_eq_false_iff, Bool.and_eq_false_iff, decide_eq_true_eq, decide_eq_false_iff_not, beq_iff_eq, bne_iff_ne, Bool.not_eq_false', beq_eq_false_iff_ne, bne_eq_false_iff_eq, ne_eq, Decidable.not_not, Int.not_lt, Int.not_le] at h
          refine c_skip ?_
          refine x_then ?_
          refine c_seq ?_
          refine c_block ?_
          refine c_seq ?_
          refine c_region ?_
          refine o_yield rfl rfl rfl (y_val tok rfl) ?_
          refine o_yield rfl rfl rfl (y_val tok rfl) ?_
          have hin : (i : Int) < g.log := by omega
          refine o_call (.a (.v _)) rfl rfl fnok103 rfl rfl rfl (fun hg E w1 hm => by exact rlog_c g ok hG i hin _) ?_
          refine o_yield rfl rfl rfl (y_val tok rfl) ?_
          refine o_yield rfl rfl rfl (y_val tok rfl) ?_
          refine o_end [1, 2, 8, 55] rfl ?_
          refine x_then ?_
          refine c_cond rfl (fun h => ?_) (fun h => ?_)
          ·
            refine c_seq ?_
            refine c_region ?_
            refine o_yield rfl rfl rfl (y_val tok rfl) ?_
            refine o_yield rfl rfl rfl (y_val tok rfl) ?_
            refine o_yield rfl rfl rfl (y_val tok rfl) ?_
            refine o_yield rfl rfl rfl (y_val tok rfl) ?_
            refine o_end [4, 5, 6] rfl ?_
            refine x_then ?_
            refine c_ret ?_
            refine x_block_ret ?_
            refine x_then_ret ?_
            refine x_then_ret ?_
            refine x_block_ret ?_
            refine x_then_ret ?_
            refine b_ret tok rfl ?_
            have hqi : (q : Int) = 1 + 2 * g.nodes + i := by have : (1 : Int) + 2 * g.nodes + i = q := by simpa using h
                                                             omega
            obtain ⟨n1, n2⟩ := what_low (q := q) hG (by omega)
            intro E w' hm _
            exact ⟨4, i, 0, ⟨rfl, ⟨fun h => absurd h (by decide), fun h => absurd h hq0⟩, ⟨fun h => absurd h (by decide), fun ⟨i, h⟩ => absurd h (n1 i)⟩, fun h => absurd h (by decide), fun _ => n2⟩, hm.below (Vw.le.refl _)⟩
          ·
            have hqb : (q : Int) ≠ 1 + 2 * g.nodes + i := by have : ¬ (1 : Int) + 2 * g.nodes + i = q := by simpa using h
                                                             omega
            clear h
            have hnx : ∀ j : Nat, j < i + 1 → (q : Int) ≠ 1 + 2 * g.nodes + j := by
              intro j hj
              by_cases hji : j < i
              · exact hno j hji
              · have : j = i := by omega
                subst this
                exact hqb
            refine c_skip ?_
            refine x_block ?_
            refine x_then ?_
            refine c_region ?_
            refine o_yield rfl rfl rfl (y_val tok rfl) ?_
            refine o_yield rfl rfl rfl (y_val tok rfl) ?_
            refine o_yield rfl rfl rfl (y_val tok rfl) ?_
            refine o_end [1, 2, 8] rfl ?_
            refine x_then ?_
            rw [wrapI (n := (i : Int) + 1) (by omega) (by omega)]
            refine x_round (i + 1) (⟨by omega, hnx⟩) (by first | omega | (dsimp only; omega)) (by repeat (first | exact SubF.nil | refine SubF.cons rfl ?_)) (by repeat (first | exact SubO.nil | refine SubO.cons rfl ?_)) rfl (Vw.le.refl _)
        ·
          simp only [Bool.and_eq_true, Bool.or_eq_true, Bool.not_eq_true', Bool.or_eq_false_iff, Bool.and_eq_false_iff, decide_eq_true_eq, decide_eq_false_iff_not, beq_iff_eq, bne_iff_ne, Bool.not_eq_false', beq_eq_false_iff_ne, bne_eq_false_iff_eq, ne_eq, Decidable.not_not, Int.not_lt, Int.not_le] at h
          have hq2 : (q : Int) > 2 * g.nodes + g.log := by
            have hi' : (i : Int) = g.log := by omega
            rcases Int.lt_or_le (2 * g.nodes + g.log) q with h1 | h1
            · exact h1
            · exact absurd (by omega) (hno (q - 1 - 2 * g.nodes.toNat) (by omega))
          clear h hno hi
          refine c_exit ?_
          refine x_then_exit ?_
          refine x_then_exit ?_
          refine x_block_hit ?_
          refine x_then ?_
          refine c_seq ?_
          refine c_seq ?_
          refine c_region ?_
          refine o_yield rfl rfl rfl (y_val tok rfl) ?_
          refine o_end [1, 2, 9] rfl ?_
          refine x_then ?_
          refine c_block ?_
          refine c_loopK [1, 2] [] rfl rfl (σ := Nat) (fun i => [(9, .a (.v (I i)))]) (fun i => []) (fun i => (i : Int) ≤ g.slots ∧ ∀ k : Nat, k < i → ¬ HeadAt g q k ∧ ∀ j, ¬ JourAt g q k j) (fun i => g.slots.toNat - i) (0) (⟨by omega, fun j hj => by omega⟩) (by repeat (first | exact SubF.nil | refine SubF.cons rfl ?_)) (by repeat (first | exact SubO.nil | refine SubO.cons rfl ?_)) rfl ?_
          rintro i ⟨hi, hno⟩
          refine c_seq ?_
          refine c_seq ?_
          refine c_region ?_
          refine o_yield rfl rfl rfl (y_val tok rfl) ?_
          refine o_yield rfl rfl rfl (y_val tok rfl) ?_
          refine o_yield rfl rfl rfl (y_val tok rfl) ?_
          refine o_yield rfl rfl rfl (y_val tok rfl) ?_
          refine o_end [1, 2, 9, 60] rfl ?_
          refine x_then ?_
          refine c_cond rfl (fun h => ?_) (fun h => ?_)
          ·
            simp only [Bool.and_eq_true, Bool.or_eq_true, Bool.not_eq_true', Bool.or_eq_false_iff, Bool.and_eq_false_iff, decide_eq_true_eq, decide_eq_false_iff_not, beq_iff_eq, bne_iff_ne, Bool.not_eq_false', beq_eq_false_iff_ne, bne_eq_false_iff_eq, ne_eq, Decidable.not_not, Int.not_lt, Int.not_le] at h
            refine c_skip ?_
            refine x_then ?_
            refine c_seq ?_
            refine c_block ?_
            refine c_seq ?_
            refine c_seq ?_
            refine c_region ?_
            refine o_yield rfl rfl rfl (y_val tok rfl) ?_
            refine o_yield rfl rfl rfl (y_val tok rfl) ?_
            have hin : (i : Int) < g.slots := by omega
            refine o_call (.a (.v _)) rfl rfl fnok20 rfl rfl rfl (fun hg E w1 hm => by exact refHead_c g ok i _) ?_
            refine o_yield rfl rfl rfl (y_val tok rfl) ?_
            refine o_yield rfl rfl rfl (y_val tok rfl) ?_
            refine o_end [1, 2, 9, 67] rfl ?_
            refine x_then ?_
            refine c_cond rfl (fun h => ?_) (fun h => ?_)
            ·
              refine c_seq ?_
              refine c_region ?_
              refine o_yield rfl rfl rfl (y_val tok rfl) ?_
              refine o_yield rfl rfl rfl (y_val tok rfl) ?_
              refine o_yield rfl rfl rfl (y_val tok rfl) ?_
              refine o_yield rfl rfl rfl (y_val tok rfl) ?_
              refine o_end [4, 5, 6] rfl ?_
              refine x_then ?_
              refine c_ret ?_
              refine x_then_ret ?_
              refine x_block_ret ?_
              refine x_then_ret ?_
              refine x_then_ret ?_
              refine x_block_ret ?_
              refine x_then_ret ?_
              refine b_ret tok rfl ?_
              have hqi : headV g (i : Int) = q := by simpa using h
              intro E w' hm _
              exact ⟨5, i, 0, ⟨rfl, ⟨fun h => absurd h (by decide), fun h => absurd h hq0⟩, ⟨fun _ => ⟨i, hin, hqi⟩, fun _ => rfl⟩, fun h => absurd h (by decide), fun _ k j hj => head_jour hG hin hj.1 (l := (j : Int)) (by omega) (by rw [hqi]; exact hj.2.2.symm)⟩, hm.below (Vw.le.refl _)⟩
            ·
              have hqb : ¬ HeadAt g q i := fun hh => by have : ¬ headV g (i : Int) = q := by simpa using h
                                                        exact this hh.2
              clear h
              refine c_skip ?_
              refine x_then ?_
              refine c_seq ?_
              refine c_region ?_
              refine o_yield rfl rfl rfl (y_val tok rfl) ?_
              refine o_end [1, 2, 9, 10] rfl ?_
              refine x_then ?_
              refine c_block ?_
              refine c_loopK [1, 2, 9] [] rfl rfl (σ := Nat) (fun m => [(10, .a (.v (I m)))]) (fun m => []) (fun m => (m : Int) ≤ g.journal ∧ ∀ j : Nat, j < m → ¬ JourAt g q i j) (fun m => g.journal.toNat - m) (0) (⟨by omega, fun j hj => by omega⟩) (by repeat (first | exact SubF.nil | refine SubF.cons rfl ?_)) (by repeat (first | exact SubO.nil | refine SubO.cons rfl ?_)) rfl ?_
              rintro m ⟨hm, hnj⟩
              refine c_seq ?_
              refine c_seq ?_
              refine c_region ?_
              refine o_yield rfl rfl rfl (y_val tok rfl) ?_
              refine o_yield rfl rfl rfl (y_val tok rfl) ?_
              refine o_yield rfl rfl rfl (y_val tok rfl) ?_
              refine o_yield rfl rfl rfl (y_val tok rfl) ?_
              refine o_end [1, 2, 9, 10, 72] rfl ?_
              refine x_then ?_
              refine c_cond rfl (fun h => ?_) (fun h => ?_)
              ·
                simp only [Bool.and_eq_true, Bool.or_eq_true, Bool.not_eq_true', Bool.or_eq_false_iff, Bool.and_eq_false_iff, decide_eq_true_eq, decide_eq_false_iff_not, beq_iff_eq, bne_iff_ne, Bool.not_eq_false', beq_eq_false_iff_ne, bne_eq_false_iff_eq, ne_eq, Decidable.not_not, Int.not_lt, Int.not_le] at h
                refine c_skip ?_
                refine x_then ?_
                refine c_seq ?_
                refine c_block ?_
                refine c_seq ?_
                refine c_region ?_
                refine o_yield rfl rfl rfl (y_val tok rfl) ?_
                refine o_yield rfl rfl rfl (y_val tok rfl) ?_
                refine o_yield rfl rfl rfl (y_val tok rfl) ?_
                have hmn : (m : Int) < g.journal := by omega
                refine o_call (.a (.v _)) rfl rfl fnok66 rfl rfl rfl (fun hg E w1 hm => by exact refJour_c g ok i m _) ?_
                refine o_yield rfl rfl rfl (y_val tok rfl) ?_
                refine o_yield rfl rfl rfl (y_val tok rfl) ?_
                refine o_end [1, 2, 9, 10, 80] rfl ?_
                refine x_then ?_
                refine c_cond rfl (fun h => ?_) (fun h => ?_)
                ·
                  refine c_seq ?_
                  refine c_region ?_
                  refine o_yield rfl rfl rfl (y_val tok rfl) ?_
                  refine o_yield rfl rfl rfl (y_val tok rfl) ?_
                  refine o_yield rfl rfl rfl (y_val tok rfl) ?_
                  refine o_yield rfl rfl rfl (y_val tok rfl) ?_
                  refine o_yield rfl rfl rfl (y_val tok rfl) ?_
                  refine o_end [4, 5, 6] rfl ?_
                  refine x_then ?_
                  refine c_ret ?_
                  refine x_block_ret ?_
                  refine x_then_ret ?_
                  refine x_then_ret ?_
                  refine x_block_ret ?_
                  refine x_block_ret ?_
                  refine x_then_ret ?_
                  refine x_then_ret ?_
                  refine x_block_ret ?_
                  refine x_then_ret ?_
                  refine b_ret tok rfl ?_
                  have hqi : jourV g (i : Int) (m : Int) = q := by simpa using h
                  intro E w' hm _
                  exact ⟨6, i, m, ⟨rfl, ⟨fun h => absurd h (by decide), fun h => absurd h hq0⟩, ⟨fun h => absurd h (by decide), fun ⟨k, hk⟩ => absurd (by rw [hk.2, hqi]) (head_jour hG hk.1 hin (l := (m : Int)) (by omega))⟩, fun _ => ⟨i, m, rfl, rfl, hin, hmn, hqi⟩, fun h => absurd rfl h⟩, hm.below (Vw.le.refl _)⟩
                ·
                  have hqc : ¬ JourAt g q i m := fun hh => by have : ¬ jourV g (i : Int) (m : Int) = q := by simpa using h
                                                              exact this hh.2.2
                  clear h
                  have hnx : ∀ j : Nat, j < m + 1 → ¬ JourAt g q i j := by
                    intro j hj
                    by_cases hji : j < m
                    · exact hnj j hji
                    · have : j = m := by omega
                      subst this
                      exact hqc
                  refine c_skip ?_
                  refine x_block ?_
                  refine x_then ?_
                  refine c_region ?_
                  refine o_yield rfl rfl rfl (y_val tok rfl) ?_
                  refine o_yield rfl rfl rfl (y_val tok rfl) ?_
                  refine o_yield rfl rfl rfl (y_val tok rfl) ?_
                  refine o_end [1, 2, 9, 10] rfl ?_
                  refine x_then ?_
                  rw [wrapI (n := (m : Int) + 1) (by omega) (by omega)]
                  refine x_round (m + 1) (⟨by omega, hnx⟩) (by first | omega | (dsimp only; omega)) (by repeat (first | exact SubF.nil | refine SubF.cons rfl ?_)) (by repeat (first | exact SubO.nil | refine SubO.cons rfl ?_)) rfl (Vw.le.refl _)
              ·
                simp only [Bool.and_eq_true, Bool.or_eq_true, Bool.not_eq_true', Bool.or_eq_false_iff, Bool.and_eq_false_iff, decide_eq_true_eq, decide_eq_false_iff_not, beq_iff_eq, bne_iff_ne, Bool.not_eq_false', beq_eq_false_iff_ne, bne_eq_false_iff_eq, ne_eq, Decidable.not_not, Int.not_lt, Int.not_le] at h
                have hnx : ∀ k : Nat, k < i + 1 → ¬ HeadAt g q k ∧ ∀ j, ¬ JourAt g q k j := by
                  intro k hk
                  by_cases hki : k < i
                  · exact hno k hki
                  · have : k = i := by omega
                    subst this
                    exact ⟨hqb, fun j hj => hnj j (by have := hj.2.1; omega) hj⟩
                refine c_exit ?_
                refine x_then_exit ?_
                refine x_then_exit ?_
                refine x_block_hit ?_
                refine x_block ?_
                refine x_then ?_
                refine c_region ?_
                refine o_yield rfl rfl rfl (y_val tok rfl) ?_
                refine o_yield rfl rfl rfl (y_val tok rfl) ?_
                refine o_yield rfl rfl rfl (y_val tok rfl) ?_
                refine o_end [1, 2, 9] rfl ?_
                refine x_then ?_
                rw [wrapI (n := (i : Int) + 1) (by omega) (by omega)]
                refine x_round (i + 1) (⟨by omega, hnx⟩) (by first | omega | (dsimp only; omega)) (by repeat (first | exact SubF.nil | refine SubF.cons rfl ?_)) (by repeat (first | exact SubO.nil | refine SubO.cons rfl ?_)) rfl (Vw.le.refl _)
          ·
            simp only [Bool.and_eq_true, Bool.or_eq_true, Bool.not_eq_true', Bool.or_eq_false_iff, Bool.and_eq_false_iff, decide_eq_true_eq, decide_eq_false_iff_not, beq_iff_eq, bne_iff_ne, Bool.not_eq_false', beq_eq_false_iff_ne, bne_eq_false_iff_eq, ne_eq, Decidable.not_not, Int.not_lt, Int.not_le] at h
            have hall : ∀ k : Nat, (k : Int) < g.slots → ¬ HeadAt g q k ∧ ∀ j, ¬ JourAt g q k j := fun k hk => hno k (by omega)
            clear h hno hi
            refine c_exit ?_
            refine x_then_exit ?_
            refine x_then_exit ?_
            refine x_block_hit ?_
            refine x_then ?_
            refine c_seq ?_
            refine c_region ?_
            refine o_yield rfl rfl rfl (y_val tok rfl) ?_
            refine o_yield rfl rfl rfl (y_val tok rfl) ?_
            refine o_call (.a (.v _)) rfl rfl fnok90 rfl rfl rfl (fun hg E w1 hm => by exact refData_c g ok 0 0 _) ?_
            refine o_yield rfl rfl rfl (y_val tok rfl) ?_
            refine o_yield rfl rfl rfl (y_val tok rfl) ?_
            refine o_end [2, 11] rfl ?_
            refine x_then ?_
            refine c_seq ?_
            refine c_draw mixed (by kernel_rfl) ?_
            refine d_yield rfl rfl rfl (y_val tok rfl) rfl ?_
            refine d_yield rfl rfl rfl (y_val tok rfl) rfl ?_
            refine d_yield rfl rfl rfl (y_val tok rfl) rfl ?_
            refine d_yield rfl rfl rfl (y_quo rfl (fun hg => by omega)) rfl ?_
            refine d_yield rfl rfl rfl (y_val tok rfl) rfl ?_
            refine d_yield rfl rfl rfl (y_val tok rfl) rfl ?_
            refine d_yield rfl rfl rfl (y_val tok rfl) rfl ?_
            refine d_yield rfl rfl rfl (y_rem rfl (fun hg => by omega)) rfl ?_
            refine d_yield rfl rfl rfl (y_val tok rfl) rfl ?_
            refine d_yield rfl rfl rfl (y_val tok rfl) rfl ?_
            refine d_yield rfl rfl rfl (y_val tok rfl) rfl ?_
            refine d_end [4, 5, 6] rfl ?_
            refine x_then ?_
            refine c_ret ?_
            refine b_ret tok rfl ?_
            intro E w' hm _
            exact ⟨7, _, _, ⟨rfl, ⟨fun h => absurd h (by decide), fun h => absurd h hq0⟩, ⟨fun h => absurd h (by decide), fun ⟨i, h⟩ => absurd h (hall i h.1).1⟩, fun h => absurd h (by decide), fun _ i j h => (hall i h.1).2 j h⟩, hm.below (Vw.le.refl _)⟩
end Go.Proofs.Ytflimioplnbopaa

/- Blocks put into rows: the document's; plain law for rows that rise. -/
set_option linter.unusedVariables false
set_option linter.unusedSimpArgs false
set_option maxRecDepth 100000
namespace Go.Proofs.Ytflimioplnbopaa
open Go Go.Eng Go.RowKit

theorem blk_ones (l : List Block) : ∀ u ∈ l.flatMap Block.cells, u.oneCell' = true := by
  intro u hu
  obtain ⟨x, _, hx⟩ := List.mem_flatMap.1 hu
  simp only [Block.cells, List.mem_cons, List.not_mem_nil, or_false] at hx
  rcases hx with rfl | rfl <;> rfl

def oneL (th : Bool) (x : Block) : List Block → List Block
  | [] => [x]
  | b :: r => if th = true ∧ b.n = x.n then x :: r else if th = false ∧ x.n < b.n then x :: b :: r else b :: oneL th x r

/-- What the document's row is with a block put into it. -/
def insS (l : List Block) (x : Block) : List Block := oneL (getB l x.n).2 x l

theorem oneL_len (th : Bool) (x : Block) : ∀ l : List Block, (oneL th x l).length ≤ l.length + 1
  | [] => by simp [oneL]
  | b :: r => by
    have := oneL_len th x r
    rw [oneL]
    split
    · simp
    · split <;> simp; omega

def RowB (L : List Block) (w : World) (e : Ending) (w' : World) : Prop :=
  (∃ v, e = .returned v ∧ w'.ownsRow w.heap.size 139 2 v L.length (L.flatMap Block.cells)) ∧ Below w.heap.size w w'

theorem app_row (O : List Block) (x : Block) : O.length + 1 = (O ++ [x]).length ∧ O.flatMap Block.cells ++ x.cells = (O ++ [x]).flatMap Block.cells := by simp

theorem rone_c (V : Vw) (sv : Value) (l : List Block) (x : Block) (w : World) (hV : V.le (vw w)) (hs0 : SlOf V Block.cells 2 sv l) (hn : l.length ≤ 1000) :
    Calls Try.prog 185 #[sv, x.val] w (RowB (insS l x) w) := by
  have hs := hs0.mono hV
  have hins : insS l x = oneL (getB l x.n).2 x l := rfl
  refine enter (E := E0) (O := []) (nl := 0) (V := vw w) [.a (.v sv), .a (.v x.val)] Try.func185 rfl rfl (mem0 E0 0 w) rfl rfl ?_
  refine c_seq ?_
  refine c_region ?_
  refine o_new tok rfl rfl rfl rfl ?_
  refine o_yield rfl rfl rfl (y_val tok rfl) ?_
  refine o_end [0, 3] rfl ?_
  refine x_then ?_
  refine c_seq ?_
  refine c_region ?_
  refine o_yield rfl rfl rfl (y_val tok rfl) ?_
  refine o_end [0, 3, 5] rfl ?_
  refine x_then ?_
  refine c_seq ?_
  refine c_region ?_
  refine o_yield rfl rfl rfl (y_val tok rfl) ?_
  refine o_yield rfl rfl rfl (y_val tok rfl) ?_
  refine o_yield rfl rfl rfl (y_val tok rfl) ?_
  refine o_call (.a (.v _)) rfl rfl fnok41 rfl rfl rfl (fun hg E w1 hm => by exact refGet18_c (vw w) _ l x.n _ hm.leV hs (by omega)) ?_
  refine o_yield rfl rfl rfl (y_val tok rfl) ?_
  refine o_yield rfl rfl rfl (y_val tok rfl) ?_
  refine o_yield rfl rfl rfl (y_val tok rfl) ?_
  refine o_yield rfl rfl rfl (y_val tok rfl) ?_
  refine o_yield rfl rfl rfl (y_val tok rfl) ?_
  refine o_end [0, 3, 5, 7] rfl ?_
  refine x_then ?_
  refine c_seq ?_
  refine c_region ?_
  refine o_yield rfl rfl rfl (y_val tok rfl) ?_
  refine o_end [0, 3, 5, 7, 8] rfl ?_
  refine x_then ?_
  refine c_seq ?_
  refine c_seq ?_
  refine c_region ?_
  refine o_yield rfl rfl rfl (y_val tok rfl) ?_
  refine o_end [0, 3, 5, 7, 8, 9] rfl ?_
  refine x_then ?_
  refine c_block ?_
  generalize (getB l x.n).2 = th at *
  refine k_nil 5 139 2 rfl rfl ?_
  refine c_loopK [0, 3, 7] [1] rfl rfl (σ := Nat × Bool × List Block) (fun (i, d, O) => [(5, .a (.row 1)), (8, .a (.v (.bool d))), (9, .a (.v (I i)))]) (fun (i, d, O) => [(1, .row 139 2 O.length (O.flatMap Block.cells))]) (fun (i, d, O) => i ≤ l.length ∧ O.length ≤ 2 * i ∧ O ++ (if d = true then l.drop i else oneL th x (l.drop i)) = insS l x) (fun (i, d, O) => l.length - i) ((0, false, [])) (⟨by omega, by simp, by rw [hins]; rfl⟩) (by repeat (first | exact SubF.nil | refine SubF.cons rfl ?_)) (by repeat (first | exact SubO.nil | refine SubO.cons rfl ?_)) rfl ?_
  rintro ⟨i, d, O⟩ ⟨hi, hO, hinv⟩
  dsimp only at hi hO hinv ⊢
  refine c_seq ?_
  refine c_seq ?_
  refine c_region ?_
  refine o_yield rfl rfl rfl (y_val tok rfl) ?_
  refine o_yield rfl rfl rfl (y_val tok rfl) ?_
  refine o_yield rfl rfl rfl (y_len tok rfl (fun hg => hs.sl)) ?_
  refine o_yield rfl rfl rfl (y_val tok rfl) ?_
  refine o_end [0, 3, 5, 7, 8, 9, 20] rfl ?_
  refine x_then ?_
  refine c_cond rfl (fun h => ?_) (fun h => ?_)
  ·
    simp only [Bool.and_eq_true, Bool.or_eq_true, Bool.not_eq_true', Bool.or_eq_false_iff, Bool.and_eq_false_iff, decide_eq_true_eq, decide_eq_false_iff_not, beq_iff_eq, bne_iff_ne, Bool.not_eq_false', beq_eq_false_iff_ne, bne_eq_false_iff_eq, ne_eq, Decidable.not_not, Int.not_lt, Int.not_le] at h
    refine c_skip ?_
    refine x_then ?_
    refine c_seq ?_
    refine c_block ?_
    refine c_seq ?_
    refine c_seq ?_
    refine c_draw mixed (by kernel_rfl) ?_
    refine d_yield rfl rfl rfl (y_val tok rfl) rfl ?_
    refine d_yield rfl rfl rfl (y_val tok rfl) rfl ?_
    refine d_yield rfl rfl rfl (y_val tok rfl) rfl ?_
    refine d_yield rfl rfl rfl (y_val tok rfl) rfl ?_
    refine d_yield rfl rfl rfl (y_val tok rfl) rfl ?_
    refine d_yield rfl rfl rfl (y_val tok rfl) rfl ?_
    refine d_yield rfl rfl rfl (y_val tok rfl) rfl ?_
    refine d_yield rfl rfl rfl (y_val tok rfl) rfl ?_
    obtain ⟨y, h_y⟩ := hs.at (k := i) (by omega)
    rw [drop_at h_y] at hinv
    have hwi : IntKind.i64.wrap ((i : Int) + 1) = ((i + 1 : Nat) : Int) := wrapI (by omega) (by omega)
    have hx := app_row O x
    have hy := app_row O y
    have hlt_y := lt_of_at h_y
    refine d_yield rfl rfl rfl (y_idx tok rfl (fun hg => hs.sl) (fun hg => ⟨by omega, by omega⟩)) rfl ?_
    refine d_yield rfl rfl rfl (y_fel tok rfl (fun hg => hs.sl) (fun hg => by omega)) rfl ?_
    refine d_yield rfl rfl rfl (y_lel tok (i) 0 (y) rfl (fun hg => hs) (fun hg => h_y) rfl rfl) rfl ?_
    refine d_yield rfl rfl rfl (y_val tok rfl) rfl ?_
    refine d_yield rfl rfl rfl (y_val tok rfl) rfl ?_
    refine d_yield rfl rfl rfl (y_val tok rfl) rfl ?_
    refine d_yield rfl rfl rfl (y_val tok rfl) rfl ?_
    refine d_end [0, 3, 5, 7, 8, 9, 37] rfl ?_
    refine x_then ?_
    refine c_cond rfl (fun h => ?_) (fun h => ?_)
    ·
      simp only [Bool.and_eq_true, Bool.or_eq_true, Bool.not_eq_true', Bool.or_eq_false_iff, Bool.and_eq_false_iff, decide_eq_true_eq, decide_eq_false_iff_not, beq_iff_eq, bne_iff_ne, Bool.not_eq_false', beq_eq_false_iff_ne, bne_eq_false_iff_eq, ne_eq, Decidable.not_not, Int.not_lt, Int.not_le] at h
      refine c_seq ?_
      refine c_region ?_
      refine o_yield rfl rfl rfl (y_val tok rfl) ?_
      refine o_yield rfl rfl rfl (y_val tok rfl) ?_
      obtain ⟨⟨h1, h2⟩, h3⟩ := h
      subst h1 h2
      rw [if_neg (by simp), oneL, if_pos ⟨rfl, h3⟩] at hinv
      refine o_step rfl rfl rfl rfl rfl (s_bs tok 2 rfl rfl rfl) (fun _ _ => ?_)
      refine o_step rfl rfl rfl rfl rfl (s_app tok x.cells rfl (fun E w hm => ownsRow_src (hm.row _ _ _ _ _ rfl)) (fun _ _ _ => by simpa using blk_ones [x]) (by dsimp only; omega)) (fun _ _ => ?_)
      refine o_yield rfl rfl rfl (y_val tok rfl) ?_
      refine o_end [0, 3, 5, 7, 9] rfl ?_
      refine x_then ?_
      refine c_seq ?_
      refine c_region ?_
      refine o_yield rfl rfl rfl (y_val tok rfl) ?_
      refine o_end [0, 3, 5, 7, 8, 9] rfl ?_
      refine x_then ?_
      refine c_exit ?_
      refine x_then_exit ?_
      refine x_block_hit ?_
      refine x_then ?_
      refine c_region ?_
      refine o_yield rfl rfl rfl (y_val tok rfl) ?_
      refine o_yield rfl rfl rfl (y_val tok rfl) ?_
      refine o_yield rfl rfl rfl (y_val tok rfl) ?_
      refine o_end [0, 3, 5, 7, 8, 9] rfl ?_
      refine x_then ?_
      rw [hx.1, hx.2, hwi]
      refine k_swap 1 3 rfl ?_
      refine x_round ((i + 1, true, O ++ [x])) (⟨by dsimp only; omega, by dsimp only; simp; omega, by dsimp only; rw [if_pos rfl, ← hinv]; simp⟩) (by first | omega | (dsimp only; omega)) (by repeat (first | exact SubF.nil | refine SubF.cons rfl ?_)) (by repeat (first | exact SubO.nil | refine SubO.cons rfl ?_)) rfl (Vw.le.refl _)
    ·
      simp only [Bool.and_eq_true, Bool.or_eq_true, Bool.not_eq_true', Bool.or_eq_false_iff, Bool.and_eq_false_iff, decide_eq_true_eq, decide_eq_false_iff_not, beq_iff_eq, bne_iff_ne, Bool.not_eq_false', beq_eq_false_iff_ne, bne_eq_false_iff_eq, ne_eq, Decidable.not_not, Int.not_lt, Int.not_le] at h
      have hno : ¬ (d = false ∧ th = true ∧ y.n = x.n) := fun ⟨h1, h2, h3⟩ => by simp [h1, h2, h3] at h
      clear h
      refine c_skip ?_
      refine x_then ?_
      refine c_seq ?_
      refine c_seq ?_
      refine c_draw mixed (by kernel_rfl) ?_
      refine d_yield rfl rfl rfl (y_val tok rfl) rfl ?_
      refine d_yield rfl rfl rfl (y_val tok rfl) rfl ?_
      refine d_yield rfl rfl rfl (y_val tok rfl) rfl ?_
      refine d_yield rfl rfl rfl (y_val tok rfl) rfl ?_
      refine d_yield rfl rfl rfl (y_val tok rfl) rfl ?_
      refine d_yield rfl rfl rfl (y_val tok rfl) rfl ?_
      refine d_yield rfl rfl rfl (y_val tok rfl) rfl ?_
      refine d_yield rfl rfl rfl (y_val tok rfl) rfl ?_
      refine d_yield rfl rfl rfl (y_val tok rfl) rfl ?_
      have hlt_y := lt_of_at h_y
      refine d_yield rfl rfl rfl (y_idx tok rfl (fun hg => hs.sl) (fun hg => ⟨by omega, by omega⟩)) rfl ?_
      refine d_yield rfl rfl rfl (y_fel tok rfl (fun hg => hs.sl) (fun hg => by omega)) rfl ?_
      refine d_yield rfl rfl rfl (y_lel tok (i) 0 (y) rfl (fun hg => hs) (fun hg => h_y) rfl rfl) rfl ?_
      refine d_yield rfl rfl rfl (y_val tok rfl) rfl ?_
      refine d_yield rfl rfl rfl (y_val tok rfl) rfl ?_
      refine d_yield rfl rfl rfl (y_val tok rfl) rfl ?_
      refine d_yield rfl rfl rfl (y_val tok rfl) rfl ?_
      refine d_end [0, 3, 5, 7, 8, 9, 57] rfl ?_
      refine x_then ?_
      refine c_cond rfl (fun h => ?_) (fun h => ?_)
      ·
        simp only [Bool.and_eq_true, Bool.or_eq_true, Bool.not_eq_true', Bool.or_eq_false_iff, Bool.and_eq_false_iff, decide_eq_true_eq, decide_eq_false_iff_not, beq_iff_eq, bne_iff_ne, Bool.not_eq_false', beq_eq_false_iff_ne, bne_eq_false_iff_eq, ne_eq, Decidable.not_not, Int.not_lt, Int.not_le] at h
        refine c_seq ?_
        refine c_region ?_
        refine o_yield rfl rfl rfl (y_val tok rfl) ?_
        refine o_yield rfl rfl rfl (y_val tok rfl) ?_
        obtain ⟨⟨h1, h2⟩, h3⟩ := h
        subst h1 h2
        rw [if_neg (by simp), oneL, if_neg (by simp), if_pos ⟨rfl, h3⟩] at hinv
        have hxy := app_row (O ++ [x]) y
        refine o_step rfl rfl rfl rfl rfl (s_bs tok 2 rfl rfl rfl) (fun _ _ => ?_)
        refine o_step rfl rfl rfl rfl rfl (s_app tok x.cells rfl (fun E w hm => ownsRow_src (hm.row _ _ _ _ _ rfl)) (fun _ _ _ => by simpa using blk_ones [x]) (by dsimp only; omega)) (fun _ _ => ?_)
        refine o_yield rfl rfl rfl (y_val tok rfl) ?_
        refine o_end [0, 3, 5, 7, 9] rfl ?_
        refine x_then ?_
        refine c_region ?_
        refine o_yield rfl rfl rfl (y_val tok rfl) ?_
        refine o_end [0, 3, 5, 7, 8, 9] rfl ?_
        refine x_then ?_
        refine c_region ?_
        refine o_yield rfl rfl rfl (y_val tok rfl) ?_
        refine o_yield rfl rfl rfl (y_val tok rfl) ?_
        refine o_yield rfl rfl rfl (y_val tok rfl) ?_
        rw [hx.1, hx.2]
        have hlt_y := lt_of_at h_y
        refine o_yield rfl rfl rfl (y_idx tok rfl (fun hg => hs.sl) (fun hg => ⟨by omega, by omega⟩)) ?_
        refine o_yield rfl rfl rfl (y_lel tok (i) 0 (y) rfl (fun hg => hs) (fun hg => h_y) rfl rfl) ?_
        refine o_step rfl rfl rfl rfl rfl (s_bs tok 2 rfl rfl rfl) (fun _ _ => ?_)
        refine o_step rfl rfl rfl rfl rfl (s_app tok y.cells rfl (fun E w hm => ownsRow_src (hm.row _ _ _ _ _ rfl)) (fun _ _ _ => by simpa using blk_ones [y]) (by dsimp only; simp; omega)) (fun _ _ => ?_)
        refine o_yield rfl rfl rfl (y_val tok rfl) ?_
        refine o_end [0, 3, 5, 7, 8, 9] rfl ?_
        refine x_block ?_
        refine x_then ?_
        refine c_region ?_
        refine o_yield rfl rfl rfl (y_val tok rfl) ?_
        refine o_yield rfl rfl rfl (y_val tok rfl) ?_
        refine o_yield rfl rfl rfl (y_val tok rfl) ?_
        refine o_end [0, 3, 5, 7, 8, 9] rfl ?_
        refine x_then ?_
        rw [hxy.1, hxy.2, hwi]
        refine k_swap 1 5 rfl ?_
        refine x_round ((i + 1, true, O ++ [x] ++ [y])) (⟨by dsimp only; omega, by dsimp only; simp; omega, by dsimp only; rw [if_pos rfl, ← hinv]; simp⟩) (by first | omega | (dsimp only; omega)) (by repeat (first | exact SubF.nil | refine SubF.cons rfl ?_)) (by repeat (first | exact SubO.nil | refine SubO.cons rfl ?_)) rfl (Vw.le.refl _)
      ·
        simp only [Bool.and_eq_true, Bool.or_eq_true, Bool.not_eq_true', Bool.or_eq_false_iff, Bool.and_eq_false_iff, decide_eq_true_eq, decide_eq_false_iff_not, beq_iff_eq, bne_iff_ne, Bool.not_eq_false', beq_eq_false_iff_ne, bne_eq_false_iff_eq, ne_eq, Decidable.not_not, Int.not_lt, Int.not_le] at h
        have hno2 : ¬ (d = false ∧ th = false ∧ x.n < y.n) := fun ⟨h1, h2, h3⟩ => by simp [h1, h2] at h; omega
        clear h
        refine c_skip ?_
        refine x_then ?_
        refine c_region ?_
        refine o_yield rfl rfl rfl (y_val tok rfl) ?_
        refine o_yield rfl rfl rfl (y_val tok rfl) ?_
        refine o_yield rfl rfl rfl (y_val tok rfl) ?_
        have hlt_y := lt_of_at h_y
        refine o_yield rfl rfl rfl (y_idx tok rfl (fun hg => hs.sl) (fun hg => ⟨by omega, by omega⟩)) ?_
        refine o_yield rfl rfl rfl (y_lel tok (i) 0 (y) rfl (fun hg => hs) (fun hg => h_y) rfl rfl) ?_
        refine o_step rfl rfl rfl rfl rfl (s_bs tok 2 rfl rfl rfl) (fun _ _ => ?_)
        refine o_step rfl rfl rfl rfl rfl (s_app tok y.cells rfl (fun E w hm => ownsRow_src (hm.row _ _ _ _ _ rfl)) (fun _ _ _ => by simpa using blk_ones [y]) (by dsimp only; omega)) (fun _ _ => ?_)
        refine o_yield rfl rfl rfl (y_val tok rfl) ?_
        refine o_end [0, 3, 5, 7, 8, 9] rfl ?_
        refine x_block ?_
        refine x_then ?_
        refine c_region ?_
        refine o_yield rfl rfl rfl (y_val tok rfl) ?_
        refine o_yield rfl rfl rfl (y_val tok rfl) ?_
        refine o_yield rfl rfl rfl (y_val tok rfl) ?_
        refine o_end [0, 3, 5, 7, 8, 9] rfl ?_
        refine x_then ?_
        rw [hy.1, hy.2, hwi]
        refine k_swap 1 3 rfl ?_
        have hfin : O ++ [y] ++ (if d = true then l.drop (i + 1) else oneL th x (l.drop (i + 1))) = insS l x := by
          rw [← hinv]
          cases d with
          | false => rw [if_neg (by simp), if_neg (by simp), oneL, if_neg (fun c => hno ⟨rfl, c⟩), if_neg (fun c => hno2 ⟨rfl, c⟩)]; simp
          | true => simp
        refine x_round ((i + 1, d, O ++ [y])) (⟨by dsimp only; omega, by dsimp only; simp; omega, hfin⟩) (by first | omega | (dsimp only; omega)) (by repeat (first | exact SubF.nil | refine SubF.cons rfl ?_)) (by repeat (first | exact SubO.nil | refine SubO.cons rfl ?_)) rfl (Vw.le.refl _)
  ·
    simp only [Bool.and_eq_true, Bool.or_eq_true, Bool.not_eq_true', Bool.or_eq_false_iff, Bool.and_eq_false_iff, decide_eq_true_eq, decide_eq_false_iff_not, beq_iff_eq, bne_iff_ne, Bool.not_eq_false', beq_eq_false_iff_ne, bne_eq_false_iff_eq, ne_eq, Decidable.not_not, Int.not_lt, Int.not_le] at h
    have hil : i = l.length := by omega
    subst hil
    rw [List.drop_length] at hinv
    clear h
    refine c_exit ?_
    refine x_then_exit ?_
    refine x_then_exit ?_
    refine x_block_hit ?_
    refine x_then ?_
    refine c_seq ?_
    refine c_seq ?_
    refine c_region ?_
    refine o_yield rfl rfl rfl (y_val tok rfl) ?_
    refine o_yield rfl rfl rfl (y_val tok rfl) ?_
    refine o_end [3, 5, 70] rfl ?_
    refine x_then ?_
    refine c_cond rfl (fun h => ?_) (fun h => ?_)
    ·
      simp only [Bool.and_eq_true, Bool.or_eq_true, Bool.not_eq_true', Bool.or_eq_false_iff, Bool.and_eq_false_iff, decide_eq_true_eq, decide_eq_false_iff_not, beq_iff_eq, bne_iff_ne, Bool.not_eq_false', beq_eq_false_iff_ne, bne_eq_false_iff_eq, ne_eq, Decidable.not_not, Int.not_lt, Int.not_le] at h
      refine c_region ?_
      refine o_yield rfl rfl rfl (y_val tok rfl) ?_
      refine o_yield rfl rfl rfl (y_val tok rfl) ?_
      subst h
      have hx := app_row O x
      refine o_step rfl rfl rfl rfl rfl (s_bs tok 2 rfl rfl rfl) (fun _ _ => ?_)
      refine o_step rfl rfl rfl rfl rfl (s_app tok x.cells rfl (fun E w hm => ownsRow_src (hm.row _ _ _ _ _ rfl)) (fun _ _ _ => by simpa using blk_ones [x]) (by dsimp only; omega)) (fun _ _ => ?_)
      refine o_yield rfl rfl rfl (y_val tok rfl) ?_
      refine o_end [5] rfl ?_
      refine x_then ?_
      refine c_seq ?_
      refine c_region ?_
      refine o_yield rfl rfl rfl (y_val tok rfl) ?_
      refine o_yield rfl rfl rfl (y_val tok rfl) ?_
      refine o_end [4] rfl ?_
      refine x_then ?_
      refine c_ret ?_
      refine b_ret tok rfl ?_
      rw [if_neg (by simp), oneL] at hinv
      rw [hx.1, hx.2, hinv]
      intro E w' hm _
      exact ⟨⟨E.κ 3, rfl, hm.rowFresh (Vw.le.refl _) (l := 3) rfl⟩, hm.below (Vw.le.refl _)⟩
    ·
      simp only [Bool.and_eq_true, Bool.or_eq_true, Bool.not_eq_true', Bool.or_eq_false_iff, Bool.and_eq_false_iff, decide_eq_true_eq, decide_eq_false_iff_not, beq_iff_eq, bne_iff_ne, Bool.not_eq_false', beq_eq_false_iff_ne, bne_eq_false_iff_eq, ne_eq, Decidable.not_not, Int.not_lt, Int.not_le] at h
      refine c_skip ?_
      refine x_then ?_
      refine c_seq ?_
      refine c_region ?_
      refine o_yield rfl rfl rfl (y_val tok rfl) ?_
      refine o_yield rfl rfl rfl (y_val tok rfl) ?_
      refine o_end [4] rfl ?_
      refine x_then ?_
      refine c_ret ?_
      refine b_ret tok rfl ?_
      subst h
      rw [if_pos rfl, List.append_nil] at hinv
      rw [hinv]
      intro E w' hm _
      exact ⟨⟨E.κ 1, rfl, hm.rowFresh (Vw.le.refl _) (l := 1) rfl⟩, hm.below (Vw.le.refl _)⟩

def insAll (l more : List Block) : List Block := more.foldl insS l

theorem insS_len (l : List Block) (x : Block) : (insS l x).length ≤ l.length + 1 := oneL_len _ _ _

theorem insAll_len : ∀ (more l : List Block), (insAll l more).length ≤ l.length + more.length
  | [], l => by simp [insAll]
  | x :: r, l => by
    have := insAll_len r (insS l x)
    have := insS_len l x
    simp only [insAll, List.foldl_cons, List.length_cons] at *
    omega

theorem insAll_snoc (l more : List Block) (x : Block) : insAll l (more ++ [x]) = insS (insAll l more) x := by simp [insAll]

theorem take_succ_at' {α : Type} {l : List α} {i : Nat} {x : α} (h : l[i]? = some x) : l.take (i + 1) = l.take i ++ [x] := by
  rw [List.take_add_one, h]; rfl

theorem rput18_c (V : Vw) (sv mv : Value) (l more : List Block) (w : World) (hV : V.le (vw w)) (hs0 : SlOf V Block.cells 2 sv l) (hm0 : SlOf V Block.cells 2 mv more) (hn : l.length + more.length ≤ 1000) :
    Calls Try.prog 97 #[sv, mv] w (RowB (insAll l more) w) := by
  have hs := hs0.mono hV
  have hmo := hm0.mono hV
  refine enter (E := E0) (O := []) (nl := 0) (V := vw w) [.a (.v sv), .a (.v mv)] Try.func97 rfl rfl (mem0 E0 0 w) rfl rfl ?_
  refine c_seq ?_
  refine c_region ?_
  refine o_yield rfl rfl rfl (y_val tok rfl) ?_
  refine o_end [0, 1] rfl ?_
  refine x_then ?_
  refine c_seq ?_
  refine c_region ?_
  refine o_step rfl rfl rfl rfl rfl (s_bs tok 2 rfl rfl rfl) (fun _ _ => ?_)
  refine o_yield rfl rfl rfl (y_val tok rfl) ?_
  refine o_step rfl rfl rfl rfl rfl (s_app tok (l.flatMap Block.cells) rfl (fun E w hm => hs.sl.src hm.get) (fun _ _ _ => blk_ones _) (by dsimp only; omega)) (fun _ _ => ?_)
  refine o_yield rfl rfl rfl (y_val tok rfl) ?_
  refine o_end [1, 5] rfl ?_
  refine x_then ?_
  refine c_seq ?_
  refine c_seq ?_
  refine c_region ?_
  refine o_yield rfl rfl rfl (y_val tok rfl) ?_
  refine o_end [1, 5, 6] rfl ?_
  refine x_then ?_
  refine c_block ?_
  rw [List.nil_append, Nat.zero_add l.length]
  refine k_swap 0 1 rfl ?_
  have e0 : insAll l (more.take 0) = l := by simp [insAll]
  refine c_loopK [1] [0] rfl rfl (σ := Nat) (fun i => [(5, .a (.row 0)), (6, .a (.v (I i)))]) (fun i => [(0, .row 139 2 (insAll l (more.take i)).length ((insAll l (more.take i)).flatMap Block.cells))]) (fun i => i ≤ more.length) (fun i => more.length - i) (0) (by omega) (by repeat (first | exact SubF.nil | refine SubF.cons rfl ?_ | refine SubF.cons (by simp only [e0]; first | done | rfl) ?_)) (by repeat (first | exact SubO.nil | refine SubO.cons rfl ?_ | refine SubO.cons (by simp only [e0]; first | done | rfl) ?_)) rfl ?_
  rintro i hi
  refine c_seq ?_
  refine c_seq ?_
  refine c_region ?_
  refine o_yield rfl rfl rfl (y_val tok rfl) ?_
  refine o_yield rfl rfl rfl (y_val tok rfl) ?_
  refine o_yield rfl rfl rfl (y_len tok rfl (fun hg => hmo.sl)) ?_
  refine o_yield rfl rfl rfl (y_val tok rfl) ?_
  refine o_end [1, 5, 6, 13] rfl ?_
  refine x_then ?_
  refine c_cond rfl (fun h => ?_) (fun h => ?_)
  ·
    simp only [Bool.and_eq_true, Bool.or_eq_true, Bool.not_eq_true', Bool.or_eq_false_iff, Bool.and_eq_false_iff, decide_eq_true_eq, decide_eq_false_iff_not, beq_iff_eq, bne_iff_ne, Bool.not_eq_false', beq_eq_false_iff_ne, bne_eq_false_iff_eq, ne_eq, Decidable.not_not, Int.not_lt, Int.not_le] at h
    refine c_skip ?_
    refine x_then ?_
    refine c_seq ?_
    refine c_block ?_
    refine c_region ?_
    refine o_yield rfl rfl rfl (y_val tok rfl) ?_
    refine o_yield rfl rfl rfl (y_val tok rfl) ?_
    refine o_yield rfl rfl rfl (y_val tok rfl) ?_
    obtain ⟨y, h_y⟩ := hmo.at (k := i) (by omega)
    have hwi : IntKind.i64.wrap ((i : Int) + 1) = ((i + 1 : Nat) : Int) := wrapI (by omega) (by omega)
    have hsn : insAll l (more.take (i + 1)) = insS (insAll l (more.take i)) y := by rw [take_succ_at' h_y, insAll_snoc]
    have hlen := insAll_len (more.take i) l
    have hti : (more.take i).length = i := by rw [List.length_take]; omega
    generalize insAll l (more.take i) = L at *
    have hlt_y := lt_of_at h_y
    refine o_yield rfl rfl rfl (y_idx tok rfl (fun hg => hmo.sl) (fun hg => ⟨by omega, by omega⟩)) ?_
    refine o_yield rfl rfl rfl (y_lel tok (i) 0 (y) rfl (fun hg => hmo) (fun hg => h_y) rfl rfl) ?_
    refine o_step rfl rfl rfl rfl rfl (s_callRow 139 2 (insS L y).length ((insS L y).flatMap Block.cells) rfl fnok185 (fun E w hm => (rone_c (vw w) _ L y w (Vw.le.refl _) (hm.rowOf 0 rfl (fun _ => rfl)) (by omega)).mono (fun e w' ⟨⟨v, he, ho⟩, hb⟩ => ⟨v, he, ho, hb⟩))) (fun _ _ => ?_)
    refine o_yield rfl rfl rfl (y_val tok rfl) ?_
    refine o_end [1, 5, 6] rfl ?_
    refine x_block ?_
    refine x_then ?_
    refine c_region ?_
    refine o_yield rfl rfl rfl (y_val tok rfl) ?_
    refine o_yield rfl rfl rfl (y_val tok rfl) ?_
    refine o_yield rfl rfl rfl (y_val tok rfl) ?_
    refine o_end [1, 5, 6] rfl ?_
    refine x_then ?_
    rw [← hsn, hwi]
    refine k_swap 0 2 rfl ?_
    refine x_round (i + 1) (by omega) (by first | omega | (dsimp only; omega)) (by repeat (first | exact SubF.nil | refine SubF.cons rfl ?_)) (by repeat (first | exact SubO.nil | refine SubO.cons rfl ?_)) rfl (Vw.le.refl _)
  ·
    simp only [Bool.and_eq_true, Bool.or_eq_true, Bool.not_eq_true', Bool.or_eq_false_iff, Bool.and_eq_false_iff, decide_eq_true_eq, decide_eq_false_iff_not, beq_iff_eq, bne_iff_ne, Bool.not_eq_false', beq_eq_false_iff_ne, bne_eq_false_iff_eq, ne_eq, Decidable.not_not, Int.not_lt, Int.not_le] at h
    refine c_exit ?_
    refine x_then_exit ?_
    refine x_then_exit ?_
    refine x_block_hit ?_
    refine x_then ?_
    refine c_seq ?_
    refine c_region ?_
    refine o_yield rfl rfl rfl (y_val tok rfl) ?_
    refine o_yield rfl rfl rfl (y_val tok rfl) ?_
    refine o_end [4] rfl ?_
    refine x_then ?_
    refine c_ret ?_
    refine b_ret tok rfl ?_
    have hil : i = more.length := by omega
    subst hil
    rw [List.take_length]
    intro E w' hm _
    exact ⟨⟨E.κ 0, rfl, hm.rowFresh (Vw.le.refl _) (l := 0) rfl⟩, hm.below (Vw.le.refl _)⟩

theorem rmerge_c (V : Vw) (sv mv : Value) (l more : List Block) (w : World) (hV : V.le (vw w)) (hs0 : SlOf V Block.cells 2 sv l) (hm0 : SlOf V Block.cells 2 mv more) (hn : l.length + more.length ≤ 1000) :
    Calls Try.prog 23 #[sv, mv] w (RowB (insAll l more) w) := by
  have hs := hs0.mono hV
  have hmo := hm0.mono hV
  refine enter (E := E0) (O := []) (nl := 0) (V := vw w) [.a (.v sv), .a (.v mv)] Try.func23 rfl rfl (mem0 E0 0 w) rfl rfl ?_
  refine c_seq ?_
  refine c_region ?_
  refine o_yield rfl rfl rfl (y_val tok rfl) ?_
  refine o_end [0, 1] rfl ?_
  refine x_then ?_
  refine c_seq ?_
  refine c_region ?_
  refine o_yield rfl rfl rfl (y_val tok rfl) ?_
  refine o_yield rfl rfl rfl (y_val tok rfl) ?_
  refine o_step rfl rfl rfl rfl rfl (s_callRow 139 2 (insAll l more).length ((insAll l more).flatMap Block.cells) rfl fnok97 (fun E w1 hm => (rput18_c (vw w1) _ _ l more w1 (Vw.le.refl _) (hs.mono hm.leV) (hmo.mono hm.leV) hn).mono (fun e w' ⟨⟨v, he, ho⟩, hb⟩ => ⟨v, he, ho, hb⟩))) (fun _ _ => ?_)
  refine o_yield rfl rfl rfl (y_val tok rfl) ?_
  refine o_end [4] rfl ?_
  refine x_then ?_
  refine c_ret ?_
  refine b_ret tok rfl ?_
  intro E w' hm _
  exact ⟨⟨E.κ 0, rfl, hm.rowFresh (Vw.le.refl _) (l := 0) rfl⟩, hm.below (Vw.le.refl _)⟩

def RowBV (L : List Block) (x : Value) (V' : Vw) : Prop := ∃ a n c, x = .slice a n c ∧ SlOf V' Block.cells 2 (.slice a n c) L

theorem rowB_V {V : Vw} {f : Nat} {L : List Block} {args : Array Value} {w : World} (hV : V.le (vw w)) (h : Calls Try.prog f args w (RowB L w)) :
    Calls Try.prog f args w fun e w' => ∃ x V', e = .returned x ∧ Below w.heap.size w w' ∧ Vext w.heap.size V V' w' ∧ RowBV L x V' := by
  refine h.mono ?_
  rintro e w' ⟨⟨v, rfl, hown⟩, hb⟩
  obtain ⟨V', hx, hsl⟩ := ownsRow_vext hV hb hown
  obtain ⟨a, n, c, rfl⟩ := sl_shape hsl
  exact ⟨_, V', rfl, hb, hx, a, n, c, rfl, hsl, fun _ => rfl⟩

/-! Rows that rise, written as what stands at each number. -/

def mkF (f : Int → Option ByteArray) (a : Int) : Nat → List Block
  | 0 => []
  | k + 1 => (match f a with | some t => [⟨a, t⟩] | none => []) ++ mkF f (a + 1) k

def updF (f : Int → Option ByteArray) (x : Block) (n : Int) : Option ByteArray := if n = x.n then some x.text else f n

theorem mkF_congr {f g : Int → Option ByteArray} : ∀ (k : Nat) (a : Int), (∀ n, a ≤ n → n < a + k → f n = g n) → mkF f a k = mkF g a k
  | 0, _, _ => rfl
  | k + 1, a, h => by rw [mkF, mkF, h a (by omega) (by omega), mkF_congr k (a + 1) (fun n h1 h2 => h n (by omega) (by omega))]

theorem mkF_n {f : Int → Option ByteArray} : ∀ (k : Nat) (a : Int) (b : Block), b ∈ mkF f a k → a ≤ b.n
  | 0, _, _, h => by simp [mkF] at h
  | k + 1, a, b, h => by
    rw [mkF, List.mem_append] at h
    rcases h with h | h
    · cases hf : f a with
      | none => rw [hf] at h; simp at h
      | some t => rw [hf] at h; simp at h; subst h; simp
    · have := mkF_n k (a + 1) b h
      omega

theorem getF {f : Int → Option ByteArray} {n : Int} : ∀ (k : Nat) (a : Int), a ≤ n → n < a + k → (getB (mkF f a k) n).2 = (f n).isSome
  | 0, a, h1, h2 => by omega
  | k + 1, a, h1, h2 => by
    rw [mkF]
    by_cases e : a = n
    · subst e
      cases hf : f a with
      | some t => simp [getB]
      | none =>
        simp only [List.nil_append, Option.isSome]
        have h3 := mkF_n (f := f) k (a + 1)
        generalize mkF f (a + 1) k = l at *
        induction l with
        | nil => rfl
        | cons b r ih =>
          have := h3 b (by simp)
          rw [getB, if_neg (show ¬ b.n = a by omega)]
          exact ih (fun b hb => h3 b (by simp [hb]))
    · have ih := getF (f := f) (n := n) k (a + 1) (by omega) (by omega)
      cases hf : f a with
      | some t => simp only [List.singleton_append]; rw [getB, if_neg e, ih]
      | none => simpa using ih

theorem oneF {f : Int → Option ByteArray} {x : Block} : ∀ (k : Nat) (a : Int), a ≤ x.n → x.n < a + k → oneL (f x.n).isSome x (mkF f a k) = mkF (updF f x) a k
  | 0, a, h1, h2 => by omega
  | k + 1, a, h1, h2 => by
    rw [mkF, mkF]
    by_cases e : a = x.n
    · have hr : mkF (updF f x) (a + 1) k = mkF f (a + 1) k := mkF_congr k (a + 1) fun n h3 h4 => by rw [updF, if_neg (by omega)]
      have hu : updF f x a = some x.text := by rw [updF, if_pos e]
      rw [hr, hu]
      subst e
      cases hf : f x.n with
      | some t => simp [oneL]
      | none =>
        simp only [List.nil_append, Option.isSome, List.singleton_append]
        have h3 := mkF_n (f := f) k (x.n + 1)
        generalize mkF f (x.n + 1) k = l at *
        cases l with
        | nil => rfl
        | cons b r =>
          have := h3 b (by simp)
          rw [oneL, if_neg (by simp), if_pos ⟨rfl, (show x.n < b.n by omega)⟩]
    · have hu : updF f x a = f a := by rw [updF, if_neg e]
      have ih := oneF (f := f) (x := x) k (a + 1) (by omega) (by omega)
      rw [hu]
      cases hf : f a with
      | some t => simp only [List.singleton_append]; rw [oneL, if_neg (fun c => e c.2), if_neg (fun c => by have := c.2; dsimp only at this; omega), ih]
      | none => simpa using ih

theorem insF {f : Int → Option ByteArray} {x : Block} {k : Nat} (h1 : 0 ≤ x.n) (h2 : x.n < k) : insS (mkF f 0 k) x = mkF (updF f x) 0 k := by
  rw [insS, getF k 0 h1 (by omega)]
  exact oneF k 0 h1 (by omega)

theorem insAllF {k : Nat} : ∀ (more : List Block) (f : Int → Option ByteArray), (∀ x ∈ more, 0 ≤ x.n ∧ x.n < k) → insAll (mkF f 0 k) more = mkF (more.foldl updF f) 0 k
  | [], f, _ => rfl
  | x :: r, f, h => by
    rw [insAll, List.foldl_cons, List.foldl_cons, insF (h x (by simp)).1 (h x (by simp)).2]
    exact insAllF r _ (fun y hy => h y (by simp [hy]))

theorem mkF_len (f : Int → Option ByteArray) : ∀ (k : Nat) (a : Int), (mkF f a k).length ≤ k
  | 0, _ => by simp [mkF]
  | k + 1, a => by
    have := mkF_len f k (a + 1)
    rw [mkF]
    cases f a <;> simp <;> omega

theorem mkF_none (k : Nat) (a : Int) : mkF (fun _ => none) a k = [] := by
  induction k generalizing a with
  | zero => rfl
  | succ k ih => rw [mkF, ih]; rfl

theorem mkF_snoc (f : Int → Option ByteArray) : ∀ (k : Nat) (a : Int), mkF f a (k + 1) = mkF f a k ++ (match f (a + k) with | some t => [⟨a + k, t⟩] | none => [])
  | 0, a => by simp [mkF]
  | k + 1, a => by
    rw [mkF, mkF_snoc f k (a + 1), mkF, List.append_assoc]
    rw [show a + 1 + (k : Int) = a + ((k + 1 : Nat) : Int) by omega]
end Go.Proofs.Ytflimioplnbopaa
