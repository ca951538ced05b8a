import Derived.Test.YtanekcndpkagiaaMPut
import Derived.Test.YtanekcndpkagiaaEng28
/- Sealed numbers are read back; a sector of which one byte was turned is none: plain law. -/
set_option linter.unusedVariables false
set_option linter.unusedSimpArgs false
set_option maxRecDepth 100000
namespace Go.Proofs.Ytanekcndpkagiaa
open Go Go.Eng Go.RowKit

theorem leTo_congr_lt {f g : Nat → Nat} : ∀ {k : Nat}, (∀ j, j < k → f j = g j) → leTo f k = leTo g k
  | 0, _ => rfl
  | k + 1, h => by rw [leTo, leTo, leTo_congr_lt (fun j hj => h j (by omega)), h k (by omega)]

theorem leTo_digits (q : Nat) : ∀ k, leTo (fun j => q / pw j % 256) k = q % pw k
  | 0 => by simp [leTo, pw, Nat.mod_one]
  | k + 1 => by
    rw [leTo, leTo_digits q k, pw_succ, Nat.mod_mul, Nat.mul_comm (pw k)]

theorem strOf_append (a b : List UInt8) : strOf (a ++ b) = strOf a ++ strOf b := by
  apply str_ext
  simp [strOf]

theorem fits_nat {n k : Int} (h : fitsB n k = true) : ∃ q m : Nat, n = q ∧ k = m ∧ 1 ≤ m ∧ m ≤ 6 ∧ q < pw m ∧ q ≤ 1099511627776 := by
  simp only [fitsB, widthB, Bool.and_eq_true, decide_eq_true_eq] at h
  obtain ⟨⟨⟨h1, h2⟩, h3⟩, h4⟩ := h
  refine ⟨n.toNat, k.toNat, by omega, by omega, by omega, by omega, ?_, ?_⟩
  · have := pw_pos k.toNat
    unfold mostN at h4
    unfold pw
    unfold pw at this
    omega
  · unfold mostN at h4; omega

/-- A number that fits is read back. -/
theorem getSpec_pack {n k : Int} (h : fitsB n k = true) (R : List UInt8) : getSpec (strOf (leB k n ++ R)) 0 k = (n, 0) := by
  have hw : widthB k = true := by
    simp only [fitsB, Bool.and_eq_true] at h; exact h.1.1
  obtain ⟨q, m, rfl, rfl, h1, h2, h3, h4⟩ := fits_nat h
  have hd : leTo (digit (strOf (leB m q ++ R)) (0 : Int).toNat) (m : Int).toNat = q := by
    rw [Int.toNat_natCast, leTo_congr_lt (g := fun j => q / pw j % 256) (fun j hj => ?_), leTo_digits, Nat.mod_eq_of_lt h3]
    rw [digit, byteAt_list, strOf_list]
    have hlen : j < (leB (m : Int) (q : Int)).length := by rw [leB, leTake_len]; exact hj
    rw [List.getD, List.getElem?_append_left (by simpa using hlen)]
    simp only [leB, leTake, Int.toNat_natCast, Int.toNat_zero, Nat.zero_add, List.getElem?_map, List.getElem?_range hj, Option.map_some, Option.getD_some]
    exact ofNat_mod _
  rw [getSpec, if_neg (by simp [hw]), hd, if_neg (by rw [strOf_size, List.length_append, leB, leTake_len]; omega), if_neg (by omega)]

theorem restOf_pack (n k : Int) (R : List UInt8) : restOf (strOf (leB k n ++ R)) k.toNat = strOf R := by
  apply str_ext
  rw [restOf_list, strOf_list, strOf_list, List.drop_left']
  rw [leB, leTake_len]

theorem fldA_pack : ∀ (ks ns acc : List Int) (R : List UInt8), ks.length = ns.length → (∀ (i : Nat) (k n : Int), ks[i]? = some k → ns[i]? = some n → fitsB n k = true) → fldA acc (strOf (packL ks ns ++ R)) ks = some (acc ++ ns, strOf R)
  | [], [], acc, R, _, _ => by simp [fldA, packL]
  | k :: ks, n :: ns, acc, R, hl, h => by
    have h0 := h 0 k n rfl rfl
    rw [packL, List.append_assoc, fldA, getSpec_pack h0, if_neg (by simp), restOf_pack, fldA_pack ks ns (acc ++ [n]) R (by simpa using hl) (fun i k n hk hn => h (i + 1) k n (by simpa using hk) (by simpa using hn))]
    simp
  | [], _ :: _, _, _, hl, _ => by simp at hl
  | _ :: _, [], _, _, hl, _ => by simp at hl

theorem seal_shape (k : UInt8) (load : List UInt8) : ∃ b1 b2 T, sealL k load = k :: b1 :: b2 :: (load ++ T) ∧ T.length = 4 := by
  refine ⟨UInt8.ofNat (load.length / pw 0 % 256), UInt8.ofNat (load.length / pw 1 % 256), leTake (crcOf (body k load)) 4, ?_, leTake_len _ _⟩
  obtain ⟨c, hc⟩ : ∃ c, leTake (crcOf (body k load)) 4 = c := ⟨_, rfl⟩
  rw [sealL, hc, body_eq]
  rfl

theorem loadOf_seal (k : UInt8) (load : List UInt8) : loadOf (strOf (sealL k load)) = strOf load := by
  obtain ⟨b1, b2, T, h1, h2⟩ := seal_shape k load
  have hsz : (strOf (sealL k load)).size = 7 + load.length := by rw [strOf_size, sealL_len]
  apply str_ext
  rw [loadOf, ByteArray.data_extract, Array.toList_extract, List.extract_eq_take_drop, hsz, strOf_list, strOf_list, h1, show 7 + load.length - 4 - 3 = load.length by omega]
  simp

theorem byteAt_seal (k : UInt8) (load : List UInt8) : byteAt (strOf (sealL k load)) 0 = k := by
  obtain ⟨b1, b2, T, h1, _⟩ := seal_shape k load
  rw [byteAt_list, strOf_list, h1]
  rfl

theorem openB_seal {k : UInt8} {load : List UInt8} (h1 : 1 ≤ k.toNat) (h2 : k.toNat ≤ 127) (h3 : load.length ≤ 505) : openB (strOf (sealL k load)) = true := by
  have hsz : (strOf (sealL k load)).size = 7 + load.length := by rw [strOf_size, sealL_len]
  simp only [openB, Bool.and_eq_true, decide_eq_true_eq]
  rw [byteAt_seal, loadOf_seal, strOf_list, strOf_list, hsz]
  exact ⟨⟨⟨⟨by omega, by omega⟩, h1⟩, h2⟩, rfl⟩

theorem leTake_inj {a b : Nat} (ha : a < 4294967296) (hb : b < 4294967296) (h : leTake a 4 = leTake b 4) : a = b := by
  have hl := leTake_len b 4
  match hq : leTake b 4, hl with
  | [c0, c1, c2, c3], _ =>
    have h1 := (four_eq ha c0 c1 c2 c3).1 (h.trans hq)
    have h2 := (four_eq hb c0 c1 c2 c3).1 hq
    omega

theorem open_cut {s : ByteArray} (h : openB s = true) : s.data.toList.drop (s.size - 4) = leTake (crcOf (s.data.toList.take (s.size - 4))) 4 := by
  simp only [openB, Bool.and_eq_true, decide_eq_true_eq] at h
  obtain ⟨⟨⟨⟨h1, h2⟩, h3⟩, h4⟩, h5⟩ := h
  have hl := body_len (byteAt s 0) (loadOf s).data.toList
  have hls : (loadOf s).data.toList.length = s.size - 7 := by rw [size_list, loadOf, ByteArray.size_extract]; omega
  rw [← h5, sealL, List.take_left' (by omega), List.drop_left' (by omega)]

/-- One byte turned: no sector any more. -/
theorem open_flip {s s' : ByteArray} (h : openB s = true) {A R : List UInt8} {b c : UInt8} (hs : s.data.toList = A ++ b :: R) (hs' : s'.data.toList = A ++ c :: R) (hne : b ≠ c) : openB s' = false := by
  rw [Bool.eq_false_iff]
  intro h'
  have hz : s'.size = s.size := by rw [← size_list, ← size_list, hs, hs']; simp
  have e1 := open_cut h
  have e2 := open_cut h'
  rw [hz] at e2
  obtain ⟨n, hn⟩ : ∃ n, s.size - 4 = n := ⟨_, rfl⟩
  rw [hn] at e1 e2
  rw [hs] at e1
  rw [hs'] at e2
  by_cases hA : A.length < n
  · obtain ⟨j, hj⟩ : ∃ j, n = A.length + (j + 1) := ⟨n - A.length - 1, by omega⟩
    have ht : ∀ d : UInt8, (A ++ d :: R).take n = A ++ d :: R.take j := fun d => by rw [hj, List.take_append, List.take_of_length_le (by omega), Nat.add_sub_cancel_left, List.take_succ_cons]
    have hd : ∀ d : UInt8, (A ++ d :: R).drop n = R.drop j := fun d => by rw [hj, List.drop_append, List.drop_of_length_le (by omega), Nat.add_sub_cancel_left, List.drop_succ_cons, List.nil_append]
    rw [ht, hd] at e1 e2
    exact crcOf_ne A (R.take j) hne (leTake_inj (crcOf_lt _) (crcOf_lt _) (e1.symm.trans e2))
  · have ht : ∀ d : UInt8, (A ++ d :: R).take n = A.take n := fun d => List.take_append_of_le_length (by omega)
    rw [ht] at e1 e2
    have h3 : (A ++ b :: R) = (A ++ c :: R) := by
      rw [← List.take_append_drop n (A ++ b :: R), ← List.take_append_drop n (A ++ c :: R), ht, ht, e1, e2]
    simp only [List.append_cancel_left_eq, List.cons.injEq, and_true] at h3
    exact hne h3

theorem kind6 : kindOf8 6 = 6 := by decide

/-- A record's sector is read as it. -/
theorem fields_rec {r : Record} (ok : RecOk r) : fieldsR 6 (recBytes r) rWidths = some (rNums r, r.text) := by
  have h17 := rec_pack17 r
  have ht := ok.text
  have hl : (packL rWidths (rNums r) ++ r.text.data.toList).length ≤ 505 := by rw [List.length_append, size_list]; omega
  have ho : openB (recBytes r) = true := openB_seal (by decide) (by decide) hl
  have hof : ofB 6 (recBytes r) = true := by
    rw [ofB, ho, recBytes, byteAt_seal]; rfl
  rw [fieldsR, if_pos hof, recBytes, loadOf_seal, fldA_pack rWidths (rNums r) [] r.text.data.toList rfl (rec_fits ok), strOf_data]
  rfl

theorem read_rec {r : Record} (h : recB r = true) : readB (recBytes r) = true ∧ readV (recBytes r) = r ∧ readE (recBytes r) = 0 := by
  have hf := fields_rec (recOk h)
  have h1 : readB (recBytes r) = true := by
    rw [readB, hf]; exact h
  refine ⟨h1, ?_, by rw [readE, if_pos h1]⟩
  rw [readV, if_pos h1, hf]
  rfl

theorem read_flip {r : Record} (h : recB r = true) {s' : ByteArray} {A R : List UInt8} {b c : UInt8} (hs : (recBytes r).data.toList = A ++ b :: R) (hs' : s'.data.toList = A ++ c :: R) (hne : b ≠ c) : readE s' = 50 := by
  have ok := recOk h
  have h17 := rec_pack17 r
  have ht := ok.text
  have hl : (packL rWidths (rNums r) ++ r.text.data.toList).length ≤ 505 := by rw [List.length_append, size_list]; omega
  have ho : openB (recBytes r) = true := openB_seal (by decide) (by decide) hl
  have hno := open_flip ho hs hs' hne
  have hf : fieldsR 6 s' rWidths = none := by rw [fieldsR, if_neg (by simp [ofB, hno])]
  rw [readE, if_neg (by simp [readB, hf])]

/-- A byte of which one bit is turned is another byte. -/
theorem byte_turn (x : UInt8) (j : Nat) (hj : j < 8) : ∃ c : UInt8, c ≠ x ∧ bits .xor .u8 ((x.toNat : Nat) : Int) (IntKind.u8.wrap (1 * 2 ^ j)) = ((c.toNat : Nat) : Int) := by
  have hp : (2 : Nat) ^ j < 256 := Nat.lt_of_lt_of_le (Nat.pow_lt_pow_right (by omega) hj) (by decide)
  have hx := UInt8.toNat_lt x
  have e : IntKind.u8.wrap (1 * 2 ^ j) = ((2 ^ j : Nat) : Int) := by
    rw [Int.one_mul, show (2 : Int) ^ j = ((2 ^ j : Nat) : Int) by norm_cast, wrapU8 hp]
  have hlt : x.toNat ^^^ 2 ^ j < 256 := Nat.xor_lt_two_pow (n := 8) hx hp
  refine ⟨UInt8.ofNat (x.toNat ^^^ 2 ^ j), fun h => ?_, ?_⟩
  · have h1 := congrArg UInt8.toNat h
    rw [UInt8.toNat_ofNat', Nat.mod_eq_of_lt (by omega)] at h1
    have h2 : (x.toNat ^^^ 2 ^ j) = x.toNat ^^^ 0 := by rw [h1, Nat.xor_zero]
    have h3 := xor_cancel_l h2
    have := Nat.pow_pos (n := j) (show 0 < 2 by omega)
    omega
  · rw [e, u8_xor_nat _ _ hx hp, UInt8.toNat_ofNat', Nat.mod_eq_of_lt (by omega)]

theorem list_split {L : List UInt8} {i : Nat} {b : UInt8} (h : L[i]? = some b) : L = L.take i ++ b :: L.drop (i + 1) ∧ ∀ c, L.set i c = L.take i ++ c :: L.drop (i + 1) := by
  have hlt := (List.getElem?_eq_some_iff.1 h).1
  have hb := (List.getElem?_eq_some_iff.1 h).2
  constructor
  · conv => lhs; rw [← List.take_append_drop i L, List.drop_eq_getElem_cons hlt, hb]
  · intro c
    rw [List.set_eq_take_append_cons_drop, if_pos hlt]
end Go.Proofs.Ytanekcndpkagiaa

/- The law RecordBack from what comes in. -/
set_option linter.unusedVariables false
set_option linter.unusedSimpArgs false
set_option maxRecDepth 100000
namespace Go.Proofs.Ytanekcndpkagiaa
open Go Go.Eng Go.RowKit

theorem is_rec {r : Record} (h : recB r = true) (key lsn : Int) : isB (recBytes r) key lsn = (decide (r.key = key) && decide (r.lsn = lsn)) := by
  obtain ⟨h1, h2, _⟩ := read_rec h
  rw [isB, h1, h2, Bool.true_and]

theorem recBytes_size {r : Record} (ok : RecOk r) : (recBytes r).size = 24 + r.text.size := by
  rw [recBytes, strOf_size, sealL_len, List.length_append, rec_pack17, size_list]; omega

end Go.Proofs.Ytanekcndpkagiaa

/- Rows of blocks: the program's, and the document's. -/
set_option linter.unusedVariables false
set_option linter.unusedSimpArgs false
set_option maxRecDepth 100000
namespace Go.Proofs.Ytanekcndpkagiaa
open Go Go.Eng Go.RowKit

theorem hasFn_c (b : Block) (k : Int) (bk : Nat) (w : World) (hk : w.heap[bk]? = some (.cells [I k].toArray 3 (0, 0))) :
    Calls Try.prog 146 #[b.val, .pointer (some ⟨bk, 0, none⟩)] w fun e w' => e = .returned (.bool (b.n == k)) ∧ Below w.heap.size w w' := by
  refine enter1 [.a (.v b.val), .a (.ptr 0 0)] hk Try.func146 rfl rfl rfl rfl ?_
  refine c_seq ?_
  refine c_region ?_
  refine o_new tok rfl rfl rfl rfl ?_
  refine o_yield rfl rfl rfl (y_val tok rfl) ?_
  refine o_end [1, 2] rfl ?_
  refine x_then ?_
  refine c_seq ?_
  refine c_region ?_
  refine o_yield rfl rfl rfl (y_val tok rfl) ?_
  refine o_yield rfl rfl rfl (y_val tok rfl) ?_
  refine o_yield rfl rfl rfl (y_val tok rfl) ?_
  refine o_yield rfl rfl rfl (y_val tok rfl) ?_
  refine o_yield rfl rfl rfl (y_val tok rfl) ?_
  refine o_end [3] rfl ?_
  refine x_then ?_
  refine c_ret ?_
  refine b_ret tok rfl ?_
  intro E w' hm _
  exact ⟨rfl, below1 hk hm (Vw.le.refl _) rfl rfl rfl⟩

/-- A function value that tells pr, wherever V is read. -/
def TellsB (V : Vw) (fv : Value) (pr : Block → Bool) : Prop :=
  ∀ (x : Block) w', V.le (vw w') → CallsFn Try.prog fv [x.val] w' fun e w'' => e = .returned (.bool (pr x)) ∧ Below w'.heap.size w' w''

/-- The first block of which pr is told. -/
def idxB (pr : Block → Bool) : List Block → Nat → Int
  | [], _ => -1
  | b :: r, i => if pr b = true then i else idxB pr r (i + 1)

theorem indexB_c (V : Vw) (fv sv : Value) (pr : Block → Bool) (l : List Block) (w : World) (hV : V.le (vw w)) (hs0 : SlOf V Block.cells 2 sv l) (hn : l.length ≤ 4398046511104) (hf : TellsB V fv pr) :
    Calls Try.prog 143 #[sv, fv] w fun e w' => e = .returned (I (idxB pr l 0)) ∧ Below w.heap.size w w' := by
  have hs := hs0.mono hV
  refine enter (E := E0) (O := []) (nl := 0) (V := vw w) [.a (.v sv), .a (.v fv)] Try.func143 rfl rfl (mem0 E0 0 w) rfl rfl ?_
  refine c_seq ?_
  refine c_region ?_
  refine o_yield rfl rfl rfl (y_val tok rfl) ?_
  refine o_end [0, 1] rfl ?_
  refine x_then ?_
  refine c_seq ?_
  refine c_seq ?_
  refine c_region ?_
  refine o_yield rfl rfl rfl (y_val tok rfl) ?_
  refine o_yield rfl rfl rfl (y_len tok rfl (fun hg => hs.sl)) ?_
  refine o_yield rfl rfl rfl (y_val tok rfl) ?_
  refine o_end [0, 1, 7, 8] rfl ?_
  refine x_then ?_
  refine c_block ?_
  refine c_loopK [0, 1, 7] [] rfl rfl (σ := Nat) (fun k => [(8, .a (.v (I k)))]) (fun k => []) (fun k => k ≤ l.length ∧ idxB pr l 0 = idxB pr (l.drop k) k) (fun k => l.length - k) (0) (⟨by omega, rfl⟩) (by repeat (first | exact SubF.nil | refine SubF.cons rfl ?_)) (by repeat (first | exact SubO.nil | refine SubO.cons rfl ?_)) rfl ?_
  rintro k ⟨hk, heq⟩
  refine c_seq ?_
  refine c_region ?_
  refine o_yield rfl rfl rfl (y_val tok rfl) ?_
  refine o_end [0, 1, 7, 8, 9] rfl ?_
  refine x_then ?_
  refine c_seq ?_
  refine c_cond rfl (fun h => ?_) (fun h => ?_)
  ·
    simp only [Bool.and_eq_true, Bool.or_eq_true, Bool.not_eq_true', Bool.or_eq_false_iff, Bool.and_eq_false_iff, decide_eq_true_eq, decide_eq_false_iff_not, beq_iff_eq, bne_iff_ne, Bool.not_eq_false', beq_eq_false_iff_ne, bne_eq_false_iff_eq, ne_eq, Decidable.not_not, Int.not_lt, Int.not_le] at h
    refine c_skip ?_
    refine x_then ?_
    refine c_seq ?_
    refine c_block ?_
    refine c_seq ?_
    refine c_region ?_
    refine o_yield rfl rfl rfl (y_val tok rfl) ?_
    refine o_yield rfl rfl rfl (y_val tok rfl) ?_
    refine o_end [0, 1, 5, 7, 8] rfl ?_
    refine x_then ?_
    refine c_seq ?_
    refine c_region ?_
    refine o_yield rfl rfl rfl (y_val tok rfl) ?_
    refine o_yield rfl rfl rfl (y_val tok rfl) ?_
    refine o_yield rfl rfl rfl (y_val tok rfl) ?_
    obtain ⟨x, h_x⟩ := hs.at (k := k) (by omega)
    have hlt_x := lt_of_at h_x
    refine o_yield rfl rfl rfl (y_idx tok rfl (fun hg => hs.sl) (fun hg => ⟨by omega, by omega⟩)) ?_
    refine o_yield rfl rfl rfl (y_lel tok (k) 0 (x) rfl (fun hg => hs) (fun hg => h_x) rfl rfl) ?_
    rw [drop_at h_x, idxB] at heq
    refine o_callF (.a (.v _)) rfl rfl rfl rfl rfl (fun hg E w1 hm => by exact hf x w1 (hV.trans hm.leV)) ?_
    refine o_end [0, 1, 5, 7, 8, 16] rfl ?_
    refine x_then ?_
    refine c_cond rfl (fun h => ?_) (fun h => ?_)
    ·
      refine c_seq ?_
      refine c_region ?_
      refine o_yield rfl rfl rfl (y_val tok rfl) ?_
      refine o_yield rfl rfl rfl (y_val tok rfl) ?_
      refine o_end [4] rfl ?_
      refine x_then ?_
      refine c_ret ?_
      refine x_block_ret ?_
      refine x_then_ret ?_
      refine x_then_ret ?_
      refine x_block_ret ?_
      refine x_then_ret ?_
      refine b_ret tok rfl ?_
      rw [if_pos h] at heq
      intro E w' hm _
      refine ⟨?_, hm.below (Vw.le.refl _)⟩
      rw [heq]; rfl
    ·
      refine c_skip ?_
      refine x_block ?_
      refine x_then ?_
      refine c_region ?_
      refine o_yield rfl rfl rfl (y_val tok rfl) ?_
      refine o_yield rfl rfl rfl (y_val tok rfl) ?_
      refine o_end [0, 1, 7, 8] rfl ?_
      refine x_then ?_
      rw [if_neg (by simp [h])] at heq
      rw [wrapI (n := (k : Int) + 1) (by omega) (by omega)]
      refine x_round (k + 1) (⟨by omega, heq⟩) (by first | omega | (dsimp only; omega)) (by repeat (first | exact SubF.nil | refine SubF.cons rfl ?_)) (by repeat (first | exact SubO.nil | refine SubO.cons rfl ?_)) rfl (Vw.le.refl _)
  ·
    simp only [Bool.and_eq_true, Bool.or_eq_true, Bool.not_eq_true', Bool.or_eq_false_iff, Bool.and_eq_false_iff, decide_eq_true_eq, decide_eq_false_iff_not, beq_iff_eq, bne_iff_ne, Bool.not_eq_false', beq_eq_false_iff_ne, bne_eq_false_iff_eq, ne_eq, Decidable.not_not, Int.not_lt, Int.not_le] at h
    refine c_exit ?_
    refine x_then_exit ?_
    refine x_then_exit ?_
    refine x_block_hit ?_
    refine x_then ?_
    refine c_seq ?_
    refine c_region ?_
    refine o_yield rfl rfl rfl (y_val tok rfl) ?_
    refine o_end [4] rfl ?_
    refine x_then ?_
    refine c_ret ?_
    refine b_ret tok rfl ?_
    have hkL : k = l.length := by omega
    subst hkL
    rw [List.drop_length, idxB] at heq
    intro E w' hm _
    refine ⟨?_, hm.below (Vw.le.refl _)⟩
    rw [heq]; rfl

theorem has_c (sv : Value) (l : List Block) (k : Int) (b : Nat) (w : World) (hb : w.heap[b]? = some (.cells [sv].toArray 121 (0, 0))) (hs : SlOf ((vw w).del b) Block.cells 2 sv l) (hn : l.length ≤ 4398046511104) :
    Calls Try.prog 89 #[.pointer (some ⟨b, 0, none⟩), I k] w fun e w' => e = .returned (I (idxB (fun x => x.n == k) l 0)) ∧ Below w.heap.size w w' := by
  refine enter1 [.a (.ptr 0 0), .a (.v (I k))] hb Try.func89 rfl rfl rfl rfl ?_
  refine c_seq ?_
  refine c_region ?_
  refine o_new tok rfl rfl rfl rfl ?_
  refine o_yield rfl rfl rfl (y_val tok rfl) ?_
  refine o_end [0, 3] rfl ?_
  refine x_then ?_
  refine c_seq ?_
  refine c_region ?_
  refine o_yield rfl rfl rfl (y_val tok rfl) ?_
  refine o_yield rfl rfl rfl (y_val tok rfl) ?_
  refine o_yield rfl rfl rfl (y_val tok rfl) ?_
  refine o_yield rfl rfl rfl (y_val tok rfl) ?_
  refine o_yield rfl rfl rfl (y_val tok rfl) ?_
  refine o_call (.a (.v _)) rfl rfl fnok143 rfl rfl rfl (fun hg E w1 hm => by exact indexB_c (vw w1) _ sv (fun x => x.n == k) l _ (Vw.le.refl _) (hs.mono hm.leV) hn (fun x w' hle => ⟨146, _, rfl, fnok146, hasFn_c x k _ w' (hle.get _ _ (hm.lit 3 _ _ rfl))⟩)) ?_
  refine o_yield rfl rfl rfl (y_val tok rfl) ?_
  refine o_end [4] rfl ?_
  refine x_then ?_
  refine c_ret ?_
  refine b_ret tok rfl ?_
  intro E w' hm _
  exact ⟨rfl, below1 hb hm (Vw.le.refl _) rfl rfl rfl⟩

/-- What a row tells of a place. -/
def getB : List Block → Int → ByteArray × Bool
  | [], _ => (ByteArray.empty, false)
  | b :: r, k => if b.n = k then (b.text, true) else getB r k

theorem idx_get (k : Int) : ∀ (l : List Block) (i : Nat), (idxB (fun x => x.n == k) l i = -1 ∧ getB l k = (ByteArray.empty, false)) ∨ ∃ (j : Nat) (b : Block), idxB (fun x => x.n == k) l i = ((i + j : Nat) : Int) ∧ l[j]? = some b ∧ getB l k = (b.text, true)
  | [], _ => .inl ⟨rfl, rfl⟩
  | b :: r, i => by
    rw [idxB, getB]
    by_cases h : b.n = k
    · exact .inr ⟨0, b, by rw [if_pos (by simpa using h)]; rfl, rfl, by rw [if_pos h]⟩
    · rw [if_neg (by simpa using h), if_neg h]
      rcases idx_get k r (i + 1) with ⟨h1, h2⟩ | ⟨j, c, h1, h2, h3⟩
      · exact .inl ⟨h1, h2⟩
      · exact .inr ⟨j + 1, c, by rw [h1]; congr 1; omega, by simpa using h2, h3⟩

theorem sl_shape {V : Vw} {v : Value} {sz m : Nat} {xs : List Value} (h : IsSl V v sz m xs) : ∃ a n c, v = .slice a n c := by
  rcases h.2 with ⟨a, c, rfl, _⟩ | ⟨g, o, cap, cur, e, f, rfl, _⟩
  · exact ⟨_, _, _, rfl⟩
  · exact ⟨_, _, _, rfl⟩

theorem get_c (V : Vw) (sv : Value) (l : List Block) (k : Int) (w : World) (hV : V.le (vw w)) (hs0 : SlOf V Block.cells 2 sv l) (hn : l.length ≤ 4398046511104) :
    Calls Try.prog 22 #[sv, I k] w fun e w' => e = .returned (.tuple #[S (getB l k).1, .bool (getB l k).2]) ∧ Below w.heap.size w w' := by
  obtain ⟨a, n, c, rfl⟩ := sl_shape hs0.sl
  have hs := hs0.mono hV
  have hig := idx_get k l 0
  refine enter (E := E0) (O := []) (nl := 0) (V := vw w) [.a (.v (.slice a n c)), .a (.v (I k))] Try.func22 rfl rfl (mem0 E0 0 w) rfl rfl ?_
  refine c_seq ?_
  refine c_region ?_
  refine o_yield rfl rfl rfl (y_val tok rfl) ?_
  refine o_yield rfl rfl rfl (y_val tok rfl) ?_
  refine o_end [0, 1] rfl ?_
  refine x_then ?_
  refine c_seq ?_
  refine c_region ?_
  refine o_yield rfl rfl rfl (y_val tok rfl) ?_
  refine o_yield rfl rfl rfl (y_val tok rfl) ?_
  refine o_new tok rfl rfl rfl rfl ?_
  refine o_store tok rfl rfl rfl (by first | exact ⟨trivial, trivial⟩ | simp [onesP, oneP, lk, Value.oneCell']) ?_
  refine o_end [0, 1, 6] rfl ?_
  refine x_then ?_
  refine c_seq ?_
  refine c_seq ?_
  refine c_region ?_
  refine o_yield rfl rfl rfl (y_val tok rfl) ?_
  refine o_call (.a (.v _)) rfl rfl fnok89 rfl rfl rfl (fun hg E w1 hm => by exact has_c _ l k _ _ (hm.lit 0 _ _ rfl) (hs.mono (hm.leDel (l := 0) rfl)) hn) ?_
  refine o_yield rfl rfl rfl (y_val tok rfl) ?_
  refine o_end [0, 7] rfl ?_
  refine x_then ?_
  refine c_seq ?_
  refine c_region ?_
  refine o_yield rfl rfl rfl (y_val tok rfl) ?_
  refine o_yield rfl rfl rfl (y_val tok rfl) ?_
  refine o_end [0, 7, 13] rfl ?_
  refine x_then ?_
  refine c_cond rfl (fun h => ?_) (fun h => ?_)
  ·
    simp only [Bool.and_eq_true, Bool.or_eq_true, Bool.not_eq_true', Bool.or_eq_false_iff, Bool.and_eq_false_iff, decide_eq_true_eq, decide_eq_false_iff_not, beq_iff_eq, bne_iff_ne, Bool.not_eq_false', beq_eq_false_iff_ne, bne_eq_false_iff_eq, ne_eq, Decidable.not_not, Int.not_lt, Int.not_le] at h
    refine c_seq ?_
    refine c_region ?_
    refine o_yield rfl rfl rfl (y_val tok rfl) ?_
    refine o_yield rfl rfl rfl (y_val tok rfl) ?_
    rcases hig with ⟨h1, _⟩ | ⟨j, b, h1, h2, h3⟩
    · omega
    · rw [Nat.zero_add] at h1
      rw [h1]
      have hlt_b := lt_of_at h2
      refine o_yield rfl rfl rfl (y_idx tok rfl (fun hg => hs.sl) (fun hg => ⟨by omega, by omega⟩)) ?_
      refine o_yield rfl rfl rfl (y_fel tok rfl (fun hg => hs.sl) (fun hg => by omega)) ?_
      refine o_yield rfl rfl rfl (y_lel tok (j) 1 (b) rfl (fun hg => hs) (fun hg => h2) rfl rfl) ?_
      refine o_yield rfl rfl rfl (y_val tok rfl) ?_
      refine o_yield rfl rfl rfl (y_val tok rfl) ?_
      refine o_end [4, 5] rfl ?_
      refine x_then ?_
      refine c_ret ?_
      refine x_then_ret ?_
      refine b_ret tok rfl ?_
      intro E w' hm _
      refine ⟨?_, hm.below (Vw.le.refl _)⟩
      rw [h3]; rfl
  ·
    simp only [Bool.and_eq_true, Bool.or_eq_true, Bool.not_eq_true', Bool.or_eq_false_iff, Bool.and_eq_false_iff, decide_eq_true_eq, decide_eq_false_iff_not, beq_iff_eq, bne_iff_ne, Bool.not_eq_false', beq_eq_false_iff_ne, bne_eq_false_iff_eq, ne_eq, Decidable.not_not, Int.not_lt, Int.not_le] at h
    refine c_skip ?_
    refine x_then ?_
    refine c_seq ?_
    refine c_region ?_
    refine o_yield rfl rfl rfl (y_val tok rfl) ?_
    refine o_yield rfl rfl rfl (y_val tok rfl) ?_
    refine o_end [4, 5] rfl ?_
    refine x_then ?_
    refine c_ret ?_
    refine b_ret tok rfl ?_
    rcases hig with ⟨_, h3⟩ | ⟨j, b, h1, _⟩
    ·
      intro E w' hm _
      refine ⟨?_, hm.below (Vw.le.refl _)⟩
      rw [h3]; rfl
    · omega

theorem refGet18_c (V : Vw) (sv : Value) (l : List Block) (k : Int) (w : World) (hV : V.le (vw w)) (hs0 : SlOf V Block.cells 2 sv l) (hn : l.length ≤ 4398046511104) :
    Calls Try.prog 23 #[sv, I k] w fun e w' => e = .returned (.tuple #[S (getB l k).1, .bool (getB l k).2]) ∧ Below w.heap.size w w' := by
  have hs := hs0.mono hV
  refine enter (E := E0) (O := []) (nl := 0) (V := vw w) [.a (.v sv), .a (.v (I k))] Try.func23 rfl rfl (mem0 E0 0 w) rfl rfl ?_
  refine c_seq ?_
  refine c_region ?_
  refine o_yield rfl rfl rfl (y_val tok rfl) ?_
  refine o_yield rfl rfl rfl (y_val tok rfl) ?_
  refine o_end [0, 1] rfl ?_
  refine x_then ?_
  refine c_seq ?_
  refine c_seq ?_
  refine c_region ?_
  refine o_yield rfl rfl rfl (y_val tok rfl) ?_
  refine o_end [0, 1, 6] rfl ?_
  refine x_then ?_
  refine c_block ?_
  refine c_loopK [0, 1] [] rfl rfl (σ := Nat) (fun i => [(6, .a (.v (I i)))]) (fun i => []) (fun i => i ≤ l.length ∧ getB l k = getB (l.drop i) k) (fun i => l.length - i) (0) (⟨by omega, rfl⟩) (by repeat (first | exact SubF.nil | refine SubF.cons rfl ?_)) (by repeat (first | exact SubO.nil | refine SubO.cons rfl ?_)) rfl ?_
  rintro i ⟨hi, heq⟩
  refine c_seq ?_
  refine c_seq ?_
  refine c_region ?_
  refine o_yield rfl rfl rfl (y_val tok rfl) ?_
  refine o_yield rfl rfl rfl (y_val tok rfl) ?_
  refine o_yield rfl rfl rfl (y_len tok rfl (fun hg => hs.sl)) ?_
  refine o_yield rfl rfl rfl (y_val tok rfl) ?_
  refine o_end [0, 1, 6, 10] rfl ?_
  refine x_then ?_
  refine c_cond rfl (fun h => ?_) (fun h => ?_)
  ·
    simp only [Bool.and_eq_true, Bool.or_eq_true, Bool.not_eq_true', Bool.or_eq_false_iff, Bool.and_eq_false_iff, decide_eq_true_eq, decide_eq_false_iff_not, beq_iff_eq, bne_iff_ne, Bool.not_eq_false', beq_eq_false_iff_ne, bne_eq_false_iff_eq, ne_eq, Decidable.not_not, Int.not_lt, Int.not_le] at h
    refine c_skip ?_
    refine x_then ?_
    refine c_seq ?_
    refine c_block ?_
    refine c_seq ?_
    refine c_region ?_
    refine o_yield rfl rfl rfl (y_val tok rfl) ?_
    refine o_yield rfl rfl rfl (y_val tok rfl) ?_
    obtain ⟨x, h_x⟩ := hs.at (k := i) (by omega)
    have hlt_x := lt_of_at h_x
    refine o_yield rfl rfl rfl (y_idx tok rfl (fun hg => hs.sl) (fun hg => ⟨by omega, by omega⟩)) ?_
    refine o_yield rfl rfl rfl (y_fel tok rfl (fun hg => hs.sl) (fun hg => by omega)) ?_
    refine o_yield rfl rfl rfl (y_lel tok (i) 0 (x) rfl (fun hg => hs) (fun hg => h_x) rfl rfl) ?_
    refine o_yield rfl rfl rfl (y_val tok rfl) ?_
    refine o_yield rfl rfl rfl (y_val tok rfl) ?_
    refine o_end [0, 1, 6, 19] rfl ?_
    refine x_then ?_
    refine c_cond rfl (fun h => ?_) (fun h => ?_)
    ·
      simp only [Bool.and_eq_true, Bool.or_eq_true, Bool.not_eq_true', Bool.or_eq_false_iff, Bool.and_eq_false_iff, decide_eq_true_eq, decide_eq_false_iff_not, beq_iff_eq, bne_iff_ne, Bool.not_eq_false', beq_eq_false_iff_ne, bne_eq_false_iff_eq, ne_eq, Decidable.not_not, Int.not_lt, Int.not_le] at h
      refine c_seq ?_
      refine c_region ?_
      refine o_yield rfl rfl rfl (y_val tok rfl) ?_
      refine o_yield rfl rfl rfl (y_val tok rfl) ?_
      rw [drop_at h_x, getB, if_pos h] at heq
      have hlt_x := lt_of_at h_x
      refine o_yield rfl rfl rfl (y_idx tok rfl (fun hg => hs.sl) (fun hg => ⟨by omega, by omega⟩)) ?_
      refine o_yield rfl rfl rfl (y_fel tok rfl (fun hg => hs.sl) (fun hg => by omega)) ?_
      refine o_yield rfl rfl rfl (y_lel tok (i) 1 (x) rfl (fun hg => hs) (fun hg => h_x) rfl rfl) ?_
      refine o_yield rfl rfl rfl (y_val tok rfl) ?_
      refine o_yield rfl rfl rfl (y_val tok rfl) ?_
      refine o_end [4, 5] rfl ?_
      refine x_then ?_
      refine c_ret ?_
      refine x_block_ret ?_
      refine x_then_ret ?_
      refine x_then_ret ?_
      refine x_block_ret ?_
      refine x_then_ret ?_
      refine b_ret tok rfl ?_
      intro E w' hm _
      refine ⟨?_, hm.below (Vw.le.refl _)⟩
      rw [heq]; rfl
    ·
      simp only [Bool.and_eq_true, Bool.or_eq_true, Bool.not_eq_true', Bool.or_eq_false_iff, Bool.and_eq_false_iff, decide_eq_true_eq, decide_eq_false_iff_not, beq_iff_eq, bne_iff_ne, Bool.not_eq_false', beq_eq_false_iff_ne, bne_eq_false_iff_eq, ne_eq, Decidable.not_not, Int.not_lt, Int.not_le] at h
      refine c_skip ?_
      refine x_block ?_
      refine x_then ?_
      refine c_region ?_
      refine o_yield rfl rfl rfl (y_val tok rfl) ?_
      refine o_yield rfl rfl rfl (y_val tok rfl) ?_
      refine o_yield rfl rfl rfl (y_val tok rfl) ?_
      refine o_end [0, 1, 6] rfl ?_
      refine x_then ?_
      rw [drop_at h_x, getB, if_neg h] at heq
      rw [wrapI (n := (i : Int) + 1) (by omega) (by omega)]
      refine x_round (i + 1) (⟨by omega, heq⟩) (by first | omega | (dsimp only; omega)) (by repeat (first | exact SubF.nil | refine SubF.cons rfl ?_)) (by repeat (first | exact SubO.nil | refine SubO.cons rfl ?_)) rfl (Vw.le.refl _)
  ·
    simp only [Bool.and_eq_true, Bool.or_eq_true, Bool.not_eq_true', Bool.or_eq_false_iff, Bool.and_eq_false_iff, decide_eq_true_eq, decide_eq_false_iff_not, beq_iff_eq, bne_iff_ne, Bool.not_eq_false', beq_eq_false_iff_ne, bne_eq_false_iff_eq, ne_eq, Decidable.not_not, Int.not_lt, Int.not_le] at h
    refine c_exit ?_
    refine x_then_exit ?_
    refine x_then_exit ?_
    refine x_block_hit ?_
    refine x_then ?_
    refine c_seq ?_
    refine c_region ?_
    refine o_yield rfl rfl rfl (y_val tok rfl) ?_
    refine o_yield rfl rfl rfl (y_val tok rfl) ?_
    refine o_end [4, 5] rfl ?_
    refine x_then ?_
    refine c_ret ?_
    refine b_ret tok rfl ?_
    have hkL : i = l.length := by omega
    subst hkL
    rw [List.drop_length, getB] at heq
    intro E w' hm _
    refine ⟨?_, hm.below (Vw.le.refl _)⟩
    rw [heq]; rfl
end Go.Proofs.Ytanekcndpkagiaa

/- What rows of blocks tell: the program's. -/
set_option linter.unusedVariables false
set_option linter.unusedSimpArgs false
set_option maxRecDepth 100000
namespace Go.Proofs.Ytanekcndpkagiaa
open Go Go.Eng Go.RowKit

/-- What the first row that has a place tells of it. -/
def knownB : List (Sl Block) → Int → ByteArray × Bool
  | [], _ => (ByteArray.empty, false)
  | r :: rs, k => if (getB r.l k).2 = true then ((getB r.l k).1, true) else knownB rs k

theorem known_c (V : Vw) (sv : Value) (l : List (Sl Block)) (k : Int) (w : World) (hV : V.le (vw w)) (hs0 : SlOf V Sl.enc 1 sv l) (hg : ∀ r ∈ l, SlOf V Block.cells 2 r.v r.l ∧ r.l.length ≤ 4398046511104) (hn : l.length ≤ 4398046511104) :
    Calls Try.prog 17 #[I k, sv] w fun e w' => e = .returned (.tuple #[S (knownB l k).1, .bool (knownB l k).2]) ∧ Below w.heap.size w w' := by
  have hs := hs0.mono hV
  refine enter (E := E0) (O := []) (nl := 0) (V := vw w) [.a (.v (I k)), .a (.v sv)] Try.func17 rfl rfl (mem0 E0 0 w) rfl rfl ?_
  refine c_seq ?_
  refine c_region ?_
  refine o_yield rfl rfl rfl (y_val tok rfl) ?_
  refine o_yield rfl rfl rfl (y_val tok rfl) ?_
  refine o_end [0, 1] rfl ?_
  refine x_then ?_
  refine c_seq ?_
  refine c_seq ?_
  refine c_region ?_
  refine o_yield rfl rfl rfl (y_val tok rfl) ?_
  refine o_yield rfl rfl rfl (y_len tok rfl (fun hg => hs.sl)) ?_
  refine o_yield rfl rfl rfl (y_val tok rfl) ?_
  refine o_end [0, 10, 11, 12] rfl ?_
  refine x_then ?_
  refine c_block ?_
  refine c_loopK [0, 10, 11] [] rfl rfl (σ := Nat) (fun i => [(12, .a (.v (I i)))]) (fun i => []) (fun i => i ≤ l.length ∧ knownB l k = knownB (l.drop i) k) (fun i => l.length - i) (0) (⟨by omega, rfl⟩) (by repeat (first | exact SubF.nil | refine SubF.cons rfl ?_)) (by repeat (first | exact SubO.nil | refine SubO.cons rfl ?_)) rfl ?_
  rintro i ⟨hi, heq⟩
  refine c_seq ?_
  refine c_region ?_
  refine o_yield rfl rfl rfl (y_val tok rfl) ?_
  refine o_end [0, 10, 11, 12, 13] rfl ?_
  refine x_then ?_
  refine c_seq ?_
  refine c_cond rfl (fun h => ?_) (fun h => ?_)
  ·
    simp only [Bool.and_eq_true, Bool.or_eq_true, Bool.not_eq_true', Bool.or_eq_false_iff, Bool.and_eq_false_iff, decide_eq_true_eq, decide_eq_false_iff_not, beq_iff_eq, bne_iff_ne, Bool.not_eq_false', beq_eq_false_iff_ne, bne_eq_false_iff_eq, ne_eq, Decidable.not_not, Int.not_lt, Int.not_le] at h
    refine c_skip ?_
    refine x_then ?_
    refine c_seq ?_
    refine c_block ?_
    refine c_seq ?_
    refine c_region ?_
    obtain ⟨x, h_x⟩ := hs.at (k := i) (by omega)
    have hlt_x := lt_of_at h_x
    refine o_yield rfl rfl rfl (y_idx tok rfl (fun hg => hs.sl) (fun hg => ⟨by omega, by omega⟩)) ?_
    refine o_yield rfl rfl rfl (y_lel tok (i) 0 (x) rfl (fun hg => hs) (fun hg => h_x) rfl rfl) ?_
    refine o_yield rfl rfl rfl (y_val tok rfl) ?_
    refine o_end [0, 7, 10, 11, 12] rfl ?_
    refine x_then ?_
    refine c_seq ?_
    refine c_region ?_
    refine o_yield rfl rfl rfl (y_val tok rfl) ?_
    refine o_yield rfl rfl rfl (y_val tok rfl) ?_
    obtain ⟨hx, hxn⟩ := hg x (List.mem_of_getElem? h_x)
    rw [drop_at h_x, knownB] at heq
    refine o_call (.a (.v _)) rfl rfl fnok22 rfl rfl rfl (fun hg E w1 hm => by exact get_c _ x.v x.l k _ hm.leV (hx.mono hV) hxn) ?_
    refine o_yield rfl rfl rfl (y_val tok rfl) ?_
    refine o_yield rfl rfl rfl (y_val tok rfl) ?_
    refine o_yield rfl rfl rfl (y_val tok rfl) ?_
    refine o_yield rfl rfl rfl (y_val tok rfl) ?_
    refine o_yield rfl rfl rfl (y_val tok rfl) ?_
    refine o_end [0, 8, 9, 10, 11, 12] rfl ?_
    refine x_then ?_
    refine c_seq ?_
    refine c_region ?_
    refine o_yield rfl rfl rfl (y_val tok rfl) ?_
    refine o_end [0, 8, 10, 11, 12, 22] rfl ?_
    refine x_then ?_
    refine c_cond rfl (fun h => ?_) (fun h => ?_)
    ·
      refine c_seq ?_
      refine c_region ?_
      refine o_yield rfl rfl rfl (y_val tok rfl) ?_
      refine o_yield rfl rfl rfl (y_val tok rfl) ?_
      refine o_yield rfl rfl rfl (y_val tok rfl) ?_
      refine o_end [4, 5] rfl ?_
      refine x_then ?_
      refine c_ret ?_
      refine x_block_ret ?_
      refine x_then_ret ?_
      refine x_then_ret ?_
      refine x_block_ret ?_
      refine x_then_ret ?_
      refine b_ret tok rfl ?_
      rw [if_pos h] at heq
      intro E w' hm _
      refine ⟨?_, hm.below (Vw.le.refl _)⟩
      rw [heq]; rfl
    ·
      refine c_skip ?_
      refine x_block ?_
      refine x_then ?_
      refine c_region ?_
      refine o_yield rfl rfl rfl (y_val tok rfl) ?_
      refine o_yield rfl rfl rfl (y_val tok rfl) ?_
      refine o_end [0, 10, 11, 12] rfl ?_
      refine x_then ?_
      rw [if_neg (by simp [h])] at heq
      rw [wrapI (n := (i : Int) + 1) (by omega) (by omega)]
      refine x_round (i + 1) (⟨by omega, heq⟩) (by first | omega | (dsimp only; omega)) (by repeat (first | exact SubF.nil | refine SubF.cons rfl ?_)) (by repeat (first | exact SubO.nil | refine SubO.cons rfl ?_)) rfl (Vw.le.refl _)
  ·
    simp only [Bool.and_eq_true, Bool.or_eq_true, Bool.not_eq_true', Bool.or_eq_false_iff, Bool.and_eq_false_iff, decide_eq_true_eq, decide_eq_false_iff_not, beq_iff_eq, bne_iff_ne, Bool.not_eq_false', beq_eq_false_iff_ne, bne_eq_false_iff_eq, ne_eq, Decidable.not_not, Int.not_lt, Int.not_le] at h
    refine c_exit ?_
    refine x_then_exit ?_
    refine x_then_exit ?_
    refine x_block_hit ?_
    refine x_then ?_
    refine c_seq ?_
    refine c_region ?_
    refine o_yield rfl rfl rfl (y_val tok rfl) ?_
    refine o_yield rfl rfl rfl (y_val tok rfl) ?_
    refine o_end [4, 5] rfl ?_
    refine x_then ?_
    refine c_ret ?_
    refine b_ret tok rfl ?_
    have hkL : i = l.length := by omega
    subst hkL
    rw [List.drop_length, knownB] at heq
    intro E w' hm _
    refine ⟨?_, hm.below (Vw.le.refl _)⟩
    rw [heq]; rfl
theorem refKnown_c (V : Vw) (sv : Value) (l : List (Sl Block)) (k : Int) (w : World) (hV : V.le (vw w)) (hs0 : SlOf V Sl.enc 1 sv l) (hg : ∀ r ∈ l, SlOf V Block.cells 2 r.v r.l ∧ r.l.length ≤ 4398046511104) (hn : l.length ≤ 4398046511104) :
    Calls Try.prog 69 #[I k, sv] w fun e w' => e = .returned (.tuple #[S (knownB l k).1, .bool (knownB l k).2]) ∧ Below w.heap.size w w' := by
  have hs := hs0.mono hV
  refine enter (E := E0) (O := []) (nl := 0) (V := vw w) [.a (.v (I k)), .a (.v sv)] Try.func69 rfl rfl (mem0 E0 0 w) rfl rfl ?_
  refine c_seq ?_
  refine c_region ?_
  refine o_yield rfl rfl rfl (y_val tok rfl) ?_
  refine o_yield rfl rfl rfl (y_val tok rfl) ?_
  refine o_end [0, 1] rfl ?_
  refine x_then ?_
  refine c_seq ?_
  refine c_seq ?_
  refine c_region ?_
  refine o_yield rfl rfl rfl (y_val tok rfl) ?_
  refine o_end [0, 1, 6] rfl ?_
  refine x_then ?_
  refine c_block ?_
  refine c_loopK [0, 1] [] rfl rfl (σ := Nat) (fun i => [(6, .a (.v (I i)))]) (fun i => []) (fun i => i ≤ l.length ∧ knownB l k = knownB (l.drop i) k) (fun i => l.length - i) (0) (⟨by omega, rfl⟩) (by repeat (first | exact SubF.nil | refine SubF.cons rfl ?_)) (by repeat (first | exact SubO.nil | refine SubO.cons rfl ?_)) rfl ?_
  rintro i ⟨hi, heq⟩
  refine c_seq ?_
  refine c_seq ?_
  refine c_region ?_
  refine o_yield rfl rfl rfl (y_val tok rfl) ?_
  refine o_yield rfl rfl rfl (y_val tok rfl) ?_
  refine o_yield rfl rfl rfl (y_len tok rfl (fun hg => hs.sl)) ?_
  refine o_yield rfl rfl rfl (y_val tok rfl) ?_
  refine o_end [0, 1, 6, 12] rfl ?_
  refine x_then ?_
  refine c_cond rfl (fun h => ?_) (fun h => ?_)
  ·
    simp only [Bool.and_eq_true, Bool.or_eq_true, Bool.not_eq_true', Bool.or_eq_false_iff, Bool.and_eq_false_iff, decide_eq_true_eq, decide_eq_false_iff_not, beq_iff_eq, bne_iff_ne, Bool.not_eq_false', beq_eq_false_iff_ne, bne_eq_false_iff_eq, ne_eq, Decidable.not_not, Int.not_lt, Int.not_le] at h
    refine c_skip ?_
    refine x_then ?_
    refine c_seq ?_
    refine c_block ?_
    refine c_seq ?_
    refine c_region ?_
    refine o_yield rfl rfl rfl (y_val tok rfl) ?_
    refine o_yield rfl rfl rfl (y_val tok rfl) ?_
    obtain ⟨x, h_x⟩ := hs.at (k := i) (by omega)
    have hlt_x := lt_of_at h_x
    refine o_yield rfl rfl rfl (y_idx tok rfl (fun hg => hs.sl) (fun hg => ⟨by omega, by omega⟩)) ?_
    refine o_yield rfl rfl rfl (y_lel tok (i) 0 (x) rfl (fun hg => hs) (fun hg => h_x) rfl rfl) ?_
    refine o_yield rfl rfl rfl (y_val tok rfl) ?_
    obtain ⟨hx, hxn⟩ := hg x (List.mem_of_getElem? h_x)
    rw [drop_at h_x, knownB] at heq
    refine o_call (.a (.v _)) rfl rfl fnok23 rfl rfl rfl (fun hg E w1 hm => by exact refGet18_c _ x.v x.l k _ hm.leV (hx.mono hV) hxn) ?_
    refine o_yield rfl rfl rfl (y_val tok rfl) ?_
    refine o_yield rfl rfl rfl (y_val tok rfl) ?_
    refine o_yield rfl rfl rfl (y_val tok rfl) ?_
    refine o_yield rfl rfl rfl (y_val tok rfl) ?_
    refine o_yield rfl rfl rfl (y_val tok rfl) ?_
    refine o_end [0, 1, 6, 7, 8] rfl ?_
    refine x_then ?_
    refine c_seq ?_
    refine c_region ?_
    refine o_yield rfl rfl rfl (y_val tok rfl) ?_
    refine o_end [0, 1, 6, 7, 24] rfl ?_
    refine x_then ?_
    refine c_cond rfl (fun h => ?_) (fun h => ?_)
    ·
      refine c_seq ?_
      refine c_region ?_
      refine o_yield rfl rfl rfl (y_val tok rfl) ?_
      refine o_yield rfl rfl rfl (y_val tok rfl) ?_
      refine o_yield rfl rfl rfl (y_val tok rfl) ?_
      refine o_end [4, 5] rfl ?_
      refine x_then ?_
      refine c_ret ?_
      refine x_block_ret ?_
      refine x_then_ret ?_
      refine x_then_ret ?_
      refine x_block_ret ?_
      refine x_then_ret ?_
      refine b_ret tok rfl ?_
      rw [if_pos h] at heq
      intro E w' hm _
      refine ⟨?_, hm.below (Vw.le.refl _)⟩
      rw [heq]; rfl
    ·
      refine c_skip ?_
      refine x_block ?_
      refine x_then ?_
      refine c_region ?_
      refine o_yield rfl rfl rfl (y_val tok rfl) ?_
      refine o_yield rfl rfl rfl (y_val tok rfl) ?_
      refine o_yield rfl rfl rfl (y_val tok rfl) ?_
      refine o_end [0, 1, 6] rfl ?_
      refine x_then ?_
      rw [if_neg (by simp [h])] at heq
      rw [wrapI (n := (i : Int) + 1) (by omega) (by omega)]
      refine x_round (i + 1) (⟨by omega, heq⟩) (by first | omega | (dsimp only; omega)) (by repeat (first | exact SubF.nil | refine SubF.cons rfl ?_)) (by repeat (first | exact SubO.nil | refine SubO.cons rfl ?_)) rfl (Vw.le.refl _)
  ·
    simp only [Bool.and_eq_true, Bool.or_eq_true, Bool.not_eq_true', Bool.or_eq_false_iff, Bool.and_eq_false_iff, decide_eq_true_eq, decide_eq_false_iff_not, beq_iff_eq, bne_iff_ne, Bool.not_eq_false', beq_eq_false_iff_ne, bne_eq_false_iff_eq, ne_eq, Decidable.not_not, Int.not_lt, Int.not_le] at h
    refine c_exit ?_
    refine x_then_exit ?_
    refine x_then_exit ?_
    refine x_block_hit ?_
    refine x_then ?_
    refine c_seq ?_
    refine c_region ?_
    refine o_yield rfl rfl rfl (y_val tok rfl) ?_
    refine o_yield rfl rfl rfl (y_val tok rfl) ?_
    refine o_end [4, 5] rfl ?_
    refine x_then ?_
    refine c_ret ?_
    refine b_ret tok rfl ?_
    have hkL : i = l.length := by omega
    subst hkL
    rw [List.drop_length, knownB] at heq
    intro E w' hm _
    refine ⟨?_, hm.below (Vw.le.refl _)⟩
    rw [heq]; rfl
end Go.Proofs.Ytanekcndpkagiaa

/- Where everything stands: the program's regions. -/
set_option linter.unusedVariables false
set_option linter.unusedSimpArgs false
set_option maxRecDepth 100000
namespace Go.Proofs.Ytanekcndpkagiaa
open Go Go.Eng Go.RowKit

/-- A stretch of things of a kind. -/
structure Reg where
  first : Int
  many : Int
  kind : Int
  per : Int
abbrev Reg.cells (r : Reg) : List Value := [I r.first, I r.many, I8 r.kind, I r.per]
abbrev Reg.val (r : Reg) : Value := .agg #[I r.first, I r.many, I8 r.kind, I r.per]

/-- The first sector of data. -/
def dataAt (g : Geo) : Int := 1 + 2 * g.nodes + g.log + g.slots * (1 + g.journal)

def regs (g : Geo) : List Reg :=
  [⟨0, 1, 1, 1⟩, ⟨1, g.nodes, 2, 1⟩, ⟨1 + g.nodes, g.nodes, 3, 1⟩, ⟨1 + 2 * g.nodes, g.log, 4, 1⟩, ⟨1 + 2 * g.nodes + g.log, g.slots * (1 + g.journal), 6, 1 + g.journal⟩, ⟨dataAt g, g.blocks * g.per, 7, g.per⟩]

theorem stretchEnd_c (a b : Int) (w : World) : Calls Try.prog 166 #[.agg #[I a, I b]] w fun e w' => e = .returned (I (IntKind.i64.wrap (a + b))) ∧ Below w.heap.size w w' := by
  refine enter (E := E0) (O := []) (nl := 0) (V := vw w) [.a (.v (.agg #[I a, I b]))] Try.func166 rfl rfl (mem0 E0 0 w) rfl rfl ?_
  refine c_seq ?_
  refine c_region ?_
  refine o_new tok rfl rfl rfl rfl ?_
  refine o_yield rfl rfl rfl (y_val tok rfl) ?_
  refine o_end [1] rfl ?_
  refine x_then ?_
  refine c_seq ?_
  refine c_region ?_
  refine o_yield rfl rfl rfl (y_val tok rfl) ?_
  refine o_yield rfl rfl rfl (y_val tok rfl) ?_
  refine o_yield rfl rfl rfl (y_val tok rfl) ?_
  refine o_yield rfl rfl rfl (y_val tok rfl) ?_
  refine o_yield rfl rfl rfl (y_val tok rfl) ?_
  refine o_yield rfl rfl rfl (y_val tok rfl) ?_
  refine o_end [2] rfl ?_
  refine x_then ?_
  refine c_ret ?_
  refine b_ret tok rfl ?_
  intro E w' hm _
  refine ⟨?_, hm.below (Vw.le.refl _)⟩
  rfl

theorem stretchAt_c (a b k : Int) (w : World) : Calls Try.prog 183 #[.agg #[I a, I b], I k] w fun e w' => e = .returned (I (if k < 0 ∨ b ≤ k then -1 else IntKind.i64.wrap (a + k))) ∧ Below w.heap.size w w' := by
  refine enter (E := E0) (O := []) (nl := 0) (V := vw w) [.a (.v (.agg #[I a, I b])), .a (.v (I k))] Try.func183 rfl rfl (mem0 E0 0 w) rfl rfl ?_
  refine c_seq ?_
  refine c_region ?_
  refine o_new tok rfl rfl rfl rfl ?_
  refine o_yield rfl rfl rfl (y_val tok rfl) ?_
  refine o_end [1, 2] rfl ?_
  refine x_then ?_
  refine c_seq ?_
  refine c_seq ?_
  refine c_region ?_
  refine o_yield rfl rfl rfl (y_val tok rfl) ?_
  refine o_yield rfl rfl rfl (y_val tok rfl) ?_
  refine o_yield rfl rfl rfl (y_val tok rfl) ?_
  refine o_yield rfl rfl rfl (y_val tok rfl) ?_
  refine o_yield rfl rfl rfl (y_val tok rfl) ?_
  refine o_yield rfl rfl rfl (y_val tok rfl) ?_
  refine o_yield rfl rfl rfl (y_val tok rfl) ?_
  refine o_yield rfl rfl rfl (y_val tok rfl) ?_
  refine o_end [1, 2, 12] rfl ?_
  refine x_then ?_
  refine c_cond rfl (fun h => ?_) (fun h => ?_)
  ·
    simp only [Bool.and_eq_true, Bool.or_eq_true, Bool.not_eq_true', Bool.or_eq_false_iff, Bool.and_eq_false_iff, decide_eq_true_eq, decide_eq_false_iff_not, beq_iff_eq, bne_iff_ne, Bool.not_eq_false', beq_eq_false_iff_ne, bne_eq_false_iff_eq, ne_eq, Decidable.not_not, Int.not_lt, Int.not_le] at h
    refine c_seq ?_
    refine c_region ?_
    refine o_yield rfl rfl rfl (y_val tok rfl) ?_
    refine o_end [4] rfl ?_
    refine x_then ?_
    refine c_ret ?_
    refine x_then_ret ?_
    refine b_ret tok rfl ?_
    intro E w' hm _
    refine ⟨?_, hm.below (Vw.le.refl _)⟩
    rw [if_pos (by omega)]; rfl
  ·
    simp only [Bool.and_eq_true, Bool.or_eq_true, Bool.not_eq_true', Bool.or_eq_false_iff, Bool.and_eq_false_iff, decide_eq_true_eq, decide_eq_false_iff_not, beq_iff_eq, bne_iff_ne, Bool.not_eq_false', beq_eq_false_iff_ne, bne_eq_false_iff_eq, ne_eq, Decidable.not_not, Int.not_lt, Int.not_le] at h
    refine c_skip ?_
    refine x_then ?_
    refine c_seq ?_
    refine c_region ?_
    refine o_yield rfl rfl rfl (y_val tok rfl) ?_
    refine o_yield rfl rfl rfl (y_val tok rfl) ?_
    refine o_yield rfl rfl rfl (y_val tok rfl) ?_
    refine o_yield rfl rfl rfl (y_val tok rfl) ?_
    refine o_yield rfl rfl rfl (y_val tok rfl) ?_
    refine o_end [4] rfl ?_
    refine x_then ?_
    refine c_ret ?_
    refine b_ret tok rfl ?_
    intro E w' hm _
    refine ⟨?_, hm.below (Vw.le.refl _)⟩
    rw [if_neg (by omega)]; rfl

theorem geo_facts {g : Geo} (h : geoB g = true) : (1 ≤ g.nodes ∧ g.nodes ≤ 16) ∧ (1 ≤ g.slots ∧ g.slots ≤ g.nodes) ∧ (1 ≤ g.blocks ∧ g.blocks ≤ 64) ∧ (1 ≤ g.per ∧ g.per ≤ 8) ∧ (g.per + 2 ≤ g.journal ∧ g.journal ≤ 64) ∧
  (8 * g.slots ≤ g.log ∧ g.log ≤ 512) ∧ (1 ≤ g.lease ∧ g.lease < g.wait ∧ g.wait ≤ 1048576) := by simpa [geoB] using h

theorem prod_bound {a b A B : Int} (ha : 0 ≤ a) (hb : 0 ≤ b) (h1 : a ≤ A) (h2 : b ≤ B) : 0 ≤ a * b ∧ a * b ≤ A * B :=
  ⟨Int.mul_nonneg ha hb, Int.le_trans (Int.mul_le_mul_of_nonneg_right h1 hb) (Int.mul_le_mul_of_nonneg_left h2 (by omega))⟩

theorem reg_ones (l : List Reg) : ∀ u ∈ l.flatMap Reg.cells, u.oneCell' = true := by
  intro u hu
  obtain ⟨x, _, hx⟩ := List.mem_flatMap.1 hu
  simp only [Reg.cells, List.mem_cons, List.not_mem_nil, or_false] at hx
  rcases hx with rfl | rfl | rfl | rfl <;> rfl

theorem regions_c (g : Geo) (ok : g.Ok) (w : World) :
    Calls Try.prog 191 #[g.val] w fun e w' => ((geoB g = true ∧ ∃ v, e = .returned v ∧ w'.ownsRow w.heap.size 207 4 v 6 ((regs g).flatMap Reg.cells)) ∨ (geoB g = false ∧ e = .returned (.slice none 0 0))) ∧ Below w.heap.size w w' := by
  refine enter (E := E0) (O := []) (nl := 0) (V := vw w) [.a (.v g.val)] Try.func191 rfl rfl (mem0 E0 0 w) rfl rfl ?_
  refine c_seq ?_
  refine c_region ?_
  refine o_new tok rfl rfl rfl rfl ?_
  refine o_new tok rfl rfl rfl rfl ?_
  refine o_end [1, 2] rfl ?_
  refine x_then ?_
  refine c_seq ?_
  refine c_seq ?_
  refine c_region ?_
  refine o_yield rfl rfl rfl (y_val tok rfl) ?_
  refine o_call (.a (.v _)) rfl rfl fnok85 rfl rfl rfl (fun hg E w1 hm => by exact geoMay_c g ok _) ?_
  refine o_yield rfl rfl rfl (y_val tok rfl) ?_
  refine o_end [1, 2, 7] rfl ?_
  refine x_then ?_
  refine c_cond rfl (fun h => ?_) (fun h => ?_)
  ·
    simp only [Bool.and_eq_true, Bool.or_eq_true, Bool.not_eq_true', Bool.or_eq_false_iff, Bool.and_eq_false_iff, decide_eq_true_eq, decide_eq_false_iff_not, beq_iff_eq, bne_iff_ne, Bool.not_eq_false', beq_eq_false_iff_ne, bne_eq_false_iff_eq, ne_eq, Decidable.not_not, Int.not_lt, Int.not_le] at h
    refine c_seq ?_
    refine c_region ?_
    refine o_store tok rfl rfl rfl (by first | exact ⟨trivial, trivial⟩ | simp [onesP, oneP, lk, Value.oneCell']) ?_
    refine o_end [2] rfl ?_
    refine x_then ?_
    refine c_ret ?_
    refine x_then_ret ?_
    refine b_ret tok rfl ?_
    intro E w' hm _
    exact ⟨.inr ⟨by simpa using h, rfl⟩, hm.below (Vw.le.refl _)⟩
  ·
    simp only [Bool.and_eq_true, Bool.or_eq_true, Bool.not_eq_true', Bool.or_eq_false_iff, Bool.and_eq_false_iff, decide_eq_true_eq, decide_eq_false_iff_not, beq_iff_eq, bne_iff_ne, Bool.not_eq_false', beq_eq_false_iff_ne, bne_eq_false_iff_eq, ne_eq, Decidable.not_not, Int.not_lt, Int.not_le] at h
    refine c_skip ?_
    refine x_then ?_
    refine c_seq ?_
    refine c_region ?_
    refine o_new tok rfl rfl rfl rfl ?_
    refine o_store tok rfl rfl rfl (by first | exact ⟨trivial, trivial⟩ | simp [onesP, oneP, lk, Value.oneCell']) ?_
    refine o_end [1, 2, 3] rfl ?_
    refine x_then ?_
    refine c_seq ?_
    refine c_region ?_
    refine o_yield rfl rfl rfl (y_val tok rfl) ?_
    refine o_yield rfl rfl rfl (y_val tok rfl) ?_
    refine o_end [1, 2, 4] rfl ?_
    refine x_then ?_
    refine c_seq ?_
    refine c_region ?_
    refine o_yield rfl rfl rfl (y_val tok rfl) ?_
    have hgeo : geoB g = true := by simpa using h
    clear h
    have hf := geo_facts hgeo
    have hs := prod_bound (a := g.slots) (b := 1 + g.journal) (A := 16) (B := 65) (by omega) (by omega) (by omega) (by omega)
    have hb := prod_bound (a := g.blocks) (b := g.per) (A := 64) (B := 8) (by omega) (by omega) (by omega) (by omega)
    have hda : dataAt g = 1 + 2 * g.nodes + g.log + g.slots * (1 + g.journal) := rfl
    refine k_nilO 1 0 207 4 rfl rfl ?_
    refine o_inl rfl rfl rfl rfl rfl fnok208 Try.func208 rfl rfl rfl (fun E => ?_)
    refine c_seq ?_
    refine c_region ?_
    refine o_yield rfl rfl rfl (y_val tok rfl) ?_
    refine o_yield rfl rfl rfl (y_val tok rfl) ?_
    refine o_yield rfl rfl rfl (y_val tok rfl) ?_
    refine o_yield rfl rfl rfl (y_val tok rfl) ?_
    refine o_yield rfl rfl rfl (y_val tok rfl) ?_
    refine o_yield rfl rfl rfl (y_val tok rfl) ?_
    refine o_yield rfl rfl rfl (y_val tok rfl) ?_
    refine o_yield rfl rfl rfl (y_val tok rfl) ?_
    refine o_new tok rfl rfl rfl rfl ?_
    refine o_store tok rfl rfl rfl (by first | exact ⟨trivial, trivial⟩ | simp [onesP, oneP, lk, Value.oneCell']) ?_
    refine o_end [3, 4, 8] rfl ?_
    refine x_then ?_
    refine c_seq ?_
    refine c_region ?_
    refine o_yield rfl rfl rfl (y_val tok rfl) ?_
    refine o_yield rfl rfl rfl (y_val tok rfl) ?_
    rw [show IntKind.i64.wrap (1 * 1) = 1 by rw [wrapI (by omega) (by omega)]; try omega]
    refine o_step rfl rfl rfl rfl rfl (s_bs tok 4 rfl rfl rfl) (fun _ _ => ?_)
    refine o_step rfl rfl rfl rfl rfl (s_app tok (⟨0, 1, 1, 1⟩ : Reg).cells rfl (fun E w hm => ownsRow_src (hm.row _ _ _ _ _ rfl)) (fun _ _ _ => by simpa using reg_ones [(⟨0, 1, 1, 1⟩ : Reg)]) (by dsimp only; omega)) (fun _ _ => ?_)
    refine o_store tok rfl rfl rfl (by first | exact ⟨trivial, trivial⟩ | simp [onesP, oneP, lk, Value.oneCell']) ?_
    refine o_end [3, 8] rfl ?_
    refine x_then ?_
    refine c_region ?_
    refine o_yield rfl rfl rfl (y_val tok rfl) ?_
    refine o_yield rfl rfl rfl (y_val tok rfl) ?_
    refine o_call (.a (.v _)) rfl rfl fnok166 rfl rfl rfl (fun hg E w1 hm => by exact stretchEnd_c _ _ _) ?_
    refine o_store tok rfl rfl rfl (by first | exact ⟨trivial, trivial⟩ | simp [onesP, oneP, lk, Value.oneCell']) ?_
    refine o_end [] rfl ?_
    refine b_end tok rfl ?_
    rw [show IntKind.i64.wrap (0 + 1) = 1 by rw [wrapI (by omega) (by omega)]; try omega]
    intro E1 w1 hm1 hok1
    refine inl_end (E := E) hm1 hok1 rfl rfl (by repeat (first | exact KeepsIn.zero | refine KeepsIn.succ rfl ?_)) rfl (by repeat (first | exact SubO.nil | refine SubO.cons rfl ?_)) rfl ?_
    clear hm1 hok1 w1 E1 E
    refine k_swap 3 10 rfl ?_
    refine weaken (l := [(1, .a (.ptr 0 0)), (2, .a (.ptr 1 0)), (4, .a (.fn 208 [(2, 0), (1, 0)]))]) (O' := [(0, .lit (g.cells.map .v) 29), (1, .lit [.row 3] 234), (2, .lit [.v (I (1))] 3), (3, .row 207 4 1 (((regs g).take 1).flatMap Reg.cells))]) (nl' := 4) ?_ (by repeat (first | exact SubF.nil | refine SubF.cons rfl ?_)) (by repeat (first | exact SubO.nil | refine SubO.cons rfl ?_)) rfl (Vw.le.refl _)
    refine o_end [1, 2, 4] rfl ?_
    refine x_then ?_
    refine c_seq ?_
    refine c_region ?_
    refine o_yield rfl rfl rfl (y_val tok rfl) ?_
    refine o_yield rfl rfl rfl (y_val tok rfl) ?_
    refine o_yield rfl rfl rfl (y_val tok rfl) ?_
    refine o_inl rfl rfl rfl rfl rfl fnok208 Try.func208 rfl rfl rfl (fun E => ?_)
    refine c_seq ?_
    refine c_region ?_
    refine o_yield rfl rfl rfl (y_val tok rfl) ?_
    refine o_yield rfl rfl rfl (y_val tok rfl) ?_
    refine o_yield rfl rfl rfl (y_val tok rfl) ?_
    refine o_yield rfl rfl rfl (y_val tok rfl) ?_
    refine o_yield rfl rfl rfl (y_val tok rfl) ?_
    refine o_yield rfl rfl rfl (y_val tok rfl) ?_
    refine o_yield rfl rfl rfl (y_val tok rfl) ?_
    refine o_yield rfl rfl rfl (y_val tok rfl) ?_
    refine o_new tok rfl rfl rfl rfl ?_
    refine o_store tok rfl rfl rfl (by first | exact ⟨trivial, trivial⟩ | simp [onesP, oneP, lk, Value.oneCell']) ?_
    refine o_end [3, 4, 8] rfl ?_
    refine x_then ?_
    refine c_seq ?_
    refine c_region ?_
    refine o_yield rfl rfl rfl (y_val tok rfl) ?_
    refine o_yield rfl rfl rfl (y_val tok rfl) ?_
    rw [show IntKind.i64.wrap (g.nodes * 1) = g.nodes by rw [wrapI (by omega) (by omega)]; try omega]
    refine o_step rfl rfl rfl rfl rfl (s_bs tok 4 rfl rfl rfl) (fun _ _ => ?_)
    refine o_step rfl rfl rfl rfl rfl (s_app tok (⟨1, g.nodes, 2, 1⟩ : Reg).cells rfl (fun E w hm => ownsRow_src (hm.row _ _ _ _ _ rfl)) (fun _ _ _ => by simpa using reg_ones [(⟨1, g.nodes, 2, 1⟩ : Reg)]) (by dsimp only; omega)) (fun _ _ => ?_)
    refine o_store tok rfl rfl rfl (by first | exact ⟨trivial, trivial⟩ | simp [onesP, oneP, lk, Value.oneCell']) ?_
    refine o_end [3, 8] rfl ?_
    refine x_then ?_
    refine c_region ?_
    refine o_yield rfl rfl rfl (y_val tok rfl) ?_
    refine o_yield rfl rfl rfl (y_val tok rfl) ?_
    refine o_call (.a (.v _)) rfl rfl fnok166 rfl rfl rfl (fun hg E w1 hm => by exact stretchEnd_c _ _ _) ?_
    refine o_store tok rfl rfl rfl (by first | exact ⟨trivial, trivial⟩ | simp [onesP, oneP, lk, Value.oneCell']) ?_
    refine o_end [] rfl ?_
    refine b_end tok rfl ?_
    rw [show IntKind.i64.wrap (1 + g.nodes) = 1 + g.nodes by rw [wrapI (by omega) (by omega)]; try omega]
    intro E1 w1 hm1 hok1
    refine inl_end (E := E) hm1 hok1 rfl rfl (by repeat (first | exact KeepsIn.zero | refine KeepsIn.succ rfl ?_)) rfl (by repeat (first | exact SubO.nil | refine SubO.cons rfl ?_)) rfl ?_
    clear hm1 hok1 w1 E1 E
    refine k_swap 3 10 rfl ?_
    refine weaken (l := [(1, .a (.ptr 0 0)), (2, .a (.ptr 1 0)), (4, .a (.fn 208 [(2, 0), (1, 0)]))]) (O' := [(0, .lit (g.cells.map .v) 29), (1, .lit [.row 3] 234), (2, .lit [.v (I (1 + g.nodes))] 3), (3, .row 207 4 2 (((regs g).take 2).flatMap Reg.cells))]) (nl' := 4) ?_ (by repeat (first | exact SubF.nil | refine SubF.cons rfl ?_)) (by repeat (first | exact SubO.nil | refine SubO.cons rfl ?_)) rfl (Vw.le.refl _)
    refine o_end [1, 2, 4] rfl ?_
    refine x_then ?_
    refine c_seq ?_
    refine c_region ?_
    refine o_yield rfl rfl rfl (y_val tok rfl) ?_
    refine o_yield rfl rfl rfl (y_val tok rfl) ?_
    refine o_yield rfl rfl rfl (y_val tok rfl) ?_
    refine o_inl rfl rfl rfl rfl rfl fnok208 Try.func208 rfl rfl rfl (fun E => ?_)
    refine c_seq ?_
    refine c_region ?_
    refine o_yield rfl rfl rfl (y_val tok rfl) ?_
    refine o_yield rfl rfl rfl (y_val tok rfl) ?_
    refine o_yield rfl rfl rfl (y_val tok rfl) ?_
    refine o_yield rfl rfl rfl (y_val tok rfl) ?_
    refine o_yield rfl rfl rfl (y_val tok rfl) ?_
    refine o_yield rfl rfl rfl (y_val tok rfl) ?_
    refine o_yield rfl rfl rfl (y_val tok rfl) ?_
    refine o_yield rfl rfl rfl (y_val tok rfl) ?_
    refine o_new tok rfl rfl rfl rfl ?_
    refine o_store tok rfl rfl rfl (by first | exact ⟨trivial, trivial⟩ | simp [onesP, oneP, lk, Value.oneCell']) ?_
    refine o_end [3, 4, 8] rfl ?_
    refine x_then ?_
    refine c_seq ?_
    refine c_region ?_
    refine o_yield rfl rfl rfl (y_val tok rfl) ?_
    refine o_yield rfl rfl rfl (y_val tok rfl) ?_
    rw [show IntKind.i64.wrap (g.nodes * 1) = g.nodes by rw [wrapI (by omega) (by omega)]; try omega]
    refine o_step rfl rfl rfl rfl rfl (s_bs tok 4 rfl rfl rfl) (fun _ _ => ?_)
    refine o_step rfl rfl rfl rfl rfl (s_app tok (⟨1 + g.nodes, g.nodes, 3, 1⟩ : Reg).cells rfl (fun E w hm => ownsRow_src (hm.row _ _ _ _ _ rfl)) (fun _ _ _ => by simpa using reg_ones [(⟨1 + g.nodes, g.nodes, 3, 1⟩ : Reg)]) (by dsimp only; omega)) (fun _ _ => ?_)
    refine o_store tok rfl rfl rfl (by first | exact ⟨trivial, trivial⟩ | simp [onesP, oneP, lk, Value.oneCell']) ?_
    refine o_end [3, 8] rfl ?_
    refine x_then ?_
    refine c_region ?_
    refine o_yield rfl rfl rfl (y_val tok rfl) ?_
    refine o_yield rfl rfl rfl (y_val tok rfl) ?_
    refine o_call (.a (.v _)) rfl rfl fnok166 rfl rfl rfl (fun hg E w1 hm => by exact stretchEnd_c _ _ _) ?_
    refine o_store tok rfl rfl rfl (by first | exact ⟨trivial, trivial⟩ | simp [onesP, oneP, lk, Value.oneCell']) ?_
    refine o_end [] rfl ?_
    refine b_end tok rfl ?_
    rw [show IntKind.i64.wrap ((1 + g.nodes) + g.nodes) = 1 + 2 * g.nodes by rw [wrapI (by omega) (by omega)]; try omega]
    intro E1 w1 hm1 hok1
    refine inl_end (E := E) hm1 hok1 rfl rfl (by repeat (first | exact KeepsIn.zero | refine KeepsIn.succ rfl ?_)) rfl (by repeat (first | exact SubO.nil | refine SubO.cons rfl ?_)) rfl ?_
    clear hm1 hok1 w1 E1 E
    refine k_swap 3 10 rfl ?_
    refine weaken (l := [(1, .a (.ptr 0 0)), (2, .a (.ptr 1 0)), (4, .a (.fn 208 [(2, 0), (1, 0)]))]) (O' := [(0, .lit (g.cells.map .v) 29), (1, .lit [.row 3] 234), (2, .lit [.v (I (1 + 2 * g.nodes))] 3), (3, .row 207 4 3 (((regs g).take 3).flatMap Reg.cells))]) (nl' := 4) ?_ (by repeat (first | exact SubF.nil | refine SubF.cons rfl ?_)) (by repeat (first | exact SubO.nil | refine SubO.cons rfl ?_)) rfl (Vw.le.refl _)
    refine o_end [1, 2, 4] rfl ?_
    refine x_then ?_
    refine c_seq ?_
    refine c_region ?_
    refine o_yield rfl rfl rfl (y_val tok rfl) ?_
    refine o_yield rfl rfl rfl (y_val tok rfl) ?_
    refine o_yield rfl rfl rfl (y_val tok rfl) ?_
    refine o_inl rfl rfl rfl rfl rfl fnok208 Try.func208 rfl rfl rfl (fun E => ?_)
    refine c_seq ?_
    refine c_region ?_
    refine o_yield rfl rfl rfl (y_val tok rfl) ?_
    refine o_yield rfl rfl rfl (y_val tok rfl) ?_
    refine o_yield rfl rfl rfl (y_val tok rfl) ?_
    refine o_yield rfl rfl rfl (y_val tok rfl) ?_
    refine o_yield rfl rfl rfl (y_val tok rfl) ?_
    refine o_yield rfl rfl rfl (y_val tok rfl) ?_
    refine o_yield rfl rfl rfl (y_val tok rfl) ?_
    refine o_yield rfl rfl rfl (y_val tok rfl) ?_
    refine o_new tok rfl rfl rfl rfl ?_
    refine o_store tok rfl rfl rfl (by first | exact ⟨trivial, trivial⟩ | simp [onesP, oneP, lk, Value.oneCell']) ?_
    refine o_end [3, 4, 8] rfl ?_
    refine x_then ?_
    refine c_seq ?_
    refine c_region ?_
    refine o_yield rfl rfl rfl (y_val tok rfl) ?_
    refine o_yield rfl rfl rfl (y_val tok rfl) ?_
    rw [show IntKind.i64.wrap (g.log * 1) = g.log by rw [wrapI (by omega) (by omega)]; try omega]
    refine o_step rfl rfl rfl rfl rfl (s_bs tok 4 rfl rfl rfl) (fun _ _ => ?_)
    refine o_step rfl rfl rfl rfl rfl (s_app tok (⟨1 + 2 * g.nodes, g.log, 4, 1⟩ : Reg).cells rfl (fun E w hm => ownsRow_src (hm.row _ _ _ _ _ rfl)) (fun _ _ _ => by simpa using reg_ones [(⟨1 + 2 * g.nodes, g.log, 4, 1⟩ : Reg)]) (by dsimp only; omega)) (fun _ _ => ?_)
    refine o_store tok rfl rfl rfl (by first | exact ⟨trivial, trivial⟩ | simp [onesP, oneP, lk, Value.oneCell']) ?_
    refine o_end [3, 8] rfl ?_
    refine x_then ?_
    refine c_region ?_
    refine o_yield rfl rfl rfl (y_val tok rfl) ?_
    refine o_yield rfl rfl rfl (y_val tok rfl) ?_
    refine o_call (.a (.v _)) rfl rfl fnok166 rfl rfl rfl (fun hg E w1 hm => by exact stretchEnd_c _ _ _) ?_
    refine o_store tok rfl rfl rfl (by first | exact ⟨trivial, trivial⟩ | simp [onesP, oneP, lk, Value.oneCell']) ?_
    refine o_end [] rfl ?_
    refine b_end tok rfl ?_
    rw [show IntKind.i64.wrap ((1 + 2 * g.nodes) + g.log) = 1 + 2 * g.nodes + g.log by rw [wrapI (by omega) (by omega)]; try omega]
    intro E1 w1 hm1 hok1
    refine inl_end (E := E) hm1 hok1 rfl rfl (by repeat (first | exact KeepsIn.zero | refine KeepsIn.succ rfl ?_)) rfl (by repeat (first | exact SubO.nil | refine SubO.cons rfl ?_)) rfl ?_
    clear hm1 hok1 w1 E1 E
    refine k_swap 3 10 rfl ?_
    refine weaken (l := [(1, .a (.ptr 0 0)), (2, .a (.ptr 1 0)), (4, .a (.fn 208 [(2, 0), (1, 0)]))]) (O' := [(0, .lit (g.cells.map .v) 29), (1, .lit [.row 3] 234), (2, .lit [.v (I (1 + 2 * g.nodes + g.log))] 3), (3, .row 207 4 4 (((regs g).take 4).flatMap Reg.cells))]) (nl' := 4) ?_ (by repeat (first | exact SubF.nil | refine SubF.cons rfl ?_)) (by repeat (first | exact SubO.nil | refine SubO.cons rfl ?_)) rfl (Vw.le.refl _)
    refine o_end [1, 2, 4] rfl ?_
    refine x_then ?_
    refine c_seq ?_
    refine c_region ?_
    refine o_yield rfl rfl rfl (y_val tok rfl) ?_
    refine o_yield rfl rfl rfl (y_val tok rfl) ?_
    refine o_yield rfl rfl rfl (y_val tok rfl) ?_
    refine o_yield rfl rfl rfl (y_val tok rfl) ?_
    refine o_yield rfl rfl rfl (y_val tok rfl) ?_
    refine o_yield rfl rfl rfl (y_val tok rfl) ?_
    refine o_inl rfl rfl rfl rfl rfl fnok208 Try.func208 rfl rfl rfl (fun E => ?_)
    refine c_seq ?_
    refine c_region ?_
    refine o_yield rfl rfl rfl (y_val tok rfl) ?_
    refine o_yield rfl rfl rfl (y_val tok rfl) ?_
    refine o_yield rfl rfl rfl (y_val tok rfl) ?_
    refine o_yield rfl rfl rfl (y_val tok rfl) ?_
    refine o_yield rfl rfl rfl (y_val tok rfl) ?_
    refine o_yield rfl rfl rfl (y_val tok rfl) ?_
    refine o_yield rfl rfl rfl (y_val tok rfl) ?_
    refine o_yield rfl rfl rfl (y_val tok rfl) ?_
    refine o_new tok rfl rfl rfl rfl ?_
    refine o_store tok rfl rfl rfl (by first | exact ⟨trivial, trivial⟩ | simp [onesP, oneP, lk, Value.oneCell']) ?_
    refine o_end [3, 4, 8] rfl ?_
    refine x_then ?_
    refine c_seq ?_
    refine c_region ?_
    refine o_yield rfl rfl rfl (y_val tok rfl) ?_
    refine o_yield rfl rfl rfl (y_val tok rfl) ?_
    rw [wrapI (n := 1 + g.journal) (by omega) (by omega)]
    rw [show IntKind.i64.wrap (g.slots * (1 + g.journal)) = g.slots * (1 + g.journal) by rw [wrapI (by omega) (by omega)]; try omega]
    refine o_step rfl rfl rfl rfl rfl (s_bs tok 4 rfl rfl rfl) (fun _ _ => ?_)
    refine o_step rfl rfl rfl rfl rfl (s_app tok (⟨1 + 2 * g.nodes + g.log, g.slots * (1 + g.journal), 6, 1 + g.journal⟩ : Reg).cells rfl (fun E w hm => ownsRow_src (hm.row _ _ _ _ _ rfl)) (fun _ _ _ => by simpa using reg_ones [(⟨1 + 2 * g.nodes + g.log, g.slots * (1 + g.journal), 6, 1 + g.journal⟩ : Reg)]) (by dsimp only; omega)) (fun _ _ => ?_)
    refine o_store tok rfl rfl rfl (by first | exact ⟨trivial, trivial⟩ | simp [onesP, oneP, lk, Value.oneCell']) ?_
    refine o_end [3, 8] rfl ?_
    refine x_then ?_
    refine c_region ?_
    refine o_yield rfl rfl rfl (y_val tok rfl) ?_
    refine o_yield rfl rfl rfl (y_val tok rfl) ?_
    refine o_call (.a (.v _)) rfl rfl fnok166 rfl rfl rfl (fun hg E w1 hm => by exact stretchEnd_c _ _ _) ?_
    refine o_store tok rfl rfl rfl (by first | exact ⟨trivial, trivial⟩ | simp [onesP, oneP, lk, Value.oneCell']) ?_
    refine o_end [] rfl ?_
    refine b_end tok rfl ?_
    rw [show IntKind.i64.wrap ((1 + 2 * g.nodes + g.log) + g.slots * (1 + g.journal)) = dataAt g by rw [wrapI (by omega) (by omega)]; try omega]
    intro E1 w1 hm1 hok1
    refine inl_end (E := E) hm1 hok1 rfl rfl (by repeat (first | exact KeepsIn.zero | refine KeepsIn.succ rfl ?_)) rfl (by repeat (first | exact SubO.nil | refine SubO.cons rfl ?_)) rfl ?_
    clear hm1 hok1 w1 E1 E
    refine k_swap 3 10 rfl ?_
    refine weaken (l := [(1, .a (.ptr 0 0)), (2, .a (.ptr 1 0)), (4, .a (.fn 208 [(2, 0), (1, 0)]))]) (O' := [(0, .lit (g.cells.map .v) 29), (1, .lit [.row 3] 234), (2, .lit [.v (I (dataAt g))] 3), (3, .row 207 4 5 (((regs g).take 5).flatMap Reg.cells))]) (nl' := 4) ?_ (by repeat (first | exact SubF.nil | refine SubF.cons rfl ?_)) (by repeat (first | exact SubO.nil | refine SubO.cons rfl ?_)) rfl (Vw.le.refl _)
    refine o_end [1, 2, 4] rfl ?_
    refine x_then ?_
    refine c_seq ?_
    refine c_region ?_
    refine o_yield rfl rfl rfl (y_val tok rfl) ?_
    refine o_yield rfl rfl rfl (y_val tok rfl) ?_
    refine o_yield rfl rfl rfl (y_val tok rfl) ?_
    refine o_yield rfl rfl rfl (y_val tok rfl) ?_
    refine o_yield rfl rfl rfl (y_val tok rfl) ?_
    refine o_inl rfl rfl rfl rfl rfl fnok208 Try.func208 rfl rfl rfl (fun E => ?_)
    refine c_seq ?_
    refine c_region ?_
    refine o_yield rfl rfl rfl (y_val tok rfl) ?_
    refine o_yield rfl rfl rfl (y_val tok rfl) ?_
    refine o_yield rfl rfl rfl (y_val tok rfl) ?_
    refine o_yield rfl rfl rfl (y_val tok rfl) ?_
    refine o_yield rfl rfl rfl (y_val tok rfl) ?_
    refine o_yield rfl rfl rfl (y_val tok rfl) ?_
    refine o_yield rfl rfl rfl (y_val tok rfl) ?_
    refine o_yield rfl rfl rfl (y_val tok rfl) ?_
    refine o_new tok rfl rfl rfl rfl ?_
    refine o_store tok rfl rfl rfl (by first | exact ⟨trivial, trivial⟩ | simp [onesP, oneP, lk, Value.oneCell']) ?_
    refine o_end [3, 4, 8] rfl ?_
    refine x_then ?_
    refine c_seq ?_
    refine c_region ?_
    refine o_yield rfl rfl rfl (y_val tok rfl) ?_
    refine o_yield rfl rfl rfl (y_val tok rfl) ?_
    rw [show IntKind.i64.wrap (g.blocks * g.per) = g.blocks * g.per by rw [wrapI (by omega) (by omega)]; try omega]
    refine o_step rfl rfl rfl rfl rfl (s_bs tok 4 rfl rfl rfl) (fun _ _ => ?_)
    refine o_step rfl rfl rfl rfl rfl (s_app tok (⟨dataAt g, g.blocks * g.per, 7, g.per⟩ : Reg).cells rfl (fun E w hm => ownsRow_src (hm.row _ _ _ _ _ rfl)) (fun _ _ _ => by simpa using reg_ones [(⟨dataAt g, g.blocks * g.per, 7, g.per⟩ : Reg)]) (by dsimp only; omega)) (fun _ _ => ?_)
    refine o_store tok rfl rfl rfl (by first | exact ⟨trivial, trivial⟩ | simp [onesP, oneP, lk, Value.oneCell']) ?_
    refine o_end [3, 8] rfl ?_
    refine x_then ?_
    refine c_region ?_
    refine o_yield rfl rfl rfl (y_val tok rfl) ?_
    refine o_yield rfl rfl rfl (y_val tok rfl) ?_
    refine o_call (.a (.v _)) rfl rfl fnok166 rfl rfl rfl (fun hg E w1 hm => by exact stretchEnd_c _ _ _) ?_
    refine o_store tok rfl rfl rfl (by first | exact ⟨trivial, trivial⟩ | simp [onesP, oneP, lk, Value.oneCell']) ?_
    refine o_end [] rfl ?_
    refine b_end tok rfl ?_
    rw [show IntKind.i64.wrap (dataAt g + g.blocks * g.per) = dataAt g + g.blocks * g.per by rw [wrapI (by omega) (by omega)]; try omega]
    intro E1 w1 hm1 hok1
    refine inl_end (E := E) hm1 hok1 rfl rfl (by repeat (first | exact KeepsIn.zero | refine KeepsIn.succ rfl ?_)) rfl (by repeat (first | exact SubO.nil | refine SubO.cons rfl ?_)) rfl ?_
    clear hm1 hok1 w1 E1 E
    refine o_end [2] rfl ?_
    refine x_then ?_
    refine c_seq ?_
    refine c_region ?_
    refine o_yield rfl rfl rfl (y_val tok rfl) ?_
    refine o_store tok rfl rfl rfl (by first | exact ⟨trivial, trivial⟩ | simp [onesP, oneP, lk, Value.oneCell']) ?_
    refine o_end [2] rfl ?_
    refine x_then ?_
    refine c_ret ?_
    refine b_ret tok rfl ?_
    intro E w' hm _
    refine ⟨.inl ⟨hgeo, E.κ 10, rfl, ?_⟩, hm.below (Vw.le.refl _)⟩
    have hrow := hm.rowFresh (Vw.le.refl _) (l := 10) rfl
    simpa [regs] using hrow

def regL (g : Geo) : List Reg := if geoB g = true then regs g else []

/-- The regions as ones that nobody writes. -/
theorem regions_cV (V : Vw) (g : Geo) (ok : g.Ok) (w : World) (hV : V.le (vw w)) :
    Calls Try.prog 191 #[g.val] w fun e w' => ∃ x V', e = .returned x ∧ Below w.heap.size w w' ∧ Vext w.heap.size V V' w' ∧ SlOf V' Reg.cells 4 x (regL g) := by
  refine (regions_c g ok w).mono ?_
  rintro e w' ⟨⟨h, v, rfl, hown⟩ | ⟨h, rfl⟩, hb⟩
  · obtain ⟨V', hx, hsl⟩ := ownsRow_vext hV hb hown
    exact ⟨_, V', rfl, hb, hx, by rw [regL, if_pos h]; exact ⟨hsl, fun _ => rfl⟩⟩
  · exact ⟨_, V, rfl, hb, Vext.same hV hb, by rw [regL, if_neg (by simp [h])]; exact slNil V Reg.cells 4 0 (fun _ => rfl)⟩

def findR (k : Int) : List Reg → Reg
  | [] => ⟨0, 0, 0, 1⟩
  | r :: t => if r.kind = k then r else findR k t

theorem find_c (g : Geo) (ok : g.Ok) (k : Int) (w : World) : Calls Try.prog 165 #[g.val, I8 k] w fun e w' => e = .returned (findR k (regL g)).val ∧ Below w.heap.size w w' := by
  refine enter (E := E0) (O := []) (nl := 0) (V := vw w) [.a (.v g.val), .a (.v (I8 k))] Try.func165 rfl rfl (mem0 E0 0 w) rfl rfl ?_
  refine c_seq ?_
  refine c_region ?_
  refine o_new tok rfl rfl rfl rfl ?_
  refine o_new tok rfl rfl rfl rfl ?_
  refine o_end [1, 2, 4] rfl ?_
  refine x_then ?_
  refine c_seq ?_
  refine c_seq ?_
  refine c_region ?_
  refine o_yield rfl rfl rfl (y_val tok rfl) ?_
  refine o_callV (fun x V' => SlOf V' Reg.cells 4 x (regL g)) rfl rfl fnok191 rfl rfl (fun hg E w1 hm => by exact regions_cV (vw w) g ok _ hm.leV) ?_
  rintro x V1 hle1 hx
  have hs := hx rfl
  clear hx
  refine o_yield rfl rfl rfl (y_len tok rfl (fun hg => hs.sl)) ?_
  refine o_yield rfl rfl rfl (y_val tok rfl) ?_
  refine o_end [1, 4, 8, 9, 10] rfl ?_
  refine x_then ?_
  refine c_block ?_
  have hl6 : (regL g).length ≤ 6 := by unfold regL; split <;> simp [regs]
  refine c_loopV [1, 4, 8, 9] [] rfl rfl (σ := Nat) (fun i => [(10, .a (.v (I i)))]) (fun i => []) (fun i => V1) (fun i => i ≤ (regL g).length ∧ findR k (regL g) = findR k ((regL g).drop i)) (fun i => (regL g).length - i) (0) (⟨by omega, rfl⟩) (by repeat (first | exact SubF.nil | refine SubF.cons rfl ?_)) (by repeat (first | exact SubO.nil | refine SubO.cons rfl ?_)) rfl (Vw.le.refl _) ?_
  rintro i ⟨hi, heq⟩
  refine c_seq ?_
  refine c_region ?_
  refine o_yield rfl rfl rfl (y_val tok rfl) ?_
  refine o_end [1, 4, 8, 9, 10, 11] rfl ?_
  refine x_then ?_
  refine c_seq ?_
  refine c_cond rfl (fun h => ?_) (fun h => ?_)
  ·
    simp only [Bool.and_eq_true, Bool.or_eq_true, Bool.not_eq_true', Bool.or_eq_false_iff, Bool.and_eq_false_iff, decide_eq_true_eq, decide_eq_false_iff_not, beq_iff_eq, bne_iff_ne, Bool.not_eq_false', beq_eq_false_iff_ne, bne_eq_false_iff_eq, ne_eq, Decidable.not_not, Int.not_lt, Int.not_le] at h
    refine c_skip ?_
    refine x_then ?_
    refine c_seq ?_
    refine c_block ?_
    refine c_seq ?_
    refine c_region ?_
    obtain ⟨r, h_r⟩ := hs.at (k := i) (by omega)
    rw [drop_at h_r, findR] at heq
    have hlt_r := lt_of_at h_r
    refine o_yield rfl rfl rfl (y_idx tok rfl (fun hg => hs.sl) (fun hg => ⟨by omega, by omega⟩)) ?_
    refine o_yield rfl rfl rfl (y_lel tok (i) 0 (r) rfl (fun hg => hs) (fun hg => h_r) rfl rfl) ?_
    refine o_new tok rfl rfl rfl rfl ?_
    refine o_store tok rfl rfl rfl (by first | exact ⟨trivial, trivial⟩ | simp [onesP, oneP, lk, Value.oneCell']) ?_
    refine o_end [1, 4, 6, 8, 9, 10] rfl ?_
    refine x_then ?_
    refine c_seq ?_
    refine c_region ?_
    refine o_yield rfl rfl rfl (y_val tok rfl) ?_
    refine o_yield rfl rfl rfl (y_val tok rfl) ?_
    refine o_yield rfl rfl rfl (y_val tok rfl) ?_
    refine o_yield rfl rfl rfl (y_val tok rfl) ?_
    refine o_end [1, 4, 6, 8, 9, 10, 17] rfl ?_
    refine x_then ?_
    refine c_cond rfl (fun h => ?_) (fun h => ?_)
    ·
      simp only [Bool.and_eq_true, Bool.or_eq_true, Bool.not_eq_true', Bool.or_eq_false_iff, Bool.and_eq_false_iff, decide_eq_true_eq, decide_eq_false_iff_not, beq_iff_eq, bne_iff_ne, Bool.not_eq_false', beq_eq_false_iff_ne, bne_eq_false_iff_eq, ne_eq, Decidable.not_not, Int.not_lt, Int.not_le] at h
      refine c_seq ?_
      refine c_region ?_
      refine o_yield rfl rfl rfl (y_val tok rfl) ?_
      refine o_store tok rfl rfl rfl (by first | exact ⟨trivial, trivial⟩ | simp [onesP, oneP, lk, Value.oneCell']) ?_
      refine o_end [4] rfl ?_
      refine x_then ?_
      refine c_ret ?_
      refine x_block_ret ?_
      refine x_then_ret ?_
      refine x_then_ret ?_
      refine x_block_ret ?_
      refine x_then_ret ?_
      refine b_ret tok rfl ?_
      rw [if_pos h] at heq
      intro E w' hm _
      refine ⟨?_, hm.below (hle1)⟩
      rw [heq]; rfl
    ·
      simp only [Bool.and_eq_true, Bool.or_eq_true, Bool.not_eq_true', Bool.or_eq_false_iff, Bool.and_eq_false_iff, decide_eq_true_eq, decide_eq_false_iff_not, beq_iff_eq, bne_iff_ne, Bool.not_eq_false', beq_eq_false_iff_ne, bne_eq_false_iff_eq, ne_eq, Decidable.not_not, Int.not_lt, Int.not_le] at h
      refine c_skip ?_
      refine x_block ?_
      refine x_then ?_
      refine c_region ?_
      refine o_yield rfl rfl rfl (y_val tok rfl) ?_
      refine o_yield rfl rfl rfl (y_val tok rfl) ?_
      refine o_end [1, 4, 8, 9, 10] rfl ?_
      refine x_then ?_
      rw [if_neg h] at heq
      rw [wrapI (n := (i : Int) + 1) (by omega) (by omega)]
      refine x_round (i + 1) (⟨by omega, heq⟩) (by first | omega | (dsimp only; omega)) (by repeat (first | exact SubF.nil | refine SubF.cons rfl ?_)) (by repeat (first | exact SubO.nil | refine SubO.cons rfl ?_)) rfl (Vw.le.refl _)
  ·
    simp only [Bool.and_eq_true, Bool.or_eq_true, Bool.not_eq_true', Bool.or_eq_false_iff, Bool.and_eq_false_iff, decide_eq_true_eq, decide_eq_false_iff_not, beq_iff_eq, bne_iff_ne, Bool.not_eq_false', beq_eq_false_iff_ne, bne_eq_false_iff_eq, ne_eq, Decidable.not_not, Int.not_lt, Int.not_le] at h
    refine c_exit ?_
    refine x_then_exit ?_
    refine x_then_exit ?_
    refine x_block_hit ?_
    refine x_then ?_
    refine c_seq ?_
    refine c_region ?_
    refine o_yield rfl rfl rfl (y_val tok rfl) ?_
    refine o_store tok rfl rfl rfl (by first | exact ⟨trivial, trivial⟩ | simp [onesP, oneP, lk, Value.oneCell']) ?_
    refine o_end [4] rfl ?_
    refine x_then ?_
    refine c_ret ?_
    refine b_ret tok rfl ?_
    have hkL : i = (regL g).length := by omega
    subst hkL
    rw [List.drop_length, findR] at heq
    intro E w' hm _
    refine ⟨?_, hm.below (hle1)⟩
    rw [heq]; rfl

theorem of_c' (g : Geo) (ok : g.Ok) (kd i k : Int) (r : Reg) (hr : findR kd (regL g) = r) (m : Int) (hm0 : 0 ≤ m) (hm : r.many = m * r.per) (hp : 1 ≤ r.per) (hb : m * r.per ≤ 4096) (hf : 0 ≤ r.first) (hf2 : r.first ≤ 4096) (v : Int) (hv : v = if i < 0 ∨ m ≤ i ∨ k < 0 ∨ r.per ≤ k then -1 else r.first + i * r.per + k) (w : World) :
    Calls Try.prog 150 #[g.val, I8 kd, I i, I k] w fun e w' => e = .returned (I v) ∧ Below w.heap.size w w' := by
  have hq : r.many.tdiv r.per = m := by rw [hm]; exact Int.mul_tdiv_cancel m (by omega)
  have hpb : r.per ≤ m * r.per ∨ m = 0 := by
    by_cases h : m = 0
    · exact .inr h
    · left
      have := Int.mul_le_mul_of_nonneg_right (show 1 ≤ m by omega) (show 0 ≤ r.per by omega)
      omega
  have hmb : m ≤ m * r.per := by
    have := Int.mul_le_mul_of_nonneg_left hp hm0
    omega
  refine enter (E := E0) (O := []) (nl := 0) (V := vw w) [.a (.v g.val), .a (.v (I8 kd)), .a (.v (I i)), .a (.v (I k))] Try.func150 rfl rfl (mem0 E0 0 w) rfl rfl ?_
  refine c_seq ?_
  refine c_region ?_
  refine o_new tok rfl rfl rfl rfl ?_
  refine o_yield rfl rfl rfl (y_val tok rfl) ?_
  refine o_end [1, 2, 3, 4] rfl ?_
  refine x_then ?_
  refine c_seq ?_
  refine c_region ?_
  refine o_yield rfl rfl rfl (y_val tok rfl) ?_
  refine o_yield rfl rfl rfl (y_val tok rfl) ?_
  refine o_call (.a (.v _)) rfl rfl fnok165 rfl rfl rfl (fun hg E w1 hm => by exact find_c g ok kd _) ?_
  refine o_new tok rfl rfl rfl rfl ?_
  refine o_store tok rfl rfl rfl (by first | exact ⟨trivial, trivial⟩ | simp [onesP, oneP, lk, Value.oneCell']) ?_
  refine o_end [2, 3, 9] rfl ?_
  refine x_then ?_
  refine c_seq ?_
  refine c_seq ?_
  refine c_region ?_
  refine o_yield rfl rfl rfl (y_val tok rfl) ?_
  refine o_yield rfl rfl rfl (y_val tok rfl) ?_
  refine o_yield rfl rfl rfl (y_val tok rfl) ?_
  refine o_yield rfl rfl rfl (y_val tok rfl) ?_
  refine o_yield rfl rfl rfl (y_val tok rfl) ?_
  refine o_yield rfl rfl rfl (y_val tok rfl) ?_
  refine o_yield rfl rfl rfl (y_val tok rfl) ?_
  refine o_yield rfl rfl rfl (y_val tok rfl) ?_
  refine o_yield rfl rfl rfl (y_val tok rfl) ?_
  rw [hr]
  have hqw : IntKind.i64.wrap (r.many.tdiv r.per) = m := by rw [hq, wrapI (by omega) (by omega)]
  refine o_yield rfl rfl rfl (y_quo rfl (fun hg => by omega)) ?_
  refine o_yield rfl rfl rfl (y_val tok rfl) ?_
  refine o_yield rfl rfl rfl (y_val tok rfl) ?_
  refine o_yield rfl rfl rfl (y_val tok rfl) ?_
  refine o_yield rfl rfl rfl (y_val tok rfl) ?_
  refine o_yield rfl rfl rfl (y_val tok rfl) ?_
  refine o_yield rfl rfl rfl (y_val tok rfl) ?_
  refine o_yield rfl rfl rfl (y_val tok rfl) ?_
  refine o_yield rfl rfl rfl (y_val tok rfl) ?_
  refine o_yield rfl rfl rfl (y_val tok rfl) ?_
  refine o_yield rfl rfl rfl (y_val tok rfl) ?_
  refine o_yield rfl rfl rfl (y_val tok rfl) ?_
  refine o_yield rfl rfl rfl (y_val tok rfl) ?_
  refine o_end [2, 3, 9, 34] rfl ?_
  refine x_then ?_
  refine c_cond rfl (fun h => ?_) (fun h => ?_)
  ·
    simp only [Bool.and_eq_true, Bool.or_eq_true, Bool.not_eq_true', Bool.or_eq_false_iff, Bool.and_eq_false_iff, decide_eq_true_eq, decide_eq_false_iff_not, beq_iff_eq, bne_iff_ne, Bool.not_eq_false', beq_eq_false_iff_ne, bne_eq_false_iff_eq, ne_eq, Decidable.not_not, Int.not_lt, Int.not_le] at h
    refine c_seq ?_
    refine c_region ?_
    refine o_yield rfl rfl rfl (y_val tok rfl) ?_
    refine o_end [8] rfl ?_
    refine x_then ?_
    refine c_ret ?_
    refine x_then_ret ?_
    refine b_ret tok rfl ?_
    intro E w' hm _
    refine ⟨?_, hm.below (Vw.le.refl _)⟩
    rw [hv, if_pos (by omega)]; rfl
  ·
    simp only [Bool.and_eq_true, Bool.or_eq_true, Bool.not_eq_true', Bool.or_eq_false_iff, Bool.and_eq_false_iff, decide_eq_true_eq, decide_eq_false_iff_not, beq_iff_eq, bne_iff_ne, Bool.not_eq_false', beq_eq_false_iff_ne, bne_eq_false_iff_eq, ne_eq, Decidable.not_not, Int.not_lt, Int.not_le] at h
    refine c_skip ?_
    refine x_then ?_
    refine c_seq ?_
    refine c_region ?_
    refine o_yield rfl rfl rfl (y_val tok rfl) ?_
    refine o_yield rfl rfl rfl (y_val tok rfl) ?_
    refine o_yield rfl rfl rfl (y_val tok rfl) ?_
    refine o_yield rfl rfl rfl (y_val tok rfl) ?_
    refine o_yield rfl rfl rfl (y_val tok rfl) ?_
    refine o_yield rfl rfl rfl (y_val tok rfl) ?_
    refine o_yield rfl rfl rfl (y_val tok rfl) ?_
    refine o_yield rfl rfl rfl (y_val tok rfl) ?_
    have hik := prod_bound (a := i) (b := r.per) (A := m) (B := r.per) (by omega) (by omega) (by omega) (by omega)
    have h2 : i * r.per + r.per ≤ m * r.per := by
      have := Int.mul_le_mul_of_nonneg_right (show i + 1 ≤ m by omega) (show 0 ≤ r.per by omega)
      rw [Int.add_mul, Int.one_mul] at this
      exact this
    rw [wrapI (n := i * r.per) (by omega) (by omega), wrapI (n := i * r.per + k) (by omega) (by omega)]
    refine o_call (.a (.v _)) rfl rfl fnok183 rfl rfl rfl (fun hg E w1 hm => by exact stretchAt_c r.first r.many _ _) ?_
    refine o_yield rfl rfl rfl (y_val tok rfl) ?_
    refine o_end [8] rfl ?_
    refine x_then ?_
    refine c_ret ?_
    refine b_ret tok rfl ?_
    intro E w' hm _
    refine ⟨?_, hm.below (Vw.le.refl _)⟩
    rw [hv, if_neg (by omega), if_neg (by omega), wrapI (by omega) (by omega), Int.add_assoc]; rfl
end Go.Proofs.Ytanekcndpkagiaa

/- Where everything stands: the program's answer and the document's. -/
set_option linter.unusedVariables false
set_option linter.unusedSimpArgs false
set_option maxRecDepth 100000
namespace Go.Proofs.Ytanekcndpkagiaa
open Go Go.Eng Go.RowKit

def dataV (g : Geo) (b k : Int) : Int := if geoB g = true ∧ 0 ≤ b ∧ b < g.blocks ∧ 0 ≤ k ∧ k < g.per then dataAt g + b * g.per + k else -1
def headV (g : Geo) (s : Int) : Int := if geoB g = true ∧ 0 ≤ s ∧ s < g.slots then 1 + 2 * g.nodes + g.log + s * (1 + g.journal) else -1
def jourV (g : Geo) (s lsn : Int) : Int := if headV g s < 0 ∨ lsn < 0 then -1 else headV g s + 1 + lsn % g.journal
def totV (g : Geo) : Int := if geoB g = true then dataAt g + g.blocks * g.per else 0

theorem find_data (g : Geo) : findR 7 (regL g) = if geoB g = true then ⟨dataAt g, g.blocks * g.per, 7, g.per⟩ else ⟨0, 0, 0, 1⟩ := by
  unfold regL
  split <;> simp [regs, findR]
theorem find_jour (g : Geo) : findR 6 (regL g) = if geoB g = true then ⟨1 + 2 * g.nodes + g.log, g.slots * (1 + g.journal), 6, 1 + g.journal⟩ else ⟨0, 0, 0, 1⟩ := by
  unfold regL
  split <;> simp [regs, findR]

theorem geo_sizes {g : Geo} (h : geoB g = true) : 0 ≤ g.slots * (1 + g.journal) ∧ g.slots * (1 + g.journal) ≤ 1040 ∧ 0 ≤ g.blocks * g.per ∧ g.blocks * g.per ≤ 512 ∧ 1 ≤ dataAt g ∧ dataAt g ≤ 1585 := by
  have hf := geo_facts h
  have hs := prod_bound (a := g.slots) (b := 1 + g.journal) (A := 16) (B := 65) (by omega) (by omega) (by omega) (by omega)
  have hb := prod_bound (a := g.blocks) (b := g.per) (A := 64) (B := 8) (by omega) (by omega) (by omega) (by omega)
  unfold dataAt
  omega

theorem data_c (g : Geo) (ok : g.Ok) (b k : Int) (w : World) : Calls Try.prog 93 #[g.val, I b, I k] w fun e w' => e = .returned (I (dataV g b k)) ∧ Below w.heap.size w w' := by
  refine enter (E := E0) (O := []) (nl := 0) (V := vw w) [.a (.v g.val), .a (.v (I b)), .a (.v (I k))] Try.func93 rfl rfl (mem0 E0 0 w) rfl rfl ?_
  refine c_seq ?_
  refine c_region ?_
  refine o_new tok rfl rfl rfl rfl ?_
  refine o_yield rfl rfl rfl (y_val tok rfl) ?_
  refine o_end [1, 2, 3] rfl ?_
  refine x_then ?_
  refine c_seq ?_
  refine c_region ?_
  refine o_yield rfl rfl rfl (y_val tok rfl) ?_
  refine o_yield rfl rfl rfl (y_val tok rfl) ?_
  refine o_yield rfl rfl rfl (y_val tok rfl) ?_
  cases hgg : geoB g with
  | false =>
    have hr := find_data g
    rw [if_neg (by simp [hgg])] at hr
    refine o_call (.a (.v _)) rfl rfl fnok150 rfl rfl rfl (fun hg E w1 hm => by exact of_c' g ok 7 b k _ hr 0 (by omega) (by simp) (by simp) (by simp) (by simp) (by simp) (dataV g b k) (by rw [dataV, if_neg (by simp [hgg]), if_pos (by dsimp only; omega)]) _) ?_
    refine o_yield rfl rfl rfl (y_val tok rfl) ?_
    refine o_end [6] rfl ?_
    refine x_then ?_
    refine c_ret ?_
    refine b_ret tok rfl ?_
    intro E w' hm _
    refine ⟨?_, hm.below (Vw.le.refl _)⟩
    rfl
  | true =>
    have hr := find_data g
    rw [if_pos hgg] at hr
    have hf := geo_facts hgg
    have hz := geo_sizes hgg
    have hv : dataV g b k = if b < 0 ∨ g.blocks ≤ b ∨ k < 0 ∨ g.per ≤ k then -1 else dataAt g + b * g.per + k := by
      unfold dataV
      by_cases h : 0 ≤ b ∧ b < g.blocks ∧ 0 ≤ k ∧ k < g.per
      · rw [if_pos ⟨hgg, h⟩, if_neg (by omega)]
      · rw [if_neg (by rintro ⟨_, hc⟩; exact h hc), if_pos (by omega)]
    refine o_call (.a (.v _)) rfl rfl fnok150 rfl rfl rfl (fun hg E w1 hm => by exact of_c' g ok 7 b k _ hr g.blocks (by omega) rfl (by dsimp only; omega) (by dsimp only; omega) (by dsimp only; omega) (by dsimp only; omega) _ hv _) ?_
    refine o_yield rfl rfl rfl (y_val tok rfl) ?_
    refine o_end [6] rfl ?_
    refine x_then ?_
    refine c_ret ?_
    refine b_ret tok rfl ?_
    intro E w' hm _
    refine ⟨?_, hm.below (Vw.le.refl _)⟩
    rfl

theorem head_c (g : Geo) (ok : g.Ok) (s : Int) (w : World) : Calls Try.prog 157 #[g.val, I s] w fun e w' => e = .returned (I (headV g s)) ∧ Below w.heap.size w w' := by
  refine enter (E := E0) (O := []) (nl := 0) (V := vw w) [.a (.v g.val), .a (.v (I s))] Try.func157 rfl rfl (mem0 E0 0 w) rfl rfl ?_
  refine c_seq ?_
  refine c_region ?_
  refine o_new tok rfl rfl rfl rfl ?_
  refine o_yield rfl rfl rfl (y_val tok rfl) ?_
  refine o_end [1, 2] rfl ?_
  refine x_then ?_
  refine c_seq ?_
  refine c_region ?_
  refine o_yield rfl rfl rfl (y_val tok rfl) ?_
  refine o_yield rfl rfl rfl (y_val tok rfl) ?_
  cases hgg : geoB g with
  | false =>
    have hr := find_jour g
    rw [if_neg (by simp [hgg])] at hr
    refine o_call (.a (.v _)) rfl rfl fnok150 rfl rfl rfl (fun hg E w1 hm => by exact of_c' g ok 6 s 0 _ hr 0 (by omega) (by simp) (by simp) (by simp) (by simp) (by simp) (headV g s) (by rw [headV, if_neg (by simp [hgg]), if_pos (by dsimp only; omega)]) _) ?_
    refine o_yield rfl rfl rfl (y_val tok rfl) ?_
    refine o_end [4] rfl ?_
    refine x_then ?_
    refine c_ret ?_
    refine b_ret tok rfl ?_
    intro E w' hm _
    refine ⟨?_, hm.below (Vw.le.refl _)⟩
    rfl
  | true =>
    have hr := find_jour g
    rw [if_pos hgg] at hr
    have hf := geo_facts hgg
    have hz := geo_sizes hgg
    have hv : headV g s = if s < 0 ∨ g.slots ≤ s ∨ (0 : Int) < 0 ∨ 1 + g.journal ≤ 0 then -1 else 1 + 2 * g.nodes + g.log + s * (1 + g.journal) + 0 := by
      unfold headV
      by_cases h : 0 ≤ s ∧ s < g.slots
      · rw [if_pos ⟨hgg, h⟩, if_neg (by omega), Int.add_zero]
      · rw [if_neg (by rintro ⟨_, hc⟩; exact h hc), if_pos (by omega)]
    refine o_call (.a (.v _)) rfl rfl fnok150 rfl rfl rfl (fun hg E w1 hm => by exact of_c' g ok 6 s 0 _ hr g.slots (by omega) rfl (by dsimp only; omega) (by dsimp only; omega) (by dsimp only; omega) (by dsimp only; omega) _ hv _) ?_
    refine o_yield rfl rfl rfl (y_val tok rfl) ?_
    refine o_end [4] rfl ?_
    refine x_then ?_
    refine c_ret ?_
    refine b_ret tok rfl ?_
    intro E w' hm _
    refine ⟨?_, hm.below (Vw.le.refl _)⟩
    rfl

theorem head_geo {g : Geo} {s : Int} (h : 0 ≤ headV g s) : geoB g = true ∧ 0 ≤ s ∧ s < g.slots := by
  unfold headV at h
  split at h
  · assumption
  · omega

theorem tmod_bounds {a b : Int} (ha : 0 ≤ a) (hb : 0 < b) : a.tmod b = a % b ∧ 0 ≤ a % b ∧ a % b < b :=
  ⟨Int.tmod_eq_emod_of_nonneg ha, Int.emod_nonneg _ (by omega), Int.emod_lt_of_pos _ hb⟩

theorem jour_c (g : Geo) (ok : g.Ok) (s lsn : Int) (w : World) : Calls Try.prog 102 #[g.val, I s, I lsn] w fun e w' => e = .returned (I (jourV g s lsn)) ∧ Below w.heap.size w w' := by
  refine enter (E := E0) (O := []) (nl := 0) (V := vw w) [.a (.v g.val), .a (.v (I s)), .a (.v (I lsn))] Try.func102 rfl rfl (mem0 E0 0 w) rfl rfl ?_
  refine c_seq ?_
  refine c_region ?_
  refine o_new tok rfl rfl rfl rfl ?_
  refine o_yield rfl rfl rfl (y_val tok rfl) ?_
  refine o_end [1, 2, 3] rfl ?_
  refine x_then ?_
  refine c_seq ?_
  refine c_seq ?_
  refine c_region ?_
  refine o_yield rfl rfl rfl (y_val tok rfl) ?_
  refine o_yield rfl rfl rfl (y_val tok rfl) ?_
  refine o_yield rfl rfl rfl (y_val tok rfl) ?_
  refine o_yield rfl rfl rfl (y_val tok rfl) ?_
  refine o_yield rfl rfl rfl (y_val tok rfl) ?_
  refine o_call (.a (.v _)) rfl rfl fnok157 rfl rfl rfl (fun hg E w1 hm => by exact head_c g ok s _) ?_
  refine o_yield rfl rfl rfl (y_val tok rfl) ?_
  refine o_yield rfl rfl rfl (y_val tok rfl) ?_
  refine o_end [1, 2, 3, 14] rfl ?_
  refine x_then ?_
  refine c_cond rfl (fun h => ?_) (fun h => ?_)
  ·
    simp only [Bool.and_eq_true, Bool.or_eq_true, Bool.not_eq_true', Bool.or_eq_false_iff, Bool.and_eq_false_iff, decide_eq_true_eq, decide_eq_false_iff_not, beq_iff_eq, bne_iff_ne, Bool.not_eq_false', beq_eq_false_iff_ne, bne_eq_false_iff_eq, ne_eq, Decidable.not_not, Int.not_lt, Int.not_le] at h
    refine c_seq ?_
    refine c_region ?_
    refine o_yield rfl rfl rfl (y_val tok rfl) ?_
    refine o_end [6] rfl ?_
    refine x_then ?_
    refine c_ret ?_
    refine x_then_ret ?_
    refine b_ret tok rfl ?_
    intro E w' hm _
    refine ⟨?_, hm.below (Vw.le.refl _)⟩
    rw [jourV, if_pos (by omega)]; rfl
  ·
    simp only [Bool.and_eq_true, Bool.or_eq_true, Bool.not_eq_true', Bool.or_eq_false_iff, Bool.and_eq_false_iff, decide_eq_true_eq, decide_eq_false_iff_not, beq_iff_eq, bne_iff_ne, Bool.not_eq_false', beq_eq_false_iff_ne, bne_eq_false_iff_eq, ne_eq, Decidable.not_not, Int.not_lt, Int.not_le] at h
    obtain ⟨hgg, h1, h2⟩ := head_geo (g := g) (s := s) (by omega)
    have hf := geo_facts hgg
    have hz := geo_sizes hgg
    obtain ⟨e1, e2, e3⟩ := tmod_bounds (a := lsn) (b := g.journal) (by omega) (by omega)
    have hh : headV g s = 1 + 2 * g.nodes + g.log + s * (1 + g.journal) := by rw [headV, if_pos ⟨hgg, h1, h2⟩]
    have hr := find_jour g
    rw [if_pos hgg] at hr
    refine c_skip ?_
    refine x_then ?_
    refine c_seq ?_
    refine c_draw mixed (by kernel_rfl) ?_
    refine d_yield rfl rfl rfl (y_val tok rfl) rfl ?_
    refine d_yield rfl rfl rfl (y_val tok rfl) rfl ?_
    refine d_yield rfl rfl rfl (y_val tok rfl) rfl ?_
    refine d_yield rfl rfl rfl (y_val tok rfl) rfl ?_
    refine d_yield rfl rfl rfl (y_val tok rfl) rfl ?_
    refine d_yield rfl rfl rfl (y_rem rfl (fun hg => by omega)) rfl ?_
    refine d_yield rfl rfl rfl (y_val tok rfl) rfl ?_
    rw [e1, wrapI (n := 1 + lsn % g.journal) (by omega) (by omega)]
    have hv : jourV g s lsn = if s < 0 ∨ g.slots ≤ s ∨ 1 + lsn % g.journal < 0 ∨ 1 + g.journal ≤ 1 + lsn % g.journal then -1 else 1 + 2 * g.nodes + g.log + s * (1 + g.journal) + (1 + lsn % g.journal) := by
      rw [jourV, if_neg (by omega), hh, if_neg (by omega), ← Int.add_assoc]
    refine d_call (.a (.v _)) rfl rfl fnok150 rfl rfl rfl (fun hg E w1 hm => by exact of_c' g ok 6 s (1 + lsn % g.journal) _ hr g.slots (by omega) rfl (by dsimp only; omega) (by dsimp only; omega) (by dsimp only; omega) (by dsimp only; omega) _ hv _) ?_
    refine d_yield rfl rfl rfl (y_val tok rfl) rfl ?_
    refine d_end [6] rfl ?_
    refine x_then ?_
    refine c_ret ?_
    refine b_ret tok rfl ?_
    intro E w' hm _
    refine ⟨?_, hm.below (Vw.le.refl _)⟩
    rfl

theorem total_c (g : Geo) (ok : g.Ok) (w : World) : Calls Try.prog 121 #[g.val] w fun e w' => e = .returned (I (totV g)) ∧ Below w.heap.size w w' := by
  refine enter (E := E0) (O := []) (nl := 0) (V := vw w) [.a (.v g.val)] Try.func121 rfl rfl (mem0 E0 0 w) rfl rfl ?_
  refine c_seq ?_
  refine c_region ?_
  refine o_new tok rfl rfl rfl rfl ?_
  refine o_yield rfl rfl rfl (y_val tok rfl) ?_
  refine o_end [1] rfl ?_
  refine x_then ?_
  refine c_seq ?_
  refine c_region ?_
  refine o_yield rfl rfl rfl (y_val tok rfl) ?_
  refine o_call (.a (.v _)) rfl rfl fnok165 rfl rfl rfl (fun hg E w1 hm => by exact find_c g ok 7 _) ?_
  refine o_yield rfl rfl rfl (y_val tok rfl) ?_
  refine o_call (.a (.v _)) rfl rfl fnok166 rfl rfl rfl (fun hg E w1 hm => by exact stretchEnd_c _ _ _) ?_
  refine o_yield rfl rfl rfl (y_val tok rfl) ?_
  refine o_end [2] rfl ?_
  refine x_then ?_
  refine c_ret ?_
  refine b_ret tok rfl ?_
  intro E w' hm _
  refine ⟨?_, hm.below (Vw.le.refl _)⟩
  rw [find_data, totV]
  cases hg : geoB g with
  | false => rfl
  | true =>
    have hz := geo_sizes hg
    show Ending.returned (I (IntKind.i64.wrap (dataAt g + g.blocks * g.per))) = _
    rw [wrapI (by omega) (by omega)]; rfl

/-! The document's. -/

theorem inB_iff (n a b : Int) : inB n a b = decide (a ≤ n ∧ n ≤ b) := by
  unfold inB; rw [Bool.eq_iff_iff]; simp

theorem refHead_c (g : Geo) (ok : g.Ok) (s : Int) (w : World) : Calls Try.prog 53 #[g.val, I s] w fun e w' => e = .returned (I (headV g s)) ∧ Below w.heap.size w w' := by
  refine enter (E := E0) (O := []) (nl := 0) (V := vw w) [.a (.v g.val), .a (.v (I s))] Try.func53 rfl rfl (mem0 E0 0 w) rfl rfl ?_
  refine c_seq ?_
  refine c_region ?_
  refine o_new tok rfl rfl rfl rfl ?_
  refine o_yield rfl rfl rfl (y_val tok rfl) ?_
  refine o_end [1, 2] rfl ?_
  refine x_then ?_
  refine c_seq ?_
  refine c_seq ?_
  refine c_region ?_
  refine o_yield rfl rfl rfl (y_val tok rfl) ?_
  refine o_call (.a (.v _)) rfl rfl fnok47 rfl rfl rfl (fun hg E w1 hm => by exact refMay_c g ok _) ?_
  refine o_yield rfl rfl rfl (y_val tok rfl) ?_
  refine o_yield rfl rfl rfl (y_val tok rfl) ?_
  refine o_yield rfl rfl rfl (y_val tok rfl) ?_
  refine o_yield rfl rfl rfl (y_val tok rfl) ?_
  refine o_yield rfl rfl rfl (y_val tok rfl) ?_
  refine o_yield rfl rfl rfl (y_val tok rfl) ?_
  refine o_call (.a (.v _)) rfl rfl fnok94 rfl rfl rfl (fun hg E w1 hm => by exact in_c _ _ _ _) ?_
  refine o_yield rfl rfl rfl (y_val tok rfl) ?_
  refine o_yield rfl rfl rfl (y_val tok rfl) ?_
  refine o_end [1, 2, 15] rfl ?_
  refine x_then ?_
  refine c_cond rfl (fun h => ?_) (fun h => ?_)
  ·
    refine c_seq ?_
    refine c_region ?_
    refine o_yield rfl rfl rfl (y_val tok rfl) ?_
    refine o_end [4] rfl ?_
    refine x_then ?_
    refine c_ret ?_
    refine x_then_ret ?_
    refine b_ret tok rfl ?_
    rw [inB_iff] at h
    simp only [Bool.or_eq_true, Bool.not_eq_true', decide_eq_false_iff_not] at h
    intro E w' hm _
    refine ⟨?_, hm.below (Vw.le.refl _)⟩
    rw [headV, if_neg]
    · rfl
    · rintro ⟨h1, h2, h3⟩
      have hf := geo_facts h1
      rw [wrapI (by omega) (by omega)] at h
      rcases h with h | h
      · rw [h1] at h; cases h
      · omega
  ·
    rw [inB_iff] at h
    simp only [Bool.or_eq_false_iff, Bool.not_eq_false', decide_eq_true_eq] at h
    obtain ⟨hg, h1⟩ := h
    have hf := geo_facts hg
    have hz := geo_sizes hg
    rw [wrapI (by omega) (by omega)] at h1
    have hp := prod_bound (a := s) (b := 1 + g.journal) (A := 16) (B := 65) (by omega) (by omega) (by omega) (by omega)
    refine c_skip ?_
    refine x_then ?_
    refine c_seq ?_
    refine c_region ?_
    refine o_yield rfl rfl rfl (y_val tok rfl) ?_
    refine o_yield rfl rfl rfl (y_val tok rfl) ?_
    refine o_yield rfl rfl rfl (y_val tok rfl) ?_
    refine o_yield rfl rfl rfl (y_val tok rfl) ?_
    refine o_yield rfl rfl rfl (y_val tok rfl) ?_
    refine o_yield rfl rfl rfl (y_val tok rfl) ?_
    refine o_yield rfl rfl rfl (y_val tok rfl) ?_
    refine o_yield rfl rfl rfl (y_val tok rfl) ?_
    refine o_yield rfl rfl rfl (y_val tok rfl) ?_
    refine o_yield rfl rfl rfl (y_val tok rfl) ?_
    refine o_yield rfl rfl rfl (y_val tok rfl) ?_
    refine o_yield rfl rfl rfl (y_val tok rfl) ?_
    refine o_yield rfl rfl rfl (y_val tok rfl) ?_
    refine o_yield rfl rfl rfl (y_val tok rfl) ?_
    refine o_end [4] rfl ?_
    refine x_then ?_
    refine c_ret ?_
    refine b_ret tok rfl ?_
    intro E w' hm _
    refine ⟨?_, hm.below (Vw.le.refl _)⟩
    rw [headV, if_pos ⟨hg, by omega, by omega⟩, wrapI (n := 2 * g.nodes) (by omega) (by omega), wrapI (n := 1 + 2 * g.nodes) (by omega) (by omega), wrapI (n := 1 + 2 * g.nodes + g.log) (by omega) (by omega), wrapI (n := 1 + g.journal) (by omega) (by omega),
      wrapI (n := s * (1 + g.journal)) (by omega) (by omega), wrapI (by omega) (by omega)]
    rfl

theorem jour_le {g : Geo} {s : Int} (hh : 0 ≤ headV g s) : headV g s ≤ 1585 := by
  obtain ⟨hgg, h1, h2⟩ := head_geo hh
  have hf := geo_facts hgg
  have hz := geo_sizes hgg
  have hp := prod_bound (a := s) (b := 1 + g.journal) (A := 16) (B := 65) (by omega) (by omega) (by omega) (by omega)
  rw [headV, if_pos ⟨hgg, h1, h2⟩]
  omega

theorem refJour_c (g : Geo) (ok : g.Ok) (s lsn : Int) (w : World) : Calls Try.prog 49 #[g.val, I s, I lsn] w fun e w' => e = .returned (I (jourV g s lsn)) ∧ Below w.heap.size w w' := by
  refine enter (E := E0) (O := []) (nl := 0) (V := vw w) [.a (.v g.val), .a (.v (I s)), .a (.v (I lsn))] Try.func49 rfl rfl (mem0 E0 0 w) rfl rfl ?_
  refine c_seq ?_
  refine c_region ?_
  refine o_new tok rfl rfl rfl rfl ?_
  refine o_yield rfl rfl rfl (y_val tok rfl) ?_
  refine o_end [1, 2, 3] rfl ?_
  refine x_then ?_
  refine c_seq ?_
  refine c_seq ?_
  refine c_region ?_
  refine o_yield rfl rfl rfl (y_val tok rfl) ?_
  refine o_yield rfl rfl rfl (y_val tok rfl) ?_
  refine o_call (.a (.v _)) rfl rfl fnok53 rfl rfl rfl (fun hg E w1 hm => by exact refHead_c g ok s _) ?_
  refine o_yield rfl rfl rfl (y_val tok rfl) ?_
  refine o_yield rfl rfl rfl (y_val tok rfl) ?_
  refine o_yield rfl rfl rfl (y_val tok rfl) ?_
  refine o_yield rfl rfl rfl (y_val tok rfl) ?_
  refine o_yield rfl rfl rfl (y_val tok rfl) ?_
  refine o_end [1, 2, 3, 14] rfl ?_
  refine x_then ?_
  refine c_cond rfl (fun h => ?_) (fun h => ?_)
  ·
    simp only [Bool.and_eq_true, Bool.or_eq_true, Bool.not_eq_true', Bool.or_eq_false_iff, Bool.and_eq_false_iff, decide_eq_true_eq, decide_eq_false_iff_not, beq_iff_eq, bne_iff_ne, Bool.not_eq_false', beq_eq_false_iff_ne, bne_eq_false_iff_eq, ne_eq, Decidable.not_not, Int.not_lt, Int.not_le] at h
    refine c_seq ?_
    refine c_region ?_
    refine o_yield rfl rfl rfl (y_val tok rfl) ?_
    refine o_end [6] rfl ?_
    refine x_then ?_
    refine c_ret ?_
    refine x_then_ret ?_
    refine b_ret tok rfl ?_
    intro E w' hm _
    refine ⟨?_, hm.below (Vw.le.refl _)⟩
    rw [jourV, if_pos (by omega)]; rfl
  ·
    simp only [Bool.and_eq_true, Bool.or_eq_true, Bool.not_eq_true', Bool.or_eq_false_iff, Bool.and_eq_false_iff, decide_eq_true_eq, decide_eq_false_iff_not, beq_iff_eq, bne_iff_ne, Bool.not_eq_false', beq_eq_false_iff_ne, bne_eq_false_iff_eq, ne_eq, Decidable.not_not, Int.not_lt, Int.not_le] at h
    obtain ⟨hgg, h1, h2⟩ := head_geo (g := g) (s := s) (by omega)
    have hf := geo_facts hgg
    have hj := jour_le (g := g) (s := s) (by omega)
    obtain ⟨e1, e2, e3⟩ := tmod_bounds (a := lsn) (b := g.journal) (by omega) (by omega)
    refine c_skip ?_
    refine x_then ?_
    refine c_seq ?_
    refine c_draw mixed (by kernel_rfl) ?_
    refine d_yield rfl rfl rfl (y_val tok rfl) rfl ?_
    refine d_yield rfl rfl rfl (y_val tok rfl) rfl ?_
    refine d_call (.a (.v _)) rfl rfl fnok53 rfl rfl rfl (fun hg E w1 hm => by exact refHead_c g ok s _) ?_
    refine d_yield rfl rfl rfl (y_val tok rfl) rfl ?_
    refine d_yield rfl rfl rfl (y_val tok rfl) rfl ?_
    refine d_yield rfl rfl rfl (y_val tok rfl) rfl ?_
    refine d_yield rfl rfl rfl (y_val tok rfl) rfl ?_
    refine d_yield rfl rfl rfl (y_rem rfl (fun hg => by omega)) rfl ?_
    refine d_yield rfl rfl rfl (y_val tok rfl) rfl ?_
    refine d_yield rfl rfl rfl (y_val tok rfl) rfl ?_
    refine d_end [6] rfl ?_
    refine x_then ?_
    refine c_ret ?_
    refine b_ret tok rfl ?_
    rw [e1, wrapI (n := headV g s + 1) (by omega) (by omega)]
    intro E w' hm _
    refine ⟨?_, hm.below (Vw.le.refl _)⟩
    rw [jourV, if_neg (by omega), wrapI (by omega) (by omega)]; rfl

theorem refData_c (g : Geo) (ok : g.Ok) (b k : Int) (w : World) : Calls Try.prog 31 #[g.val, I b, I k] w fun e w' => e = .returned (I (dataV g b k)) ∧ Below w.heap.size w w' := by
  refine enter (E := E0) (O := []) (nl := 0) (V := vw w) [.a (.v g.val), .a (.v (I b)), .a (.v (I k))] Try.func31 rfl rfl (mem0 E0 0 w) rfl rfl ?_
  refine c_seq ?_
  refine c_region ?_
  refine o_new tok rfl rfl rfl rfl ?_
  refine o_yield rfl rfl rfl (y_val tok rfl) ?_
  refine o_end [1, 2, 3] rfl ?_
  refine x_then ?_
  refine c_seq ?_
  refine c_seq ?_
  refine c_region ?_
  refine o_yield rfl rfl rfl (y_val tok rfl) ?_
  refine o_call (.a (.v _)) rfl rfl fnok47 rfl rfl rfl (fun hg E w1 hm => by exact refMay_c g ok _) ?_
  refine o_yield rfl rfl rfl (y_val tok rfl) ?_
  refine o_yield rfl rfl rfl (y_val tok rfl) ?_
  refine o_yield rfl rfl rfl (y_val tok rfl) ?_
  refine o_yield rfl rfl rfl (y_val tok rfl) ?_
  refine o_yield rfl rfl rfl (y_val tok rfl) ?_
  refine o_yield rfl rfl rfl (y_val tok rfl) ?_
  refine o_call (.a (.v _)) rfl rfl fnok94 rfl rfl rfl (fun hg E w1 hm => by exact in_c _ _ _ _) ?_
  refine o_yield rfl rfl rfl (y_val tok rfl) ?_
  refine o_yield rfl rfl rfl (y_val tok rfl) ?_
  refine o_yield rfl rfl rfl (y_val tok rfl) ?_
  refine o_yield rfl rfl rfl (y_val tok rfl) ?_
  refine o_yield rfl rfl rfl (y_val tok rfl) ?_
  refine o_yield rfl rfl rfl (y_val tok rfl) ?_
  refine o_yield rfl rfl rfl (y_val tok rfl) ?_
  refine o_call (.a (.v _)) rfl rfl fnok94 rfl rfl rfl (fun hg E w1 hm => by exact in_c _ _ _ _) ?_
  refine o_yield rfl rfl rfl (y_val tok rfl) ?_
  refine o_yield rfl rfl rfl (y_val tok rfl) ?_
  refine o_end [1, 2, 3, 25] rfl ?_
  refine x_then ?_
  refine c_cond rfl (fun h => ?_) (fun h => ?_)
  ·
    refine c_seq ?_
    refine c_region ?_
    refine o_yield rfl rfl rfl (y_val tok rfl) ?_
    refine o_end [6] rfl ?_
    refine x_then ?_
    refine c_ret ?_
    refine x_then_ret ?_
    refine b_ret tok rfl ?_
    rw [inB_iff, inB_iff] at h
    simp only [Bool.or_eq_true, Bool.not_eq_true', decide_eq_false_iff_not] at h
    intro E w' hm _
    refine ⟨?_, hm.below (Vw.le.refl _)⟩
    rw [dataV, if_neg]
    · rfl
    · rintro ⟨h1, h2⟩
      have hf := geo_facts h1
      rw [wrapI (by omega) (by omega), wrapI (by omega) (by omega), h1] at h
      simp only [Bool.true_eq_false, false_or] at h
      omega
  ·
    rw [inB_iff, inB_iff] at h
    simp only [Bool.or_eq_false_iff, Bool.not_eq_false', decide_eq_true_eq] at h
    obtain ⟨⟨hgg, h1⟩, h2⟩ := h
    have hf := geo_facts hgg
    have hz := geo_sizes hgg
    rw [wrapI (by omega) (by omega)] at h1 h2
    have hp := prod_bound (a := b) (b := g.per) (A := 64) (B := 8) (by omega) (by omega) (by omega) (by omega)
    have hda : dataAt g = 1 + 2 * g.nodes + g.log + g.slots * (1 + g.journal) := rfl
    refine c_skip ?_
    refine x_then ?_
    refine c_seq ?_
    refine c_region ?_
    refine o_yield rfl rfl rfl (y_val tok rfl) ?_
    refine o_yield rfl rfl rfl (y_val tok rfl) ?_
    refine o_yield rfl rfl rfl (y_val tok rfl) ?_
    refine o_yield rfl rfl rfl (y_val tok rfl) ?_
    refine o_yield rfl rfl rfl (y_val tok rfl) ?_
    refine o_yield rfl rfl rfl (y_val tok rfl) ?_
    refine o_yield rfl rfl rfl (y_val tok rfl) ?_
    refine o_yield rfl rfl rfl (y_val tok rfl) ?_
    refine o_yield rfl rfl rfl (y_val tok rfl) ?_
    refine o_yield rfl rfl rfl (y_val tok rfl) ?_
    refine o_yield rfl rfl rfl (y_val tok rfl) ?_
    refine o_yield rfl rfl rfl (y_val tok rfl) ?_
    refine o_yield rfl rfl rfl (y_val tok rfl) ?_
    refine o_yield rfl rfl rfl (y_val tok rfl) ?_
    refine o_yield rfl rfl rfl (y_val tok rfl) ?_
    refine o_yield rfl rfl rfl (y_val tok rfl) ?_
    refine o_yield rfl rfl rfl (y_val tok rfl) ?_
    refine o_yield rfl rfl rfl (y_val tok rfl) ?_
    refine o_yield rfl rfl rfl (y_val tok rfl) ?_
    refine o_yield rfl rfl rfl (y_val tok rfl) ?_
    refine o_yield rfl rfl rfl (y_val tok rfl) ?_
    refine o_yield rfl rfl rfl (y_val tok rfl) ?_
    refine o_end [6] rfl ?_
    refine x_then ?_
    refine c_ret ?_
    refine b_ret tok rfl ?_
    intro E w' hm _
    refine ⟨?_, hm.below (Vw.le.refl _)⟩
    rw [dataV, if_pos ⟨hgg, by omega, by omega, by omega, by omega⟩, wrapI (n := 2 * g.nodes) (by omega) (by omega), wrapI (n := 1 + 2 * g.nodes) (by omega) (by omega), wrapI (n := 1 + 2 * g.nodes + g.log) (by omega) (by omega), wrapI (n := 1 + g.journal) (by omega) (by omega),
      wrapI (n := g.slots * (1 + g.journal)) (by omega) (by omega), wrapI (n := 1 + 2 * g.nodes + g.log + g.slots * (1 + g.journal)) (by omega) (by omega), ← hda, wrapI (n := b * g.per) (by omega) (by omega), wrapI (n := dataAt g + b * g.per) (by omega) (by omega), wrapI (by omega) (by omega)]
    rfl

theorem refTotal_c (g : Geo) (ok : g.Ok) (w : World) : Calls Try.prog 50 #[g.val] w fun e w' => e = .returned (I (totV g)) ∧ Below w.heap.size w w' := by
  refine enter (E := E0) (O := []) (nl := 0) (V := vw w) [.a (.v g.val)] Try.func50 rfl rfl (mem0 E0 0 w) rfl rfl ?_
  refine c_seq ?_
  refine c_region ?_
  refine o_new tok rfl rfl rfl rfl ?_
  refine o_yield rfl rfl rfl (y_val tok rfl) ?_
  refine o_end [1] rfl ?_
  refine x_then ?_
  refine c_seq ?_
  refine c_seq ?_
  refine c_region ?_
  refine o_yield rfl rfl rfl (y_val tok rfl) ?_
  refine o_call (.a (.v _)) rfl rfl fnok47 rfl rfl rfl (fun hg E w1 hm => by exact refMay_c g ok _) ?_
  refine o_yield rfl rfl rfl (y_val tok rfl) ?_
  refine o_end [1, 5] rfl ?_
  refine x_then ?_
  refine c_cond rfl (fun h => ?_) (fun h => ?_)
  ·
    simp only [Bool.and_eq_true, Bool.or_eq_true, Bool.not_eq_true', Bool.or_eq_false_iff, Bool.and_eq_false_iff, decide_eq_true_eq, decide_eq_false_iff_not, beq_iff_eq, bne_iff_ne, Bool.not_eq_false', beq_eq_false_iff_ne, bne_eq_false_iff_eq, ne_eq, Decidable.not_not, Int.not_lt, Int.not_le] at h
    refine c_seq ?_
    refine c_region ?_
    refine o_yield rfl rfl rfl (y_val tok rfl) ?_
    refine o_end [2] rfl ?_
    refine x_then ?_
    refine c_ret ?_
    refine x_then_ret ?_
    refine b_ret tok rfl ?_
    intro E w' hm _
    refine ⟨?_, hm.below (Vw.le.refl _)⟩
    rw [totV, if_neg (by simp [h])]; rfl
  ·
    simp only [Bool.and_eq_true, Bool.or_eq_true, Bool.not_eq_true', Bool.or_eq_false_iff, Bool.and_eq_false_iff, decide_eq_true_eq, decide_eq_false_iff_not, beq_iff_eq, bne_iff_ne, Bool.not_eq_false', beq_eq_false_iff_ne, bne_eq_false_iff_eq, ne_eq, Decidable.not_not, Int.not_lt, Int.not_le] at h
    have hf := geo_facts h
    have hz := geo_sizes h
    refine c_skip ?_
    refine x_then ?_
    refine c_seq ?_
    refine c_region ?_
    refine o_yield rfl rfl rfl (y_val tok rfl) ?_
    refine o_yield rfl rfl rfl (y_val tok rfl) ?_
    refine o_yield rfl rfl rfl (y_val tok rfl) ?_
    refine o_yield rfl rfl rfl (y_val tok rfl) ?_
    refine o_yield rfl rfl rfl (y_val tok rfl) ?_
    refine o_yield rfl rfl rfl (y_val tok rfl) ?_
    refine o_yield rfl rfl rfl (y_val tok rfl) ?_
    rw [wrapI (n := g.blocks - 1) (by omega) (by omega), wrapI (n := g.per - 1) (by omega) (by omega)]
    refine o_call (.a (.v _)) rfl rfl fnok31 rfl rfl rfl (fun hg E w1 hm => by exact refData_c g ok _ _ _) ?_
    refine o_yield rfl rfl rfl (y_val tok rfl) ?_
    refine o_yield rfl rfl rfl (y_val tok rfl) ?_
    refine o_end [2] rfl ?_
    refine x_then ?_
    refine c_ret ?_
    refine b_ret tok rfl ?_
    have hb := prod_bound (a := g.blocks) (b := g.per) (A := 64) (B := 8) (by omega) (by omega) (by omega) (by omega)
    have e : dataV g (g.blocks - 1) (g.per - 1) + 1 = totV g := by
      rw [dataV, if_pos ⟨h, by omega, by omega, by omega, by omega⟩, totV, if_pos h, Int.sub_mul, Int.one_mul]
      omega
    have ht : totV g ≤ 2097 ∧ 0 ≤ totV g := by rw [totV, if_pos h]; omega
    intro E w' hm _
    refine ⟨?_, hm.below (Vw.le.refl _)⟩
    rw [← e, wrapI (by omega) (by omega)]; rfl
end Go.Proofs.Ytanekcndpkagiaa

/- A text's pieces: the program's. -/
set_option linter.unusedVariables false
set_option linter.unusedSimpArgs false
set_option maxRecDepth 100000
namespace Go.Proofs.Ytanekcndpkagiaa
open Go Go.Eng Go.RowKit

def pieceAt (text : ByteArray) (k : Nat) : ByteArray := headOf (restAt text k)
def pieceL (per : Nat) (text : ByteArray) : List ByteArray := (List.range per).map (pieceAt text)

theorem str_ones (l : List ByteArray) : ∀ u ∈ l.flatMap encS, u.oneCell' = true := by
  intro u hu
  obtain ⟨x, _, hx⟩ := List.mem_flatMap.1 hu
  simp only [encS, List.mem_singleton] at hx
  subst hx
  rfl

def PcPost (g : Geo) (text : ByteArray) (w : World) (e : Ending) (w' : World) : Prop :=
  ((geoB g = true ∧ (text.size : Int) ≤ g.per * 256 ∧ ∃ v, e = .returned (.tuple #[v, I 0]) ∧ w'.ownsRow w.heap.size 9 1 v (pieceL g.per.toNat text).length ((pieceL g.per.toNat text).flatMap encS)) ∨
    (geoB g = false ∧ e = .returned (.tuple #[.slice none 0 0, I 2])) ∨ (geoB g = true ∧ g.per * 256 < (text.size : Int) ∧ e = .returned (.tuple #[.slice none 0 0, I 60]))) ∧ Below w.heap.size w w'

theorem pieces_c (g : Geo) (ok : g.Ok) (text : ByteArray) (w : World) (ht : text.size ≤ maxLen) : Calls Try.prog 27 #[g.val, S text] w (PcPost g text w) := by
  simp only [maxLen] at ht
  refine enter (E := E0) (O := []) (nl := 0) (V := vw w) [.a (.v g.val), .a (.v (S text))] Try.func27 rfl rfl (mem0 E0 0 w) rfl rfl ?_
  refine c_seq ?_
  refine c_region ?_
  refine o_new tok rfl rfl rfl rfl ?_
  refine o_yield rfl rfl rfl (y_val tok rfl) ?_
  refine o_yield rfl rfl rfl (y_val tok rfl) ?_
  refine o_end [1, 2] rfl ?_
  refine x_then ?_
  refine c_seq ?_
  refine c_seq ?_
  refine c_region ?_
  refine o_yield rfl rfl rfl (y_val tok rfl) ?_
  refine o_call (.a (.v _)) rfl rfl fnok85 rfl rfl rfl (fun hg E w1 hm => by exact geoMay_c g ok _) ?_
  refine o_yield rfl rfl rfl (y_val tok rfl) ?_
  refine o_end [1, 2, 11] rfl ?_
  refine x_then ?_
  refine c_cond rfl (fun h => ?_) (fun h => ?_)
  ·
    simp only [Bool.and_eq_true, Bool.or_eq_true, Bool.not_eq_true', Bool.or_eq_false_iff, Bool.and_eq_false_iff, decide_eq_true_eq, decide_eq_false_iff_not, beq_iff_eq, bne_iff_ne, Bool.not_eq_false', beq_eq_false_iff_ne, bne_eq_false_iff_eq, ne_eq, Decidable.not_not, Int.not_lt, Int.not_le] at h
    refine c_seq ?_
    refine c_region ?_
    refine o_yield rfl rfl rfl (y_val tok rfl) ?_
    refine o_yield rfl rfl rfl (y_val tok rfl) ?_
    refine o_end [4, 5] rfl ?_
    refine x_then ?_
    refine c_ret ?_
    refine x_then_ret ?_
    refine b_ret tok rfl ?_
    intro E w' hm _
    exact ⟨.inr (.inl ⟨h, rfl⟩), hm.below (Vw.le.refl _)⟩
  ·
    simp only [Bool.and_eq_true, Bool.or_eq_true, Bool.not_eq_true', Bool.or_eq_false_iff, Bool.and_eq_false_iff, decide_eq_true_eq, decide_eq_false_iff_not, beq_iff_eq, bne_iff_ne, Bool.not_eq_false', beq_eq_false_iff_ne, bne_eq_false_iff_eq, ne_eq, Decidable.not_not, Int.not_lt, Int.not_le] at h
    have hgg := h
    have hf := geo_facts hgg
    obtain ⟨per, hper⟩ : ∃ per : Nat, g.per = per := ⟨g.per.toNat, by omega⟩
    have hpn : g.per.toNat = per := by omega
    refine c_skip ?_
    refine x_then ?_
    refine c_seq ?_
    refine c_seq ?_
    refine c_region ?_
    refine o_yield rfl rfl rfl (y_val tok rfl) ?_
    refine o_yield rfl rfl rfl (y_val tok rfl) ?_
    refine o_yield rfl rfl rfl (y_val tok rfl) ?_
    refine o_yield rfl rfl rfl (y_val tok rfl) ?_
    refine o_yield rfl rfl rfl (y_val tok rfl) ?_
    refine o_yield rfl rfl rfl (y_val tok rfl) ?_
    refine o_end [1, 2, 17] rfl ?_
    refine x_then ?_
    refine c_cond rfl (fun h => ?_) (fun h => ?_)
    ·
      simp only [Bool.and_eq_true, Bool.or_eq_true, Bool.not_eq_true', Bool.or_eq_false_iff, Bool.and_eq_false_iff, decide_eq_true_eq, decide_eq_false_iff_not, beq_iff_eq, bne_iff_ne, Bool.not_eq_false', beq_eq_false_iff_ne, bne_eq_false_iff_eq, ne_eq, Decidable.not_not, Int.not_lt, Int.not_le] at h
      refine c_seq ?_
      refine c_region ?_
      refine o_yield rfl rfl rfl (y_val tok rfl) ?_
      refine o_yield rfl rfl rfl (y_val tok rfl) ?_
      refine o_end [4, 5] rfl ?_
      refine x_then ?_
      refine c_ret ?_
      refine x_then_ret ?_
      refine b_ret tok rfl ?_
      rw [wrapI (by omega) (by omega)] at h
      intro E w' hm _
      exact ⟨.inr (.inr ⟨hgg, h, rfl⟩), hm.below (Vw.le.refl _)⟩
    ·
      simp only [Bool.and_eq_true, Bool.or_eq_true, Bool.not_eq_true', Bool.or_eq_false_iff, Bool.and_eq_false_iff, decide_eq_true_eq, decide_eq_false_iff_not, beq_iff_eq, bne_iff_ne, Bool.not_eq_false', beq_eq_false_iff_ne, bne_eq_false_iff_eq, ne_eq, Decidable.not_not, Int.not_lt, Int.not_le] at h
      rw [wrapI (by omega) (by omega)] at h
      have hle := h
      refine c_skip ?_
      refine x_then ?_
      refine c_seq ?_
      refine c_region ?_
      refine o_yield rfl rfl rfl (y_val tok rfl) ?_
      refine o_yield rfl rfl rfl (y_val tok rfl) ?_
      rw [hper]
      refine o_step rfl rfl rfl rfl rfl (s_mk tok per per rfl rfl rfl (Nat.le_refl _) (by dsimp only; omega) (by simp only [maxLen]; omega)) (fun _ _ => ?_)
      refine o_yield rfl rfl rfl (y_val tok rfl) ?_
      refine o_end [1, 6] rfl ?_
      refine x_then ?_
      refine c_seq ?_
      refine c_seq ?_
      refine c_region ?_
      refine o_yield rfl rfl rfl (y_val tok rfl) ?_
      refine o_yield rfl rfl rfl (y_val tok rfl) ?_
      refine o_yield rfl rfl rfl (y_val tok rfl) ?_
      refine o_end [1, 6, 22, 23] rfl ?_
      refine x_then ?_
      refine c_block ?_
      have hz : repZ per [S ByteArray.empty] = (fillTo (pieceAt text) ByteArray.empty per 0).flatMap encS := by rw [fillTo_zero]; exact repZ_flat (enc := encS) ByteArray.empty per
      rw [show (repZ per _ : List Value) = _ from hz]
      refine c_loopK [6, 22] [1] rfl rfl (σ := Nat) (fun k => [(1, .a (.v (S (restAt text k)))), (23, .a (.v (I k)))]) (fun k => [(1, .row 9 1 per ((fillTo (pieceAt text) ByteArray.empty per k).flatMap encS))]) (fun k => k ≤ per) (fun k => per - k) (0) (by omega) (by repeat (first | exact SubF.nil | refine SubF.cons rfl ?_)) (by repeat (first | exact SubO.nil | refine SubO.cons rfl ?_)) rfl ?_
      rintro k hk
      refine c_seq ?_
      refine c_region ?_
      refine o_yield rfl rfl rfl (y_val tok rfl) ?_
      refine o_end [1, 6, 22, 23, 24] rfl ?_
      refine x_then ?_
      refine c_seq ?_
      refine c_cond rfl (fun h => ?_) (fun h => ?_)
      ·
        simp only [Bool.and_eq_true, Bool.or_eq_true, Bool.not_eq_true', Bool.or_eq_false_iff, Bool.and_eq_false_iff, decide_eq_true_eq, decide_eq_false_iff_not, beq_iff_eq, bne_iff_ne, Bool.not_eq_false', beq_eq_false_iff_ne, bne_eq_false_iff_eq, ne_eq, Decidable.not_not, Int.not_lt, Int.not_le] at h
        refine c_skip ?_
        refine x_then ?_
        refine c_seq ?_
        refine c_block ?_
        refine c_seq ?_
        refine c_region ?_
        refine o_yield rfl rfl rfl (y_val tok rfl) ?_
        refine o_yield rfl rfl rfl (y_val tok rfl) ?_
        refine o_end [1, 6, 7, 22, 23] rfl ?_
        refine x_then ?_
        refine c_seq ?_
        refine c_region ?_
        refine o_yield rfl rfl rfl (y_val tok rfl) ?_
        refine o_yield rfl rfl rfl (y_val tok rfl) ?_
        have hrs := rest_size text k
        refine o_yield rfl rfl rfl (y_mm rfl) ?_
        refine o_yield rfl rfl rfl (y_val tok rfl) ?_
        refine o_end [1, 6, 7, 8, 22, 23] rfl ?_
        refine x_then ?_
        refine c_held [] ([]) mixed (by repeat (first | exact SubO.nil | refine SubO.cons rfl ?_)) rfl ?_
        refine t_take 0 rfl (by kernel_rfl) rfl rfl rfl (y_val tok rfl) rfl ?_
        refine t_take 1 rfl (by kernel_rfl) rfl rfl rfl (y_val tok rfl) rfl ?_
        refine t_take 2 rfl (by kernel_rfl) rfl rfl rfl (y_val tok rfl) rfl ?_
        refine t_take 3 rfl (by kernel_rfl) rfl rfl rfl (y_val tok rfl) rfl ?_
        rw [minI]
        refine t_take 4 rfl (by kernel_rfl) rfl rfl rfl (y_ss tok rfl (fun hg => by simp only [Option.getD]; omega)) rfl ?_
        refine t_take 5 rfl (by kernel_rfl) rfl rfl rfl (y_val tok rfl) rfl ?_
        refine t_take 6 rfl (by kernel_rfl) rfl rfl rfl (y_val tok rfl) rfl ?_
        refine t_take 7 rfl (by kernel_rfl) rfl rfl rfl (y_ss tok rfl (fun hg => by simp only [Option.getD]; omega)) rfl ?_
        refine t_go ?_
        refine h_one 8 (by kernel_rfl) ?_
        rw [show (restAt text k).extract ((none : Option Int).getD 0).toNat ((some ((min (restAt text k).size 256 : Nat) : Int)).getD ((restAt text k).size : Int)).toNat = pieceAt text k from rfl,
          show (restAt text k).extract ((some ((min (restAt text k).size 256 : Nat) : Int)).getD 0).toNat ((none : Option Int).getD ((restAt text k).size : Int)).toNat = restAt text (k + 1) from rfl]
        refine h_yield 8 rfl rfl rfl rfl (y_own (s := .a (.rel 1 k)) 1 rfl rfl (fun v V' hv => y_idxK tok k rfl (by simp) (fun hg => hv) (fun hg => by omega))) ?_
        refine h_one 9 (by kernel_rfl) ?_
        refine h_toN 9 rfl rfl rfl rfl rfl (s_rst tok rfl rfl (by intro u hu; simp only [List.mem_singleton] at hu; subst hu; rfl) (by simp only [List.length_singleton]; omega) (by omega)) (.inr fun _ _ => ⟨(by repeat (first | exact SubO.nil | refine SubO.cons rfl ?_)), rfl, Vw.le.refl _⟩) (fun _ _ => ?_)
        refine h_one 10 (by kernel_rfl) ?_
        refine h_yield 10 rfl rfl rfl rfl (y_val tok rfl) ?_
        refine h_done [1, 6, 22, 23] (by kernel_rfl) rfl ?_
        refine x_block ?_
        refine x_then ?_
        refine c_region ?_
        refine o_yield rfl rfl rfl (y_val tok rfl) ?_
        refine o_yield rfl rfl rfl (y_val tok rfl) ?_
        refine o_end [1, 6, 22, 23] rfl ?_
        refine x_then ?_
        have hset := overL_set (enc := encS) (sz := 1) (fun _ => rfl) (fillTo (pieceAt text) ByteArray.empty per k) k (pieceAt text k) (by rw [fillTo_length]; omega)
        rw [fillTo_set _ _ _ _ (by omega), Nat.mul_one] at hset
        rw [show overL k [Value.string _] _ = _ from hset, wrapI (n := (k : Int) + 1) (by omega) (by omega)]
        refine x_round (k + 1) (by omega) (by first | omega | (dsimp only; omega)) (by repeat (first | exact SubF.nil | refine SubF.cons rfl ?_)) (by repeat (first | exact SubO.nil | refine SubO.cons rfl ?_)) rfl (Vw.le.refl _)
      ·
        simp only [Bool.and_eq_true, Bool.or_eq_true, Bool.not_eq_true', Bool.or_eq_false_iff, Bool.and_eq_false_iff, decide_eq_true_eq, decide_eq_false_iff_not, beq_iff_eq, bne_iff_ne, Bool.not_eq_false', beq_eq_false_iff_ne, bne_eq_false_iff_eq, ne_eq, Decidable.not_not, Int.not_lt, Int.not_le] at h
        refine c_exit ?_
        refine x_then_exit ?_
        refine x_then_exit ?_
        refine x_block_hit ?_
        refine x_then ?_
        refine c_seq ?_
        refine c_region ?_
        refine o_yield rfl rfl rfl (y_val tok rfl) ?_
        refine o_yield rfl rfl rfl (y_val tok rfl) ?_
        refine o_yield rfl rfl rfl (y_val tok rfl) ?_
        refine o_end [4, 5] rfl ?_
        refine x_then ?_
        refine c_ret ?_
        refine b_ret tok rfl ?_
        have hkp : k = per := by omega
        subst hkp
        intro E w' hm _
        refine ⟨.inl ⟨hgg, hle, E.κ 1, rfl, ?_⟩, hm.below (Vw.le.refl _)⟩
        have hrow := hm.rowFresh (Vw.le.refl _) (l := 1) rfl
        rw [fillTo_all] at hrow
        rw [hpn, show (pieceL k text).length = k by simp [pieceL]]
        exact hrow
end Go.Proofs.Ytanekcndpkagiaa

/- Whether a transaction fits, which blocks may be. -/
set_option linter.unusedVariables false
set_option linter.unusedSimpArgs false
set_option maxRecDepth 100000
namespace Go.Proofs.Ytanekcndpkagiaa
open Go Go.Eng Go.RowKit

def fitsV (g : Geo) (used n : Int) : Int :=
  if geoB g = false ∨ used < 0 ∨ g.journal < used ∨ n < 0 then 2 else if g.journal < manyOf g n then 180 else if g.journal < manyOf g n + used then 190 else 0

theorem many_bound (g : Geo) (n : Int) : 0 ≤ manyOf g n ∧ manyOf g n ≤ 8796093022209 := by
  unfold manyOf
  split
  · rename_i h
    have hf := geo_facts h.1
    have := prod_bound (a := g.per) (b := min n 1099511627776) (A := 8) (B := 1099511627776) (by omega) (by omega) (by omega) (by omega)
    omega
  · omega

theorem fits_c (g : Geo) (ok : g.Ok) (used n : Int) (w : World) : Calls Try.prog 18 #[g.val, I used, I n] w fun e w' => e = .returned (I (fitsV g used n)) ∧ Below w.heap.size w w' := by
  have hm := many_bound g n
  refine enter (E := E0) (O := []) (nl := 0) (V := vw w) [.a (.v g.val), .a (.v (I used)), .a (.v (I n))] Try.func18 rfl rfl (mem0 E0 0 w) rfl rfl ?_
  refine c_seq ?_
  refine c_region ?_
  refine o_new tok rfl rfl rfl rfl ?_
  refine o_yield rfl rfl rfl (y_val tok rfl) ?_
  refine o_end [1, 2, 3] rfl ?_
  refine x_then ?_
  refine c_seq ?_
  refine c_region ?_
  refine o_yield rfl rfl rfl (y_val tok rfl) ?_
  refine o_yield rfl rfl rfl (y_val tok rfl) ?_
  refine o_call (.a (.v _)) rfl rfl fnok84 rfl rfl rfl (fun hg E w1 hm => by exact many_c g ok n _) ?_
  refine o_yield rfl rfl rfl (y_val tok rfl) ?_
  refine o_end [1, 2, 3, 7] rfl ?_
  refine x_then ?_
  refine c_seq ?_
  refine c_block ?_
  refine c_seq ?_
  refine c_region ?_
  refine o_yield rfl rfl rfl (y_val tok rfl) ?_
  refine o_call (.a (.v _)) rfl rfl fnok85 rfl rfl rfl (fun hg E w1 hm => by exact geoMay_c g ok _) ?_
  refine o_yield rfl rfl rfl (y_val tok rfl) ?_
  refine o_yield rfl rfl rfl (y_val tok rfl) ?_
  refine o_yield rfl rfl rfl (y_val tok rfl) ?_
  refine o_yield rfl rfl rfl (y_val tok rfl) ?_
  refine o_yield rfl rfl rfl (y_val tok rfl) ?_
  refine o_yield rfl rfl rfl (y_val tok rfl) ?_
  refine o_yield rfl rfl rfl (y_val tok rfl) ?_
  refine o_yield rfl rfl rfl (y_val tok rfl) ?_
  refine o_yield rfl rfl rfl (y_val tok rfl) ?_
  refine o_yield rfl rfl rfl (y_val tok rfl) ?_
  refine o_yield rfl rfl rfl (y_val tok rfl) ?_
  refine o_yield rfl rfl rfl (y_val tok rfl) ?_
  refine o_yield rfl rfl rfl (y_val tok rfl) ?_
  refine o_yield rfl rfl rfl (y_val tok rfl) ?_
  refine o_yield rfl rfl rfl (y_val tok rfl) ?_
  refine o_yield rfl rfl rfl (y_val tok rfl) ?_
  refine o_end [1, 3, 7, 11] rfl ?_
  refine x_then ?_
  refine c_cond rfl (fun h => ?_) (fun h => ?_)
  ·
    simp only [Bool.and_eq_true, Bool.or_eq_true, Bool.not_eq_true', Bool.or_eq_false_iff, Bool.and_eq_false_iff, decide_eq_true_eq, decide_eq_false_iff_not, beq_iff_eq, bne_iff_ne, Bool.not_eq_false', beq_eq_false_iff_ne, bne_eq_false_iff_eq, ne_eq, Decidable.not_not, Int.not_lt, Int.not_le] at h
    refine c_seq ?_
    refine c_region ?_
    refine o_yield rfl rfl rfl (y_val tok rfl) ?_
    refine o_end [6] rfl ?_
    refine x_then ?_
    refine c_ret ?_
    refine x_block_ret ?_
    refine x_then_ret ?_
    refine b_ret tok rfl ?_
    intro E w' hm _
    refine ⟨?_, hm.below (Vw.le.refl _)⟩
    rw [fitsV, if_pos]
    · rfl
    · cases hgg : geoB g with
      | false => exact .inl rfl
      | true =>
        rw [hgg] at h
        simp only [Bool.true_eq_false, false_or] at h
        exact .inr (by omega)
  ·
    simp only [Bool.and_eq_true, Bool.or_eq_true, Bool.not_eq_true', Bool.or_eq_false_iff, Bool.and_eq_false_iff, decide_eq_true_eq, decide_eq_false_iff_not, beq_iff_eq, bne_iff_ne, Bool.not_eq_false', beq_eq_false_iff_ne, bne_eq_false_iff_eq, ne_eq, Decidable.not_not, Int.not_lt, Int.not_le] at h
    have h1 := h
    have hgg : geoB g = true := by cases hq : geoB g <;> simp [hq] at h1 ⊢
    have hf := geo_facts hgg
    have hu : 0 ≤ used ∧ used ≤ g.journal ∧ 0 ≤ n := by omega
    clear h h1
    have hpre : ¬ (geoB g = false ∨ used < 0 ∨ g.journal < used ∨ n < 0) := by rw [hgg]; simp; omega
    refine c_seq ?_
    refine c_region ?_
    refine o_yield rfl rfl rfl (y_val tok rfl) ?_
    refine o_yield rfl rfl rfl (y_val tok rfl) ?_
    refine o_yield rfl rfl rfl (y_val tok rfl) ?_
    refine o_yield rfl rfl rfl (y_val tok rfl) ?_
    refine o_yield rfl rfl rfl (y_val tok rfl) ?_
    refine o_end [1, 3, 7, 29] rfl ?_
    refine x_then ?_
    refine c_cond rfl (fun h => ?_) (fun h => ?_)
    ·
      simp only [Bool.and_eq_true, Bool.or_eq_true, Bool.not_eq_true', Bool.or_eq_false_iff, Bool.and_eq_false_iff, decide_eq_true_eq, decide_eq_false_iff_not, beq_iff_eq, bne_iff_ne, Bool.not_eq_false', beq_eq_false_iff_ne, bne_eq_false_iff_eq, ne_eq, Decidable.not_not, Int.not_lt, Int.not_le] at h
      refine c_seq ?_
      refine c_region ?_
      refine o_yield rfl rfl rfl (y_val tok rfl) ?_
      refine o_end [6] rfl ?_
      refine x_then ?_
      refine c_ret ?_
      refine x_block_ret ?_
      refine x_then_ret ?_
      refine b_ret tok rfl ?_
      intro E w' hm _
      refine ⟨?_, hm.below (Vw.le.refl _)⟩
      rw [fitsV, if_neg hpre, if_pos h]; rfl
    ·
      simp only [Bool.and_eq_true, Bool.or_eq_true, Bool.not_eq_true', Bool.or_eq_false_iff, Bool.and_eq_false_iff, decide_eq_true_eq, decide_eq_false_iff_not, beq_iff_eq, bne_iff_ne, Bool.not_eq_false', beq_eq_false_iff_ne, bne_eq_false_iff_eq, ne_eq, Decidable.not_not, Int.not_lt, Int.not_le] at h
      have h2 := h
      clear h
      refine c_seq ?_
      refine c_region ?_
      refine o_yield rfl rfl rfl (y_val tok rfl) ?_
      refine o_yield rfl rfl rfl (y_val tok rfl) ?_
      refine o_yield rfl rfl rfl (y_val tok rfl) ?_
      refine o_yield rfl rfl rfl (y_val tok rfl) ?_
      refine o_yield rfl rfl rfl (y_val tok rfl) ?_
      refine o_yield rfl rfl rfl (y_val tok rfl) ?_
      refine o_yield rfl rfl rfl (y_val tok rfl) ?_
      refine o_end [34] rfl ?_
      refine x_then ?_
      refine c_cond rfl (fun h => ?_) (fun h => ?_)
      ·
        simp only [Bool.and_eq_true, Bool.or_eq_true, Bool.not_eq_true', Bool.or_eq_false_iff, Bool.and_eq_false_iff, decide_eq_true_eq, decide_eq_false_iff_not, beq_iff_eq, bne_iff_ne, Bool.not_eq_false', beq_eq_false_iff_ne, bne_eq_false_iff_eq, ne_eq, Decidable.not_not, Int.not_lt, Int.not_le] at h
        refine c_seq ?_
        refine c_region ?_
        refine o_yield rfl rfl rfl (y_val tok rfl) ?_
        refine o_end [6] rfl ?_
        refine x_then ?_
        refine c_ret ?_
        refine x_block_ret ?_
        refine x_then_ret ?_
        refine b_ret tok rfl ?_
        rw [wrapI (by omega) (by omega)] at h
        intro E w' hm _
        refine ⟨?_, hm.below (Vw.le.refl _)⟩
        rw [fitsV, if_neg hpre, if_neg (by omega), if_pos h]; rfl
      ·
        simp only [Bool.and_eq_true, Bool.or_eq_true, Bool.not_eq_true', Bool.or_eq_false_iff, Bool.and_eq_false_iff, decide_eq_true_eq, decide_eq_false_iff_not, beq_iff_eq, bne_iff_ne, Bool.not_eq_false', beq_eq_false_iff_ne, bne_eq_false_iff_eq, ne_eq, Decidable.not_not, Int.not_lt, Int.not_le] at h
        refine c_skip ?_
        refine x_block ?_
        refine x_then ?_
        refine c_seq ?_
        refine c_region ?_
        refine o_yield rfl rfl rfl (y_val tok rfl) ?_
        refine o_end [6] rfl ?_
        refine x_then ?_
        refine c_ret ?_
        refine b_ret tok rfl ?_
        rw [wrapI (by omega) (by omega)] at h
        intro E w' hm _
        refine ⟨?_, hm.below (Vw.le.refl _)⟩
        rw [fitsV, if_neg hpre, if_neg (by omega), if_neg (by omega)]; rfl

/-- Blocks behind a number. -/
def mayF (g : Geo) : Int → List Block → Bool
  | _, [] => true
  | last, x :: r => decide (last < x.n ∧ x.n < g.blocks ∧ (x.text.size : Int) ≤ g.per * 256) && mayF g x.n r

def mayL (g : Geo) (l : List Block) : Bool := geoB g && mayF g (-1) l

theorem mayF_cons {g : Geo} {last : Int} {x : Block} {r : List Block} : mayF g last (x :: r) = true ↔ (last < x.n ∧ x.n < g.blocks ∧ (x.text.size : Int) ≤ g.per * 256) ∧ mayF g x.n r = true := by
  simp [mayF]

theorem lastN_succ {l : List Block} {i : Nat} {x : Block} (h : l[i]? = some x) : lastN l (i + 1) = x.n := by rw [lastN, blkAt_eq h]

theorem refBMay_c (V : Vw) (g : Geo) (ok : g.Ok) (sv : Value) (l : List Block) (w : World) (hV : V.le (vw w)) (hs0 : SlOf V Block.cells 2 sv l) (hn : l.length ≤ maxLen) :
    Calls Try.prog 20 #[g.val, sv] w fun e w' => e = .returned (.bool (mayL g l)) ∧ Below w.heap.size w w' := by
  have hs := hs0.mono hV
  simp only [maxLen] at hn
  refine enter (E := E0) (O := []) (nl := 0) (V := vw w) [.a (.v g.val), .a (.v sv)] Try.func20 rfl rfl (mem0 E0 0 w) rfl rfl ?_
  refine c_seq ?_
  refine c_region ?_
  refine o_new tok rfl rfl rfl rfl ?_
  refine o_yield rfl rfl rfl (y_val tok rfl) ?_
  refine o_end [1, 2] rfl ?_
  refine x_then ?_
  refine c_seq ?_
  refine c_seq ?_
  refine c_region ?_
  refine o_yield rfl rfl rfl (y_val tok rfl) ?_
  refine o_call (.a (.v _)) rfl rfl fnok47 rfl rfl rfl (fun hg E w1 hm => by exact refMay_c g ok _) ?_
  refine o_yield rfl rfl rfl (y_val tok rfl) ?_
  refine o_end [1, 2, 8] rfl ?_
  refine x_then ?_
  refine c_cond rfl (fun h => ?_) (fun h => ?_)
  ·
    simp only [Bool.and_eq_true, Bool.or_eq_true, Bool.not_eq_true', Bool.or_eq_false_iff, Bool.and_eq_false_iff, decide_eq_true_eq, decide_eq_false_iff_not, beq_iff_eq, bne_iff_ne, Bool.not_eq_false', beq_eq_false_iff_ne, bne_eq_false_iff_eq, ne_eq, Decidable.not_not, Int.not_lt, Int.not_le] at h
    refine c_seq ?_
    refine c_region ?_
    refine o_yield rfl rfl rfl (y_val tok rfl) ?_
    refine o_end [4] rfl ?_
    refine x_then ?_
    refine c_ret ?_
    refine x_then_ret ?_
    refine b_ret tok rfl ?_
    intro E w' hm _
    refine ⟨?_, hm.below (Vw.le.refl _)⟩
    rw [mayL, h]; rfl
  ·
    simp only [Bool.and_eq_true, Bool.or_eq_true, Bool.not_eq_true', Bool.or_eq_false_iff, Bool.and_eq_false_iff, decide_eq_true_eq, decide_eq_false_iff_not, beq_iff_eq, bne_iff_ne, Bool.not_eq_false', beq_eq_false_iff_ne, bne_eq_false_iff_eq, ne_eq, Decidable.not_not, Int.not_lt, Int.not_le] at h
    have hgg := h
    have hf := geo_facts hgg
    clear h
    have hmL : mayL g l = mayF g (-1) l := by rw [mayL, hgg, Bool.true_and]
    refine c_skip ?_
    refine x_then ?_
    refine c_seq ?_
    refine c_seq ?_
    refine c_region ?_
    refine o_yield rfl rfl rfl (y_val tok rfl) ?_
    refine o_end [1, 2, 5] rfl ?_
    refine x_then ?_
    refine c_block ?_
    refine c_loopK [1, 2] [] rfl rfl (σ := Nat) (fun i => [(5, .a (.v (I i)))]) (fun i => []) (fun i => i ≤ l.length ∧ mayF g (-1) l = mayF g (lastN l i) (l.drop i) ∧ -1 ≤ lastN l i) (fun i => l.length - i) (0) (⟨by omega, rfl, by simp [lastN]⟩) (by repeat (first | exact SubF.nil | refine SubF.cons rfl ?_)) (by repeat (first | exact SubO.nil | refine SubO.cons rfl ?_)) rfl ?_
    rintro i ⟨hi, heq, hlast⟩
    have hlc : (i = 0 ∧ lastN l i = -1) ∨ (0 < i ∧ lastN l i = (blkAt l (i - 1)).n) := by
      cases i with
      | zero => exact .inl ⟨rfl, rfl⟩
      | succ j => exact .inr ⟨by omega, rfl⟩
    refine c_seq ?_
    refine c_seq ?_
    refine c_region ?_
    refine o_yield rfl rfl rfl (y_val tok rfl) ?_
    refine o_yield rfl rfl rfl (y_val tok rfl) ?_
    refine o_yield rfl rfl rfl (y_len tok rfl (fun hg => hs.sl)) ?_
    refine o_yield rfl rfl rfl (y_val tok rfl) ?_
    refine o_end [1, 2, 5, 12] rfl ?_
    refine x_then ?_
    refine c_cond rfl (fun h => ?_) (fun h => ?_)
    ·
      simp only [Bool.and_eq_true, Bool.or_eq_true, Bool.not_eq_true', Bool.or_eq_false_iff, Bool.and_eq_false_iff, decide_eq_true_eq, decide_eq_false_iff_not, beq_iff_eq, bne_iff_ne, Bool.not_eq_false', beq_eq_false_iff_ne, bne_eq_false_iff_eq, ne_eq, Decidable.not_not, Int.not_lt, Int.not_le] at h
      refine c_skip ?_
      refine x_then ?_
      refine c_seq ?_
      refine c_block ?_
      refine c_seq ?_
      refine c_draw mixed (by kernel_rfl) ?_
      refine d_yield rfl rfl rfl (y_val tok rfl) rfl ?_
      refine d_yield rfl rfl rfl (y_val tok rfl) rfl ?_
      obtain ⟨x, h_x⟩ := hs.at (k := i) (by omega)
      rw [drop_at h_x] at heq
      have hlt_x := lt_of_at h_x
      refine d_yield rfl rfl rfl (y_idx tok rfl (fun hg => hs.sl) (fun hg => ⟨by omega, by omega⟩)) rfl ?_
      refine d_yield rfl rfl rfl (y_fel tok rfl (fun hg => hs.sl) (fun hg => by omega)) rfl ?_
      refine d_yield rfl rfl rfl (y_lel tok (i) 0 (x) rfl (fun hg => hs) (fun hg => h_x) rfl rfl) rfl ?_
      refine d_yield rfl rfl rfl (y_val tok rfl) rfl ?_
      refine d_yield rfl rfl rfl (y_val tok rfl) rfl ?_
      refine d_yield rfl rfl rfl (y_val tok rfl) rfl ?_
      refine d_yield rfl rfl rfl (y_val tok rfl) rfl ?_
      have hlt_x := lt_of_at h_x
      refine d_yield rfl rfl rfl (y_idx tok rfl (fun hg => hs.sl) (fun hg => ⟨by omega, by omega⟩)) rfl ?_
      refine d_yield rfl rfl rfl (y_fel tok rfl (fun hg => hs.sl) (fun hg => by omega)) rfl ?_
      refine d_yield rfl rfl rfl (y_lel tok (i) 0 (x) rfl (fun hg => hs) (fun hg => h_x) rfl rfl) rfl ?_
      refine d_yield rfl rfl rfl (y_val tok rfl) rfl ?_
      refine d_yield rfl rfl rfl (y_val tok rfl) rfl ?_
      refine d_yield rfl rfl rfl (y_val tok rfl) rfl ?_
      refine d_yield rfl rfl rfl (y_val tok rfl) rfl ?_
      refine d_yield rfl rfl rfl (y_val tok rfl) rfl ?_
      refine d_yield rfl rfl rfl (y_val tok rfl) rfl ?_
      refine d_yield rfl rfl rfl (y_val tok rfl) rfl ?_
      refine d_yield rfl rfl rfl (y_val tok rfl) rfl ?_
      refine d_yield rfl rfl rfl (y_val tok rfl) rfl ?_
      refine d_yield rfl rfl rfl (y_val tok rfl) rfl ?_
      have hlt_x := lt_of_at h_x
      refine d_yield rfl rfl rfl (y_idx tok rfl (fun hg => hs.sl) (fun hg => ⟨by omega, by omega⟩)) rfl ?_
      refine d_yield rfl rfl rfl (y_fel tok rfl (fun hg => hs.sl) (fun hg => by omega)) rfl ?_
      refine d_yield rfl rfl rfl (y_lel tok (i) 0 (x) rfl (fun hg => hs) (fun hg => h_x) rfl rfl) rfl ?_
      refine d_yield rfl rfl rfl (y_val tok rfl) rfl ?_
      refine d_yield rfl rfl rfl (y_val tok rfl) rfl ?_
      refine d_yield rfl rfl rfl (y_val tok rfl) rfl ?_
      refine d_yield rfl rfl rfl (y_idxK tok ((i - 1) * 2) rfl (by rw [wrapI (by omega) (by omega)]; dsimp only; omega) (fun hg => hs.sl) (fun hg => by simp at hg; rw [wrapI (by omega) (by omega)]; omega)) rfl ?_
      refine d_yield rfl rfl rfl (y_fel tok rfl (fun hg => hs.sl) (fun hg => by omega)) rfl ?_
      refine d_yield rfl rfl rfl (y_lel tok (i - 1) 0 (blkAt l (i - 1)) rfl (fun hg => hs) (fun hg => by rw [blkAt, List.getD, List.getElem?_eq_getElem (by omega)]; rfl) rfl rfl) rfl ?_
      refine d_yield rfl rfl rfl (y_val tok rfl) rfl ?_
      refine d_yield rfl rfl rfl (y_val tok rfl) rfl ?_
      refine d_yield rfl rfl rfl (y_val tok rfl) rfl ?_
      refine d_yield rfl rfl rfl (y_val tok rfl) rfl ?_
      refine d_yield rfl rfl rfl (y_val tok rfl) rfl ?_
      refine d_yield rfl rfl rfl (y_val tok rfl) rfl ?_
      have hwp : IntKind.i64.wrap (g.per * 256) = g.per * 256 := wrapI (by omega) (by omega)
      have hlt_x := lt_of_at h_x
      refine d_yield rfl rfl rfl (y_idx tok rfl (fun hg => hs.sl) (fun hg => ⟨by omega, by omega⟩)) rfl ?_
      refine d_yield rfl rfl rfl (y_fel tok rfl (fun hg => hs.sl) (fun hg => by omega)) rfl ?_
      refine d_yield rfl rfl rfl (y_lel tok (i) 1 (x) rfl (fun hg => hs) (fun hg => h_x) rfl rfl) rfl ?_
      refine d_yield rfl rfl rfl (y_val tok rfl) rfl ?_
      refine d_yield rfl rfl rfl (y_val tok rfl) rfl ?_
      refine d_yield rfl rfl rfl (y_val tok rfl) rfl ?_
      refine d_yield rfl rfl rfl (y_val tok rfl) rfl ?_
      refine d_yield rfl rfl rfl (y_val tok rfl) rfl ?_
      refine d_yield rfl rfl rfl (y_val tok rfl) rfl ?_
      refine d_end [1, 2, 5, 60] rfl ?_
      refine x_then ?_
      refine c_cond rfl (fun h => ?_) (fun h => ?_)
      ·
        simp only [Bool.and_eq_true, Bool.or_eq_true, Bool.not_eq_true', Bool.or_eq_false_iff, Bool.and_eq_false_iff, decide_eq_true_eq, decide_eq_false_iff_not, beq_iff_eq, bne_iff_ne, Bool.not_eq_false', beq_eq_false_iff_ne, bne_eq_false_iff_eq, ne_eq, Decidable.not_not, Int.not_lt, Int.not_le] at h
        refine c_seq ?_
        refine c_region ?_
        refine o_yield rfl rfl rfl (y_val tok rfl) ?_
        refine o_end [4] rfl ?_
        refine x_then ?_
        refine c_ret ?_
        refine x_block_ret ?_
        refine x_then_ret ?_
        refine x_then_ret ?_
        refine x_block_ret ?_
        refine x_then_ret ?_
        refine b_ret tok rfl ?_
        have hno : mayF g (lastN l i) (x :: l.drop (i + 1)) = false := by
          rw [Bool.eq_false_iff]
          intro hc
          obtain ⟨⟨h1, h2, h3⟩, _⟩ := mayF_cons.1 hc
          omega
        intro E w' hm _
        refine ⟨?_, hm.below (Vw.le.refl _)⟩
        rw [hmL, heq, hno]; rfl
      ·
        simp only [Bool.and_eq_true, Bool.or_eq_true, Bool.not_eq_true', Bool.or_eq_false_iff, Bool.and_eq_false_iff, decide_eq_true_eq, decide_eq_false_iff_not, beq_iff_eq, bne_iff_ne, Bool.not_eq_false', beq_eq_false_iff_ne, bne_eq_false_iff_eq, ne_eq, Decidable.not_not, Int.not_lt, Int.not_le] at h
        refine c_skip ?_
        refine x_block ?_
        refine x_then ?_
        refine c_region ?_
        refine o_yield rfl rfl rfl (y_val tok rfl) ?_
        refine o_yield rfl rfl rfl (y_val tok rfl) ?_
        refine o_yield rfl rfl rfl (y_val tok rfl) ?_
        refine o_end [1, 2, 5] rfl ?_
        refine x_then ?_
        have hyes : mayF g (lastN l i) (x :: l.drop (i + 1)) = mayF g x.n (l.drop (i + 1)) := by
          rw [mayF, decide_eq_true (by omega), Bool.true_and]
        rw [wrapI (n := (i : Int) + 1) (by omega) (by omega)]
        refine x_round (i + 1) (⟨by omega, by rw [heq, hyes, lastN_succ h_x], by rw [lastN_succ h_x]; omega⟩) (by first | omega | (dsimp only; omega)) (by repeat (first | exact SubF.nil | refine SubF.cons rfl ?_)) (by repeat (first | exact SubO.nil | refine SubO.cons rfl ?_)) rfl (Vw.le.refl _)
    ·
      simp only [Bool.and_eq_true, Bool.or_eq_true, Bool.not_eq_true', Bool.or_eq_false_iff, Bool.and_eq_false_iff, decide_eq_true_eq, decide_eq_false_iff_not, beq_iff_eq, bne_iff_ne, Bool.not_eq_false', beq_eq_false_iff_ne, bne_eq_false_iff_eq, ne_eq, Decidable.not_not, Int.not_lt, Int.not_le] at h
      refine c_exit ?_
      refine x_then_exit ?_
      refine x_then_exit ?_
      refine x_block_hit ?_
      refine x_then ?_
      refine c_seq ?_
      refine c_region ?_
      refine o_yield rfl rfl rfl (y_val tok rfl) ?_
      refine o_end [4] rfl ?_
      refine x_then ?_
      refine c_ret ?_
      refine b_ret tok rfl ?_
      have hkL : i = l.length := by omega
      subst hkL
      rw [List.drop_length, mayF] at heq
      intro E w' hm _
      refine ⟨?_, hm.below (Vw.le.refl _)⟩
      rw [hmL, heq]; rfl

theorem mayF_at {g : Geo} : ∀ {l : List Block} {last : Int}, mayF g last l = true → ∀ i b, l[i]? = some b → (if i = 0 then last else (blkAt l (i - 1)).n) < b.n ∧ b.n < g.blocks ∧ (b.text.size : Int) ≤ g.per * 256 ∧ last < b.n ∧ last + i < b.n
  | [], _, _, i, b, hb => by simp at hb
  | x :: r, last, h, 0, b, hb => by
    obtain ⟨⟨h1, h2, h3⟩, _⟩ := mayF_cons.1 h
    simp at hb
    subst hb
    exact ⟨by simpa using h1, h2, h3, h1, by omega⟩
  | x :: r, last, h, i + 1, b, hb => by
    obtain ⟨⟨h1, h2, h3⟩, h4⟩ := mayF_cons.1 h
    simp only [List.getElem?_cons_succ] at hb
    obtain ⟨k1, k2, k3, k4, k5⟩ := mayF_at h4 i b hb
    refine ⟨?_, k2, k3, by omega, by omega⟩
    rw [if_neg (by omega), show i + 1 - 1 = i by omega]
    cases i with
    | zero => simpa [blkAt] using k1
    | succ j =>
      rw [if_neg (by omega), show j + 1 - 1 = j by omega] at k1
      simpa [blkAt, List.getD] using k1

theorem mayL_len {g : Geo} {l : List Block} (h : mayL g l = true) : (l.length : Int) ≤ g.blocks := by
  rw [mayL, Bool.and_eq_true] at h
  have hf := geo_facts h.1
  cases hl : l.length with
  | zero => omega
  | succ k =>
    obtain ⟨b, hb⟩ : ∃ b, l[k]? = some b := ⟨l[k]'(by omega), by simp [hl]⟩
    obtain ⟨_, h2, _, _, h5⟩ := mayF_at h.2 k b hb
    omega

theorem of_ok {g : Geo} {key lsn : Int} {l : List Block} (hm : mayL g l = true) (hne : l ≠ []) (hk : keyB key = true) (h0 : 0 ≤ lsn) (h1 : lsn + (l.length * g.per.toNat : Nat) ≤ 1099511627776) (h2 : l.length * g.per.toNat < 64) : OfOk g key lsn l := by
  have hlen := mayL_len hm
  rw [mayL, Bool.and_eq_true] at hm
  have hf := geo_facts hm.1
  have hat := mayF_at hm.2
  refine ⟨hm.1, hne, hlen, ?_, fun i b hb => ?_, fun j hj => ?_, ?_⟩
  · simp only [belowB, Bool.and_eq_true, decide_eq_true_eq]; omega
  · obtain ⟨k1, k2, k3, _, _⟩ := hat i b hb
    refine ⟨?_, k2, k3⟩
    cases i with
    | zero => simpa [lastN] using k1
    | succ j => simpa [lastN] using k1
  · have hp : 0 < g.per.toNat := by omega
    have hd : j / g.per.toNat < l.length := (Nat.div_lt_iff_lt_mul hp).2 hj
    have hmod := Nat.mod_lt j hp
    obtain ⟨b, hb⟩ : ∃ b, l[j / g.per.toNat]? = some b := ⟨l[j / g.per.toNat], by simp [hd]⟩
    obtain ⟨_, k2, _, k4, _⟩ := hat _ b hb
    have hh := head_size (restAt b.text (j % g.per.toNat))
    simp only [recAt, blkAt_eq hb, recB, hk, Bool.true_and, belowB, if_neg (show ¬ (0 : Int) < 0 by omega), Bool.and_eq_true, decide_eq_true_eq]
    omega
  · have hp : 0 < l.length * g.per.toNat := Nat.mul_pos (List.length_pos_iff.2 hne) (by omega)
    obtain ⟨m, hmm⟩ : ∃ m, l.length * g.per.toNat = m := ⟨_, rfl⟩
    rw [hmm] at hp h1 h2 ⊢
    have e : recB (commitOf key lsn m) = (keyB key && belowB (lsn + m) 1099511627777 && belowB m 64 && (if 0 < (m : Int) then decide ((0 : Int) = 0) && decide ((0 : Int) = 0) && (ByteArray.empty.size == 0) else belowB 0 64 && belowB 0 8 && decide ((ByteArray.empty.size : Int) ≤ 256))) := rfl
    rw [e, hk, if_pos (by omega), belowB, belowB, decide_eq_true (show 0 ≤ lsn + (m : Int) by omega), decide_eq_true (show lsn + (m : Int) < 1099511627777 by omega), decide_eq_true (show (0 : Int) ≤ (m : Int) by omega), decide_eq_true (show (m : Int) < 64 by omega)]
    rfl
end Go.Proofs.Ytanekcndpkagiaa

/- A transaction that is committed: the program's. -/
set_option linter.unusedVariables false
set_option linter.unusedSimpArgs false
set_option maxRecDepth 100000
namespace Go.Proofs.Ytanekcndpkagiaa
open Go Go.Eng Go.RowKit

/-- What the device is asked. -/
structure ActV where
  kind : Int
  sector : Int
  b : ByteArray
  key : Int
abbrev ActV.val (a : ActV) : Value := .agg #[I8 a.kind, I a.sector, S a.b, I a.key]
abbrev act0 : ActV := ⟨0, 0, ByteArray.empty, 0⟩

abbrev putV (v : Value) (i : Int) : Value := .agg #[v, I i]

theorem fits_low {g : Geo} {used n : Int} (h : fitsV g used n = 0) : geoB g = true ∧ 0 ≤ used ∧ used ≤ g.journal ∧ 0 ≤ n ∧ manyOf g n + used ≤ g.journal := by
  unfold fitsV at h
  split at h
  · omega
  · rename_i h1
    split at h
    · omega
    · split at h
      · omega
      · cases hg : geoB g with
        | false => simp [hg] at h1
        | true => simp [hg] at h1; exact ⟨rfl, by omega, by omega, by omega, by omega⟩

/-- record.Of: its rows, or none. -/
def OfRes (g : Geo) (key lsn : Int) (l : List Block) (x : List Record × Int) : Prop := (OfOk g key lsn l ∧ x.1 = allRecs g key lsn l ∧ x.2 = 0) ∨ (¬ OfOk g key lsn l ∧ x.1 = [] ∧ x.2 = 2)

section
variable {o : Oper} {n : Nat} {F : Frame0} {C : List Nat} {O : Own} {nl : Nat} {V : Vw}
theorem s_of {p : List (Nat × Bool)} (g : Geo) (ok : g.Ok) (key lsn : Int) (l : List Block) {ss : List SV} (hv : evalC F p o.op = some (96, ss)) (hn : l.length ≤ lim)
    (hargs : ∀ E w, Mem E O nl V w → ∃ sv, ss.map (SV.den E) = [g.val, I key, I lsn, sv] ∧ SlOf (vw w) Block.cells 2 sv l) :
    StepTo Try.prog o p n F C O nl V (σ := List Record × Int) (OfRes g key lsn l) (fun x => .tup [.row nl, .v (I x.2)]) (fun x => (nl, .row 70 6 x.1.length (x.1.flatMap Record.cells)) :: O) (nl + 1) (fun _ => V) := by
  refine s_callR (OfRes g key lsn l) (fun x => .tup [.row nl, .v (I x.2)]) 70 6 (fun x => x.1.length) (fun x => x.1.flatMap Record.cells) hv fnok96 (fun _ => by simp [SV.ok, allOk, A.ok, blt_iff]) ?_
  intro E w hm
  obtain ⟨sv, ha, hsl⟩ := hargs E w hm
  rw [ha]
  refine (of_c (vw w) g ok key lsn sv l w (Vw.le.refl _) hsl hn).mono ?_
  rintro e w' ⟨⟨h1, v, rfl, hown⟩ | ⟨h1, rfl⟩, hb⟩
  · exact ⟨(allRecs g key lsn l, 0), v, by simp [SV.den, A.den, Env.setκ], hown, hb, .inl ⟨h1, rfl, rfl⟩⟩
  · exact ⟨([], 2), .slice none 0 0, by simp [SV.den, A.den, Env.setκ], World.ownsRow_nil w' w.heap.size _ _, hb, .inr ⟨h1, rfl, rfl⟩⟩
end

/-- What beginning to commit comes to. -/
def BegRes (g : Geo) (key head tail : Int) (l : List Block) (L : List Record) (e : Int) : Prop :=
  (fitsV g (IntKind.i64.wrap (head - tail)) l.length ≠ 0 ∧ L = [] ∧ e = fitsV g (IntKind.i64.wrap (head - tail)) l.length) ∨
  (fitsV g (IntKind.i64.wrap (head - tail)) l.length = 0 ∧ OfRes g key head l (L, e))

theorem cbegin_R (V : Vw) (g : Geo) (ok : g.Ok) (key head tail : Int) (sv : Value) (l : List Block) (w : World) (hV : V.le (vw w)) (hs0 : SlOf V Block.cells 2 sv l) (hn : l.length ≤ lim) :
    Calls Try.prog 34 #[g.val, I key, I head, I tail, sv] w fun e w' => ∃ v L ec, e = .returned (.tuple #[putV v 0, I ec]) ∧ w'.ownsRow w.heap.size 70 6 v L.length (L.flatMap Record.cells) ∧ Below w.heap.size w w' ∧ BegRes g key head tail l L ec := by
  have hs := hs0.mono hV
  refine enter (E := E0) (O := []) (nl := 0) (V := vw w) [.a (.v g.val), .a (.v (I key)), .a (.v (I head)), .a (.v (I tail)), .a (.v sv)] Try.func34 rfl rfl (mem0 E0 0 w) rfl rfl ?_
  refine c_seq ?_
  refine c_region ?_
  refine o_new tok rfl rfl rfl rfl ?_
  refine o_new tok rfl rfl rfl rfl ?_
  refine o_yield rfl rfl rfl (y_val tok rfl) ?_
  refine o_end [1, 2, 3, 4, 5, 10] rfl ?_
  refine x_then ?_
  refine c_seq ?_
  refine c_seq ?_
  refine c_region ?_
  refine o_yield rfl rfl rfl (y_val tok rfl) ?_
  refine o_yield rfl rfl rfl (y_val tok rfl) ?_
  refine o_yield rfl rfl rfl (y_val tok rfl) ?_
  refine o_yield rfl rfl rfl (y_val tok rfl) ?_
  refine o_yield rfl rfl rfl (y_val tok rfl) ?_
  refine o_yield rfl rfl rfl (y_len tok rfl (fun hg => hs.sl)) ?_
  refine o_call (.a (.v _)) rfl rfl fnok18 rfl rfl rfl (fun hg E w1 hm => by exact fits_c g ok _ _ _) ?_
  refine o_yield rfl rfl rfl (y_val tok rfl) ?_
  refine o_end [1, 2, 4, 5, 10, 12] rfl ?_
  refine x_then ?_
  refine c_seq ?_
  refine c_region ?_
  refine o_yield rfl rfl rfl (y_val tok rfl) ?_
  refine o_yield rfl rfl rfl (y_val tok rfl) ?_
  refine o_end [1, 2, 4, 5, 10, 12, 23] rfl ?_
  refine x_then ?_
  refine c_cond rfl (fun h => ?_) (fun h => ?_)
  ·
    simp only [Bool.and_eq_true, Bool.or_eq_true, Bool.not_eq_true', Bool.or_eq_false_iff, Bool.and_eq_false_iff, decide_eq_true_eq, decide_eq_false_iff_not, beq_iff_eq, bne_iff_ne, Bool.not_eq_false', beq_eq_false_iff_ne, bne_eq_false_iff_eq, ne_eq, Decidable.not_not, Int.not_lt, Int.not_le] at h
    refine c_seq ?_
    refine c_region ?_
    refine o_yield rfl rfl rfl (y_val tok rfl) ?_
    refine o_yield rfl rfl rfl (y_val tok rfl) ?_
    refine o_store tok rfl rfl rfl (by first | exact ⟨trivial, trivial⟩ | simp [onesP, oneP, lk, Value.oneCell']) ?_
    refine o_yield rfl rfl rfl (y_val tok rfl) ?_
    refine o_end [10, 11] rfl ?_
    refine x_then ?_
    refine c_ret ?_
    refine x_then_ret ?_
    refine b_ret tok rfl ?_
    intro E w' hm _
    exact ⟨_, [], _, rfl, World.ownsRow_nil w' w.heap.size _ _, hm.below (Vw.le.refl _), .inl ⟨h, rfl, rfl⟩⟩
  ·
    simp only [Bool.and_eq_true, Bool.or_eq_true, Bool.not_eq_true', Bool.or_eq_false_iff, Bool.and_eq_false_iff, decide_eq_true_eq, decide_eq_false_iff_not, beq_iff_eq, bne_iff_ne, Bool.not_eq_false', beq_eq_false_iff_ne, bne_eq_false_iff_eq, ne_eq, Decidable.not_not, Int.not_lt, Int.not_le] at h
    have h0 := h
    clear h
    refine c_skip ?_
    refine x_then ?_
    refine c_seq ?_
    refine c_region ?_
    refine o_yield rfl rfl rfl (y_val tok rfl) ?_
    refine o_yield rfl rfl rfl (y_val tok rfl) ?_
    refine o_yield rfl rfl rfl (y_val tok rfl) ?_
    refine o_yield rfl rfl rfl (y_val tok rfl) ?_
    refine o_step rfl rfl rfl rfl rfl (s_of g ok key head l rfl hn (fun E w1 hm => ⟨sv, rfl, hs.mono hm.leV⟩)) (fun x hx => ?_)
    obtain ⟨L, ec⟩ := x
    refine o_yield rfl rfl rfl (y_val tok rfl) ?_
    refine o_yield rfl rfl rfl (y_val tok rfl) ?_
    refine o_yield rfl rfl rfl (y_val tok rfl) ?_
    refine o_yield rfl rfl rfl (y_val tok rfl) ?_
    refine o_yield rfl rfl rfl (y_val tok rfl) ?_
    refine o_end [10, 13, 14] rfl ?_
    refine x_then ?_
    refine c_seq ?_
    refine c_seq ?_
    refine c_region ?_
    refine o_yield rfl rfl rfl (y_val tok rfl) ?_
    refine o_yield rfl rfl rfl (y_val tok rfl) ?_
    refine o_end [10, 13, 14, 35] rfl ?_
    refine x_then ?_
    refine c_cond rfl (fun h => ?_) (fun h => ?_)
    ·
      simp only [Bool.and_eq_true, Bool.or_eq_true, Bool.not_eq_true', Bool.or_eq_false_iff, Bool.and_eq_false_iff, decide_eq_true_eq, decide_eq_false_iff_not, beq_iff_eq, bne_iff_ne, Bool.not_eq_false', beq_eq_false_iff_ne, bne_eq_false_iff_eq, ne_eq, Decidable.not_not, Int.not_lt, Int.not_le] at h
      refine c_seq ?_
      refine c_region ?_
      refine o_yield rfl rfl rfl (y_val tok rfl) ?_
      refine o_yield rfl rfl rfl (y_val tok rfl) ?_
      refine o_store tok rfl rfl rfl (by first | exact ⟨trivial, trivial⟩ | simp [onesP, oneP, lk, Value.oneCell']) ?_
      refine o_yield rfl rfl rfl (y_val tok rfl) ?_
      refine o_end [10, 11] rfl ?_
      refine x_then ?_
      refine c_ret ?_
      refine x_then_ret ?_
      refine b_ret tok rfl ?_
      rcases hx with ⟨_, _, h2⟩ | ⟨h1, h2, h3⟩
      · exact absurd h2 h
      · simp only at h2 h3
        subst h2 h3
        intro E w' hm _
        exact ⟨_, [], 2, rfl, World.ownsRow_nil w' w.heap.size _ _, hm.below (Vw.le.refl _), .inr ⟨h0, .inr ⟨h1, rfl, rfl⟩⟩⟩
    ·
      simp only [Bool.and_eq_true, Bool.or_eq_true, Bool.not_eq_true', Bool.or_eq_false_iff, Bool.and_eq_false_iff, decide_eq_true_eq, decide_eq_false_iff_not, beq_iff_eq, bne_iff_ne, Bool.not_eq_false', beq_eq_false_iff_ne, bne_eq_false_iff_eq, ne_eq, Decidable.not_not, Int.not_lt, Int.not_le] at h
      refine c_skip ?_
      refine x_then ?_
      refine c_seq ?_
      refine c_region ?_
      refine o_yield rfl rfl rfl (y_val tok rfl) ?_
      refine o_yield rfl rfl rfl (y_val tok rfl) ?_
      refine o_store tok rfl rfl rfl (by first | exact ⟨trivial, trivial⟩ | simp [onesP, oneP, lk, Value.oneCell']) ?_
      refine o_yield rfl rfl rfl (y_val tok rfl) ?_
      refine o_end [10, 11] rfl ?_
      refine x_then ?_
      refine c_ret ?_
      refine b_ret tok rfl ?_
      intro E w' hm _
      refine ⟨E.κ 2, L, 0, rfl, hm.rowFresh (Vw.le.refl _) (l := 2) rfl, hm.below (Vw.le.refl _), .inr ⟨h0, ?_⟩⟩
      subst h
      exact hx

theorem cbegin_cV (V : Vw) (g : Geo) (ok : g.Ok) (key head tail : Int) (sv : Value) (l : List Block) (w : World) (hV : V.le (vw w)) (hs : SlOf V Block.cells 2 sv l) (hn : l.length ≤ lim) :
    Calls Try.prog 34 #[g.val, I key, I head, I tail, sv] w fun e w' => ∃ x V', e = .returned x ∧ Below w.heap.size w w' ∧ Vext w.heap.size V V' w' ∧
      ∃ a n c L ec, x = .tuple #[putV (.slice a n c) 0, I ec] ∧ SlOf V' Record.cells 6 (.slice a n c) L ∧ BegRes g key head tail l L ec := by
  refine (cbegin_R V g ok key head tail sv l w hV hs hn).mono ?_
  rintro e w' ⟨v, L, ec, rfl, hown, hb, hr⟩
  obtain ⟨V', hx, hsl⟩ := ownsRow_vext hV hb hown
  obtain ⟨a, n, c, rfl⟩ := sl_shape hsl
  exact ⟨_, V', rfl, hb, hx, a, n, c, L, ec, rfl, ⟨hsl, fun _ => rfl⟩, hr⟩


theorem over_c (V : Vw) (v : Value) (L : List Record) (i : Int) (w : World) (hV : V.le (vw w)) (hs0 : SlOf V Record.cells 6 v L) :
    Calls Try.prog 37 #[putV v i] w fun e w' => e = .returned (.bool (decide ((L.length : Int) ≤ i))) ∧ Below w.heap.size w w' := by
  obtain ⟨a, n, c, rfl⟩ := sl_shape hs0.sl
  have hs := hs0.mono hV
  refine enter (E := E0) (O := []) (nl := 0) (V := vw w) [.a (.v (putV (.slice a n c) i))] Try.func37 rfl rfl (mem0 E0 0 w) rfl rfl ?_
  refine c_seq ?_
  refine c_region ?_
  refine o_new tok rfl rfl rfl rfl ?_
  refine o_yield rfl rfl rfl (y_val tok rfl) ?_
  refine o_end [1] rfl ?_
  refine x_then ?_
  refine c_seq ?_
  refine c_region ?_
  refine o_yield rfl rfl rfl (y_val tok rfl) ?_
  refine o_yield rfl rfl rfl (y_val tok rfl) ?_
  refine o_yield rfl rfl rfl (y_val tok rfl) ?_
  refine o_yield rfl rfl rfl (y_val tok rfl) ?_
  refine o_yield rfl rfl rfl (y_len tok rfl (fun hg => hs.sl)) ?_
  refine o_yield rfl rfl rfl (y_val tok rfl) ?_
  refine o_yield rfl rfl rfl (y_val tok rfl) ?_
  refine o_end [2] rfl ?_
  refine x_then ?_
  refine c_ret ?_
  refine b_ret tok rfl ?_
  intro E w' hm _
  refine ⟨?_, hm.below (Vw.le.refl _)⟩
  rfl

def leftV (n i : Int) : Int := max 0 (n - max i 0)

theorem leftIn_c (V : Vw) (v : Value) (L : List Record) (i : Int) (hi : R64 i) (w : World) (hV : V.le (vw w)) (hs0 : SlOf V Record.cells 6 v L) (hn : L.length ≤ lim) :
    Calls Try.prog 100 #[putV v i] w fun e w' => e = .returned (I (leftV L.length i)) ∧ Below w.heap.size w w' := by
  obtain ⟨a, n, c, rfl⟩ := sl_shape hs0.sl
  have hs := hs0.mono hV
  simp only [lim] at hn
  unfold R64 at hi
  refine enter (E := E0) (O := []) (nl := 0) (V := vw w) [.a (.v (putV (.slice a n c) i))] Try.func100 rfl rfl (mem0 E0 0 w) rfl rfl ?_
  refine c_seq ?_
  refine c_region ?_
  refine o_new tok rfl rfl rfl rfl ?_
  refine o_yield rfl rfl rfl (y_val tok rfl) ?_
  refine o_end [1] rfl ?_
  refine x_then ?_
  refine c_seq ?_
  refine c_region ?_
  refine o_yield rfl rfl rfl (y_val tok rfl) ?_
  refine o_yield rfl rfl rfl (y_val tok rfl) ?_
  refine o_yield rfl rfl rfl (y_val tok rfl) ?_
  refine o_yield rfl rfl rfl (y_len tok rfl (fun hg => hs.sl)) ?_
  refine o_yield rfl rfl rfl (y_val tok rfl) ?_
  refine o_yield rfl rfl rfl (y_val tok rfl) ?_
  refine o_yield rfl rfl rfl (y_val tok rfl) ?_
  refine o_yield rfl rfl rfl (y_mm rfl) ?_
  refine o_yield rfl rfl rfl (y_val tok rfl) ?_
  refine o_yield rfl rfl rfl (y_mm rfl) ?_
  refine o_yield rfl rfl rfl (y_val tok rfl) ?_
  refine o_end [2] rfl ?_
  refine x_then ?_
  refine c_ret ?_
  refine b_ret tok rfl ?_
  intro E w' hm _
  refine ⟨?_, hm.below (Vw.le.refl _)⟩
  show Ending.returned (I (max 0 (IntKind.i64.wrap ((L.length : Int) - max i 0)))) = _
  rw [wrapI (by omega) (by omega)]; rfl

theorem left_c (V : Vw) (v : Value) (L : List Record) (i : Int) (hi : R64 i) (w : World) (hV : V.le (vw w)) (hs0 : SlOf V Record.cells 6 v L) (hn : L.length ≤ lim) :
    Calls Try.prog 39 #[putV v i] w fun e w' => e = .returned (I (leftV L.length i)) ∧ Below w.heap.size w w' := by
  obtain ⟨a, n, c, rfl⟩ := sl_shape hs0.sl
  have hs := hs0.mono hV
  refine enter (E := E0) (O := []) (nl := 0) (V := vw w) [.a (.v (putV (.slice a n c) i))] Try.func39 rfl rfl (mem0 E0 0 w) rfl rfl ?_
  refine c_seq ?_
  refine c_region ?_
  refine o_new tok rfl rfl rfl rfl ?_
  refine o_yield rfl rfl rfl (y_val tok rfl) ?_
  refine o_end [1] rfl ?_
  refine x_then ?_
  refine c_seq ?_
  refine c_region ?_
  refine o_yield rfl rfl rfl (y_val tok rfl) ?_
  refine o_yield rfl rfl rfl (y_val tok rfl) ?_
  refine o_call (.a (.v _)) rfl rfl fnok100 rfl rfl rfl (fun hg E w1 hm => by exact leftIn_c _ _ L i hi _ hm.leV hs hn) ?_
  refine o_yield rfl rfl rfl (y_val tok rfl) ?_
  refine o_end [2] rfl ?_
  refine x_then ?_
  refine c_ret ?_
  refine b_ret tok rfl ?_
  intro E w' hm _
  refine ⟨?_, hm.below (Vw.le.refl _)⟩
  rfl

theorem chead_c (V : Vw) (v : Value) (L : List Record) (i k : Int) (w : World) (hV : V.le (vw w)) (hs0 : SlOf V Record.cells 6 v L) :
    Calls Try.prog 41 #[putV v i, I k] w fun e w' => e = .returned (I (IntKind.i64.wrap (k + L.length))) ∧ Below w.heap.size w w' := by
  obtain ⟨a, n, c, rfl⟩ := sl_shape hs0.sl
  have hs := hs0.mono hV
  refine enter (E := E0) (O := []) (nl := 0) (V := vw w) [.a (.v (putV (.slice a n c) i)), .a (.v (I k))] Try.func41 rfl rfl (mem0 E0 0 w) rfl rfl ?_
  refine c_seq ?_
  refine c_region ?_
  refine o_new tok rfl rfl rfl rfl ?_
  refine o_yield rfl rfl rfl (y_val tok rfl) ?_
  refine o_end [1, 2] rfl ?_
  refine x_then ?_
  refine c_seq ?_
  refine c_region ?_
  refine o_yield rfl rfl rfl (y_val tok rfl) ?_
  refine o_yield rfl rfl rfl (y_val tok rfl) ?_
  refine o_yield rfl rfl rfl (y_val tok rfl) ?_
  refine o_yield rfl rfl rfl (y_len tok rfl (fun hg => hs.sl)) ?_
  refine o_yield rfl rfl rfl (y_val tok rfl) ?_
  refine o_yield rfl rfl rfl (y_val tok rfl) ?_
  refine o_end [4] rfl ?_
  refine x_then ?_
  refine c_ret ?_
  refine b_ret tok rfl ?_
  intro E w' hm _
  refine ⟨?_, hm.below (Vw.le.refl _)⟩
  rfl

def takeI (n i : Int) : Int := if n ≤ i then i else IntKind.i64.wrap (i + 1)

theorem take_c (V : Vw) (v : Value) (L : List Record) (i : Int) (w : World) (hV : V.le (vw w)) (hs0 : SlOf V Record.cells 6 v L) :
    Calls Try.prog 45 #[putV v i] w fun e w' => e = .returned (putV v (takeI L.length i)) ∧ Below w.heap.size w w' := by
  obtain ⟨a, n, c, rfl⟩ := sl_shape hs0.sl
  have hs := hs0.mono hV
  refine enter (E := E0) (O := []) (nl := 0) (V := vw w) [.a (.v (putV (.slice a n c) i))] Try.func45 rfl rfl (mem0 E0 0 w) rfl rfl ?_
  refine c_seq ?_
  refine c_region ?_
  refine o_new tok rfl rfl rfl rfl ?_
  refine o_new tok rfl rfl rfl rfl ?_
  refine o_end [1, 2] rfl ?_
  refine x_then ?_
  refine c_seq ?_
  refine c_seq ?_
  refine c_region ?_
  refine o_yield rfl rfl rfl (y_val tok rfl) ?_
  refine o_call (.a (.v _)) rfl rfl fnok37 rfl rfl rfl (fun hg E w1 hm => by exact over_c _ _ L i _ hm.leV hs) ?_
  refine o_yield rfl rfl rfl (y_val tok rfl) ?_
  refine o_end [1, 2, 5] rfl ?_
  refine x_then ?_
  refine c_cond rfl (fun h => ?_) (fun h => ?_)
  ·
    simp only [Bool.and_eq_true, Bool.or_eq_true, Bool.not_eq_true', Bool.or_eq_false_iff, Bool.and_eq_false_iff, decide_eq_true_eq, decide_eq_false_iff_not, beq_iff_eq, bne_iff_ne, Bool.not_eq_false', beq_eq_false_iff_ne, bne_eq_false_iff_eq, ne_eq, Decidable.not_not, Int.not_lt, Int.not_le] at h
    refine c_region ?_
    refine o_yield rfl rfl rfl (y_val tok rfl) ?_
    refine o_yield rfl rfl rfl (y_val tok rfl) ?_
    refine o_yield rfl rfl rfl (y_val tok rfl) ?_
    refine o_yield rfl rfl rfl (y_val tok rfl) ?_
    refine o_store tok rfl rfl rfl (by first | exact ⟨trivial, trivial⟩ | simp [onesP, oneP, lk, Value.oneCell']) ?_
    refine o_end [1, 2] rfl ?_
    refine x_then ?_
    refine c_seq ?_
    refine c_region ?_
    refine o_yield rfl rfl rfl (y_val tok rfl) ?_
    refine o_store tok rfl rfl rfl (by first | exact ⟨trivial, trivial⟩ | simp [onesP, oneP, lk, Value.oneCell']) ?_
    refine o_end [2] rfl ?_
    refine x_then ?_
    refine c_ret ?_
    refine b_ret tok rfl ?_
    intro E w' hm _
    refine ⟨?_, hm.below (Vw.le.refl _)⟩
    rw [takeI, if_neg (by omega)]; rfl
  ·
    simp only [Bool.and_eq_true, Bool.or_eq_true, Bool.not_eq_true', Bool.or_eq_false_iff, Bool.and_eq_false_iff, decide_eq_true_eq, decide_eq_false_iff_not, beq_iff_eq, bne_iff_ne, Bool.not_eq_false', beq_eq_false_iff_ne, bne_eq_false_iff_eq, ne_eq, Decidable.not_not, Int.not_lt, Int.not_le] at h
    refine c_skip ?_
    refine x_then ?_
    refine c_seq ?_
    refine c_region ?_
    refine o_yield rfl rfl rfl (y_val tok rfl) ?_
    refine o_store tok rfl rfl rfl (by first | exact ⟨trivial, trivial⟩ | simp [onesP, oneP, lk, Value.oneCell']) ?_
    refine o_end [2] rfl ?_
    refine x_then ?_
    refine c_ret ?_
    refine b_ret tok rfl ?_
    intro E w' hm _
    refine ⟨?_, hm.below (Vw.le.refl _)⟩
    rw [takeI, if_pos (by omega)]; rfl

def rec0' : Record := ⟨0, 0, 0, 0, ByteArray.empty, 0⟩
def nextR (L : List Record) (i : Int) : Record := if i < 0 then rec0' else (L[i.toNat]?).getD rec0'

theorem next_c (V : Vw) (v : Value) (L : List Record) (i : Int) (w : World) (hV : V.le (vw w)) (hs0 : SlOf V Record.cells 6 v L) :
    Calls Try.prog 158 #[putV v i] w fun e w' => e = .returned (.tuple #[(nextR L i).val, .bool (decide (0 ≤ i ∧ i < L.length))]) ∧ Below w.heap.size w w' := by
  obtain ⟨a, n, c, rfl⟩ := sl_shape hs0.sl
  have hs := hs0.mono hV
  refine enter (E := E0) (O := []) (nl := 0) (V := vw w) [.a (.v (putV (.slice a n c) i))] Try.func158 rfl rfl (mem0 E0 0 w) rfl rfl ?_
  refine c_seq ?_
  refine c_region ?_
  refine o_new tok rfl rfl rfl rfl ?_
  refine o_new tok rfl rfl rfl rfl ?_
  refine o_yield rfl rfl rfl (y_val tok rfl) ?_
  refine o_end [1, 2] rfl ?_
  refine x_then ?_
  refine c_seq ?_
  refine c_seq ?_
  refine c_region ?_
  refine o_yield rfl rfl rfl (y_val tok rfl) ?_
  refine o_yield rfl rfl rfl (y_val tok rfl) ?_
  refine o_yield rfl rfl rfl (y_val tok rfl) ?_
  refine o_yield rfl rfl rfl (y_val tok rfl) ?_
  refine o_yield rfl rfl rfl (y_val tok rfl) ?_
  refine o_yield rfl rfl rfl (y_val tok rfl) ?_
  refine o_yield rfl rfl rfl (y_val tok rfl) ?_
  refine o_yield rfl rfl rfl (y_val tok rfl) ?_
  refine o_yield rfl rfl rfl (y_val tok rfl) ?_
  refine o_yield rfl rfl rfl (y_val tok rfl) ?_
  refine o_yield rfl rfl rfl (y_val tok rfl) ?_
  refine o_yield rfl rfl rfl (y_len tok rfl (fun hg => hs.sl)) ?_
  refine o_yield rfl rfl rfl (y_val tok rfl) ?_
  refine o_yield rfl rfl rfl (y_val tok rfl) ?_
  refine o_end [1, 2, 17] rfl ?_
  refine x_then ?_
  refine c_cond rfl (fun h => ?_) (fun h => ?_)
  ·
    simp only [Bool.and_eq_true, Bool.or_eq_true, Bool.not_eq_true', Bool.or_eq_false_iff, Bool.and_eq_false_iff, decide_eq_true_eq, decide_eq_false_iff_not, beq_iff_eq, bne_iff_ne, Bool.not_eq_false', beq_eq_false_iff_ne, bne_eq_false_iff_eq, ne_eq, Decidable.not_not, Int.not_lt, Int.not_le] at h
    refine c_seq ?_
    refine c_region ?_
    refine o_yield rfl rfl rfl (y_val tok rfl) ?_
    refine o_store tok rfl rfl rfl (by first | exact ⟨trivial, trivial⟩ | simp [onesP, oneP, lk, Value.oneCell']) ?_
    refine o_yield rfl rfl rfl (y_val tok rfl) ?_
    refine o_end [2, 3] rfl ?_
    refine x_then ?_
    refine c_ret ?_
    refine x_then_ret ?_
    refine b_ret tok rfl ?_
    have e1 : nextR L i = rec0' := by
      unfold nextR
      by_cases h0 : i < 0
      · rw [if_pos h0]
      · rw [if_neg h0, List.getElem?_eq_none (by omega)]; rfl
    intro E w' hm _
    refine ⟨?_, hm.below (Vw.le.refl _)⟩
    rw [e1, decide_eq_false (by omega)]; rfl
  ·
    simp only [Bool.and_eq_true, Bool.or_eq_true, Bool.not_eq_true', Bool.or_eq_false_iff, Bool.and_eq_false_iff, decide_eq_true_eq, decide_eq_false_iff_not, beq_iff_eq, bne_iff_ne, Bool.not_eq_false', beq_eq_false_iff_ne, bne_eq_false_iff_eq, ne_eq, Decidable.not_not, Int.not_lt, Int.not_le] at h
    obtain ⟨k, rfl⟩ : ∃ k : Nat, i = k := ⟨i.toNat, by omega⟩
    have h1 : k < L.length := by omega
    clear h
    refine c_skip ?_
    refine x_then ?_
    refine c_seq ?_
    refine c_region ?_
    refine o_yield rfl rfl rfl (y_val tok rfl) ?_
    refine o_yield rfl rfl rfl (y_val tok rfl) ?_
    refine o_yield rfl rfl rfl (y_val tok rfl) ?_
    refine o_yield rfl rfl rfl (y_val tok rfl) ?_
    refine o_yield rfl rfl rfl (y_val tok rfl) ?_
    refine o_yield rfl rfl rfl (y_val tok rfl) ?_
    obtain ⟨r, h_r⟩ := hs.at (k := k) (by omega)
    have hlt_r := lt_of_at h_r
    refine o_yield rfl rfl rfl (y_idx tok rfl (fun hg => hs.sl) (fun hg => ⟨by omega, by omega⟩)) ?_
    refine o_yield rfl rfl rfl (y_lel tok (k) 0 (r) rfl (fun hg => hs) (fun hg => h_r) rfl rfl) ?_
    refine o_store tok rfl rfl rfl (by first | exact ⟨trivial, trivial⟩ | simp [onesP, oneP, lk, Value.oneCell']) ?_
    refine o_yield rfl rfl rfl (y_val tok rfl) ?_
    refine o_end [2, 3] rfl ?_
    refine x_then ?_
    refine c_ret ?_
    refine b_ret tok rfl ?_
    have e1 : nextR L k = r := by
      unfold nextR
      rw [if_neg (by omega), Int.toNat_natCast, h_r]; rfl
    intro E w' hm _
    refine ⟨?_, hm.below (Vw.le.refl _)⟩
    rw [e1, decide_eq_true (by omega)]; rfl
end Go.Proofs.Ytanekcndpkagiaa
